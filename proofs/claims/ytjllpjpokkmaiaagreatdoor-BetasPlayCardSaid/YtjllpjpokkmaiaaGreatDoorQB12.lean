import Derived.Test.YtjllpjpokkmaiaaGreatDoorQB11
set_option linter.unusedSimpArgs false
set_option linter.unusedVariables false
namespace Go.SL.Fc
open Go Go.Proofs Go.SL
theorem a100:aggOf Tryz.prog 100=some none:=by kernel_rfl
theorem a170:aggOf Tryz.prog 170=some none:=by kernel_rfl
theorem a85:aggOf Tryz.prog 85=some none:=by kernel_rfl
theorem a87:aggOf Tryz.prog 87=some none:=by kernel_rfl
theorem a91:aggOf Tryz.prog 91=some none:=by kernel_rfl
theorem f112_0:fldOf Tryz.prog 112 0=some 0:=by kernel_rfl
theorem f112_2:fldOf Tryz.prog 112 2=some 2:=by kernel_rfl
theorem f89_1:fldOf Tryz.prog 89 1=some 1:=by kernel_rfl
theorem f89_2:fldOf Tryz.prog 89 2=some 2:=by kernel_rfl
theorem k119:callable Tryz.prog 119=true:=by kernel_rfl
theorem k120:callable Tryz.prog 120=true:=by kernel_rfl
theorem k122:callable Tryz.prog 122=true:=by kernel_rfl
theorem k135:callable Tryz.prog 135=true:=by kernel_rfl
theorem k136:callable Tryz.prog 136=true:=by kernel_rfl
theorem k138:callable Tryz.prog 138=true:=by kernel_rfl
theorem k139:callable Tryz.prog 139=true:=by kernel_rfl
theorem k183:callable Tryz.prog 183=true:=by kernel_rfl
theorem k184:callable Tryz.prog 184=true:=by kernel_rfl
theorem k185:callable Tryz.prog 185=true:=by kernel_rfl
theorem k194:callable Tryz.prog 194=true:=by kernel_rfl
theorem k195:callable Tryz.prog 195=true:=by kernel_rfl
theorem k204:callable Tryz.prog 204=true:=by kernel_rfl
theorem k205:callable Tryz.prog 205=true:=by kernel_rfl
theorem k210:callable Tryz.prog 210=true:=by kernel_rfl
theorem k219:callable Tryz.prog 219=true:=by kernel_rfl
theorem k235:callable Tryz.prog 235=true:=by kernel_rfl
theorem k63:callable Tryz.prog 63=true:=by kernel_rfl
theorem k64:callable Tryz.prog 64=true:=by kernel_rfl
theorem pt29:isPtr Tryz.prog 29=true:=by kernel_rfl
theorem s170:szOf Tryz.prog 170=some 1:=by kernel_rfl
theorem sl170:slOf Tryz.prog 170=some (100,1,8):=by kernel_rfl
theorem z100:zeroOf Tryz.prog 100=some [.pointer none]:=by kernel_rfl
theorem zg127:(Tryz.prog.info? 127).bind (·.zero)=some (.agg #[.string .empty,.int .u32 0,.bool false]):=by kernel_rfl
end Go.SL.Fc
namespace Go.SL
open Go Go.Proofs Fc
open Go.Sort Go.Shelf in
def laysRow_ren:Go.Shelf.Ren:=⟨fun | 6=>136 | 14=>194 | 15=>195 | 20=>210 | 21=>211 | 22=>212 | 23=>213 | 24=>214 | 25=>215 | 26=>216 | 27=>217 | 28=>218 | 29=>219 | 46=>243 | 47=>244 | 48=>245 | 49=>246 | 50=>247 | 57=>260 | n=>n,fun | 0=>0 | 3=>3 | 4=>4 | 5=>5 | 9=>9 | 22=>59 | 24=>142 | 25=>188 | 39=>269 | 45=>304 | 46=>305 | 50=>301 | 53=>48 | 55=>52 | 66=>327 | 70=>331 | 76=>340 | 77=>341 | n=>n,fun n=>n⟩
open Go.Sort Go.Shelf in
theorem laysRow:Go.Proofs.SlLaysF0.n6 Tryz.prog laysRow_ren where
 mixed:=by kernel_rfl
 f6:=⟨Tryz.f136.name,by decide +kernel,Tryz.func136.trans (congrArg some (by kernel_rfl))⟩
 f14:=⟨Tryz.f194.name,by decide +kernel,Tryz.func194.trans (congrArg some (by kernel_rfl))⟩
 f15:=Tryz.func195.trans (congrArg some (by kernel_rfl))
 f20:=⟨Tryz.f210.name,by decide +kernel,Tryz.func210.trans (congrArg some (by kernel_rfl))⟩
 f21:=⟨Tryz.f211.name,by decide +kernel,Tryz.func211.trans (congrArg some (by kernel_rfl))⟩
 f22:=⟨Tryz.f212.name,by decide +kernel,Tryz.func212.trans (congrArg some (by kernel_rfl))⟩
 f23:=⟨Tryz.f213.name,by decide +kernel,Tryz.func213.trans (congrArg some (by kernel_rfl))⟩
 f24:=⟨Tryz.f214.name,by decide +kernel,Tryz.func214.trans (congrArg some (by kernel_rfl))⟩
 f25:=⟨Tryz.f215.name,by decide +kernel,Tryz.func215.trans (congrArg some (by kernel_rfl))⟩
 f26:=⟨Tryz.f216.name,by decide +kernel,Tryz.func216.trans (congrArg some (by kernel_rfl))⟩
 f27:=⟨Tryz.f217.name,by decide +kernel,Tryz.func217.trans (congrArg some (by kernel_rfl))⟩
 f28:=Tryz.func218.trans (congrArg some (by kernel_rfl))
 f29:=Tryz.func219.trans (congrArg some (by kernel_rfl))
 f46:=⟨Tryz.f243.name,by decide +kernel,Tryz.func243.trans (congrArg some (by kernel_rfl))⟩
 f47:=Tryz.func244.trans (congrArg some (by kernel_rfl))
 f48:=Tryz.func245.trans (congrArg some (by kernel_rfl))
 f49:=⟨Tryz.f246.name,by decide +kernel,Tryz.func246.trans (congrArg some (by kernel_rfl))⟩
 f50:=⟨Tryz.f247.name,by decide +kernel,Tryz.func247.trans (congrArg some (by kernel_rfl))⟩
 f57:=⟨Tryz.f260.name,by decide +kernel,Tryz.func260.trans (congrArg some (by kernel_rfl))⟩
 t0:=Tryz.underlying0
 a0:=Tryz.isAgg0
 z0:=Tryz.sizeOf0
 v0:=Tryz.zeroValue0
 t3:=Tryz.underlying3
 a3:=Tryz.isAgg3
 z3:=Tryz.sizeOf3
 v3:=Tryz.zeroValue3
 t4:=Tryz.underlying4
 a4:=Tryz.isAgg4
 z4:=Tryz.sizeOf4
 v4:=Tryz.zeroValue4
 t5:=Tryz.underlying5
 a5:=Tryz.isAgg5
 z5:=Tryz.sizeOf5
 v5:=Tryz.zeroValue5
 t9:=Tryz.underlying9
 a9:=Tryz.isAgg9
 z9:=Tryz.sizeOf9
 v9:=Tryz.zeroValue9
 t22:=Tryz.underlying59
 a22:=Tryz.isAgg59
 z22:=Tryz.sizeOf59
 v22:=Tryz.zeroValue59
 t25:=Tryz.underlying188
 a25:=Tryz.isAgg188
 z25:=Tryz.sizeOf188
 v25:=Tryz.zeroValue188
 t39:=Tryz.underlying269
 a39:=Tryz.isAgg269
 z39:=Tryz.sizeOf269
 v39:=Tryz.zeroValue269
 t45:=Tryz.underlying304
 a45:=Tryz.isAgg304
 z45:=Tryz.sizeOf304
 v45:=Tryz.zeroValue304
 t46:=Tryz.underlying305
 a46:=Tryz.isAgg305
 z46:=Tryz.sizeOf305
 v46:=Tryz.zeroValue305
 t50:=Tryz.underlying301
 a50:=Tryz.isAgg301
 z50:=Tryz.sizeOf301
 v50:=Tryz.zeroValue301
 t53:=Tryz.underlying48
 a53:=Tryz.isAgg48
 z53:=Tryz.sizeOf48
 v53:=Tryz.zeroValue48
 t55:=Tryz.underlying52
 a55:=Tryz.isAgg52
 z55:=Tryz.sizeOf52
 v55:=Tryz.zeroValue52
 t66:=Tryz.underlying327
 a66:=Tryz.isAgg327
 z66:=Tryz.sizeOf327
 v66:=Tryz.zeroValue327
 t70:=Tryz.underlying331
 a70:=Tryz.isAgg331
 z70:=Tryz.sizeOf331
 v70:=Tryz.zeroValue331
 t76:=Tryz.underlying340
 a76:=Tryz.isAgg340
 z76:=Tryz.sizeOf340
 v76:=Tryz.zeroValue340
 t77:=Tryz.underlying341
 a77:=Tryz.isAgg341
 z77:=Tryz.sizeOf341
 v77:=Tryz.zeroValue341
open Go.Sort Go.Shelf in
def laysTx_ren:Go.Shelf.Ren:=⟨fun | 6=>184 | 14=>205 | 15=>195 | 20=>235 | 21=>236 | 22=>237 | 23=>238 | 24=>239 | 25=>240 | 26=>241 | 27=>242 | 28=>218 | 29=>219 | 46=>257 | 47=>244 | 48=>245 | 49=>258 | 50=>259 | 57=>267 | n=>n,fun | 0=>0 | 3=>3 | 4=>4 | 5=>5 | 9=>9 | 22=>170 | 24=>100 | 25=>175 | 39=>269 | 45=>304 | 46=>305 | 50=>301 | 53=>48 | 55=>52 | 66=>327 | 70=>331 | 76=>340 | 77=>341 | n=>n,fun n=>n⟩
open Go.Sort Go.Shelf in
theorem laysTx:Go.Proofs.SlLaysF.n6 Tryz.prog laysTx_ren where
 mixed:=by kernel_rfl
 f6:=⟨Tryz.f184.name,by decide +kernel,Tryz.func184.trans (congrArg some (by kernel_rfl))⟩
 f14:=⟨Tryz.f205.name,by decide +kernel,Tryz.func205.trans (congrArg some (by kernel_rfl))⟩
 f15:=Tryz.func195.trans (congrArg some (by kernel_rfl))
 f20:=⟨Tryz.f235.name,by decide +kernel,Tryz.func235.trans (congrArg some (by kernel_rfl))⟩
 f21:=⟨Tryz.f236.name,by decide +kernel,Tryz.func236.trans (congrArg some (by kernel_rfl))⟩
 f22:=⟨Tryz.f237.name,by decide +kernel,Tryz.func237.trans (congrArg some (by kernel_rfl))⟩
 f23:=⟨Tryz.f238.name,by decide +kernel,Tryz.func238.trans (congrArg some (by kernel_rfl))⟩
 f24:=⟨Tryz.f239.name,by decide +kernel,Tryz.func239.trans (congrArg some (by kernel_rfl))⟩
 f25:=⟨Tryz.f240.name,by decide +kernel,Tryz.func240.trans (congrArg some (by kernel_rfl))⟩
 f26:=⟨Tryz.f241.name,by decide +kernel,Tryz.func241.trans (congrArg some (by kernel_rfl))⟩
 f27:=⟨Tryz.f242.name,by decide +kernel,Tryz.func242.trans (congrArg some (by kernel_rfl))⟩
 f28:=Tryz.func218.trans (congrArg some (by kernel_rfl))
 f29:=Tryz.func219.trans (congrArg some (by kernel_rfl))
 f46:=⟨Tryz.f257.name,by decide +kernel,Tryz.func257.trans (congrArg some (by kernel_rfl))⟩
 f47:=Tryz.func244.trans (congrArg some (by kernel_rfl))
 f48:=Tryz.func245.trans (congrArg some (by kernel_rfl))
 f49:=⟨Tryz.f258.name,by decide +kernel,Tryz.func258.trans (congrArg some (by kernel_rfl))⟩
 f50:=⟨Tryz.f259.name,by decide +kernel,Tryz.func259.trans (congrArg some (by kernel_rfl))⟩
 f57:=⟨Tryz.f267.name,by decide +kernel,Tryz.func267.trans (congrArg some (by kernel_rfl))⟩
 t0:=Tryz.underlying0
 a0:=Tryz.isAgg0
 z0:=Tryz.sizeOf0
 v0:=Tryz.zeroValue0
 t3:=Tryz.underlying3
 a3:=Tryz.isAgg3
 z3:=Tryz.sizeOf3
 v3:=Tryz.zeroValue3
 t4:=Tryz.underlying4
 a4:=Tryz.isAgg4
 z4:=Tryz.sizeOf4
 v4:=Tryz.zeroValue4
 t5:=Tryz.underlying5
 a5:=Tryz.isAgg5
 z5:=Tryz.sizeOf5
 v5:=Tryz.zeroValue5
 t9:=Tryz.underlying9
 a9:=Tryz.isAgg9
 z9:=Tryz.sizeOf9
 v9:=Tryz.zeroValue9
 t22:=Tryz.underlying170
 a22:=Tryz.isAgg170
 z22:=Tryz.sizeOf170
 v22:=Tryz.zeroValue170
 a24:=Tryz.isAgg100
 z24:=Tryz.sizeOf100
 t25:=Tryz.underlying175
 a25:=Tryz.isAgg175
 z25:=Tryz.sizeOf175
 v25:=Tryz.zeroValue175
 t39:=Tryz.underlying269
 a39:=Tryz.isAgg269
 z39:=Tryz.sizeOf269
 v39:=Tryz.zeroValue269
 t45:=Tryz.underlying304
 a45:=Tryz.isAgg304
 z45:=Tryz.sizeOf304
 v45:=Tryz.zeroValue304
 t46:=Tryz.underlying305
 a46:=Tryz.isAgg305
 z46:=Tryz.sizeOf305
 v46:=Tryz.zeroValue305
 t50:=Tryz.underlying301
 a50:=Tryz.isAgg301
 z50:=Tryz.sizeOf301
 v50:=Tryz.zeroValue301
 t53:=Tryz.underlying48
 a53:=Tryz.isAgg48
 z53:=Tryz.sizeOf48
 v53:=Tryz.zeroValue48
 t55:=Tryz.underlying52
 a55:=Tryz.isAgg52
 z55:=Tryz.sizeOf52
 v55:=Tryz.zeroValue52
 t66:=Tryz.underlying327
 a66:=Tryz.isAgg327
 z66:=Tryz.sizeOf327
 v66:=Tryz.zeroValue327
 t70:=Tryz.underlying331
 a70:=Tryz.isAgg331
 z70:=Tryz.sizeOf331
 v70:=Tryz.zeroValue331
 t76:=Tryz.underlying340
 a76:=Tryz.isAgg340
 z76:=Tryz.sizeOf340
 v76:=Tryz.zeroValue340
 t77:=Tryz.underlying341
 a77:=Tryz.isAgg341
 z77:=Tryz.sizeOf341
 v77:=Tryz.zeroValue341
open Go.Sort Go.Shelf in
theorem cmpRow_b:CmpB Tryz.prog 137 [] (pu True) (fun x:RowM=>.agg (RowM.c x).toArray) cfRow:=fun W S _ _ x y=>by
 show Calls Tryz.prog 137 #[.agg #[.string x.key,.int .u32 x.val.toNat],.agg #[.string y.key,.int .u32 y.val.toNat]] W _
 go_enter Tryz.func137,Tryz.ntmps137
 go_wp2
 ·rename_i h
  go_ret
  exact ⟨by simp [cfRow,sLt,h],0,_,by rw [alloc_eq_grow,alloc_eq_grow,grow_grow];rfl⟩
 ·rename_i h
  go_ret
  exact ⟨by simp [cfRow,sLt,h],0,_,by rw [alloc_eq_grow,alloc_eq_grow,grow_grow];rfl⟩
theorem cmpTx_b0 {x y:Nat} {a b:UInt32} {W:World} (hx:W.cell? ⟨x,0,none⟩=some (.int .u32 a.toNat)) (hy:W.cell? ⟨y,0,none⟩=some (.int .u32 b.toNat)) :
  Calls Tryz.prog 121 #[.pointer (some ⟨x,0,none⟩),.pointer (some ⟨y,0,none⟩)] W fun e w'=>e=.returned (.int .i64 ((a.toNat:Int) - b.toNat))∧∃ q os',w'=Sort.grow (W.drewN q) os':=by
 have mixed:Tryz.prog.follows .mixedOrders=true:=by kernel_rfl
 go_enter Tryz.func121,Tryz.ntmps121
 go_wp2
 go_quiet_o (fail)
 go_wp2
 go_ret
 have ha:=a.toNat_lt
 have hb:=b.toNat_lt
 have e1:IntKind.i64.wrap (a.toNat:Int)=a.toNat:=w_i64 (by omega) (by omega)
 have e2:IntKind.i64.wrap (b.toNat:Int)=b.toNat:=w_i64 (by omega) (by omega)
 have e3:IntKind.i64.wrap ((a.toNat:Int) - b.toNat)=(a.toNat:Int) - b.toNat:=w_i64 (by omega) (by omega)
 refine ⟨?_,nq,#[],?_⟩
 ·rw [e1,e2,e3];rfl
 ·simp [Sort.grow];rfl
theorem Len64_0 {g:World}:Spec Tryz.prog g 219 [.int .u64 0] [] fun K R=>K (.int .i64 0) R:=by
 refine Spec.intro Tryz.func219 rfl Tryz.ntmps219 rfl fun R K hK=>?_
 refine WP.seq<|WP.reg<|WL.e e_assign<|WL.next<|WP.seq<|WP.seq<|WP.reg<|WL.e e_move<|WL.e e_geq<|WL.next<|WP.cond_f rfl<|WP.skip<|PO.next<|WP.seq<|WP.seq<|WP.reg<|WL.e e_move<|WL.e e_geq<|WL.next<|WP.cond_f rfl<|WP.skip<|PO.next<|WP.seq<|WP.seq ?_
 refine WP.reg<|WL.e e_move<|WL.e e_geq<|WL.next<|WP.cond_f rfl<|WP.skip<|PO.next<|WP.seq<|WP.reg<|WL.e e_move<|WL.e e_move<|WL.e (e_conv (by rw [Tryz.underlying52];rfl) Tryz.underlying5 rfl rfl)<|WL.e (e_idxS (n:=0) (b:=0) Tryz.underlying9 (hb:=by kernel_rfl))<|WL.e (e_conv (c:=0) (by rw [Tryz.underlying5];rfl) Tryz.underlying3 rfl rfl)<|WL.e (e_add rfl rfl (w_i64 (by omega) (by omega)))<|WL.e e_assign<|WL.next<|WP.ret ?_
 exact PO.finE Tryz.results219 (rv_tmp rv_nil) rfl hK
theorem Len_0 {g:World}:Spec Tryz.prog g 195 [.int .u64 0] [] fun K R=>K (.int .i64 0) R:=by
 refine Spec.intro Tryz.func195 rfl Tryz.ntmps195 rfl fun R K hK=>?_
 refine WP.seq<|WP.reg<|WL.e e_assign<|WL.next<|WP.seq<|WP.cond_f rfl<|WP.skip<|PO.next<|WP.seq<|WP.reg<|WL.e e_move ?_
 refine WL.h (h_call (Len64_0) k219 ?_)
 refine WL.e e_assign<|WL.next<|WP.ret ?_
 exact PO.fin Tryz.results195 (rv_tmp rv_nil) hK
theorem SRI0 {g:World} {a:Option Addr} {c:Nat} {y:Value}:Spec Tryz.prog g 210 [.slice a 0 c,.int .i64 0,.int .i64 0,y] [] fun K R=>K (.tuple #[]) R:=by
 refine Spec.intro Tryz.func210 rfl Tryz.ntmps210 rfl fun R K hK=>?_
 refine WP.seq<|WP.reg<|WL.e e_move<|WL.e (e_add rfl rfl (w_i64 (by omega) (by omega)))<|WL.e e_assign<|WL.next<|WP.block<|WP.loopK (fun (_:Unit)=>[(8,.int .i64 1)]) (fun (_:Unit)=>R) [(0,_),(1,_),(2,_),(3,_)] (fun (_:Unit)=>True) (fun (_:Unit)=>0) () (trivial) ?_
 intro _ _
 refine WP.seq<|WP.seq<|WP.reg<|WL.e e_move<|WL.e e_move<|WL.e e_lss<|WL.next<|WP.cond_f rfl<|WP.exit<|PO.past nofun<|PO.round nofun<|PO.blockX ?_
 exact PO.fin Tryz.results210 rv_nil hK
theorem SRP0 {g:World} {a:Option Addr} {c:Nat} {y:Value}:Spec Tryz.prog g 194 [.slice a 0 c,.int .i64 0,.int .i64 0,.int .i64 0,y] [] fun K R=>K (.tuple #[]) R:=by
 refine Spec.intro Tryz.func194 rfl Tryz.ntmps194 rfl fun R K hK=>?_
 refine WP.seq<|WP.reg<|WL.e e_assign<|WL.next<|WP.seq<|WP.reg<|WL.e e_assign<|WL.next<|WP.block<|WP.loopK (fun (_:Unit)=>[(1,.int .i64 0),(2,.int .i64 0)]) (fun (_:Unit)=>R) [(0,_),(4,_)] (fun (_:Unit)=>True) (fun (_:Unit)=>0) () (trivial) ?_
 intro _ _
 refine WP.block<|WP.seq<|WP.reg<|WL.e e_move<|WL.e e_move<|WL.e (e_sub rfl rfl (w_i64 (by omega) (by omega)))<|WL.e e_assign<|WL.next<|WP.seq<|WP.seq<|WP.reg<|WL.e e_move<|WL.e e_leq<|WL.next<|WP.cond_t rfl<|WP.seq<|WP.reg<|WL.e e_move<|WL.e e_move<|WL.e e_move<|WL.e e_move ?_
 refine WL.h (h_call (SRI0) k210 ?_)
 refine WL.next<|WP.ret<|PO.past nofun<|PO.blockR<|PO.round nofun<|PO.blockR ?_
 exact PO.fin Tryz.results194 rv_nil hK
theorem SRS0 {g:World} {a:Option Addr} {c:Nat} {y:Value}:Spec Tryz.prog g 136 [.slice a 0 c,y] [] fun K R=>K (.tuple #[]) R:=by
 refine Spec.intro Tryz.func136 rfl Tryz.ntmps136 rfl fun R K hK=>?_
 refine WP.conv (M:=pu True::_) (fun S h=>pu_stars trivial h) ?_
 refine WP.seq<|WP.reg<|WL.e e_move<|WL.e (el_len (xs:=([]:List Nat)) (enc:=fun _=>[]) sl59 (A:=pu True) (nil_rl (z:=1)))<|WL.e e_assign<|WL.next<|WP.reg<|WL.e e_move<|WL.e e_move<|WL.e e_move<|WL.e (e_conv (by rw [Tryz.underlying3];rfl) Tryz.underlying269 rfl rfl) ?_
 refine WL.h (h_call (Len_0) k195 ?_)
 refine WL.e e_move ?_
 refine WL.h (h_call (SRP0) k194 ?_)
 refine WL.nil ?_
 exact PO.fin Tryz.results136 rv_nil hK
theorem STI0 {g:World} {a:Option Addr} {c:Nat} {y:Value}:Spec Tryz.prog g 235 [.slice a 0 c,.int .i64 0,.int .i64 0,y] [] fun K R=>K (.tuple #[]) R:=by
 refine Spec.intro Tryz.func235 rfl Tryz.ntmps235 rfl fun R K hK=>?_
 refine WP.seq<|WP.reg<|WL.e e_move<|WL.e (e_add rfl rfl (w_i64 (by omega) (by omega)))<|WL.e e_assign<|WL.next<|WP.block<|WP.loopK (fun (_:Unit)=>[(8,.int .i64 1)]) (fun (_:Unit)=>R) [(0,_),(1,_),(2,_),(3,_)] (fun (_:Unit)=>True) (fun (_:Unit)=>0) () (trivial) ?_
 intro _ _
 refine WP.seq<|WP.seq<|WP.reg<|WL.e e_move<|WL.e e_move<|WL.e e_lss<|WL.next<|WP.cond_f rfl<|WP.exit<|PO.past nofun<|PO.round nofun<|PO.blockX ?_
 exact PO.fin Tryz.results235 rv_nil hK
theorem STP0 {g:World} {a:Option Addr} {c:Nat} {y:Value}:Spec Tryz.prog g 205 [.slice a 0 c,.int .i64 0,.int .i64 0,.int .i64 0,y] [] fun K R=>K (.tuple #[]) R:=by
 refine Spec.intro Tryz.func205 rfl Tryz.ntmps205 rfl fun R K hK=>?_
 refine WP.seq<|WP.reg<|WL.e e_assign<|WL.next<|WP.seq<|WP.reg<|WL.e e_assign<|WL.next<|WP.block<|WP.loopK (fun (_:Unit)=>[(1,.int .i64 0),(2,.int .i64 0)]) (fun (_:Unit)=>R) [(0,_),(4,_)] (fun (_:Unit)=>True) (fun (_:Unit)=>0) () (trivial) ?_
 intro _ _
 refine WP.block<|WP.seq<|WP.reg<|WL.e e_move<|WL.e e_move<|WL.e (e_sub rfl rfl (w_i64 (by omega) (by omega)))<|WL.e e_assign<|WL.next<|WP.seq<|WP.seq<|WP.reg<|WL.e e_move<|WL.e e_leq<|WL.next<|WP.cond_t rfl<|WP.seq<|WP.reg<|WL.e e_move<|WL.e e_move<|WL.e e_move<|WL.e e_move ?_
 refine WL.h (h_call (STI0) k235 ?_)
 refine WL.next<|WP.ret<|PO.past nofun<|PO.blockR<|PO.round nofun<|PO.blockR ?_
 exact PO.fin Tryz.results205 rv_nil hK
theorem STS0 {g:World} {a:Option Addr} {c:Nat} {y:Value}:Spec Tryz.prog g 184 [.slice a 0 c,y] [] fun K R=>K (.tuple #[]) R:=by
 refine Spec.intro Tryz.func184 rfl Tryz.ntmps184 rfl fun R K hK=>?_
 refine WP.conv (M:=pu True::_) (fun S h=>pu_stars trivial h) ?_
 refine WP.seq<|WP.reg<|WL.e e_move<|WL.e (el_len (xs:=([]:List Nat)) (enc:=fun _=>[]) sl170 (A:=pu True) (nil_rl (z:=1)))<|WL.e e_assign<|WL.next<|WP.reg<|WL.e e_move<|WL.e e_move<|WL.e e_move<|WL.e (e_conv (by rw [Tryz.underlying3];rfl) Tryz.underlying269 rfl rfl) ?_
 refine WL.h (h_call (Len_0) k195 ?_)
 refine WL.e e_move ?_
 refine WL.h (h_call (STP0) k205 ?_)
 refine WL.nil ?_
 exact PO.fin Tryz.results184 rv_nil hK
open Go.Sort Go.Shelf in
theorem SortR_spec {g:World} {xs:List RowM} {a:Option Addr} {m c:Nat} (hn:xs.length≤68719476736):Spec Tryz.prog g 136 [.slice a m c,.func (.func 137) #[] #[]] [Sl 142 2 RowM.c (.slice a m c) xs] fun K R=>∀ ys,(ys.Perm xs∧ys.Pairwise fun a b=>sLt b.key a.key=false)→K (.tuple #[]) (Sl 142 2 RowM.c (.slice a m c) ys::R):=by
 rcases Nat.eq_zero_or_pos xs.length with h0 | h0
 ·obtain rfl:=List.length_eq_zero_iff.1 h0
  intro R K w hw hT
  obtain ⟨S1,S2,hd,l1,l2,hO,hR⟩:=hw.heap
  obtain rfl:=own_zero hO
  exact SRS0 _ K w hw (hT [] ⟨.refl _,List.Pairwise.nil⟩)
 ·refine spec_imp (φ:=fun ys:List RowM=>ys.Perm xs∧ys.Pairwise fun a b=>ltOf cfRow b a=false) (B:=fun ys=>Sl 142 2 RowM.c (.slice a m c) ys) (v:=.tuple #[]) (spec_unpu ?_) fun (ys:List RowM) h=>⟨h.1,h.2.imp fun {x y} h=>by rw [lt_cfRow] at h;exact h⟩
  have h:=sortK_spec (ρ:=laysRow_ren) (k:=2) (E:=142) (enc:=RowM.c) (cf:=cfRow) (gf:=137) (cb:=[]) (B:=pu True) (xs:=xs) (a:=a) (m0:=m) (c0:=c) (g:=g) laysRow Tryz.isAgg142 Tryz.sizeOf142 rowE swoRow (enters_of Tryz.func137 (by kernel_rfl) rfl) cmpRow_b h0 hn
  exact fun R K w hw hT=>h R K w hw fun ys h1 h2=>hT ys ⟨h1,h2⟩
def TxB_ (t:TxT):HP:=fun S=>∃ x:SV × SV,stars [cl t.q 112 [.int .u32 t.x.at_.toNat,x.1.v,x.2.v],Sl 110 2 SpanM.c x.1.v t.x.looked,Sl 127 3 ChgM.c x.2.v t.x.own] S
theorem TxB__op {t:TxT}:∀ S,TxB_ t S→∃ x:SV × SV,stars [cl t.q 112 [.int .u32 t.x.at_.toNat,x.1.v,x.2.v],Sl 110 2 SpanM.c x.1.v t.x.looked,Sl 127 3 ChgM.c x.2.v t.x.own] S:=fun _ h=>h
def TPB (t:TxT):List HP:=[TxB_ t]
def ptrC (t:TxT):List Value:=[.pointer (some ⟨t.q,0,none⟩)]
theorem ptrE:EncOk 1 ptrC:=⟨fun _=>rfl,fun _=>rfl⟩
theorem tx_cell {ts:List TxT} {t:TxT} (ht:t ∈ ts) {S:Piece} (hS:TxsU TPB ts S) {W:World} (hle:le S (heapOf W)):W.cell? ⟨t.q,0,none⟩=some (.int .u32 t.x.at_.toNat):=by
 obtain ⟨A,B,e⟩:=List.append_of_mem ht
 obtain ⟨_,S1,S2,_,h1,_,h2,_⟩:=TxsU_out e S hS
 obtain ⟨x,S3,S4,_,h3,_,h4,_⟩:=TxB__op S1 h2
 have h5:heapOf W t.q=some _:=hle _ _ (h1 _ _ (h3 _ _ h4))
 have h6:W.heap[t.q]?=some _:=h5
 simp [World.cell?,h6]
theorem Sl_map {α β:Type} {E z:Nat} {enc:α→List Value} {f:β→α} {u:Value} {l:List β}:Sl E z enc u (l.map f)=Sl E z (fun x=>enc (f x)) u l:=by
 unfold Sl;rw [List.length_map,List.flatMap_map]
theorem of_list {α:Type} {ts:List α}:∀ xs:List α,(∀ x ∈ xs,x ∈ ts)→∃ ys:List (Of ts),ys.map (·.1)=xs
 | [],_=>⟨[],rfl⟩
 | x::xs,h=>by
  obtain ⟨ys,e⟩:=of_list xs fun y hy=>h y (by simp [hy])
  exact ⟨⟨x,h x (by simp)⟩::ys,by simp [e]⟩
open Go.Sort Go.Shelf in
theorem cmpTx_b {ts:List TxT}:CmpB Tryz.prog 121 [] (TxsU TPB ts) (fun x:Of ts=>(.pointer (some ⟨x.1.q,0,none⟩):Value)) cfTx:=fun W S hle hS x y=>cmpTx_b0 (tx_cell x.2 hS hle) (tx_cell y.2 hS hle)
open Go.Sort Go.Shelf in
theorem SortT_spec {g:World} {xs ts:List TxT} {a:Option Addr} {m c:Nat} (hx:∀ x ∈ xs,x ∈ ts) (hn:xs.length≤68719476736):Spec Tryz.prog g 184 [.slice a m c,.func (.func 121) #[] #[]] [Sl 100 1 ptrC (.slice a m c) xs,TxsU TPB ts] fun K R=>∀ ys,(ys.Perm xs∧ys.Pairwise fun a b=>decide (b.x.at_ < a.x.at_)=false)→K (.tuple #[]) (Sl 100 1 ptrC (.slice a m c) ys::TxsU TPB ts::R):=by
 rcases Nat.eq_zero_or_pos xs.length with h0 | h0
 ·obtain rfl:=List.length_eq_zero_iff.1 h0
  intro R K w hw hT
  obtain ⟨S1,S2,hd,l1,l2,hO,hR⟩:=hw.heap
  obtain rfl:=own_zero hO
  exact STS0 _ K w hw (hT [] ⟨.refl _,List.Pairwise.nil⟩)
 ·obtain ⟨zs,rfl⟩:=of_list xs hx
  have hz:0 < zs.length:=by simpa using h0
  haveI:Inhabited (Of ts):=⟨zs[0]⟩
  have h:=sort1_spec (ρ:=laysTx_ren) (E:=100) (enc:=fun x:Of ts=>(.pointer (some ⟨x.1.q,0,none⟩):Value)) (cf:=cfTx) (gf:=121) (cb:=[]) (B:=TxsU TPB ts) (xs:=zs) (a:=a) (m0:=m) (c0:=c) (g:=g) laysTx (fun _=>rfl) swoTx (enters_of Tryz.func121 (by kernel_rfl) rfl) cmpTx_b hz (by simpa using hn)
  intro R K w hw hT
  rw [Sl_map] at hw
  refine h R K w hw fun ys h1 h2=>?_
  have h3:=hT (ys.map (·.1)) ⟨h1.map _,List.pairwise_map.2 (h2.imp fun {x y} h=>by rw [lt_cfTx] at h;exact h)⟩
  rw [Sl_map] at h3
  exact h3
theorem BVals_spec {g:World} {m:Nat}:Spec Tryz.prog g 120 [.map (some m)] [] fun K R=>∀ b,K (.func (.func 185) #[] #[.pointer (some ⟨b,0,none⟩)]) (cl b 87 [.map (some m)]::R):=by
 refine Spec.intro Tryz.func120 rfl Tryz.ntmps120 rfl fun R K hK=>?_
 refine WP.seq<|WP.reg ?_
 refine WL.h (h_box fun b1=>?_)
 refine WL.e e_assign<|WL.next<|WP.seq<|WP.reg<|WL.e e_makeFunc<|WL.e e_assign<|WL.next<|WP.ret ?_
 exact PO.fin Tryz.results120 (rv_tmp rv_nil) (hK b1)
theorem BVals_iter {g:World} {b m:Nat} {ts:List (TxT)}:Iter Tryz.prog g 185 (fun y=>[]++[y]++[.pointer (some ⟨b,0,none⟩)]) [cl b 87 [.map (some m)],Mp eU32 (.map (some m)) (List.map kvU ts)] ptrC (fun _=>pu True) (fun xs=>xs.Perm ts) (fun pre=>∃ r,(pre++r).Perm ts) [cl b 87 [.map (some m)],Mp eU32 (.map (some m)) (List.map kvU ts)]:=by
 intro y J X cont hy
 refine Spec.intro Tryz.func185 rfl Tryz.ntmps185 rfl fun R K hK=>?_
 refine WP.seq<|WP.reg<|WL.e (e_load a87) ?_
 refine WL.h (h_range (kvs:=List.map kvU ts) Tryz.underlying87 fun it=>?_)
 refine WL.next<|WP.block<|WP.loopK (fun (x:List (TxT) × List (TxT) × Option (UInt32 × Value))=>[]) (fun (x:List (TxT) × List (TxT) × Option (UInt32 × Value))=>J x.2.1::MpIt eU32 (.map (some m)) it (List.map kvU ts) (List.map kvU x.1) x.2.2::cl b 87 [.map (some m)]::R) [(0,_),(6,_)] (fun (x:List (TxT) × List (TxT) × Option (UInt32 × Value))=>(x.2.1++x.1).Perm ts∧Hist cont x.2.1) (fun (x:List (TxT) × List (TxT) × Option (UInt32 × Value))=>x.1.length) (ts,[],none) (⟨.refl _,Hist.nil⟩) ?_
 rintro ⟨left,pre,cur⟩ ⟨hx1,hx2⟩
 simp only at hx1 hx2
 dsimp only
 refine WP.seq<|WP.reg ?_
 refine WL.h (h_next (fun h0=>?_) (fun a y0 b0 hx=>?_))
 ·have hl0:left=[]:=by simpa using h0
  subst hl0
  refine WL.e e_extract<|WL.next<|WP.seq<|WP.cond_f rfl<|WP.exit<|PO.past nofun<|PO.round nofun<|PO.blockX ?_
  exact PO.fin Tryz.results185 rv_nil (hK.1 pre (by simpa using hx1) hx2)
 ·obtain ⟨A1,y,B1,hl,rfl,rfl,rfl⟩:=map_mid hx
  have hpp:(pre++([y]++(A1++B1))).Perm ts:=by refine List.Perm.trans ?_ hx1;rw [hl];exact List.Perm.append_left _ (List.perm_middle (a:=y) (l₁:=A1) (l₂:=B1)).symm
  refine WL.e e_extract<|WL.next<|WP.seq<|WP.cond_t rfl<|WP.skip<|PO.next<|WP.block<|WP.seq<|WP.reg<|WL.e e_entry<|WL.e e_extract<|WL.e e_assign<|WL.next<|WP.seq<|WP.reg<|WL.e e_move<|WL.e e_move ?_
  refine WL.h (HO.conv (fun S h=>pu_stars trivial h) (h_cally (hy pre y ⟨_,by rw [List.append_assoc];exact hpp⟩ hx2) ?_))
  refine ⟨fun hc=>?_,fun hc=>?_⟩
  ·skip
   refine WL.e e_not<|WL.next<|WP.cond_f rfl<|WP.skip<|PO.blockN ?_
   rw [← List.map_append]
   exact PO.againK (A1++B1,pre++[y],_) ⟨by simp only;rw [List.append_assoc];exact hpp,hx2.snoc hc⟩ (by simp only [hl,List.length_append,List.length_cons];omega)
  ·skip
   refine WL.e e_not<|WL.next<|WP.cond_t rfl<|WP.ret<|PO.blockR<|PO.round nofun<|PO.blockR<|PO.conv (conv1 (A:=MpIt eU32 (.map (some m)) it (List.map kvU ts) _ _) (B:=Mp eU32 (.map (some m)) (List.map kvU ts)) MpIt_Mp (by repeat first | exact .z | apply Put.s)) ?_
   exact PO.fin Tryz.results185 rv_nil (hK.2 pre y ⟨_,by rw [List.append_assoc];exact hpp⟩ hx2 hc)
def BVJ (b:Nat) (pre:List (TxT)):HP:=fun S=>∃ sv:SV,stars [cl b 170 [sv.v],Sl 100 1 ptrC sv.v pre] S
theorem BVA_spec {g:World} {b m:Nat} {ts:List (TxT)} (hn:ts.length≤68719476736):Spec Tryz.prog g 204 [.slice none 0 0,.func (.func 185) #[] #[.pointer (some ⟨b,0,none⟩)]] [cl b 87 [.map (some m)],Mp eU32 (.map (some m)) (List.map kvU ts)] fun K R=>∀ a n c xs,xs.Perm ts→K (.slice a n c) (Sl 100 1 ptrC (.slice a n c) xs::cl b 87 [.map (some m)]::Mp eU32 (.map (some m)) (List.map kvU ts)::R):=by
 refine Spec.intro Tryz.func204 rfl Tryz.ntmps204 rfl fun R K hK=>?_
 refine WP.seq<|WP.reg ?_
 refine WL.h (h_box fun b1=>?_)
 refine WL.e e_assign<|WL.next<|WP.seq<|WP.seq<|WP.reg<|WL.e e_move<|WL.next<|WP.block<|WP.nils 100 1 ptrC none ?_
 refine WP.cls (A:=BVJ b1 []) (B:=[cl b1 170 [.slice none 0 0],Sl 100 1 ptrC (.slice none 0 0) ([])]) (fun S h=>⟨⟨none,0,0⟩,h⟩) ?_
 refine WP.range (R:=?RR) (f:=185) (fs:=[]) (cs:=[.pointer (some ⟨b,0,none⟩)]) (BVJ b1) (fun _ _ _=>pu True) (fun _ _=>True) (BVals_iter (b:=b) (m:=m) (ts:=ts)) k185 ?hLL ?_ ?_ ?_ (fun _=>rfl)
 case hLL=>repeat first | exact .nil | exact Pick.z | apply Pick.s | apply Split.cons
 ·rintro lb db fn tmps pre x R2 hp hh
  refine WP.opn (B:=fun sv:SV=>[cl b1 170 [sv.v],Sl 100 1 ptrC (sv.v) (pre)]) (fun _ h=>h) fun sv=>?_
  have hlen:pre.length+1≤68719476736:=by obtain ⟨r,hr⟩:=hp;have:=hr.length_eq;simp only [List.length_append,List.length_cons,List.length_nil] at this;omega
  refine WP.reg<|WL.e e_assign<|WL.nil<|PO.asg rfl (by repeat first | exact .z | apply Put.s)<|WP.block<|WP.reg<|WL.e (e_load a170)<|WL.e e_move ?_
  refine WL.h (h_bs sl170 z100 (.o (.tmp 9) rfl<|.n) fun b2=>?_)
  refine WL.h (hl_append (xs:=pre) (ys:=[x]) sl170 ptrE z100 (lit_rl ptrE [x] rfl) (by simp;omega) (fun a5 n5 c5=>?_))
  refine WL.h' (h_store s170 ?_)
  refine WL.nil<|PO.blockN<|PO.cls (A:=BVJ b1 (pre++[x])) (B:=[cl b1 170 [.slice a5 n5 c5],Sl 100 1 ptrC (.slice a5 n5 c5) (pre++[x])]) (fun S h=>⟨⟨a5,n5,c5⟩,h⟩) ?_
  exact PO.rnd trivial (by repeat first | exact .refl | exact Pick.z | apply Pick.s | apply Sub.cons | apply Sub.drop)
 ·rintro db xs hp hh
  refine PO.opn (B:=fun sv:SV=>[cl b1 170 [sv.v],Sl 100 1 ptrC (sv.v) (xs)]) (fun _ h=>h) fun sv=>?_
  obtain ⟨a9,n9,c9⟩:=sv
  refine PO.blockN<|PO.next<|WP.seq<|WP.reg<|WL.e (e_load a170)<|WL.e e_assign<|WL.next<|WP.ret ?_
  exact PO.finM (by repeat first | exact .z | apply Put.s) Tryz.results204 (rv_tmp rv_nil) (hK a9 n9 c9 xs hp)
 ·exact fun _ _ _ _ _ _ hc=>absurd trivial hc
theorem BVC_spec {g:World} {b m:Nat} {ts:List (TxT)} (hn:ts.length≤68719476736):Spec Tryz.prog g 183 [.func (.func 185) #[] #[.pointer (some ⟨b,0,none⟩)]] [cl b 87 [.map (some m)],Mp eU32 (.map (some m)) (List.map kvU ts)] fun K R=>∀ a n c xs,xs.Perm ts→K (.slice a n c) (Sl 100 1 ptrC (.slice a n c) xs::cl b 87 [.map (some m)]::Mp eU32 (.map (some m)) (List.map kvU ts)::R):=by
 refine Spec.intro Tryz.func183 rfl Tryz.ntmps183 rfl fun R K hK=>?_
 refine WP.seq<|WP.reg<|WL.e e_assign<|WL.next<|WP.seq<|WP.reg<|WL.e e_move ?_
 refine WL.h (h_call (BVA_spec hn) k204 ?_)
 intro a n c xs hp
 refine WL.e e_assign<|WL.next<|WP.ret ?_
 exact PO.fin Tryz.results183 (rv_tmp rv_nil) (hK a n c xs hp)
theorem SortedT_spec {g:World} {b m:Nat} {ts:List TxT} (hn:ts.length≤68719476736):Spec Tryz.prog g 119 [.func (.func 185) #[] #[.pointer (some ⟨b,0,none⟩)],.func (.func 121) #[] #[]] [cl b 87 [.map (some m)],Mp eU32 (.map (some m)) (List.map kvU ts),TxsU TPB ts] fun K R=>∀ a n c ys,(ys.Perm ts∧ys.Pairwise fun a b=>decide (b.x.at_ < a.x.at_)=false)→K (.slice a n c) (Sl 100 1 ptrC (.slice a n c) ys::cl b 87 [.map (some m)]::Mp eU32 (.map (some m)) (List.map kvU ts)::TxsU TPB ts::R):=by
 refine Spec.intro Tryz.func119 rfl Tryz.ntmps119 rfl fun R K hK=>?_
 refine WP.seq<|WP.reg<|WL.e e_assign<|WL.next<|WP.seq<|WP.reg<|WL.e e_move ?_
 refine WL.h (h_call (BVC_spec hn) k183 ?_)
 intro a n c xs hp
 refine WL.e e_assign<|WL.next<|WP.seq<|WP.reg<|WL.e e_move<|WL.e e_move ?_
 refine WL.h (h_call (SortT_spec (xs:=xs) (ts:=ts) (fun x hx=>hp.mem_iff.1 hx) (by rw [hp.length_eq];exact hn)) k184 ?_)
 rintro ys ⟨h1,h2⟩
 refine WL.next<|WP.seq<|WP.reg<|WL.e e_move<|WL.e e_assign<|WL.next<|WP.ret ?_
 exact PO.fin Tryz.results119 (rv_tmp rv_nil) (hK a n c ys ⟨h1.trans hp,h2⟩)
def Bs (p dp:Nat) (s:StV):HP:=fun S=>∃ x:Nat × Nat × Nat,stars [cl p 89 [.pointer (some ⟨x.1,0,none⟩),.pointer (some ⟨x.2.1,0,none⟩),.map (some x.2.2)],cl x.1 147 [.pointer (some ⟨dp,0,none⟩),.int .i64 s.at_],Dk dp s.d,Pa x.2.1 s.H s.trim,Mp eU32 (.map (some x.2.2)) (List.map kvU s.txs)] S
theorem Bs_op {p dp:Nat} {s:StV}:∀ S,Bs p dp s S→∃ x:Nat × Nat × Nat,stars [cl p 89 [.pointer (some ⟨x.1,0,none⟩),.pointer (some ⟨x.2.1,0,none⟩),.map (some x.2.2)],cl x.1 147 [.pointer (some ⟨dp,0,none⟩),.int .i64 s.at_],Dk dp s.d,Pa x.2.1 s.H s.trim,Mp eU32 (.map (some x.2.2)) (List.map kvU s.txs)] S:=fun _ h=>h
theorem Bthere_spec {g:World} {p dp:Nat} {s:StV}:Spec Tryz.prog g 38 [.pointer (some ⟨p,0,none⟩)] [Bs p dp s] fun K R=>K (.bool true) (Bs p dp s::R):=by
 refine Spec.intro Tryz.func38 rfl Tryz.ntmps38 rfl fun R K hK=>?_
 refine WP.opn (Bs_op (p:=p) (dp:=dp) (s:=s)) fun x=>?_
 obtain ⟨lp,pp,mb⟩:=x
 dsimp only
 refine WP.seq<|WP.reg<|WL.e e_assign<|WL.next<|WP.seq<|WP.reg<|WL.e e_move<|WL.e (e_pne pt29)<|WL.e e_move ?_
 refine WL.bool 5 rfl (fun h=>?_) (fun h=>?_)
 ·skip
  refine WL.e e_move<|WL.e e_nil<|WL.e (e_fa f89_2)<|WL.e (e_load a87)<|WL.e (e_mne Tryz.underlying87)<|WL.e e_pick_t<|WL.e e_assign<|WL.next<|WP.ret<|PO.cls (A:=Bs p dp (s)) (B:=[cl p 89 [.pointer (some ⟨lp,0,none⟩),.pointer (some ⟨pp,0,none⟩),.map (some mb)],cl lp 147 [.pointer (some ⟨dp,0,none⟩),.int .i64 s.at_],Dk dp s.d,Pa pp s.H s.trim,Mp eU32 (.map (some mb)) (List.map kvU s.txs)]) (fun S h=>⟨(lp,pp,mb),h⟩) ?_
  exact PO.fin Tryz.results38 (rv_tmp rv_nil) hK
 ·cases h 
theorem Bends_spec {g:World} {p dp b:Nat} {s:StV} (n:UInt32) (hs:BetOk s b) (hn:s.txs.length≤68719476736):Spec Tryz.prog g 45 [.pointer (some ⟨p,0,none⟩),.int .u32 n.toNat] [Bs p dp s,TxsU TPB (delU s.txs n)] fun K R=>K (.tuple #[]) (Bs p dp (endsB s n)::TxsU TPB (delU s.txs n)::R):=by
 refine Spec.intro Tryz.func45 rfl Tryz.ntmps45 rfl fun R K hK=>?_
 refine WP.opn (Bs_op (p:=p) (dp:=dp) (s:=s)) fun x=>?_
 obtain ⟨lp,pp,mb⟩:=x
 dsimp only
 refine WP.seq<|WP.reg<|WL.e e_move<|WL.e e_nil<|WL.e (e_fa f89_2)<|WL.e (e_load a87)<|WL.e e_move ?_
 refine WL.h' (h_delete (k:=n) (kvs:=List.map kvU s.txs) Tryz.underlying87 (key_u32 Tryz.underlying48) ?_)
 rw [mdel_kvU]
 refine WL.next<|WP.seq<|WP.reg<|WL.e e_move<|WL.e e_nil<|WL.e (e_fa f89_2)<|WL.e (e_load a87) ?_
 refine WL.h (h_call (BVals_spec (m:=mb)) k120 ?_)
 intro b
 refine WL.h (h_call (SortedT_spec (b:=b) (m:=mb) (ts:=delU s.txs n) (Nat.le_trans delU_sub.length_le hn)) k119 ?_)
 rintro a3 n3 c3 ys ⟨hp,hso⟩
 have hle:∀ t ∈ delU s.txs n,t.x.at_≤UInt32.ofNat s.H.length:=fun t ht=>by rw [UInt32.le_iff_toNat_le,len32 hs.st];exact (hs.ats t (delU_sub.mem ht)).2
 have hfirst:=least_first hp hso hle
 obtain ⟨ht1,ht2,_⟩:=ends_trim hs n
 refine WL.e e_assign<|WL.next<|WP.seq<|WP.reg<|WL.e e_move<|WL.e e_nil<|WL.e (e_fa f89_1)<|WL.e (e_load a85) ?_
 refine WL.h (h_call (PNow_spec) k64 ?_)
 refine WL.e e_assign<|WL.next ?_
 refine WP.cutR (fun (_:Unit)=>[(5,.int .u32 (leastB (delU s.txs n) (UInt32.ofNat s.H.length)).toNat)]) (fun (_:Unit)=>cl p 89 [.pointer (some ⟨lp,0,none⟩),.pointer (some ⟨pp,0,none⟩),.map (some mb)]::cl lp 147 [.pointer (some ⟨dp,0,none⟩),.int .i64 s.at_]::Dk dp s.d::Pa pp s.H s.trim::Mp eU32 (.map (some mb)) (List.map kvU (delU s.txs n))::TxsU TPB (delU s.txs n)::R) [(0,_)] (fun (_:Unit)=>True) ?_ ?_
 ·skip
  refine WP.seq<|WP.reg<|WL.e e_move<|WL.e (el_len (xs:=ys) (enc:=ptrC) sl170 sl_rl)<|WL.e e_gtr<|WL.next ?_
  refine WP.cond rfl (fun h4=>?_) (fun h4=>?_)
  ·obtain ⟨y,ys,rfl⟩:∃ y zs,ys=y::zs:=by cases ys with
    | nil=>simp at h4
    | cons y zs=>exact ⟨y,zs,rfl⟩
   have hy0:y ∈ delU s.txs n:=hp.mem_iff.1 (by simp)
   obtain ⟨A0,B0,hAB0⟩:=mem_mid hy0
   simp only [List.head?_cons] at hfirst
   refine WP.opn (TxsU_out (TP:=TPB) hAB0) fun _=>?_
   refine WP.opn (TxB__op (t:=y)) fun x=>?_
   obtain ⟨s1,s2⟩:=x
   dsimp only
   refine WP.reg<|WL.e e_move<|WL.e (el_ia (j:=0) (xs:=y::ys) (enc:=ptrC) sl170 sl_rl (by simp))<|WL.e (el_load0 (j:=0) (xs:=y::ys) (a:=y) a100 ptrE sl_rl rfl)<|WL.e e_nil<|WL.e (e_fa f112_0)<|WL.e (e_load a48)<|WL.e e_assign<|WL.nil ?_
   obtain ⟨A1,B1,hAB⟩:=mem_mid hy0
   rw [hfirst]
   refine PO.cls (A:=TxB_ y) (B:=[cl y.q 112 [.int .u32 y.x.at_.toNat,s1.v,s2.v],Sl 110 2 SpanM.c s1.v y.x.looked,Sl 127 3 ChgM.c s2.v y.x.own]) (fun S h=>⟨(s1,s2),h⟩) ?_
   refine PO.cls (A:=TxsU TPB (delU s.txs n)) (B:=[TxB_ y,TxsU TPB (A0++B0)]) (fun S h=>hAB0 ▸ TxsU_in (TP:=TPB) (t:=y) S h) ?_
   exact PO.meetK () trivial
  ·obtain rfl:ys=[]:=by cases ys with
    | nil=>rfl
    | cons y zs=>simp at h4
   simp only [List.head?_nil] at hfirst
   refine WP.skip ?_
   rw [hfirst]
   exact PO.meetK () trivial
 ·intro _ _
  refine WP.reg<|WL.e e_move<|WL.e e_nil<|WL.e (e_fa f89_1)<|WL.e (e_load a85)<|WL.e e_move ?_
  refine WL.h (h_call (PTrim_spec (H:=s.H) (trim:=s.trim) (leastB (delU s.txs n) (UInt32.ofNat s.H.length)) ht1 (by rw [UInt32.le_iff_toNat_le,len32 hs.st] at ht2;exact ht2) (by have:=hs.st.hl;have:=hs.st.bb;omega)) k122 ?_)
  refine WL.nil<|PO.cls (A:=Bs p dp (endsB s n)) (B:=[cl p 89 [.pointer (some ⟨lp,0,none⟩),.pointer (some ⟨pp,0,none⟩),.map (some mb)],cl lp 147 [.pointer (some ⟨dp,0,none⟩),.int .i64 s.at_],Dk dp s.d,Pa pp s.H (leastB (delU s.txs n) (UInt32.ofNat s.H.length)),Mp eU32 (.map (some mb)) (List.map kvU (delU s.txs n))]) (fun S h=>⟨(lp,pp,mb),h⟩) ?_
  exact PO.fin Tryz.results45 rv_nil hK
theorem mine_spec {g:World} {A:HP} {q:Nat} {v0 v1 u:Value} {own:List ChgM} (hA:RL A 3 ChgM.c u own) (hn:own.length≤68719476736):Spec Tryz.prog g 135 [.pointer (some ⟨q,0,none⟩)] [cl q 112 [v0,v1,u],A] fun K R=>∀ m,K (.map (some m)) (Mp eStr (.map (some m)) (List.map kvC (mineL own))::cl q 112 [v0,v1,u]::A::R):=by
 refine Spec.intro Tryz.func135 rfl Tryz.ntmps135 rfl fun R K hK=>?_
 refine WP.seq<|WP.reg<|WL.e e_assign<|WL.next<|WP.seq<|WP.reg ?_
 refine WL.h (h_makeMapB (ek:=eStr) fun m=>?_)
 refine WL.e e_assign<|WL.next<|WP.seq<|WP.seq<|WP.reg<|WL.e e_move<|WL.e e_nil<|WL.e (e_fa f112_2)<|WL.e (e_load a91)<|WL.e (el_len (xs:=own) sl91 hA)<|WL.e e_move<|WL.next<|WP.block<|WP.loopK (fun (i:Nat)=>[(12,.int .i64 i)]) (fun (i:Nat)=>Mp eStr (.map (some m)) (List.map kvC (mineL (own.take i)))::cl q 112 [v0,v1,u]::A::R) [(2,_),(3,_),(10,_),(11,_)] (fun (i:Nat)=>i≤own.length) (fun (i:Nat)=>own.length - i) 0 (Nat.zero_le _) ?_
 intro i hi
 refine WP.seq<|WP.reg<|WL.e e_lss<|WL.next<|WP.seq ?_
 refine WP.cond rfl (fun h2=>?_) (fun h2=>?_)
 ·have hlt:i < own.length:=by rw [decide_eq_true_eq] at h2;omega
  obtain ⟨c,hc⟩:∃ c,own[i]?=some c:=⟨_,List.getElem?_eq_getElem hlt⟩
  refine WP.skip<|PO.next<|WP.seq<|WP.block<|WP.seq<|WP.reg<|WL.e (el_ia (xs:=own) sl91 hA hlt)<|WL.e (el_loadN (a:=c) a127 chgE hA hc) ?_
  refine WL.h (h_alloc z127 fun b1=>?_)
  refine WL.h' (h_store s127 ?_)
  refine WL.next<|WP.reg<|WL.e e_move<|WL.e (e_fa f127_0)<|WL.e (e_load a9)<|WL.e (e_loadN a127) ?_
  refine WL.h' (h_mapUpdate (k:=c.key) (kvs:=List.map kvC (mineL (own.take i))) Tryz.underlying184 (key_str Tryz.underlying9) ?_)
  refine WL.nil<|PO.blockN<|PO.next<|WP.reg<|WL.e (e_add rfl rfl (w_i64 (by omega) (by omega)))<|WL.e e_move<|WL.nil ?_
  rw [show mset (List.map kvC (mineL (own.take i))) c.key (.agg #[.string c.key,.int .u32 c.val.toNat,.bool c.gone])=List.map kvC (mineL (own.take (i+1))) by rw [take_snoc hc,mineL_snoc];exact mset_C _ c]
  exact PO.againK (i+1) (by omega) (by omega)
 ·rw [List.take_of_length_le (show own.length≤i by rw [decide_eq_false_iff_not] at h2;omega)]
  refine WP.exit<|PO.past nofun<|PO.round nofun<|PO.blockX<|PO.next<|WP.seq<|WP.reg<|WL.e e_move<|WL.e e_assign<|WL.next<|WP.ret ?_
  exact PO.fin Tryz.results135 (rv_tmp rv_nil) (hK m)
theorem ClipR_spec {g:World} {u:Value} {xs:List RowM}:Spec Tryz.prog g 138 [u] [Sl 142 2 RowM.c u xs] fun K R=>∀ a m c,K (.slice a m c) (Sl 142 2 RowM.c (.slice a m c) xs::R):=by
 refine Spec.intro Tryz.func138 rfl Tryz.ntmps138 rfl fun R K hK=>?_
 refine WP.seq<|WP.reg<|WL.e e_assign<|WL.next<|WP.seq<|WP.reg<|WL.e e_move<|WL.e e_move<|WL.e (el_len (xs:=xs) sl59 sl_rl)<|WL.e e_move<|WL.e (el_len (xs:=xs) sl59 sl_rl)<|WL.e (el_to3 (hi:=xs.length) (xs:=xs) sl59 sl_rl (Nat.le_refl _))<|WL.e e_assign<|WL.next<|WP.ret<|PO.conv (conv1 (A:=Sl 142 2 RowM.c u xs) (B:=Sl 142 2 RowM.c (subV u 0 xs.length (some xs.length) 2) xs) (fun S h=>by have h2:=sl_to3 (i:=xs.length) rowE h (Nat.le_refl _);rwa [List.take_length] at h2) (by repeat first | exact .z | apply Put.s)) ?_
 refine PO.sh (u:=subV u 0 xs.length (some xs.length) 2) fun a9 m9 c9 e9=>?_
 rw [e9]
 exact PO.fin Tryz.results138 (rv_tmp rv_nil) (hK a9 m9 c9)
set_option maxHeartbeats 4000000 in
theorem look_spec {g:World} {A:HP} {p dp b:Nat} {s:StV} {t:TxT} {v1 u:Value} (sp:SpanM) (hs:BetOk s b) (ht:t ∈ s.txs) (hA:RL A 3 ChgM.c u t.x.own) :
  Spec Tryz.prog g 56 [.pointer (some ⟨p,0,none⟩),.pointer (some ⟨t.q,0,none⟩),sp.v] [Bs p dp s,cl t.q 112 [.int .u32 t.x.at_.toNat,v1,u],A] fun K R=>∀ a m c,K (.slice a m c) (Sl 142 2 RowM.c (.slice a m c) (scanR (changeR (rowsN s.H t.x.at_.toNat) t.x.own) sp 256)::Bs p dp s::cl t.q 112 [.int .u32 t.x.at_.toNat,v1,u]::A::R):=by
 refine Spec.intro Tryz.func56 rfl Tryz.ntmps56 rfl fun R K hK=>?_
 refine WP.seq<|WP.reg ?_
 refine WL.h (h_box fun b1=>?_)
 refine WL.e e_assign<|WL.next<|WP.seq<|WP.reg<|WL.e e_move ?_
 refine WL.h (h_call (mine_spec (q:=t.q) hA (by have:=hs.st.own_le ht;have:=hs.st.bb;omega)) k135 ?_)
 intro mm
 have hbb:=hs.st.bb
 have hol:=hs.st.own_le ht
 obtain ⟨hta1,hta2⟩:=hs.ats t ht
 have hVl:(rowsN s.H t.x.at_.toNat).length≤b:=by have:=rowsN_len s.H t.x.at_.toNat;omega
 have hVr:=rowsN_rising s.H t.x.at_.toNat
 have hscan:(scanR (rowsN s.H t.x.at_.toNat) sp 2147483647)=(rowsN s.H t.x.at_.toNat).filter (fun r=>inSpan sp r.key):=by unfold scanR;exact List.take_of_length_le (Nat.le_trans (List.length_filter_le _ _) (by omega))
 have hscl:(scanR (rowsN s.H t.x.at_.toNat) sp 2147483647).length≤b:=by rw [hscan];exact Nat.le_trans (List.length_filter_le _ _) hVl
 have hml:=(mineL_ok t.x.own).2
 refine WL.opn (Bs_op (p:=p) (dp:=dp) (s:=s)) fun x=>?_
 obtain ⟨lp,pp,mb⟩:=x
 dsimp only
 refine WL.e e_assign<|WL.next<|WP.seq<|WP.seq<|WP.draws mixedOk 12<|RW.e 0 rfl e_move<|RW.e 1 rfl e_nil<|RW.e 2 rfl (e_fa f89_1)<|RW.e 3 rfl (e_load a85)<|RW.e 4 rfl e_move<|RW.e 5 rfl e_nil<|RW.e 6 rfl (e_fa f112_0)<|RW.e 7 rfl (e_load a48)<|RW.e 8 rfl (e_loadN a110)<|RW.e 11 rfl e_move ?_
 refine RW.any (is:=[9]) rfl ⟨?_,trivial⟩
 refine RWat.h rfl rfl rfl ?_
 refine (h_call (PScan_spec (p:=pp) (H:=s.H) (trim:=s.trim) t.x.at_ sp 2147483647 hta1 hta2 (by omega) (by have:=hs.st.hl;omega) (by decide)) k63 ?_)
 intro a2 m2 c2
 refine ⟨⟨⟨_,rfl,.inl ⟨rfl,e_move⟩⟩,trivial⟩,?_⟩
 refine RW.e 10 rfl (el_len (xs:=(scanR (rowsN s.H t.x.at_.toNat) sp 2147483647)) sl59 sl_rl)<|RW.done<|PO.next<|WP.block<|WP.nils 142 2 RowM.c none ?_
 refine WP.loopK (fun (x:Nat × SV)=>[(27,.int .i64 x.1),(6,x.2.v)]) (fun (x:Nat × SV)=>Sl 142 2 RowM.c x.2.v (List.filter (fun r=>(aget (mineL t.x.own) r.key).isNone) ((scanR (rowsN s.H t.x.at_.toNat) sp 2147483647).take x.1))::Sl 142 2 RowM.c (.slice a2 m2 c2) (scanR (rowsN s.H t.x.at_.toNat) sp 2147483647)::Mp eStr (.map (some mm)) (List.map kvC (mineL t.x.own))::cl p 89 [.pointer (some ⟨lp,0,none⟩),.pointer (some ⟨pp,0,none⟩),.map (some mb)]::cl lp 147 [.pointer (some ⟨dp,0,none⟩),.int .i64 s.at_]::Dk dp s.d::Pa pp s.H s.trim::Mp eU32 (.map (some mb)) (List.map kvU s.txs)::cl t.q 112 [.int .u32 t.x.at_.toNat,v1,u]::cl b1 110 sp.c::A::R) [(5,_),(7,_),(25,_),(26,_)] (fun (x:Nat × SV)=>x.1≤(scanR (rowsN s.H t.x.at_.toNat) sp 2147483647).length) (fun (x:Nat × SV)=>(scanR (rowsN s.H t.x.at_.toNat) sp 2147483647).length - x.1) (0,⟨none,0,0⟩) (Nat.zero_le _) ?_
 rintro ⟨i,w6⟩ hi
 simp only at hi
 dsimp only
 refine WP.seq<|WP.reg<|WL.e e_lss<|WL.next<|WP.seq ?_
 refine WP.cond rfl (fun h2=>?_) (fun h2=>?_)
 ·have hlt:i < (scanR (rowsN s.H t.x.at_.toNat) sp 2147483647).length:=by rw [decide_eq_true_eq] at h2;omega
  obtain ⟨r,hr⟩:∃ r,(scanR (rowsN s.H t.x.at_.toNat) sp 2147483647)[i]?=some r:=⟨_,List.getElem?_eq_getElem hlt⟩
  have hofl:(List.filter (fun r=>(aget (mineL t.x.own) r.key).isNone) ((scanR (rowsN s.H t.x.at_.toNat) sp 2147483647).take i)).length≤b:=Nat.le_trans (List.length_filter_le _ _) (Nat.le_trans (List.length_take_le _ _) (by omega))
  refine WP.skip<|PO.next<|WP.seq<|WP.block<|WP.seq<|WP.reg<|WL.e (el_ia (xs:=(scanR (rowsN s.H t.x.at_.toNat) sp 2147483647)) sl59 sl_rl hlt)<|WL.e (el_loadN (a:=r) a142 rowE sl_rl hr) ?_
  refine WL.h (h_alloc z142 fun b2=>?_)
  refine WL.h' (h_store s142 ?_)
  refine WL.next<|WP.seq<|WP.reg<|WL.e e_move<|WL.e (e_fa f142_0)<|WL.e (e_load a9)<|WL.e (e_lookC (k:=r.key) (l:=(mineL t.x.own)) Tryz.underlying184 (key_str Tryz.underlying9) zg127)<|WL.e e_move<|WL.e e_extract<|WL.e e_extract ?_
  refine WL.h (h_alloc z127 fun b3=>?_)
  refine WL.h' (h_store s127 ?_)
  refine WL.e e_assign<|WL.next<|WP.seq<|WP.reg<|WL.e e_move<|WL.e e_not<|WL.next ?_
  refine WP.cond rfl (fun h5=>?_) (fun h5=>?_)
  ·have hnone:(aget (mineL t.x.own) r.key).isNone=true:=by cases e:aget (mineL t.x.own) r.key with
    | none=>rfl
    | some c=>rw [e] at h5;cases h5
   refine WP.reg<|WL.e e_move<|WL.e (e_loadN a142) ?_
   refine WL.h (h_bs sl59 z142 (.a2 (.tmp 41) rfl<|.n) fun b4=>?_)
   refine WL.h (hl_append (xs:=(List.filter (fun r=>(aget (mineL t.x.own) r.key).isNone) ((scanR (rowsN s.H t.x.at_.toNat) sp 2147483647).take i))) (ys:=[r]) sl59 rowE z142 (lit_rl rowE [r] rfl) (by simp only [List.length_singleton];omega) (fun a5 n5 c5=>?_))
   refine WL.e e_assign<|WL.nil<|PO.blockN<|PO.next<|WP.reg<|WL.e (e_add rfl rfl (w_i64 (by omega) (by omega)))<|WL.e e_move<|WL.nil ?_
   rw [show (List.filter (fun r=>(aget (mineL t.x.own) r.key).isNone) ((scanR (rowsN s.H t.x.at_.toNat) sp 2147483647).take i))++[r]=(List.filter (fun r=>(aget (mineL t.x.own) r.key).isNone) ((scanR (rowsN s.H t.x.at_.toNat) sp 2147483647).take (i+1))) by rw [take_snoc hr,List.filter_append];simp [List.filter_cons,hnone]]
   exact PO.againK (i+1,⟨a5,n5,c5⟩) (by simp only;omega) (by simp only;omega)
  ·have hsome:(aget (mineL t.x.own) r.key).isNone=false:=by cases e:aget (mineL t.x.own) r.key with
    | none=>rw [e] at h5;cases h5
    | some c=>rfl
   refine WP.skip<|PO.blockN<|PO.next<|WP.reg<|WL.e (e_add rfl rfl (w_i64 (by omega) (by omega)))<|WL.e e_move<|WL.nil ?_
   rw [show (List.filter (fun r=>(aget (mineL t.x.own) r.key).isNone) ((scanR (rowsN s.H t.x.at_.toNat) sp 2147483647).take i))=(List.filter (fun r=>(aget (mineL t.x.own) r.key).isNone) ((scanR (rowsN s.H t.x.at_.toNat) sp 2147483647).take (i+1))) by rw [take_snoc hr,List.filter_append];simp [List.filter_cons,hsome]]
   exact PO.againK (i+1,w6) (by simp only;omega) (by simp only;omega)
 ·have hbase:(List.filter (fun r=>(aget (mineL t.x.own) r.key).isNone) ((scanR (rowsN s.H t.x.at_.toNat) sp 2147483647).take i))=baseL (rowsN s.H t.x.at_.toNat) sp (mineL t.x.own):=by rw [List.take_of_length_le (show (scanR (rowsN s.H t.x.at_.toNat) sp 2147483647).length≤i by rw [decide_eq_false_iff_not] at h2;omega),hscan,List.filter_filter];unfold baseL;congr 1;funext r;rw [Bool.and_comm]
  rw [hbase]
  refine WP.exit<|PO.past nofun<|PO.round nofun<|PO.blockX<|PO.next<|WP.seq<|WP.seq<|WP.reg<|WL.e e_move ?_
  refine WL.h (h_range (kvs:=List.map kvC (mineL t.x.own)) Tryz.underlying184 fun it=>?_)
  refine WL.next<|WP.block<|WP.loopK (fun (x:Mine × List RowM × SV × Option (ByteArray × Value))=>[(6,x.2.2.1.v)]) (fun (x:Mine × List RowM × SV × Option (ByteArray × Value))=>Sl 142 2 RowM.c x.2.2.1.v x.2.1::MpIt eStr (.map (some mm)) it (List.map kvC (mineL t.x.own)) (List.map kvC x.1) x.2.2.2::cl p 89 [.pointer (some ⟨lp,0,none⟩),.pointer (some ⟨pp,0,none⟩),.map (some mb)]::cl lp 147 [.pointer (some ⟨dp,0,none⟩),.int .i64 s.at_]::Dk dp s.d::Pa pp s.H s.trim::Mp eU32 (.map (some mb)) (List.map kvU s.txs)::cl t.q 112 [.int .u32 t.x.at_.toNat,v1,u]::cl b1 110 sp.c::A::R) [(5,_),(46,_)] (fun (x:Mine × List RowM × SV × Option (ByteArray × Value))=>(x.2.1++entL sp x.1).Perm (baseL (rowsN s.H t.x.at_.toNat) sp (mineL t.x.own)++entL sp (mineL t.x.own))∧x.2.1.length+x.1.length≤2 * b) (fun (x:Mine × List RowM × SV × Option (ByteArray × Value))=>x.1.length) ((mineL t.x.own),baseL (rowsN s.H t.x.at_.toNat) sp (mineL t.x.own),w6,none) (⟨.refl _,by have:(baseL (rowsN s.H t.x.at_.toNat) sp (mineL t.x.own)).length≤b:=Nat.le_trans (List.length_filter_le _ _) hVl;simp only;omega⟩) ?_
  rintro ⟨left,o,w7,cur⟩ ⟨hx1,hx2⟩
  simp only at hx1 hx2
  dsimp only
  refine WP.seq<|WP.reg ?_
  refine WL.h (h_next (fun h0=>?_) (fun a y0 b0 hx=>?_))
  ·have hl0:left=[]:=by simpa using h0
   subst hl0
   have hpo:o.Perm (baseL (rowsN s.H t.x.at_.toNat) sp (mineL t.x.own)++entL sp (mineL t.x.own)):=by simpa [entL] using hx1
   obtain ⟨a6,n6,c6⟩:=w7
   refine WL.e e_extract<|WL.next<|WP.seq<|WP.cond_f rfl<|WP.exit<|PO.past nofun<|PO.round nofun<|PO.blockX<|PO.next<|WP.seq<|WP.reg<|WL.e e_move ?_
   refine WL.h (h_call (SortR_spec (xs:=o) (by simp only [List.length_nil] at hx2;omega)) k136 ?_)
   rintro ys ⟨hy1,hy2⟩
   obtain rfl:=look_sorted hVr t.x.own sp (hy1.trans hpo) hy2
   generalize hzs:(changeR (rowsN s.H t.x.at_.toNat) t.x.own).filter (fun r=>inSpan sp r.key)=zs at *
   have hzl:zs.length≤2 * b:=by rw [hy1.length_eq];simpa using hx2
   have h256:scanR (changeR (rowsN s.H t.x.at_.toNat) t.x.own) sp 256=zs.take (min zs.length 256):=by unfold scanR;rw [hzs,List.take_eq_take_min,Nat.min_comm]
   refine WL.next<|WP.seq<|WP.reg<|WL.e e_move<|WL.e e_move<|WL.e (el_len (xs:=zs) sl59 sl_rl)<|WL.e (e_minN (a:=zs.length) (b:=256))<|WL.e (el_to (hi:=min zs.length 256) (xs:=zs) sl59 sl_rl (Nat.min_le_left _ _)) ?_
   refine WL.h (h_call (CloneR_spec (RL.to_ rowE (sl_rl (E:=142) (u:=.slice a6 n6 c6) (xs:=zs)) (Nat.min_le_left _ _)) (by rw [List.length_take];omega)) k139 ?_)
   intro a8 m8 c8
   refine WL.h (h_call (ClipR_spec) k138 ?_)
   intro a9 m9 c9
   refine WL.e e_assign<|WL.next<|WP.ret ?_
   rw [h256] at hK
   refine PO.cls (A:=Bs p dp (s)) (B:=[cl p 89 [.pointer (some ⟨lp,0,none⟩),.pointer (some ⟨pp,0,none⟩),.map (some mb)],cl lp 147 [.pointer (some ⟨dp,0,none⟩),.int .i64 s.at_],Dk dp s.d,Pa pp s.H s.trim,Mp eU32 (.map (some mb)) (List.map kvU s.txs)]) (fun S h=>⟨(lp,pp,mb),h⟩) ?_
   exact PO.fin Tryz.results56 (rv_tmp rv_nil) (hK a9 m9 c9)
  ·obtain ⟨A1,y,B1,hl,rfl,rfl,rfl⟩:=map_mid hx
   have hol2:o.length+1≤2 * b:=by simp only [hl,List.length_append,List.length_cons] at hx2;omega
   refine WL.e e_extract<|WL.next<|WP.seq<|WP.cond_t rfl<|WP.skip<|PO.next<|WP.block<|WP.seq<|WP.reg<|WL.e e_entry<|WL.e e_extract<|WL.e e_extract ?_
   refine WL.h (h_alloc z127 fun b5=>?_)
   refine WL.e e_assign ?_
   refine WL.h' (h_store s127 ?_)
   refine WL.next<|WP.seq<|WP.reg<|WL.e (e_fa f127_2)<|WL.e (e_load a4)<|WL.e e_not<|WL.e e_move ?_
   refine WL.bool 55 rfl (fun h7=>?_) (fun h7=>?_)
   ·have hng:y.2.gone=false:=by simpa using h7
    refine WL.e e_move<|WL.e e_move<|WL.e (e_build z110 p110 (.o (.tmp 56) rfl<|.o (.tmp 57) rfl<|.n))<|WL.e (e_loadN a110) ?_
    refine WL.h (h_call (Meet_spec ⟨_,_⟩ ⟨_,_⟩) k118 ?_)
    refine WL.e e_pick_t<|WL.next ?_
    refine WP.cond rfl (fun h8=>?_) (fun h8=>?_)
    ·replace h8:inSpan sp y.1=true:=by rw [← meet_one];exact h8
     refine WP.reg<|WL.e e_move<|WL.e e_move<|WL.e (e_fa f127_1)<|WL.e (e_load a48)<|WL.e (e_build z142 p142 (.o (.tmp 63) rfl<|.o (.tmp 65) rfl<|.n)) ?_
     refine WL.h (h_bs sl59 z142 (.a2 (.tmp 66) rfl<|.n) fun b6=>?_)
     refine WL.h (hl_append (xs:=o) (ys:=[(⟨y.1,y.2.val⟩:RowM)]) sl59 rowE z142 (lit_rl rowE [(⟨y.1,y.2.val⟩:RowM)] rfl) (by simp only [List.length_singleton];omega) (fun a5 n5 c5=>?_))
     refine WL.e e_assign<|WL.nil<|PO.blockN ?_
     rw [← List.map_append]
     exact PO.againK (A1++B1,o++[⟨y.1,y.2.val⟩],⟨a5,n5,c5⟩,_) ⟨by simp only;rw [entL_app,List.append_assoc];refine List.Perm.trans ?_ hx1;rw [hl,entL_mid,if_pos (by simp [hng,h8])];exact List.Perm.append_left _ (List.perm_append_comm_assoc _ _ _),by simp only [hl,List.length_append,List.length_cons,List.length_nil] at hx2 ⊢;omega⟩ (by simp only [hl,List.length_append,List.length_cons];omega)
    ·replace h8:inSpan sp y.1=false:=by rw [← meet_one];exact h8
     refine WP.skip<|PO.blockN ?_
     rw [← List.map_append]
     exact PO.againK (A1++B1,o,w7,_) ⟨by simp only;rw [entL_app];rw [hl,entL_mid,if_neg (by simp [h8])] at hx1;exact hx1,by simp only [hl,List.length_append,List.length_cons] at hx2 ⊢;omega⟩ (by simp only [hl,List.length_append,List.length_cons];omega)
   ·have hng:y.2.gone=true:=by simpa using h7
    refine WL.skip<|WL.skip<|WL.skip<|WL.skip<|WL.skip<|WL.e e_pick_f<|WL.next<|WP.cond_f rfl<|WP.skip<|PO.blockN ?_
    rw [← List.map_append]
    exact PO.againK (A1++B1,o,w7,_) ⟨by simp only;rw [entL_app];rw [hl,entL_mid,if_neg (by simp [hng])] at hx1;exact hx1,by simp only [hl,List.length_append,List.length_cons] at hx2 ⊢;omega⟩ (by simp only [hl,List.length_append,List.length_cons];omega)
end Go.SL
namespace Go.SL.Fc
open Go Go.Proofs Go.SL
theorem a156:aggOf Tryz.prog 156=some none:=by kernel_rfl
theorem a159:aggOf Tryz.prog 159=some none:=by kernel_rfl
theorem f265_0:fldOf Tryz.prog 265 0=some 0:=by kernel_rfl
theorem f265_1:fldOf Tryz.prog 265 1=some 1:=by kernel_rfl
theorem k111:callable Tryz.prog 111=true:=by kernel_rfl
theorem k112:callable Tryz.prog 112=true:=by kernel_rfl
theorem k113:callable Tryz.prog 113=true:=by kernel_rfl
theorem k114:callable Tryz.prog 114=true:=by kernel_rfl
theorem k177:callable Tryz.prog 177=true:=by kernel_rfl
theorem k178:callable Tryz.prog 178=true:=by kernel_rfl
theorem k179:callable Tryz.prog 179=true:=by kernel_rfl
theorem k46:callable Tryz.prog 46=true:=by kernel_rfl
theorem p265:placesOf Tryz.prog 265=some [(0,1),(1,1)]:=by kernel_rfl
theorem s156:szOf Tryz.prog 156=some 1:=by kernel_rfl
theorem z156:zeroOf Tryz.prog 156=some [.pointer none]:=by kernel_rfl
theorem z265:zeroOf Tryz.prog 265=some [.slice none 0 0,.bool false]:=by kernel_rfl
end Go.SL.Fc
namespace Go.SL
open Go Go.Proofs Fc
theorem recs_rl {l:List RecV} {x:RecV} (h:x ∈ l):RL (RecsR l) 1 eB x.1.v x.2.1:=fun S hS=>by
 obtain ⟨T,h1,h2⟩:=mem_stars (List.mem_map.2 ⟨x,h,rfl⟩:recR x ∈ l.map recR) S hS
 exact rds_mono (sl_rl T h2) h1
theorem take_spec {g:World} {A:HP} {r:Nat} {v:SV} {xs rest:List UInt8} (n:Nat) (hn:xs.length=n) (hA:RL A 1 eB v.v (xs++rest)):Spec Tryz.prog g 179 [.pointer (some ⟨r,0,none⟩),.int .i64 n] [cl r 265 [v.v,.bool false],A] fun K R=>∀ y w:SV,RL A 1 eB y.v xs→RL A 1 eB w.v rest→K y.v (cl r 265 [w.v,.bool false]::A::R):=by
 refine Spec.intro Tryz.func179 rfl Tryz.ntmps179 rfl fun R K hK=>?_
 refine WP.seq<|WP.reg<|WL.e e_assign<|WL.next<|WP.seq<|WP.seq<|WP.reg<|WL.e e_move<|WL.e e_move<|WL.e e_nil<|WL.e (e_fa f265_0)<|WL.e (e_load a90)<|WL.e (el_len sl90 hA)<|WL.e e_gtr<|WL.next ?_
 refine WP.cond rfl (fun h=>?_) (fun h=>?_)
 ·(rw [decide_eq_true_eq] at h;simp at h;omega)
 ·have hle:n≤(xs++rest).length:=by simp;omega
  refine WP.skip<|PO.next<|WP.seq<|WP.draws mixedOk 17<|RW.e 0 rfl e_move<|RW.e 1 rfl e_move<|RW.e 2 rfl e_nil<|RW.e 3 rfl (e_fa f265_0)<|RW.e 4 rfl (e_load a90)<|RW.e 5 rfl e_move<|RW.e 6 rfl (el_to (hi:=n) sl90 hA hle)<|RW.e 7 rfl e_move<|RW.e 8 rfl e_nil<|RW.e 9 rfl (e_fa f265_0)<|RW.e 10 rfl (e_load a90)<|RW.e 11 rfl e_move<|RW.e 12 rfl (el_from (lo:=n) sl90 hA hle)<|RW.e 13 rfl e_assign<|RW.e 14 rfl e_nil<|RW.e 15 rfl (e_fa f265_0) ?_
  refine RW.any (is:=[16]) rfl ⟨?_,trivial⟩
  refine RWat.h' rfl rfl rfl ?_
  refine (h_store s90 ?_)
  refine ⟨trivial,?_⟩
  refine RW.done<|PO.next<|WP.seq<|WP.reg<|WL.e e_move<|WL.e e_assign<|WL.next<|WP.ret ?_
  exact PO.fin Tryz.results179 (rv_tmp rv_nil) (hK (subS v 0 n 1) (subS v n (xs++rest).length 1) (by have:=RL.to_ eB_ok hA hle;rwa [List.take_left' hn] at this) (by have:=RL.from_ eB_ok hA hle;rwa [List.drop_left' hn] at this))
theorem rnumber_spec {g:World} {A:HP} {r:Nat} {v:SV} {xs rest:List UInt8} (n:Nat) (hn:xs.length=n) (hA:RL A 1 eB v.v (xs++rest)) (hb:n≤4):Spec Tryz.prog g 114 [.pointer (some ⟨r,0,none⟩),.int .i64 n] [cl r 265 [v.v,.bool false],A] fun K R=>∀ w:SV,RL A 1 eB w.v rest→K (.int .u32 (beN xs).toNat) (cl r 265 [w.v,.bool false]::A::R):=by
 refine Spec.intro Tryz.func114 rfl Tryz.ntmps114 rfl fun R K hK=>?_
 refine WP.seq<|WP.reg<|WL.e e_assign<|WL.next<|WP.seq<|WP.seq<|WP.reg<|WL.e e_move<|WL.e e_move ?_
 refine WL.h (h_call (take_spec n hn hA) k179 ?_)
 intro y w hy hw
 refine WL.e (el_len sl90 hy)<|WL.e e_move<|WL.next<|WP.block<|WP.loopK (fun (x:Nat × UInt32)=>[(11,.int .i64 x.1),(4,.int .u32 x.2.toNat)]) (fun (x:Nat × UInt32)=>cl r 265 [w.v,.bool false]::A::R) [(9,_),(10,_)] (fun (x:Nat × UInt32)=>x.1≤xs.length∧x.2=beN (xs.take x.1)) (fun (x:Nat × UInt32)=>xs.length - x.1) (0,0) (⟨Nat.zero_le _,by simp [beN]⟩) ?_
 rintro ⟨x,m⟩ ⟨hx1,hx2⟩
 simp only at hx1 hx2
 dsimp only
 refine WP.seq<|WP.reg<|WL.e e_lss<|WL.next<|WP.seq ?_
 refine WP.cond rfl (fun h2=>?_) (fun h2=>?_)
 ·have hlt:x < xs.length:=by simp at h2;omega
  obtain ⟨c,hc⟩:∃ c,xs[x]?=some c:=⟨_,List.getElem?_eq_getElem hlt⟩
  refine WP.skip<|PO.next<|WP.seq<|WP.block<|WP.seq<|WP.reg<|WL.e (el_ia sl90 hy hlt)<|WL.e (el_load0 a5 eB_ok hy hc)<|WL.e e_assign<|WL.next<|WP.reg<|WL.e e_move<|WL.e (e_shl32 (m:=8) (by decide))<|WL.e e_move<|WL.e (e_c8to32 (by rw [Tryz.underlying5];rfl) Tryz.underlying48)<|WL.e e_or32<|WL.e e_assign<|WL.nil<|PO.blockN<|PO.next<|WP.reg<|WL.e (e_add rfl rfl (w_i64 (by omega) (by omega)))<|WL.e e_move<|WL.nil ?_
  exact PO.againK (x+1,(m <<< 8) ||| c.toUInt32) ⟨by simp only;omega,by simp only;rw [take_snoc hc,beN_snoc,← hx2]⟩ (by simp only;omega)
 ·obtain rfl:m=beN xs:=by rw [hx2,List.take_of_length_le (by simp at h2;omega)]
  refine WP.exit<|PO.past nofun<|PO.round nofun<|PO.blockX<|PO.next<|WP.seq<|WP.reg<|WL.e e_move<|WL.e e_assign<|WL.next<|WP.ret ?_
  exact PO.fin Tryz.results114 (rv_tmp rv_nil) (hK w hw)
theorem rtext_spec {g:World} {A:HP} {r:Nat} {v:SV} {rest:List UInt8} (s:ByteArray) (hs:s.size < 256) (hA:RL A 1 eB v.v (textB s++rest)):Spec Tryz.prog g 113 [.pointer (some ⟨r,0,none⟩)] [cl r 265 [v.v,.bool false],A] fun K R=>∀ w:SV,RL A 1 eB w.v rest→K (.string s) (cl r 265 [w.v,.bool false]::A::R):=by
 refine Spec.intro Tryz.func113 rfl Tryz.ntmps113 rfl fun R K hK=>?_
 refine WP.seq<|WP.reg<|WL.e e_assign<|WL.next<|WP.seq<|WP.reg<|WL.e e_move<|WL.e e_move ?_
 refine WL.h (h_call (rnumber_spec (xs:=[UInt8.ofNat s.size]) (rest:=bytesOf s++rest) 1 rfl hA (by decide)) k114 ?_)
 intro w hw
 rw [beN_num1 _ hs]
 refine WL.e (e_conv (c:=(s.size:Int)) (by rw [Tryz.underlying48];rfl) Tryz.underlying3 rfl (w_i64 (by omega) (by omega))) ?_
 refine WL.h (h_call (take_spec (xs:=bytesOf s) (rest:=rest) s.size (bytesOf_len s) hw) k179 ?_)
 intro y w2 hy hw2
 refine WL.e (e_b2s Tryz.underlying90 Tryz.underlying5 Tryz.underlying9 hy)<|WL.e e_assign<|WL.next<|WP.ret ?_
 rw [textOf_bytes]
 exact PO.fin Tryz.results113 (rv_tmp rv_nil) (hK w2 hw2)
theorem chg1_spec {g:World} {A:HP} {r:Nat} {v:SV} {rest:List UInt8} (c:ChgM) (hc:chgOk c=true) (hA:RL A 1 eB v.v (chgB c++rest)):Spec Tryz.prog g 112 [.pointer (some ⟨r,0,none⟩)] [cl r 265 [v.v,.bool false],A] fun K R=>∀ w:SV,RL A 1 eB w.v rest→K c.v (cl r 265 [w.v,.bool false]::A::R):=by
 have hks:=chg_size hc
 refine Spec.intro Tryz.func112 rfl Tryz.ntmps112 rfl fun R K hK=>?_
 refine WP.seq<|WP.reg ?_
 refine WL.h (h_alloc z127 fun b1=>?_)
 refine WL.next<|WP.seq<|WP.reg<|WL.e e_move ?_
 refine WL.h (h_call (rtext_spec (rest:=[if c.gone then (1:UInt8) else 0]++(numB c.val 4++rest)) c.key hks (by have h0:=hA;simpa [chgB] using h0)) k113 ?_)
 intro w1 hw1
 refine WL.e (e_fa f127_0) ?_
 refine WL.h' (h_store s9 ?_)
 refine WL.next<|WP.seq<|WP.reg<|WL.e e_move ?_
 refine WL.h (h_call (rnumber_spec (xs:=[if c.gone then (1:UInt8) else 0]) (rest:=numB c.val 4++rest) 1 rfl hw1 (by decide)) k114 ?_)
 intro w2 hw2
 refine WL.e (e_eql32 (b:=1))<|WL.e (e_fa f127_2) ?_
 refine WL.h' (h_store s4 ?_)
 refine WL.next<|WP.seq<|WP.reg<|WL.e e_move ?_
 refine WL.h (h_call (rnumber_spec (xs:=numB c.val 4) (rest:=rest) 4 (numB_len _ _) hw2 (by decide)) k114 ?_)
 intro w3 hw3
 rw [beN_num4,gone_back c]
 refine WL.e (e_fa f127_1) ?_
 refine WL.h' (h_store s48 ?_)
 refine WL.next<|WP.seq<|WP.reg<|WL.e (e_loadN a127) ?_
 refine WL.h' (h_store s127 ?_)
 refine WL.next<|WP.ret ?_
 exact PO.fin Tryz.results112 (rv_cellN a127 rv_nil) (hK w3 hw3)
def GetJ (b4 b8 r:Nat) (y:Value):HP:=fun S=>∃ _:Unit,stars [cl b4 159 [y],cl b8 156 [.pointer (some ⟨r,0,none⟩)]] S
theorem get1_spec {g:World} {A:HP} {r b4 b8:Nat} {y:Value} {v:SV} {rest:List UInt8} (h1:∀ c rest (v:SV),chgOk c=true→RL A 1 eB v.v (chgB c++rest)→CallV Tryz.prog g y [.pointer (some ⟨r,0,none⟩)] [cl r 265 [v.v,.bool false],A] fun K R=>∀ w:SV,RL A 1 eB w.v rest→K c.v (cl r 265 [w.v,.bool false]::A::R)) (c:ChgM) (hc:chgOk c=true) (hA:RL A 1 eB v.v (chgB c++rest)):Spec Tryz.prog g 178 [.pointer (some ⟨b4,0,none⟩),.pointer (some ⟨b8,0,none⟩)] [GetJ b4 b8 r y,cl r 265 [v.v,.bool false],A] fun K R=>∀ w:SV,RL A 1 eB w.v rest→K c.v (GetJ b4 b8 r y::cl r 265 [w.v,.bool false]::A::R):=by
 refine Spec.intro Tryz.func178 rfl Tryz.ntmps178 rfl fun R K hK=>?_
 refine WP.opn (B:=fun _:Unit=>[cl b4 159 [y],cl b8 156 [.pointer (some ⟨r,0,none⟩)]]) (fun _ h=>h) fun _=>?_
 refine WP.seq<|WP.reg ?_
 refine WL.h (h_alloc z127 fun b1=>?_)
 refine WL.next<|WP.seq<|WP.reg<|WL.e (e_load a159)<|WL.e (e_load a156) ?_
 refine WL.h (h_cally (h1 c rest v hc hA) ?_)
 intro w hw
 refine WL.h' (h_store s127 ?_)
 refine WL.next<|WP.ret<|PO.cls (A:=GetJ b4 b8 r y) (B:=[cl b4 159 [y],cl b8 156 [.pointer (some ⟨r,0,none⟩)]]) (fun S h=>⟨(),h⟩) ?_
 exact PO.fin Tryz.results178 (rv_cellN a127 rv_nil) (hK w hw)
theorem several_spec {g:World} {A B:HP} {r:Nat} {y:Value} {v:SV} {l:List ChgM} (h2:∀ c rest (v:SV),chgOk c=true→RL A 1 eB v.v (chgB c++rest)→CallV Tryz.prog g y [] [B,cl r 265 [v.v,.bool false],A] fun K R=>∀ w:SV,RL A 1 eB w.v rest→K c.v (B::cl r 265 [w.v,.bool false]::A::R)) (hl:l.length≤4096) (hok:∀ c ∈ l,chgOk c=true) (hA:RL A 1 eB v.v (chgsB l)):Spec Tryz.prog g 177 [.pointer (some ⟨r,0,none⟩),y] [B,cl r 265 [v.v,.bool false],A] fun K R=>∀ a m c (w:SV),K (.slice a m c) (Sl 127 3 ChgM.c (.slice a m c) l::B::cl r 265 [w.v,.bool false]::A::R):=by
 have hln:(UInt32.ofNat l.length).toNat=l.length:=by rw [UInt32.toNat_ofNat'];exact Nat.mod_eq_of_lt (by omega)
 refine Spec.intro Tryz.func177 rfl Tryz.ntmps177 rfl fun R K hK=>?_
 refine WP.seq<|WP.reg<|WL.e e_assign<|WL.next<|WP.seq<|WP.seq<|WP.reg<|WL.e e_move ?_
 refine WL.h (h_call (rnumber_spec (xs:=numB (UInt32.ofNat l.length) 2) (rest:=l.flatMap chgB) 2 (numB_len _ _) hA (by decide)) k114 ?_)
 intro w hw
 rw [beN_num2 _ (by rw [hln];omega),hln]
 refine WL.e e_assign<|WL.next<|WP.block<|WP.nils 127 3 ChgM.c none ?_
 refine WP.loopK (fun (x:Nat × SV × SV)=>[(5,.int .u32 ((l.length - x.1:Nat):Int)),(4,x.2.1.v)]) (fun (x:Nat × SV × SV)=>Sl 127 3 ChgM.c x.2.1.v (l.take x.1)::B::cl r 265 [x.2.2.v,.bool false]::A::R) [(0,_),(1,_)] (fun (x:Nat × SV × SV)=>x.1≤l.length∧RL A 1 eB x.2.2.v ((l.drop x.1).flatMap chgB)) (fun (x:Nat × SV × SV)=>l.length - x.1) (0,⟨none,0,0⟩,w) (⟨Nat.zero_le _,hw⟩) ?_
 rintro ⟨i,w4,w⟩ ⟨hi,hw⟩
 simp only at hi hw
 dsimp only
 refine WP.seq<|WP.seq<|WP.reg<|WL.e e_move<|WL.e e_gtr<|WL.e e_move ?_
 refine WL.join 16 (.bool (decide (i < l.length))) (.c (.c (.c (.c (.c (.c .n)))))) ?_ ?_
 ·refine WL.bool 10 rfl (fun hg=>?_) (fun hg=>?_)
  ·skip
   refine WL.e e_move<|WL.e e_nil<|WL.e (e_fa f265_1)<|WL.e (e_load a4)<|WL.e e_not<|WL.e e_pick_t ?_
   exact WL.nil (PO.joined rfl (by rw [decide_eq_true_eq] at hg;simp;omega))
  ·skip
   refine WL.skip<|WL.skip<|WL.skip<|WL.skip<|WL.skip<|WL.e e_pick_f ?_
   exact WL.nil (PO.joined rfl (by rw [decide_eq_false_iff_not] at hg;simp;omega))
 refine WL.next ?_
 refine WP.cond rfl (fun h3=>?_) (fun h3=>?_)
 ·have hlt:i < l.length:=of_decide_eq_true h3
  obtain ⟨x,hx⟩:∃ x,l[i]?=some x:=⟨_,List.getElem?_eq_getElem hlt⟩
  rw [drop_cons hx,List.flatMap_cons] at hw
  refine WP.skip<|PO.next<|WP.seq<|WP.block<|WP.reg<|WL.e e_move<|WL.e e_move ?_
  refine WL.h (h_cally (h2 x ((l.drop (i+1)).flatMap chgB) w (hok x (List.mem_of_getElem? hx)) hw) ?_)
  intro w2 hw2
  refine WL.h (h_bs sl91 z127 (.a3 (.tmp 21) rfl<|.n) fun b1=>?_)
  refine WL.h (hl_append (xs:=l.take i) (ys:=[x]) sl91 chgE z127 (lit_rl chgE [x] rfl) (by simp;omega) (fun a2 n2 c2=>?_))
  rw [show l.take i++[x]=l.take (i+1) from (take_snoc hx).symm]
  refine WL.e e_assign<|WL.nil<|PO.blockN<|PO.next<|WP.reg<|WL.e e_move<|WL.e (e_sub (c:=((l.length - (i+1):Nat):Int)) rfl rfl (by rw [w_u32 (by omega) (by omega)];omega))<|WL.e e_assign<|WL.nil ?_
  exact PO.againK (i+1,⟨a2,n2,c2⟩,w2) ⟨by simp only;omega,hw2⟩ (by simp only;omega)
 ·replace h3:=of_decide_eq_false h3
  rw [List.take_of_length_le (show l.length≤i by omega)]
  refine WP.exit<|PO.past nofun<|PO.round nofun<|PO.blockX<|PO.next<|WP.seq<|WP.reg<|WL.e e_move<|WL.e e_assign<|WL.next<|WP.ret<|PO.sh (u:=w4.v) ?_
  rintro a1 n1 c1 e1
  exact PO.fin Tryz.results177 (rv_tmp rv_nil) (by have h9:=hK w4.a w4.n w4.c w;exact h9)
theorem rget_spec {g:World} {A:HP} {fn:Fn} {y2:Value} {v:SV} {l:List ChgM} (h1:∀ r c rest (v:SV),chgOk c=true→RL A 1 eB v.v (chgB c++rest)→CallV Tryz.prog g (.func fn #[] #[]) [.pointer (some ⟨r,0,none⟩)] [cl r 265 [v.v,.bool false],A] fun K R=>∀ w:SV,RL A 1 eB w.v rest→K c.v (cl r 265 [w.v,.bool false]::A::R)) (h3:∀ (l:List ChgM) (u:SV),l.length≤4096→l.all chgOk=true→CallV Tryz.prog g y2 [u.v] [Sl 127 3 ChgM.c u.v l] fun K R=>∀ a m c,K (.tuple #[.slice a m c,.int .i64 0]) (Sl 5 1 eB (.slice a m c) (chgsB l)::Sl 127 3 ChgM.c u.v l::R)) (hl:l.length≤4096) (hok:∀ c ∈ l,chgOk c=true) (hA:RL A 1 eB v.v (chgsB l)):Spec Tryz.prog g 111 [v.v,(.func fn #[] #[]),y2] [A] fun K R=>∀ a m c,K (.tuple #[.slice a m c,.int .i64 0]) (Sl 127 3 ChgM.c (.slice a m c) l::A::R):=by
 refine Spec.intro Tryz.func111 rfl Tryz.ntmps111 rfl fun R K hK=>?_
 refine WP.seq<|WP.reg ?_
 refine WL.h (h_box fun b1=>?_)
 refine WL.e e_assign<|WL.e e_assign<|WL.next<|WP.seq<|WP.reg<|WL.e e_move<|WL.e (e_build z265 p265 (.o (.tmp 12) rfl<|.z (.bool false)<|.n)) ?_
 refine WL.h (h_box fun b2=>?_)
 refine WL.h (h_alloc z156 fun b3=>?_)
 refine WL.h' (h_store s156 ?_)
 refine WL.next<|WP.seq<|WP.reg<|WL.e (e_load a156)<|WL.e e_makeFunc<|WL.cls (A:=GetJ b1 b3 b2 (.func fn #[] #[])) (B:=[cl b1 159 [(.func fn #[] #[])],cl b3 156 [.pointer (some ⟨b2,0,none⟩)]]) (fun S h=>⟨(),h⟩) ?_
 refine WL.h (h_call (several_spec (y:=.func (.func 178) #[] #[.pointer (some ⟨b1,0,none⟩),.pointer (some ⟨b3,0,none⟩)]) (fun c rest v hc hr=>CallV.of_spec (fs:=[]) (cs:=[.pointer (some ⟨b1,0,none⟩),.pointer (some ⟨b3,0,none⟩)]) (get1_spec (h1 b2) c hc hr) k178) hl hok hA) k177 ?_)
 intro a5 n5 c5 w
 refine WL.opn (B:=fun _:Unit=>[cl b1 159 [(.func fn #[] #[])],cl b3 156 [.pointer (some ⟨b2,0,none⟩)]]) (fun _ h=>h) fun _=>?_
 refine WL.e e_assign<|WL.next<|WP.seq<|WP.reg<|WL.e e_move<|WL.e e_move ?_
 refine WL.h (h_cally (h3 l ⟨a5,n5,c5⟩ hl (List.all_eq_true.2 hok)) ?_)
 intro a6 n6 c6
 refine WL.e e_move<|WL.e e_extract<|WL.e e_extract<|WL.e e_assign<|WL.e e_assign<|WL.next<|WP.seq<|WP.seq<|WP.reg<|WL.e (e_load a156)<|WL.e e_nil<|WL.e (e_fa f265_1)<|WL.e (e_load a4)<|WL.e e_move ?_
 refine WL.bool 28 rfl (fun y1=>?_) (fun y1=>?_)
 ·exact absurd y1 (by decide) 
 ·skip
  refine WL.e e_move<|WL.e e_neq<|WL.e e_pick_f<|WL.e e_move ?_
  refine WL.bool 32 rfl (fun y2=>?_) (fun y2=>?_)
  ·exact absurd y2 (by decide) 
  ·skip
   refine WL.e e_move<|WL.e e_move ?_
   refine WL.h (h_call (BEqual_spec hA (sl_rl (xs:=chgsB l))) k108 ?_)
   rw [beq_self_eq_true]
   refine WL.e e_not<|WL.e e_pick_f<|WL.next<|WP.cond_f rfl<|WP.skip<|PO.next<|WP.seq<|WP.reg<|WL.e e_move<|WL.e e_assign<|WL.e e_assign<|WL.next<|WP.ret ?_
   exact PO.fin Tryz.results111 (rv_tmp (rv_tmp rv_nil)) (hK a5 n5 c5)
theorem putc_call {g:World} (l:List ChgM) (u:SV) (h1:l.length≤4096) (h2:l.all chgOk=true):CallV Tryz.prog g (.func (.func 46) #[] #[]) [u.v] [Sl 127 3 ChgM.c u.v l] fun K R=>∀ a m c,K (.tuple #[.slice a m c,.int .i64 0]) (Sl 5 1 eB (.slice a m c) (chgsB l)::Sl 127 3 ChgM.c u.v l::R):=fun R K w r hw hT=>by
 have hcl:=(chgs_len l).2 fun c hc=>List.all_eq_true.1 h2 c hc
 have hn:l.length≤68719476736:=by omega
 have hb:2+(l.flatMap chgB).length≤68719476736:=by omega
 have hs:=PutChanges_spec (g:=g) (A:=Sl 127 3 ChgM.c u.v l) (u:=u.v) (l:=l) sl_rl hn hb
 have h:=CallV.of_spec (fs:=[]) (cs:=[]) (args:=[u.v]) hs k46
 exact h R K w r hw ⟨fun h=>absurd h (by rw [h2];simp),fun _ h=>absurd h1 h,fun _ _=>hT⟩
theorem GetChanges_spec {g:World} {A:HP} {v:SV} {l:List ChgM} (hl:l.length≤4096) (hok:∀ c ∈ l,chgOk c=true) (hA:RL A 1 eB v.v (chgsB l)):Spec Tryz.prog g 35 [v.v] [A] fun K R=>∀ a m c,K (.tuple #[.slice a m c,.int .i64 0]) (Sl 127 3 ChgM.c (.slice a m c) l::A::R):=by
 refine Spec.intro Tryz.func35 rfl Tryz.ntmps35 rfl fun R K hK=>?_
 refine WP.seq<|WP.reg<|WL.e e_assign<|WL.e e_assign<|WL.next<|WP.seq<|WP.reg<|WL.e e_move ?_
 refine WL.h (h_call (rget_spec (fn:=.func 112) (y2:=.func (.func 46) #[] #[]) (fun r c rest v hc hr=>CallV.of_spec (fs:=[]) (cs:=[]) (chg1_spec c hc hr) k112) putc_call hl hok hA) k111 ?_)
 intro a m c
 refine WL.e e_extract<|WL.e e_extract<|WL.e e_assign<|WL.e e_assign<|WL.next<|WP.ret ?_
 exact PO.fin Tryz.results35 (rv_tmp (rv_tmp rv_nil)) (hK a m c)
end Go.SL
