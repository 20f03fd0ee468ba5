import Derived.Test.YtegjbklnhiionaaGreatQP16
set_option linter.unusedSimpArgs false
set_option linter.unusedVariables false
namespace Go.SL.Fc
open Go Go.Proofs Go.SL
theorem a142:ZK' Tryz.prog 142=some none:=by kernel_rfl
theorem a144:ZK' Tryz.prog 144=some none:=by kernel_rfl
theorem a304:ZK' Tryz.prog 304=some none:=by kernel_rfl
theorem a310:ZK' Tryz.prog 310=some none:=by kernel_rfl
theorem KA':ZO' Tryz.prog 146 1=some 1:=by kernel_rfl
theorem Kc':ZO' Tryz.prog 146 2=some 2:=by kernel_rfl
theorem Zfo_:ZO' Tryz.prog 306 0=some 0:=by kernel_rfl
theorem Qe':ZO' Tryz.prog 306 2=some 2:=by kernel_rfl
theorem k205:Zh' Tryz.prog 205=true:=by kernel_rfl
theorem k206:Zh' Tryz.prog 206=true:=by kernel_rfl
theorem k207:Zh' Tryz.prog 207=true:=by kernel_rfl
theorem k208:Zh' Tryz.prog 208=true:=by kernel_rfl
theorem k210:Zh' Tryz.prog 210=true:=by kernel_rfl
theorem k211:Zh' Tryz.prog 211=true:=by kernel_rfl
theorem k212:Zh' Tryz.prog 212=true:=by kernel_rfl
theorem k214:Zh' Tryz.prog 214=true:=by kernel_rfl
theorem k217:Zh' Tryz.prog 217=true:=by kernel_rfl
theorem k218:Zh' Tryz.prog 218=true:=by kernel_rfl
theorem k219:Zh' Tryz.prog 219=true:=by kernel_rfl
theorem k220:Zh' Tryz.prog 220=true:=by kernel_rfl
theorem k223:Zh' Tryz.prog 223=true:=by kernel_rfl
theorem k224:Zh' Tryz.prog 224=true:=by kernel_rfl
theorem k225:Zh' Tryz.prog 225=true:=by kernel_rfl
theorem k234:Zh' Tryz.prog 234=true:=by kernel_rfl
theorem ZoH_:X3' Tryz.prog 111=true:=by kernel_rfl
theorem s310:szOf Tryz.prog 310=some 1:=by kernel_rfl
theorem ZcB_:slOf Tryz.prog 310=some (304,1,8):=by kernel_rfl
theorem z304:ZH' Tryz.prog 304=some [.pointer none]:=by kernel_rfl
theorem ZoI_:(Tryz.prog.info? 179).bind (·.zero)=some (.agg #[.string .empty,.int .u32 0,.bool false]):=by kernel_rfl
end Go.SL.Fc
namespace Go.SL
open Go Go.Proofs Fc
open Go.Sort Go.Shelf in
def Zbi_:Go.Shelf.Ren:=⟨fun | 6=>212 | 14=>220 | 15=>67 | 20=>225 | 21=>226 | 22=>227 | 23=>228 | 24=>229 | 25=>230 | 26=>231 | 27=>232 | 28=>94 | 29=>95 | 46=>242 | 47=>114 | 48=>115 | 49=>243 | 50=>244 | 57=>248 | n=>n,fun | 0=>0 | 1=>1 | 2=>2 | 3=>3 | 4=>4 | 5=>5 | 6=>6 | 7=>7 | 8=>8 | 9=>9 | 22=>38 | 24=>105 | 25=>320 | 39=>153 | 45=>195 | 46=>196 | 50=>201 | 53=>24 | 55=>205 | 66=>230 | 70=>234 | 76=>241 | 77=>242 | n=>n,fun n=>n⟩
open Go.Sort Go.Shelf in
theorem Znj_:Go.Proofs.SlLaysF0.n6 Tryz.prog Zbi_ where
 mixed:=by kernel_rfl
 f6:=⟨Tryz.f212.name,by decide +kernel,Tryz.func212.trans (congrArg some (by kernel_rfl))⟩
 f14:=⟨Tryz.f220.name,by decide +kernel,Tryz.func220.trans (congrArg some (by kernel_rfl))⟩
 f15:=Tryz.func67.trans (congrArg some (by kernel_rfl))
 f20:=⟨Tryz.f225.name,by decide +kernel,Tryz.func225.trans (congrArg some (by kernel_rfl))⟩
 f21:=⟨Tryz.f226.name,by decide +kernel,Tryz.func226.trans (congrArg some (by kernel_rfl))⟩
 f22:=⟨Tryz.f227.name,by decide +kernel,Tryz.func227.trans (congrArg some (by kernel_rfl))⟩
 f23:=⟨Tryz.f228.name,by decide +kernel,Tryz.func228.trans (congrArg some (by kernel_rfl))⟩
 f24:=⟨Tryz.f229.name,by decide +kernel,Tryz.func229.trans (congrArg some (by kernel_rfl))⟩
 f25:=⟨Tryz.f230.name,by decide +kernel,Tryz.func230.trans (congrArg some (by kernel_rfl))⟩
 f26:=⟨Tryz.f231.name,by decide +kernel,Tryz.func231.trans (congrArg some (by kernel_rfl))⟩
 f27:=⟨Tryz.f232.name,by decide +kernel,Tryz.func232.trans (congrArg some (by kernel_rfl))⟩
 f28:=Tryz.func94.trans (congrArg some (by kernel_rfl))
 f29:=Tryz.func95.trans (congrArg some (by kernel_rfl))
 f46:=⟨Tryz.f242.name,by decide +kernel,Tryz.func242.trans (congrArg some (by kernel_rfl))⟩
 f47:=Tryz.func114.trans (congrArg some (by kernel_rfl))
 f48:=Tryz.func115.trans (congrArg some (by kernel_rfl))
 f49:=⟨Tryz.f243.name,by decide +kernel,Tryz.func243.trans (congrArg some (by kernel_rfl))⟩
 f50:=⟨Tryz.f244.name,by decide +kernel,Tryz.func244.trans (congrArg some (by kernel_rfl))⟩
 f57:=⟨Tryz.f248.name,by decide +kernel,Tryz.func248.trans (congrArg some (by kernel_rfl))⟩
 t0:=Tryz.underlying0
 a0:=Tryz.isAgg0
 z0:=Tryz.sizeOf0
 v0:=Tryz.zeroValue0
 t3:=Tryz.underlying3
 a3:=Tryz.isAgg3
 z3:=Tryz.sizeOf3
 v3:=Tryz.zeroValue3
 t4:=Tryz.underlying4
 a4:=Tryz.isAgg4
 z4:=Tryz.sizeOf4
 v4:=Tryz.zeroValue4
 t5:=Tryz.underlying5
 a5:=Tryz.isAgg5
 z5:=Tryz.sizeOf5
 v5:=Tryz.zeroValue5
 t9:=Tryz.underlying9
 a9:=Tryz.isAgg9
 z9:=Tryz.sizeOf9
 v9:=Tryz.zeroValue9
 t22:=Tryz.underlying38
 a22:=Tryz.isAgg38
 z22:=Tryz.sizeOf38
 v22:=Tryz.zeroValue38
 t25:=Tryz.underlying320
 a25:=Tryz.isAgg320
 z25:=Tryz.sizeOf320
 v25:=Tryz.zeroValue320
 t39:=Tryz.underlying153
 a39:=Tryz.isAgg153
 z39:=Tryz.sizeOf153
 v39:=Tryz.zeroValue153
 t45:=Tryz.underlying195
 a45:=Tryz.isAgg195
 z45:=Tryz.sizeOf195
 v45:=Tryz.zeroValue195
 t46:=Tryz.underlying196
 a46:=Tryz.isAgg196
 z46:=Tryz.sizeOf196
 v46:=Tryz.zeroValue196
 t50:=Tryz.underlying201
 a50:=Tryz.isAgg201
 z50:=Tryz.sizeOf201
 v50:=Tryz.zeroValue201
 t53:=Tryz.underlying24
 a53:=Tryz.isAgg24
 z53:=Tryz.sizeOf24
 v53:=Tryz.zeroValue24
 t55:=Tryz.underlying205
 a55:=Tryz.isAgg205
 z55:=Tryz.sizeOf205
 v55:=Tryz.zeroValue205
 t66:=Tryz.underlying230
 a66:=Tryz.isAgg230
 z66:=Tryz.sizeOf230
 v66:=Tryz.zeroValue230
 t70:=Tryz.underlying234
 a70:=Tryz.isAgg234
 z70:=Tryz.sizeOf234
 v70:=Tryz.zeroValue234
 t76:=Tryz.underlying241
 a76:=Tryz.isAgg241
 z76:=Tryz.sizeOf241
 v76:=Tryz.zeroValue241
 t77:=Tryz.underlying242
 a77:=Tryz.isAgg242
 z77:=Tryz.sizeOf242
 v77:=Tryz.zeroValue242
open Go.Sort Go.Shelf in
def ZcC_:Go.Shelf.Ren:=⟨fun | 6=>218 | 14=>224 | 15=>67 | 20=>234 | 21=>235 | 22=>236 | 23=>237 | 24=>238 | 25=>239 | 26=>240 | 27=>241 | 28=>94 | 29=>95 | 46=>245 | 47=>114 | 48=>115 | 49=>246 | 50=>247 | 57=>249 | n=>n,fun | 0=>0 | 1=>1 | 2=>2 | 3=>3 | 4=>4 | 5=>5 | 6=>6 | 7=>7 | 8=>8 | 9=>9 | 22=>310 | 24=>304 | 25=>315 | 39=>153 | 45=>195 | 46=>196 | 50=>201 | 53=>24 | 55=>205 | 66=>230 | 70=>234 | 76=>241 | 77=>242 | n=>n,fun n=>n⟩
open Go.Sort Go.Shelf in
theorem Zoi_:Go.Proofs.SlLaysF.n6 Tryz.prog ZcC_ where
 mixed:=by kernel_rfl
 f6:=⟨Tryz.f218.name,by decide +kernel,Tryz.func218.trans (congrArg some (by kernel_rfl))⟩
 f14:=⟨Tryz.f224.name,by decide +kernel,Tryz.func224.trans (congrArg some (by kernel_rfl))⟩
 f15:=Tryz.func67.trans (congrArg some (by kernel_rfl))
 f20:=⟨Tryz.f234.name,by decide +kernel,Tryz.func234.trans (congrArg some (by kernel_rfl))⟩
 f21:=⟨Tryz.f235.name,by decide +kernel,Tryz.func235.trans (congrArg some (by kernel_rfl))⟩
 f22:=⟨Tryz.f236.name,by decide +kernel,Tryz.func236.trans (congrArg some (by kernel_rfl))⟩
 f23:=⟨Tryz.f237.name,by decide +kernel,Tryz.func237.trans (congrArg some (by kernel_rfl))⟩
 f24:=⟨Tryz.f238.name,by decide +kernel,Tryz.func238.trans (congrArg some (by kernel_rfl))⟩
 f25:=⟨Tryz.f239.name,by decide +kernel,Tryz.func239.trans (congrArg some (by kernel_rfl))⟩
 f26:=⟨Tryz.f240.name,by decide +kernel,Tryz.func240.trans (congrArg some (by kernel_rfl))⟩
 f27:=⟨Tryz.f241.name,by decide +kernel,Tryz.func241.trans (congrArg some (by kernel_rfl))⟩
 f28:=Tryz.func94.trans (congrArg some (by kernel_rfl))
 f29:=Tryz.func95.trans (congrArg some (by kernel_rfl))
 f46:=⟨Tryz.f245.name,by decide +kernel,Tryz.func245.trans (congrArg some (by kernel_rfl))⟩
 f47:=Tryz.func114.trans (congrArg some (by kernel_rfl))
 f48:=Tryz.func115.trans (congrArg some (by kernel_rfl))
 f49:=⟨Tryz.f246.name,by decide +kernel,Tryz.func246.trans (congrArg some (by kernel_rfl))⟩
 f50:=⟨Tryz.f247.name,by decide +kernel,Tryz.func247.trans (congrArg some (by kernel_rfl))⟩
 f57:=⟨Tryz.f249.name,by decide +kernel,Tryz.func249.trans (congrArg some (by kernel_rfl))⟩
 t0:=Tryz.underlying0
 a0:=Tryz.isAgg0
 z0:=Tryz.sizeOf0
 v0:=Tryz.zeroValue0
 t3:=Tryz.underlying3
 a3:=Tryz.isAgg3
 z3:=Tryz.sizeOf3
 v3:=Tryz.zeroValue3
 t4:=Tryz.underlying4
 a4:=Tryz.isAgg4
 z4:=Tryz.sizeOf4
 v4:=Tryz.zeroValue4
 t5:=Tryz.underlying5
 a5:=Tryz.isAgg5
 z5:=Tryz.sizeOf5
 v5:=Tryz.zeroValue5
 t9:=Tryz.underlying9
 a9:=Tryz.isAgg9
 z9:=Tryz.sizeOf9
 v9:=Tryz.zeroValue9
 t22:=Tryz.underlying310
 a22:=Tryz.isAgg310
 z22:=Tryz.sizeOf310
 v22:=Tryz.zeroValue310
 a24:=Tryz.isAgg304
 z24:=Tryz.sizeOf304
 t25:=Tryz.underlying315
 a25:=Tryz.isAgg315
 z25:=Tryz.sizeOf315
 v25:=Tryz.zeroValue315
 t39:=Tryz.underlying153
 a39:=Tryz.isAgg153
 z39:=Tryz.sizeOf153
 v39:=Tryz.zeroValue153
 t45:=Tryz.underlying195
 a45:=Tryz.isAgg195
 z45:=Tryz.sizeOf195
 v45:=Tryz.zeroValue195
 t46:=Tryz.underlying196
 a46:=Tryz.isAgg196
 z46:=Tryz.sizeOf196
 v46:=Tryz.zeroValue196
 t50:=Tryz.underlying201
 a50:=Tryz.isAgg201
 z50:=Tryz.sizeOf201
 v50:=Tryz.zeroValue201
 t53:=Tryz.underlying24
 a53:=Tryz.isAgg24
 z53:=Tryz.sizeOf24
 v53:=Tryz.zeroValue24
 t55:=Tryz.underlying205
 a55:=Tryz.isAgg205
 z55:=Tryz.sizeOf205
 v55:=Tryz.zeroValue205
 t66:=Tryz.underlying230
 a66:=Tryz.isAgg230
 z66:=Tryz.sizeOf230
 v66:=Tryz.zeroValue230
 t70:=Tryz.underlying234
 a70:=Tryz.isAgg234
 z70:=Tryz.sizeOf234
 v70:=Tryz.zeroValue234
 t76:=Tryz.underlying241
 a76:=Tryz.isAgg241
 z76:=Tryz.sizeOf241
 v76:=Tryz.zeroValue241
 t77:=Tryz.underlying242
 a77:=Tryz.isAgg242
 z77:=Tryz.sizeOf242
 v77:=Tryz.zeroValue242
open Go.Sort Go.Shelf in
theorem ZlT_:CmpB Tryz.prog 213 [] (pu True) (fun x:RowM=>.agg (RowM.c x).toArray) VX':=fun W S _ _ x y=>by
 show Calls Tryz.prog 213 #[.agg #[.string x.key,.int .u32 x.val.toNat],.agg #[.string y.key,.int .u32 y.val.toNat]] W _
 go_enter Tryz.func213,Tryz.ntmps213
 go_wp2
 ·rename_i h
  go_ret
  exact ⟨by simp [VX',sLt,h],0,_,by rw [alloc_eq_grow,alloc_eq_grow,grow_grow];rfl⟩
 ·rename_i h
  go_ret
  exact ⟨by simp [VX',sLt,h],0,_,by rw [alloc_eq_grow,alloc_eq_grow,grow_grow];rfl⟩
theorem ZlU_ {x y:Nat} {a b:UInt32} {W:World} (hx:W.cell? ⟨x,0,none⟩=some (.int .u32 a.toNat)) (hy:W.cell? ⟨y,0,none⟩=some (.int .u32 b.toNat)) :
  Calls Tryz.prog 209 #[.pointer (some ⟨x,0,none⟩),.pointer (some ⟨y,0,none⟩)] W fun e w'=>e=.returned (.int .i64 ((a.toNat:Int) - b.toNat))∧∃ q os',w'=Sort.grow (W.drewN q) os':=by
 have mixed:Tryz.prog.follows .mixedOrders=true:=by kernel_rfl
 go_enter Tryz.func209,Tryz.ntmps209
 go_wp2
 go_quiet_o (fail)
 go_wp2
 go_ret
 have ha:=a.toNat_lt
 have hb:=b.toNat_lt
 have e1:IntKind.i64.wrap (a.toNat:Int)=a.toNat:=Zt' (by omega) (by omega)
 have e2:IntKind.i64.wrap (b.toNat:Int)=b.toNat:=Zt' (by omega) (by omega)
 have e3:IntKind.i64.wrap ((a.toNat:Int) - b.toNat)=(a.toNat:Int) - b.toNat:=Zt' (by omega) (by omega)
 refine ⟨?_,nq,#[],?_⟩
 ·rw [e1,e2,e3];rfl
 ·simp [Sort.grow];rfl
theorem Znk_ {g:World}:Spec Tryz.prog g 95 [.int .u64 0] [] fun K R=>K (.int .i64 0) R:=by
 refine Spec.intro Tryz.func95 rfl Tryz.ntmps95 rfl fun R K hK=>?_
 refine WP.seq<|WP.reg<|WL.e Zb'<|WL.next<|WP.seq<|WP.seq<|WP.reg<|WL.e Za'<|WL.e YD'<|WL.next<|WP.cond_f rfl<|WP.skip<|PO.next<|WP.seq<|WP.seq<|WP.reg<|WL.e Za'<|WL.e YD'<|WL.next<|WP.cond_f rfl<|WP.skip<|PO.next<|WP.seq<|WP.seq ?_
 refine WP.reg<|WL.e Za'<|WL.e YD'<|WL.next<|WP.cond_f rfl<|WP.skip<|PO.next<|WP.seq<|WP.reg<|WL.e Za'<|WL.e Za'<|WL.e (Y6' (by rw [Tryz.underlying205];rfl) Tryz.underlying5 rfl rfl)<|WL.e (ZeY_ (n:=0) (b:=0) Tryz.underlying9 (hb:=by kernel_rfl))<|WL.e (Y6' (c:=0) (by rw [Tryz.underlying5];rfl) Tryz.underlying3 rfl rfl)<|WL.e (ZE' rfl rfl (Zt' (by omega) (by omega)))<|WL.e Zb'<|WL.next<|WP.ret ?_
 exact PO.finE Tryz.results95 (Zd' Zf') rfl hK
theorem ZmE_ {g:World}:Spec Tryz.prog g 67 [.int .u64 0] [] fun K R=>K (.int .i64 0) R:=by
 refine Spec.intro Tryz.func67 rfl Tryz.ntmps67 rfl fun R K hK=>?_
 refine WP.seq<|WP.reg<|WL.e Zb'<|WL.next<|WP.seq<|WP.cond_f rfl<|WP.skip<|PO.next<|WP.seq<|WP.reg<|WL.e Za' ?_
 refine WL.h (Zg' (Znk_) k95 ?_)
 refine WL.e Zb'<|WL.next<|WP.ret ?_
 exact PO.fin Tryz.results67 (Zd' Zf') hK
theorem SRI0 {g:World} {a:Option Addr} {c:Nat} {y:Value}:Spec Tryz.prog g 225 [.slice a 0 c,.int .i64 0,.int .i64 0,y] [] fun K R=>K (.tuple #[]) R:=by
 refine Spec.intro Tryz.func225 rfl Tryz.ntmps225 rfl fun R K hK=>?_
 refine WP.seq<|WP.reg<|WL.e Za'<|WL.e (ZE' rfl rfl (Zt' (by omega) (by omega)))<|WL.e Zb'<|WL.next<|WP.block<|WP.loopK (fun (_:Unit)=>[(8,.int .i64 1)]) (fun (_:Unit)=>R) [(0,_),(1,_),(2,_),(3,_)] (fun (_:Unit)=>True) (fun (_:Unit)=>0) () (trivial) ?_
 intro _ _
 refine WP.seq<|WP.seq<|WP.reg<|WL.e Za'<|WL.e Za'<|WL.e Z3'<|WL.next<|WP.cond_f rfl<|WP.exit<|PO.past nofun<|PO.round nofun<|PO.blockX ?_
 exact PO.fin Tryz.results225 Zf' hK
theorem SRP0 {g:World} {a:Option Addr} {c:Nat} {y:Value}:Spec Tryz.prog g 220 [.slice a 0 c,.int .i64 0,.int .i64 0,.int .i64 0,y] [] fun K R=>K (.tuple #[]) R:=by
 refine Spec.intro Tryz.func220 rfl Tryz.ntmps220 rfl fun R K hK=>?_
 refine WP.seq<|WP.reg<|WL.e Zb'<|WL.next<|WP.seq<|WP.reg<|WL.e Zb'<|WL.next<|WP.block<|WP.loopK (fun (_:Unit)=>[(1,.int .i64 0),(2,.int .i64 0)]) (fun (_:Unit)=>R) [(0,_),(4,_)] (fun (_:Unit)=>True) (fun (_:Unit)=>0) () (trivial) ?_
 intro _ _
 refine WP.block<|WP.seq<|WP.reg<|WL.e Za'<|WL.e Za'<|WL.e (Y9' rfl rfl (Zt' (by omega) (by omega)))<|WL.e Zb'<|WL.next<|WP.seq<|WP.seq<|WP.reg<|WL.e Za'<|WL.e X2'<|WL.next<|WP.cond_t rfl<|WP.seq<|WP.reg<|WL.e Za'<|WL.e Za'<|WL.e Za'<|WL.e Za' ?_
 refine WL.h (Zg' (SRI0) k225 ?_)
 refine WL.next<|WP.ret<|PO.past nofun<|PO.blockR<|PO.round nofun<|PO.blockR ?_
 exact PO.fin Tryz.results220 Zf' hK
theorem SRS0 {g:World} {a:Option Addr} {c:Nat} {y:Value}:Spec Tryz.prog g 212 [.slice a 0 c,y] [] fun K R=>K (.tuple #[]) R:=by
 refine Spec.intro Tryz.func212 rfl Tryz.ntmps212 rfl fun R K hK=>?_
 refine WP.conv (M:=pu True::_) (fun S h=>Yt' trivial h) ?_
 refine WP.seq<|WP.reg<|WL.e Za'<|WL.e (ZD' (xs:=([]:List Nat)) (enc:=fun _=>[]) sl38 (A:=pu True) (X4' (z:=1)))<|WL.e Zb'<|WL.next<|WP.reg<|WL.e Za'<|WL.e Za'<|WL.e Za'<|WL.e (Y6' (by rw [Tryz.underlying3];rfl) Tryz.underlying153 rfl rfl) ?_
 refine WL.h (Zg' (ZmE_) k67 ?_)
 refine WL.e Za' ?_
 refine WL.h (Zg' (SRP0) k220 ?_)
 refine WL.nil ?_
 exact PO.fin Tryz.results212 Zf' hK
theorem STI0 {g:World} {a:Option Addr} {c:Nat} {y:Value}:Spec Tryz.prog g 234 [.slice a 0 c,.int .i64 0,.int .i64 0,y] [] fun K R=>K (.tuple #[]) R:=by
 refine Spec.intro Tryz.func234 rfl Tryz.ntmps234 rfl fun R K hK=>?_
 refine WP.seq<|WP.reg<|WL.e Za'<|WL.e (ZE' rfl rfl (Zt' (by omega) (by omega)))<|WL.e Zb'<|WL.next<|WP.block<|WP.loopK (fun (_:Unit)=>[(8,.int .i64 1)]) (fun (_:Unit)=>R) [(0,_),(1,_),(2,_),(3,_)] (fun (_:Unit)=>True) (fun (_:Unit)=>0) () (trivial) ?_
 intro _ _
 refine WP.seq<|WP.seq<|WP.reg<|WL.e Za'<|WL.e Za'<|WL.e Z3'<|WL.next<|WP.cond_f rfl<|WP.exit<|PO.past nofun<|PO.round nofun<|PO.blockX ?_
 exact PO.fin Tryz.results234 Zf' hK
theorem STP0 {g:World} {a:Option Addr} {c:Nat} {y:Value}:Spec Tryz.prog g 224 [.slice a 0 c,.int .i64 0,.int .i64 0,.int .i64 0,y] [] fun K R=>K (.tuple #[]) R:=by
 refine Spec.intro Tryz.func224 rfl Tryz.ntmps224 rfl fun R K hK=>?_
 refine WP.seq<|WP.reg<|WL.e Zb'<|WL.next<|WP.seq<|WP.reg<|WL.e Zb'<|WL.next<|WP.block<|WP.loopK (fun (_:Unit)=>[(1,.int .i64 0),(2,.int .i64 0)]) (fun (_:Unit)=>R) [(0,_),(4,_)] (fun (_:Unit)=>True) (fun (_:Unit)=>0) () (trivial) ?_
 intro _ _
 refine WP.block<|WP.seq<|WP.reg<|WL.e Za'<|WL.e Za'<|WL.e (Y9' rfl rfl (Zt' (by omega) (by omega)))<|WL.e Zb'<|WL.next<|WP.seq<|WP.seq<|WP.reg<|WL.e Za'<|WL.e X2'<|WL.next<|WP.cond_t rfl<|WP.seq<|WP.reg<|WL.e Za'<|WL.e Za'<|WL.e Za'<|WL.e Za' ?_
 refine WL.h (Zg' (STI0) k234 ?_)
 refine WL.next<|WP.ret<|PO.past nofun<|PO.blockR<|PO.round nofun<|PO.blockR ?_
 exact PO.fin Tryz.results224 Zf' hK
theorem STS0 {g:World} {a:Option Addr} {c:Nat} {y:Value}:Spec Tryz.prog g 218 [.slice a 0 c,y] [] fun K R=>K (.tuple #[]) R:=by
 refine Spec.intro Tryz.func218 rfl Tryz.ntmps218 rfl fun R K hK=>?_
 refine WP.conv (M:=pu True::_) (fun S h=>Yt' trivial h) ?_
 refine WP.seq<|WP.reg<|WL.e Za'<|WL.e (ZD' (xs:=([]:List Nat)) (enc:=fun _=>[]) ZcB_ (A:=pu True) (X4' (z:=1)))<|WL.e Zb'<|WL.next<|WP.reg<|WL.e Za'<|WL.e Za'<|WL.e Za'<|WL.e (Y6' (by rw [Tryz.underlying3];rfl) Tryz.underlying153 rfl rfl) ?_
 refine WL.h (Zg' (ZmE_) k67 ?_)
 refine WL.e Za' ?_
 refine WL.h (Zg' (STP0) k224 ?_)
 refine WL.nil ?_
 exact PO.fin Tryz.results218 Zf' hK
open Go.Sort Go.Shelf in
theorem Ziq_ {g:World} {xs:List RowM} {a:Option Addr} {m c:Nat} (hn:xs.length≤68719476736):Spec Tryz.prog g 212 [.slice a m c,.func (.func 213) #[] #[]] [Sl 105 2 RowM.c (.slice a m c) xs] fun K R=>∀ ys,(ys.Perm xs∧ys.Pairwise fun a b=>sLt b.key a.key=false)→K (.tuple #[]) (Sl 105 2 RowM.c (.slice a m c) ys::R):=by
 rcases Nat.eq_zero_or_pos xs.length with h0 | h0
 ·obtain rfl:=List.length_eq_zero_iff.1 h0
  intro R K w hw hT
  obtain ⟨S1,S2,hd,l1,l2,hO,hR⟩:=hw.heap
  obtain rfl:=Ze1_ hO
  exact SRS0 _ K w hw (hT [] ⟨.refl _,List.Pairwise.nil⟩)
 ·refine Zlr_ (φ:=fun ys:List RowM=>ys.Perm xs∧ys.Pairwise fun a b=>ltOf VX' b a=false) (B:=fun ys=>Sl 105 2 RowM.c (.slice a m c) ys) (v:=.tuple #[]) (ZjI_ ?_) fun (ys:List RowM) h=>⟨h.1,h.2.imp fun {x y} h=>by rw [UJ'] at h;exact h⟩
  have h:=Zh1_ (ρ:=Zbi_) (k:=2) (E:=105) (enc:=RowM.c) (cf:=VX') (gf:=213) (cb:=[]) (B:=pu True) (xs:=xs) (a:=a) (m0:=m) (c0:=c) (g:=g) Znj_ Tryz.isAgg105 Tryz.sizeOf105 rowE Zn3_ (enters_of Tryz.func213 (by kernel_rfl) rfl) ZlT_ h0 hn
  exact fun R K w hw hT=>h R K w hw fun ys h1 h2=>hT ys ⟨h1,h2⟩
def TxB_ (t:TxT):HP:=fun S=>∃ x:SV × SV,Zo' [cl t.q 306 [.int .u32 t.x.at_.toNat,x.1.v,x.2.v],Sl 45 2 SpanM.c x.1.v t.x.looked,Sl 179 3 ChgM.c x.2.v t.x.own] S
theorem ZaX_ {t:TxT}:∀ S,TxB_ t S→∃ x:SV × SV,Zo' [cl t.q 306 [.int .u32 t.x.at_.toNat,x.1.v,x.2.v],Sl 45 2 SpanM.c x.1.v t.x.looked,Sl 179 3 ChgM.c x.2.v t.x.own] S:=fun _ h=>h
def TPB (t:TxT):List HP:=[TxB_ t]
def ptrC (t:TxT):List Value:=[.pointer (some ⟨t.q,0,none⟩)]
theorem ptrE:EncOk 1 ptrC:=⟨fun _=>rfl,fun _=>rfl⟩
theorem Zg5_ {ts:List TxT} {t:TxT} (ht:t ∈ ts) {S:ZN'} (hS:TxsU TPB ts S) {W:World} (hle:le S (Yd' W)):W.cell? ⟨t.q,0,none⟩=some (.int .u32 t.x.at_.toNat):=by
 obtain ⟨A,B,e⟩:=List.append_of_mem ht
 obtain ⟨_,S1,S2,_,h1,_,h2,_⟩:=Y5' e S hS
 obtain ⟨x,S3,S4,_,h3,_,h4,_⟩:=ZaX_ S1 h2
 have h5:Yd' W t.q=some _:=hle _ _ (h1 _ _ (h3 _ _ h4))
 have h6:W.heap[t.q]?=some _:=h5
 simp [World.cell?,h6]
theorem Zki_ {α β:Type} {E z:Nat} {enc:α→List Value} {f:β→α} {u:Value} {l:List β}:Sl E z enc u (l.map f)=Sl E z (fun x=>enc (f x)) u l:=by
 unfold Sl;rw [List.length_map,List.flatMap_map]
theorem Zg6_ {α:Type} {ts:List α}:∀ xs:List α,(∀ x ∈ xs,x ∈ ts)→∃ ys:List (Of ts),ys.map (·.1)=xs
 | [],_=>⟨[],rfl⟩
 | x::xs,h=>by
  obtain ⟨ys,e⟩:=Zg6_ xs fun y hy=>h y (by simp [hy])
  exact ⟨⟨x,h x (by simp)⟩::ys,by simp [e]⟩
open Go.Sort Go.Shelf in
theorem Znl_ {ts:List TxT}:CmpB Tryz.prog 209 [] (TxsU TPB ts) (fun x:Of ts=>(.pointer (some ⟨x.1.q,0,none⟩):Value)) cfTx:=fun W S hle hS x y=>ZlU_ (Zg5_ x.2 hS hle) (Zg5_ y.2 hS hle)
open Go.Sort Go.Shelf in
theorem Zir_ {g:World} {xs ts:List TxT} {a:Option Addr} {m c:Nat} (hx:∀ x ∈ xs,x ∈ ts) (hn:xs.length≤68719476736):Spec Tryz.prog g 218 [.slice a m c,.func (.func 209) #[] #[]] [Sl 304 1 ptrC (.slice a m c) xs,TxsU TPB ts] fun K R=>∀ ys,(ys.Perm xs∧ys.Pairwise fun a b=>decide (b.x.at_ < a.x.at_)=false)→K (.tuple #[]) (Sl 304 1 ptrC (.slice a m c) ys::TxsU TPB ts::R):=by
 rcases Nat.eq_zero_or_pos xs.length with h0 | h0
 ·obtain rfl:=List.length_eq_zero_iff.1 h0
  intro R K w hw hT
  obtain ⟨S1,S2,hd,l1,l2,hO,hR⟩:=hw.heap
  obtain rfl:=Ze1_ hO
  exact STS0 _ K w hw (hT [] ⟨.refl _,List.Pairwise.nil⟩)
 ·obtain ⟨zs,rfl⟩:=Zg6_ xs hx
  have hz:0 < zs.length:=by simpa using h0
  haveI:Inhabited (Of ts):=⟨zs[0]⟩
  have h:=Zh2_ (ρ:=ZcC_) (E:=304) (enc:=fun x:Of ts=>(.pointer (some ⟨x.1.q,0,none⟩):Value)) (cf:=cfTx) (gf:=209) (cb:=[]) (B:=TxsU TPB ts) (xs:=zs) (a:=a) (m0:=m) (c0:=c) (g:=g) Zoi_ (fun _=>rfl) ZoD_ (enters_of Tryz.func209 (by kernel_rfl) rfl) Znl_ hz (by simpa using hn)
  intro R K w hw hT
  rw [Zki_] at hw
  refine h R K w hw fun ys h1 h2=>?_
  have h3:=hT (ys.map (·.1)) ⟨h1.map _,List.pairwise_map.2 (h2.imp fun {x y} h=>by rw [ZaS_] at h;exact h)⟩
  rw [Zki_] at h3
  exact h3
theorem Zis_ {g:World} {m:Nat}:Spec Tryz.prog g 208 [.map (some m)] [] fun K R=>∀ b,K (.func (.func 219) #[] #[.pointer (some ⟨b,0,none⟩)]) (cl b 144 [.map (some m)]::R):=by
 refine Spec.intro Tryz.func208 rfl Tryz.ntmps208 rfl fun R K hK=>?_
 refine WP.seq<|WP.reg ?_
 refine WL.h (ZL' fun b1=>?_)
 refine WL.e Zb'<|WL.next<|WP.seq<|WP.reg<|WL.e Ym'<|WL.e Zb'<|WL.next<|WP.ret ?_
 exact PO.fin Tryz.results208 (Zd' Zf') (hK b1)
theorem Zit_ {g:World} {b m:Nat} {ts:List (TxT)}:Iter Tryz.prog g 219 (fun y=>[]++[y]++[.pointer (some ⟨b,0,none⟩)]) [cl b 144 [.map (some m)],Mp eU32 (.map (some m)) (List.map kvU ts)] ptrC (fun _=>pu True) (fun xs=>xs.Perm ts) (fun pre=>∃ r,(pre++r).Perm ts) [cl b 144 [.map (some m)],Mp eU32 (.map (some m)) (List.map kvU ts)]:=by
 intro y J X cont hy
 refine Spec.intro Tryz.func219 rfl Tryz.ntmps219 rfl fun R K hK=>?_
 refine WP.seq<|WP.reg<|WL.e (Zc' a144) ?_
 refine WL.h (Xt' (kvs:=List.map kvU ts) Tryz.underlying144 fun it=>?_)
 refine WL.next<|WP.block<|WP.loopK (fun (x:List (TxT) × List (TxT) × Option (UInt32 × Value))=>[]) (fun (x:List (TxT) × List (TxT) × Option (UInt32 × Value))=>J x.2.1::MpIt eU32 (.map (some m)) it (List.map kvU ts) (List.map kvU x.1) x.2.2::cl b 144 [.map (some m)]::R) [(0,_),(6,_)] (fun (x:List (TxT) × List (TxT) × Option (UInt32 × Value))=>(x.2.1++x.1).Perm ts∧Hist cont x.2.1) (fun (x:List (TxT) × List (TxT) × Option (UInt32 × Value))=>x.1.length) (ts,[],none) (⟨.refl _,Hist.nil⟩) ?_
 rintro ⟨left,pre,cur⟩ ⟨hx1,hx2⟩
 simp only at hx1 hx2
 dsimp only
 refine WP.seq<|WP.reg ?_
 refine WL.h (XY' (fun h0=>?_) (fun a y0 b0 hx=>?_))
 ·have hl0:left=[]:=by simpa using h0
  subst hl0
  refine WL.e Ze'<|WL.next<|WP.seq<|WP.cond_f rfl<|WP.exit<|PO.past nofun<|PO.round nofun<|PO.blockX ?_
  exact PO.fin Tryz.results219 Zf' (hK.1 pre (by simpa using hx1) hx2)
 ·obtain ⟨A1,y,B1,hl,rfl,rfl,rfl⟩:=Xw' hx
  have hpp:(pre++([y]++(A1++B1))).Perm ts:=by refine List.Perm.trans ?_ hx1;rw [hl];exact List.Perm.append_left _ (List.perm_middle (a:=y) (l₁:=A1) (l₂:=B1)).symm
  refine WL.e Ze'<|WL.next<|WP.seq<|WP.cond_t rfl<|WP.skip<|PO.next<|WP.block<|WP.seq<|WP.reg<|WL.e Xi'<|WL.e Ze'<|WL.e Zb'<|WL.next<|WP.seq<|WP.reg<|WL.e Za'<|WL.e Za' ?_
  refine WL.h (HO.conv (fun S h=>Yt' trivial h) (YE' (hy pre y ⟨_,by rw [List.append_assoc];exact hpp⟩ hx2) ?_))
  refine ⟨fun hc=>?_,fun hc=>?_⟩
  ·skip
   refine WL.e Zx'<|WL.next<|WP.cond_f rfl<|WP.skip<|PO.blockN ?_
   rw [← List.map_append]
   exact PO.againK (A1++B1,pre++[y],_) ⟨by simp only;rw [List.append_assoc];exact hpp,hx2.snoc hc⟩ (by simp only [hl,List.length_append,List.length_cons];omega)
  ·skip
   refine WL.e Zx'<|WL.next<|WP.cond_t rfl<|WP.ret<|PO.blockR<|PO.round nofun<|PO.blockR<|PO.conv (YS' (A:=MpIt eU32 (.map (some m)) it (List.map kvU ts) _ _) (B:=Mp eU32 (.map (some m)) (List.map kvU ts)) JT' (by repeat first | exact .z | apply Put.s)) ?_
   exact PO.fin Tryz.results219 Zf' (hK.2 pre y ⟨_,by rw [List.append_assoc];exact hpp⟩ hx2 hc)
def BVJ (b:Nat) (pre:List (TxT)):HP:=fun S=>∃ sv:SV,Zo' [cl b 310 [sv.v],Sl 304 1 ptrC sv.v pre] S
theorem ZlV_ {g:World} {b m:Nat} {ts:List (TxT)} (hn:ts.length≤68719476736):Spec Tryz.prog g 223 [.slice none 0 0,.func (.func 219) #[] #[.pointer (some ⟨b,0,none⟩)]] [cl b 144 [.map (some m)],Mp eU32 (.map (some m)) (List.map kvU ts)] fun K R=>∀ a n c xs,xs.Perm ts→K (.slice a n c) (Sl 304 1 ptrC (.slice a n c) xs::cl b 144 [.map (some m)]::Mp eU32 (.map (some m)) (List.map kvU ts)::R):=by
 refine Spec.intro Tryz.func223 rfl Tryz.ntmps223 rfl fun R K hK=>?_
 refine WP.seq<|WP.reg ?_
 refine WL.h (ZL' fun b1=>?_)
 refine WL.e Zb'<|WL.next<|WP.seq<|WP.seq<|WP.reg<|WL.e Za'<|WL.next<|WP.block<|WP.nils 304 1 ptrC none ?_
 refine WP.cls (A:=BVJ b1 []) (B:=[cl b1 310 [.slice none 0 0],Sl 304 1 ptrC (.slice none 0 0) ([])]) (fun S h=>⟨⟨none,0,0⟩,h⟩) ?_
 refine WP.range (R:=?RR) (f:=219) (fs:=[]) (cs:=[.pointer (some ⟨b,0,none⟩)]) (BVJ b1) (fun _ _ _=>pu True) (fun _ _=>True) (Zit_ (b:=b) (m:=m) (ts:=ts)) k219 ?hLL ?_ ?_ ?_ (fun _=>rfl)
 case hLL=>repeat first | exact .nil | exact Pick.z | apply Pick.s | apply Split.cons
 ·rintro lb db fn tmps pre x R2 hp hh
  refine WP.opn (B:=fun sv:SV=>[cl b1 310 [sv.v],Sl 304 1 ptrC (sv.v) (pre)]) (fun _ h=>h) fun sv=>?_
  have hlen:pre.length+1≤68719476736:=by obtain ⟨r,hr⟩:=hp;have:=hr.length_eq;simp only [List.length_append,List.length_cons,List.length_nil] at this;omega
  refine WP.reg<|WL.e Zb'<|WL.nil<|PO.asg rfl (by repeat first | exact .z | apply Put.s)<|WP.block<|WP.reg<|WL.e (Zc' a310)<|WL.e Za' ?_
  refine WL.h (h_bs ZcB_ z304 (.o (.tmp 9) rfl<|.n) fun b2=>?_)
  refine WL.h (ZG' (xs:=pre) (ys:=[x]) ZcB_ ptrE z304 (Z7' ptrE [x] rfl) (by simp;omega) (fun a5 n5 c5=>?_))
  refine WL.h' (Zj' s310 ?_)
  refine WL.nil<|PO.blockN<|PO.cls (A:=BVJ b1 (pre++[x])) (B:=[cl b1 310 [.slice a5 n5 c5],Sl 304 1 ptrC (.slice a5 n5 c5) (pre++[x])]) (fun S h=>⟨⟨a5,n5,c5⟩,h⟩) ?_
  exact PO.rnd trivial (by repeat first | exact .refl | exact Pick.z | apply Pick.s | apply Sub.cons | apply Sub.drop)
 ·rintro db xs hp hh
  refine PO.opn (B:=fun sv:SV=>[cl b1 310 [sv.v],Sl 304 1 ptrC (sv.v) (xs)]) (fun _ h=>h) fun sv=>?_
  obtain ⟨a9,n9,c9⟩:=sv
  refine PO.blockN<|PO.next<|WP.seq<|WP.reg<|WL.e (Zc' a310)<|WL.e Zb'<|WL.next<|WP.ret ?_
  exact PO.finM (by repeat first | exact .z | apply Put.s) Tryz.results223 (Zd' Zf') (hK a9 n9 c9 xs hp)
 ·exact fun _ _ _ _ _ _ hc=>absurd trivial hc
theorem ZlW_ {g:World} {b m:Nat} {ts:List (TxT)} (hn:ts.length≤68719476736):Spec Tryz.prog g 217 [.func (.func 219) #[] #[.pointer (some ⟨b,0,none⟩)]] [cl b 144 [.map (some m)],Mp eU32 (.map (some m)) (List.map kvU ts)] fun K R=>∀ a n c xs,xs.Perm ts→K (.slice a n c) (Sl 304 1 ptrC (.slice a n c) xs::cl b 144 [.map (some m)]::Mp eU32 (.map (some m)) (List.map kvU ts)::R):=by
 refine Spec.intro Tryz.func217 rfl Tryz.ntmps217 rfl fun R K hK=>?_
 refine WP.seq<|WP.reg<|WL.e Zb'<|WL.next<|WP.seq<|WP.reg<|WL.e Za' ?_
 refine WL.h (Zg' (ZlV_ hn) k223 ?_)
 intro a n c xs hp
 refine WL.e Zb'<|WL.next<|WP.ret ?_
 exact PO.fin Tryz.results217 (Zd' Zf') (hK a n c xs hp)
theorem Zfp_ {g:World} {b m:Nat} {ts:List TxT} (hn:ts.length≤68719476736):Spec Tryz.prog g 207 [.func (.func 219) #[] #[.pointer (some ⟨b,0,none⟩)],.func (.func 209) #[] #[]] [cl b 144 [.map (some m)],Mp eU32 (.map (some m)) (List.map kvU ts),TxsU TPB ts] fun K R=>∀ a n c ys,(ys.Perm ts∧ys.Pairwise fun a b=>decide (b.x.at_ < a.x.at_)=false)→K (.slice a n c) (Sl 304 1 ptrC (.slice a n c) ys::cl b 144 [.map (some m)]::Mp eU32 (.map (some m)) (List.map kvU ts)::TxsU TPB ts::R):=by
 refine Spec.intro Tryz.func207 rfl Tryz.ntmps207 rfl fun R K hK=>?_
 refine WP.seq<|WP.reg<|WL.e Zb'<|WL.next<|WP.seq<|WP.reg<|WL.e Za' ?_
 refine WL.h (Zg' (ZlW_ hn) k217 ?_)
 intro a n c xs hp
 refine WL.e Zb'<|WL.next<|WP.seq<|WP.reg<|WL.e Za'<|WL.e Za' ?_
 refine WL.h (Zg' (Zir_ (xs:=xs) (ts:=ts) (fun x hx=>hp.mem_iff.1 hx) (by rw [hp.length_eq];exact hn)) k218 ?_)
 rintro ys ⟨h1,h2⟩
 refine WL.next<|WP.seq<|WP.reg<|WL.e Za'<|WL.e Zb'<|WL.next<|WP.ret ?_
 exact PO.fin Tryz.results207 (Zd' Zf') (hK a n c ys ⟨h1.trans hp,h2⟩)
def Bs (p dp:Nat) (s:StV):HP:=fun S=>∃ x:Nat × Nat × Nat,Zo' [cl p 146 [.pointer (some ⟨x.1,0,none⟩),.pointer (some ⟨x.2.1,0,none⟩),.map (some x.2.2)],cl x.1 166 [.pointer (some ⟨dp,0,none⟩),.int .i64 s.at_],Dk dp s.d,Pa x.2.1 s.H s.trim,Mp eU32 (.map (some x.2.2)) (List.map kvU s.txs)] S
theorem KK' {p dp:Nat} {s:StV}:∀ S,Bs p dp s S→∃ x:Nat × Nat × Nat,Zo' [cl p 146 [.pointer (some ⟨x.1,0,none⟩),.pointer (some ⟨x.2.1,0,none⟩),.map (some x.2.2)],cl x.1 166 [.pointer (some ⟨dp,0,none⟩),.int .i64 s.at_],Dk dp s.d,Pa x.2.1 s.H s.trim,Mp eU32 (.map (some x.2.2)) (List.map kvU s.txs)] S:=fun _ h=>h
theorem KB' {g:World} {p dp:Nat} {s:StV}:Spec Tryz.prog g 200 [.pointer (some ⟨p,0,none⟩)] [Bs p dp s] fun K R=>K (.bool true) (Bs p dp s::R):=by
 refine Spec.intro Tryz.func200 rfl Tryz.ntmps200 rfl fun R K hK=>?_
 refine WP.opn (KK' (p:=p) (dp:=dp) (s:=s)) fun x=>?_
 obtain ⟨lp,pp,mb⟩:=x
 dsimp only
 refine WP.seq<|WP.reg<|WL.e Zb'<|WL.next<|WP.seq<|WP.reg<|WL.e Za'<|WL.e (JX' ZoH_)<|WL.e Za' ?_
 refine WL.bool 5 rfl (fun h=>?_) (fun h=>?_)
 ·skip
  refine WL.e Za'<|WL.e Zk'<|WL.e (e_fa Kc')<|WL.e (Zc' a144)<|WL.e (Zb8_ Tryz.underlying144)<|WL.e Zn'<|WL.e Zb'<|WL.next<|WP.ret<|PO.cls (A:=Bs p dp (s)) (B:=[cl p 146 [.pointer (some ⟨lp,0,none⟩),.pointer (some ⟨pp,0,none⟩),.map (some mb)],cl lp 166 [.pointer (some ⟨dp,0,none⟩),.int .i64 s.at_],Dk dp s.d,Pa pp s.H s.trim,Mp eU32 (.map (some mb)) (List.map kvU s.txs)]) (fun S h=>⟨(lp,pp,mb),h⟩) ?_
  exact PO.fin Tryz.results200 (Zd' Zf') hK
 ·cases h 
theorem ZcD_ {g:World} {p dp b:Nat} {s:StV} (n:UInt32) (hs:BetOk s b) (hn:s.txs.length≤68719476736):Spec Tryz.prog g 201 [.pointer (some ⟨p,0,none⟩),.int .u32 n.toNat] [Bs p dp s,TxsU TPB (delU s.txs n)] fun K R=>K (.tuple #[]) (Bs p dp (Xa' s n)::TxsU TPB (delU s.txs n)::R):=by
 refine Spec.intro Tryz.func201 rfl Tryz.ntmps201 rfl fun R K hK=>?_
 refine WP.opn (KK' (p:=p) (dp:=dp) (s:=s)) fun x=>?_
 obtain ⟨lp,pp,mb⟩:=x
 dsimp only
 refine WP.seq<|WP.reg<|WL.e Za'<|WL.e Zk'<|WL.e (e_fa Kc')<|WL.e (Zc' a144)<|WL.e Za' ?_
 refine WL.h' (Jg' (k:=n) (kvs:=List.map kvU s.txs) Tryz.underlying144 (ZQ' Tryz.underlying24) ?_)
 rw [KP']
 refine WL.next<|WP.seq<|WP.reg<|WL.e Za'<|WL.e Zk'<|WL.e (e_fa Kc')<|WL.e (Zc' a144) ?_
 refine WL.h (Zg' (Zis_ (m:=mb)) k208 ?_)
 intro b
 refine WL.h (Zg' (Zfp_ (b:=b) (m:=mb) (ts:=delU s.txs n) (Nat.le_trans Z8'.length_le hn)) k207 ?_)
 rintro a3 n3 c3 ys ⟨hp,hso⟩
 have hle:∀ t ∈ delU s.txs n,t.x.at_≤UInt32.ofNat s.H.length:=fun t ht=>by rw [UInt32.le_iff_toNat_le,Vf' hs.st];exact (hs.ats t (Z8'.mem ht)).2
 have hfirst:=ZfZ_ hp hso hle
 obtain ⟨ht1,ht2,_⟩:=ZdB_ hs n
 refine WL.e Zb'<|WL.next<|WP.seq<|WP.reg<|WL.e Za'<|WL.e Zk'<|WL.e (e_fa KA')<|WL.e (Zc' a142) ?_
 refine WL.h (Zg' (Zay_) k206 ?_)
 refine WL.e Zb'<|WL.next ?_
 refine WP.cutR (fun (_:Unit)=>[(5,.int .u32 (XM' (delU s.txs n) (UInt32.ofNat s.H.length)).toNat)]) (fun (_:Unit)=>cl p 146 [.pointer (some ⟨lp,0,none⟩),.pointer (some ⟨pp,0,none⟩),.map (some mb)]::cl lp 166 [.pointer (some ⟨dp,0,none⟩),.int .i64 s.at_]::Dk dp s.d::Pa pp s.H s.trim::Mp eU32 (.map (some mb)) (List.map kvU (delU s.txs n))::TxsU TPB (delU s.txs n)::R) [(0,_)] (fun (_:Unit)=>True) ?_ ?_
 ·skip
  refine WP.seq<|WP.reg<|WL.e Za'<|WL.e (ZD' (xs:=ys) (enc:=ptrC) ZcB_ Zr')<|WL.e YY'<|WL.next ?_
  refine WP.cond rfl (fun h4=>?_) (fun h4=>?_)
  ·obtain ⟨y,ys,rfl⟩:∃ y zs,ys=y::zs:=by cases ys with
    | nil=>simp at h4
    | cons y zs=>exact ⟨y,zs,rfl⟩
   have hy0:y ∈ delU s.txs n:=hp.mem_iff.1 (by simp)
   obtain ⟨A0,B0,hAB0⟩:=KZ' hy0
   simp only [List.head?_cons] at hfirst
   refine WP.opn (Y5' (TP:=TPB) hAB0) fun _=>?_
   refine WP.opn (ZaX_ (t:=y)) fun x=>?_
   obtain ⟨s1,s2⟩:=x
   dsimp only
   refine WP.reg<|WL.e Za'<|WL.e (ZZ' (j:=0) (xs:=y::ys) (enc:=ptrC) ZcB_ Zr' (by simp))<|WL.e (Ys' (j:=0) (xs:=y::ys) (a:=y) a304 ptrE Zr' rfl)<|WL.e Zk'<|WL.e (e_fa Zfo_)<|WL.e (Zc' a24)<|WL.e Zb'<|WL.nil ?_
   obtain ⟨A1,B1,hAB⟩:=KZ' hy0
   rw [hfirst]
   refine PO.cls (A:=TxB_ y) (B:=[cl y.q 306 [.int .u32 y.x.at_.toNat,s1.v,s2.v],Sl 45 2 SpanM.c s1.v y.x.looked,Sl 179 3 ChgM.c s2.v y.x.own]) (fun S h=>⟨(s1,s2),h⟩) ?_
   refine PO.cls (A:=TxsU TPB (delU s.txs n)) (B:=[TxB_ y,TxsU TPB (A0++B0)]) (fun S h=>hAB0 ▸ Yb' (TP:=TPB) (t:=y) S h) ?_
   exact PO.meetK () trivial
  ·obtain rfl:ys=[]:=by cases ys with
    | nil=>rfl
    | cons y zs=>simp at h4
   simp only [List.head?_nil] at hfirst
   refine WP.skip ?_
   rw [hfirst]
   exact PO.meetK () trivial
 ·intro _ _
  refine WP.reg<|WL.e Za'<|WL.e Zk'<|WL.e (e_fa KA')<|WL.e (Zc' a142)<|WL.e Za' ?_
  refine WL.h (Zg' (Zip_ (H:=s.H) (trim:=s.trim) (XM' (delU s.txs n) (UInt32.ofNat s.H.length)) ht1 (by rw [UInt32.le_iff_toNat_le,Vf' hs.st] at ht2;exact ht2) (by have:=hs.st.hl;have:=hs.st.bb;omega)) k210 ?_)
  refine WL.nil<|PO.cls (A:=Bs p dp (Xa' s n)) (B:=[cl p 146 [.pointer (some ⟨lp,0,none⟩),.pointer (some ⟨pp,0,none⟩),.map (some mb)],cl lp 166 [.pointer (some ⟨dp,0,none⟩),.int .i64 s.at_],Dk dp s.d,Pa pp s.H (XM' (delU s.txs n) (UInt32.ofNat s.H.length)),Mp eU32 (.map (some mb)) (List.map kvU (delU s.txs n))]) (fun S h=>⟨(lp,pp,mb),h⟩) ?_
  exact PO.fin Tryz.results201 Zf' hK
theorem Zkj_ {g:World} {A:HP} {q:Nat} {v0 v1 u:Value} {own:List ChgM} (hA:RL A 3 ChgM.c u own) (hn:own.length≤68719476736):Spec Tryz.prog g 211 [.pointer (some ⟨q,0,none⟩)] [cl q 306 [v0,v1,u],A] fun K R=>∀ m,K (.map (some m)) (Mp eStr (.map (some m)) (List.map kvC (Yu' own))::cl q 306 [v0,v1,u]::A::R):=by
 refine Spec.intro Tryz.func211 rfl Tryz.ntmps211 rfl fun R K hK=>?_
 refine WP.seq<|WP.reg<|WL.e Zb'<|WL.next<|WP.seq<|WP.reg ?_
 refine WL.h (YN' (ek:=eStr) fun m=>?_)
 refine WL.e Zb'<|WL.next<|WP.seq<|WP.seq<|WP.reg<|WL.e Za'<|WL.e Zk'<|WL.e (e_fa Qe')<|WL.e (Zc' a138)<|WL.e (ZD' (xs:=own) Yw' hA)<|WL.e Za'<|WL.next<|WP.block<|WP.loopK (fun (i:Nat)=>[(12,.int .i64 i)]) (fun (i:Nat)=>Mp eStr (.map (some m)) (List.map kvC (Yu' (own.take i)))::cl q 306 [v0,v1,u]::A::R) [(2,_),(3,_),(10,_),(11,_)] (fun (i:Nat)=>i≤own.length) (fun (i:Nat)=>own.length - i) 0 (Nat.zero_le _) ?_
 intro i hi
 refine WP.seq<|WP.reg<|WL.e Z3'<|WL.next<|WP.seq ?_
 refine WP.cond rfl (fun h2=>?_) (fun h2=>?_)
 ·have hlt:i < own.length:=by rw [decide_eq_true_eq] at h2;omega
  obtain ⟨c,hc⟩:∃ c,own[i]?=some c:=⟨_,List.getElem?_eq_getElem hlt⟩
  refine WP.skip<|PO.next<|WP.seq<|WP.block<|WP.seq<|WP.reg<|WL.e (ZZ' (xs:=own) Yw' hA hlt)<|WL.e (YA' (a:=c) a179 chgE hA hc) ?_
  refine WL.h (Zu' z179 fun b1=>?_)
  refine WL.h' (Zj' s179 ?_)
  refine WL.next<|WP.reg<|WL.e Za'<|WL.e (e_fa XC')<|WL.e (Zc' a9)<|WL.e (Zm' a179) ?_
  refine WL.h' (YI' (k:=c.key) (kvs:=List.map kvC (Yu' (own.take i))) Tryz.underlying316 (KT' Tryz.underlying9) ?_)
  refine WL.nil<|PO.blockN<|PO.next<|WP.reg<|WL.e (ZE' rfl rfl (Zt' (by omega) (by omega)))<|WL.e Za'<|WL.nil ?_
  rw [show mset (List.map kvC (Yu' (own.take i))) c.key (.agg #[.string c.key,.int .u32 c.val.toNat,.bool c.gone])=List.map kvC (Yu' (own.take (i+1))) by rw [ZA' hc,UI'];exact Zn1_ _ c]
  exact PO.againK (i+1) (by omega) (by omega)
 ·rw [List.take_of_length_le (show own.length≤i by rw [decide_eq_false_iff_not] at h2;omega)]
  refine WP.exit<|PO.past nofun<|PO.round nofun<|PO.blockX<|PO.next<|WP.seq<|WP.reg<|WL.e Za'<|WL.e Zb'<|WL.next<|WP.ret ?_
  exact PO.fin Tryz.results211 (Zd' Zf') (hK m)
theorem Ziu_ {g:World} {u:Value} {xs:List RowM}:Spec Tryz.prog g 214 [u] [Sl 105 2 RowM.c u xs] fun K R=>∀ a m c,K (.slice a m c) (Sl 105 2 RowM.c (.slice a m c) xs::R):=by
 refine Spec.intro Tryz.func214 rfl Tryz.ntmps214 rfl fun R K hK=>?_
 refine WP.seq<|WP.reg<|WL.e Zb'<|WL.next<|WP.seq<|WP.reg<|WL.e Za'<|WL.e Za'<|WL.e (ZD' (xs:=xs) sl38 Zr')<|WL.e Za'<|WL.e (ZD' (xs:=xs) sl38 Zr')<|WL.e (Zd8_ (hi:=xs.length) (xs:=xs) sl38 Zr' (Nat.le_refl _))<|WL.e Zb'<|WL.next<|WP.ret<|PO.conv (YS' (A:=Sl 105 2 RowM.c u xs) (B:=Sl 105 2 RowM.c (subV u 0 xs.length (some xs.length) 2) xs) (fun S h=>by have h2:=Zjk_ (i:=xs.length) rowE h (Nat.le_refl _);rwa [List.take_length] at h2) (by repeat first | exact .z | apply Put.s)) ?_
 refine PO.sh (u:=subV u 0 xs.length (some xs.length) 2) fun a9 m9 c9 e9=>?_
 rw [e9]
 exact PO.fin Tryz.results214 (Zd' Zf') (hK a9 m9 c9)
set_option maxHeartbeats 4000000 in
theorem Zkk_ {g:World} {A:HP} {p dp b:Nat} {s:StV} {t:TxT} {v1 u:Value} (sp:SpanM) (hs:BetOk s b) (ht:t ∈ s.txs) (hA:RL A 3 ChgM.c u t.x.own) :
  Spec Tryz.prog g 204 [.pointer (some ⟨p,0,none⟩),.pointer (some ⟨t.q,0,none⟩),sp.v] [Bs p dp s,cl t.q 306 [.int .u32 t.x.at_.toNat,v1,u],A] fun K R=>∀ a m c,K (.slice a m c) (Sl 105 2 RowM.c (.slice a m c) (ZT' (Zw' (ZJ' s.H t.x.at_.toNat) t.x.own) sp 256)::Bs p dp s::cl t.q 306 [.int .u32 t.x.at_.toNat,v1,u]::A::R):=by
 refine Spec.intro Tryz.func204 rfl Tryz.ntmps204 rfl fun R K hK=>?_
 refine WP.seq<|WP.reg ?_
 refine WL.h (ZL' fun b1=>?_)
 refine WL.e Zb'<|WL.next<|WP.seq<|WP.reg<|WL.e Za' ?_
 refine WL.h (Zg' (Zkj_ (q:=t.q) hA (by have:=hs.st.own_le ht;have:=hs.st.bb;omega)) k211 ?_)
 intro mm
 have hbb:=hs.st.bb
 have hol:=hs.st.own_le ht
 obtain ⟨hta1,hta2⟩:=hs.ats t ht
 have hVl:(ZJ' s.H t.x.at_.toNat).length≤b:=by have:=VT' s.H t.x.at_.toNat;omega
 have hVr:=YP' s.H t.x.at_.toNat
 have hscan:(ZT' (ZJ' s.H t.x.at_.toNat) sp 2147483647)=(ZJ' s.H t.x.at_.toNat).filter (fun r=>ZW' sp r.key):=by unfold ZT';exact List.take_of_length_le (Nat.le_trans (List.length_filter_le _ _) (by omega))
 have hscl:(ZT' (ZJ' s.H t.x.at_.toNat) sp 2147483647).length≤b:=by rw [hscan];exact Nat.le_trans (List.length_filter_le _ _) hVl
 have hml:=(Ze2_ t.x.own).2
 refine WL.opn (KK' (p:=p) (dp:=dp) (s:=s)) fun x=>?_
 obtain ⟨lp,pp,mb⟩:=x
 dsimp only
 refine WL.e Zb'<|WL.next<|WP.seq<|WP.seq<|WP.draws Zq' 12<|RW.e 0 rfl Za'<|RW.e 1 rfl Zk'<|RW.e 2 rfl (e_fa KA')<|RW.e 3 rfl (Zc' a142)<|RW.e 4 rfl Za'<|RW.e 5 rfl Zk'<|RW.e 6 rfl (e_fa Zfo_)<|RW.e 7 rfl (Zc' a24)<|RW.e 8 rfl (Zm' a45)<|RW.e 11 rfl Za' ?_
 refine RW.any (is:=[9]) rfl ⟨?_,trivial⟩
 refine RWat.h rfl rfl rfl ?_
 refine (Zg' (ZcA_ (p:=pp) (H:=s.H) (trim:=s.trim) t.x.at_ sp 2147483647 hta1 hta2 (by omega) (by have:=hs.st.hl;omega) (by decide)) k205 ?_)
 intro a2 m2 c2
 refine ⟨⟨⟨_,rfl,.inl ⟨rfl,Za'⟩⟩,trivial⟩,?_⟩
 refine RW.e 10 rfl (ZD' (xs:=(ZT' (ZJ' s.H t.x.at_.toNat) sp 2147483647)) sl38 Zr')<|RW.done<|PO.next<|WP.block<|WP.nils 105 2 RowM.c none ?_
 refine WP.loopK (fun (x:Nat × SV)=>[(27,.int .i64 x.1),(6,x.2.v)]) (fun (x:Nat × SV)=>Sl 105 2 RowM.c x.2.v (List.filter (fun r=>(aget (Yu' t.x.own) r.key).isNone) ((ZT' (ZJ' s.H t.x.at_.toNat) sp 2147483647).take x.1))::Sl 105 2 RowM.c (.slice a2 m2 c2) (ZT' (ZJ' s.H t.x.at_.toNat) sp 2147483647)::Mp eStr (.map (some mm)) (List.map kvC (Yu' t.x.own))::cl p 146 [.pointer (some ⟨lp,0,none⟩),.pointer (some ⟨pp,0,none⟩),.map (some mb)]::cl lp 166 [.pointer (some ⟨dp,0,none⟩),.int .i64 s.at_]::Dk dp s.d::Pa pp s.H s.trim::Mp eU32 (.map (some mb)) (List.map kvU s.txs)::cl t.q 306 [.int .u32 t.x.at_.toNat,v1,u]::cl b1 45 sp.c::A::R) [(5,_),(7,_),(25,_),(26,_)] (fun (x:Nat × SV)=>x.1≤(ZT' (ZJ' s.H t.x.at_.toNat) sp 2147483647).length) (fun (x:Nat × SV)=>(ZT' (ZJ' s.H t.x.at_.toNat) sp 2147483647).length - x.1) (0,⟨none,0,0⟩) (Nat.zero_le _) ?_
 rintro ⟨i,w6⟩ hi
 simp only at hi
 dsimp only
 refine WP.seq<|WP.reg<|WL.e Z3'<|WL.next<|WP.seq ?_
 refine WP.cond rfl (fun h2=>?_) (fun h2=>?_)
 ·have hlt:i < (ZT' (ZJ' s.H t.x.at_.toNat) sp 2147483647).length:=by rw [decide_eq_true_eq] at h2;omega
  obtain ⟨r,hr⟩:∃ r,(ZT' (ZJ' s.H t.x.at_.toNat) sp 2147483647)[i]?=some r:=⟨_,List.getElem?_eq_getElem hlt⟩
  have hofl:(List.filter (fun r=>(aget (Yu' t.x.own) r.key).isNone) ((ZT' (ZJ' s.H t.x.at_.toNat) sp 2147483647).take i)).length≤b:=Nat.le_trans (List.length_filter_le _ _) (Nat.le_trans (List.length_take_le _ _) (by omega))
  refine WP.skip<|PO.next<|WP.seq<|WP.block<|WP.seq<|WP.reg<|WL.e (ZZ' (xs:=(ZT' (ZJ' s.H t.x.at_.toNat) sp 2147483647)) sl38 Zr' hlt)<|WL.e (YA' (a:=r) a105 rowE Zr' hr) ?_
  refine WL.h (Zu' z105 fun b2=>?_)
  refine WL.h' (Zj' s105 ?_)
  refine WL.next<|WP.seq<|WP.reg<|WL.e Za'<|WL.e (e_fa Zez_)<|WL.e (Zc' a9)<|WL.e (Zm6_ (k:=r.key) (l:=(Yu' t.x.own)) Tryz.underlying316 (KT' Tryz.underlying9) ZoI_)<|WL.e Za'<|WL.e Ze'<|WL.e Ze' ?_
  refine WL.h (Zu' z179 fun b3=>?_)
  refine WL.h' (Zj' s179 ?_)
  refine WL.e Zb'<|WL.next<|WP.seq<|WP.reg<|WL.e Za'<|WL.e Zx'<|WL.next ?_
  refine WP.cond rfl (fun h5=>?_) (fun h5=>?_)
  ·have hnone:(aget (Yu' t.x.own) r.key).isNone=true:=by cases e:aget (Yu' t.x.own) r.key with
    | none=>rfl
    | some c=>rw [e] at h5;cases h5
   refine WP.reg<|WL.e Za'<|WL.e (Zm' a105) ?_
   refine WL.h (h_bs sl38 z105 (.a2 (.tmp 41) rfl<|.n) fun b4=>?_)
   refine WL.h (ZG' (xs:=(List.filter (fun r=>(aget (Yu' t.x.own) r.key).isNone) ((ZT' (ZJ' s.H t.x.at_.toNat) sp 2147483647).take i))) (ys:=[r]) sl38 rowE z105 (Z7' rowE [r] rfl) (by simp only [List.length_singleton];omega) (fun a5 n5 c5=>?_))
   refine WL.e Zb'<|WL.nil<|PO.blockN<|PO.next<|WP.reg<|WL.e (ZE' rfl rfl (Zt' (by omega) (by omega)))<|WL.e Za'<|WL.nil ?_
   rw [show (List.filter (fun r=>(aget (Yu' t.x.own) r.key).isNone) ((ZT' (ZJ' s.H t.x.at_.toNat) sp 2147483647).take i))++[r]=(List.filter (fun r=>(aget (Yu' t.x.own) r.key).isNone) ((ZT' (ZJ' s.H t.x.at_.toNat) sp 2147483647).take (i+1))) by rw [ZA' hr,List.filter_append];simp [List.filter_cons,hnone]]
   exact PO.againK (i+1,⟨a5,n5,c5⟩) (by simp only;omega) (by simp only;omega)
  ·have hsome:(aget (Yu' t.x.own) r.key).isNone=false:=by cases e:aget (Yu' t.x.own) r.key with
    | none=>rw [e] at h5;cases h5
    | some c=>rfl
   refine WP.skip<|PO.blockN<|PO.next<|WP.reg<|WL.e (ZE' rfl rfl (Zt' (by omega) (by omega)))<|WL.e Za'<|WL.nil ?_
   rw [show (List.filter (fun r=>(aget (Yu' t.x.own) r.key).isNone) ((ZT' (ZJ' s.H t.x.at_.toNat) sp 2147483647).take i))=(List.filter (fun r=>(aget (Yu' t.x.own) r.key).isNone) ((ZT' (ZJ' s.H t.x.at_.toNat) sp 2147483647).take (i+1))) by rw [ZA' hr,List.filter_append];simp [List.filter_cons,hsome]]
   exact PO.againK (i+1,w6) (by simp only;omega) (by simp only;omega)
 ·have hbase:(List.filter (fun r=>(aget (Yu' t.x.own) r.key).isNone) ((ZT' (ZJ' s.H t.x.at_.toNat) sp 2147483647).take i))=Vg' (ZJ' s.H t.x.at_.toNat) sp (Yu' t.x.own):=by rw [List.take_of_length_le (show (ZT' (ZJ' s.H t.x.at_.toNat) sp 2147483647).length≤i by rw [decide_eq_false_iff_not] at h2;omega),hscan,List.filter_filter];unfold Vg';congr 1;funext r;rw [Bool.and_comm]
  rw [hbase]
  refine WP.exit<|PO.past nofun<|PO.round nofun<|PO.blockX<|PO.next<|WP.seq<|WP.seq<|WP.reg<|WL.e Za' ?_
  refine WL.h (Xt' (kvs:=List.map kvC (Yu' t.x.own)) Tryz.underlying316 fun it=>?_)
  refine WL.next<|WP.block<|WP.loopK (fun (x:Mine × List RowM × SV × Option (ByteArray × Value))=>[(6,x.2.2.1.v)]) (fun (x:Mine × List RowM × SV × Option (ByteArray × Value))=>Sl 105 2 RowM.c x.2.2.1.v x.2.1::MpIt eStr (.map (some mm)) it (List.map kvC (Yu' t.x.own)) (List.map kvC x.1) x.2.2.2::cl p 146 [.pointer (some ⟨lp,0,none⟩),.pointer (some ⟨pp,0,none⟩),.map (some mb)]::cl lp 166 [.pointer (some ⟨dp,0,none⟩),.int .i64 s.at_]::Dk dp s.d::Pa pp s.H s.trim::Mp eU32 (.map (some mb)) (List.map kvU s.txs)::cl t.q 306 [.int .u32 t.x.at_.toNat,v1,u]::cl b1 45 sp.c::A::R) [(5,_),(46,_)] (fun (x:Mine × List RowM × SV × Option (ByteArray × Value))=>(x.2.1++entL sp x.1).Perm (Vg' (ZJ' s.H t.x.at_.toNat) sp (Yu' t.x.own)++entL sp (Yu' t.x.own))∧x.2.1.length+x.1.length≤2 * b) (fun (x:Mine × List RowM × SV × Option (ByteArray × Value))=>x.1.length) ((Yu' t.x.own),Vg' (ZJ' s.H t.x.at_.toNat) sp (Yu' t.x.own),w6,none) (⟨.refl _,by have:(Vg' (ZJ' s.H t.x.at_.toNat) sp (Yu' t.x.own)).length≤b:=Nat.le_trans (List.length_filter_le _ _) hVl;simp only;omega⟩) ?_
  rintro ⟨left,o,w7,cur⟩ ⟨hx1,hx2⟩
  simp only at hx1 hx2
  dsimp only
  refine WP.seq<|WP.reg ?_
  refine WL.h (XY' (fun h0=>?_) (fun a y0 b0 hx=>?_))
  ·have hl0:left=[]:=by simpa using h0
   subst hl0
   have hpo:o.Perm (Vg' (ZJ' s.H t.x.at_.toNat) sp (Yu' t.x.own)++entL sp (Yu' t.x.own)):=by simpa [entL] using hx1
   obtain ⟨a6,n6,c6⟩:=w7
   refine WL.e Ze'<|WL.next<|WP.seq<|WP.cond_f rfl<|WP.exit<|PO.past nofun<|PO.round nofun<|PO.blockX<|PO.next<|WP.seq<|WP.reg<|WL.e Za' ?_
   refine WL.h (Zg' (Ziq_ (xs:=o) (by simp only [List.length_nil] at hx2;omega)) k212 ?_)
   rintro ys ⟨hy1,hy2⟩
   obtain rfl:=ZfY_ hVr t.x.own sp (hy1.trans hpo) hy2
   generalize hzs:(Zw' (ZJ' s.H t.x.at_.toNat) t.x.own).filter (fun r=>ZW' sp r.key)=zs at *
   have hzl:zs.length≤2 * b:=by rw [hy1.length_eq];simpa using hx2
   have h256:ZT' (Zw' (ZJ' s.H t.x.at_.toNat) t.x.own) sp 256=zs.take (min zs.length 256):=by unfold ZT';rw [hzs,List.take_eq_take_min,Nat.min_comm]
   refine WL.next<|WP.seq<|WP.reg<|WL.e Za'<|WL.e Za'<|WL.e (ZD' (xs:=zs) sl38 Zr')<|WL.e (Zn4_ (a:=zs.length) (b:=256))<|WL.e (VH' (hi:=min zs.length 256) (xs:=zs) sl38 Zr' (Nat.min_le_left _ _)) ?_
   refine WL.h (Zg' (Zbd_ (RL.to_ rowE (Zr' (E:=105) (u:=.slice a6 n6 c6) (xs:=zs)) (Nat.min_le_left _ _)) (by rw [List.length_take];omega)) k186 ?_)
   intro a8 m8 c8
   refine WL.h (Zg' (Ziu_) k214 ?_)
   intro a9 m9 c9
   refine WL.e Zb'<|WL.next<|WP.ret ?_
   rw [h256] at hK
   refine PO.cls (A:=Bs p dp (s)) (B:=[cl p 146 [.pointer (some ⟨lp,0,none⟩),.pointer (some ⟨pp,0,none⟩),.map (some mb)],cl lp 166 [.pointer (some ⟨dp,0,none⟩),.int .i64 s.at_],Dk dp s.d,Pa pp s.H s.trim,Mp eU32 (.map (some mb)) (List.map kvU s.txs)]) (fun S h=>⟨(lp,pp,mb),h⟩) ?_
   exact PO.fin Tryz.results204 (Zd' Zf') (hK a9 m9 c9)
  ·obtain ⟨A1,y,B1,hl,rfl,rfl,rfl⟩:=Xw' hx
   have hol2:o.length+1≤2 * b:=by simp only [hl,List.length_append,List.length_cons] at hx2;omega
   refine WL.e Ze'<|WL.next<|WP.seq<|WP.cond_t rfl<|WP.skip<|PO.next<|WP.block<|WP.seq<|WP.reg<|WL.e Xi'<|WL.e Ze'<|WL.e Ze' ?_
   refine WL.h (Zu' z179 fun b5=>?_)
   refine WL.e Zb' ?_
   refine WL.h' (Zj' s179 ?_)
   refine WL.next<|WP.seq<|WP.reg<|WL.e (e_fa QU')<|WL.e (Zc' a4)<|WL.e Zx'<|WL.e Za' ?_
   refine WL.bool 55 rfl (fun h7=>?_) (fun h7=>?_)
   ·have hng:y.2.gone=false:=by simpa using h7
    refine WL.e Za'<|WL.e Za'<|WL.e (Zv' z45 p45 (.o (.tmp 56) rfl<|.o (.tmp 57) rfl<|.n))<|WL.e (Zm' a45) ?_
    refine WL.h (Zg' (Y8' ⟨_,_⟩ ⟨_,_⟩) k30 ?_)
    refine WL.e Zn'<|WL.next ?_
    refine WP.cond rfl (fun h8=>?_) (fun h8=>?_)
    ·replace h8:ZW' sp y.1=true:=by rw [← Uz'];exact h8
     refine WP.reg<|WL.e Za'<|WL.e Za'<|WL.e (e_fa Y4')<|WL.e (Zc' a24)<|WL.e (Zv' z105 p105 (.o (.tmp 63) rfl<|.o (.tmp 65) rfl<|.n)) ?_
     refine WL.h (h_bs sl38 z105 (.a2 (.tmp 66) rfl<|.n) fun b6=>?_)
     refine WL.h (ZG' (xs:=o) (ys:=[(⟨y.1,y.2.val⟩:RowM)]) sl38 rowE z105 (Z7' rowE [(⟨y.1,y.2.val⟩:RowM)] rfl) (by simp only [List.length_singleton];omega) (fun a5 n5 c5=>?_))
     refine WL.e Zb'<|WL.nil<|PO.blockN ?_
     rw [← List.map_append]
     exact PO.againK (A1++B1,o++[⟨y.1,y.2.val⟩],⟨a5,n5,c5⟩,_) ⟨by simp only;rw [ZbB_,List.append_assoc];refine List.Perm.trans ?_ hx1;rw [hl,ZbA_,if_pos (by simp [hng,h8])];exact List.Perm.append_left _ (List.perm_append_comm_assoc _ _ _),by simp only [hl,List.length_append,List.length_cons,List.length_nil] at hx2 ⊢;omega⟩ (by simp only [hl,List.length_append,List.length_cons];omega)
    ·replace h8:ZW' sp y.1=false:=by rw [← Uz'];exact h8
     refine WP.skip<|PO.blockN ?_
     rw [← List.map_append]
     exact PO.againK (A1++B1,o,w7,_) ⟨by simp only;rw [ZbB_];rw [hl,ZbA_,if_neg (by simp [h8])] at hx1;exact hx1,by simp only [hl,List.length_append,List.length_cons] at hx2 ⊢;omega⟩ (by simp only [hl,List.length_append,List.length_cons];omega)
   ·have hng:y.2.gone=true:=by simpa using h7
    refine WL.skip<|WL.skip<|WL.skip<|WL.skip<|WL.skip<|WL.e Zl'<|WL.next<|WP.cond_f rfl<|WP.skip<|PO.blockN ?_
    rw [← List.map_append]
    exact PO.againK (A1++B1,o,w7,_) ⟨by simp only;rw [ZbB_];rw [hl,ZbA_,if_neg (by simp [hng])] at hx1;exact hx1,by simp only [hl,List.length_append,List.length_cons] at hx2 ⊢;omega⟩ (by simp only [hl,List.length_append,List.length_cons];omega)
end Go.SL
