/- VD: rules and walks, several texts in one. -/
import Derived.Test.YtdpmpcoekkhceaaGreatQN19
import Derived.Test.YtdpmpcoekkhceaaGreatProg
import Derived.KernelRfl
set_option linter.unusedSimpArgs false
set_option linter.unusedVariables false
namespace Go.SL.VD
open Go Go.Proofs Go.SL
theorem a103 : aggOf Tryz.prog 103 = some none := by kernel_rfl
theorem a108 : aggOf Tryz.prog 108 = some (some 3) := by kernel_rfl
theorem a177 : aggOf Tryz.prog 177 = some none := by kernel_rfl
theorem a22 : aggOf Tryz.prog 22 = some none := by kernel_rfl
theorem a4 : aggOf Tryz.prog 4 = some none := by kernel_rfl
theorem a40 : aggOf Tryz.prog 40 = some (some 2) := by kernel_rfl
theorem a69 : aggOf Tryz.prog 69 = some (some 2) := by kernel_rfl
theorem a9 : aggOf Tryz.prog 9 = some none := by kernel_rfl
theorem a95 : aggOf Tryz.prog 95 = some none := by kernel_rfl
theorem a97 : aggOf Tryz.prog 97 = some none := by kernel_rfl
theorem a98 : aggOf Tryz.prog 98 = some none := by kernel_rfl
theorem f100_1 : fldOf Tryz.prog 100 1 = some 1 := by kernel_rfl
theorem f100_2 : fldOf Tryz.prog 100 2 = some 2 := by kernel_rfl
theorem f106_0 : fldOf Tryz.prog 106 0 = some 0 := by kernel_rfl
theorem f106_2 : fldOf Tryz.prog 106 2 = some 2 := by kernel_rfl
theorem f108_0 : fldOf Tryz.prog 108 0 = some 0 := by kernel_rfl
theorem f108_1 : fldOf Tryz.prog 108 1 = some 1 := by kernel_rfl
theorem f108_2 : fldOf Tryz.prog 108 2 = some 2 := by kernel_rfl
theorem f40_0 : fldOf Tryz.prog 40 0 = some 0 := by kernel_rfl
theorem k141 : callable Tryz.prog 141 = true := by kernel_rfl
theorem k142 : callable Tryz.prog 142 = true := by kernel_rfl
theorem k143 : callable Tryz.prog 143 = true := by kernel_rfl
theorem k144 : callable Tryz.prog 144 = true := by kernel_rfl
theorem k145 : callable Tryz.prog 145 = true := by kernel_rfl
theorem k169 : callable Tryz.prog 169 = true := by kernel_rfl
theorem k178 : callable Tryz.prog 178 = true := by kernel_rfl
theorem k179 : callable Tryz.prog 179 = true := by kernel_rfl
theorem k180 : callable Tryz.prog 180 = true := by kernel_rfl
theorem k204 : callable Tryz.prog 204 = true := by kernel_rfl
theorem k59 : callable Tryz.prog 59 = true := by kernel_rfl
theorem k60 : callable Tryz.prog 60 = true := by kernel_rfl
theorem k63 : callable Tryz.prog 63 = true := by kernel_rfl
theorem k86 : callable Tryz.prog 86 = true := by kernel_rfl
theorem k87 : callable Tryz.prog 87 = true := by kernel_rfl
theorem k89 : callable Tryz.prog 89 = true := by kernel_rfl
theorem k90 : callable Tryz.prog 90 = true := by kernel_rfl
theorem k93 : callable Tryz.prog 93 = true := by kernel_rfl
theorem k94 : callable Tryz.prog 94 = true := by kernel_rfl
theorem k96 : callable Tryz.prog 96 = true := by kernel_rfl
theorem mixedOk : Tryz.prog.follows .mixedOrders = true := by kernel_rfl
theorem p40 : placesOf Tryz.prog 40 = some [(0, 1), (1, 1)] := by kernel_rfl
theorem p69 : placesOf Tryz.prog 69 = some [(0, 1), (1, 1)] := by kernel_rfl
theorem pt24 : isPtr Tryz.prog 24 = true := by kernel_rfl
theorem s108 : szOf Tryz.prog 108 = some 3 := by kernel_rfl
theorem s177 : szOf Tryz.prog 177 = some 1 := by kernel_rfl
theorem s40 : szOf Tryz.prog 40 = some 2 := by kernel_rfl
theorem sl103 : slOf Tryz.prog 103 = some (108, 3, 24) := by kernel_rfl
theorem sl177 : slOf Tryz.prog 177 = some (95, 1, 8) := by kernel_rfl
theorem sl29 : slOf Tryz.prog 29 = some (40, 2, 24) := by kernel_rfl
theorem z108 : zeroOf Tryz.prog 108 = some [.string .empty, .int .u32 0, .bool false] := by kernel_rfl
theorem z40 : zeroOf Tryz.prog 40 = some [.string .empty, .int .u32 0] := by kernel_rfl
theorem z69 : zeroOf Tryz.prog 69 = some [.string .empty, .string .empty] := by kernel_rfl
theorem z95 : zeroOf Tryz.prog 95 = some [.pointer none] := by kernel_rfl
theorem zg108 : (Tryz.prog.info? 108).bind (·.zero) = some (.agg #[.string .empty, .int .u32 0, .bool false]) := by kernel_rfl
end Go.SL.VD
namespace Go.SL
open Go Go.Proofs VD
open Go.Sort Go.Shelf in
def laysRow_ren : Go.Shelf.Ren := ⟨fun | 6 => 87 | 14 => 141 | 15 => 142 | 20 => 169 | 21 => 170 | 22 => 171 | 23 => 172 | 24 => 173 | 25 => 174 | 26 => 175 | 27 => 176 | 28 => 177 | 29 => 178 | 46 => 199 | 47 => 200 | 48 => 201 | 49 => 202 | 50 => 203 | 57 => 220 | n => n, fun | 0 => 0 | 1 => 1 | 2 => 2 | 3 => 3 | 4 => 4 | 5 => 5 | 6 => 6 | 7 => 7 | 8 => 8 | 9 => 9 | 22 => 29 | 24 => 40 | 25 => 168 | 39 => 238 | 45 => 275 | 46 => 276 | 50 => 258 | 53 => 22 | 55 => 56 | 66 => 299 | 70 => 303 | 76 => 315 | 77 => 316 | n => n, fun n => n⟩
open Go.Sort Go.Shelf in
theorem laysRow : Go.Proofs.SlLaysF0.n6 Tryz.prog laysRow_ren where
  mixed := by kernel_rfl
  f6 := ⟨Tryz.f87.name, by decide +kernel, Tryz.func87.trans (congrArg some (by kernel_rfl))⟩
  f14 := ⟨Tryz.f141.name, by decide +kernel, Tryz.func141.trans (congrArg some (by kernel_rfl))⟩
  f15 := Tryz.func142.trans (congrArg some (by kernel_rfl))
  f20 := ⟨Tryz.f169.name, by decide +kernel, Tryz.func169.trans (congrArg some (by kernel_rfl))⟩
  f21 := ⟨Tryz.f170.name, by decide +kernel, Tryz.func170.trans (congrArg some (by kernel_rfl))⟩
  f22 := ⟨Tryz.f171.name, by decide +kernel, Tryz.func171.trans (congrArg some (by kernel_rfl))⟩
  f23 := ⟨Tryz.f172.name, by decide +kernel, Tryz.func172.trans (congrArg some (by kernel_rfl))⟩
  f24 := ⟨Tryz.f173.name, by decide +kernel, Tryz.func173.trans (congrArg some (by kernel_rfl))⟩
  f25 := ⟨Tryz.f174.name, by decide +kernel, Tryz.func174.trans (congrArg some (by kernel_rfl))⟩
  f26 := ⟨Tryz.f175.name, by decide +kernel, Tryz.func175.trans (congrArg some (by kernel_rfl))⟩
  f27 := ⟨Tryz.f176.name, by decide +kernel, Tryz.func176.trans (congrArg some (by kernel_rfl))⟩
  f28 := Tryz.func177.trans (congrArg some (by kernel_rfl))
  f29 := Tryz.func178.trans (congrArg some (by kernel_rfl))
  f46 := ⟨Tryz.f199.name, by decide +kernel, Tryz.func199.trans (congrArg some (by kernel_rfl))⟩
  f47 := Tryz.func200.trans (congrArg some (by kernel_rfl))
  f48 := Tryz.func201.trans (congrArg some (by kernel_rfl))
  f49 := ⟨Tryz.f202.name, by decide +kernel, Tryz.func202.trans (congrArg some (by kernel_rfl))⟩
  f50 := ⟨Tryz.f203.name, by decide +kernel, Tryz.func203.trans (congrArg some (by kernel_rfl))⟩
  f57 := ⟨Tryz.f220.name, by decide +kernel, Tryz.func220.trans (congrArg some (by kernel_rfl))⟩
  t0 := Tryz.underlying0
  a0 := Tryz.isAgg0
  z0 := Tryz.sizeOf0
  v0 := Tryz.zeroValue0
  t3 := Tryz.underlying3
  a3 := Tryz.isAgg3
  z3 := Tryz.sizeOf3
  v3 := Tryz.zeroValue3
  t4 := Tryz.underlying4
  a4 := Tryz.isAgg4
  z4 := Tryz.sizeOf4
  v4 := Tryz.zeroValue4
  t5 := Tryz.underlying5
  a5 := Tryz.isAgg5
  z5 := Tryz.sizeOf5
  v5 := Tryz.zeroValue5
  t9 := Tryz.underlying9
  a9 := Tryz.isAgg9
  z9 := Tryz.sizeOf9
  v9 := Tryz.zeroValue9
  t22 := Tryz.underlying29
  a22 := Tryz.isAgg29
  z22 := Tryz.sizeOf29
  v22 := Tryz.zeroValue29
  t25 := Tryz.underlying168
  a25 := Tryz.isAgg168
  z25 := Tryz.sizeOf168
  v25 := Tryz.zeroValue168
  t39 := Tryz.underlying238
  a39 := Tryz.isAgg238
  z39 := Tryz.sizeOf238
  v39 := Tryz.zeroValue238
  t45 := Tryz.underlying275
  a45 := Tryz.isAgg275
  z45 := Tryz.sizeOf275
  v45 := Tryz.zeroValue275
  t46 := Tryz.underlying276
  a46 := Tryz.isAgg276
  z46 := Tryz.sizeOf276
  v46 := Tryz.zeroValue276
  t50 := Tryz.underlying258
  a50 := Tryz.isAgg258
  z50 := Tryz.sizeOf258
  v50 := Tryz.zeroValue258
  t53 := Tryz.underlying22
  a53 := Tryz.isAgg22
  z53 := Tryz.sizeOf22
  v53 := Tryz.zeroValue22
  t55 := Tryz.underlying56
  a55 := Tryz.isAgg56
  z55 := Tryz.sizeOf56
  v55 := Tryz.zeroValue56
  t66 := Tryz.underlying299
  a66 := Tryz.isAgg299
  z66 := Tryz.sizeOf299
  v66 := Tryz.zeroValue299
  t70 := Tryz.underlying303
  a70 := Tryz.isAgg303
  z70 := Tryz.sizeOf303
  v70 := Tryz.zeroValue303
  t76 := Tryz.underlying315
  a76 := Tryz.isAgg315
  z76 := Tryz.sizeOf315
  v76 := Tryz.zeroValue315
  t77 := Tryz.underlying316
  a77 := Tryz.isAgg316
  z77 := Tryz.sizeOf316
  v77 := Tryz.zeroValue316
open Go.Sort Go.Shelf in
def laysTx_ren : Go.Shelf.Ren := ⟨fun | 6 => 144 | 14 => 180 | 15 => 142 | 20 => 204 | 21 => 205 | 22 => 206 | 23 => 207 | 24 => 208 | 25 => 209 | 26 => 210 | 27 => 211 | 28 => 177 | 29 => 178 | 46 => 221 | 47 => 200 | 48 => 201 | 49 => 222 | 50 => 223 | 57 => 227 | n => n, fun | 0 => 0 | 1 => 1 | 2 => 2 | 3 => 3 | 4 => 4 | 5 => 5 | 6 => 6 | 7 => 7 | 8 => 8 | 9 => 9 | 22 => 177 | 24 => 95 | 25 => 182 | 39 => 238 | 45 => 275 | 46 => 276 | 50 => 258 | 53 => 22 | 55 => 56 | 66 => 299 | 70 => 303 | 76 => 315 | 77 => 316 | n => n, fun n => n⟩
open Go.Sort Go.Shelf in
theorem laysTx : Go.Proofs.SlLaysF.n6 Tryz.prog laysTx_ren where
  mixed := by kernel_rfl
  f6 := ⟨Tryz.f144.name, by decide +kernel, Tryz.func144.trans (congrArg some (by kernel_rfl))⟩
  f14 := ⟨Tryz.f180.name, by decide +kernel, Tryz.func180.trans (congrArg some (by kernel_rfl))⟩
  f15 := Tryz.func142.trans (congrArg some (by kernel_rfl))
  f20 := ⟨Tryz.f204.name, by decide +kernel, Tryz.func204.trans (congrArg some (by kernel_rfl))⟩
  f21 := ⟨Tryz.f205.name, by decide +kernel, Tryz.func205.trans (congrArg some (by kernel_rfl))⟩
  f22 := ⟨Tryz.f206.name, by decide +kernel, Tryz.func206.trans (congrArg some (by kernel_rfl))⟩
  f23 := ⟨Tryz.f207.name, by decide +kernel, Tryz.func207.trans (congrArg some (by kernel_rfl))⟩
  f24 := ⟨Tryz.f208.name, by decide +kernel, Tryz.func208.trans (congrArg some (by kernel_rfl))⟩
  f25 := ⟨Tryz.f209.name, by decide +kernel, Tryz.func209.trans (congrArg some (by kernel_rfl))⟩
  f26 := ⟨Tryz.f210.name, by decide +kernel, Tryz.func210.trans (congrArg some (by kernel_rfl))⟩
  f27 := ⟨Tryz.f211.name, by decide +kernel, Tryz.func211.trans (congrArg some (by kernel_rfl))⟩
  f28 := Tryz.func177.trans (congrArg some (by kernel_rfl))
  f29 := Tryz.func178.trans (congrArg some (by kernel_rfl))
  f46 := ⟨Tryz.f221.name, by decide +kernel, Tryz.func221.trans (congrArg some (by kernel_rfl))⟩
  f47 := Tryz.func200.trans (congrArg some (by kernel_rfl))
  f48 := Tryz.func201.trans (congrArg some (by kernel_rfl))
  f49 := ⟨Tryz.f222.name, by decide +kernel, Tryz.func222.trans (congrArg some (by kernel_rfl))⟩
  f50 := ⟨Tryz.f223.name, by decide +kernel, Tryz.func223.trans (congrArg some (by kernel_rfl))⟩
  f57 := ⟨Tryz.f227.name, by decide +kernel, Tryz.func227.trans (congrArg some (by kernel_rfl))⟩
  t0 := Tryz.underlying0
  a0 := Tryz.isAgg0
  z0 := Tryz.sizeOf0
  v0 := Tryz.zeroValue0
  t3 := Tryz.underlying3
  a3 := Tryz.isAgg3
  z3 := Tryz.sizeOf3
  v3 := Tryz.zeroValue3
  t4 := Tryz.underlying4
  a4 := Tryz.isAgg4
  z4 := Tryz.sizeOf4
  v4 := Tryz.zeroValue4
  t5 := Tryz.underlying5
  a5 := Tryz.isAgg5
  z5 := Tryz.sizeOf5
  v5 := Tryz.zeroValue5
  t9 := Tryz.underlying9
  a9 := Tryz.isAgg9
  z9 := Tryz.sizeOf9
  v9 := Tryz.zeroValue9
  t22 := Tryz.underlying177
  a22 := Tryz.isAgg177
  z22 := Tryz.sizeOf177
  v22 := Tryz.zeroValue177
  a24 := Tryz.isAgg95
  z24 := Tryz.sizeOf95
  t25 := Tryz.underlying182
  a25 := Tryz.isAgg182
  z25 := Tryz.sizeOf182
  v25 := Tryz.zeroValue182
  t39 := Tryz.underlying238
  a39 := Tryz.isAgg238
  z39 := Tryz.sizeOf238
  v39 := Tryz.zeroValue238
  t45 := Tryz.underlying275
  a45 := Tryz.isAgg275
  z45 := Tryz.sizeOf275
  v45 := Tryz.zeroValue275
  t46 := Tryz.underlying276
  a46 := Tryz.isAgg276
  z46 := Tryz.sizeOf276
  v46 := Tryz.zeroValue276
  t50 := Tryz.underlying258
  a50 := Tryz.isAgg258
  z50 := Tryz.sizeOf258
  v50 := Tryz.zeroValue258
  t53 := Tryz.underlying22
  a53 := Tryz.isAgg22
  z53 := Tryz.sizeOf22
  v53 := Tryz.zeroValue22
  t55 := Tryz.underlying56
  a55 := Tryz.isAgg56
  z55 := Tryz.sizeOf56
  v55 := Tryz.zeroValue56
  t66 := Tryz.underlying299
  a66 := Tryz.isAgg299
  z66 := Tryz.sizeOf299
  v66 := Tryz.zeroValue299
  t70 := Tryz.underlying303
  a70 := Tryz.isAgg303
  z70 := Tryz.sizeOf303
  v70 := Tryz.zeroValue303
  t76 := Tryz.underlying315
  a76 := Tryz.isAgg315
  z76 := Tryz.sizeOf315
  v76 := Tryz.zeroValue315
  t77 := Tryz.underlying316
  a77 := Tryz.isAgg316
  z77 := Tryz.sizeOf316
  v77 := Tryz.zeroValue316
open Go.Sort Go.Shelf in
theorem cmpRow_b : CmpB Tryz.prog 88 [] (pu True) (fun x : RowM => .agg (RowM.c x).toArray) cfRow := fun W S _ _ x y => by
  show Calls Tryz.prog 88 #[.agg #[.string x.key, .int .u32 x.val.toNat], .agg #[.string y.key, .int .u32 y.val.toNat]] W _
  go_enter Tryz.func88, Tryz.ntmps88
  go_wp2
  · rename_i h
    go_ret
    exact ⟨by simp [cfRow, sLt, h], 0, _, by rw [alloc_eq_grow, alloc_eq_grow, grow_grow]; rfl⟩
  · rename_i h
    go_ret
    exact ⟨by simp [cfRow, sLt, h], 0, _, by rw [alloc_eq_grow, alloc_eq_grow, grow_grow]; rfl⟩
theorem cmpTx_b0 {x y : Nat} {a b : UInt32} {W : World} (hx : W.cell? ⟨x, 0, none⟩ = some (.int .u32 a.toNat)) (hy : W.cell? ⟨y, 0, none⟩ = some (.int .u32 b.toNat)) :
    Calls Tryz.prog 95 #[.pointer (some ⟨x, 0, none⟩), .pointer (some ⟨y, 0, none⟩)] W fun e w' => e = .returned (.int .i64 ((a.toNat : Int) - b.toNat)) ∧ ∃ q os', w' = Sort.grow (W.drewN q) os' := by
  have mixed : Tryz.prog.follows .mixedOrders = true := by kernel_rfl
  go_enter Tryz.func95, Tryz.ntmps95
  go_wp2
  go_quiet_o (fail)
  go_wp2
  go_ret
  have ha := a.toNat_lt
  have hb := b.toNat_lt
  have e1 : IntKind.i64.wrap (a.toNat : Int) = a.toNat := w_i64 (by omega) (by omega)
  have e2 : IntKind.i64.wrap (b.toNat : Int) = b.toNat := w_i64 (by omega) (by omega)
  have e3 : IntKind.i64.wrap ((a.toNat : Int) - b.toNat) = (a.toNat : Int) - b.toNat := w_i64 (by omega) (by omega)
  refine ⟨?_, nq, #[], ?_⟩
  · rw [e1, e2, e3]; rfl
  · simp [Sort.grow]; rfl
theorem Len64_0 {g : World} : Spec Tryz.prog g 178 [.int .u64 0] [] fun K R => K (.int .i64 0) R := by
  refine Spec.intro Tryz.func178 rfl Tryz.ntmps178 rfl fun R K hK => ?_
  refine WP.seq ?_
  refine WP.reg ?_
  refine WL.e e_assign ?_
  refine WL.next ?_
  refine WP.seq ?_
  refine WP.seq ?_
  refine WP.reg ?_
  refine WL.e e_move <| WL.e e_geq ?_
  refine WL.next ?_
  refine WP.cond_f rfl ?_
  refine WP.skip ?_
  refine PO.next ?_
  refine WP.seq ?_
  refine WP.seq ?_
  refine WP.reg ?_
  refine WL.e e_move <| WL.e e_geq ?_
  refine WL.next ?_
  refine WP.cond_f rfl ?_
  refine WP.skip ?_
  refine PO.next ?_
  refine WP.seq ?_
  refine WP.seq ?_
  refine WP.reg ?_
  refine WL.e e_move <| WL.e e_geq ?_
  refine WL.next ?_
  refine WP.cond_f rfl ?_
  refine WP.skip ?_
  refine PO.next ?_
  refine WP.seq ?_
  refine WP.reg ?_
  refine WL.e e_move <| WL.e e_move <| WL.e (e_conv (by rw [Tryz.underlying56]; rfl) Tryz.underlying5 rfl rfl) ?_
  refine WL.e (e_idxS (n := 0) (b := 0) Tryz.underlying9 (hb := by kernel_rfl)) <| WL.e (e_conv (c := 0) (by rw [Tryz.underlying5]; rfl) Tryz.underlying3 rfl rfl) <| WL.e (e_add rfl rfl (w_i64 (by omega) (by omega))) <| WL.e e_assign ?_
  refine WL.next ?_
  refine WP.ret ?_
  exact PO.finE Tryz.results178 (rv_tmp rv_nil) rfl hK
theorem Len_0 {g : World} : Spec Tryz.prog g 142 [.int .u64 0] [] fun K R => K (.int .i64 0) R := by
  refine Spec.intro Tryz.func142 rfl Tryz.ntmps142 rfl fun R K hK => ?_
  refine WP.seq ?_
  refine WP.reg ?_
  refine WL.e e_assign ?_
  refine WL.next ?_
  refine WP.seq ?_
  refine WP.cond_f rfl ?_
  refine WP.skip ?_
  refine PO.next ?_
  refine WP.seq ?_
  refine WP.reg ?_
  refine WL.e e_move ?_
  refine WL.h (h_call (Len64_0) k178 ?_)
  refine WL.e e_assign ?_
  refine WL.next ?_
  refine WP.ret ?_
  exact PO.fin Tryz.results142 (rv_tmp rv_nil) hK
theorem SRI0 {g : World} {a : Option Addr} {c : Nat} {y : Value} : Spec Tryz.prog g 169 [.slice a 0 c, .int .i64 0, .int .i64 0, y] [] fun K R => K (.tuple #[]) R := by
  refine Spec.intro Tryz.func169 rfl Tryz.ntmps169 rfl fun R K hK => ?_
  refine WP.seq ?_
  refine WP.reg ?_
  refine WL.e e_move <| WL.e (e_add rfl rfl (w_i64 (by omega) (by omega))) <| WL.e e_assign ?_
  refine WL.next ?_
  refine WP.block ?_
  refine WP.loopK (fun (_ : Unit) => [(8, .int .i64 1)]) (fun (_ : Unit) => R) [(0, _), (1, _), (2, _), (3, _)] (fun (_ : Unit) => True) (fun (_ : Unit) => 0) () (trivial) ?_
  intro _ _
  refine WP.seq ?_
  refine WP.seq ?_
  refine WP.reg ?_
  refine WL.e e_move <| WL.e e_move <| WL.e e_lss ?_
  refine WL.next ?_
  refine WP.cond_f rfl ?_
  refine WP.exit ?_
  refine PO.past nofun ?_
  refine PO.round nofun ?_
  refine PO.blockX ?_
  exact PO.fin Tryz.results169 rv_nil hK
theorem SRP0 {g : World} {a : Option Addr} {c : Nat} {y : Value} : Spec Tryz.prog g 141 [.slice a 0 c, .int .i64 0, .int .i64 0, .int .i64 0, y] [] fun K R => K (.tuple #[]) R := by
  refine Spec.intro Tryz.func141 rfl Tryz.ntmps141 rfl fun R K hK => ?_
  refine WP.seq ?_
  refine WP.reg ?_
  refine WL.e e_assign ?_
  refine WL.next ?_
  refine WP.seq ?_
  refine WP.reg ?_
  refine WL.e e_assign ?_
  refine WL.next ?_
  refine WP.block ?_
  refine WP.loopK (fun (_ : Unit) => [(1, .int .i64 0), (2, .int .i64 0)]) (fun (_ : Unit) => R) [(0, _), (4, _)] (fun (_ : Unit) => True) (fun (_ : Unit) => 0) () (trivial) ?_
  intro _ _
  refine WP.block ?_
  refine WP.seq ?_
  refine WP.reg ?_
  refine WL.e e_move <| WL.e e_move <| WL.e (e_sub rfl rfl (w_i64 (by omega) (by omega))) <| WL.e e_assign ?_
  refine WL.next ?_
  refine WP.seq ?_
  refine WP.seq ?_
  refine WP.reg ?_
  refine WL.e e_move <| WL.e e_leq ?_
  refine WL.next ?_
  refine WP.cond_t rfl ?_
  refine WP.seq ?_
  refine WP.reg ?_
  refine WL.e e_move <| WL.e e_move <| WL.e e_move <| WL.e e_move ?_
  refine WL.h (h_call (SRI0) k169 ?_)
  refine WL.next ?_
  refine WP.ret ?_
  refine PO.past nofun ?_
  refine PO.blockR ?_
  refine PO.round nofun ?_
  refine PO.blockR ?_
  exact PO.fin Tryz.results141 rv_nil hK
theorem SRS0 {g : World} {a : Option Addr} {c : Nat} {y : Value} : Spec Tryz.prog g 87 [.slice a 0 c, y] [] fun K R => K (.tuple #[]) R := by
  refine Spec.intro Tryz.func87 rfl Tryz.ntmps87 rfl fun R K hK => ?_
  refine WP.conv (M := pu True :: _) (fun S h => pu_stars trivial h) ?_
  refine WP.seq ?_
  refine WP.reg ?_
  refine WL.e e_move ?_
  refine WL.e (el_len (xs := ([] : List Nat)) (enc := fun _ => []) sl29 (A := pu True) (nil_rl (z := 1))) <| WL.e e_assign ?_
  refine WL.next ?_
  refine WP.reg ?_
  refine WL.e e_move <| WL.e e_move <| WL.e e_move <| WL.e (e_conv (by rw [Tryz.underlying3]; rfl) Tryz.underlying238 rfl rfl) ?_
  refine WL.h (h_call (Len_0) k142 ?_)
  refine WL.e e_move ?_
  refine WL.h (h_call (SRP0) k141 ?_)
  refine WL.nil ?_
  exact PO.fin Tryz.results87 rv_nil hK
theorem STI0 {g : World} {a : Option Addr} {c : Nat} {y : Value} : Spec Tryz.prog g 204 [.slice a 0 c, .int .i64 0, .int .i64 0, y] [] fun K R => K (.tuple #[]) R := by
  refine Spec.intro Tryz.func204 rfl Tryz.ntmps204 rfl fun R K hK => ?_
  refine WP.seq ?_
  refine WP.reg ?_
  refine WL.e e_move <| WL.e (e_add rfl rfl (w_i64 (by omega) (by omega))) <| WL.e e_assign ?_
  refine WL.next ?_
  refine WP.block ?_
  refine WP.loopK (fun (_ : Unit) => [(8, .int .i64 1)]) (fun (_ : Unit) => R) [(0, _), (1, _), (2, _), (3, _)] (fun (_ : Unit) => True) (fun (_ : Unit) => 0) () (trivial) ?_
  intro _ _
  refine WP.seq ?_
  refine WP.seq ?_
  refine WP.reg ?_
  refine WL.e e_move <| WL.e e_move <| WL.e e_lss ?_
  refine WL.next ?_
  refine WP.cond_f rfl ?_
  refine WP.exit ?_
  refine PO.past nofun ?_
  refine PO.round nofun ?_
  refine PO.blockX ?_
  exact PO.fin Tryz.results204 rv_nil hK
theorem STP0 {g : World} {a : Option Addr} {c : Nat} {y : Value} : Spec Tryz.prog g 180 [.slice a 0 c, .int .i64 0, .int .i64 0, .int .i64 0, y] [] fun K R => K (.tuple #[]) R := by
  refine Spec.intro Tryz.func180 rfl Tryz.ntmps180 rfl fun R K hK => ?_
  refine WP.seq ?_
  refine WP.reg ?_
  refine WL.e e_assign ?_
  refine WL.next ?_
  refine WP.seq ?_
  refine WP.reg ?_
  refine WL.e e_assign ?_
  refine WL.next ?_
  refine WP.block ?_
  refine WP.loopK (fun (_ : Unit) => [(1, .int .i64 0), (2, .int .i64 0)]) (fun (_ : Unit) => R) [(0, _), (4, _)] (fun (_ : Unit) => True) (fun (_ : Unit) => 0) () (trivial) ?_
  intro _ _
  refine WP.block ?_
  refine WP.seq ?_
  refine WP.reg ?_
  refine WL.e e_move <| WL.e e_move <| WL.e (e_sub rfl rfl (w_i64 (by omega) (by omega))) <| WL.e e_assign ?_
  refine WL.next ?_
  refine WP.seq ?_
  refine WP.seq ?_
  refine WP.reg ?_
  refine WL.e e_move <| WL.e e_leq ?_
  refine WL.next ?_
  refine WP.cond_t rfl ?_
  refine WP.seq ?_
  refine WP.reg ?_
  refine WL.e e_move <| WL.e e_move <| WL.e e_move <| WL.e e_move ?_
  refine WL.h (h_call (STI0) k204 ?_)
  refine WL.next ?_
  refine WP.ret ?_
  refine PO.past nofun ?_
  refine PO.blockR ?_
  refine PO.round nofun ?_
  refine PO.blockR ?_
  exact PO.fin Tryz.results180 rv_nil hK
theorem STS0 {g : World} {a : Option Addr} {c : Nat} {y : Value} : Spec Tryz.prog g 144 [.slice a 0 c, y] [] fun K R => K (.tuple #[]) R := by
  refine Spec.intro Tryz.func144 rfl Tryz.ntmps144 rfl fun R K hK => ?_
  refine WP.conv (M := pu True :: _) (fun S h => pu_stars trivial h) ?_
  refine WP.seq ?_
  refine WP.reg ?_
  refine WL.e e_move ?_
  refine WL.e (el_len (xs := ([] : List Nat)) (enc := fun _ => []) sl177 (A := pu True) (nil_rl (z := 1))) <| WL.e e_assign ?_
  refine WL.next ?_
  refine WP.reg ?_
  refine WL.e e_move <| WL.e e_move <| WL.e e_move <| WL.e (e_conv (by rw [Tryz.underlying3]; rfl) Tryz.underlying238 rfl rfl) ?_
  refine WL.h (h_call (Len_0) k142 ?_)
  refine WL.e e_move ?_
  refine WL.h (h_call (STP0) k180 ?_)
  refine WL.nil ?_
  exact PO.fin Tryz.results144 rv_nil hK
open Go.Sort Go.Shelf in
theorem SortR_spec {g : World} {xs : List RowM} {a : Option Addr} {m c : Nat} (hn : xs.length ≤ 68719476736) : Spec Tryz.prog g 87 [.slice a m c, .func (.func 88) #[] #[]] [Sl 40 2 RowM.c (.slice a m c) xs] fun K R => ∀ ys, (ys.Perm xs ∧ ys.Pairwise fun a b => sLt b.key a.key = false) → K (.tuple #[]) (Sl 40 2 RowM.c (.slice a m c) ys :: R) := by
  rcases Nat.eq_zero_or_pos xs.length with h0 | h0
  · obtain rfl := List.length_eq_zero_iff.1 h0
    intro R K w hw hT
    obtain ⟨S1, S2, hd, l1, l2, hO, hR⟩ := hw.heap
    obtain rfl := own_zero hO
    exact SRS0 _ K w hw (hT [] ⟨.refl _, List.Pairwise.nil⟩)
  · refine spec_imp (φ := fun ys : List RowM => ys.Perm xs ∧ ys.Pairwise fun a b => ltOf cfRow b a = false) (B := fun ys => Sl 40 2 RowM.c (.slice a m c) ys) (v := .tuple #[]) (spec_unpu ?_) fun (ys : List RowM) h => ⟨h.1, h.2.imp fun {x y} h => by rw [lt_cfRow] at h; exact h⟩
    have h := sortK_spec (ρ := laysRow_ren) (k := 2) (E := 40) (enc := RowM.c) (cf := cfRow) (gf := 88) (cb := []) (B := pu True) (xs := xs) (a := a) (m0 := m) (c0 := c) (g := g) laysRow Tryz.isAgg40 Tryz.sizeOf40 rowE swoRow (enters_of Tryz.func88 (by kernel_rfl) rfl) cmpRow_b h0 hn
    exact fun R K w hw hT => h R K w hw fun ys h1 h2 => hT ys ⟨h1, h2⟩
def TxB_ (t : TxT) : HP := fun S => ∃ x : SV × SV, stars [cl t.q 106 [.int .u32 t.x.at_.toNat, x.1.v, x.2.v], Sl 69 2 SpanM.c x.1.v t.x.looked, Sl 108 3 ChgM.c x.2.v t.x.own] S
theorem TxB__op {t : TxT} : ∀ S, TxB_ t S → ∃ x : SV × SV, stars [cl t.q 106 [.int .u32 t.x.at_.toNat, x.1.v, x.2.v], Sl 69 2 SpanM.c x.1.v t.x.looked, Sl 108 3 ChgM.c x.2.v t.x.own] S := fun _ h => h
def TPB (t : TxT) : List HP := [TxB_ t]
def ptrC (t : TxT) : List Value := [.pointer (some ⟨t.q, 0, none⟩)]
theorem ptrE : EncOk 1 ptrC := ⟨fun _ => rfl, fun _ => rfl⟩
theorem tx_cell {ts : List TxT} {t : TxT} (ht : t ∈ ts) {S : Piece} (hS : TxsU TPB ts S) {W : World} (hle : le S (heapOf W)) : W.cell? ⟨t.q, 0, none⟩ = some (.int .u32 t.x.at_.toNat) := by
  obtain ⟨A, B, e⟩ := List.append_of_mem ht
  obtain ⟨_, S1, S2, _, h1, _, h2, _⟩ := TxsU_out e S hS
  obtain ⟨x, S3, S4, _, h3, _, h4, _⟩ := TxB__op S1 h2
  have h5 : heapOf W t.q = some _ := hle _ _ (h1 _ _ (h3 _ _ h4))
  have h6 : W.heap[t.q]? = some _ := h5
  simp [World.cell?, h6]
theorem Sl_map {α β : Type} {E z : Nat} {enc : α → List Value} {f : β → α} {u : Value} {l : List β} : Sl E z enc u (l.map f) = Sl E z (fun x => enc (f x)) u l := by
  unfold Sl; rw [List.length_map, List.flatMap_map]
theorem of_list {α : Type} {ts : List α} : ∀ xs : List α, (∀ x ∈ xs, x ∈ ts) → ∃ ys : List (Of ts), ys.map (·.1) = xs
  | [], _ => ⟨[], rfl⟩
  | x :: xs, h => by
    obtain ⟨ys, e⟩ := of_list xs fun y hy => h y (by simp [hy])
    exact ⟨⟨x, h x (by simp)⟩ :: ys, by simp [e]⟩
open Go.Sort Go.Shelf in
theorem cmpTx_b {ts : List TxT} : CmpB Tryz.prog 95 [] (TxsU TPB ts) (fun x : Of ts => (.pointer (some ⟨x.1.q, 0, none⟩) : Value)) cfTx := fun W S hle hS x y => cmpTx_b0 (tx_cell x.2 hS hle) (tx_cell y.2 hS hle)
open Go.Sort Go.Shelf in
theorem SortT_spec {g : World} {xs ts : List TxT} {a : Option Addr} {m c : Nat} (hx : ∀ x ∈ xs, x ∈ ts) (hn : xs.length ≤ 68719476736) : Spec Tryz.prog g 144 [.slice a m c, .func (.func 95) #[] #[]] [Sl 95 1 ptrC (.slice a m c) xs, TxsU TPB ts] fun K R => ∀ ys, (ys.Perm xs ∧ ys.Pairwise fun a b => decide (b.x.at_ < a.x.at_) = false) → K (.tuple #[]) (Sl 95 1 ptrC (.slice a m c) ys :: TxsU TPB ts :: R) := by
  rcases Nat.eq_zero_or_pos xs.length with h0 | h0
  · obtain rfl := List.length_eq_zero_iff.1 h0
    intro R K w hw hT
    obtain ⟨S1, S2, hd, l1, l2, hO, hR⟩ := hw.heap
    obtain rfl := own_zero hO
    exact STS0 _ K w hw (hT [] ⟨.refl _, List.Pairwise.nil⟩)
  · obtain ⟨zs, rfl⟩ := of_list xs hx
    have hz : 0 < zs.length := by simpa using h0
    haveI : Inhabited (Of ts) := ⟨zs[0]⟩
    have h := sort1_spec (ρ := laysTx_ren) (E := 95) (enc := fun x : Of ts => (.pointer (some ⟨x.1.q, 0, none⟩) : Value)) (cf := cfTx) (gf := 95) (cb := []) (B := TxsU TPB ts) (xs := zs) (a := a) (m0 := m) (c0 := c) (g := g) laysTx (fun _ => rfl) swoTx (enters_of Tryz.func95 (by kernel_rfl) rfl) cmpTx_b hz (by simpa using hn)
    intro R K w hw hT
    rw [Sl_map] at hw
    refine h R K w hw fun ys h1 h2 => ?_
    have h3 := hT (ys.map (·.1)) ⟨h1.map _, List.pairwise_map.2 (h2.imp fun {x y} h => by rw [lt_cfTx] at h; exact h)⟩
    rw [Sl_map] at h3
    exact h3
theorem BVals_spec {g : World} {m : Nat} : Spec Tryz.prog g 94 [.map (some m)] [] fun K R => ∀ b, K (.func (.func 145) #[] #[.pointer (some ⟨b, 0, none⟩)]) (cl b 98 [.map (some m)] :: R) := by
  refine Spec.intro Tryz.func94 rfl Tryz.ntmps94 rfl fun R K hK => ?_
  refine WP.seq ?_
  refine WP.reg ?_
  refine WL.h (h_box fun b1 => ?_)
  refine WL.e e_assign ?_
  refine WL.next ?_
  refine WP.seq ?_
  refine WP.reg ?_
  refine WL.e e_makeFunc <| WL.e e_assign ?_
  refine WL.next ?_
  refine WP.ret ?_
  exact PO.fin Tryz.results94 (rv_tmp rv_nil) (hK b1)
theorem BVals_iter {g : World} {b m : Nat} {ts : List (TxT)} : Iter Tryz.prog g 145 (fun y => [] ++ [y] ++ [.pointer (some ⟨b, 0, none⟩)]) [cl b 98 [.map (some m)], Mp eU32 (.map (some m)) (List.map kvU ts)] ptrC (fun _ => pu True) (fun xs => xs.Perm ts) (fun pre => ∃ r, (pre ++ r).Perm ts) [cl b 98 [.map (some m)], Mp eU32 (.map (some m)) (List.map kvU ts)] := by
  intro y J X cont hy
  refine Spec.intro Tryz.func145 rfl Tryz.ntmps145 rfl fun R K hK => ?_
  refine WP.seq ?_
  refine WP.reg ?_
  refine WL.e (e_load a98) ?_
  refine WL.h (h_range (kvs := List.map kvU ts) Tryz.underlying98 fun it => ?_)
  refine WL.next ?_
  refine WP.block ?_
  refine WP.loopK (fun (x : List (TxT) × List (TxT) × Option (UInt32 × Value)) => []) (fun (x : List (TxT) × List (TxT) × Option (UInt32 × Value)) => J x.2.1 :: MpIt eU32 (.map (some m)) it (List.map kvU ts) (List.map kvU x.1) x.2.2 :: cl b 98 [.map (some m)] :: R) [(0, _), (6, _)] (fun (x : List (TxT) × List (TxT) × Option (UInt32 × Value)) => (x.2.1 ++ x.1).Perm ts ∧ Hist cont x.2.1) (fun (x : List (TxT) × List (TxT) × Option (UInt32 × Value)) => x.1.length) (ts, [], none) (⟨.refl _, Hist.nil⟩) ?_
  rintro ⟨left, pre, cur⟩ ⟨hx1, hx2⟩
  simp only at hx1 hx2
  dsimp only
  refine WP.seq ?_
  refine WP.reg ?_
  refine WL.h (h_next (fun h0 => ?_) (fun a y0 b0 hx => ?_))
  · have hl0 : left = [] := by simpa using h0
    subst hl0
    refine WL.e e_extract ?_
    refine WL.next ?_
    refine WP.seq ?_
    refine WP.cond_f rfl ?_
    refine WP.exit ?_
    refine PO.past nofun ?_
    refine PO.round nofun ?_
    refine PO.blockX ?_
    exact PO.fin Tryz.results145 rv_nil (hK.1 pre (by simpa using hx1) hx2)
  · obtain ⟨A1, y, B1, hl, rfl, rfl, rfl⟩ := map_mid hx
    have hpp : (pre ++ ([y] ++ (A1 ++ B1))).Perm ts := by refine List.Perm.trans ?_ hx1; rw [hl]; exact List.Perm.append_left _ (List.perm_middle (a := y) (l₁ := A1) (l₂ := B1)).symm
    refine WL.e e_extract ?_
    refine WL.next ?_
    refine WP.seq ?_
    refine WP.cond_t rfl ?_
    refine WP.skip ?_
    refine PO.next ?_
    refine WP.block ?_
    refine WP.seq ?_
    refine WP.reg ?_
    refine WL.e e_entry <| WL.e e_extract <| WL.e e_assign ?_
    refine WL.next ?_
    refine WP.seq ?_
    refine WP.reg ?_
    refine WL.e e_move <| WL.e e_move ?_
    refine WL.h (HO.conv (fun S h => pu_stars trivial h) (h_cally (hy pre y ⟨_, by rw [List.append_assoc]; exact hpp⟩ hx2) ?_))
    refine ⟨fun hc => ?_, fun hc => ?_⟩
    · skip
      refine WL.e e_not ?_
      refine WL.next ?_
      refine WP.cond_f rfl ?_
      refine WP.skip ?_
      refine PO.blockN ?_
      rw [← List.map_append]
      exact PO.againK (A1 ++ B1, pre ++ [y], _) ⟨by simp only; rw [List.append_assoc]; exact hpp, hx2.snoc hc⟩ (by simp only [hl, List.length_append, List.length_cons]; omega)
    · skip
      refine WL.e e_not ?_
      refine WL.next ?_
      refine WP.cond_t rfl ?_
      refine WP.ret ?_
      refine PO.blockR ?_
      refine PO.round nofun ?_
      refine PO.blockR ?_
      refine PO.conv (conv1 (A := MpIt eU32 (.map (some m)) it (List.map kvU ts) _ _) (B := Mp eU32 (.map (some m)) (List.map kvU ts)) MpIt_Mp (by repeat first | exact .z | apply Put.s)) ?_
      exact PO.fin Tryz.results145 rv_nil (hK.2 pre y ⟨_, by rw [List.append_assoc]; exact hpp⟩ hx2 hc)
def BVJ (b : Nat) (pre : List (TxT)) : HP := fun S => ∃ sv : SV, stars [cl b 177 [sv.v], Sl 95 1 ptrC sv.v pre] S
theorem BVA_spec {g : World} {b m : Nat} {ts : List (TxT)} (hn : ts.length ≤ 68719476736) : Spec Tryz.prog g 179 [.slice none 0 0, .func (.func 145) #[] #[.pointer (some ⟨b, 0, none⟩)]] [cl b 98 [.map (some m)], Mp eU32 (.map (some m)) (List.map kvU ts)] fun K R => ∀ a n c xs, xs.Perm ts → K (.slice a n c) (Sl 95 1 ptrC (.slice a n c) xs :: cl b 98 [.map (some m)] :: Mp eU32 (.map (some m)) (List.map kvU ts) :: R) := by
  refine Spec.intro Tryz.func179 rfl Tryz.ntmps179 rfl fun R K hK => ?_
  refine WP.seq ?_
  refine WP.reg ?_
  refine WL.h (h_box fun b1 => ?_)
  refine WL.e e_assign ?_
  refine WL.next ?_
  refine WP.seq ?_
  refine WP.seq ?_
  refine WP.reg ?_
  refine WL.e e_move ?_
  refine WL.next ?_
  refine WP.block ?_
  refine WP.nils 95 1 ptrC none ?_
  refine WP.cls (A := BVJ b1 []) (B := [cl b1 177 [.slice none 0 0], Sl 95 1 ptrC (.slice none 0 0) ([])]) (fun S h => ⟨⟨none, 0, 0⟩, h⟩) ?_
  refine WP.range (R := ?RR) (f := 145) (fs := []) (cs := [.pointer (some ⟨b, 0, none⟩)]) (BVJ b1) (fun _ _ _ => pu True) (fun _ _ => True) (BVals_iter (b := b) (m := m) (ts := ts)) k145 ?hLL ?_ ?_ ?_ (fun _ => rfl)
  case hLL => repeat first | exact .nil | exact Pick.z | apply Pick.s | apply Split.cons
  · rintro lb db fn tmps pre x R2 hp hh
    refine WP.opn (B := fun sv : SV => [cl b1 177 [sv.v], Sl 95 1 ptrC (sv.v) (pre)]) (fun _ h => h) fun sv => ?_
    have hlen : pre.length + 1 ≤ 68719476736 := by obtain ⟨r, hr⟩ := hp; have := hr.length_eq; simp only [List.length_append, List.length_cons, List.length_nil] at this; omega
    refine WP.reg ?_
    refine WL.e e_assign ?_
    refine WL.nil ?_
    refine PO.asg rfl (by repeat first | exact .z | apply Put.s) ?_
    refine WP.block ?_
    refine WP.reg ?_
    refine WL.e (e_load a177) <| WL.e e_move ?_
    refine WL.h (h_bs sl177 z95 (.o (.tmp 9) rfl <| .n) fun b2 => ?_)
    refine WL.h (hl_append (xs := pre) (ys := [x]) sl177 ptrE z95 (lit_rl ptrE [x] rfl) (by simp; omega) (fun a5 n5 c5 => ?_))
    refine WL.h' (h_store s177 ?_)
    refine WL.nil ?_
    refine PO.blockN ?_
    refine PO.cls (A := BVJ b1 (pre ++ [x])) (B := [cl b1 177 [.slice a5 n5 c5], Sl 95 1 ptrC (.slice a5 n5 c5) (pre ++ [x])]) (fun S h => ⟨⟨a5, n5, c5⟩, h⟩) ?_
    exact PO.rnd trivial (by repeat first | exact .refl | exact Pick.z | apply Pick.s | apply Sub.cons | apply Sub.drop)
  · rintro db xs hp hh
    refine PO.opn (B := fun sv : SV => [cl b1 177 [sv.v], Sl 95 1 ptrC (sv.v) (xs)]) (fun _ h => h) fun sv => ?_
    obtain ⟨a9, n9, c9⟩ := sv
    refine PO.blockN ?_
    refine PO.next ?_
    refine WP.seq ?_
    refine WP.reg ?_
    refine WL.e (e_load a177) <| WL.e e_assign ?_
    refine WL.next ?_
    refine WP.ret ?_
    exact PO.finM (by repeat first | exact .z | apply Put.s) Tryz.results179 (rv_tmp rv_nil) (hK a9 n9 c9 xs hp)
  · exact fun _ _ _ _ _ _ hc => absurd trivial hc
theorem BVC_spec {g : World} {b m : Nat} {ts : List (TxT)} (hn : ts.length ≤ 68719476736) : Spec Tryz.prog g 143 [.func (.func 145) #[] #[.pointer (some ⟨b, 0, none⟩)]] [cl b 98 [.map (some m)], Mp eU32 (.map (some m)) (List.map kvU ts)] fun K R => ∀ a n c xs, xs.Perm ts → K (.slice a n c) (Sl 95 1 ptrC (.slice a n c) xs :: cl b 98 [.map (some m)] :: Mp eU32 (.map (some m)) (List.map kvU ts) :: R) := by
  refine Spec.intro Tryz.func143 rfl Tryz.ntmps143 rfl fun R K hK => ?_
  refine WP.seq ?_
  refine WP.reg ?_
  refine WL.e e_assign ?_
  refine WL.next ?_
  refine WP.seq ?_
  refine WP.reg ?_
  refine WL.e e_move ?_
  refine WL.h (h_call (BVA_spec hn) k179 ?_)
  intro a n c xs hp
  refine WL.e e_assign ?_
  refine WL.next ?_
  refine WP.ret ?_
  exact PO.fin Tryz.results143 (rv_tmp rv_nil) (hK a n c xs hp)
theorem SortedT_spec {g : World} {b m : Nat} {ts : List TxT} (hn : ts.length ≤ 68719476736) : Spec Tryz.prog g 93 [.func (.func 145) #[] #[.pointer (some ⟨b, 0, none⟩)], .func (.func 95) #[] #[]] [cl b 98 [.map (some m)], Mp eU32 (.map (some m)) (List.map kvU ts), TxsU TPB ts] fun K R => ∀ a n c ys, (ys.Perm ts ∧ ys.Pairwise fun a b => decide (b.x.at_ < a.x.at_) = false) → K (.slice a n c) (Sl 95 1 ptrC (.slice a n c) ys :: cl b 98 [.map (some m)] :: Mp eU32 (.map (some m)) (List.map kvU ts) :: TxsU TPB ts :: R) := by
  refine Spec.intro Tryz.func93 rfl Tryz.ntmps93 rfl fun R K hK => ?_
  refine WP.seq ?_
  refine WP.reg ?_
  refine WL.e e_assign ?_
  refine WL.next ?_
  refine WP.seq ?_
  refine WP.reg ?_
  refine WL.e e_move ?_
  refine WL.h (h_call (BVC_spec hn) k143 ?_)
  intro a n c xs hp
  refine WL.e e_assign ?_
  refine WL.next ?_
  refine WP.seq ?_
  refine WP.reg ?_
  refine WL.e e_move <| WL.e e_move ?_
  refine WL.h (h_call (SortT_spec (xs := xs) (ts := ts) (fun x hx => hp.mem_iff.1 hx) (by rw [hp.length_eq]; exact hn)) k144 ?_)
  rintro ys ⟨h1, h2⟩
  refine WL.next ?_
  refine WP.seq ?_
  refine WP.reg ?_
  refine WL.e e_move <| WL.e e_assign ?_
  refine WL.next ?_
  refine WP.ret ?_
  exact PO.fin Tryz.results93 (rv_tmp rv_nil) (hK a n c ys ⟨h1.trans hp, h2⟩)
def Bs (p dp : Nat) (s : StV) : HP := fun S => ∃ x : Nat × Nat × Nat, stars [cl p 100 [.pointer (some ⟨x.1, 0, none⟩), .pointer (some ⟨x.2.1, 0, none⟩), .map (some x.2.2)], cl x.1 193 [.pointer (some ⟨dp, 0, none⟩), .int .i64 s.at_], Dk dp s.d, Pa x.2.1 s.H s.trim, Mp eU32 (.map (some x.2.2)) (List.map kvU s.txs)] S
theorem Bs_op {p dp : Nat} {s : StV} : ∀ S, Bs p dp s S → ∃ x : Nat × Nat × Nat, stars [cl p 100 [.pointer (some ⟨x.1, 0, none⟩), .pointer (some ⟨x.2.1, 0, none⟩), .map (some x.2.2)], cl x.1 193 [.pointer (some ⟨dp, 0, none⟩), .int .i64 s.at_], Dk dp s.d, Pa x.2.1 s.H s.trim, Mp eU32 (.map (some x.2.2)) (List.map kvU s.txs)] S := fun _ h => h
theorem Bthere_spec {g : World} {p dp : Nat} {s : StV} : Spec Tryz.prog g 46 [.pointer (some ⟨p, 0, none⟩)] [Bs p dp s] fun K R => K (.bool true) (Bs p dp s :: R) := by
  refine Spec.intro Tryz.func46 rfl Tryz.ntmps46 rfl fun R K hK => ?_
  refine WP.opn (Bs_op (p := p) (dp := dp) (s := s)) fun x => ?_
  obtain ⟨lp, pp, mb⟩ := x
  dsimp only
  refine WP.seq ?_
  refine WP.reg ?_
  refine WL.e e_assign ?_
  refine WL.next ?_
  refine WP.seq ?_
  refine WP.reg ?_
  refine WL.e e_move <| WL.e (e_pne pt24) <| WL.e e_move ?_
  refine WL.bool 5 rfl (fun h => ?_) (fun h => ?_)
  · skip
    refine WL.e e_move <| WL.e e_nil <| WL.e (e_fa f100_2) <| WL.e (e_load a98) <| WL.e (e_mne Tryz.underlying98) <| WL.e e_pick_t <| WL.e e_assign ?_
    refine WL.next ?_
    refine WP.ret ?_
    refine PO.cls (A := Bs p dp (s)) (B := [cl p 100 [.pointer (some ⟨lp, 0, none⟩), .pointer (some ⟨pp, 0, none⟩), .map (some mb)], cl lp 193 [.pointer (some ⟨dp, 0, none⟩), .int .i64 s.at_], Dk dp s.d, Pa pp s.H s.trim, Mp eU32 (.map (some mb)) (List.map kvU s.txs)]) (fun S h => ⟨(lp, pp, mb), h⟩) ?_
    exact PO.fin Tryz.results46 (rv_tmp rv_nil) hK
  · cases h -- end
theorem Bends_spec {g : World} {p dp b : Nat} {s : StV} (n : UInt32) (hs : BetOk s b) (hn : s.txs.length ≤ 68719476736) : Spec Tryz.prog g 54 [.pointer (some ⟨p, 0, none⟩), .int .u32 n.toNat] [Bs p dp s, TxsU TPB (delU s.txs n)] fun K R => K (.tuple #[]) (Bs p dp (endsB s n) :: TxsU TPB (delU s.txs n) :: R) := by
  refine Spec.intro Tryz.func54 rfl Tryz.ntmps54 rfl fun R K hK => ?_
  refine WP.opn (Bs_op (p := p) (dp := dp) (s := s)) fun x => ?_
  obtain ⟨lp, pp, mb⟩ := x
  dsimp only
  refine WP.seq ?_
  refine WP.reg ?_
  refine WL.e e_move <| WL.e e_nil <| WL.e (e_fa f100_2) <| WL.e (e_load a98) <| WL.e e_move ?_
  refine WL.h' (h_delete (k := n) (kvs := List.map kvU s.txs) Tryz.underlying98 (key_u32 Tryz.underlying22) ?_)
  rw [mdel_kvU]
  refine WL.next ?_
  refine WP.seq ?_
  refine WP.reg ?_
  refine WL.e e_move <| WL.e e_nil <| WL.e (e_fa f100_2) <| WL.e (e_load a98) ?_
  refine WL.h (h_call (BVals_spec (m := mb)) k94 ?_)
  intro b
  refine WL.h (h_call (SortedT_spec (b := b) (m := mb) (ts := delU s.txs n) (Nat.le_trans delU_sub.length_le hn)) k93 ?_)
  rintro a3 n3 c3 ys ⟨hp, hso⟩
  have hle : ∀ t ∈ delU s.txs n, t.x.at_ ≤ UInt32.ofNat s.H.length := fun t ht => by rw [UInt32.le_iff_toNat_le, len32 hs.st]; exact (hs.ats t (delU_sub.mem ht)).2
  have hfirst := least_first hp hso hle
  obtain ⟨ht1, ht2, _⟩ := ends_trim hs n
  refine WL.e e_assign ?_
  refine WL.next ?_
  refine WP.seq ?_
  refine WP.reg ?_
  refine WL.e e_move <| WL.e e_nil <| WL.e (e_fa f100_1) <| WL.e (e_load a97) ?_
  refine WL.h (h_call (PNow_spec) k60 ?_)
  refine WL.e e_assign ?_
  refine WL.next ?_
  refine WP.cutR (fun (_ : Unit) => [(5, .int .u32 (leastB (delU s.txs n) (UInt32.ofNat s.H.length)).toNat)]) (fun (_ : Unit) => cl p 100 [.pointer (some ⟨lp, 0, none⟩), .pointer (some ⟨pp, 0, none⟩), .map (some mb)] :: cl lp 193 [.pointer (some ⟨dp, 0, none⟩), .int .i64 s.at_] :: Dk dp s.d :: Pa pp s.H s.trim :: Mp eU32 (.map (some mb)) (List.map kvU (delU s.txs n)) :: TxsU TPB (delU s.txs n) :: R) [(0, _)] (fun (_ : Unit) => True) ?_ ?_
  · skip
    refine WP.seq ?_
    refine WP.reg ?_
    refine WL.e e_move ?_
    refine WL.e (el_len (xs := ys) (enc := ptrC) sl177 sl_rl) <| WL.e e_gtr ?_
    refine WL.next ?_
    refine WP.cond rfl (fun h4 => ?_) (fun h4 => ?_)
    · obtain ⟨y, ys, rfl⟩ : ∃ y zs, ys = y :: zs := by cases ys with
        | nil => simp at h4
        | cons y zs => exact ⟨y, zs, rfl⟩
      have hy0 : y ∈ delU s.txs n := hp.mem_iff.1 (by simp)
      obtain ⟨A0, B0, hAB0⟩ := mem_mid hy0
      simp only [List.head?_cons] at hfirst
      refine WP.opn (TxsU_out (TP := TPB) hAB0) fun _ => ?_
      refine WP.opn (TxB__op (t := y)) fun x => ?_
      obtain ⟨s1, s2⟩ := x
      dsimp only
      refine WP.reg ?_
      refine WL.e e_move ?_
      refine WL.e (el_ia (j := 0) (xs := y :: ys) (enc := ptrC) sl177 sl_rl (by simp)) ?_
      refine WL.e (el_load0 (j := 0) (xs := y :: ys) (a := y) a95 ptrE sl_rl rfl) <| WL.e e_nil <| WL.e (e_fa f106_0) <| WL.e (e_load a22) <| WL.e e_assign ?_
      refine WL.nil ?_
      obtain ⟨A1, B1, hAB⟩ := mem_mid hy0
      rw [hfirst]
      refine PO.cls (A := TxB_ y) (B := [cl y.q 106 [.int .u32 y.x.at_.toNat, s1.v, s2.v], Sl 69 2 SpanM.c s1.v y.x.looked, Sl 108 3 ChgM.c s2.v y.x.own]) (fun S h => ⟨(s1, s2), h⟩) ?_
      refine PO.cls (A := TxsU TPB (delU s.txs n)) (B := [TxB_ y, TxsU TPB (A0 ++ B0)]) (fun S h => hAB0 ▸ TxsU_in (TP := TPB) (t := y) S h) ?_
      exact PO.meetK () trivial
    · obtain rfl : ys = [] := by cases ys with
        | nil => rfl
        | cons y zs => simp at h4
      simp only [List.head?_nil] at hfirst
      refine WP.skip ?_
      rw [hfirst]
      exact PO.meetK () trivial
  · intro _ _
    refine WP.reg ?_
    refine WL.e e_move <| WL.e e_nil <| WL.e (e_fa f100_1) <| WL.e (e_load a97) <| WL.e e_move ?_
    refine WL.h (h_call (PTrim_spec (H := s.H) (trim := s.trim) (leastB (delU s.txs n) (UInt32.ofNat s.H.length)) ht1 (by rw [UInt32.le_iff_toNat_le, len32 hs.st] at ht2; exact ht2) (by have := hs.st.hl; have := hs.st.bb; omega)) k96 ?_)
    refine WL.nil ?_
    refine PO.cls (A := Bs p dp (endsB s n)) (B := [cl p 100 [.pointer (some ⟨lp, 0, none⟩), .pointer (some ⟨pp, 0, none⟩), .map (some mb)], cl lp 193 [.pointer (some ⟨dp, 0, none⟩), .int .i64 s.at_], Dk dp s.d, Pa pp s.H (leastB (delU s.txs n) (UInt32.ofNat s.H.length)), Mp eU32 (.map (some mb)) (List.map kvU (delU s.txs n))]) (fun S h => ⟨(lp, pp, mb), h⟩) ?_
    exact PO.fin Tryz.results54 rv_nil hK
theorem mine_spec {g : World} {A : HP} {q : Nat} {v0 v1 u : Value} {own : List ChgM} (hA : RL A 3 ChgM.c u own) (hn : own.length ≤ 68719476736) : Spec Tryz.prog g 86 [.pointer (some ⟨q, 0, none⟩)] [cl q 106 [v0, v1, u], A] fun K R => ∀ m, K (.map (some m)) (Mp eStr (.map (some m)) (List.map kvC (mineL own)) :: cl q 106 [v0, v1, u] :: A :: R) := by
  refine Spec.intro Tryz.func86 rfl Tryz.ntmps86 rfl fun R K hK => ?_
  refine WP.seq ?_
  refine WP.reg ?_
  refine WL.e e_assign ?_
  refine WL.next ?_
  refine WP.seq ?_
  refine WP.reg ?_
  refine WL.h (h_makeMapB (ek := eStr) fun m => ?_)
  refine WL.e e_assign ?_
  refine WL.next ?_
  refine WP.seq ?_
  refine WP.seq ?_
  refine WP.reg ?_
  refine WL.e e_move <| WL.e e_nil <| WL.e (e_fa f106_2) <| WL.e (e_load a103) ?_
  refine WL.e (el_len (xs := own) sl103 hA) <| WL.e e_move ?_
  refine WL.next ?_
  refine WP.block ?_
  refine WP.loopK (fun (i : Nat) => [(12, .int .i64 i)]) (fun (i : Nat) => Mp eStr (.map (some m)) (List.map kvC (mineL (own.take i))) :: cl q 106 [v0, v1, u] :: A :: R) [(2, _), (3, _), (10, _), (11, _)] (fun (i : Nat) => i ≤ own.length) (fun (i : Nat) => own.length - i) 0 (Nat.zero_le _) ?_
  intro i hi
  refine WP.seq ?_
  refine WP.reg ?_
  refine WL.e e_lss ?_
  refine WL.next ?_
  refine WP.seq ?_
  refine WP.cond rfl (fun h2 => ?_) (fun h2 => ?_)
  · have hlt : i < own.length := by rw [decide_eq_true_eq] at h2; omega
    obtain ⟨c, hc⟩ : ∃ c, own[i]? = some c := ⟨_, List.getElem?_eq_getElem hlt⟩
    refine WP.skip ?_
    refine PO.next ?_
    refine WP.seq ?_
    refine WP.block ?_
    refine WP.seq ?_
    refine WP.reg ?_
    refine WL.e (el_ia (xs := own) sl103 hA hlt) ?_
    refine WL.e (el_loadN (a := c) a108 chgE hA hc) ?_
    refine WL.h (h_alloc z108 fun b1 => ?_)
    refine WL.h' (h_store s108 ?_)
    refine WL.next ?_
    refine WP.reg ?_
    refine WL.e e_move <| WL.e (e_fa f108_0) <| WL.e (e_load a9) <| WL.e (e_loadN a108) ?_
    refine WL.h' (h_mapUpdate (k := c.key) (kvs := List.map kvC (mineL (own.take i))) Tryz.underlying164 (key_str Tryz.underlying9) ?_)
    refine WL.nil ?_
    refine PO.blockN ?_
    refine PO.next ?_
    refine WP.reg ?_
    refine WL.e (e_add rfl rfl (w_i64 (by omega) (by omega))) <| WL.e e_move ?_
    refine WL.nil ?_
    rw [show mset (List.map kvC (mineL (own.take i))) c.key (.agg #[.string c.key, .int .u32 c.val.toNat, .bool c.gone]) = List.map kvC (mineL (own.take (i + 1))) by rw [take_snoc hc, mineL_snoc]; exact mset_C _ c]
    exact PO.againK (i + 1) (by omega) (by omega)
  · rw [List.take_of_length_le (show own.length ≤ i by rw [decide_eq_false_iff_not] at h2; omega)]
    refine WP.exit ?_
    refine PO.past nofun ?_
    refine PO.round nofun ?_
    refine PO.blockX ?_
    refine PO.next ?_
    refine WP.seq ?_
    refine WP.reg ?_
    refine WL.e e_move <| WL.e e_assign ?_
    refine WL.next ?_
    refine WP.ret ?_
    exact PO.fin Tryz.results86 (rv_tmp rv_nil) (hK m)
theorem ClipR_spec {g : World} {u : Value} {xs : List RowM} : Spec Tryz.prog g 89 [u] [Sl 40 2 RowM.c u xs] fun K R => ∀ a m c, K (.slice a m c) (Sl 40 2 RowM.c (.slice a m c) xs :: R) := by
  refine Spec.intro Tryz.func89 rfl Tryz.ntmps89 rfl fun R K hK => ?_
  refine WP.seq ?_
  refine WP.reg ?_
  refine WL.e e_assign ?_
  refine WL.next ?_
  refine WP.seq ?_
  refine WP.reg ?_
  refine WL.e e_move <| WL.e e_move ?_
  refine WL.e (el_len (xs := xs) sl29 sl_rl) <| WL.e e_move ?_
  refine WL.e (el_len (xs := xs) sl29 sl_rl) ?_
  refine WL.e (el_to3 (hi := xs.length) (xs := xs) sl29 sl_rl (Nat.le_refl _)) <| WL.e e_assign ?_
  refine WL.next ?_
  refine WP.ret ?_
  refine PO.conv (conv1 (A := Sl 40 2 RowM.c u xs) (B := Sl 40 2 RowM.c (subV u 0 xs.length (some xs.length) 2) xs) (fun S h => by have h2 := sl_to3 (i := xs.length) rowE h (Nat.le_refl _); rwa [List.take_length] at h2) (by repeat first | exact .z | apply Put.s)) ?_
  refine PO.sh (u := subV u 0 xs.length (some xs.length) 2) fun a9 m9 c9 e9 => ?_
  rw [e9]
  exact PO.fin Tryz.results89 (rv_tmp rv_nil) (hK a9 m9 c9)
set_option maxHeartbeats 4000000 in
theorem look_spec {g : World} {A : HP} {p dp b : Nat} {s : StV} {t : TxT} {v1 u : Value} (sp : SpanM) (hs : BetOk s b) (ht : t ∈ s.txs) (hA : RL A 3 ChgM.c u t.x.own) :
    Spec Tryz.prog g 50 [.pointer (some ⟨p, 0, none⟩), .pointer (some ⟨t.q, 0, none⟩), sp.v] [Bs p dp s, cl t.q 106 [.int .u32 t.x.at_.toNat, v1, u], A] fun K R => ∀ a m c, K (.slice a m c) (Sl 40 2 RowM.c (.slice a m c) (scanR (changeR (rowsN s.H t.x.at_.toNat) t.x.own) sp 256) :: Bs p dp s :: cl t.q 106 [.int .u32 t.x.at_.toNat, v1, u] :: A :: R) := by
  refine Spec.intro Tryz.func50 rfl Tryz.ntmps50 rfl fun R K hK => ?_
  refine WP.seq ?_
  refine WP.reg ?_
  refine WL.h (h_box fun b1 => ?_)
  refine WL.e e_assign ?_
  refine WL.next ?_
  refine WP.seq ?_
  refine WP.reg ?_
  refine WL.e e_move ?_
  refine WL.h (h_call (mine_spec (q := t.q) hA (by have := hs.st.own_le ht; have := hs.st.bb; omega)) k86 ?_)
  intro mm
  have hbb := hs.st.bb
  have hol := hs.st.own_le ht
  obtain ⟨hta1, hta2⟩ := hs.ats t ht
  have hVl : (rowsN s.H t.x.at_.toNat).length ≤ b := by have := rowsN_len s.H t.x.at_.toNat; omega
  have hVr := rowsN_rising s.H t.x.at_.toNat
  have hscan : (scanR (rowsN s.H t.x.at_.toNat) sp 2147483647) = (rowsN s.H t.x.at_.toNat).filter (fun r => inSpan sp r.key) := by unfold scanR; exact List.take_of_length_le (Nat.le_trans (List.length_filter_le _ _) (by omega))
  have hscl : (scanR (rowsN s.H t.x.at_.toNat) sp 2147483647).length ≤ b := by rw [hscan]; exact Nat.le_trans (List.length_filter_le _ _) hVl
  have hml := (mineL_ok t.x.own).2
  refine WL.opn (Bs_op (p := p) (dp := dp) (s := s)) fun x => ?_
  obtain ⟨lp, pp, mb⟩ := x
  dsimp only
  refine WL.e e_assign ?_
  refine WL.next ?_
  refine WP.seq ?_
  refine WP.seq ?_
  refine WP.draws mixedOk 12 ?_
  refine RW.e 0 rfl e_move <| RW.e 1 rfl e_nil <| RW.e 2 rfl (e_fa f100_1) <| RW.e 3 rfl (e_load a97) <| RW.e 4 rfl e_move <| RW.e 5 rfl e_nil <| RW.e 6 rfl (e_fa f106_0) <| RW.e 7 rfl (e_load a22) <| RW.e 8 rfl (e_loadN a69) <| RW.e 11 rfl e_move ?_
  refine RW.any (is := [9]) rfl ⟨?_, trivial⟩
  refine RWat.h rfl rfl rfl ?_
  refine (h_call (PScan_spec (p := pp) (H := s.H) (trim := s.trim) t.x.at_ sp 2147483647 hta1 hta2 (by omega) (by have := hs.st.hl; omega) (by decide)) k59 ?_)
  intro a2 m2 c2
  refine ⟨⟨⟨_, rfl, .inl ⟨rfl, e_move⟩⟩, trivial⟩, ?_⟩
  refine RW.e 10 rfl (el_len (xs := (scanR (rowsN s.H t.x.at_.toNat) sp 2147483647)) sl29 sl_rl) ?_
  refine RW.done ?_
  refine PO.next ?_
  refine WP.block ?_
  refine WP.nils 40 2 RowM.c none ?_
  refine WP.loopK (fun (x : Nat × SV) => [(27, .int .i64 x.1), (6, x.2.v)]) (fun (x : Nat × SV) => Sl 40 2 RowM.c x.2.v (List.filter (fun r => (aget (mineL t.x.own) r.key).isNone) ((scanR (rowsN s.H t.x.at_.toNat) sp 2147483647).take x.1)) :: Sl 40 2 RowM.c (.slice a2 m2 c2) (scanR (rowsN s.H t.x.at_.toNat) sp 2147483647) :: Mp eStr (.map (some mm)) (List.map kvC (mineL t.x.own)) :: cl p 100 [.pointer (some ⟨lp, 0, none⟩), .pointer (some ⟨pp, 0, none⟩), .map (some mb)] :: cl lp 193 [.pointer (some ⟨dp, 0, none⟩), .int .i64 s.at_] :: Dk dp s.d :: Pa pp s.H s.trim :: Mp eU32 (.map (some mb)) (List.map kvU s.txs) :: cl t.q 106 [.int .u32 t.x.at_.toNat, v1, u] :: cl b1 69 sp.c :: A :: R) [(5, _), (7, _), (25, _), (26, _)] (fun (x : Nat × SV) => x.1 ≤ (scanR (rowsN s.H t.x.at_.toNat) sp 2147483647).length) (fun (x : Nat × SV) => (scanR (rowsN s.H t.x.at_.toNat) sp 2147483647).length - x.1) (0, ⟨none, 0, 0⟩) (Nat.zero_le _) ?_
  rintro ⟨i, w6⟩ hi
  simp only at hi
  dsimp only
  refine WP.seq ?_
  refine WP.reg ?_
  refine WL.e e_lss ?_
  refine WL.next ?_
  refine WP.seq ?_
  refine WP.cond rfl (fun h2 => ?_) (fun h2 => ?_)
  · have hlt : i < (scanR (rowsN s.H t.x.at_.toNat) sp 2147483647).length := by rw [decide_eq_true_eq] at h2; omega
    obtain ⟨r, hr⟩ : ∃ r, (scanR (rowsN s.H t.x.at_.toNat) sp 2147483647)[i]? = some r := ⟨_, List.getElem?_eq_getElem hlt⟩
    have hofl : (List.filter (fun r => (aget (mineL t.x.own) r.key).isNone) ((scanR (rowsN s.H t.x.at_.toNat) sp 2147483647).take i)).length ≤ b := Nat.le_trans (List.length_filter_le _ _) (Nat.le_trans (List.length_take_le _ _) (by omega))
    refine WP.skip ?_
    refine PO.next ?_
    refine WP.seq ?_
    refine WP.block ?_
    refine WP.seq ?_
    refine WP.reg ?_
    refine WL.e (el_ia (xs := (scanR (rowsN s.H t.x.at_.toNat) sp 2147483647)) sl29 sl_rl hlt) ?_
    refine WL.e (el_loadN (a := r) a40 rowE sl_rl hr) ?_
    refine WL.h (h_alloc z40 fun b2 => ?_)
    refine WL.h' (h_store s40 ?_)
    refine WL.next ?_
    refine WP.seq ?_
    refine WP.reg ?_
    refine WL.e e_move <| WL.e (e_fa f40_0) <| WL.e (e_load a9) ?_
    refine WL.e (e_lookC (k := r.key) (l := (mineL t.x.own)) Tryz.underlying164 (key_str Tryz.underlying9) zg108) <| WL.e e_move <| WL.e e_extract <| WL.e e_extract ?_
    refine WL.h (h_alloc z108 fun b3 => ?_)
    refine WL.h' (h_store s108 ?_)
    refine WL.e e_assign ?_
    refine WL.next ?_
    refine WP.seq ?_
    refine WP.reg ?_
    refine WL.e e_move <| WL.e e_not ?_
    refine WL.next ?_
    refine WP.cond rfl (fun h5 => ?_) (fun h5 => ?_)
    · have hnone : (aget (mineL t.x.own) r.key).isNone = true := by cases e : aget (mineL t.x.own) r.key with
        | none => rfl
        | some c => rw [e] at h5; cases h5
      refine WP.reg ?_
      refine WL.e e_move <| WL.e (e_loadN a40) ?_
      refine WL.h (h_bs sl29 z40 (.a2 (.tmp 41) rfl <| .n) fun b4 => ?_)
      refine WL.h (hl_append (xs := (List.filter (fun r => (aget (mineL t.x.own) r.key).isNone) ((scanR (rowsN s.H t.x.at_.toNat) sp 2147483647).take i))) (ys := [r]) sl29 rowE z40 (lit_rl rowE [r] rfl) (by simp only [List.length_singleton]; omega) (fun a5 n5 c5 => ?_))
      refine WL.e e_assign ?_
      refine WL.nil ?_
      refine PO.blockN ?_
      refine PO.next ?_
      refine WP.reg ?_
      refine WL.e (e_add rfl rfl (w_i64 (by omega) (by omega))) <| WL.e e_move ?_
      refine WL.nil ?_
      rw [show (List.filter (fun r => (aget (mineL t.x.own) r.key).isNone) ((scanR (rowsN s.H t.x.at_.toNat) sp 2147483647).take i)) ++ [r] = (List.filter (fun r => (aget (mineL t.x.own) r.key).isNone) ((scanR (rowsN s.H t.x.at_.toNat) sp 2147483647).take (i + 1))) by rw [take_snoc hr, List.filter_append]; simp [List.filter_cons, hnone]]
      exact PO.againK (i + 1, ⟨a5, n5, c5⟩) (by simp only; omega) (by simp only; omega)
    · have hsome : (aget (mineL t.x.own) r.key).isNone = false := by cases e : aget (mineL t.x.own) r.key with
        | none => rw [e] at h5; cases h5
        | some c => rfl
      refine WP.skip ?_
      refine PO.blockN ?_
      refine PO.next ?_
      refine WP.reg ?_
      refine WL.e (e_add rfl rfl (w_i64 (by omega) (by omega))) <| WL.e e_move ?_
      refine WL.nil ?_
      rw [show (List.filter (fun r => (aget (mineL t.x.own) r.key).isNone) ((scanR (rowsN s.H t.x.at_.toNat) sp 2147483647).take i)) = (List.filter (fun r => (aget (mineL t.x.own) r.key).isNone) ((scanR (rowsN s.H t.x.at_.toNat) sp 2147483647).take (i + 1))) by rw [take_snoc hr, List.filter_append]; simp [List.filter_cons, hsome]]
      exact PO.againK (i + 1, w6) (by simp only; omega) (by simp only; omega)
  · have hbase : (List.filter (fun r => (aget (mineL t.x.own) r.key).isNone) ((scanR (rowsN s.H t.x.at_.toNat) sp 2147483647).take i)) = baseL (rowsN s.H t.x.at_.toNat) sp (mineL t.x.own) := by rw [List.take_of_length_le (show (scanR (rowsN s.H t.x.at_.toNat) sp 2147483647).length ≤ i by rw [decide_eq_false_iff_not] at h2; omega), hscan, List.filter_filter]; unfold baseL; congr 1; funext r; rw [Bool.and_comm]
    rw [hbase]
    refine WP.exit ?_
    refine PO.past nofun ?_
    refine PO.round nofun ?_
    refine PO.blockX ?_
    refine PO.next ?_
    refine WP.seq ?_
    refine WP.seq ?_
    refine WP.reg ?_
    refine WL.e e_move ?_
    refine WL.h (h_range (kvs := List.map kvC (mineL t.x.own)) Tryz.underlying164 fun it => ?_)
    refine WL.next ?_
    refine WP.block ?_
    refine WP.loopK (fun (x : Mine × List RowM × SV × Option (ByteArray × Value)) => [(6, x.2.2.1.v)]) (fun (x : Mine × List RowM × SV × Option (ByteArray × Value)) => Sl 40 2 RowM.c x.2.2.1.v x.2.1 :: MpIt eStr (.map (some mm)) it (List.map kvC (mineL t.x.own)) (List.map kvC x.1) x.2.2.2 :: cl p 100 [.pointer (some ⟨lp, 0, none⟩), .pointer (some ⟨pp, 0, none⟩), .map (some mb)] :: cl lp 193 [.pointer (some ⟨dp, 0, none⟩), .int .i64 s.at_] :: Dk dp s.d :: Pa pp s.H s.trim :: Mp eU32 (.map (some mb)) (List.map kvU s.txs) :: cl t.q 106 [.int .u32 t.x.at_.toNat, v1, u] :: cl b1 69 sp.c :: A :: R) [(5, _), (46, _)] (fun (x : Mine × List RowM × SV × Option (ByteArray × Value)) => (x.2.1 ++ entL sp x.1).Perm (baseL (rowsN s.H t.x.at_.toNat) sp (mineL t.x.own) ++ entL sp (mineL t.x.own)) ∧ x.2.1.length + x.1.length ≤ 2 * b) (fun (x : Mine × List RowM × SV × Option (ByteArray × Value)) => x.1.length) ((mineL t.x.own), baseL (rowsN s.H t.x.at_.toNat) sp (mineL t.x.own), w6, none) (⟨.refl _, by have : (baseL (rowsN s.H t.x.at_.toNat) sp (mineL t.x.own)).length ≤ b := Nat.le_trans (List.length_filter_le _ _) hVl; simp only; omega⟩) ?_
    rintro ⟨left, o, w7, cur⟩ ⟨hx1, hx2⟩
    simp only at hx1 hx2
    dsimp only
    refine WP.seq ?_
    refine WP.reg ?_
    refine WL.h (h_next (fun h0 => ?_) (fun a y0 b0 hx => ?_))
    · have hl0 : left = [] := by simpa using h0
      subst hl0
      have hpo : o.Perm (baseL (rowsN s.H t.x.at_.toNat) sp (mineL t.x.own) ++ entL sp (mineL t.x.own)) := by simpa [entL] using hx1
      obtain ⟨a6, n6, c6⟩ := w7
      refine WL.e e_extract ?_
      refine WL.next ?_
      refine WP.seq ?_
      refine WP.cond_f rfl ?_
      refine WP.exit ?_
      refine PO.past nofun ?_
      refine PO.round nofun ?_
      refine PO.blockX ?_
      refine PO.next ?_
      refine WP.seq ?_
      refine WP.reg ?_
      refine WL.e e_move ?_
      refine WL.h (h_call (SortR_spec (xs := o) (by simp only [List.length_nil] at hx2; omega)) k87 ?_)
      rintro ys ⟨hy1, hy2⟩
      obtain rfl := look_sorted hVr t.x.own sp (hy1.trans hpo) hy2
      generalize hzs : (changeR (rowsN s.H t.x.at_.toNat) t.x.own).filter (fun r => inSpan sp r.key) = zs at *
      have hzl : zs.length ≤ 2 * b := by rw [hy1.length_eq]; simpa using hx2
      have h256 : scanR (changeR (rowsN s.H t.x.at_.toNat) t.x.own) sp 256 = zs.take (min zs.length 256) := by unfold scanR; rw [hzs, List.take_eq_take_min, Nat.min_comm]
      refine WL.next ?_
      refine WP.seq ?_
      refine WP.reg ?_
      refine WL.e e_move <| WL.e e_move ?_
      refine WL.e (el_len (xs := zs) sl29 sl_rl) <| WL.e (e_minN (a := zs.length) (b := 256)) ?_
      refine WL.e (el_to (hi := min zs.length 256) (xs := zs) sl29 sl_rl (Nat.min_le_left _ _)) ?_
      refine WL.h (h_call (CloneR_spec (RL.to_ rowE (sl_rl (E := 40) (u := .slice a6 n6 c6) (xs := zs)) (Nat.min_le_left _ _)) (by rw [List.length_take]; omega)) k90 ?_)
      intro a8 m8 c8
      refine WL.h (h_call (ClipR_spec) k89 ?_)
      intro a9 m9 c9
      refine WL.e e_assign ?_
      refine WL.next ?_
      refine WP.ret ?_
      rw [h256] at hK
      refine PO.cls (A := Bs p dp (s)) (B := [cl p 100 [.pointer (some ⟨lp, 0, none⟩), .pointer (some ⟨pp, 0, none⟩), .map (some mb)], cl lp 193 [.pointer (some ⟨dp, 0, none⟩), .int .i64 s.at_], Dk dp s.d, Pa pp s.H s.trim, Mp eU32 (.map (some mb)) (List.map kvU s.txs)]) (fun S h => ⟨(lp, pp, mb), h⟩) ?_
      exact PO.fin Tryz.results50 (rv_tmp rv_nil) (hK a9 m9 c9)
    · obtain ⟨A1, y, B1, hl, rfl, rfl, rfl⟩ := map_mid hx
      have hol2 : o.length + 1 ≤ 2 * b := by simp only [hl, List.length_append, List.length_cons] at hx2; omega
      refine WL.e e_extract ?_
      refine WL.next ?_
      refine WP.seq ?_
      refine WP.cond_t rfl ?_
      refine WP.skip ?_
      refine PO.next ?_
      refine WP.block ?_
      refine WP.seq ?_
      refine WP.reg ?_
      refine WL.e e_entry <| WL.e e_extract <| WL.e e_extract ?_
      refine WL.h (h_alloc z108 fun b5 => ?_)
      refine WL.e e_assign ?_
      refine WL.h' (h_store s108 ?_)
      refine WL.next ?_
      refine WP.seq ?_
      refine WP.reg ?_
      refine WL.e (e_fa f108_2) <| WL.e (e_load a4) <| WL.e e_not <| WL.e e_move ?_
      refine WL.bool 55 rfl (fun h7 => ?_) (fun h7 => ?_)
      · have hng : y.2.gone = false := by simpa using h7
        refine WL.e e_move <| WL.e e_move <| WL.e (e_build z69 p69 (.o (.tmp 56) rfl <| .o (.tmp 57) rfl <| .n)) <| WL.e (e_loadN a69) ?_
        refine WL.h (h_call (Meet_spec ⟨_, _⟩ ⟨_, _⟩) k63 ?_)
        refine WL.e e_pick_t ?_
        refine WL.next ?_
        refine WP.cond rfl (fun h8 => ?_) (fun h8 => ?_)
        · replace h8 : inSpan sp y.1 = true := by rw [← meet_one]; exact h8
          refine WP.reg ?_
          refine WL.e e_move <| WL.e e_move <| WL.e (e_fa f108_1) <| WL.e (e_load a22) <| WL.e (e_build z40 p40 (.o (.tmp 63) rfl <| .o (.tmp 65) rfl <| .n)) ?_
          refine WL.h (h_bs sl29 z40 (.a2 (.tmp 66) rfl <| .n) fun b6 => ?_)
          refine WL.h (hl_append (xs := o) (ys := [(⟨y.1, y.2.val⟩ : RowM)]) sl29 rowE z40 (lit_rl rowE [(⟨y.1, y.2.val⟩ : RowM)] rfl) (by simp only [List.length_singleton]; omega) (fun a5 n5 c5 => ?_))
          refine WL.e e_assign ?_
          refine WL.nil ?_
          refine PO.blockN ?_
          rw [← List.map_append]
          exact PO.againK (A1 ++ B1, o ++ [⟨y.1, y.2.val⟩], ⟨a5, n5, c5⟩, _) ⟨by simp only; rw [entL_app, List.append_assoc]; refine List.Perm.trans ?_ hx1; rw [hl, entL_mid, if_pos (by simp [hng, h8])]; exact List.Perm.append_left _ (List.perm_append_comm_assoc _ _ _), by simp only [hl, List.length_append, List.length_cons, List.length_nil] at hx2 ⊢; omega⟩ (by simp only [hl, List.length_append, List.length_cons]; omega)
        · replace h8 : inSpan sp y.1 = false := by rw [← meet_one]; exact h8
          refine WP.skip ?_
          refine PO.blockN ?_
          rw [← List.map_append]
          exact PO.againK (A1 ++ B1, o, w7, _) ⟨by simp only; rw [entL_app]; rw [hl, entL_mid, if_neg (by simp [h8])] at hx1; exact hx1, by simp only [hl, List.length_append, List.length_cons] at hx2 ⊢; omega⟩ (by simp only [hl, List.length_append, List.length_cons]; omega)
      · have hng : y.2.gone = true := by simpa using h7
        refine WL.skip <| WL.skip <| WL.skip <| WL.skip <| WL.skip <| WL.e e_pick_f ?_
        refine WL.next ?_
        refine WP.cond_f rfl ?_
        refine WP.skip ?_
        refine PO.blockN ?_
        rw [← List.map_append]
        exact PO.againK (A1 ++ B1, o, w7, _) ⟨by simp only; rw [entL_app]; rw [hl, entL_mid, if_neg (by simp [hng])] at hx1; exact hx1, by simp only [hl, List.length_append, List.length_cons] at hx2 ⊢; omega⟩ (by simp only [hl, List.length_append, List.length_cons]; omega)
end Go.SL
