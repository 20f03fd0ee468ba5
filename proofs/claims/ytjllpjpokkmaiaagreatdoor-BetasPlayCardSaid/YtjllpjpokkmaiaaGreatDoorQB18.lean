import Derived.Test.YtjllpjpokkmaiaaGreatDoorQB17
set_option linter.unusedSimpArgs false
set_option linter.unusedVariables false
namespace Go.SL.Fc
open Go Go.Proofs Go.SL
theorem a34:aggOf Tryz.prog 34=some none:=by kernel_rfl
theorem a36:aggOf Tryz.prog 36=some none:=by kernel_rfl
theorem a37:aggOf Tryz.prog 37=some none:=by kernel_rfl
theorem a39:aggOf Tryz.prog 39=some none:=by kernel_rfl
theorem a40:aggOf Tryz.prog 40=some none:=by kernel_rfl
theorem a41:aggOf Tryz.prog 41=some none:=by kernel_rfl
theorem a42:aggOf Tryz.prog 42=some none:=by kernel_rfl
theorem a43:aggOf Tryz.prog 43=some none:=by kernel_rfl
theorem a44:aggOf Tryz.prog 44=some none:=by kernel_rfl
theorem a45:aggOf Tryz.prog 45=some none:=by kernel_rfl
theorem f47_0:fldOf Tryz.prog 47 0=some 0:=by kernel_rfl
theorem f47_1:fldOf Tryz.prog 47 1=some 1:=by kernel_rfl
theorem f47_10:fldOf Tryz.prog 47 10=some 10:=by kernel_rfl
theorem f47_11:fldOf Tryz.prog 47 11=some 11:=by kernel_rfl
theorem f47_12:fldOf Tryz.prog 47 12=some 12:=by kernel_rfl
theorem f47_3:fldOf Tryz.prog 47 3=some 3:=by kernel_rfl
theorem f47_4:fldOf Tryz.prog 47 4=some 4:=by kernel_rfl
theorem f47_6:fldOf Tryz.prog 47 6=some 6:=by kernel_rfl
theorem f47_7:fldOf Tryz.prog 47 7=some 7:=by kernel_rfl
theorem f47_8:fldOf Tryz.prog 47 8=some 8:=by kernel_rfl
theorem f47_9:fldOf Tryz.prog 47 9=some 9:=by kernel_rfl
theorem k100:callable Tryz.prog 100=true:=by kernel_rfl
theorem k101:callable Tryz.prog 101=true:=by kernel_rfl
theorem k102:callable Tryz.prog 102=true:=by kernel_rfl
theorem k103:callable Tryz.prog 103=true:=by kernel_rfl
theorem k104:callable Tryz.prog 104=true:=by kernel_rfl
theorem k105:callable Tryz.prog 105=true:=by kernel_rfl
theorem k27:callable Tryz.prog 27=true:=by kernel_rfl
theorem k68:callable Tryz.prog 68=true:=by kernel_rfl
theorem k69:callable Tryz.prog 69=true:=by kernel_rfl
theorem k70:callable Tryz.prog 70=true:=by kernel_rfl
theorem k71:callable Tryz.prog 71=true:=by kernel_rfl
theorem k72:callable Tryz.prog 72=true:=by kernel_rfl
theorem k73:callable Tryz.prog 73=true:=by kernel_rfl
theorem k74:callable Tryz.prog 74=true:=by kernel_rfl
theorem k75:callable Tryz.prog 75=true:=by kernel_rfl
theorem k76:callable Tryz.prog 76=true:=by kernel_rfl
theorem k77:callable Tryz.prog 77=true:=by kernel_rfl
theorem k78:callable Tryz.prog 78=true:=by kernel_rfl
theorem k79:callable Tryz.prog 79=true:=by kernel_rfl
theorem k80:callable Tryz.prog 80=true:=by kernel_rfl
theorem k81:callable Tryz.prog 81=true:=by kernel_rfl
theorem k82:callable Tryz.prog 82=true:=by kernel_rfl
theorem k83:callable Tryz.prog 83=true:=by kernel_rfl
theorem k84:callable Tryz.prog 84=true:=by kernel_rfl
theorem k85:callable Tryz.prog 85=true:=by kernel_rfl
theorem k86:callable Tryz.prog 86=true:=by kernel_rfl
theorem k87:callable Tryz.prog 87=true:=by kernel_rfl
theorem k88:callable Tryz.prog 88=true:=by kernel_rfl
theorem k89:callable Tryz.prog 89=true:=by kernel_rfl
theorem k90:callable Tryz.prog 90=true:=by kernel_rfl
theorem k91:callable Tryz.prog 91=true:=by kernel_rfl
theorem k92:callable Tryz.prog 92=true:=by kernel_rfl
theorem k93:callable Tryz.prog 93=true:=by kernel_rfl
theorem k94:callable Tryz.prog 94=true:=by kernel_rfl
theorem k95:callable Tryz.prog 95=true:=by kernel_rfl
theorem k96:callable Tryz.prog 96=true:=by kernel_rfl
theorem k97:callable Tryz.prog 97=true:=by kernel_rfl
theorem k98:callable Tryz.prog 98=true:=by kernel_rfl
theorem k99:callable Tryz.prog 99=true:=by kernel_rfl
theorem p199:placesOf Tryz.prog 199=some [(0,1),(1,1),(2,1)]:=by kernel_rfl
theorem p201:placesOf Tryz.prog 201=some [(0,1),(1,1),(2,1)]:=by kernel_rfl
theorem s35:szOf Tryz.prog 35=some 1:=by kernel_rfl
theorem s38:szOf Tryz.prog 38=some 1:=by kernel_rfl
theorem sl34:slOf Tryz.prog 34=some (203,3,56):=by kernel_rfl
theorem sl36:slOf Tryz.prog 36=some (207,3,56):=by kernel_rfl
theorem sl37:slOf Tryz.prog 37=some (211,3,56):=by kernel_rfl
theorem sl39:slOf Tryz.prog 39=some (216,3,56):=by kernel_rfl
theorem sl40:slOf Tryz.prog 40=some (219,3,56):=by kernel_rfl
theorem sl41:slOf Tryz.prog 41=some (222,3,56):=by kernel_rfl
theorem sl42:slOf Tryz.prog 42=some (226,3,56):=by kernel_rfl
theorem sl43:slOf Tryz.prog 43=some (230,3,56):=by kernel_rfl
theorem sl44:slOf Tryz.prog 44=some (237,3,56):=by kernel_rfl
theorem sl45:slOf Tryz.prog 45=some (243,3,56):=by kernel_rfl
end Go.SL.Fc
namespace Go.SL
open Go Go.Proofs Fc
theorem fillByte_spec {g:World} {p:Nat} {n:Nat} {iv rv:SV}:Spec Tryz.prog g 70 [.pointer (some ⟨p,0,none⟩)] [cl p 47 [.int .i64 (n),.slice none 0 0,iv.v,.slice none 0 0,.slice none 0 0,rv.v,.slice none 0 0,.slice none 0 0,.slice none 0 0,.slice none 0 0,.slice none 0 0,.slice none 0 0,.slice none 0 0]] fun K R=>K (.tuple #[]) (cl p 47 [.int .i64 (n),.slice none 0 0,iv.v,.slice none 0 0,.slice none 0 0,rv.v,.slice none 0 0,.slice none 0 0,.slice none 0 0,.slice none 0 0,.slice none 0 0,.slice none 0 0,.slice none 0 0]::R):=by
 refine Spec.intro Tryz.func70 rfl Tryz.ntmps70 rfl fun R K hK=>?_
 refine WP.seq<|WP.reg<|WL.e e_assign<|WL.next<|WP.block<|WP.loopK (fun (_:Unit)=>[(2,.int .i64 0)]) (fun (_:Unit)=>cl p 47 [.int .i64 (n),.slice none 0 0,iv.v,.slice none 0 0,.slice none 0 0,rv.v,.slice none 0 0,.slice none 0 0,.slice none 0 0,.slice none 0 0,.slice none 0 0,.slice none 0 0,.slice none 0 0]::R) [(0,_)] (fun (_:Unit)=>True) (fun (_:Unit)=>0) () (trivial) ?_
 intro _ _
 refine WP.seq<|WP.seq<|WP.reg<|WL.e e_move<|WL.e e_move<|WL.e e_nil<|WL.e (e_fa f47_1)<|WL.e (e_load a34)<|WL.e (el_len (xs:=([]:List UInt32)) (enc:=u32C) sl34 (nil_rl (z:=1)))<|WL.e e_lss<|WL.next ?_
 refine WP.cond rfl (fun h1=>?_) (fun h1=>?_)
 ·simp at h1
 ·skip
  refine WP.exit<|PO.past nofun<|PO.round nofun<|PO.blockX ?_
  exact PO.fin Tryz.results70 rv_nil hK
theorem growByte_spec {g:World} {p:Nat} {n:Nat} {iv rv:SV}:Spec Tryz.prog g 82 [.pointer (some ⟨p,0,none⟩)] [cl p 47 [.int .i64 (n),.slice none 0 0,iv.v,.slice none 0 0,.slice none 0 0,rv.v,.slice none 0 0,.slice none 0 0,.slice none 0 0,.slice none 0 0,.slice none 0 0,.slice none 0 0,.slice none 0 0]] fun K R=>K (.tuple #[]) (cl p 47 [.int .i64 (n),.slice none 0 0,iv.v,.slice none 0 0,.slice none 0 0,rv.v,.slice none 0 0,.slice none 0 0,.slice none 0 0,.slice none 0 0,.slice none 0 0,.slice none 0 0,.slice none 0 0]::R):=by
 refine Spec.intro Tryz.func82 rfl Tryz.ntmps82 rfl fun R K hK=>?_
 refine WP.seq<|WP.reg<|WL.e e_assign<|WL.next<|WP.block<|WP.loopK (fun (_:Unit)=>[(2,.int .i64 0)]) (fun (_:Unit)=>cl p 47 [.int .i64 (n),.slice none 0 0,iv.v,.slice none 0 0,.slice none 0 0,rv.v,.slice none 0 0,.slice none 0 0,.slice none 0 0,.slice none 0 0,.slice none 0 0,.slice none 0 0,.slice none 0 0]::R) [(0,_)] (fun (_:Unit)=>True) (fun (_:Unit)=>0) () (trivial) ?_
 intro _ _
 refine WP.seq<|WP.seq<|WP.reg<|WL.e e_move<|WL.e e_move<|WL.e e_nil<|WL.e (e_fa f47_1)<|WL.e (e_load a34)<|WL.e (el_len (xs:=([]:List UInt32)) (enc:=u32C) sl34 (nil_rl (z:=1)))<|WL.e e_lss<|WL.next ?_
 refine WP.cond rfl (fun h1=>?_) (fun h1=>?_)
 ·simp at h1
 ·skip
  refine WP.exit<|PO.past nofun<|PO.round nofun<|PO.blockX ?_
  exact PO.fin Tryz.results82 rv_nil hK
theorem lookByte_spec {g:World} {p:Nat} {n:Nat} {iv rv:SV}:Spec Tryz.prog g 94 [.pointer (some ⟨p,0,none⟩)] [cl p 47 [.int .i64 (n),.slice none 0 0,iv.v,.slice none 0 0,.slice none 0 0,rv.v,.slice none 0 0,.slice none 0 0,.slice none 0 0,.slice none 0 0,.slice none 0 0,.slice none 0 0,.slice none 0 0]] fun K R=>K (.bool true) (cl p 47 [.int .i64 (n),.slice none 0 0,iv.v,.slice none 0 0,.slice none 0 0,rv.v,.slice none 0 0,.slice none 0 0,.slice none 0 0,.slice none 0 0,.slice none 0 0,.slice none 0 0,.slice none 0 0]::R):=by
 refine Spec.intro Tryz.func94 rfl Tryz.ntmps94 rfl fun R K hK=>?_
 refine WP.seq<|WP.reg<|WL.e e_assign<|WL.next<|WP.seq<|WP.seq<|WP.reg<|WL.e e_assign<|WL.next<|WP.block<|WP.loopK (fun (_:Unit)=>[(3,.int .i64 0)]) (fun (_:Unit)=>cl p 47 [.int .i64 (n),.slice none 0 0,iv.v,.slice none 0 0,.slice none 0 0,rv.v,.slice none 0 0,.slice none 0 0,.slice none 0 0,.slice none 0 0,.slice none 0 0,.slice none 0 0,.slice none 0 0]::R) [(0,_)] (fun (_:Unit)=>True) (fun (_:Unit)=>0) () (trivial) ?_
 intro _ _
 refine WP.seq<|WP.seq<|WP.reg<|WL.e e_move<|WL.e e_move<|WL.e e_nil<|WL.e (e_fa f47_1)<|WL.e (e_load a34)<|WL.e (el_len (xs:=([]:List UInt32)) (enc:=u32C) sl34 (nil_rl (z:=1)))<|WL.e e_lss<|WL.next ?_
 refine WP.cond rfl (fun h1=>?_) (fun h1=>?_)
 ·simp at h1
 ·skip
  refine WP.exit<|PO.past nofun<|PO.round nofun<|PO.blockX<|PO.next<|WP.seq<|WP.reg<|WL.e e_assign<|WL.next<|WP.ret ?_
  exact PO.fin Tryz.results94 (rv_tmp rv_nil) hK
theorem fillInt_spec {g:World} {p:Nat} {n:Nat} {iv rv:SV}:Spec Tryz.prog g 72 [.pointer (some ⟨p,0,none⟩)] [cl p 47 [.int .i64 (n),.slice none 0 0,iv.v,.slice none 0 0,.slice none 0 0,rv.v,.slice none 0 0,.slice none 0 0,.slice none 0 0,.slice none 0 0,.slice none 0 0,.slice none 0 0,.slice none 0 0]] fun K R=>K (.tuple #[]) (cl p 47 [.int .i64 (n),.slice none 0 0,iv.v,.slice none 0 0,.slice none 0 0,rv.v,.slice none 0 0,.slice none 0 0,.slice none 0 0,.slice none 0 0,.slice none 0 0,.slice none 0 0,.slice none 0 0]::R):=by
 refine Spec.intro Tryz.func72 rfl Tryz.ntmps72 rfl fun R K hK=>?_
 refine WP.seq<|WP.reg<|WL.e e_assign<|WL.next<|WP.block<|WP.loopK (fun (_:Unit)=>[(2,.int .i64 0)]) (fun (_:Unit)=>cl p 47 [.int .i64 (n),.slice none 0 0,iv.v,.slice none 0 0,.slice none 0 0,rv.v,.slice none 0 0,.slice none 0 0,.slice none 0 0,.slice none 0 0,.slice none 0 0,.slice none 0 0,.slice none 0 0]::R) [(0,_)] (fun (_:Unit)=>True) (fun (_:Unit)=>0) () (trivial) ?_
 intro _ _
 refine WP.seq<|WP.seq<|WP.reg<|WL.e e_move<|WL.e e_move<|WL.e e_nil<|WL.e (e_fa f47_3)<|WL.e (e_load a36)<|WL.e (el_len (xs:=([]:List UInt32)) (enc:=u32C) sl36 (nil_rl (z:=1)))<|WL.e e_lss<|WL.next ?_
 refine WP.cond rfl (fun h1=>?_) (fun h1=>?_)
 ·simp at h1
 ·skip
  refine WP.exit<|PO.past nofun<|PO.round nofun<|PO.blockX ?_
  exact PO.fin Tryz.results72 rv_nil hK
theorem growInt_spec {g:World} {p:Nat} {n:Nat} {iv rv:SV}:Spec Tryz.prog g 84 [.pointer (some ⟨p,0,none⟩)] [cl p 47 [.int .i64 (n),.slice none 0 0,iv.v,.slice none 0 0,.slice none 0 0,rv.v,.slice none 0 0,.slice none 0 0,.slice none 0 0,.slice none 0 0,.slice none 0 0,.slice none 0 0,.slice none 0 0]] fun K R=>K (.tuple #[]) (cl p 47 [.int .i64 (n),.slice none 0 0,iv.v,.slice none 0 0,.slice none 0 0,rv.v,.slice none 0 0,.slice none 0 0,.slice none 0 0,.slice none 0 0,.slice none 0 0,.slice none 0 0,.slice none 0 0]::R):=by
 refine Spec.intro Tryz.func84 rfl Tryz.ntmps84 rfl fun R K hK=>?_
 refine WP.seq<|WP.reg<|WL.e e_assign<|WL.next<|WP.block<|WP.loopK (fun (_:Unit)=>[(2,.int .i64 0)]) (fun (_:Unit)=>cl p 47 [.int .i64 (n),.slice none 0 0,iv.v,.slice none 0 0,.slice none 0 0,rv.v,.slice none 0 0,.slice none 0 0,.slice none 0 0,.slice none 0 0,.slice none 0 0,.slice none 0 0,.slice none 0 0]::R) [(0,_)] (fun (_:Unit)=>True) (fun (_:Unit)=>0) () (trivial) ?_
 intro _ _
 refine WP.seq<|WP.seq<|WP.reg<|WL.e e_move<|WL.e e_move<|WL.e e_nil<|WL.e (e_fa f47_3)<|WL.e (e_load a36)<|WL.e (el_len (xs:=([]:List UInt32)) (enc:=u32C) sl36 (nil_rl (z:=1)))<|WL.e e_lss<|WL.next ?_
 refine WP.cond rfl (fun h1=>?_) (fun h1=>?_)
 ·simp at h1
 ·skip
  refine WP.exit<|PO.past nofun<|PO.round nofun<|PO.blockX ?_
  exact PO.fin Tryz.results84 rv_nil hK
theorem lookInt_spec {g:World} {p:Nat} {n:Nat} {iv rv:SV}:Spec Tryz.prog g 96 [.pointer (some ⟨p,0,none⟩)] [cl p 47 [.int .i64 (n),.slice none 0 0,iv.v,.slice none 0 0,.slice none 0 0,rv.v,.slice none 0 0,.slice none 0 0,.slice none 0 0,.slice none 0 0,.slice none 0 0,.slice none 0 0,.slice none 0 0]] fun K R=>K (.bool true) (cl p 47 [.int .i64 (n),.slice none 0 0,iv.v,.slice none 0 0,.slice none 0 0,rv.v,.slice none 0 0,.slice none 0 0,.slice none 0 0,.slice none 0 0,.slice none 0 0,.slice none 0 0,.slice none 0 0]::R):=by
 refine Spec.intro Tryz.func96 rfl Tryz.ntmps96 rfl fun R K hK=>?_
 refine WP.seq<|WP.reg<|WL.e e_assign<|WL.next<|WP.seq<|WP.seq<|WP.reg<|WL.e e_assign<|WL.next<|WP.block<|WP.loopK (fun (_:Unit)=>[(3,.int .i64 0)]) (fun (_:Unit)=>cl p 47 [.int .i64 (n),.slice none 0 0,iv.v,.slice none 0 0,.slice none 0 0,rv.v,.slice none 0 0,.slice none 0 0,.slice none 0 0,.slice none 0 0,.slice none 0 0,.slice none 0 0,.slice none 0 0]::R) [(0,_)] (fun (_:Unit)=>True) (fun (_:Unit)=>0) () (trivial) ?_
 intro _ _
 refine WP.seq<|WP.seq<|WP.reg<|WL.e e_move<|WL.e e_move<|WL.e e_nil<|WL.e (e_fa f47_3)<|WL.e (e_load a36)<|WL.e (el_len (xs:=([]:List UInt32)) (enc:=u32C) sl36 (nil_rl (z:=1)))<|WL.e e_lss<|WL.next ?_
 refine WP.cond rfl (fun h1=>?_) (fun h1=>?_)
 ·simp at h1
 ·skip
  refine WP.exit<|PO.past nofun<|PO.round nofun<|PO.blockX<|PO.next<|WP.seq<|WP.reg<|WL.e e_assign<|WL.next<|WP.ret ?_
  exact PO.fin Tryz.results96 (rv_tmp rv_nil) hK
theorem fillText_spec {g:World} {p:Nat} {n:Nat} {iv rv:SV}:Spec Tryz.prog g 73 [.pointer (some ⟨p,0,none⟩)] [cl p 47 [.int .i64 (n),.slice none 0 0,iv.v,.slice none 0 0,.slice none 0 0,rv.v,.slice none 0 0,.slice none 0 0,.slice none 0 0,.slice none 0 0,.slice none 0 0,.slice none 0 0,.slice none 0 0]] fun K R=>K (.tuple #[]) (cl p 47 [.int .i64 (n),.slice none 0 0,iv.v,.slice none 0 0,.slice none 0 0,rv.v,.slice none 0 0,.slice none 0 0,.slice none 0 0,.slice none 0 0,.slice none 0 0,.slice none 0 0,.slice none 0 0]::R):=by
 refine Spec.intro Tryz.func73 rfl Tryz.ntmps73 rfl fun R K hK=>?_
 refine WP.seq<|WP.reg<|WL.e e_assign<|WL.next<|WP.block<|WP.loopK (fun (_:Unit)=>[(2,.int .i64 0)]) (fun (_:Unit)=>cl p 47 [.int .i64 (n),.slice none 0 0,iv.v,.slice none 0 0,.slice none 0 0,rv.v,.slice none 0 0,.slice none 0 0,.slice none 0 0,.slice none 0 0,.slice none 0 0,.slice none 0 0,.slice none 0 0]::R) [(0,_)] (fun (_:Unit)=>True) (fun (_:Unit)=>0) () (trivial) ?_
 intro _ _
 refine WP.seq<|WP.seq<|WP.reg<|WL.e e_move<|WL.e e_move<|WL.e e_nil<|WL.e (e_fa f47_4)<|WL.e (e_load a37)<|WL.e (el_len (xs:=([]:List UInt32)) (enc:=u32C) sl37 (nil_rl (z:=1)))<|WL.e e_lss<|WL.next ?_
 refine WP.cond rfl (fun h1=>?_) (fun h1=>?_)
 ·simp at h1
 ·skip
  refine WP.exit<|PO.past nofun<|PO.round nofun<|PO.blockX ?_
  exact PO.fin Tryz.results73 rv_nil hK
theorem growText_spec {g:World} {p:Nat} {n:Nat} {iv rv:SV}:Spec Tryz.prog g 85 [.pointer (some ⟨p,0,none⟩)] [cl p 47 [.int .i64 (n),.slice none 0 0,iv.v,.slice none 0 0,.slice none 0 0,rv.v,.slice none 0 0,.slice none 0 0,.slice none 0 0,.slice none 0 0,.slice none 0 0,.slice none 0 0,.slice none 0 0]] fun K R=>K (.tuple #[]) (cl p 47 [.int .i64 (n),.slice none 0 0,iv.v,.slice none 0 0,.slice none 0 0,rv.v,.slice none 0 0,.slice none 0 0,.slice none 0 0,.slice none 0 0,.slice none 0 0,.slice none 0 0,.slice none 0 0]::R):=by
 refine Spec.intro Tryz.func85 rfl Tryz.ntmps85 rfl fun R K hK=>?_
 refine WP.seq<|WP.reg<|WL.e e_assign<|WL.next<|WP.block<|WP.loopK (fun (_:Unit)=>[(2,.int .i64 0)]) (fun (_:Unit)=>cl p 47 [.int .i64 (n),.slice none 0 0,iv.v,.slice none 0 0,.slice none 0 0,rv.v,.slice none 0 0,.slice none 0 0,.slice none 0 0,.slice none 0 0,.slice none 0 0,.slice none 0 0,.slice none 0 0]::R) [(0,_)] (fun (_:Unit)=>True) (fun (_:Unit)=>0) () (trivial) ?_
 intro _ _
 refine WP.seq<|WP.seq<|WP.reg<|WL.e e_move<|WL.e e_move<|WL.e e_nil<|WL.e (e_fa f47_4)<|WL.e (e_load a37)<|WL.e (el_len (xs:=([]:List UInt32)) (enc:=u32C) sl37 (nil_rl (z:=1)))<|WL.e e_lss<|WL.next ?_
 refine WP.cond rfl (fun h1=>?_) (fun h1=>?_)
 ·simp at h1
 ·skip
  refine WP.exit<|PO.past nofun<|PO.round nofun<|PO.blockX ?_
  exact PO.fin Tryz.results85 rv_nil hK
theorem lookText_spec {g:World} {p:Nat} {n:Nat} {iv rv:SV}:Spec Tryz.prog g 97 [.pointer (some ⟨p,0,none⟩)] [cl p 47 [.int .i64 (n),.slice none 0 0,iv.v,.slice none 0 0,.slice none 0 0,rv.v,.slice none 0 0,.slice none 0 0,.slice none 0 0,.slice none 0 0,.slice none 0 0,.slice none 0 0,.slice none 0 0]] fun K R=>K (.bool true) (cl p 47 [.int .i64 (n),.slice none 0 0,iv.v,.slice none 0 0,.slice none 0 0,rv.v,.slice none 0 0,.slice none 0 0,.slice none 0 0,.slice none 0 0,.slice none 0 0,.slice none 0 0,.slice none 0 0]::R):=by
 refine Spec.intro Tryz.func97 rfl Tryz.ntmps97 rfl fun R K hK=>?_
 refine WP.seq<|WP.reg<|WL.e e_assign<|WL.next<|WP.seq<|WP.seq<|WP.reg<|WL.e e_assign<|WL.next<|WP.block<|WP.loopK (fun (_:Unit)=>[(3,.int .i64 0)]) (fun (_:Unit)=>cl p 47 [.int .i64 (n),.slice none 0 0,iv.v,.slice none 0 0,.slice none 0 0,rv.v,.slice none 0 0,.slice none 0 0,.slice none 0 0,.slice none 0 0,.slice none 0 0,.slice none 0 0,.slice none 0 0]::R) [(0,_)] (fun (_:Unit)=>True) (fun (_:Unit)=>0) () (trivial) ?_
 intro _ _
 refine WP.seq<|WP.seq<|WP.reg<|WL.e e_move<|WL.e e_move<|WL.e e_nil<|WL.e (e_fa f47_4)<|WL.e (e_load a37)<|WL.e (el_len (xs:=([]:List UInt32)) (enc:=u32C) sl37 (nil_rl (z:=1)))<|WL.e e_lss<|WL.next ?_
 refine WP.cond rfl (fun h1=>?_) (fun h1=>?_)
 ·simp at h1
 ·skip
  refine WP.exit<|PO.past nofun<|PO.round nofun<|PO.blockX<|PO.next<|WP.seq<|WP.reg<|WL.e e_assign<|WL.next<|WP.ret ?_
  exact PO.fin Tryz.results97 (rv_tmp rv_nil) hK
theorem fillOp_spec {g:World} {p:Nat} {n:Nat} {iv rv:SV}:Spec Tryz.prog g 75 [.pointer (some ⟨p,0,none⟩)] [cl p 47 [.int .i64 (n),.slice none 0 0,iv.v,.slice none 0 0,.slice none 0 0,rv.v,.slice none 0 0,.slice none 0 0,.slice none 0 0,.slice none 0 0,.slice none 0 0,.slice none 0 0,.slice none 0 0]] fun K R=>K (.tuple #[]) (cl p 47 [.int .i64 (n),.slice none 0 0,iv.v,.slice none 0 0,.slice none 0 0,rv.v,.slice none 0 0,.slice none 0 0,.slice none 0 0,.slice none 0 0,.slice none 0 0,.slice none 0 0,.slice none 0 0]::R):=by
 refine Spec.intro Tryz.func75 rfl Tryz.ntmps75 rfl fun R K hK=>?_
 refine WP.seq<|WP.reg<|WL.e e_assign<|WL.next<|WP.block<|WP.loopK (fun (_:Unit)=>[(2,.int .i64 0)]) (fun (_:Unit)=>cl p 47 [.int .i64 (n),.slice none 0 0,iv.v,.slice none 0 0,.slice none 0 0,rv.v,.slice none 0 0,.slice none 0 0,.slice none 0 0,.slice none 0 0,.slice none 0 0,.slice none 0 0,.slice none 0 0]::R) [(0,_)] (fun (_:Unit)=>True) (fun (_:Unit)=>0) () (trivial) ?_
 intro _ _
 refine WP.seq<|WP.seq<|WP.reg<|WL.e e_move<|WL.e e_move<|WL.e e_nil<|WL.e (e_fa f47_6)<|WL.e (e_load a39)<|WL.e (el_len (xs:=([]:List UInt32)) (enc:=u32C) sl39 (nil_rl (z:=1)))<|WL.e e_lss<|WL.next ?_
 refine WP.cond rfl (fun h1=>?_) (fun h1=>?_)
 ·simp at h1
 ·skip
  refine WP.exit<|PO.past nofun<|PO.round nofun<|PO.blockX ?_
  exact PO.fin Tryz.results75 rv_nil hK
theorem growOp_spec {g:World} {p:Nat} {n:Nat} {iv rv:SV}:Spec Tryz.prog g 87 [.pointer (some ⟨p,0,none⟩)] [cl p 47 [.int .i64 (n),.slice none 0 0,iv.v,.slice none 0 0,.slice none 0 0,rv.v,.slice none 0 0,.slice none 0 0,.slice none 0 0,.slice none 0 0,.slice none 0 0,.slice none 0 0,.slice none 0 0]] fun K R=>K (.tuple #[]) (cl p 47 [.int .i64 (n),.slice none 0 0,iv.v,.slice none 0 0,.slice none 0 0,rv.v,.slice none 0 0,.slice none 0 0,.slice none 0 0,.slice none 0 0,.slice none 0 0,.slice none 0 0,.slice none 0 0]::R):=by
 refine Spec.intro Tryz.func87 rfl Tryz.ntmps87 rfl fun R K hK=>?_
 refine WP.seq<|WP.reg<|WL.e e_assign<|WL.next<|WP.block<|WP.loopK (fun (_:Unit)=>[(2,.int .i64 0)]) (fun (_:Unit)=>cl p 47 [.int .i64 (n),.slice none 0 0,iv.v,.slice none 0 0,.slice none 0 0,rv.v,.slice none 0 0,.slice none 0 0,.slice none 0 0,.slice none 0 0,.slice none 0 0,.slice none 0 0,.slice none 0 0]::R) [(0,_)] (fun (_:Unit)=>True) (fun (_:Unit)=>0) () (trivial) ?_
 intro _ _
 refine WP.seq<|WP.seq<|WP.reg<|WL.e e_move<|WL.e e_move<|WL.e e_nil<|WL.e (e_fa f47_6)<|WL.e (e_load a39)<|WL.e (el_len (xs:=([]:List UInt32)) (enc:=u32C) sl39 (nil_rl (z:=1)))<|WL.e e_lss<|WL.next ?_
 refine WP.cond rfl (fun h1=>?_) (fun h1=>?_)
 ·simp at h1
 ·skip
  refine WP.exit<|PO.past nofun<|PO.round nofun<|PO.blockX ?_
  exact PO.fin Tryz.results87 rv_nil hK
theorem lookOp_spec {g:World} {p:Nat} {n:Nat} {iv rv:SV}:Spec Tryz.prog g 99 [.pointer (some ⟨p,0,none⟩)] [cl p 47 [.int .i64 (n),.slice none 0 0,iv.v,.slice none 0 0,.slice none 0 0,rv.v,.slice none 0 0,.slice none 0 0,.slice none 0 0,.slice none 0 0,.slice none 0 0,.slice none 0 0,.slice none 0 0]] fun K R=>K (.bool true) (cl p 47 [.int .i64 (n),.slice none 0 0,iv.v,.slice none 0 0,.slice none 0 0,rv.v,.slice none 0 0,.slice none 0 0,.slice none 0 0,.slice none 0 0,.slice none 0 0,.slice none 0 0,.slice none 0 0]::R):=by
 refine Spec.intro Tryz.func99 rfl Tryz.ntmps99 rfl fun R K hK=>?_
 refine WP.seq<|WP.reg<|WL.e e_assign<|WL.next<|WP.seq<|WP.seq<|WP.reg<|WL.e e_assign<|WL.next<|WP.block<|WP.loopK (fun (_:Unit)=>[(3,.int .i64 0)]) (fun (_:Unit)=>cl p 47 [.int .i64 (n),.slice none 0 0,iv.v,.slice none 0 0,.slice none 0 0,rv.v,.slice none 0 0,.slice none 0 0,.slice none 0 0,.slice none 0 0,.slice none 0 0,.slice none 0 0,.slice none 0 0]::R) [(0,_)] (fun (_:Unit)=>True) (fun (_:Unit)=>0) () (trivial) ?_
 intro _ _
 refine WP.seq<|WP.seq<|WP.reg<|WL.e e_move<|WL.e e_move<|WL.e e_nil<|WL.e (e_fa f47_6)<|WL.e (e_load a39)<|WL.e (el_len (xs:=([]:List UInt32)) (enc:=u32C) sl39 (nil_rl (z:=1)))<|WL.e e_lss<|WL.next ?_
 refine WP.cond rfl (fun h1=>?_) (fun h1=>?_)
 ·simp at h1
 ·skip
  refine WP.exit<|PO.past nofun<|PO.round nofun<|PO.blockX<|PO.next<|WP.seq<|WP.reg<|WL.e e_assign<|WL.next<|WP.ret ?_
  exact PO.fin Tryz.results99 (rv_tmp rv_nil) hK
theorem fillSpan_spec {g:World} {p:Nat} {n:Nat} {iv rv:SV}:Spec Tryz.prog g 76 [.pointer (some ⟨p,0,none⟩)] [cl p 47 [.int .i64 (n),.slice none 0 0,iv.v,.slice none 0 0,.slice none 0 0,rv.v,.slice none 0 0,.slice none 0 0,.slice none 0 0,.slice none 0 0,.slice none 0 0,.slice none 0 0,.slice none 0 0]] fun K R=>K (.tuple #[]) (cl p 47 [.int .i64 (n),.slice none 0 0,iv.v,.slice none 0 0,.slice none 0 0,rv.v,.slice none 0 0,.slice none 0 0,.slice none 0 0,.slice none 0 0,.slice none 0 0,.slice none 0 0,.slice none 0 0]::R):=by
 refine Spec.intro Tryz.func76 rfl Tryz.ntmps76 rfl fun R K hK=>?_
 refine WP.seq<|WP.reg<|WL.e e_assign<|WL.next<|WP.block<|WP.loopK (fun (_:Unit)=>[(2,.int .i64 0)]) (fun (_:Unit)=>cl p 47 [.int .i64 (n),.slice none 0 0,iv.v,.slice none 0 0,.slice none 0 0,rv.v,.slice none 0 0,.slice none 0 0,.slice none 0 0,.slice none 0 0,.slice none 0 0,.slice none 0 0,.slice none 0 0]::R) [(0,_)] (fun (_:Unit)=>True) (fun (_:Unit)=>0) () (trivial) ?_
 intro _ _
 refine WP.seq<|WP.seq<|WP.reg<|WL.e e_move<|WL.e e_move<|WL.e e_nil<|WL.e (e_fa f47_7)<|WL.e (e_load a40)<|WL.e (el_len (xs:=([]:List UInt32)) (enc:=u32C) sl40 (nil_rl (z:=1)))<|WL.e e_lss<|WL.next ?_
 refine WP.cond rfl (fun h1=>?_) (fun h1=>?_)
 ·simp at h1
 ·skip
  refine WP.exit<|PO.past nofun<|PO.round nofun<|PO.blockX ?_
  exact PO.fin Tryz.results76 rv_nil hK
theorem growSpan_spec {g:World} {p:Nat} {n:Nat} {iv rv:SV}:Spec Tryz.prog g 88 [.pointer (some ⟨p,0,none⟩)] [cl p 47 [.int .i64 (n),.slice none 0 0,iv.v,.slice none 0 0,.slice none 0 0,rv.v,.slice none 0 0,.slice none 0 0,.slice none 0 0,.slice none 0 0,.slice none 0 0,.slice none 0 0,.slice none 0 0]] fun K R=>K (.tuple #[]) (cl p 47 [.int .i64 (n),.slice none 0 0,iv.v,.slice none 0 0,.slice none 0 0,rv.v,.slice none 0 0,.slice none 0 0,.slice none 0 0,.slice none 0 0,.slice none 0 0,.slice none 0 0,.slice none 0 0]::R):=by
 refine Spec.intro Tryz.func88 rfl Tryz.ntmps88 rfl fun R K hK=>?_
 refine WP.seq<|WP.reg<|WL.e e_assign<|WL.next<|WP.block<|WP.loopK (fun (_:Unit)=>[(2,.int .i64 0)]) (fun (_:Unit)=>cl p 47 [.int .i64 (n),.slice none 0 0,iv.v,.slice none 0 0,.slice none 0 0,rv.v,.slice none 0 0,.slice none 0 0,.slice none 0 0,.slice none 0 0,.slice none 0 0,.slice none 0 0,.slice none 0 0]::R) [(0,_)] (fun (_:Unit)=>True) (fun (_:Unit)=>0) () (trivial) ?_
 intro _ _
 refine WP.seq<|WP.seq<|WP.reg<|WL.e e_move<|WL.e e_move<|WL.e e_nil<|WL.e (e_fa f47_7)<|WL.e (e_load a40)<|WL.e (el_len (xs:=([]:List UInt32)) (enc:=u32C) sl40 (nil_rl (z:=1)))<|WL.e e_lss<|WL.next ?_
 refine WP.cond rfl (fun h1=>?_) (fun h1=>?_)
 ·simp at h1
 ·skip
  refine WP.exit<|PO.past nofun<|PO.round nofun<|PO.blockX ?_
  exact PO.fin Tryz.results88 rv_nil hK
theorem lookSpan_spec {g:World} {p:Nat} {n:Nat} {iv rv:SV}:Spec Tryz.prog g 100 [.pointer (some ⟨p,0,none⟩)] [cl p 47 [.int .i64 (n),.slice none 0 0,iv.v,.slice none 0 0,.slice none 0 0,rv.v,.slice none 0 0,.slice none 0 0,.slice none 0 0,.slice none 0 0,.slice none 0 0,.slice none 0 0,.slice none 0 0]] fun K R=>K (.bool true) (cl p 47 [.int .i64 (n),.slice none 0 0,iv.v,.slice none 0 0,.slice none 0 0,rv.v,.slice none 0 0,.slice none 0 0,.slice none 0 0,.slice none 0 0,.slice none 0 0,.slice none 0 0,.slice none 0 0]::R):=by
 refine Spec.intro Tryz.func100 rfl Tryz.ntmps100 rfl fun R K hK=>?_
 refine WP.seq<|WP.reg<|WL.e e_assign<|WL.next<|WP.seq<|WP.seq<|WP.reg<|WL.e e_assign<|WL.next<|WP.block<|WP.loopK (fun (_:Unit)=>[(3,.int .i64 0)]) (fun (_:Unit)=>cl p 47 [.int .i64 (n),.slice none 0 0,iv.v,.slice none 0 0,.slice none 0 0,rv.v,.slice none 0 0,.slice none 0 0,.slice none 0 0,.slice none 0 0,.slice none 0 0,.slice none 0 0,.slice none 0 0]::R) [(0,_)] (fun (_:Unit)=>True) (fun (_:Unit)=>0) () (trivial) ?_
 intro _ _
 refine WP.seq<|WP.seq<|WP.reg<|WL.e e_move<|WL.e e_move<|WL.e e_nil<|WL.e (e_fa f47_7)<|WL.e (e_load a40)<|WL.e (el_len (xs:=([]:List UInt32)) (enc:=u32C) sl40 (nil_rl (z:=1)))<|WL.e e_lss<|WL.next ?_
 refine WP.cond rfl (fun h1=>?_) (fun h1=>?_)
 ·simp at h1
 ·skip
  refine WP.exit<|PO.past nofun<|PO.round nofun<|PO.blockX<|PO.next<|WP.seq<|WP.reg<|WL.e e_assign<|WL.next<|WP.ret ?_
  exact PO.fin Tryz.results100 (rv_tmp rv_nil) hK
theorem fillChange_spec {g:World} {p:Nat} {n:Nat} {iv rv:SV}:Spec Tryz.prog g 77 [.pointer (some ⟨p,0,none⟩)] [cl p 47 [.int .i64 (n),.slice none 0 0,iv.v,.slice none 0 0,.slice none 0 0,rv.v,.slice none 0 0,.slice none 0 0,.slice none 0 0,.slice none 0 0,.slice none 0 0,.slice none 0 0,.slice none 0 0]] fun K R=>K (.tuple #[]) (cl p 47 [.int .i64 (n),.slice none 0 0,iv.v,.slice none 0 0,.slice none 0 0,rv.v,.slice none 0 0,.slice none 0 0,.slice none 0 0,.slice none 0 0,.slice none 0 0,.slice none 0 0,.slice none 0 0]::R):=by
 refine Spec.intro Tryz.func77 rfl Tryz.ntmps77 rfl fun R K hK=>?_
 refine WP.seq<|WP.reg<|WL.e e_assign<|WL.next<|WP.block<|WP.loopK (fun (_:Unit)=>[(2,.int .i64 0)]) (fun (_:Unit)=>cl p 47 [.int .i64 (n),.slice none 0 0,iv.v,.slice none 0 0,.slice none 0 0,rv.v,.slice none 0 0,.slice none 0 0,.slice none 0 0,.slice none 0 0,.slice none 0 0,.slice none 0 0,.slice none 0 0]::R) [(0,_)] (fun (_:Unit)=>True) (fun (_:Unit)=>0) () (trivial) ?_
 intro _ _
 refine WP.seq<|WP.seq<|WP.reg<|WL.e e_move<|WL.e e_move<|WL.e e_nil<|WL.e (e_fa f47_8)<|WL.e (e_load a41)<|WL.e (el_len (xs:=([]:List UInt32)) (enc:=u32C) sl41 (nil_rl (z:=1)))<|WL.e e_lss<|WL.next ?_
 refine WP.cond rfl (fun h1=>?_) (fun h1=>?_)
 ·simp at h1
 ·skip
  refine WP.exit<|PO.past nofun<|PO.round nofun<|PO.blockX ?_
  exact PO.fin Tryz.results77 rv_nil hK
theorem growChange_spec {g:World} {p:Nat} {n:Nat} {iv rv:SV}:Spec Tryz.prog g 89 [.pointer (some ⟨p,0,none⟩)] [cl p 47 [.int .i64 (n),.slice none 0 0,iv.v,.slice none 0 0,.slice none 0 0,rv.v,.slice none 0 0,.slice none 0 0,.slice none 0 0,.slice none 0 0,.slice none 0 0,.slice none 0 0,.slice none 0 0]] fun K R=>K (.tuple #[]) (cl p 47 [.int .i64 (n),.slice none 0 0,iv.v,.slice none 0 0,.slice none 0 0,rv.v,.slice none 0 0,.slice none 0 0,.slice none 0 0,.slice none 0 0,.slice none 0 0,.slice none 0 0,.slice none 0 0]::R):=by
 refine Spec.intro Tryz.func89 rfl Tryz.ntmps89 rfl fun R K hK=>?_
 refine WP.seq<|WP.reg<|WL.e e_assign<|WL.next<|WP.block<|WP.loopK (fun (_:Unit)=>[(2,.int .i64 0)]) (fun (_:Unit)=>cl p 47 [.int .i64 (n),.slice none 0 0,iv.v,.slice none 0 0,.slice none 0 0,rv.v,.slice none 0 0,.slice none 0 0,.slice none 0 0,.slice none 0 0,.slice none 0 0,.slice none 0 0,.slice none 0 0]::R) [(0,_)] (fun (_:Unit)=>True) (fun (_:Unit)=>0) () (trivial) ?_
 intro _ _
 refine WP.seq<|WP.seq<|WP.reg<|WL.e e_move<|WL.e e_move<|WL.e e_nil<|WL.e (e_fa f47_8)<|WL.e (e_load a41)<|WL.e (el_len (xs:=([]:List UInt32)) (enc:=u32C) sl41 (nil_rl (z:=1)))<|WL.e e_lss<|WL.next ?_
 refine WP.cond rfl (fun h1=>?_) (fun h1=>?_)
 ·simp at h1
 ·skip
  refine WP.exit<|PO.past nofun<|PO.round nofun<|PO.blockX ?_
  exact PO.fin Tryz.results89 rv_nil hK
theorem lookChange_spec {g:World} {p:Nat} {n:Nat} {iv rv:SV}:Spec Tryz.prog g 101 [.pointer (some ⟨p,0,none⟩)] [cl p 47 [.int .i64 (n),.slice none 0 0,iv.v,.slice none 0 0,.slice none 0 0,rv.v,.slice none 0 0,.slice none 0 0,.slice none 0 0,.slice none 0 0,.slice none 0 0,.slice none 0 0,.slice none 0 0]] fun K R=>K (.bool true) (cl p 47 [.int .i64 (n),.slice none 0 0,iv.v,.slice none 0 0,.slice none 0 0,rv.v,.slice none 0 0,.slice none 0 0,.slice none 0 0,.slice none 0 0,.slice none 0 0,.slice none 0 0,.slice none 0 0]::R):=by
 refine Spec.intro Tryz.func101 rfl Tryz.ntmps101 rfl fun R K hK=>?_
 refine WP.seq<|WP.reg<|WL.e e_assign<|WL.next<|WP.seq<|WP.seq<|WP.reg<|WL.e e_assign<|WL.next<|WP.block<|WP.loopK (fun (_:Unit)=>[(3,.int .i64 0)]) (fun (_:Unit)=>cl p 47 [.int .i64 (n),.slice none 0 0,iv.v,.slice none 0 0,.slice none 0 0,rv.v,.slice none 0 0,.slice none 0 0,.slice none 0 0,.slice none 0 0,.slice none 0 0,.slice none 0 0,.slice none 0 0]::R) [(0,_)] (fun (_:Unit)=>True) (fun (_:Unit)=>0) () (trivial) ?_
 intro _ _
 refine WP.seq<|WP.seq<|WP.reg<|WL.e e_move<|WL.e e_move<|WL.e e_nil<|WL.e (e_fa f47_8)<|WL.e (e_load a41)<|WL.e (el_len (xs:=([]:List UInt32)) (enc:=u32C) sl41 (nil_rl (z:=1)))<|WL.e e_lss<|WL.next ?_
 refine WP.cond rfl (fun h1=>?_) (fun h1=>?_)
 ·simp at h1
 ·skip
  refine WP.exit<|PO.past nofun<|PO.round nofun<|PO.blockX<|PO.next<|WP.seq<|WP.reg<|WL.e e_assign<|WL.next<|WP.ret ?_
  exact PO.fin Tryz.results101 (rv_tmp rv_nil) hK
theorem fillResult_spec {g:World} {p:Nat} {n:Nat} {iv rv:SV}:Spec Tryz.prog g 78 [.pointer (some ⟨p,0,none⟩)] [cl p 47 [.int .i64 (n),.slice none 0 0,iv.v,.slice none 0 0,.slice none 0 0,rv.v,.slice none 0 0,.slice none 0 0,.slice none 0 0,.slice none 0 0,.slice none 0 0,.slice none 0 0,.slice none 0 0]] fun K R=>K (.tuple #[]) (cl p 47 [.int .i64 (n),.slice none 0 0,iv.v,.slice none 0 0,.slice none 0 0,rv.v,.slice none 0 0,.slice none 0 0,.slice none 0 0,.slice none 0 0,.slice none 0 0,.slice none 0 0,.slice none 0 0]::R):=by
 refine Spec.intro Tryz.func78 rfl Tryz.ntmps78 rfl fun R K hK=>?_
 refine WP.seq<|WP.reg<|WL.e e_assign<|WL.next<|WP.block<|WP.loopK (fun (_:Unit)=>[(2,.int .i64 0)]) (fun (_:Unit)=>cl p 47 [.int .i64 (n),.slice none 0 0,iv.v,.slice none 0 0,.slice none 0 0,rv.v,.slice none 0 0,.slice none 0 0,.slice none 0 0,.slice none 0 0,.slice none 0 0,.slice none 0 0,.slice none 0 0]::R) [(0,_)] (fun (_:Unit)=>True) (fun (_:Unit)=>0) () (trivial) ?_
 intro _ _
 refine WP.seq<|WP.seq<|WP.reg<|WL.e e_move<|WL.e e_move<|WL.e e_nil<|WL.e (e_fa f47_9)<|WL.e (e_load a42)<|WL.e (el_len (xs:=([]:List UInt32)) (enc:=u32C) sl42 (nil_rl (z:=1)))<|WL.e e_lss<|WL.next ?_
 refine WP.cond rfl (fun h1=>?_) (fun h1=>?_)
 ·simp at h1
 ·skip
  refine WP.exit<|PO.past nofun<|PO.round nofun<|PO.blockX ?_
  exact PO.fin Tryz.results78 rv_nil hK
theorem growResult_spec {g:World} {p:Nat} {n:Nat} {iv rv:SV}:Spec Tryz.prog g 90 [.pointer (some ⟨p,0,none⟩)] [cl p 47 [.int .i64 (n),.slice none 0 0,iv.v,.slice none 0 0,.slice none 0 0,rv.v,.slice none 0 0,.slice none 0 0,.slice none 0 0,.slice none 0 0,.slice none 0 0,.slice none 0 0,.slice none 0 0]] fun K R=>K (.tuple #[]) (cl p 47 [.int .i64 (n),.slice none 0 0,iv.v,.slice none 0 0,.slice none 0 0,rv.v,.slice none 0 0,.slice none 0 0,.slice none 0 0,.slice none 0 0,.slice none 0 0,.slice none 0 0,.slice none 0 0]::R):=by
 refine Spec.intro Tryz.func90 rfl Tryz.ntmps90 rfl fun R K hK=>?_
 refine WP.seq<|WP.reg<|WL.e e_assign<|WL.next<|WP.block<|WP.loopK (fun (_:Unit)=>[(2,.int .i64 0)]) (fun (_:Unit)=>cl p 47 [.int .i64 (n),.slice none 0 0,iv.v,.slice none 0 0,.slice none 0 0,rv.v,.slice none 0 0,.slice none 0 0,.slice none 0 0,.slice none 0 0,.slice none 0 0,.slice none 0 0,.slice none 0 0]::R) [(0,_)] (fun (_:Unit)=>True) (fun (_:Unit)=>0) () (trivial) ?_
 intro _ _
 refine WP.seq<|WP.seq<|WP.reg<|WL.e e_move<|WL.e e_move<|WL.e e_nil<|WL.e (e_fa f47_9)<|WL.e (e_load a42)<|WL.e (el_len (xs:=([]:List UInt32)) (enc:=u32C) sl42 (nil_rl (z:=1)))<|WL.e e_lss<|WL.next ?_
 refine WP.cond rfl (fun h1=>?_) (fun h1=>?_)
 ·simp at h1
 ·skip
  refine WP.exit<|PO.past nofun<|PO.round nofun<|PO.blockX ?_
  exact PO.fin Tryz.results90 rv_nil hK
theorem lookResult_spec {g:World} {p:Nat} {n:Nat} {iv rv:SV}:Spec Tryz.prog g 102 [.pointer (some ⟨p,0,none⟩)] [cl p 47 [.int .i64 (n),.slice none 0 0,iv.v,.slice none 0 0,.slice none 0 0,rv.v,.slice none 0 0,.slice none 0 0,.slice none 0 0,.slice none 0 0,.slice none 0 0,.slice none 0 0,.slice none 0 0]] fun K R=>K (.bool true) (cl p 47 [.int .i64 (n),.slice none 0 0,iv.v,.slice none 0 0,.slice none 0 0,rv.v,.slice none 0 0,.slice none 0 0,.slice none 0 0,.slice none 0 0,.slice none 0 0,.slice none 0 0,.slice none 0 0]::R):=by
 refine Spec.intro Tryz.func102 rfl Tryz.ntmps102 rfl fun R K hK=>?_
 refine WP.seq<|WP.reg<|WL.e e_assign<|WL.next<|WP.seq<|WP.seq<|WP.reg<|WL.e e_assign<|WL.next<|WP.block<|WP.loopK (fun (_:Unit)=>[(3,.int .i64 0)]) (fun (_:Unit)=>cl p 47 [.int .i64 (n),.slice none 0 0,iv.v,.slice none 0 0,.slice none 0 0,rv.v,.slice none 0 0,.slice none 0 0,.slice none 0 0,.slice none 0 0,.slice none 0 0,.slice none 0 0,.slice none 0 0]::R) [(0,_)] (fun (_:Unit)=>True) (fun (_:Unit)=>0) () (trivial) ?_
 intro _ _
 refine WP.seq<|WP.seq<|WP.reg<|WL.e e_move<|WL.e e_move<|WL.e e_nil<|WL.e (e_fa f47_9)<|WL.e (e_load a42)<|WL.e (el_len (xs:=([]:List UInt32)) (enc:=u32C) sl42 (nil_rl (z:=1)))<|WL.e e_lss<|WL.next ?_
 refine WP.cond rfl (fun h1=>?_) (fun h1=>?_)
 ·simp at h1
 ·skip
  refine WP.exit<|PO.past nofun<|PO.round nofun<|PO.blockX<|PO.next<|WP.seq<|WP.reg<|WL.e e_assign<|WL.next<|WP.ret ?_
  exact PO.fin Tryz.results102 (rv_tmp rv_nil) hK
theorem fillMsg_spec {g:World} {p:Nat} {n:Nat} {iv rv:SV}:Spec Tryz.prog g 79 [.pointer (some ⟨p,0,none⟩)] [cl p 47 [.int .i64 (n),.slice none 0 0,iv.v,.slice none 0 0,.slice none 0 0,rv.v,.slice none 0 0,.slice none 0 0,.slice none 0 0,.slice none 0 0,.slice none 0 0,.slice none 0 0,.slice none 0 0]] fun K R=>K (.tuple #[]) (cl p 47 [.int .i64 (n),.slice none 0 0,iv.v,.slice none 0 0,.slice none 0 0,rv.v,.slice none 0 0,.slice none 0 0,.slice none 0 0,.slice none 0 0,.slice none 0 0,.slice none 0 0,.slice none 0 0]::R):=by
 refine Spec.intro Tryz.func79 rfl Tryz.ntmps79 rfl fun R K hK=>?_
 refine WP.seq<|WP.reg<|WL.e e_assign<|WL.next<|WP.block<|WP.loopK (fun (_:Unit)=>[(2,.int .i64 0)]) (fun (_:Unit)=>cl p 47 [.int .i64 (n),.slice none 0 0,iv.v,.slice none 0 0,.slice none 0 0,rv.v,.slice none 0 0,.slice none 0 0,.slice none 0 0,.slice none 0 0,.slice none 0 0,.slice none 0 0,.slice none 0 0]::R) [(0,_)] (fun (_:Unit)=>True) (fun (_:Unit)=>0) () (trivial) ?_
 intro _ _
 refine WP.seq<|WP.seq<|WP.reg<|WL.e e_move<|WL.e e_move<|WL.e e_nil<|WL.e (e_fa f47_10)<|WL.e (e_load a43)<|WL.e (el_len (xs:=([]:List UInt32)) (enc:=u32C) sl43 (nil_rl (z:=1)))<|WL.e e_lss<|WL.next ?_
 refine WP.cond rfl (fun h1=>?_) (fun h1=>?_)
 ·simp at h1
 ·skip
  refine WP.exit<|PO.past nofun<|PO.round nofun<|PO.blockX ?_
  exact PO.fin Tryz.results79 rv_nil hK
theorem growMsg_spec {g:World} {p:Nat} {n:Nat} {iv rv:SV}:Spec Tryz.prog g 91 [.pointer (some ⟨p,0,none⟩)] [cl p 47 [.int .i64 (n),.slice none 0 0,iv.v,.slice none 0 0,.slice none 0 0,rv.v,.slice none 0 0,.slice none 0 0,.slice none 0 0,.slice none 0 0,.slice none 0 0,.slice none 0 0,.slice none 0 0]] fun K R=>K (.tuple #[]) (cl p 47 [.int .i64 (n),.slice none 0 0,iv.v,.slice none 0 0,.slice none 0 0,rv.v,.slice none 0 0,.slice none 0 0,.slice none 0 0,.slice none 0 0,.slice none 0 0,.slice none 0 0,.slice none 0 0]::R):=by
 refine Spec.intro Tryz.func91 rfl Tryz.ntmps91 rfl fun R K hK=>?_
 refine WP.seq<|WP.reg<|WL.e e_assign<|WL.next<|WP.block<|WP.loopK (fun (_:Unit)=>[(2,.int .i64 0)]) (fun (_:Unit)=>cl p 47 [.int .i64 (n),.slice none 0 0,iv.v,.slice none 0 0,.slice none 0 0,rv.v,.slice none 0 0,.slice none 0 0,.slice none 0 0,.slice none 0 0,.slice none 0 0,.slice none 0 0,.slice none 0 0]::R) [(0,_)] (fun (_:Unit)=>True) (fun (_:Unit)=>0) () (trivial) ?_
 intro _ _
 refine WP.seq<|WP.seq<|WP.reg<|WL.e e_move<|WL.e e_move<|WL.e e_nil<|WL.e (e_fa f47_10)<|WL.e (e_load a43)<|WL.e (el_len (xs:=([]:List UInt32)) (enc:=u32C) sl43 (nil_rl (z:=1)))<|WL.e e_lss<|WL.next ?_
 refine WP.cond rfl (fun h1=>?_) (fun h1=>?_)
 ·simp at h1
 ·skip
  refine WP.exit<|PO.past nofun<|PO.round nofun<|PO.blockX ?_
  exact PO.fin Tryz.results91 rv_nil hK
theorem lookMsg_spec {g:World} {p:Nat} {n:Nat} {iv rv:SV}:Spec Tryz.prog g 103 [.pointer (some ⟨p,0,none⟩)] [cl p 47 [.int .i64 (n),.slice none 0 0,iv.v,.slice none 0 0,.slice none 0 0,rv.v,.slice none 0 0,.slice none 0 0,.slice none 0 0,.slice none 0 0,.slice none 0 0,.slice none 0 0,.slice none 0 0]] fun K R=>K (.bool true) (cl p 47 [.int .i64 (n),.slice none 0 0,iv.v,.slice none 0 0,.slice none 0 0,rv.v,.slice none 0 0,.slice none 0 0,.slice none 0 0,.slice none 0 0,.slice none 0 0,.slice none 0 0,.slice none 0 0]::R):=by
 refine Spec.intro Tryz.func103 rfl Tryz.ntmps103 rfl fun R K hK=>?_
 refine WP.seq<|WP.reg<|WL.e e_assign<|WL.next<|WP.seq<|WP.seq<|WP.reg<|WL.e e_assign<|WL.next<|WP.block<|WP.loopK (fun (_:Unit)=>[(3,.int .i64 0)]) (fun (_:Unit)=>cl p 47 [.int .i64 (n),.slice none 0 0,iv.v,.slice none 0 0,.slice none 0 0,rv.v,.slice none 0 0,.slice none 0 0,.slice none 0 0,.slice none 0 0,.slice none 0 0,.slice none 0 0,.slice none 0 0]::R) [(0,_)] (fun (_:Unit)=>True) (fun (_:Unit)=>0) () (trivial) ?_
 intro _ _
 refine WP.seq<|WP.seq<|WP.reg<|WL.e e_move<|WL.e e_move<|WL.e e_nil<|WL.e (e_fa f47_10)<|WL.e (e_load a43)<|WL.e (el_len (xs:=([]:List UInt32)) (enc:=u32C) sl43 (nil_rl (z:=1)))<|WL.e e_lss<|WL.next ?_
 refine WP.cond rfl (fun h1=>?_) (fun h1=>?_)
 ·simp at h1
 ·skip
  refine WP.exit<|PO.past nofun<|PO.round nofun<|PO.blockX<|PO.next<|WP.seq<|WP.reg<|WL.e e_assign<|WL.next<|WP.ret ?_
  exact PO.fin Tryz.results103 (rv_tmp rv_nil) hK
theorem fillPart_spec {g:World} {p:Nat} {n:Nat} {iv rv:SV}:Spec Tryz.prog g 80 [.pointer (some ⟨p,0,none⟩)] [cl p 47 [.int .i64 (n),.slice none 0 0,iv.v,.slice none 0 0,.slice none 0 0,rv.v,.slice none 0 0,.slice none 0 0,.slice none 0 0,.slice none 0 0,.slice none 0 0,.slice none 0 0,.slice none 0 0]] fun K R=>K (.tuple #[]) (cl p 47 [.int .i64 (n),.slice none 0 0,iv.v,.slice none 0 0,.slice none 0 0,rv.v,.slice none 0 0,.slice none 0 0,.slice none 0 0,.slice none 0 0,.slice none 0 0,.slice none 0 0,.slice none 0 0]::R):=by
 refine Spec.intro Tryz.func80 rfl Tryz.ntmps80 rfl fun R K hK=>?_
 refine WP.seq<|WP.reg<|WL.e e_assign<|WL.next<|WP.block<|WP.loopK (fun (_:Unit)=>[(2,.int .i64 0)]) (fun (_:Unit)=>cl p 47 [.int .i64 (n),.slice none 0 0,iv.v,.slice none 0 0,.slice none 0 0,rv.v,.slice none 0 0,.slice none 0 0,.slice none 0 0,.slice none 0 0,.slice none 0 0,.slice none 0 0,.slice none 0 0]::R) [(0,_)] (fun (_:Unit)=>True) (fun (_:Unit)=>0) () (trivial) ?_
 intro _ _
 refine WP.seq<|WP.seq<|WP.reg<|WL.e e_move<|WL.e e_move<|WL.e e_nil<|WL.e (e_fa f47_11)<|WL.e (e_load a44)<|WL.e (el_len (xs:=([]:List UInt32)) (enc:=u32C) sl44 (nil_rl (z:=1)))<|WL.e e_lss<|WL.next ?_
 refine WP.cond rfl (fun h1=>?_) (fun h1=>?_)
 ·simp at h1
 ·skip
  refine WP.exit<|PO.past nofun<|PO.round nofun<|PO.blockX ?_
  exact PO.fin Tryz.results80 rv_nil hK
theorem growPart_spec {g:World} {p:Nat} {n:Nat} {iv rv:SV}:Spec Tryz.prog g 92 [.pointer (some ⟨p,0,none⟩)] [cl p 47 [.int .i64 (n),.slice none 0 0,iv.v,.slice none 0 0,.slice none 0 0,rv.v,.slice none 0 0,.slice none 0 0,.slice none 0 0,.slice none 0 0,.slice none 0 0,.slice none 0 0,.slice none 0 0]] fun K R=>K (.tuple #[]) (cl p 47 [.int .i64 (n),.slice none 0 0,iv.v,.slice none 0 0,.slice none 0 0,rv.v,.slice none 0 0,.slice none 0 0,.slice none 0 0,.slice none 0 0,.slice none 0 0,.slice none 0 0,.slice none 0 0]::R):=by
 refine Spec.intro Tryz.func92 rfl Tryz.ntmps92 rfl fun R K hK=>?_
 refine WP.seq<|WP.reg<|WL.e e_assign<|WL.next<|WP.block<|WP.loopK (fun (_:Unit)=>[(2,.int .i64 0)]) (fun (_:Unit)=>cl p 47 [.int .i64 (n),.slice none 0 0,iv.v,.slice none 0 0,.slice none 0 0,rv.v,.slice none 0 0,.slice none 0 0,.slice none 0 0,.slice none 0 0,.slice none 0 0,.slice none 0 0,.slice none 0 0]::R) [(0,_)] (fun (_:Unit)=>True) (fun (_:Unit)=>0) () (trivial) ?_
 intro _ _
 refine WP.seq<|WP.seq<|WP.reg<|WL.e e_move<|WL.e e_move<|WL.e e_nil<|WL.e (e_fa f47_11)<|WL.e (e_load a44)<|WL.e (el_len (xs:=([]:List UInt32)) (enc:=u32C) sl44 (nil_rl (z:=1)))<|WL.e e_lss<|WL.next ?_
 refine WP.cond rfl (fun h1=>?_) (fun h1=>?_)
 ·simp at h1
 ·skip
  refine WP.exit<|PO.past nofun<|PO.round nofun<|PO.blockX ?_
  exact PO.fin Tryz.results92 rv_nil hK
theorem lookPart_spec {g:World} {p:Nat} {n:Nat} {iv rv:SV}:Spec Tryz.prog g 104 [.pointer (some ⟨p,0,none⟩)] [cl p 47 [.int .i64 (n),.slice none 0 0,iv.v,.slice none 0 0,.slice none 0 0,rv.v,.slice none 0 0,.slice none 0 0,.slice none 0 0,.slice none 0 0,.slice none 0 0,.slice none 0 0,.slice none 0 0]] fun K R=>K (.bool true) (cl p 47 [.int .i64 (n),.slice none 0 0,iv.v,.slice none 0 0,.slice none 0 0,rv.v,.slice none 0 0,.slice none 0 0,.slice none 0 0,.slice none 0 0,.slice none 0 0,.slice none 0 0,.slice none 0 0]::R):=by
 refine Spec.intro Tryz.func104 rfl Tryz.ntmps104 rfl fun R K hK=>?_
 refine WP.seq<|WP.reg<|WL.e e_assign<|WL.next<|WP.seq<|WP.seq<|WP.reg<|WL.e e_assign<|WL.next<|WP.block<|WP.loopK (fun (_:Unit)=>[(3,.int .i64 0)]) (fun (_:Unit)=>cl p 47 [.int .i64 (n),.slice none 0 0,iv.v,.slice none 0 0,.slice none 0 0,rv.v,.slice none 0 0,.slice none 0 0,.slice none 0 0,.slice none 0 0,.slice none 0 0,.slice none 0 0,.slice none 0 0]::R) [(0,_)] (fun (_:Unit)=>True) (fun (_:Unit)=>0) () (trivial) ?_
 intro _ _
 refine WP.seq<|WP.seq<|WP.reg<|WL.e e_move<|WL.e e_move<|WL.e e_nil<|WL.e (e_fa f47_11)<|WL.e (e_load a44)<|WL.e (el_len (xs:=([]:List UInt32)) (enc:=u32C) sl44 (nil_rl (z:=1)))<|WL.e e_lss<|WL.next ?_
 refine WP.cond rfl (fun h1=>?_) (fun h1=>?_)
 ·simp at h1
 ·skip
  refine WP.exit<|PO.past nofun<|PO.round nofun<|PO.blockX<|PO.next<|WP.seq<|WP.reg<|WL.e e_assign<|WL.next<|WP.ret ?_
  exact PO.fin Tryz.results104 (rv_tmp rv_nil) hK
theorem fillDeed_spec {g:World} {p:Nat} {n:Nat} {iv rv:SV}:Spec Tryz.prog g 81 [.pointer (some ⟨p,0,none⟩)] [cl p 47 [.int .i64 (n),.slice none 0 0,iv.v,.slice none 0 0,.slice none 0 0,rv.v,.slice none 0 0,.slice none 0 0,.slice none 0 0,.slice none 0 0,.slice none 0 0,.slice none 0 0,.slice none 0 0]] fun K R=>K (.tuple #[]) (cl p 47 [.int .i64 (n),.slice none 0 0,iv.v,.slice none 0 0,.slice none 0 0,rv.v,.slice none 0 0,.slice none 0 0,.slice none 0 0,.slice none 0 0,.slice none 0 0,.slice none 0 0,.slice none 0 0]::R):=by
 refine Spec.intro Tryz.func81 rfl Tryz.ntmps81 rfl fun R K hK=>?_
 refine WP.seq<|WP.reg<|WL.e e_assign<|WL.next<|WP.block<|WP.loopK (fun (_:Unit)=>[(2,.int .i64 0)]) (fun (_:Unit)=>cl p 47 [.int .i64 (n),.slice none 0 0,iv.v,.slice none 0 0,.slice none 0 0,rv.v,.slice none 0 0,.slice none 0 0,.slice none 0 0,.slice none 0 0,.slice none 0 0,.slice none 0 0,.slice none 0 0]::R) [(0,_)] (fun (_:Unit)=>True) (fun (_:Unit)=>0) () (trivial) ?_
 intro _ _
 refine WP.seq<|WP.seq<|WP.reg<|WL.e e_move<|WL.e e_move<|WL.e e_nil<|WL.e (e_fa f47_12)<|WL.e (e_load a45)<|WL.e (el_len (xs:=([]:List UInt32)) (enc:=u32C) sl45 (nil_rl (z:=1)))<|WL.e e_lss<|WL.next ?_
 refine WP.cond rfl (fun h1=>?_) (fun h1=>?_)
 ·simp at h1
 ·skip
  refine WP.exit<|PO.past nofun<|PO.round nofun<|PO.blockX ?_
  exact PO.fin Tryz.results81 rv_nil hK
theorem growDeed_spec {g:World} {p:Nat} {n:Nat} {iv rv:SV}:Spec Tryz.prog g 93 [.pointer (some ⟨p,0,none⟩)] [cl p 47 [.int .i64 (n),.slice none 0 0,iv.v,.slice none 0 0,.slice none 0 0,rv.v,.slice none 0 0,.slice none 0 0,.slice none 0 0,.slice none 0 0,.slice none 0 0,.slice none 0 0,.slice none 0 0]] fun K R=>K (.tuple #[]) (cl p 47 [.int .i64 (n),.slice none 0 0,iv.v,.slice none 0 0,.slice none 0 0,rv.v,.slice none 0 0,.slice none 0 0,.slice none 0 0,.slice none 0 0,.slice none 0 0,.slice none 0 0,.slice none 0 0]::R):=by
 refine Spec.intro Tryz.func93 rfl Tryz.ntmps93 rfl fun R K hK=>?_
 refine WP.seq<|WP.reg<|WL.e e_assign<|WL.next<|WP.block<|WP.loopK (fun (_:Unit)=>[(2,.int .i64 0)]) (fun (_:Unit)=>cl p 47 [.int .i64 (n),.slice none 0 0,iv.v,.slice none 0 0,.slice none 0 0,rv.v,.slice none 0 0,.slice none 0 0,.slice none 0 0,.slice none 0 0,.slice none 0 0,.slice none 0 0,.slice none 0 0]::R) [(0,_)] (fun (_:Unit)=>True) (fun (_:Unit)=>0) () (trivial) ?_
 intro _ _
 refine WP.seq<|WP.seq<|WP.reg<|WL.e e_move<|WL.e e_move<|WL.e e_nil<|WL.e (e_fa f47_12)<|WL.e (e_load a45)<|WL.e (el_len (xs:=([]:List UInt32)) (enc:=u32C) sl45 (nil_rl (z:=1)))<|WL.e e_lss<|WL.next ?_
 refine WP.cond rfl (fun h1=>?_) (fun h1=>?_)
 ·simp at h1
 ·skip
  refine WP.exit<|PO.past nofun<|PO.round nofun<|PO.blockX ?_
  exact PO.fin Tryz.results93 rv_nil hK
theorem lookDeed_spec {g:World} {p:Nat} {n:Nat} {iv rv:SV}:Spec Tryz.prog g 105 [.pointer (some ⟨p,0,none⟩)] [cl p 47 [.int .i64 (n),.slice none 0 0,iv.v,.slice none 0 0,.slice none 0 0,rv.v,.slice none 0 0,.slice none 0 0,.slice none 0 0,.slice none 0 0,.slice none 0 0,.slice none 0 0,.slice none 0 0]] fun K R=>K (.bool true) (cl p 47 [.int .i64 (n),.slice none 0 0,iv.v,.slice none 0 0,.slice none 0 0,rv.v,.slice none 0 0,.slice none 0 0,.slice none 0 0,.slice none 0 0,.slice none 0 0,.slice none 0 0,.slice none 0 0]::R):=by
 refine Spec.intro Tryz.func105 rfl Tryz.ntmps105 rfl fun R K hK=>?_
 refine WP.seq<|WP.reg<|WL.e e_assign<|WL.next<|WP.seq<|WP.seq<|WP.reg<|WL.e e_assign<|WL.next<|WP.block<|WP.loopK (fun (_:Unit)=>[(3,.int .i64 0)]) (fun (_:Unit)=>cl p 47 [.int .i64 (n),.slice none 0 0,iv.v,.slice none 0 0,.slice none 0 0,rv.v,.slice none 0 0,.slice none 0 0,.slice none 0 0,.slice none 0 0,.slice none 0 0,.slice none 0 0,.slice none 0 0]::R) [(0,_)] (fun (_:Unit)=>True) (fun (_:Unit)=>0) () (trivial) ?_
 intro _ _
 refine WP.seq<|WP.seq<|WP.reg<|WL.e e_move<|WL.e e_move<|WL.e e_nil<|WL.e (e_fa f47_12)<|WL.e (e_load a45)<|WL.e (el_len (xs:=([]:List UInt32)) (enc:=u32C) sl45 (nil_rl (z:=1)))<|WL.e e_lss<|WL.next ?_
 refine WP.cond rfl (fun h1=>?_) (fun h1=>?_)
 ·simp at h1
 ·skip
  refine WP.exit<|PO.past nofun<|PO.round nofun<|PO.blockX<|PO.next<|WP.seq<|WP.reg<|WL.e e_assign<|WL.next<|WP.ret ?_
  exact PO.fin Tryz.results105 (rv_tmp rv_nil) hK
structure BookV where
 n:Nat
 ids:List (HeldV UInt32)
 rows:List (HeldV RowM)
def Bk (p:Nat) (b:BookV):HP:=fun S=>∃ x:SV × SV,stars [cl p 47 [.int .i64 (b.n),.slice none 0 0,x.1.v,.slice none 0 0,.slice none 0 0,x.2.v,.slice none 0 0,.slice none 0 0,.slice none 0 0,.slice none 0 0,.slice none 0 0,.slice none 0 0,.slice none 0 0],Sl 201 3 hdC (x.1.v) (b.ids),Mb (Hd0 48 1 u32C) (b.ids),Sl 199 3 hdC (x.2.v) (b.rows),Mb (Hd0 142 2 RowM.c) (b.rows)] S
theorem Bk_op {p:Nat} {b:BookV}:∀ S,Bk p b S→∃ x:SV × SV,stars [cl p 47 [.int .i64 (b.n),.slice none 0 0,x.1.v,.slice none 0 0,.slice none 0 0,x.2.v,.slice none 0 0,.slice none 0 0,.slice none 0 0,.slice none 0 0,.slice none 0 0,.slice none 0 0,.slice none 0 0],Sl 201 3 hdC (x.1.v) (b.ids),Mb (Hd0 48 1 u32C) (b.ids),Sl 199 3 hdC (x.2.v) (b.rows),Mb (Hd0 142 2 RowM.c) (b.rows)] S:=fun S h=>h
def keepR (b:BookV) (sv:SV) (ws:List RowM):BookV:={ b with n:=b.n+1,rows:=b.rows++[⟨sv,⟨none,0,0⟩,b.n+1,ws,[]⟩] }
def keepI (b:BookV) (sv:SV) (ws:List UInt32):BookV:={ b with n:=b.n+1,ids:=b.ids++[⟨sv,⟨none,0,0⟩,b.n+1,ws,[]⟩] }
structure BkOk (b:BookV) (i:Nat):Prop where
 n:b.n≤i
 ni:b.ids.length≤i
 nr:b.rows.length≤i
 ki:∀ h ∈ b.ids,Kp h
 kr:∀ h ∈ b.rows,Kp h
theorem BkOk.zero:BkOk ⟨0,[],[]⟩ 0:=⟨Nat.le_refl _,Nat.le_refl _,Nat.le_refl _,by simp,by simp⟩
theorem BkOk.mono {b:BookV} {i j:Nat} (h:BkOk b i) (hij:i≤j):BkOk b j:=⟨Nat.le_trans h.n hij,Nat.le_trans h.ni hij,Nat.le_trans h.nr hij,h.ki,h.kr⟩
theorem BkOk.row {b:BookV} {i:Nat} (h:BkOk b i) (hi:i+1≤1000) (sv:SV) (ws:List RowM) (hw:ws.length≤1000000000):BkOk (keepR b sv ws) (i+1):=
 ⟨by have:=h.n;show b.n+1≤_;omega,by have:=h.ni;show b.ids.length≤_;omega,by have:=h.nr;simp [keepR];omega,h.ki,fun x hx=>by
  rcases List.mem_append.1 hx with hx | hx
  ·exact h.kr x hx
  ·simp only [List.mem_singleton] at hx;subst hx;exact ⟨by have:=h.n;show b.n+1≤_;omega,hw⟩⟩
theorem BkOk.id {b:BookV} {i:Nat} (h:BkOk b i) (hi:i+1≤1000) (sv:SV) (ws:List UInt32) (hw:ws.length≤1000000000):BkOk (keepI b sv ws) (i+1):=
 ⟨by have:=h.n;show b.n+1≤_;omega,by have:=h.ni;simp [keepI];omega,by have:=h.nr;show b.rows.length≤_;omega,fun x hx=>by
  rcases List.mem_append.1 hx with hx | hx
  ·exact h.ki x hx
  ·simp only [List.mem_singleton] at hx;subst hx;exact ⟨by have:=h.n;show b.n+1≤_;omega,hw⟩,h.kr⟩
theorem keepId_spec {g:World} {p i:Nat} {b:BookV} {a:Option Addr} {m c:Nat} {ws:List UInt32} (hb:BkOk b i) (hi:i+1≤1000):Spec Tryz.prog g 69 [.pointer (some ⟨p,0,none⟩),.slice a m c] [Bk p b,Sl 48 1 u32C (.slice a m c) ws] fun K R=>K (.tuple #[]) (Bk p (keepI b ⟨a,m,c⟩ ws)::R):=by
 refine Spec.intro Tryz.func69 rfl Tryz.ntmps69 rfl fun R K hK=>?_
 refine WP.opn (Bk_op (p:=p) (b:=b)) fun x=>?_
 obtain ⟨iv,rv⟩:=x
 dsimp only
 refine WP.seq<|WP.reg<|WL.e e_move<|WL.e e_nil<|WL.e (e_fa f47_0)<|WL.e (e_load a3)<|WL.e (e_add (c:=((b.n+1:Nat):Int)) rfl rfl (by have:=hb.n;rw [w_i64 (by omega) (by omega)];omega))<|WL.e e_nil<|WL.e (e_fa f47_0) ?_
 refine WL.h' (h_store s3 ?_)
 refine WL.next<|WP.draws mixedOk 16<|RW.e 0 rfl e_move<|RW.e 1 rfl e_move<|RW.e 2 rfl e_nil<|RW.e 3 rfl (e_fa f47_2)<|RW.e 4 rfl (e_load a35)<|RW.e 5 rfl e_move<|RW.e 6 rfl e_move<|RW.e 7 rfl e_nil<|RW.e 8 rfl (e_fa f47_0)<|RW.e 9 rfl (e_load a3)<|RW.e 10 rfl (e_build z201 p201 (.o (.tmp 16) rfl<|.z (.slice none 0 0)<|.o (.tmp 20) rfl<|.n)) ?_
 refine RW.any (is:=[11]) rfl ⟨?_,trivial⟩
 refine RWat.h rfl rfl rfl ?_
 refine (h_bs sl35 z201 (.a3 (.tmp 21) rfl<|.n) fun b1=>?_)
 refine ⟨⟨⟨_,rfl,.inl ⟨rfl,(e_load a35)⟩⟩,⟨_,rfl,.inl ⟨rfl,(e_fa f47_2)⟩⟩,⟨_,rfl,.inl ⟨rfl,e_nil⟩⟩,⟨_,rfl,.inl ⟨rfl,e_move⟩⟩,⟨_,rfl,.inl ⟨rfl,e_move⟩⟩,trivial⟩,?_⟩
 refine RW.any (is:=[12]) rfl ⟨?_,trivial⟩
 refine RWat.h rfl rfl rfl ?_
 refine (hl_append (xs:=b.ids) sl35 hdE z201 (lit_rl hdE [(⟨⟨a,m,c⟩,⟨none,0,0⟩,b.n+1,ws,[]⟩:HeldV UInt32)] rfl) (by have:=hb.ni;simp;omega) fun a9 m9 c9=>?_)
 refine ⟨⟨⟨_,rfl,.inl ⟨rfl,e_move⟩⟩,trivial⟩,?_⟩
 refine RW.e 13 rfl e_nil<|RW.e 14 rfl (e_fa f47_2) ?_
 refine RW.any (is:=[15]) rfl ⟨?_,trivial⟩
 refine RWat.h' rfl rfl rfl ?_
 refine (h_store s35 ?_)
 refine ⟨trivial,?_⟩
 refine RW.done<|PO.cls (A:=Mb (Hd0 48 1 u32C) (b.ids++[(⟨⟨a,m,c⟩,⟨none,0,0⟩,b.n+1,ws,[]⟩:HeldV UInt32)])) (B:=[Sl 48 1 u32C (.slice a m c) ws,Mb (Hd0 48 1 u32C) (b.ids)]) (fun S h=>Mb_snoc (x:=(⟨⟨a,m,c⟩,⟨none,0,0⟩,b.n+1,ws,[]⟩:HeldV UInt32)) S h) ?_
 refine PO.cls (A:=Bk p (keepI b ⟨a,m,c⟩ ws)) (B:=[cl p 47 [.int .i64 (b.n+1),.slice none 0 0,.slice a9 m9 c9,.slice none 0 0,.slice none 0 0,rv.v,.slice none 0 0,.slice none 0 0,.slice none 0 0,.slice none 0 0,.slice none 0 0,.slice none 0 0,.slice none 0 0],Sl 201 3 hdC (.slice a9 m9 c9) (b.ids++[(⟨⟨a,m,c⟩,⟨none,0,0⟩,b.n+1,ws,[]⟩:HeldV UInt32)]),Mb (Hd0 48 1 u32C) (b.ids++[(⟨⟨a,m,c⟩,⟨none,0,0⟩,b.n+1,ws,[]⟩:HeldV UInt32)]),Sl 199 3 hdC (rv.v) (b.rows),Mb (Hd0 142 2 RowM.c) (b.rows)]) (fun S h=>⟨⟨⟨a9,m9,c9⟩,rv⟩,h⟩) ?_
 exact PO.fin Tryz.results69 rv_nil hK
theorem keepRow_spec {g:World} {p i:Nat} {b:BookV} {a:Option Addr} {m c:Nat} {ws:List RowM} (hb:BkOk b i) (hi:i+1≤1000):Spec Tryz.prog g 68 [.pointer (some ⟨p,0,none⟩),.slice a m c] [Bk p b,Sl 142 2 RowM.c (.slice a m c) ws] fun K R=>K (.tuple #[]) (Bk p (keepR b ⟨a,m,c⟩ ws)::R):=by
 refine Spec.intro Tryz.func68 rfl Tryz.ntmps68 rfl fun R K hK=>?_
 refine WP.opn (Bk_op (p:=p) (b:=b)) fun x=>?_
 obtain ⟨iv,rv⟩:=x
 dsimp only
 refine WP.seq<|WP.reg<|WL.e e_move<|WL.e e_nil<|WL.e (e_fa f47_0)<|WL.e (e_load a3)<|WL.e (e_add (c:=((b.n+1:Nat):Int)) rfl rfl (by have:=hb.n;rw [w_i64 (by omega) (by omega)];omega))<|WL.e e_nil<|WL.e (e_fa f47_0) ?_
 refine WL.h' (h_store s3 ?_)
 refine WL.next<|WP.draws mixedOk 16<|RW.e 0 rfl e_move<|RW.e 1 rfl e_move<|RW.e 2 rfl e_nil<|RW.e 3 rfl (e_fa f47_5)<|RW.e 4 rfl (e_load a38)<|RW.e 5 rfl e_move<|RW.e 6 rfl e_move<|RW.e 7 rfl e_nil<|RW.e 8 rfl (e_fa f47_0)<|RW.e 9 rfl (e_load a3)<|RW.e 10 rfl (e_build z199 p199 (.o (.tmp 16) rfl<|.z (.slice none 0 0)<|.o (.tmp 20) rfl<|.n)) ?_
 refine RW.any (is:=[11]) rfl ⟨?_,trivial⟩
 refine RWat.h rfl rfl rfl ?_
 refine (h_bs sl38 z199 (.a3 (.tmp 21) rfl<|.n) fun b1=>?_)
 refine ⟨⟨⟨_,rfl,.inl ⟨rfl,(e_load a38)⟩⟩,⟨_,rfl,.inl ⟨rfl,(e_fa f47_5)⟩⟩,⟨_,rfl,.inl ⟨rfl,e_nil⟩⟩,⟨_,rfl,.inl ⟨rfl,e_move⟩⟩,⟨_,rfl,.inl ⟨rfl,e_move⟩⟩,trivial⟩,?_⟩
 refine RW.any (is:=[12]) rfl ⟨?_,trivial⟩
 refine RWat.h rfl rfl rfl ?_
 refine (hl_append (xs:=b.rows) sl38 hdE z199 (lit_rl hdE [(⟨⟨a,m,c⟩,⟨none,0,0⟩,b.n+1,ws,[]⟩:HeldV RowM)] rfl) (by have:=hb.nr;simp;omega) fun a9 m9 c9=>?_)
 refine ⟨⟨⟨_,rfl,.inl ⟨rfl,e_move⟩⟩,trivial⟩,?_⟩
 refine RW.e 13 rfl e_nil<|RW.e 14 rfl (e_fa f47_5) ?_
 refine RW.any (is:=[15]) rfl ⟨?_,trivial⟩
 refine RWat.h' rfl rfl rfl ?_
 refine (h_store s38 ?_)
 refine ⟨trivial,?_⟩
 refine RW.done<|PO.cls (A:=Mb (Hd0 142 2 RowM.c) (b.rows++[(⟨⟨a,m,c⟩,⟨none,0,0⟩,b.n+1,ws,[]⟩:HeldV RowM)])) (B:=[Sl 142 2 RowM.c (.slice a m c) ws,Mb (Hd0 142 2 RowM.c) (b.rows)]) (fun S h=>Mb_snoc (x:=(⟨⟨a,m,c⟩,⟨none,0,0⟩,b.n+1,ws,[]⟩:HeldV RowM)) S h) ?_
 refine PO.cls (A:=Bk p (keepR b ⟨a,m,c⟩ ws)) (B:=[cl p 47 [.int .i64 (b.n+1),.slice none 0 0,iv.v,.slice none 0 0,.slice none 0 0,.slice a9 m9 c9,.slice none 0 0,.slice none 0 0,.slice none 0 0,.slice none 0 0,.slice none 0 0,.slice none 0 0,.slice none 0 0],Sl 201 3 hdC (iv.v) (b.ids),Mb (Hd0 48 1 u32C) (b.ids),Sl 199 3 hdC (.slice a9 m9 c9) (b.rows++[(⟨⟨a,m,c⟩,⟨none,0,0⟩,b.n+1,ws,[]⟩:HeldV RowM)]),Mb (Hd0 142 2 RowM.c) (b.rows++[(⟨⟨a,m,c⟩,⟨none,0,0⟩,b.n+1,ws,[]⟩:HeldV RowM)])]) (fun S h=>⟨⟨iv,⟨a9,m9,c9⟩⟩,h⟩) ?_
 exact PO.fin Tryz.results68 rv_nil hK
theorem bRows_spec {g:World} {p i:Nat} {b:BookV} {a:Option Addr} {m c:Nat} {ws:List RowM} (hb:BkOk b i) (hi:i+1≤1000):Spec Tryz.prog g 27 [.pointer (some ⟨p,0,none⟩),.slice a m c] [Bk p b,Sl 142 2 RowM.c (.slice a m c) ws] fun K R=>K (.tuple #[]) (Bk p (keepR b ⟨a,m,c⟩ ws)::R):=by
 refine Spec.intro Tryz.func27 rfl Tryz.ntmps27 rfl fun R K hK=>?_
 refine WP.reg<|WL.e e_move<|WL.e e_move ?_
 refine WL.h (h_call (keepRow_spec hb hi) k68 ?_)
 refine WL.nil ?_
 exact PO.fin Tryz.results27 rv_nil hK
theorem bIds_spec {g:World} {p i:Nat} {b:BookV} {a:Option Addr} {m c:Nat} {ws:List UInt32} (hb:BkOk b i) (hi:i+1≤1000):Spec Tryz.prog g 28 [.pointer (some ⟨p,0,none⟩),.slice a m c] [Bk p b,Sl 48 1 u32C (.slice a m c) ws] fun K R=>K (.tuple #[]) (Bk p (keepI b ⟨a,m,c⟩ ws)::R):=by
 refine Spec.intro Tryz.func28 rfl Tryz.ntmps28 rfl fun R K hK=>?_
 refine WP.reg<|WL.e e_move<|WL.e e_move ?_
 refine WL.h (h_call (keepId_spec hb hi) k69 ?_)
 refine WL.nil ?_
 exact PO.fin Tryz.results28 rv_nil hK
theorem bResult_spec {g:World} {p i:Nat} {b:BookV} {a:Option Addr} {m c:Nat} {ws:List RowM} (hb:BkOk b i) (hi:i+1≤1000):Spec Tryz.prog g 20 [.pointer (some ⟨p,0,none⟩),.agg #[.slice a m c]] [Bk p b,Sl 142 2 RowM.c (.slice a m c) ws] fun K R=>K (.tuple #[]) (Bk p (keepR b ⟨a,m,c⟩ ws)::R):=by
 refine Spec.intro Tryz.func20 rfl Tryz.ntmps20 rfl fun R K hK=>?_
 refine WP.seq<|WP.reg ?_
 refine WL.h (h_box fun b1=>?_)
 refine WL.next<|WP.reg<|WL.e e_move<|WL.e (e_fa f61_0)<|WL.e (e_load a59) ?_
 refine WL.h (h_call (bRows_spec hb hi) k27 ?_)
 refine WL.nil ?_
 exact PO.fin Tryz.results20 rv_nil hK
set_option maxHeartbeats 4000000 in
theorem bApart_spec {g:World} {p i:Nat} {b:BookV} {A:HP} (hT:Tab Tryz.prog A) (hb:BkOk b i) (hi:i≤1000):Spec Tryz.prog g 29 [.pointer (some ⟨p,0,none⟩)] [Bk p b,A] fun K R=>K (.bool true) (A::R):=by
 refine Spec.intro Tryz.func29 rfl Tryz.ntmps29 rfl fun R K hK=>?_
 refine WP.opn (Bk_op (p:=p) (b:=b)) fun x=>?_
 obtain ⟨iv,rv⟩:=x
 dsimp only
 refine WP.seq<|WP.reg<|WL.e e_assign<|WL.next<|WP.seq<|WP.reg<|WL.e e_move ?_
 refine WL.h (h_call (fillByte_spec) k70 ?_)
 refine WL.next<|WP.seq<|WP.reg<|WL.e e_move ?_
 refine WL.h (h_call (fillId_spec (hs:=b.ids) (by have:=hb.ni;omega) hb.ki) k71 ?_)
 rw [show Sl 201 3 hdC (iv.v) (b.ids)=Sl 201 3 hdC (iv.v) (b.ids.map (fillH mkId)) by unfold Sl;rw [hd_fill,List.length_map]]
 refine WL.next<|WP.seq<|WP.reg<|WL.e e_move ?_
 refine WL.h (h_call (fillInt_spec) k72 ?_)
 refine WL.next<|WP.seq<|WP.reg<|WL.e e_move ?_
 refine WL.h (h_call (fillText_spec) k73 ?_)
 refine WL.next<|WP.seq<|WP.reg<|WL.e e_move ?_
 refine WL.h (h_call (fillRow_spec (hs:=b.rows) hT (by have:=hb.nr;omega) hb.kr) k74 ?_)
 rw [show Sl 199 3 hdC (rv.v) (b.rows)=Sl 199 3 hdC (rv.v) (b.rows.map (fillH mkRow)) by unfold Sl;rw [hd_fill,List.length_map]]
 refine WL.next<|WP.seq<|WP.reg<|WL.e e_move ?_
 refine WL.h (h_call (fillOp_spec) k75 ?_)
 refine WL.next<|WP.seq<|WP.reg<|WL.e e_move ?_
 refine WL.h (h_call (fillSpan_spec) k76 ?_)
 refine WL.next<|WP.seq<|WP.reg<|WL.e e_move ?_
 refine WL.h (h_call (fillChange_spec) k77 ?_)
 refine WL.next<|WP.seq<|WP.reg<|WL.e e_move ?_
 refine WL.h (h_call (fillResult_spec) k78 ?_)
 refine WL.next<|WP.seq<|WP.reg<|WL.e e_move ?_
 refine WL.h (h_call (fillMsg_spec) k79 ?_)
 refine WL.next<|WP.seq<|WP.reg<|WL.e e_move ?_
 refine WL.h (h_call (fillPart_spec) k80 ?_)
 refine WL.next<|WP.seq<|WP.reg<|WL.e e_move ?_
 refine WL.h (h_call (fillDeed_spec) k81 ?_)
 refine WL.next<|WP.seq<|WP.reg<|WL.e e_move ?_
 refine WL.h (h_call (growByte_spec) k82 ?_)
 refine WL.next<|WP.seq<|WP.reg<|WL.e e_move ?_
 refine WL.h (h_call (growId_spec (hs:=b.ids.map (fillH mkId)) (by have:=hb.ni;simp;omega) (fil_fill hb.ki)) k83 ?_)
 intro ds1 hd1 hg1
 refine WL.next<|WP.seq<|WP.reg<|WL.e e_move ?_
 refine WL.h (h_call (growInt_spec) k84 ?_)
 refine WL.next<|WP.seq<|WP.reg<|WL.e e_move ?_
 refine WL.h (h_call (growText_spec) k85 ?_)
 refine WL.next<|WP.seq<|WP.reg<|WL.e e_move ?_
 refine WL.h (h_call (growRow_spec (hs:=b.rows.map (fillH mkRow)) hT (by have:=hb.nr;simp;omega) (fil_fill hb.kr)) k86 ?_)
 intro ds2 hd2 hg2
 refine WL.next<|WP.seq<|WP.reg<|WL.e e_move ?_
 refine WL.h (h_call (growOp_spec) k87 ?_)
 refine WL.next<|WP.seq<|WP.reg<|WL.e e_move ?_
 refine WL.h (h_call (growSpan_spec) k88 ?_)
 refine WL.next<|WP.seq<|WP.reg<|WL.e e_move ?_
 refine WL.h (h_call (growChange_spec) k89 ?_)
 refine WL.next<|WP.seq<|WP.reg<|WL.e e_move ?_
 refine WL.h (h_call (growResult_spec) k90 ?_)
 refine WL.next<|WP.seq<|WP.reg<|WL.e e_move ?_
 refine WL.h (h_call (growMsg_spec) k91 ?_)
 refine WL.next<|WP.seq<|WP.reg<|WL.e e_move ?_
 refine WL.h (h_call (growPart_spec) k92 ?_)
 refine WL.next<|WP.seq<|WP.reg<|WL.e e_move ?_
 refine WL.h (h_call (growDeed_spec) k93 ?_)
 refine WL.next<|WP.seq<|WP.reg<|WL.e e_move ?_
 refine WL.h (h_call (lookByte_spec) k94 ?_)
 refine WL.e e_move ?_
 refine WL.bool 53 rfl (fun eByte=>?_) (fun eByte=>?_)
 ·skip
  refine WL.e e_move ?_
  refine WL.h (h_call (lookId_spec (hs:=ds1) (by have:=hb.ni;rw [hd1];simp;omega) hg1) k95 ?_)
  refine WL.e e_pick_t<|WL.e e_move ?_
  refine WL.bool 57 rfl (fun eId=>?_) (fun eId=>?_)
  ·skip
   refine WL.e e_move ?_
   refine WL.h (h_call (lookInt_spec) k96 ?_)
   refine WL.e e_pick_t<|WL.e e_move ?_
   refine WL.bool 61 rfl (fun eInt=>?_) (fun eInt=>?_)
   ·skip
    refine WL.e e_move ?_
    refine WL.h (h_call (lookText_spec) k97 ?_)
    refine WL.e e_pick_t<|WL.e e_move ?_
    refine WL.bool 65 rfl (fun eText=>?_) (fun eText=>?_)
    ·skip
     refine WL.e e_move ?_
     refine WL.h (h_call (lookRow_spec (hs:=ds2) hT (by have:=hb.nr;rw [hd2];simp;omega) hg2) k98 ?_)
     refine WL.e e_pick_t<|WL.e e_move ?_
     refine WL.bool 69 rfl (fun eRow=>?_) (fun eRow=>?_)
     ·skip
      refine WL.e e_move ?_
      refine WL.h (h_call (lookOp_spec) k99 ?_)
      refine WL.e e_pick_t<|WL.e e_move ?_
      refine WL.bool 73 rfl (fun eOp=>?_) (fun eOp=>?_)
      ·skip
       refine WL.e e_move ?_
       refine WL.h (h_call (lookSpan_spec) k100 ?_)
       refine WL.e e_pick_t<|WL.e e_move ?_
       refine WL.bool 77 rfl (fun eSpan=>?_) (fun eSpan=>?_)
       ·skip
        refine WL.e e_move ?_
        refine WL.h (h_call (lookChange_spec) k101 ?_)
        refine WL.e e_pick_t<|WL.e e_move ?_
        refine WL.bool 81 rfl (fun eChange=>?_) (fun eChange=>?_)
        ·skip
         refine WL.e e_move ?_
         refine WL.h (h_call (lookResult_spec) k102 ?_)
         refine WL.e e_pick_t<|WL.e e_move ?_
         refine WL.bool 85 rfl (fun eResult=>?_) (fun eResult=>?_)
         ·skip
          refine WL.e e_move ?_
          refine WL.h (h_call (lookMsg_spec) k103 ?_)
          refine WL.e e_pick_t<|WL.e e_move ?_
          refine WL.bool 89 rfl (fun eMsg=>?_) (fun eMsg=>?_)
          ·skip
           refine WL.e e_move ?_
           refine WL.h (h_call (lookPart_spec) k104 ?_)
           refine WL.e e_pick_t<|WL.e e_move ?_
           refine WL.bool 93 rfl (fun ePart=>?_) (fun ePart=>?_)
           ·skip
            refine WL.e e_move ?_
            refine WL.h (h_call (lookDeed_spec) k105 ?_)
            refine WL.e e_pick_t<|WL.e e_assign<|WL.next<|WP.ret ?_
            exact PO.fin Tryz.results29 (rv_tmp rv_nil) hK
           ·cases ePart 
          ·cases eMsg 
         ·cases eResult 
        ·cases eChange 
       ·cases eSpan 
      ·cases eOp 
     ·cases eRow 
    ·cases eText 
   ·cases eInt 
  ·cases eId 
 ·cases eByte 
end Go.SL
