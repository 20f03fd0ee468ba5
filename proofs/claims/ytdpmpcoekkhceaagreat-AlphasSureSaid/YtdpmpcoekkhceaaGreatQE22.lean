/- UE SLv: rules and walks, several texts in one. -/
import Derived.Test.YtdpmpcoekkhceaaGreatQE21
import Derived.Test.YtdpmpcoekkhceaaGreatProg
import Derived.KernelRfl
import Derived.Deep.Slices
import Derived.ChangeSame
import Derived.SizedLaws
set_option linter.unusedSimpArgs false
set_option linter.unusedVariables false
namespace Go.SL.UE
open Go Go.Proofs Go.SL
theorem a124 : aggOf Tryz.prog 124 = some none := by kernel_rfl
theorem a146 : aggOf Tryz.prog 146 = some none := by kernel_rfl
theorem a150 : aggOf Tryz.prog 150 = some none := by kernel_rfl
theorem a22 : aggOf Tryz.prog 22 = some none := by kernel_rfl
theorem a36 : aggOf Tryz.prog 36 = some (some 4) := by kernel_rfl
theorem a5 : aggOf Tryz.prog 5 = some none := by kernel_rfl
theorem a77 : aggOf Tryz.prog 77 = some (some 8) := by kernel_rfl
theorem a82 : aggOf Tryz.prog 82 = some none := by kernel_rfl
theorem f127_3 : fldOf Tryz.prog 127 3 = some 3 := by kernel_rfl
theorem f152_0 : fldOf Tryz.prog 152 0 = some 0 := by kernel_rfl
theorem f152_1 : fldOf Tryz.prog 152 1 = some 1 := by kernel_rfl
theorem f152_2 : fldOf Tryz.prog 152 2 = some 2 := by kernel_rfl
theorem f77_0 : fldOf Tryz.prog 77 0 = some 0 := by kernel_rfl
theorem f77_1 : fldOf Tryz.prog 77 1 = some 1 := by kernel_rfl
theorem f77_2 : fldOf Tryz.prog 77 2 = some 2 := by kernel_rfl
theorem k128 : callable Tryz.prog 128 = true := by kernel_rfl
theorem k129 : callable Tryz.prog 129 = true := by kernel_rfl
theorem k130 : callable Tryz.prog 130 = true := by kernel_rfl
theorem k142 : callable Tryz.prog 142 = true := by kernel_rfl
theorem k161 : callable Tryz.prog 161 = true := by kernel_rfl
theorem k162 : callable Tryz.prog 162 = true := by kernel_rfl
theorem k178 : callable Tryz.prog 178 = true := by kernel_rfl
theorem k189 : callable Tryz.prog 189 = true := by kernel_rfl
theorem k22 : callable Tryz.prog 22 = true := by kernel_rfl
theorem k23 : callable Tryz.prog 23 = true := by kernel_rfl
theorem k24 : callable Tryz.prog 24 = true := by kernel_rfl
theorem k26 : callable Tryz.prog 26 = true := by kernel_rfl
theorem k28 : callable Tryz.prog 28 = true := by kernel_rfl
theorem k29 : callable Tryz.prog 29 = true := by kernel_rfl
theorem k34 : callable Tryz.prog 34 = true := by kernel_rfl
theorem k36 : callable Tryz.prog 36 = true := by kernel_rfl
theorem k37 : callable Tryz.prog 37 = true := by kernel_rfl
theorem k39 : callable Tryz.prog 39 = true := by kernel_rfl
theorem k40 : callable Tryz.prog 40 = true := by kernel_rfl
theorem k41 : callable Tryz.prog 41 = true := by kernel_rfl
theorem k61 : callable Tryz.prog 61 = true := by kernel_rfl
theorem k75 : callable Tryz.prog 75 = true := by kernel_rfl
theorem k76 : callable Tryz.prog 76 = true := by kernel_rfl
theorem k77 : callable Tryz.prog 77 = true := by kernel_rfl
theorem k78 : callable Tryz.prog 78 = true := by kernel_rfl
theorem k79 : callable Tryz.prog 79 = true := by kernel_rfl
theorem p152 : placesOf Tryz.prog 152 = some [(0, 1), (1, 1), (2, 1)] := by kernel_rfl
theorem pt48 : isPtr Tryz.prog 48 = true := by kernel_rfl
theorem s146 : szOf Tryz.prog 146 = some 1 := by kernel_rfl
theorem s77 : szOf Tryz.prog 77 = some 8 := by kernel_rfl
theorem sl146 : slOf Tryz.prog 146 = some (149, 64, 64) := by kernel_rfl
theorem sl150 : slOf Tryz.prog 150 = some (154, 65, 72) := by kernel_rfl
theorem sl73 : slOf Tryz.prog 73 = some (77, 8, 72) := by kernel_rfl
theorem sl82 : slOf Tryz.prog 82 = some (22, 1, 4) := by kernel_rfl
theorem z149 : zeroOf Tryz.prog 149 = some (List.replicate 64 (.int .u8 0)) := by kernel_rfl
theorem z152 : zeroOf Tryz.prog 152 = some [.slice none 0 0, .slice none 0 0, .slice none 0 0] := by kernel_rfl
theorem z77 : zeroOf Tryz.prog 77 = some [.int .u8 0, .int .u32 0, .int .u8 0, .string .empty, .string .empty, .int .u32 0, .int .u64 0, .int .i64 0] := by kernel_rfl
end Go.SL.UE
namespace Go.SL
open Go Go.Proofs UE
theorem CloneP_spec {g : World} {A : HP} {u : Value} {xs : List (List UInt8)} (hA : RL A 64 pieceC u xs) (hb : xs.length ≤ 68719476736) : Spec Tryz.prog g 79 [u] [A] fun K R => ∀ a m c, K (.slice a m c) (Sl 149 64 pieceC (.slice a m c) xs :: A :: R) := by
  refine Spec.intro Tryz.func79 rfl Tryz.ntmps79 rfl fun R K hK => ?_
  refine WP.seq ?_
  refine WP.reg ?_
  refine WL.e e_assign ?_
  refine WL.next ?_
  refine WP.seq ?_
  refine WP.seq ?_
  refine WP.reg ?_
  refine WL.e e_move ?_
  refine WL.e (e_slnil sl146 hA) ?_
  refine WL.next ?_
  refine WP.cond rfl (fun h => ?_) (fun h => ?_)
  · refine WP.know (φ := xs = []) (Pick.know (A := A) (by exact .z) fun S hS => ?_) fun hx => ?_
    · rcases hA S hS with ⟨h0, _⟩ | ⟨b, o, c, l, t, e, _⟩
      · simpa using h0
      · rw [e] at h; cases h
    subst hx
    refine WP.nils 149 64 pieceC none ?_
    refine WP.seq ?_
    refine WP.reg ?_
    refine WL.e e_assign ?_
    refine WL.next ?_
    refine WP.ret ?_
    refine PO.past nofun ?_
    exact PO.fin Tryz.results79 (rv_tmp rv_nil) (hK none 0 0)
  · skip
    refine WP.skip ?_
    refine PO.next ?_
    refine WP.seq ?_
    refine WP.reg ?_
    refine WL.h (h_bs0 sl146 (enc := pieceC) fun a1 n1 c1 => ?_)
    refine WL.e e_move ?_
    refine WL.h (hl_append (xs := []) (ys := xs) sl146 pieceE z149 hA (by simp; omega) fun a2 n2 c2 => ?_)
    rw [List.nil_append]
    refine WL.e e_assign ?_
    refine WL.next ?_
    refine WP.ret ?_
    exact PO.fin Tryz.results79 (rv_tmp rv_nil) (hK a2 n2 c2)
theorem Fail_spec {g : World} {p : Nat} {d : DiskM} (keep torn : Int) (ht : -1 ≤ torn) (hd : d.ok) (hw : d.waits = []) : Spec Tryz.prog g 40 [.pointer (some ⟨p, 0, none⟩), .int .u64 keep, .int .i64 torn] [Dk p d] fun K R => ∀ q, K (.tuple #[.pointer (some ⟨q, 0, none⟩), .int .i64 0]) (Dk q ⟨d.sure, d.sure, []⟩ :: Dk p d :: R) := by
  refine Spec.intro Tryz.func40 rfl Tryz.ntmps40 rfl fun R K hK => ?_
  refine WP.seq ?_
  refine WP.reg ?_
  refine WL.e e_assign <| WL.e e_assign ?_
  refine WL.next ?_
  refine WP.seq ?_
  refine WP.block ?_
  refine WP.seq ?_
  refine WP.reg ?_
  refine WL.e e_move ?_
  refine WL.h (h_call (Size_spec) k78 ?_)
  refine WL.e e_eql <| WL.e e_assign ?_
  refine WL.next ?_
  refine WP.cond rfl (fun h => ?_) (fun h => ?_)
  · (rw [beq_iff_eq] at h; have := hd.pos; omega)
  · skip
    refine WP.seq ?_
    refine WP.reg ?_
    refine WL.e e_move <| WL.e e_lss <| WL.e e_assign ?_
    refine WL.next ?_
    refine WP.cond rfl (fun h2 => ?_) (fun h2 => ?_)
    · (rw [decide_eq_true_eq] at h2; omega)
    · refine WP.opn (Dk_op (p := p) (d := d)) fun x => ?_
      obtain ⟨s1, s2, s3⟩ := x
      dsimp only
      refine WP.skip ?_
      refine PO.blockN ?_
      refine PO.next ?_
      refine WP.seq ?_
      refine WP.reg ?_
      refine WL.e e_move <| WL.e e_nil <| WL.e (e_fa f152_0) <| WL.e (e_load a146) ?_
      refine WL.h (h_call (CloneP_spec (u := s1.v) (sl_rl (E := 149) (xs := d.sure)) (by have := hd.le; omega)) k79 ?_)
      intro a1 n1 c1
      refine WL.e (e_build z152 p152 (.o (.tmp 23) rfl <| .z (.slice none 0 0) <| .z (.slice none 0 0) <| .n)) ?_
      refine WL.h (h_box fun b1 => ?_)
      refine WL.e e_assign ?_
      refine WL.next ?_
      refine WP.seq ?_
      refine WP.seq ?_
      refine WP.reg ?_
      refine WL.e e_move <| WL.e e_nil <| WL.e (e_fa f152_2) <| WL.e (e_load a150) ?_
      refine WL.e (el_len (xs := d.waits) sl150 sl_rl) <| WL.e e_move ?_
      refine WL.next ?_
      refine WP.block ?_
      refine WP.loopK (fun (_ : Unit) => [(31, .int .i64 0)]) (fun (_ : Unit) => cl p 152 [s1.v, s2.v, s3.v] :: Sl 149 64 pieceC s1.v d.sure :: Sl 149 64 pieceC s2.v d.seen :: Sl 154 65 waitC s3.v d.waits :: cl b1 152 [.slice a1 n1 c1, .slice none 0 0, .slice none 0 0] :: Sl 149 64 pieceC (.slice a1 n1 c1) d.sure :: R) [(1, _), (2, _), (6, _), (7, _), (8, _), (29, _), (30, _)] (fun (_ : Unit) => True) (fun (_ : Unit) => 0) () (trivial) ?_
      intro _ _
      refine WP.seq ?_
      refine WP.reg ?_
      refine WL.e e_lss ?_
      refine WL.next ?_
      refine WP.seq ?_
      refine WP.cond rfl (fun h1 => ?_) (fun h1 => ?_)
      · (rw [hw] at h1; simp at h1)
      · skip
        refine WP.exit ?_
        refine PO.past nofun ?_
        refine PO.round nofun ?_
        refine PO.blockX ?_
        refine PO.next ?_
        refine WP.seq ?_
        refine WP.reg ?_
        refine WL.e e_move <| WL.e e_move <| WL.e e_nil <| WL.e (e_fa f152_0) <| WL.e (e_load a146) ?_
        refine WL.h (h_call (CloneP_spec (u := .slice a1 n1 c1) (sl_rl (E := 149) (xs := d.sure)) (by have := hd.le; omega)) k79 ?_)
        intro a2 n2 c2
        refine WL.e e_nil <| WL.e (e_fa f152_1) ?_
        refine WL.h' (h_store s146 ?_)
        refine WL.next ?_
        refine WP.seq ?_
        refine WP.reg ?_
        refine WL.e e_move <| WL.e e_assign <| WL.e e_assign ?_
        refine WL.next ?_
        refine WP.ret ?_
        refine PO.nils 154 65 waitC none ?_
        refine PO.cls (A := Dk b1 ⟨d.sure, d.sure, []⟩) (B := [cl b1 152 [.slice a1 n1 c1, .slice a2 n2 c2, .slice none 0 0], Sl 149 64 pieceC (.slice a1 n1 c1) d.sure, Sl 149 64 pieceC (.slice a2 n2 c2) d.sure, Sl 154 65 waitC (.slice none 0 0) []]) (fun S h => ⟨(⟨a1, n1, c1⟩, ⟨a2, n2, c2⟩, ⟨none, 0, 0⟩), h⟩) ?_
        refine PO.cls (A := Dk p d) (B := [cl p 152 [s1.v, s2.v, s3.v], Sl 149 64 pieceC s1.v d.sure, Sl 149 64 pieceC s2.v d.seen, Sl 154 65 waitC s3.v d.waits]) (fun S h => ⟨(s1, s2, s3), h⟩) ?_
        exact PO.fin Tryz.results40 (rv_tmp (rv_tmp rv_nil)) (hK b1)
theorem Keys_spec {g : World} {mb : Nat} : Spec Tryz.prog g 77 [.map (some mb)] [] fun K R => ∀ b, K (.func (.func 130) #[] #[.pointer (some ⟨b, 0, none⟩)]) (cl b 124 [.map (some mb)] :: R) := by
  refine Spec.intro Tryz.func77 rfl Tryz.ntmps77 rfl fun R K hK => ?_
  refine WP.seq ?_
  refine WP.reg ?_
  refine WL.h (h_box fun b1 => ?_)
  refine WL.e e_assign ?_
  refine WL.next ?_
  refine WP.seq ?_
  refine WP.reg ?_
  refine WL.e e_makeFunc <| WL.e e_assign ?_
  refine WL.next ?_
  refine WP.ret ?_
  exact PO.fin Tryz.results77 (rv_tmp rv_nil) (hK b1)
theorem keys_iter {g : World} {b mb : Nat} : Iter Tryz.prog g 130 (fun y => [] ++ [y] ++ [.pointer (some ⟨b, 0, none⟩)]) [cl b 124 [.map (some mb)], Mp eU32 (.map (some mb)) ([] : List (UInt32 × Value))] u32C (fun _ => pu True) (fun xs => xs = []) (fun pre => pre = []) [cl b 124 [.map (some mb)], Mp eU32 (.map (some mb)) ([] : List (UInt32 × Value))] := by
  intro y J X cont hy
  refine Spec.intro Tryz.func130 rfl Tryz.ntmps130 rfl fun R K hK => ?_
  refine WP.seq ?_
  refine WP.reg ?_
  refine WL.e (e_load a124) ?_
  refine WL.h (h_range (kvs := ([] : List (UInt32 × Value))) Tryz.underlying124 fun it => ?_)
  refine WL.next ?_
  refine WP.block ?_
  refine WP.loopK (fun (_ : Unit) => []) (fun (_ : Unit) => J [] :: MpIt eU32 (.map (some mb)) it ([] : List (UInt32 × Value)) [] none :: cl b 124 [.map (some mb)] :: R) [(0, _), (5, _)] (fun (_ : Unit) => True) (fun (_ : Unit) => 0) () (trivial) ?_
  intro _ _
  refine WP.seq ?_
  refine WP.reg ?_
  refine WL.h (h_next (fun h0 => ?_) (fun a y0 b0 hx => ?_))
  · skip
    refine WL.e e_extract ?_
    refine WL.next ?_
    refine WP.seq ?_
    refine WP.cond_f rfl ?_
    refine WP.exit ?_
    refine PO.past nofun ?_
    refine PO.round nofun ?_
    refine PO.blockX ?_
    exact PO.fin Tryz.results130 rv_nil (hK.1 [] rfl Hist.nil)
  · exact absurd hx (by simp)
theorem AppSeq_spec {g : World} {b mb : Nat} : Spec Tryz.prog g 161 [.slice none 0 0, .func (.func 130) #[] #[.pointer (some ⟨b, 0, none⟩)]] [cl b 124 [.map (some mb)], Mp eU32 (.map (some mb)) ([] : List (UInt32 × Value))] fun K R => K (.slice none 0 0) (cl b 124 [.map (some mb)] :: Mp eU32 (.map (some mb)) ([] : List (UInt32 × Value)) :: R) := by
  refine Spec.intro Tryz.func161 rfl Tryz.ntmps161 rfl fun R K hK => ?_
  refine WP.seq ?_
  refine WP.reg ?_
  refine WL.h (h_box fun b1 => ?_)
  refine WL.e e_assign ?_
  refine WL.next ?_
  refine WP.seq ?_
  refine WP.seq ?_
  refine WP.reg ?_
  refine WL.e e_move ?_
  refine WL.next ?_
  refine WP.block ?_
  refine WP.range (R := ?RR) (f := 130) (fs := []) (cs := [.pointer (some ⟨b, 0, none⟩)]) (fun _ => cl b1 82 [.slice none 0 0]) (fun _ _ _ => pu True) (fun _ _ => True) (keys_iter (b := b) (mb := mb)) k130 ?hLL ?_ ?_ ?_ (fun _ => rfl)
  case hLL => repeat first | exact .nil | exact Pick.z | apply Pick.s | apply Split.cons
  · rintro lb db fn tmps pre x R2 hp hh
    exact absurd hp (by simp) -- end
  · intro db xs hx hh
    refine PO.blockN ?_
    refine PO.next ?_
    refine WP.seq ?_
    refine WP.reg ?_
    refine WL.e (e_load a82) <| WL.e e_assign ?_
    refine WL.next ?_
    refine WP.ret ?_
    exact PO.finM (by repeat first | exact .z | apply Put.s) Tryz.results161 (rv_tmp rv_nil) hK
  · exact fun _ _ _ _ _ _ hc => absurd trivial hc
theorem Collect_spec {g : World} {b mb : Nat} : Spec Tryz.prog g 128 [.func (.func 130) #[] #[.pointer (some ⟨b, 0, none⟩)]] [cl b 124 [.map (some mb)], Mp eU32 (.map (some mb)) ([] : List (UInt32 × Value))] fun K R => K (.slice none 0 0) (cl b 124 [.map (some mb)] :: Mp eU32 (.map (some mb)) ([] : List (UInt32 × Value)) :: R) := by
  refine Spec.intro Tryz.func128 rfl Tryz.ntmps128 rfl fun R K hK => ?_
  refine WP.seq ?_
  refine WP.reg ?_
  refine WL.e e_assign ?_
  refine WL.next ?_
  refine WP.seq ?_
  refine WP.reg ?_
  refine WL.e e_move ?_
  refine WL.h (h_call (AppSeq_spec) k161 ?_)
  refine WL.e e_assign ?_
  refine WL.next ?_
  refine WP.ret ?_
  exact PO.fin Tryz.results128 (rv_tmp rv_nil) hK
theorem Len64_spec {g : World} : Spec Tryz.prog g 178 [.int .u64 0] [] fun K R => K (.int .i64 0) R := by
  refine Spec.intro Tryz.func178 rfl Tryz.ntmps178 rfl fun R K hK => ?_
  refine WP.seq ?_
  refine WP.reg ?_
  refine WL.e e_assign ?_
  refine WL.next ?_
  refine WP.seq ?_
  refine WP.seq ?_
  refine WP.reg ?_
  refine WL.e e_move <| WL.e e_geq ?_
  refine WL.next ?_
  refine WP.cond_f rfl ?_
  refine WP.skip ?_
  refine PO.next ?_
  refine WP.seq ?_
  refine WP.seq ?_
  refine WP.reg ?_
  refine WL.e e_move <| WL.e e_geq ?_
  refine WL.next ?_
  refine WP.cond_f rfl ?_
  refine WP.skip ?_
  refine PO.next ?_
  refine WP.seq ?_
  refine WP.seq ?_
  refine WP.reg ?_
  refine WL.e e_move <| WL.e e_geq ?_
  refine WL.next ?_
  refine WP.cond_f rfl ?_
  refine WP.skip ?_
  refine PO.next ?_
  refine WP.seq ?_
  refine WP.reg ?_
  refine WL.e e_move <| WL.e e_move <| WL.e (e_conv (by rw [Tryz.underlying56]; rfl) Tryz.underlying5 rfl rfl) ?_
  refine WL.e (e_idxS (n := 0) (b := 0) Tryz.underlying9 (hb := by kernel_rfl)) <| WL.e (e_conv (c := 0) (by rw [Tryz.underlying5]; rfl) Tryz.underlying3 rfl rfl) <| WL.e (e_add rfl rfl (w_i64 (by omega) (by omega))) <| WL.e e_assign ?_
  refine WL.next ?_
  refine WP.ret ?_
  exact PO.finE Tryz.results178 (rv_tmp rv_nil) rfl hK
theorem Len_spec {g : World} : Spec Tryz.prog g 142 [.int .u64 0] [] fun K R => K (.int .i64 0) R := by
  refine Spec.intro Tryz.func142 rfl Tryz.ntmps142 rfl fun R K hK => ?_
  refine WP.seq ?_
  refine WP.reg ?_
  refine WL.e e_assign ?_
  refine WL.next ?_
  refine WP.seq ?_
  refine WP.cond_f rfl ?_
  refine WP.skip ?_
  refine PO.next ?_
  refine WP.seq ?_
  refine WP.reg ?_
  refine WL.e e_move ?_
  refine WL.h (h_call (Len64_spec) k178 ?_)
  refine WL.e e_assign ?_
  refine WL.next ?_
  refine WP.ret ?_
  exact PO.fin Tryz.results142 (rv_tmp rv_nil) hK
theorem Ins_spec {g : World} : Spec Tryz.prog g 189 [.slice none 0 0, .int .i64 0, .int .i64 0] [] fun K R => K (.tuple #[]) R := by
  refine Spec.intro Tryz.func189 rfl Tryz.ntmps189 rfl fun R K hK => ?_
  refine WP.seq ?_
  refine WP.reg ?_
  refine WL.e e_move <| WL.e (e_add rfl rfl (w_i64 (by omega) (by omega))) <| WL.e e_assign ?_
  refine WL.next ?_
  refine WP.block ?_
  refine WP.loopK (fun (_ : Unit) => [(6, .int .i64 1)]) (fun (_ : Unit) => R) [(0, _), (1, _), (2, _)] (fun (_ : Unit) => True) (fun (_ : Unit) => 0) () (trivial) ?_
  intro _ _
  refine WP.seq ?_
  refine WP.seq ?_
  refine WP.reg ?_
  refine WL.e e_move <| WL.e e_move <| WL.e e_lss ?_
  refine WL.next ?_
  refine WP.cond_f rfl ?_
  refine WP.exit ?_
  refine PO.past nofun ?_
  refine PO.round nofun ?_
  refine PO.blockX ?_
  exact PO.fin Tryz.results189 rv_nil hK
theorem Pdq_spec {g : World} : Spec Tryz.prog g 162 [.slice none 0 0, .int .i64 0, .int .i64 0, .int .i64 0] [] fun K R => K (.tuple #[]) R := by
  refine Spec.intro Tryz.func162 rfl Tryz.ntmps162 rfl fun R K hK => ?_
  refine WP.seq ?_
  refine WP.reg ?_
  refine WL.e e_assign ?_
  refine WL.next ?_
  refine WP.seq ?_
  refine WP.reg ?_
  refine WL.e e_assign ?_
  refine WL.next ?_
  refine WP.block ?_
  refine WP.loopK (fun (_ : Unit) => [(1, .int .i64 0), (2, .int .i64 0)]) (fun (_ : Unit) => R) [(0, _)] (fun (_ : Unit) => True) (fun (_ : Unit) => 0) () (trivial) ?_
  intro _ _
  refine WP.block ?_
  refine WP.seq ?_
  refine WP.reg ?_
  refine WL.e e_move <| WL.e e_move <| WL.e (e_sub rfl rfl (w_i64 (by omega) (by omega))) <| WL.e e_assign ?_
  refine WL.next ?_
  refine WP.seq ?_
  refine WP.seq ?_
  refine WP.reg ?_
  refine WL.e e_move <| WL.e e_leq ?_
  refine WL.next ?_
  refine WP.cond_t rfl ?_
  refine WP.seq ?_
  refine WP.reg ?_
  refine WL.e e_move <| WL.e e_move <| WL.e e_move ?_
  refine WL.h (h_call (Ins_spec) k189 ?_)
  refine WL.next ?_
  refine WP.ret ?_
  refine PO.past nofun ?_
  refine PO.blockR ?_
  refine PO.round nofun ?_
  refine PO.blockR ?_
  exact PO.fin Tryz.results162 rv_nil hK
theorem Sort_spec {g : World} : Spec Tryz.prog g 129 [.slice none 0 0] [] fun K R => K (.tuple #[]) R := by
  refine Spec.intro Tryz.func129 rfl Tryz.ntmps129 rfl fun R K hK => ?_
  refine WP.conv (M := pu True :: _) (fun S h => pu_stars trivial h) ?_
  refine WP.seq ?_
  refine WP.reg ?_
  refine WL.e e_move ?_
  refine WL.e (el_len (xs := ([] : List UInt32)) (enc := u32C) sl82 (A := pu True) (nil_rl (z := 1))) <| WL.e e_assign ?_
  refine WL.next ?_
  refine WP.reg ?_
  refine WL.e e_move <| WL.e e_move <| WL.e e_move <| WL.e (e_conv (by rw [Tryz.underlying3]; rfl) Tryz.underlying238 rfl rfl) ?_
  refine WL.h (h_call (Len_spec) k142 ?_)
  refine WL.h (h_call (Pdq_spec) k162 ?_)
  refine WL.nil ?_
  exact PO.fin Tryz.results129 rv_nil hK
theorem Sorted_spec {g : World} {b mb : Nat} : Spec Tryz.prog g 76 [.func (.func 130) #[] #[.pointer (some ⟨b, 0, none⟩)]] [cl b 124 [.map (some mb)], Mp eU32 (.map (some mb)) ([] : List (UInt32 × Value))] fun K R => K (.slice none 0 0) (cl b 124 [.map (some mb)] :: Mp eU32 (.map (some mb)) ([] : List (UInt32 × Value)) :: R) := by
  refine Spec.intro Tryz.func76 rfl Tryz.ntmps76 rfl fun R K hK => ?_
  refine WP.seq ?_
  refine WP.reg ?_
  refine WL.e e_assign ?_
  refine WL.next ?_
  refine WP.seq ?_
  refine WP.reg ?_
  refine WL.e e_move ?_
  refine WL.h (h_call (Collect_spec) k128 ?_)
  refine WL.e e_assign ?_
  refine WL.next ?_
  refine WP.seq ?_
  refine WP.reg ?_
  refine WL.e e_move ?_
  refine WL.h (h_call (Sort_spec) k129 ?_)
  refine WL.next ?_
  refine WP.seq ?_
  refine WP.reg ?_
  refine WL.e e_move <| WL.e e_assign ?_
  refine WL.next ?_
  refine WP.ret ?_
  exact PO.fin Tryz.results76 (rv_tmp rv_nil) hK
theorem Clip_spec {g : World} : Spec Tryz.prog g 75 [.slice none 0 0] [] fun K R => ∀ c, K (.slice none 0 c) R := by
  refine Spec.intro Tryz.func75 rfl Tryz.ntmps75 rfl fun R K hK => ?_
  refine WP.conv (M := pu True :: _) (fun S h => pu_stars trivial h) ?_
  refine WP.seq ?_
  refine WP.reg ?_
  refine WL.e e_assign ?_
  refine WL.next ?_
  refine WP.seq ?_
  refine WP.reg ?_
  refine WL.e e_move <| WL.e e_move ?_
  refine WL.e (el_len (xs := ([] : List UInt32)) (enc := u32C) sl82 (A := pu True) (nil_rl (z := 1))) <| WL.e e_move ?_
  refine WL.e (el_len (xs := ([] : List UInt32)) (enc := u32C) sl82 (A := pu True) (nil_rl (z := 1))) ?_
  refine WL.e (el_to3 (hi := 0) (xs := ([] : List UInt32)) (enc := u32C) sl82 (A := pu True) (nil_rl (z := 1)) (by simp)) <| WL.e e_assign ?_
  refine WL.next ?_
  refine WP.ret ?_
  exact PO.finE Tryz.results75 (rv_tmp rv_nil) rfl (hK 0)
theorem AOpen0_spec {g : World} {p dp : Nat} {s : StV} (hs : s.txs = []) : Spec Tryz.prog g 39 [.pointer (some ⟨p, 0, none⟩)] [As p dp s] fun K R => ∀ c, K (.slice none 0 c) (As p dp s :: R) := by
  refine Spec.intro Tryz.func39 rfl Tryz.ntmps39 rfl fun R K hK => ?_
  refine WP.seq ?_
  refine WP.reg ?_
  refine WL.e e_assign ?_
  refine WL.next ?_
  refine WP.seq ?_
  refine WP.seq ?_
  refine WP.reg ?_
  refine WL.e e_move ?_
  refine WL.h (h_call (Athere_spec) k61 ?_)
  refine WL.e e_not ?_
  refine WL.next ?_
  refine WP.cond_f rfl ?_
  refine WP.opn (As_op (p := p) (dp := dp) (s := s)) fun x => ?_
  obtain ⟨lp, mp, kp, mb⟩ := x
  dsimp only
  rw [hs, List.map_nil]
  refine WP.skip ?_
  refine PO.next ?_
  refine WP.seq ?_
  refine WP.reg ?_
  refine WL.e e_move <| WL.e e_nil <| WL.e (e_fa f127_3) <| WL.e (e_load a124) ?_
  refine WL.h (h_call (Keys_spec (mb := mb)) k77 ?_)
  intro b
  refine WL.h (h_call (Sorted_spec (b := b) (mb := mb)) k76 ?_)
  refine WL.h (h_call (Clip_spec) k75 ?_)
  intro c
  refine WL.e e_assign ?_
  refine WL.next ?_
  refine WP.ret ?_
  refine PO.conv (conv1 (A := Mp eU32 (.map (some mb)) ([] : List (UInt32 × Value))) (B := Mp eU32 (.map (some mb)) (List.map kvU s.txs)) (fun S h => by rw [hs]; exact h) (by repeat first | exact .z | apply Put.s)) ?_
  refine PO.cls (A := As p dp (s)) (B := [cl p 127 [.pointer (some ⟨lp, 0, none⟩), .pointer (some ⟨mp, 0, none⟩), .int .u32 (UInt32.ofNat s.H.length).toNat, .map (some mb), .pointer (some ⟨kp, 0, none⟩)], cl lp 193 [.pointer (some ⟨dp, 0, none⟩), .int .i64 s.at_], Dk dp s.d, Mm mp s.rows, Mp eU32 (.map (some mb)) (List.map kvU s.txs), Lk kp s.locks]) (fun S h => ⟨(lp, mp, kp, mb), h⟩) ?_
  exact PO.fin Tryz.results39 (rv_tmp rv_nil) (hK c)
set_option maxHeartbeats 4000000 in
theorem Sure_spec {g : World} {A : HP} {u : Value} {xs : List ActM} (keep torn : Int) (hA : RL A 8 ActM.c u xs) : Spec Tryz.prog g 11 [u, .int .u64 keep, .int .i64 torn] [A] fun K R => K (.bool true) (A :: R) := by
  refine Spec.intro Tryz.func11 rfl Tryz.ntmps11 rfl fun R K hK => ?_
  refine WP.seq ?_
  refine WP.reg ?_
  refine WL.e e_assign ?_
  refine WL.next ?_
  refine WP.seq ?_
  refine WP.seq ?_
  refine WP.reg ?_
  refine WL.e e_move ?_
  refine WL.h (h_call (great_spec hA) k36 ?_)
  refine WL.next ?_
  refine WP.cond rfl (fun h0 => ?_) (fun h0 => ?_)
  · skip
    refine WP.seq ?_
    refine WP.reg ?_
    refine WL.h (h_call (lives_spec) k29 ?_)
    refine WL.e e_assign ?_
    refine WL.next ?_
    refine WP.ret ?_
    refine PO.past nofun ?_
    exact PO.finE Tryz.results11 (rv_tmp rv_nil) rfl hK
  · replace h0 : xs.length ≤ 150 := by simp at h0; omega
    refine WP.skip ?_
    refine PO.next ?_
    refine WP.seq ?_
    refine WP.reg ?_
    refine WL.h (h_call (opened_spec) k22 ?_)
    intro dp p
    refine WL.e e_move <| WL.e e_extract <| WL.e e_extract <| WL.e e_assign <| WL.e e_assign ?_
    refine WL.next ?_
    refine WP.seq ?_
    refine WP.seq ?_
    refine WP.reg ?_
    refine WL.e e_move <| WL.e (e_peq pt48) ?_
    refine WL.next ?_
    refine WP.cond_f rfl ?_
    refine WP.skip ?_
    refine PO.next ?_
    refine WP.seq ?_
    refine WP.seq ?_
    refine WP.reg ?_
    refine WL.e e_assign ?_
    refine WL.next ?_
    refine WP.block ?_
    refine WP.loopK (fun (x : Nat × StV) => [(9, .int .i64 x.1)]) (fun (x : Nat × StV) => As p dp x.2 :: TxsU TPA x.2.txs :: A :: R) [(0, _), (1, _), (2, _), (6, _), (7, _), (8, _)] (fun (x : Nat × StV) => x.1 ≤ xs.length ∧ AlphaOk x.2 x.1) (fun (x : Nat × StV) => xs.length - x.1) (0, stF) (⟨Nat.zero_le _, alp_first⟩) ?_
    rintro ⟨i, s⟩ ⟨hi, hI⟩
    simp only at hi hI
    dsimp only
    refine WP.seq ?_
    refine WP.seq ?_
    refine WP.reg ?_
    refine WL.e e_move <| WL.e e_move ?_
    refine WL.e (el_len (xs := xs) sl73 hA) <| WL.e e_lss ?_
    refine WL.next ?_
    refine WP.cond rfl (fun h1 => ?_) (fun h1 => ?_)
    · have hlt : i < xs.length := by rw [decide_eq_true_eq] at h1; omega
      obtain ⟨x, hx⟩ : ∃ x, xs[i]? = some x := ⟨_, List.getElem?_eq_getElem hlt⟩
      refine WP.skip ?_
      refine PO.next ?_
      refine WP.seq ?_
      refine WP.block ?_
      refine WP.seq ?_
      refine WP.reg ?_
      refine WL.e e_move <| WL.e e_move ?_
      refine WL.e (el_ia (j := i) (xs := xs) sl73 hA hlt) ?_
      refine WL.e (el_loadN (a := x) a77 actE hA hx) ?_
      refine WL.h (h_alloc z77 fun b1 => ?_)
      refine WL.h' (h_store s77 ?_)
      refine WL.next ?_
      refine WP.seq ?_
      refine WP.reg ?_
      refine WL.e (e_fa f77_0) <| WL.e (e_load a5) <| WL.e (e_rem (c := ((x.kind.toNat % 12 : Nat) : Int)) rfl rfl (by decide) (by rw [Int.tmod_eq_emod_of_nonneg (by omega)]; omega)) ?_
      refine WL.next ?_
      refine WP.block ?_
      refine WP.seq ?_
      refine WP.reg ?_
      refine WL.e e_eql <| WL.e e_assign ?_
      refine WL.next ?_
      refine WP.cond rfl (fun c0 => ?_) (fun c0 => ?_)
      · skip
        refine WP.reg ?_
        refine WL.e e_move <| WL.e (e_fa f77_1) <| WL.e (e_load a22) ?_
        refine WL.h (h_call (ABegin_spec (s := s) x.tx) k23 ?_)
        intro q
        refine WL.nil ?_
        refine PO.blockN ?_
        refine PO.blockN ?_
        refine PO.next ?_
        refine WP.reg ?_
        refine WL.e e_move <| WL.e (e_add (c := ((i + 1 : Nat) : Int)) rfl rfl (by rw [w_i64 (by omega) (by omega)]; omega)) <| WL.e e_assign ?_
        refine WL.nil ?_
        exact PO.againK (i + 1, begS s x.tx q) ⟨by simp only; omega, alphaG.mono (alphaG.beg hI x.tx q) (Nat.le_succ i) (by omega)⟩ (by simp only; omega)
      · skip
        refine WP.cutL (fun (q : Bool) => [(51, .bool q)]) (fun (q : Bool) => As p dp s :: TxsU TPA s.txs :: cl b1 77 (ActM.c x) :: A :: R) (fun (q : Bool) => True) ?_ ?_
        · skip
          refine WP.seq ?_
          refine WP.reg ?_
          refine WL.e e_eql <| WL.e e_assign ?_
          refine WL.next ?_
          refine WP.cond rfl (fun c8 => ?_) (fun c8 => ?_)
          · skip
            refine WP.skip ?_
            exact PO.meetK _ trivial
          · skip
            refine WP.reg ?_
            refine WL.e e_eql <| WL.e e_assign ?_
            refine WL.nil ?_
            exact PO.meetK _ trivial
        · intro q _
          refine WP.cond rfl (fun c9 => ?_) (fun c9 => ?_)
          · skip
            refine WP.reg ?_
            refine WL.e e_move <| WL.e (e_fa f77_1) <| WL.e (e_load a22) ?_
            refine WL.h (h_call (ACommit_spec (s := s) x.tx hI (by omega)) k26 ?_)
            refine WL.nil ?_
            refine PO.blockN ?_
            refine PO.blockN ?_
            refine PO.next ?_
            refine WP.reg ?_
            refine WL.e e_move <| WL.e (e_add (c := ((i + 1 : Nat) : Int)) rfl rfl (by rw [w_i64 (by omega) (by omega)]; omega)) <| WL.e e_assign ?_
            refine WL.nil ?_
            exact PO.againK (i + 1, comS alphaI s x.tx) ⟨by simp only; omega, alphaG.com hI (by omega) x.tx⟩ (by simp only; omega)
          · skip
            refine WP.seq ?_
            refine WP.reg ?_
            refine WL.e e_eql <| WL.e e_assign ?_
            refine WL.next ?_
            refine WP.cond rfl (fun c10 => ?_) (fun c10 => ?_)
            · skip
              refine WP.reg ?_
              refine WL.e e_move <| WL.e (e_fa f77_1) <| WL.e (e_load a22) ?_
              refine WL.h (h_call (AAbort_spec (s := s) x.tx hI) k28 ?_)
              refine WL.nil ?_
              refine PO.blockN ?_
              refine PO.blockN ?_
              refine PO.next ?_
              refine WP.reg ?_
              refine WL.e e_move <| WL.e (e_add (c := ((i + 1 : Nat) : Int)) rfl rfl (by rw [w_i64 (by omega) (by omega)]; omega)) <| WL.e e_assign ?_
              refine WL.nil ?_
              exact PO.againK (i + 1, aboS alphaI s x.tx) ⟨by simp only; omega, alphaG.mono (abo_ok alphaG hI x.tx) (Nat.le_succ i) (by omega)⟩ (by simp only; omega)
            · skip
              refine WP.reg ?_
              refine WL.e e_move <| WL.e (e_fa f77_1) <| WL.e (e_load a22) <| WL.e (e_fa f77_2) <| WL.e (e_loadN a36) ?_
              refine WL.h (h_call (ADo_spec (s := s) x.tx x.op hI) k24 ?_)
              have hD := SureC_do alphaG hI (by omega) x.tx x.op
              rw [show alphaI.doS s x.tx x.op = doA s x.tx x.op from rfl] at hD
              rcases hdo : doA s x.tx x.op with ⟨s', e⟩ | ⟨s'⟩ | ⟨s', rws⟩ <;> rw [hdo] at hD
              · dsimp only at hD ⊢
                refine WL.nil ?_
                refine PO.blockN ?_
                refine PO.blockN ?_
                refine PO.next ?_
                refine WP.reg ?_
                refine WL.e e_move <| WL.e (e_add (c := ((i + 1 : Nat) : Int)) rfl rfl (by rw [w_i64 (by omega) (by omega)]; omega)) <| WL.e e_assign ?_
                refine WL.nil ?_
                exact PO.againK (i + 1, s') ⟨by simp only; omega, hD⟩ (by simp only; omega)
              · dsimp only at hD ⊢
                refine WL.nil ?_
                refine PO.blockN ?_
                refine PO.blockN ?_
                refine PO.next ?_
                refine WP.reg ?_
                refine WL.e e_move <| WL.e (e_add (c := ((i + 1 : Nat) : Int)) rfl rfl (by rw [w_i64 (by omega) (by omega)]; omega)) <| WL.e e_assign ?_
                refine WL.nil ?_
                exact PO.againK (i + 1, s') ⟨by simp only; omega, hD⟩ (by simp only; omega)
              · dsimp only at hD ⊢
                intro a7 m7 c7
                refine WL.nil ?_
                refine PO.blockN ?_
                refine PO.blockN ?_
                refine PO.next ?_
                refine WP.reg ?_
                refine WL.e e_move <| WL.e (e_add (c := ((i + 1 : Nat) : Int)) rfl rfl (by rw [w_i64 (by omega) (by omega)]; omega)) <| WL.e e_assign ?_
                refine WL.nil ?_
                exact PO.againK (i + 1, s') ⟨by simp only; omega, hD.1⟩ (by simp only; omega)
    · skip
      refine WP.exit ?_
      refine PO.past nofun ?_
      refine PO.round nofun ?_
      refine PO.blockX ?_
      refine PO.next ?_
      refine WP.seq ?_
      refine WP.reg ?_
      refine WL.e e_move ?_
      refine WL.h (h_call (ARows_spec (s := s) hI) k37 ?_)
      intro a5 m5 c5
      have hOk := alphaG.ok hI
      have hlg := hOk.log
      have hrl := hOk.rows_le
      refine WL.e e_assign ?_
      refine WL.next ?_
      refine WP.seq ?_
      refine WP.seq ?_
      refine WP.reg ?_
      refine WL.e e_assign ?_
      refine WL.next ?_
      refine WP.block ?_
      refine WP.opn (As_op (p := p) (dp := dp) (s := s)) fun x => ?_
      obtain ⟨lp, mp, kp, mb⟩ := x
      dsimp only
      have hI2 := alp_again hI
      refine WP.loopK (fun (x : Nat × Nat) => [(12, .int .i64 x.1), (7, .pointer (some ⟨x.2, 0, none⟩))]) (fun (x : Nat × Nat) => Dk x.2 s.d :: Sl 40 2 RowM.c (.slice a5 m5 c5) s.rows :: A :: R) [(1, _), (2, _), (11, _)] (fun (x : Nat × Nat) => x.1 ≤ 2) (fun (x : Nat × Nat) => 2 - x.1) (0, dp) (Nat.zero_le _) ?_
      rintro ⟨k, dq⟩ hk
      simp only at hk
      dsimp only
      refine WP.seq ?_
      refine WP.seq ?_
      refine WP.reg ?_
      refine WL.e e_move <| WL.e e_lss ?_
      refine WL.next ?_
      refine WP.cond rfl (fun h2 => ?_) (fun h2 => ?_)
      · have hk2 : k < 2 := by rw [decide_eq_true_eq] at h2; omega
        refine WP.skip ?_
        refine PO.next ?_
        refine WP.seq ?_
        refine WP.block ?_
        refine WP.seq ?_
        refine WP.reg ?_
        refine WL.e e_move <| WL.e e_move <| WL.e e_move <| WL.e e_maxI ?_
        refine WL.h (h_call (Fail_spec (p := dq) (d := s.d) keep (if torn > -1 then torn else -1) (by split <;> omega) hlg.ok hlg.waits) k40 ?_)
        intro q
        rw [hlg.fail]
        refine WL.e e_move <| WL.e e_extract <| WL.e e_extract <| WL.e e_assign <| WL.e e_assign ?_
        refine WL.next ?_
        refine WP.seq ?_
        refine WP.reg ?_
        refine WL.e e_move ?_
        refine WL.h (h_call (ANew_spec (dp := q) (d := s.d) (at0 := s.at_) s.H hlg hOk.recs (by have h1 := hOk.sum; have h2 := hOk.bb; omega)) k41 ?_)
        intro p2
        refine WL.e e_move <| WL.e e_extract <| WL.e e_extract <| WL.e e_assign <| WL.e e_assign ?_
        refine WL.next ?_
        refine WP.seq ?_
        refine WP.seq ?_
        refine WP.reg ?_
        refine WL.e e_move <| WL.e e_neq <| WL.e e_move ?_
        refine WL.bool 85 rfl (fun g1 => ?_) (fun g1 => ?_)
        · exact absurd g1 (by decide) -- end
        · skip
          refine WL.e e_move <| WL.e e_neq <| WL.e e_pick_f <| WL.e e_move ?_
          refine WL.bool 89 rfl (fun g2 => ?_) (fun g2 => ?_)
          · exact absurd g2 (by decide) -- end
          · skip
            refine WL.e e_move ?_
            refine WL.h (h_call (ARows_spec (s := st0 s.d s.at_ s.H) hI2) k37 ?_)
            intro a6 m6 c6
            refine WL.e e_move ?_
            refine WL.h (h_call (SameRows_spec (sl_rl (xs := (st0 s.d s.at_ s.H).rows)) (sl_rl (xs := s.rows)) (by show s.rows.length ≤ _; omega)) k34 ?_)
            rw [decide_eq_true (show (st0 s.d s.at_ s.H).rows = s.rows from rfl)]
            refine WL.e e_not <| WL.e e_pick_f <| WL.e e_move ?_
            refine WL.bool 96 rfl (fun g3 => ?_) (fun g3 => ?_)
            · exact absurd g3 (by decide) -- end
            · skip
              refine WL.e e_move ?_
              refine WL.h (h_call (AOpen0_spec (s := st0 s.d s.at_ s.H) rfl) k39 ?_)
              intro c9
              refine WL.e (el_len (xs := ([] : List UInt32)) (enc := u32C) sl82 (nil_rl (z := 1))) <| WL.e e_neq <| WL.e e_pick_f ?_
              refine WL.next ?_
              refine WP.cond_f rfl ?_
              refine WP.skip ?_
              refine PO.next ?_
              refine WP.reg ?_
              refine WL.e e_move <| WL.e e_assign ?_
              refine WL.nil ?_
              refine PO.blockN ?_
              refine PO.next ?_
              refine WP.reg ?_
              refine WL.e e_move <| WL.e (e_add (c := ((k + 1 : Nat) : Int)) rfl rfl (by rw [w_i64 (by omega) (by omega)]; omega)) <| WL.e e_assign ?_
              refine WL.nil ?_
              refine PO.opn (As_op (p := p2) (dp := q) (s := st0 s.d s.at_ s.H)) fun x => ?_
              obtain ⟨lp, mp, kp, mb⟩ := x
              dsimp only
              exact PO.againK (k + 1, q) (by simp only; omega) (by simp only; omega)
      · skip
        refine WP.exit ?_
        refine PO.past nofun ?_
        refine PO.round nofun ?_
        refine PO.blockX ?_
        refine PO.next ?_
        refine WP.seq ?_
        refine WP.reg ?_
        refine WL.h (h_call (lives_spec) k29 ?_)
        refine WL.e e_assign ?_
        refine WL.next ?_
        refine WP.ret ?_
        exact PO.finE Tryz.results11 (rv_tmp rv_nil) rfl hK
end Go.SL
/- From the row to the walk: a slice of structs that came in is read as a list. -/
set_option linter.unusedSimpArgs false
set_option linter.unusedVariables false
set_option linter.unusedSectionVars false
namespace Go.SL
open Go Go.ChangeShapes Go.Deep
section
variable {H : Type} {enc : TypeId × Value → H} {P : Program} {W : World} {held : Bool}
theorem add_off (a : Addr) (n : Nat) (h : a.spot = none) : a.add n = ⟨a.block, a.off + n, none⟩ := by
  obtain ⟨b, o, s⟩ := a
  simp at h; subst h
  exact add_none b o n
theorem slice_rl {α : Type} {t e : TypeId} {fuel z : Nat} {cs : List Value} {x : DataW H × List MemPlace} {c : α → List Value} (ht : P.underlying t = some (.slice e)) (hz : P.cellsOf e = z) (h0 : 0 < z) (he : EncOk z c)
    (hel : ∀ n cs' y, DataW.trod enc P W 0 (fun _ => true) held n e cs' = some y → ∃ a : α, cs' = c a) (h : DataW.trod enc P W 0 (fun _ => true) held fuel t cs = some x) :
    ∃ (v : SV) (xs : List α), cs = [v.v] ∧ RL (Old W) z c v.v xs ∧ (xs = [] ∨ ∃ el sp, x.1 = .slice el sp ∧ el.length = xs.length) := by
  rcases open_slice ht h with ⟨hcs, _⟩ | ⟨a, len, cap, m, n, D, Pl, hcs, _, hl, hm, hmm, hxx, hi⟩
  · exact ⟨⟨none, 0, 0⟩, [], hcs, nil_rl, .inl rfl⟩
  simp only [if_true] at hmm
  subst hmm
  rw [hz] at hi
  have hi' : ∀ i : Fin m, ∃ y : α, ∀ j, j < z → W.cell? ((a.add (i * z)).add j) = (c y)[j]? := fun i => by
    obtain ⟨cs', h1, h2⟩ := hi i i.2
    obtain ⟨y, rfl⟩ := hel _ _ _ h2
    exact ⟨y, (World.cells?_some h1).2.2⟩
  by_cases hc0 : m = 0
  · have : len = 0 := by omega
    subst this
    exact ⟨⟨some a, 0, m⟩, [], hcs, nil_rl, .inl rfl⟩
  let Y : Fin m → α := fun i => Classical.choose (hi' i)
  have hY : ∀ i : Fin m, ∀ j, j < z → W.cell? ((a.add (i * z)).add j) = (c (Y i))[j]? := fun i => Classical.choose_spec (hi' i)
  have hsp : a.spot = none := by
    have := hY ⟨0, by omega⟩ 0 h0
    have hlt : 0 < (c (Y ⟨0, by omega⟩)).length := by rw [he.len]; exact h0
    rw [List.getElem?_eq_getElem hlt] at this
    have h2 := World.cell?_spot this
    cases hs : a.spot with
    | none => rfl
    | some s => simp [Addr.add, hs] at h2
  have hcell : ∀ k (hk : k < m * z), W.cell? ⟨a.block, a.off + k, none⟩ = (c (Y ⟨k / z, (Nat.div_lt_iff_lt_mul h0).2 hk⟩))[k % z]? := fun k hk => by
    have := hY ⟨k / z, (Nat.div_lt_iff_lt_mul h0).2 hk⟩ (k % z) (Nat.mod_lt _ h0)
    rw [add_off a _ hsp, add_none] at this
    have e : a.off + k / z * z + k % z = a.off + k := by have := Nat.div_add_mod k z; rw [Nat.mul_comm] at this; omega
    simp only [e] at this
    exact this
  have hmz : 0 < m * z := Nat.mul_pos (by omega) h0
  obtain ⟨arr, t', fr, hb⟩ : ∃ arr t' fr, W.heap[a.block]? = some (.cells arr t' fr) := by
    have := hcell 0 hmz
    rw [List.getElem?_eq_getElem (by rw [he.len]; exact Nat.mod_lt _ h0)] at this
    unfold World.cell? at this
    cases hh : W.heap[a.block]? with
    | none => rw [hh] at this; cases this
    | some o => rw [hh] at this; cases o <;> first | exact ⟨_, _, _, rfl⟩ | cases this
  have hval : ∀ k (hk : k < m * z), arr.toList[a.off + k]? = (c (Y ⟨k / z, (Nat.div_lt_iff_lt_mul h0).2 hk⟩))[k % z]? := fun k hk => by
    have := hcell k hk
    unfold World.cell? at this
    rw [hb] at this
    simpa using this
  have hlen : a.off + m * z ≤ arr.toList.length := by
    have := hval (m * z - 1) (by omega)
    have hlt : (m * z - 1) % z < (c (Y ⟨(m * z - 1) / z, (Nat.div_lt_iff_lt_mul h0).2 (by omega)⟩)).length := by rw [he.len]; exact Nat.mod_lt _ h0
    rw [List.getElem?_eq_getElem hlt] at this
    have := idx_lt this
    omega
  refine ⟨⟨some a, len, m⟩, List.ofFn fun i : Fin len => Y ⟨i, by omega⟩, hcs, fun S hS => ?_, .inr ⟨_, _, by rw [hxx], by simp⟩⟩
  refine .inr ⟨a.block, a.off, m, arr.toList, (t', fr), ?_, by simpa using hl, ?_, hlen, ?_⟩
  · obtain ⟨b, o, s⟩ := a
    simp at hsp; subst hsp
    simp
  · exact hS _ _ (by simpa [heapOf] using hb)
  · apply List.ext_getElem?
    intro k
    rw [td_get, List.length_ofFn]
    by_cases hk : k < len * z
    · rw [if_pos hk]
      have hkm : k < m * z := Nat.lt_of_lt_of_le hk (Nat.mul_le_mul_right _ hl)
      rw [hval k hkm]
      have hd : k / z < len := (Nat.div_lt_iff_lt_mul h0).2 hk
      have hx : (List.ofFn fun i : Fin len => Y ⟨i, by omega⟩)[k / z]? = some (Y ⟨k / z, by omega⟩) := by simp [hd]
      have := flat_at he hx (k % z) (Nat.mod_lt _ h0)
      rw [show k / z * z + k % z = k by have := Nat.div_add_mod k z; rw [Nat.mul_comm] at this; omega] at this
      exact this
    · rw [if_neg hk]
      apply List.getElem?_eq_none
      rw [flat_len he, List.length_ofFn]; omega
theorem below_of_spec1 {P : Program} {w : World} {f : FuncId} {args : List Value} (h : Spec P w f args [Old w] fun K R => K (.bool true) (Old w :: R)) : Calls P f args.toArray w fun e w' => e = .returned (.bool true) ∧ Go.RowKit.Below w.heap.size w w' := by
  refine (h [] (fun v M => v = .bool true ∧ M = [Old w]) w (sat_old w) ⟨rfl, rfl⟩).mono ?_
  rintro e w' ⟨v, M, rfl, ⟨rfl, rfl⟩, hs⟩
  exact ⟨rfl, old_below hs⟩
theorem op_cells {t k s u : TypeId} {b0 b1 b2 b3 : Nat} {n0 n1 n2 n3 : String} {fuel : Nat} {cs : List Value} {y : DataW H × List MemPlace} (ht : P.underlying t = some (.struct #[⟨n0, k, 0, false, "", "", b0⟩, ⟨n1, s, 1, false, "", "", b1⟩, ⟨n2, s, 2, false, "", "", b2⟩, ⟨n3, u, 3, false, "", "", b3⟩]))
    (hk : P.underlying k = some (.int .u8)) (hs : P.underlying s = some .string) (hu : P.underlying u = some (.int .u32)) (ct : P.cellsOf t = 4) (ck : P.cellsOf k = 1) (c1 : P.cellsOf s = 1) (cu : P.cellsOf u = 1)
    (h : DataW.trod enc P W 0 (fun _ => true) held fuel t cs = some y) : ∃ x : OpM, cs = x.c := by
  obtain ⟨y0, y1, y2, y3, m, hx, hl, h0, h1, h2, h3⟩ := Go.Joins.trod_struct4 ht h
  rw [ct] at hl
  match cs, hl with
  | [a, b, c, d], _ =>
    simp only [ck, c1, cu] at h0 h1 h2 h3
    obtain ⟨n, e0, _, w0⟩ := DataW.trod_int hk h0
    obtain ⟨s1, e1, _, _⟩ := DataW.trod_string hs h1
    obtain ⟨s2, e2, _, _⟩ := DataW.trod_string hs h2
    obtain ⟨v, e3, _, w3⟩ := DataW.trod_int hu h3
    simp at e0 e1 e2 e3
    subst e0 e1 e2 e3
    refine ⟨⟨UInt8.ofNat n.toNat, s1, s2, UInt32.ofNat v.toNat⟩, ?_⟩
    simp only [OpM.c]
    rw [← u8_wf w0, ← u32_wf w3]
end
end Go.SL
