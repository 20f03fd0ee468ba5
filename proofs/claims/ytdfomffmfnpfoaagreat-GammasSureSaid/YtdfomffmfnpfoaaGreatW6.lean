import Derived.Test.YtdfomffmfnpfoaaGreatM6
import Derived.Test.YtdfomffmfnpfoaaGreatProg
import Derived.KernelRfl
set_option linter.unusedSimpArgs false
set_option linter.unusedVariables false
namespace Go.SL.W6
open Go Go.Proofs Go.SL
theorem a199 : aggOf Tryz.prog 199 = some none := by kernel_rfl
theorem a4 : aggOf Tryz.prog 4 = some none := by kernel_rfl
theorem a47 : aggOf Tryz.prog 47 = some none := by kernel_rfl
theorem a70 : aggOf Tryz.prog 70 = some (some 2) := by kernel_rfl
theorem a9 : aggOf Tryz.prog 9 = some none := by kernel_rfl
theorem f153_0 : fldOf Tryz.prog 153 0 = some 0 := by kernel_rfl
theorem f153_1 : fldOf Tryz.prog 153 1 = some 1 := by kernel_rfl
theorem f70_0 : fldOf Tryz.prog 70 0 = some 0 := by kernel_rfl
theorem k115 : callable Tryz.prog 115 = true := by kernel_rfl
theorem k116 : callable Tryz.prog 116 = true := by kernel_rfl
theorem k131 : callable Tryz.prog 131 = true := by kernel_rfl
theorem k132 : callable Tryz.prog 132 = true := by kernel_rfl
theorem k133 : callable Tryz.prog 133 = true := by kernel_rfl
theorem k141 : callable Tryz.prog 141 = true := by kernel_rfl
theorem k43 : callable Tryz.prog 43 = true := by kernel_rfl
theorem k66 : callable Tryz.prog 66 = true := by kernel_rfl
theorem k79 : callable Tryz.prog 79 = true := by kernel_rfl
theorem p153 : placesOf Tryz.prog 153 = some [(0, 1), (1, 1)] := by kernel_rfl
theorem pt74 : isPtr Tryz.prog 74 = true := by kernel_rfl
theorem sl47 : slOf Tryz.prog 47 = some (70, 2, 24) := by kernel_rfl
theorem z153 : zeroOf Tryz.prog 153 = some [.slice none 0 0, .bool false] := by kernel_rfl
theorem z70 : zeroOf Tryz.prog 70 = some [.string .empty, .int .u32 0] := by kernel_rfl
end Go.SL.W6
namespace Go.SL
open Go Go.Proofs W6
theorem isNaN_spec {g : World} (a : ByteArray) : Spec Tryz.prog g 141 [.string a] [] fun K R => K (.bool false) R := by
  refine Spec.intro Tryz.func141 rfl Tryz.ntmps141 rfl fun R K hK => ?_
  refine WP.seq ?_
  refine WP.reg ?_
  refine WL.e e_assign ?_
  refine WL.next ?_
  refine WP.seq ?_
  refine WP.reg ?_
  refine WL.e e_move <| WL.e e_move <| WL.e e_sne <| WL.e e_assign ?_
  refine WL.next ?_
  refine WP.ret ?_
  exact PO.finE Tryz.results141 (rv_tmp rv_nil) (by simp [sEq]) hK

theorem cmp_spec {g : World} (a b : ByteArray) : Spec Tryz.prog g 133 [.string a, .string b] [] fun K R => K (.int .i64 (cmpS a b)) R := by
  refine Spec.intro Tryz.func133 rfl Tryz.ntmps133 rfl fun R K hK => ?_
  refine WP.seq ?_
  refine WP.reg ?_
  refine WL.e e_assign ?_
  refine WL.next ?_
  refine WP.seq ?_
  refine WP.reg ?_
  refine WL.e e_move ?_
  refine WL.h (h_call (isNaN_spec _) k141 ?_)
  refine WL.e e_assign ?_
  refine WL.next ?_
  refine WP.seq ?_
  refine WP.reg ?_
  refine WL.e e_move ?_
  refine WL.h (h_call (isNaN_spec _) k141 ?_)
  refine WL.e e_assign ?_
  refine WL.next ?_
  refine WP.seq ?_
  refine WP.seq ?_
  refine WP.reg ?_
  refine WL.e e_move ?_
  refine WL.next ?_
  refine WP.cond_f rfl ?_
  refine WP.skip ?_
  refine PO.next ?_
  refine WP.seq ?_
  refine WP.seq ?_
  refine WP.reg ?_
  refine WL.e e_move ?_
  refine WL.next ?_
  refine WP.cond_f rfl ?_
  refine WP.skip ?_
  refine PO.next ?_
  refine WP.seq ?_
  refine WP.seq ?_
  refine WP.reg ?_
  refine WL.e e_move <| WL.e e_move <| WL.e e_slt ?_
  refine WL.next ?_
  refine WP.cond rfl (fun h1 => ?_) (fun h1 => ?_)
  · skip
    refine WP.seq ?_
    refine WP.reg ?_
    refine WL.e e_assign ?_
    refine WL.next ?_
    refine WP.ret ?_
    refine PO.past nofun ?_
    exact PO.finE Tryz.results133 (rv_tmp rv_nil) (by simp_all [cmpS]) hK
  · skip
    refine WP.skip ?_
    refine PO.next ?_
    refine WP.seq ?_
    refine WP.seq ?_
    refine WP.reg ?_
    refine WL.e e_move <| WL.e e_move <| WL.e e_sgt ?_
    refine WL.next ?_
    refine WP.cond rfl (fun h2 => ?_) (fun h2 => ?_)
    · skip
      refine WP.seq ?_
      refine WP.reg ?_
      refine WL.e e_assign ?_
      refine WL.next ?_
      refine WP.ret ?_
      refine PO.past nofun ?_
      exact PO.finE Tryz.results133 (rv_tmp rv_nil) (by simp_all [cmpS]) hK
    · skip
      refine WP.skip ?_
      refine PO.next ?_
      refine WP.seq ?_
      refine WP.reg ?_
      refine WL.e e_assign ?_
      refine WL.next ?_
      refine WP.ret ?_
      exact PO.finE Tryz.results133 (rv_tmp rv_nil) (by simp_all [cmpS]) hK

theorem rowKey_spec {g : World} (x : RowM) : Spec Tryz.prog g 116 [x.v] [] fun K R => K (.string x.key) R := by
  refine Spec.intro Tryz.func116 rfl Tryz.ntmps116 rfl fun R K hK => ?_
  refine WP.seq ?_
  refine WP.reg ?_
  refine WL.h (h_box fun b1 => ?_)
  refine WL.e e_assign ?_
  refine WL.next ?_
  refine WP.seq ?_
  refine WP.reg ?_
  refine WL.e (e_fa f70_0) <| WL.e (e_load a9) <| WL.e e_assign ?_
  refine WL.next ?_
  refine WP.ret ?_
  exact PO.fin Tryz.results116 (rv_tmp rv_nil) hK

theorem cmpRow_spec {g : World} (x : RowM) (k : ByteArray) (cb : Nat) : Spec Tryz.prog g 132 [x.v, .string k, .pointer (some ⟨cb, 0, none⟩)] [cl cb 199 [.func (.func 116) #[] #[]]] fun K R => K (.int .i64 (cmpS x.key k)) (cl cb 199 [.func (.func 116) #[] #[]] :: R) := by
  refine Spec.intro Tryz.func132 rfl Tryz.ntmps132 rfl fun R K hK => ?_
  refine WP.seq ?_
  refine WP.reg ?_
  refine WL.h (h_box fun b1 => ?_)
  refine WL.e e_assign ?_
  refine WL.next ?_
  refine WP.seq ?_
  refine WP.reg ?_
  refine WL.e (e_load a199) <| WL.e (e_loadN a70) ?_
  refine WL.h (h_callv (fs := []) (cs := []) (args := [x.v]) (rowKey_spec x) k116 ?_)
  refine WL.e e_move ?_
  refine WL.h (h_call (cmp_spec _ _) k133 ?_)
  refine WL.e e_assign ?_
  refine WL.next ?_
  refine WP.ret ?_
  exact PO.fin Tryz.results132 (rv_tmp rv_nil) hK

theorem BSF_spec {g : World} {A : HP} {u y : Value} {l : List RowM} {k : ByteArray} {B : HP} (hA : RL A 2 RowM.c u l) (hl : Rising l) (hn : l.length ≤ 68719476736) (hy : ∀ x : RowM, CallV Tryz.prog g y [x.v, .string k] [B] fun K R => K (.int .i64 (cmpS x.key k)) (B :: R)) :
    Spec Tryz.prog g 131 [u, .string k, y] [A, B] fun K R => K (.tuple #[.int .i64 (lowI l k), .bool (hasI l k)]) (A :: B :: R) := by
  refine Spec.intro Tryz.func131 rfl Tryz.ntmps131 rfl fun R K hK => ?_
  refine WP.seq ?_
  refine WP.reg ?_
  refine WL.e e_assign <| WL.e e_assign ?_
  refine WL.next ?_
  refine WP.seq ?_
  refine WP.reg ?_
  refine WL.e e_move ?_
  refine WL.e (el_len sl47 hA) <| WL.e e_assign ?_
  refine WL.next ?_
  refine WP.seq ?_
  refine WP.reg ?_
  refine WL.e e_move <| WL.e e_assign <| WL.e e_assign ?_
  refine WL.next ?_
  refine WP.seq ?_
  refine WP.block ?_
  refine WP.loopK (fun (x : Nat × Nat) => [(9, .int .i64 x.1), (10, .int .i64 x.2)]) (fun (x : Nat × Nat) => A :: B :: R) [(0, _), (1, _), (2, _), (6, _), (7, _), (8, _)] (fun (x : Nat × Nat) => x.1 ≤ lowI l k ∧ lowI l k ≤ x.2 ∧ x.2 ≤ l.length) (fun (x : Nat × Nat) => x.2 - x.1) (0, l.length) (⟨Nat.zero_le _, lowI_le l k, Nat.le_refl _⟩) ?_
  rintro ⟨i, j⟩ ⟨h1, h2, h3⟩
  simp only at h1 h2 h3
  dsimp only
  refine WP.seq ?_
  refine WP.seq ?_
  refine WP.reg ?_
  refine WL.e e_move <| WL.e e_move <| WL.e e_lss ?_
  refine WL.next ?_
  refine WP.cond rfl (fun h4 => ?_) (fun h4 => ?_)
  · have hij : i < j := by rw [decide_eq_true_eq] at h4; omega
    obtain ⟨r, hr⟩ : ∃ r, l[(i + j) / 2]? = some r := ⟨_, List.getElem?_eq_getElem (by omega)⟩
    refine WP.skip ?_
    refine PO.next ?_
    refine WP.block ?_
    refine WP.seq ?_
    refine WP.reg ?_
    refine WL.e e_move <| WL.e e_move <| WL.e (e_add (c := ((i + j : Nat) : Int)) rfl rfl (by rw [w_i64 (by omega) (by omega)]; omega)) <| WL.e (e_conv (c := ((i + j : Nat) : Int)) (by rw [Tryz.underlying3]; rfl) Tryz.underlying124 rfl (by simp [IntKind.wrap, IntKind.bits, IntKind.signed]; omega)) <| WL.e (e_shrN (k := .u64) (a := i + j) (m := 1) (by decide)) <| WL.e (e_conv (c := (((i + j) / 2 : Nat) : Int)) (by rw [Tryz.underlying124]; rfl) Tryz.underlying3 rfl (w_i64 (by omega) (by omega))) <| WL.e e_assign ?_
    refine WL.next ?_
    refine WP.seq ?_
    refine WP.reg ?_
    refine WL.e e_move <| WL.e e_move <| WL.e e_move ?_
    refine WL.e (el_ia (j := (i + j) / 2) sl47 hA (by omega)) ?_
    refine WL.e (el_loadN a70 rowE hA hr) <| WL.e e_move ?_
    refine WL.h (h_cally (hy r) ?_)
    refine WL.e e_lss ?_
    refine WL.next ?_
    refine WP.cond rfl (fun h5 => ?_) (fun h5 => ?_)
    · rw [cmpS_lt] at h5
      refine WP.reg ?_
      refine WL.e e_move <| WL.e (e_add (c := (((i + j) / 2 + 1 : Nat) : Int)) rfl rfl (by rw [w_i64 (by omega) (by omega)]; omega)) <| WL.e e_assign ?_
      refine WL.nil ?_
      refine PO.blockN ?_
      exact PO.againK ((i + j) / 2 + 1, j) ⟨low_gt hl hr h5, h2, h3⟩ (by simp only; omega)
    · rw [cmpS_lt] at h5
      refine WP.reg ?_
      refine WL.e e_move <| WL.e e_assign ?_
      refine WL.nil ?_
      refine PO.blockN ?_
      exact PO.againK (i, (i + j) / 2) ⟨h1, low_le hr h5, by simp only; omega⟩ (by simp only; omega)
  · obtain rfl : i = lowI l k := by rw [decide_eq_false_iff_not] at h4; omega
    refine WP.exit ?_
    refine PO.past nofun ?_
    refine PO.round nofun ?_
    refine PO.blockX ?_
    refine PO.next ?_
    refine WP.seq ?_
    refine WP.reg ?_
    refine WL.e e_move <| WL.e e_move <| WL.e e_move <| WL.e e_lss <| WL.e e_move ?_
    refine WL.bool 39 rfl (fun h6 => ?_) (fun h6 => ?_)
    · obtain ⟨r, hr⟩ : ∃ r, l[lowI l k]? = some r := ⟨_, List.getElem?_eq_getElem (by rw [decide_eq_true_eq] at h6; omega)⟩
      refine WL.e e_move <| WL.e e_move <| WL.e e_move ?_
      refine WL.e (el_ia (j := lowI l k) sl47 hA (idx_lt hr)) ?_
      refine WL.e (el_loadN a70 rowE hA hr) <| WL.e e_move ?_
      refine WL.h (h_cally (hy r) ?_)
      refine WL.e e_eql <| WL.e e_pick_t <| WL.e e_assign <| WL.e e_assign ?_
      refine WL.next ?_
      refine WP.ret ?_
      exact PO.finE Tryz.results131 (rv_tmp (rv_tmp rv_nil)) (by simp [hasI, hr, cmpS_eq]) hK
    · skip
      refine WL.skip <| WL.skip <| WL.skip <| WL.skip <| WL.skip <| WL.skip <| WL.skip <| WL.skip <| WL.e e_pick_f <| WL.e e_assign <| WL.e e_assign ?_
      refine WL.next ?_
      refine WP.ret ?_
      exact PO.finE Tryz.results131 (rv_tmp (rv_tmp rv_nil)) (by rw [decide_eq_false_iff_not] at h6; simp [hasI, List.getElem?_eq_none (show l.length ≤ lowI l k by omega)]) hK

theorem place_spec {g : World} {A : HP} {u : Value} {l : List RowM} (k : ByteArray) (hA : RL A 2 RowM.c u l) (hl : Rising l) (hn : l.length ≤ 68719476736) :
    Spec Tryz.prog g 115 [u, .string k, .func (.func 116) #[] #[]] [A] fun K R => K (.tuple #[.int .i64 (lowI l k), .bool (hasI l k)]) (A :: R) := by
  refine Spec.intro Tryz.func115 rfl Tryz.ntmps115 rfl fun R K hK => ?_
  refine WP.seq ?_
  refine WP.reg ?_
  refine WL.h (h_box fun b1 => ?_)
  refine WL.e e_assign <| WL.e e_assign ?_
  refine WL.next ?_
  refine WP.seq ?_
  refine WP.reg ?_
  refine WL.e e_move <| WL.e e_move <| WL.e e_makeFunc ?_
  refine WL.h (h_call (BSF_spec (k := k) hA hl hn (fun x => CallV.of_spec (fs := []) (cs := [.pointer (some ⟨b1, 0, none⟩)]) (cmpRow_spec x k b1) k132)) k131 ?_)
  refine WL.e e_extract <| WL.e e_extract <| WL.e e_assign <| WL.e e_assign ?_
  refine WL.next ?_
  refine WP.ret ?_
  exact PO.fin Tryz.results115 (rv_tmp (rv_tmp rv_nil)) hK

def Mm (p : Nat) (l : List RowM) : HP := fun S => ∃ x : SV, stars [cl p 153 [x.v, .bool true], Sl 70 2 RowM.c x.v l] S
theorem Mm_op {p : Nat} {l : List RowM} : ∀ S, Mm p l S → ∃ x : SV, stars [cl p 153 [x.v, .bool true], Sl 70 2 RowM.c x.v l] S := fun _ h => h

theorem find_spec {g : World} {p : Nat} {l : List RowM} (k : ByteArray) (hl : Rising l) (hn : l.length ≤ 68719476736) : Spec Tryz.prog g 99 [.pointer (some ⟨p, 0, none⟩), .string k] [Mm p l] fun K R => K (.tuple #[.int .i64 (lowI l k), .bool (hasI l k)]) (Mm p l :: R) := by
  refine Spec.intro Tryz.func99 rfl Tryz.ntmps99 rfl fun R K hK => ?_
  refine WP.opn (Mm_op (p := p) (l := l)) fun s => ?_
  refine WP.seq ?_
  refine WP.reg ?_
  refine WL.e e_assign <| WL.e e_assign ?_
  refine WL.next ?_
  refine WP.seq ?_
  refine WP.reg ?_
  refine WL.e e_move <| WL.e e_nil <| WL.e (e_fa f153_0) <| WL.e (e_load a47) <| WL.e e_move ?_
  refine WL.h (h_call (place_spec k (sl_rl (xs := l)) hl hn) k115 ?_)
  refine WL.e e_extract <| WL.e e_extract <| WL.e e_assign <| WL.e e_assign ?_
  refine WL.next ?_
  refine WP.ret ?_
  refine PO.cls (A := Mm p l) (B := [cl p 153 [s.v, .bool true], Sl 70 2 RowM.c (s.v) l]) (fun S h => ⟨s, h⟩) ?_
  exact PO.fin Tryz.results99 (rv_tmp (rv_tmp rv_nil)) hK

theorem MNew_spec {g : World} : Spec Tryz.prog g 40 [] [] fun K R => ∀ p, K (.pointer (some ⟨p, 0, none⟩)) (Mm p [] :: R) := by
  refine Spec.intro Tryz.func40 rfl Tryz.ntmps40 rfl fun R K hK => ?_
  refine WP.seq ?_
  refine WP.reg ?_
  refine WL.e e_assign ?_
  refine WL.next ?_
  refine WP.seq ?_
  refine WP.reg ?_
  refine WL.e (e_build z153 p153 (.z (.slice none 0 0) <| .o (.const (.bool true)) rfl <| .n)) ?_
  refine WL.h (h_box fun b1 => ?_)
  refine WL.e e_assign ?_
  refine WL.next ?_
  refine WP.ret ?_
  refine PO.nils 70 2 RowM.c none ?_
  refine PO.cls (A := Mm b1 []) (B := [cl b1 153 [.slice none 0 0, .bool true], Sl 70 2 RowM.c (.slice none 0 0) []]) (fun S h => ⟨⟨none, 0, 0⟩, h⟩) ?_
  exact PO.fin Tryz.results40 (rv_tmp rv_nil) (hK b1)

theorem Mthere_spec {g : World} {p : Nat} {l : List RowM} : Spec Tryz.prog g 66 [.pointer (some ⟨p, 0, none⟩)] [Mm p l] fun K R => K (.bool true) (Mm p l :: R) := by
  refine Spec.intro Tryz.func66 rfl Tryz.ntmps66 rfl fun R K hK => ?_
  refine WP.opn (Mm_op (p := p) (l := l)) fun s => ?_
  refine WP.seq ?_
  refine WP.reg ?_
  refine WL.e e_assign ?_
  refine WL.next ?_
  refine WP.seq ?_
  refine WP.reg ?_
  refine WL.e e_move <| WL.e (e_pne pt74) <| WL.e e_move ?_
  refine WL.bool 5 rfl (fun h => ?_) (fun h => ?_)
  · skip
    refine WL.e e_move <| WL.e e_nil <| WL.e (e_fa f153_1) <| WL.e (e_load a4) <| WL.e e_pick_t <| WL.e e_assign ?_
    refine WL.next ?_
    refine WP.ret ?_
    refine PO.cls (A := Mm p l) (B := [cl p 153 [s.v, .bool true], Sl 70 2 RowM.c (s.v) l]) (fun S h => ⟨s, h⟩) ?_
    exact PO.fin Tryz.results66 (rv_tmp rv_nil) hK
  · cases h -- end

theorem CloneR_spec {g : World} {A : HP} {u : Value} {xs : List RowM} (hA : RL A 2 RowM.c u xs) (hb : xs.length ≤ 68719476736) : Spec Tryz.prog g 79 [u] [A] fun K R => ∀ a m c, K (.slice a m c) (Sl 70 2 RowM.c (.slice a m c) xs :: A :: R) := by
  refine Spec.intro Tryz.func79 rfl Tryz.ntmps79 rfl fun R K hK => ?_
  refine WP.seq ?_
  refine WP.reg ?_
  refine WL.e e_assign ?_
  refine WL.next ?_
  refine WP.seq ?_
  refine WP.seq ?_
  refine WP.reg ?_
  refine WL.e e_move ?_
  refine WL.e (e_slnil sl47 hA) ?_
  refine WL.next ?_
  refine WP.cond rfl (fun h => ?_) (fun h => ?_)
  · refine WP.know (φ := xs = []) (Pick.know (A := A) (by exact .z) fun S hS => ?_) fun hx => ?_
    · rcases hA S hS with ⟨h0, _⟩ | ⟨b, o, c, l, t, e, _⟩
      · simpa using h0
      · rw [e] at h; cases h
    subst hx
    refine WP.nils 70 2 RowM.c none ?_
    refine WP.seq ?_
    refine WP.reg ?_
    refine WL.e e_assign ?_
    refine WL.next ?_
    refine WP.ret ?_
    refine PO.past nofun ?_
    exact PO.fin Tryz.results79 (rv_tmp rv_nil) (hK none 0 0)
  · skip
    refine WP.skip ?_
    refine PO.next ?_
    refine WP.seq ?_
    refine WP.reg ?_
    refine WL.h (h_bs0 sl47 (enc := RowM.c) fun a1 n1 c1 => ?_)
    refine WL.e e_move ?_
    refine WL.h (hl_append (xs := []) (ys := xs) sl47 rowE z70 hA (by simp; omega) fun a2 n2 c2 => ?_)
    rw [List.nil_append]
    refine WL.e e_assign ?_
    refine WL.next ?_
    refine WP.ret ?_
    exact PO.fin Tryz.results79 (rv_tmp rv_nil) (hK a2 n2 c2)

theorem Rows_spec {g : World} {p : Nat} {l : List RowM} (hn : l.length ≤ 68719476736) : Spec Tryz.prog g 43 [.pointer (some ⟨p, 0, none⟩)] [Mm p l] fun K R => ∀ a m c, K (.slice a m c) (Sl 70 2 RowM.c (.slice a m c) l :: Mm p l :: R) := by
  refine Spec.intro Tryz.func43 rfl Tryz.ntmps43 rfl fun R K hK => ?_
  refine WP.seq ?_
  refine WP.reg ?_
  refine WL.e e_assign ?_
  refine WL.next ?_
  refine WP.seq ?_
  refine WP.seq ?_
  refine WP.reg ?_
  refine WL.e e_move ?_
  refine WL.h (h_call (Mthere_spec) k66 ?_)
  refine WL.e e_not ?_
  refine WL.next ?_
  refine WP.cond rfl (fun h => ?_) (fun h => ?_)
  · cases h
  · refine WP.opn (Mm_op (p := p) (l := l)) fun s => ?_
    refine WP.skip ?_
    refine PO.next ?_
    refine WP.seq ?_
    refine WP.reg ?_
    refine WL.e e_move <| WL.e e_nil <| WL.e (e_fa f153_0) <| WL.e (e_load a47) ?_
    refine WL.h (h_call (CloneR_spec (sl_rl (xs := l)) hn) k79 ?_)
    intro a m c
    refine WL.e e_assign ?_
    refine WL.next ?_
    refine WP.ret ?_
    refine PO.cls (A := Mm p l) (B := [cl p 153 [s.v, .bool true], Sl 70 2 RowM.c (s.v) l]) (fun S h => ⟨s, h⟩) ?_
    exact PO.fin Tryz.results43 (rv_tmp rv_nil) (hK a m c)

theorem Twin_spec {g : World} {p : Nat} {l : List RowM} (hn : l.length ≤ 68719476736) : Spec Tryz.prog g 38 [.pointer (some ⟨p, 0, none⟩)] [Mm p l] fun K R => ∀ q, K (.pointer (some ⟨q, 0, none⟩)) (Mm q l :: Mm p l :: R) := by
  refine Spec.intro Tryz.func38 rfl Tryz.ntmps38 rfl fun R K hK => ?_
  refine WP.seq ?_
  refine WP.reg ?_
  refine WL.e e_assign ?_
  refine WL.next ?_
  refine WP.seq ?_
  refine WP.seq ?_
  refine WP.reg ?_
  refine WL.e e_move ?_
  refine WL.h (h_call (Mthere_spec) k66 ?_)
  refine WL.e e_not ?_
  refine WL.next ?_
  refine WP.cond rfl (fun h => ?_) (fun h => ?_)
  · cases h
  · skip
    refine WP.skip ?_
    refine PO.next ?_
    refine WP.seq ?_
    refine WP.reg ?_
    refine WL.e e_move ?_
    refine WL.h (h_call (Rows_spec hn) k43 ?_)
    intro a m c
    refine WL.e (e_build z153 p153 (.o (.tmp 7) rfl <| .o (.const (.bool true)) rfl <| .n)) ?_
    refine WL.h (h_box fun b1 => ?_)
    refine WL.e e_assign ?_
    refine WL.next ?_
    refine WP.ret ?_
    refine PO.cls (A := Mm b1 l) (B := [cl b1 153 [.slice a m c, .bool true], Sl 70 2 RowM.c (.slice a m c) l]) (fun S h => ⟨⟨a, m, c⟩, h⟩) ?_
    exact PO.fin Tryz.results38 (rv_tmp rv_nil) (hK b1)

end Go.SL
