import Derived.Test.YtdfomffmfnpfoaaM6
import Derived.Test.YtdfomffmfnpfoaaProg
import Derived.KernelRfl
set_option linter.unusedSimpArgs false
set_option linter.unusedVariables false
namespace Go.SL.W6
open Go Go.Proofs Go.SL
theorem a165 : aggOf Try.prog 165 = some none := by kernel_rfl
theorem a36 : aggOf Try.prog 36 = some none := by kernel_rfl
theorem a4 : aggOf Try.prog 4 = some none := by kernel_rfl
theorem a80 : aggOf Try.prog 80 = some (some 2) := by kernel_rfl
theorem a9 : aggOf Try.prog 9 = some none := by kernel_rfl
theorem f109_0 : fldOf Try.prog 109 0 = some 0 := by kernel_rfl
theorem f109_1 : fldOf Try.prog 109 1 = some 1 := by kernel_rfl
theorem f80_0 : fldOf Try.prog 80 0 = some 0 := by kernel_rfl
theorem k100 : callable Try.prog 100 = true := by kernel_rfl
theorem k44 : callable Try.prog 44 = true := by kernel_rfl
theorem k45 : callable Try.prog 45 = true := by kernel_rfl
theorem k73 : callable Try.prog 73 = true := by kernel_rfl
theorem k89 : callable Try.prog 89 = true := by kernel_rfl
theorem k90 : callable Try.prog 90 = true := by kernel_rfl
theorem k96 : callable Try.prog 96 = true := by kernel_rfl
theorem k97 : callable Try.prog 97 = true := by kernel_rfl
theorem k98 : callable Try.prog 98 = true := by kernel_rfl
theorem p109 : placesOf Try.prog 109 = some [(0, 1), (1, 1)] := by kernel_rfl
theorem pt54 : isPtr Try.prog 54 = true := by kernel_rfl
theorem sl36 : slOf Try.prog 36 = some (80, 2, 24) := by kernel_rfl
theorem z109 : zeroOf Try.prog 109 = some [.slice none 0 0, .bool false] := by kernel_rfl
theorem z80 : zeroOf Try.prog 80 = some [.string .empty, .int .u32 0] := by kernel_rfl
end Go.SL.W6
namespace Go.SL
open Go Go.Proofs W6
theorem isNaN_spec {g : World} (a : ByteArray) : Spec Try.prog g 100 [.string a] [] fun K R => K (.bool false) R := by
  refine Spec.intro Try.func100 rfl Try.ntmps100 rfl fun R K hK => ?_
  refine WP.seq ?_
  refine WP.reg ?_
  refine WL.e e_assign ?_
  refine WL.next ?_
  refine WP.seq ?_
  refine WP.reg ?_
  refine WL.e e_move <| WL.e e_move <| WL.e e_sne <| WL.e e_assign ?_
  refine WL.next ?_
  refine WP.ret ?_
  exact PO.finE Try.results100 (rv_tmp rv_nil) (by simp [sEq]) hK

theorem cmp_spec {g : World} (a b : ByteArray) : Spec Try.prog g 98 [.string a, .string b] [] fun K R => K (.int .i64 (cmpS a b)) R := by
  refine Spec.intro Try.func98 rfl Try.ntmps98 rfl fun R K hK => ?_
  refine WP.seq ?_
  refine WP.reg ?_
  refine WL.e e_assign ?_
  refine WL.next ?_
  refine WP.seq ?_
  refine WP.reg ?_
  refine WL.e e_move ?_
  refine WL.h (h_call (isNaN_spec _) k100 ?_)
  refine WL.e e_assign ?_
  refine WL.next ?_
  refine WP.seq ?_
  refine WP.reg ?_
  refine WL.e e_move ?_
  refine WL.h (h_call (isNaN_spec _) k100 ?_)
  refine WL.e e_assign ?_
  refine WL.next ?_
  refine WP.seq ?_
  refine WP.seq ?_
  refine WP.reg ?_
  refine WL.e e_move ?_
  refine WL.next ?_
  refine WP.cond_f rfl ?_
  refine WP.skip ?_
  refine PO.next ?_
  refine WP.seq ?_
  refine WP.seq ?_
  refine WP.reg ?_
  refine WL.e e_move ?_
  refine WL.next ?_
  refine WP.cond_f rfl ?_
  refine WP.skip ?_
  refine PO.next ?_
  refine WP.seq ?_
  refine WP.seq ?_
  refine WP.reg ?_
  refine WL.e e_move <| WL.e e_move <| WL.e e_slt ?_
  refine WL.next ?_
  refine WP.cond rfl (fun h1 => ?_) (fun h1 => ?_)
  · skip
    refine WP.seq ?_
    refine WP.reg ?_
    refine WL.e e_assign ?_
    refine WL.next ?_
    refine WP.ret ?_
    refine PO.past nofun ?_
    exact PO.finE Try.results98 (rv_tmp rv_nil) (by simp_all [cmpS]) hK
  · skip
    refine WP.skip ?_
    refine PO.next ?_
    refine WP.seq ?_
    refine WP.seq ?_
    refine WP.reg ?_
    refine WL.e e_move <| WL.e e_move <| WL.e e_sgt ?_
    refine WL.next ?_
    refine WP.cond rfl (fun h2 => ?_) (fun h2 => ?_)
    · skip
      refine WP.seq ?_
      refine WP.reg ?_
      refine WL.e e_assign ?_
      refine WL.next ?_
      refine WP.ret ?_
      refine PO.past nofun ?_
      exact PO.finE Try.results98 (rv_tmp rv_nil) (by simp_all [cmpS]) hK
    · skip
      refine WP.skip ?_
      refine PO.next ?_
      refine WP.seq ?_
      refine WP.reg ?_
      refine WL.e e_assign ?_
      refine WL.next ?_
      refine WP.ret ?_
      exact PO.finE Try.results98 (rv_tmp rv_nil) (by simp_all [cmpS]) hK

theorem rowKey_spec {g : World} (x : RowM) : Spec Try.prog g 90 [x.v] [] fun K R => K (.string x.key) R := by
  refine Spec.intro Try.func90 rfl Try.ntmps90 rfl fun R K hK => ?_
  refine WP.seq ?_
  refine WP.reg ?_
  refine WL.h (h_box fun b1 => ?_)
  refine WL.e e_assign ?_
  refine WL.next ?_
  refine WP.seq ?_
  refine WP.reg ?_
  refine WL.e (e_fa f80_0) <| WL.e (e_load a9) <| WL.e e_assign ?_
  refine WL.next ?_
  refine WP.ret ?_
  exact PO.fin Try.results90 (rv_tmp rv_nil) hK

theorem cmpRow_spec {g : World} (x : RowM) (k : ByteArray) (cb : Nat) : Spec Try.prog g 97 [x.v, .string k, .pointer (some ⟨cb, 0, none⟩)] [cl cb 165 [.func (.func 90) #[] #[]]] fun K R => K (.int .i64 (cmpS x.key k)) (cl cb 165 [.func (.func 90) #[] #[]] :: R) := by
  refine Spec.intro Try.func97 rfl Try.ntmps97 rfl fun R K hK => ?_
  refine WP.seq ?_
  refine WP.reg ?_
  refine WL.h (h_box fun b1 => ?_)
  refine WL.e e_assign ?_
  refine WL.next ?_
  refine WP.seq ?_
  refine WP.reg ?_
  refine WL.e (e_load a165) <| WL.e (e_loadN a80) ?_
  refine WL.h (h_callv (fs := []) (cs := []) (args := [x.v]) (rowKey_spec x) k90 ?_)
  refine WL.e e_move ?_
  refine WL.h (h_call (cmp_spec _ _) k98 ?_)
  refine WL.e e_assign ?_
  refine WL.next ?_
  refine WP.ret ?_
  exact PO.fin Try.results97 (rv_tmp rv_nil) hK

theorem BSF_spec {g : World} {A : HP} {u y : Value} {l : List RowM} {k : ByteArray} {B : HP} (hA : RL A 2 RowM.c u l) (hl : Rising l) (hn : l.length ≤ 68719476736) (hy : ∀ x : RowM, CallV Try.prog g y [x.v, .string k] [B] fun K R => K (.int .i64 (cmpS x.key k)) (B :: R)) :
    Spec Try.prog g 96 [u, .string k, y] [A, B] fun K R => K (.tuple #[.int .i64 (lowI l k), .bool (hasI l k)]) (A :: B :: R) := by
  refine Spec.intro Try.func96 rfl Try.ntmps96 rfl fun R K hK => ?_
  refine WP.seq ?_
  refine WP.reg ?_
  refine WL.e e_assign <| WL.e e_assign ?_
  refine WL.next ?_
  refine WP.seq ?_
  refine WP.reg ?_
  refine WL.e e_move ?_
  refine WL.e (el_len sl36 hA) <| WL.e e_assign ?_
  refine WL.next ?_
  refine WP.seq ?_
  refine WP.reg ?_
  refine WL.e e_move <| WL.e e_assign <| WL.e e_assign ?_
  refine WL.next ?_
  refine WP.seq ?_
  refine WP.block ?_
  refine WP.loopK (fun (x : Nat × Nat) => [(9, .int .i64 x.1), (10, .int .i64 x.2)]) (fun (x : Nat × Nat) => A :: B :: R) [(0, _), (1, _), (2, _), (6, _), (7, _), (8, _)] (fun (x : Nat × Nat) => x.1 ≤ lowI l k ∧ lowI l k ≤ x.2 ∧ x.2 ≤ l.length) (fun (x : Nat × Nat) => x.2 - x.1) (0, l.length) (⟨Nat.zero_le _, lowI_le l k, Nat.le_refl _⟩) ?_
  rintro ⟨i, j⟩ ⟨h1, h2, h3⟩
  simp only at h1 h2 h3
  dsimp only
  refine WP.seq ?_
  refine WP.seq ?_
  refine WP.reg ?_
  refine WL.e e_move <| WL.e e_move <| WL.e e_lss ?_
  refine WL.next ?_
  refine WP.cond rfl (fun h4 => ?_) (fun h4 => ?_)
  · have hij : i < j := by rw [decide_eq_true_eq] at h4; omega
    obtain ⟨r, hr⟩ : ∃ r, l[(i + j) / 2]? = some r := ⟨_, List.getElem?_eq_getElem (by omega)⟩
    refine WP.skip ?_
    refine PO.next ?_
    refine WP.block ?_
    refine WP.seq ?_
    refine WP.reg ?_
    refine WL.e e_move <| WL.e e_move <| WL.e (e_add (c := ((i + j : Nat) : Int)) rfl rfl (by rw [w_i64 (by omega) (by omega)]; omega)) <| WL.e (e_conv (c := ((i + j : Nat) : Int)) (by rw [Try.underlying3]; rfl) Try.underlying96 rfl (by simp [IntKind.wrap, IntKind.bits, IntKind.signed]; omega)) <| WL.e (e_shrN (k := .u64) (a := i + j) (m := 1) (by decide)) <| WL.e (e_conv (c := (((i + j) / 2 : Nat) : Int)) (by rw [Try.underlying96]; rfl) Try.underlying3 rfl (w_i64 (by omega) (by omega))) <| WL.e e_assign ?_
    refine WL.next ?_
    refine WP.seq ?_
    refine WP.reg ?_
    refine WL.e e_move <| WL.e e_move <| WL.e e_move ?_
    refine WL.e (el_ia (j := (i + j) / 2) sl36 hA (by omega)) ?_
    refine WL.e (el_loadN a80 rowE hA hr) <| WL.e e_move ?_
    refine WL.h (h_cally (hy r) ?_)
    refine WL.e e_lss ?_
    refine WL.next ?_
    refine WP.cond rfl (fun h5 => ?_) (fun h5 => ?_)
    · rw [cmpS_lt] at h5
      refine WP.reg ?_
      refine WL.e e_move <| WL.e (e_add (c := (((i + j) / 2 + 1 : Nat) : Int)) rfl rfl (by rw [w_i64 (by omega) (by omega)]; omega)) <| WL.e e_assign ?_
      refine WL.nil ?_
      refine PO.blockN ?_
      exact PO.againK ((i + j) / 2 + 1, j) ⟨low_gt hl hr h5, h2, h3⟩ (by simp only; omega)
    · rw [cmpS_lt] at h5
      refine WP.reg ?_
      refine WL.e e_move <| WL.e e_assign ?_
      refine WL.nil ?_
      refine PO.blockN ?_
      exact PO.againK (i, (i + j) / 2) ⟨h1, low_le hr h5, by simp only; omega⟩ (by simp only; omega)
  · obtain rfl : i = lowI l k := by rw [decide_eq_false_iff_not] at h4; omega
    refine WP.exit ?_
    refine PO.past nofun ?_
    refine PO.round nofun ?_
    refine PO.blockX ?_
    refine PO.next ?_
    refine WP.seq ?_
    refine WP.reg ?_
    refine WL.e e_move <| WL.e e_move <| WL.e e_move <| WL.e e_lss <| WL.e e_move ?_
    refine WL.bool 39 rfl (fun h6 => ?_) (fun h6 => ?_)
    · obtain ⟨r, hr⟩ : ∃ r, l[lowI l k]? = some r := ⟨_, List.getElem?_eq_getElem (by rw [decide_eq_true_eq] at h6; omega)⟩
      refine WL.e e_move <| WL.e e_move <| WL.e e_move ?_
      refine WL.e (el_ia (j := lowI l k) sl36 hA (idx_lt hr)) ?_
      refine WL.e (el_loadN a80 rowE hA hr) <| WL.e e_move ?_
      refine WL.h (h_cally (hy r) ?_)
      refine WL.e e_eql <| WL.e e_pick_t <| WL.e e_assign <| WL.e e_assign ?_
      refine WL.next ?_
      refine WP.ret ?_
      exact PO.finE Try.results96 (rv_tmp (rv_tmp rv_nil)) (by simp [hasI, hr, cmpS_eq]) hK
    · skip
      refine WL.skip <| WL.skip <| WL.skip <| WL.skip <| WL.skip <| WL.skip <| WL.skip <| WL.skip <| WL.e e_pick_f <| WL.e e_assign <| WL.e e_assign ?_
      refine WL.next ?_
      refine WP.ret ?_
      exact PO.finE Try.results96 (rv_tmp (rv_tmp rv_nil)) (by rw [decide_eq_false_iff_not] at h6; simp [hasI, List.getElem?_eq_none (show l.length ≤ lowI l k by omega)]) hK

theorem place_spec {g : World} {A : HP} {u : Value} {l : List RowM} (k : ByteArray) (hA : RL A 2 RowM.c u l) (hl : Rising l) (hn : l.length ≤ 68719476736) :
    Spec Try.prog g 89 [u, .string k, .func (.func 90) #[] #[]] [A] fun K R => K (.tuple #[.int .i64 (lowI l k), .bool (hasI l k)]) (A :: R) := by
  refine Spec.intro Try.func89 rfl Try.ntmps89 rfl fun R K hK => ?_
  refine WP.seq ?_
  refine WP.reg ?_
  refine WL.h (h_box fun b1 => ?_)
  refine WL.e e_assign <| WL.e e_assign ?_
  refine WL.next ?_
  refine WP.seq ?_
  refine WP.reg ?_
  refine WL.e e_move <| WL.e e_move <| WL.e e_makeFunc ?_
  refine WL.h (h_call (BSF_spec (k := k) hA hl hn (fun x => CallV.of_spec (fs := []) (cs := [.pointer (some ⟨b1, 0, none⟩)]) (cmpRow_spec x k b1) k97)) k96 ?_)
  refine WL.e e_extract <| WL.e e_extract <| WL.e e_assign <| WL.e e_assign ?_
  refine WL.next ?_
  refine WP.ret ?_
  exact PO.fin Try.results89 (rv_tmp (rv_tmp rv_nil)) hK

def Mm (p : Nat) (l : List RowM) : HP := fun S => ∃ x : SV, stars [cl p 109 [x.v, .bool true], Sl 80 2 RowM.c x.v l] S
theorem Mm_op {p : Nat} {l : List RowM} : ∀ S, Mm p l S → ∃ x : SV, stars [cl p 109 [x.v, .bool true], Sl 80 2 RowM.c x.v l] S := fun _ h => h

theorem find_spec {g : World} {p : Nat} {l : List RowM} (k : ByteArray) (hl : Rising l) (hn : l.length ≤ 68719476736) : Spec Try.prog g 74 [.pointer (some ⟨p, 0, none⟩), .string k] [Mm p l] fun K R => K (.tuple #[.int .i64 (lowI l k), .bool (hasI l k)]) (Mm p l :: R) := by
  refine Spec.intro Try.func74 rfl Try.ntmps74 rfl fun R K hK => ?_
  refine WP.opn (Mm_op (p := p) (l := l)) fun s => ?_
  refine WP.seq ?_
  refine WP.reg ?_
  refine WL.e e_assign <| WL.e e_assign ?_
  refine WL.next ?_
  refine WP.seq ?_
  refine WP.reg ?_
  refine WL.e e_move <| WL.e e_nil <| WL.e (e_fa f109_0) <| WL.e (e_load a36) <| WL.e e_move ?_
  refine WL.h (h_call (place_spec k (sl_rl (xs := l)) hl hn) k89 ?_)
  refine WL.e e_extract <| WL.e e_extract <| WL.e e_assign <| WL.e e_assign ?_
  refine WL.next ?_
  refine WP.ret ?_
  refine PO.cls (A := Mm p l) (B := [cl p 109 [s.v, .bool true], Sl 80 2 RowM.c (s.v) l]) (fun S h => ⟨s, h⟩) ?_
  exact PO.fin Try.results74 (rv_tmp (rv_tmp rv_nil)) hK

theorem MNew_spec {g : World} : Spec Try.prog g 33 [] [] fun K R => ∀ p, K (.pointer (some ⟨p, 0, none⟩)) (Mm p [] :: R) := by
  refine Spec.intro Try.func33 rfl Try.ntmps33 rfl fun R K hK => ?_
  refine WP.seq ?_
  refine WP.reg ?_
  refine WL.e e_assign ?_
  refine WL.next ?_
  refine WP.seq ?_
  refine WP.reg ?_
  refine WL.e (e_build z109 p109 (.z (.slice none 0 0) <| .o (.const (.bool true)) rfl <| .n)) ?_
  refine WL.h (h_box fun b1 => ?_)
  refine WL.e e_assign ?_
  refine WL.next ?_
  refine WP.ret ?_
  refine PO.nils 80 2 RowM.c none ?_
  refine PO.cls (A := Mm b1 []) (B := [cl b1 109 [.slice none 0 0, .bool true], Sl 80 2 RowM.c (.slice none 0 0) []]) (fun S h => ⟨⟨none, 0, 0⟩, h⟩) ?_
  exact PO.fin Try.results33 (rv_tmp rv_nil) (hK b1)

theorem Mthere_spec {g : World} {p : Nat} {l : List RowM} : Spec Try.prog g 44 [.pointer (some ⟨p, 0, none⟩)] [Mm p l] fun K R => K (.bool true) (Mm p l :: R) := by
  refine Spec.intro Try.func44 rfl Try.ntmps44 rfl fun R K hK => ?_
  refine WP.opn (Mm_op (p := p) (l := l)) fun s => ?_
  refine WP.seq ?_
  refine WP.reg ?_
  refine WL.e e_assign ?_
  refine WL.next ?_
  refine WP.seq ?_
  refine WP.reg ?_
  refine WL.e e_move <| WL.e (e_pne pt54) <| WL.e e_move ?_
  refine WL.bool 5 rfl (fun h => ?_) (fun h => ?_)
  · skip
    refine WL.e e_move <| WL.e e_nil <| WL.e (e_fa f109_1) <| WL.e (e_load a4) <| WL.e e_pick_t <| WL.e e_assign ?_
    refine WL.next ?_
    refine WP.ret ?_
    refine PO.cls (A := Mm p l) (B := [cl p 109 [s.v, .bool true], Sl 80 2 RowM.c (s.v) l]) (fun S h => ⟨s, h⟩) ?_
    exact PO.fin Try.results44 (rv_tmp rv_nil) hK
  · cases h -- end

theorem CloneR_spec {g : World} {A : HP} {u : Value} {xs : List RowM} (hA : RL A 2 RowM.c u xs) (hb : xs.length ≤ 68719476736) : Spec Try.prog g 73 [u] [A] fun K R => ∀ a m c, K (.slice a m c) (Sl 80 2 RowM.c (.slice a m c) xs :: A :: R) := by
  refine Spec.intro Try.func73 rfl Try.ntmps73 rfl fun R K hK => ?_
  refine WP.seq ?_
  refine WP.reg ?_
  refine WL.e e_assign ?_
  refine WL.next ?_
  refine WP.seq ?_
  refine WP.seq ?_
  refine WP.reg ?_
  refine WL.e e_move ?_
  refine WL.e (e_slnil sl36 hA) ?_
  refine WL.next ?_
  refine WP.cond rfl (fun h => ?_) (fun h => ?_)
  · refine WP.know (φ := xs = []) (Pick.know (A := A) (by exact .z) fun S hS => ?_) fun hx => ?_
    · rcases hA S hS with ⟨h0, _⟩ | ⟨b, o, c, l, t, e, _⟩
      · simpa using h0
      · rw [e] at h; cases h
    subst hx
    refine WP.nils 80 2 RowM.c none ?_
    refine WP.seq ?_
    refine WP.reg ?_
    refine WL.e e_assign ?_
    refine WL.next ?_
    refine WP.ret ?_
    refine PO.past nofun ?_
    exact PO.fin Try.results73 (rv_tmp rv_nil) (hK none 0 0)
  · skip
    refine WP.skip ?_
    refine PO.next ?_
    refine WP.seq ?_
    refine WP.reg ?_
    refine WL.h (h_bs0 sl36 (enc := RowM.c) fun a1 n1 c1 => ?_)
    refine WL.e e_move ?_
    refine WL.h (hl_append (xs := []) (ys := xs) sl36 rowE z80 hA (by simp; omega) fun a2 n2 c2 => ?_)
    rw [List.nil_append]
    refine WL.e e_assign ?_
    refine WL.next ?_
    refine WP.ret ?_
    exact PO.fin Try.results73 (rv_tmp rv_nil) (hK a2 n2 c2)

theorem Rows_spec {g : World} {p : Nat} {l : List RowM} (hn : l.length ≤ 68719476736) : Spec Try.prog g 45 [.pointer (some ⟨p, 0, none⟩)] [Mm p l] fun K R => ∀ a m c, K (.slice a m c) (Sl 80 2 RowM.c (.slice a m c) l :: Mm p l :: R) := by
  refine Spec.intro Try.func45 rfl Try.ntmps45 rfl fun R K hK => ?_
  refine WP.seq ?_
  refine WP.reg ?_
  refine WL.e e_assign ?_
  refine WL.next ?_
  refine WP.seq ?_
  refine WP.seq ?_
  refine WP.reg ?_
  refine WL.e e_move ?_
  refine WL.h (h_call (Mthere_spec) k44 ?_)
  refine WL.e e_not ?_
  refine WL.next ?_
  refine WP.cond rfl (fun h => ?_) (fun h => ?_)
  · cases h
  · refine WP.opn (Mm_op (p := p) (l := l)) fun s => ?_
    refine WP.skip ?_
    refine PO.next ?_
    refine WP.seq ?_
    refine WP.reg ?_
    refine WL.e e_move <| WL.e e_nil <| WL.e (e_fa f109_0) <| WL.e (e_load a36) ?_
    refine WL.h (h_call (CloneR_spec (sl_rl (xs := l)) hn) k73 ?_)
    intro a m c
    refine WL.e e_assign ?_
    refine WL.next ?_
    refine WP.ret ?_
    refine PO.cls (A := Mm p l) (B := [cl p 109 [s.v, .bool true], Sl 80 2 RowM.c (s.v) l]) (fun S h => ⟨s, h⟩) ?_
    exact PO.fin Try.results45 (rv_tmp rv_nil) (hK a m c)

theorem Twin_spec {g : World} {p : Nat} {l : List RowM} (hn : l.length ≤ 68719476736) : Spec Try.prog g 23 [.pointer (some ⟨p, 0, none⟩)] [Mm p l] fun K R => ∀ q, K (.pointer (some ⟨q, 0, none⟩)) (Mm q l :: Mm p l :: R) := by
  refine Spec.intro Try.func23 rfl Try.ntmps23 rfl fun R K hK => ?_
  refine WP.seq ?_
  refine WP.reg ?_
  refine WL.e e_assign ?_
  refine WL.next ?_
  refine WP.seq ?_
  refine WP.seq ?_
  refine WP.reg ?_
  refine WL.e e_move ?_
  refine WL.h (h_call (Mthere_spec) k44 ?_)
  refine WL.e e_not ?_
  refine WL.next ?_
  refine WP.cond rfl (fun h => ?_) (fun h => ?_)
  · cases h
  · skip
    refine WP.skip ?_
    refine PO.next ?_
    refine WP.seq ?_
    refine WP.reg ?_
    refine WL.e e_move ?_
    refine WL.h (h_call (Rows_spec hn) k45 ?_)
    intro a m c
    refine WL.e (e_build z109 p109 (.o (.tmp 7) rfl <| .o (.const (.bool true)) rfl <| .n)) ?_
    refine WL.h (h_box fun b1 => ?_)
    refine WL.e e_assign ?_
    refine WL.next ?_
    refine WP.ret ?_
    refine PO.cls (A := Mm b1 l) (B := [cl b1 109 [.slice a m c, .bool true], Sl 80 2 RowM.c (.slice a m c) l]) (fun S h => ⟨⟨a, m, c⟩, h⟩) ?_
    exact PO.fin Try.results23 (rv_tmp rv_nil) (hK b1)

end Go.SL
