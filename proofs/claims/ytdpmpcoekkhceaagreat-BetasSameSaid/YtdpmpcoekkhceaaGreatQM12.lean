/- VA SLw SLx: rules and walks, several texts in one. -/
import Derived.Test.YtdpmpcoekkhceaaGreatQM11
import Derived.Test.YtdpmpcoekkhceaaGreatProg
import Derived.KernelRfl
set_option linter.unusedSimpArgs false
set_option linter.unusedVariables false
namespace Go.SL.VA
open Go Go.Proofs Go.SL
theorem a22 : aggOf Tryz.prog 22 = some none := by kernel_rfl
theorem a29 : aggOf Tryz.prog 29 = some none := by kernel_rfl
theorem a31 : aggOf Tryz.prog 31 = some (some 1) := by kernel_rfl
theorem a34 : aggOf Tryz.prog 34 = some none := by kernel_rfl
theorem a40 : aggOf Tryz.prog 40 = some (some 2) := by kernel_rfl
theorem a9 : aggOf Tryz.prog 9 = some none := by kernel_rfl
theorem eqgRow : Tryz.prog.eqGuardType Tryz.prog.depth 40 = false := by kernel_rfl
theorem f31_0 : fldOf Tryz.prog 31 0 = some 0 := by kernel_rfl
theorem f36_0 : fldOf Tryz.prog 36 0 = some 0 := by kernel_rfl
theorem f36_1 : fldOf Tryz.prog 36 1 = some 1 := by kernel_rfl
theorem f36_2 : fldOf Tryz.prog 36 2 = some 2 := by kernel_rfl
theorem f36_3 : fldOf Tryz.prog 36 3 = some 3 := by kernel_rfl
theorem f40_0 : fldOf Tryz.prog 40 0 = some 0 := by kernel_rfl
theorem f40_1 : fldOf Tryz.prog 40 1 = some 1 := by kernel_rfl
theorem k122 : callable Tryz.prog 122 = true := by kernel_rfl
theorem k125 : callable Tryz.prog 125 = true := by kernel_rfl
theorem k126 : callable Tryz.prog 126 = true := by kernel_rfl
theorem k127 : callable Tryz.prog 127 = true := by kernel_rfl
theorem k34 : callable Tryz.prog 34 = true := by kernel_rfl
theorem k35 : callable Tryz.prog 35 = true := by kernel_rfl
theorem k69 : callable Tryz.prog 69 = true := by kernel_rfl
theorem k71 : callable Tryz.prog 71 = true := by kernel_rfl
theorem k72 : callable Tryz.prog 72 = true := by kernel_rfl
theorem k73 : callable Tryz.prog 73 = true := by kernel_rfl
theorem k74 : callable Tryz.prog 74 = true := by kernel_rfl
theorem k85 : callable Tryz.prog 85 = true := by kernel_rfl
theorem mixedOk : Tryz.prog.follows .mixedOrders = true := by kernel_rfl
theorem p31 : placesOf Tryz.prog 31 = some [(0, 1)] := by kernel_rfl
theorem p69 : placesOf Tryz.prog 69 = some [(0, 1), (1, 1)] := by kernel_rfl
theorem s29 : szOf Tryz.prog 29 = some 1 := by kernel_rfl
theorem s31 : szOf Tryz.prog 31 = some 1 := by kernel_rfl
theorem sl29 : slOf Tryz.prog 29 = some (40, 2, 24) := by kernel_rfl
theorem sl60 : slOf Tryz.prog 60 = some (36, 4, 48) := by kernel_rfl
theorem sl61 : slOf Tryz.prog 61 = some (31, 1, 24) := by kernel_rfl
theorem stoodRow : Tryz.prog.stoodInHeld 40 = false := by kernel_rfl
theorem z31 : zeroOf Tryz.prog 31 = some [.slice none 0 0] := by kernel_rfl
theorem z69 : zeroOf Tryz.prog 69 = some [.string .empty, .string .empty] := by kernel_rfl
end Go.SL.VA
namespace Go.SL
open Go Go.Proofs VA
theorem SameRows_spec {g : World} {A B : HP} {u v : Value} {xs ys : List RowM} (hA : RL A 2 RowM.c u xs) (hB : RL B 2 RowM.c v ys) (hn : xs.length ≤ 68719476736) : Spec Tryz.prog g 34 [u, v] [A, B] fun K R => K (.bool (decide (xs = ys))) (A :: B :: R) := by
  refine Spec.intro Tryz.func34 rfl Tryz.ntmps34 rfl fun R K hK => ?_
  refine WP.seq ?_
  refine WP.reg ?_
  refine WL.e e_assign ?_
  refine WL.next ?_
  refine WP.seq ?_
  refine WP.seq ?_
  refine WP.reg ?_
  refine WL.e e_move ?_
  refine WL.e (el_len sl29 hA) <| WL.e e_move ?_
  refine WL.e (el_len sl29 hB) <| WL.e e_neq ?_
  refine WL.next ?_
  refine WP.cond rfl (fun h1 => ?_) (fun h1 => ?_)
  · replace h1 : xs ≠ ys := fun e => by subst e; simp at h1
    refine WP.seq ?_
    refine WP.reg ?_
    refine WL.e e_assign ?_
    refine WL.next ?_
    refine WP.ret ?_
    refine PO.past nofun ?_
    exact PO.finE Tryz.results34 (rv_tmp rv_nil) (by rw [decide_eq_false h1]; rfl) hK
  · replace h1 : xs.length = ys.length := by simp at h1; omega
    refine WP.skip ?_
    refine PO.next ?_
    refine WP.seq ?_
    refine WP.seq ?_
    refine WP.reg ?_
    refine WL.e e_assign ?_
    refine WL.next ?_
    refine WP.block ?_
    refine WP.loopK (fun (i : Nat) => [(5, .int .i64 i)]) (fun (i : Nat) => A :: B :: R) [(0, _), (1, _)] (fun (i : Nat) => i ≤ xs.length ∧ xs.take i = ys.take i) (fun (i : Nat) => xs.length - i) 0 (⟨Nat.zero_le _, rfl⟩) ?_
    rintro i ⟨hi, he⟩
    refine WP.seq ?_
    refine WP.seq ?_
    refine WP.reg ?_
    refine WL.e e_move <| WL.e e_move ?_
    refine WL.e (el_len sl29 hA) <| WL.e e_lss ?_
    refine WL.next ?_
    refine WP.cond rfl (fun h2 => ?_) (fun h2 => ?_)
    · have hlt : i < xs.length := by rw [decide_eq_true_eq] at h2; omega
      obtain ⟨x, hx⟩ : ∃ x, xs[i]? = some x := ⟨_, List.getElem?_eq_getElem hlt⟩
      obtain ⟨y, hy⟩ : ∃ y, ys[i]? = some y := ⟨_, List.getElem?_eq_getElem (by omega)⟩
      refine WP.skip ?_
      refine PO.next ?_
      refine WP.seq ?_
      refine WP.block ?_
      refine WP.seq ?_
      refine WP.draws mixedOk 9 ?_
      refine RW.e 0 rfl e_move <| RW.e 1 rfl e_move ?_
      refine RW.e 2 rfl (el_ia (j := i) sl29 hA hlt) ?_
      refine RW.e 3 rfl (el_loadN (a := x) a40 rowE hA hx) <| RW.e 4 rfl e_move <| RW.e 5 rfl e_move ?_
      refine RW.e 6 rfl (el_ia (j := i) sl29 hB (by omega)) ?_
      refine RW.e 7 rfl (el_loadN (a := y) a40 rowE hB hy) ?_
      refine RW.e 8 rfl (e_rowne (a := x) (b := y) Tryz.underlying40 Tryz.underlying9 Tryz.underlying22 a9 a22 stoodRow eqgRow rfl rfl) ?_
      refine RW.done ?_
      refine PO.next ?_
      refine WP.cond rfl (fun h3 => ?_) (fun h3 => ?_)
      · replace h3 : xs ≠ ys := fun e => by subst e; rw [hx] at hy; cases hy; simp at h3
        refine WP.seq ?_
        refine WP.reg ?_
        refine WL.e e_assign ?_
        refine WL.next ?_
        refine WP.ret ?_
        refine PO.blockR ?_
        refine PO.past nofun ?_
        refine PO.round nofun ?_
        refine PO.blockR ?_
        refine PO.past nofun ?_
        exact PO.finE Tryz.results34 (rv_tmp rv_nil) (by rw [decide_eq_false h3]; rfl) hK
      · replace h3 : x = y := by simpa using h3
        refine WP.skip ?_
        refine PO.blockN ?_
        refine PO.next ?_
        refine WP.reg ?_
        refine WL.e e_move <| WL.e (e_add (c := ((i + 1 : Nat) : Int)) rfl rfl (by rw [w_i64 (by omega) (by omega)]; omega)) <| WL.e e_assign ?_
        refine WL.nil ?_
        exact PO.againK (i + 1) ⟨by omega, by rw [take_snoc hx, take_snoc hy, he, h3]⟩ (by omega)
    · have hge : xs.length ≤ i := by rw [decide_eq_false_iff_not] at h2; omega
      replace h2 : xs = ys := by rwa [List.take_of_length_le hge, List.take_of_length_le (by omega)] at he
      refine WP.exit ?_
      refine PO.past nofun ?_
      refine PO.round nofun ?_
      refine PO.blockX ?_
      refine PO.next ?_
      refine WP.seq ?_
      refine WP.reg ?_
      refine WL.e e_assign ?_
      refine WL.next ?_
      refine WP.ret ?_
      exact PO.finE Tryz.results34 (rv_tmp rv_nil) (by rw [decide_eq_true h2]; rfl) hK
/-- Results: the slice of each, its rows. -/
abbrev ResV := SV × List RowM
def resC (x : ResV) : List Value := [x.1.v]
theorem resE : EncOk 1 resC := ⟨fun _ => rfl, fun _ => rfl⟩
def resR (x : ResV) : HP := Sl 40 2 RowM.c x.1.v x.2
def ResR (l : List ResV) : HP := bun (l.map resR)
theorem ResR_nil {L : List HP} {S : Piece} (h : stars L S) : stars (ResR [] :: L) S := bun_stars (L := []) h
theorem ResR_snoc {l : List ResV} {x : ResV} : ∀ S, stars [ResR l, resR x] S → ResR (l ++ [x]) S := fun S h => by
  have := stars_bun h
  unfold ResR bun
  rwa [List.map_append]
theorem RdS.mono {S T : Piece} {z n : Nat} {u : Value} {cs : List Value} (h : RdS S z u n cs) (hl : le S T) : RdS T z u n cs := by
  rcases h with h | ⟨b, o, c, l, t, h1, h2, h3, h4, h5⟩
  · exact .inl h
  · exact .inr ⟨b, o, c, l, t, h1, h2, hl _ _ h3, h4, h5⟩
theorem stars_mem {A : HP} {L : List HP} (h : A ∈ L) : ∀ S, stars L S → ∃ T, le T S ∧ A T := by
  induction L with
  | nil => cases h
  | cons B L ih =>
    rintro S ⟨S1, S2, _, h1, h2, h3, h4⟩
    rcases List.mem_cons.1 h with rfl | h
    · exact ⟨S1, h1, h3⟩
    · obtain ⟨T, h5, h6⟩ := ih h S2 h4
      exact ⟨T, le_trans h5 h2, h6⟩
theorem res_rl {l : List ResV} {x : ResV} (h : x ∈ l) : RL (ResR l) 2 RowM.c x.1.v x.2 := fun S hS => by
  obtain ⟨T, h1, h2⟩ := stars_mem (List.mem_map.2 ⟨x, h, rfl⟩ : resR x ∈ l.map resR) S hS
  exact RdS.mono (sl_rl T h2) h1
theorem SameResult_spec {g : World} {A B : HP} {u v : SV} {xs ys : List RowM} (hA : RL A 2 RowM.c u.v xs) (hB : RL B 2 RowM.c v.v ys) (hn : xs.length ≤ 68719476736) : Spec Tryz.prog g 35 [.agg #[u.v], .agg #[v.v]] [A, B] fun K R => K (.bool (decide (xs = ys))) (A :: B :: R) := by
  refine Spec.intro Tryz.func35 rfl Tryz.ntmps35 rfl fun R K hK => ?_
  refine WP.seq ?_
  refine WP.reg ?_
  refine WL.h (h_box fun b1 => ?_)
  refine WL.h (h_box fun b2 => ?_)
  refine WL.e e_assign ?_
  refine WL.next ?_
  refine WP.seq ?_
  refine WP.reg ?_
  refine WL.e (e_fa f31_0) <| WL.e (e_load a29) <| WL.e (e_fa f31_0) <| WL.e (e_load a29) ?_
  refine WL.h (h_call (SameRows_spec hA hB hn) k34 ?_)
  refine WL.e e_assign ?_
  refine WL.next ?_
  refine WP.ret ?_
  exact PO.fin Tryz.results35 (rv_tmp rv_nil) hK
theorem SameResults_spec {g : World} {A B : HP} {u v : Value} {xs ys : List ResV} (hA : RL A 1 resC u xs) (hB : RL B 1 resC v ys) (hn : xs.length ≤ 68719476736) (hl : ∀ x ∈ xs, x.2.length ≤ 68719476736) : Spec Tryz.prog g 33 [u, v] [A, B, ResR xs, ResR ys] fun K R => K (.bool (decide (xs.map (·.2) = ys.map (·.2)))) (A :: B :: ResR xs :: ResR ys :: R) := by
  refine Spec.intro Tryz.func33 rfl Tryz.ntmps33 rfl fun R K hK => ?_
  refine WP.seq ?_
  refine WP.reg ?_
  refine WL.e e_assign ?_
  refine WL.next ?_
  refine WP.seq ?_
  refine WP.seq ?_
  refine WP.reg ?_
  refine WL.e e_move ?_
  refine WL.e (el_len sl61 hA) <| WL.e e_move ?_
  refine WL.e (el_len sl61 hB) <| WL.e e_neq ?_
  refine WL.next ?_
  refine WP.cond rfl (fun h1 => ?_) (fun h1 => ?_)
  · replace h1 : xs.map (·.2) ≠ ys.map (·.2) := fun e => by have := congrArg List.length e; simp at this; simp [this] at h1
    refine WP.seq ?_
    refine WP.reg ?_
    refine WL.e e_assign ?_
    refine WL.next ?_
    refine WP.ret ?_
    refine PO.past nofun ?_
    exact PO.finE Tryz.results33 (rv_tmp rv_nil) (by rw [decide_eq_false h1]; rfl) hK
  · replace h1 : xs.length = ys.length := by simp at h1; omega
    refine WP.skip ?_
    refine PO.next ?_
    refine WP.seq ?_
    refine WP.seq ?_
    refine WP.reg ?_
    refine WL.e e_assign ?_
    refine WL.next ?_
    refine WP.block ?_
    refine WP.loopK (fun (i : Nat) => [(5, .int .i64 i)]) (fun (i : Nat) => A :: B :: ResR xs :: ResR ys :: R) [(0, _), (1, _)] (fun (i : Nat) => i ≤ xs.length ∧ (xs.take i).map (·.2) = (ys.take i).map (·.2)) (fun (i : Nat) => xs.length - i) 0 (⟨Nat.zero_le _, rfl⟩) ?_
    rintro i ⟨hi, he⟩
    refine WP.seq ?_
    refine WP.seq ?_
    refine WP.reg ?_
    refine WL.e e_move <| WL.e e_move ?_
    refine WL.e (el_len sl61 hA) <| WL.e e_lss ?_
    refine WL.next ?_
    refine WP.cond rfl (fun h2 => ?_) (fun h2 => ?_)
    · have hlt : i < xs.length := by rw [decide_eq_true_eq] at h2; omega
      obtain ⟨x, hx⟩ : ∃ x, xs[i]? = some x := ⟨_, List.getElem?_eq_getElem hlt⟩
      obtain ⟨y, hy⟩ : ∃ y, ys[i]? = some y := ⟨_, List.getElem?_eq_getElem (by omega)⟩
      refine WP.skip ?_
      refine PO.next ?_
      refine WP.seq ?_
      refine WP.block ?_
      refine WP.seq ?_
      refine WP.draws mixedOk 10 ?_
      refine RW.e 0 rfl e_move <| RW.e 1 rfl e_move ?_
      refine RW.e 2 rfl (el_ia (j := i) sl61 hA hlt) ?_
      refine RW.e 3 rfl (el_loadN (vs := resC x) (a := x) a31 resE hA hx (hv := ext_of (resE.len x))) <| RW.e 4 rfl e_move <| RW.e 5 rfl e_move ?_
      refine RW.e 6 rfl (el_ia (j := i) sl61 hB (by omega)) ?_
      refine RW.e 7 rfl (el_loadN (vs := resC y) (a := y) a31 resE hB hy (hv := ext_of (resE.len y))) ?_
      refine RW.any (is := [8]) rfl ⟨?_, trivial⟩
      refine RWat.h rfl rfl rfl ?_
      refine (h_call (SameResult_spec (u := x.1) (v := y.1) (res_rl (List.mem_of_getElem? hx)) (res_rl (List.mem_of_getElem? hy)) (hl x (List.mem_of_getElem? hx))) k35 ?_)
      refine ⟨trivial, ?_⟩
      refine RW.e 9 rfl e_not ?_
      refine RW.done ?_
      refine PO.next ?_
      refine WP.cond rfl (fun h3 => ?_) (fun h3 => ?_)
      · replace h3 : xs.map (·.2) ≠ ys.map (·.2) := fun e => by have := congrArg (·[i]?) e; simp [hx, hy] at this; simp [this] at h3
        refine WP.seq ?_
        refine WP.reg ?_
        refine WL.e e_assign ?_
        refine WL.next ?_
        refine WP.ret ?_
        refine PO.blockR ?_
        refine PO.past nofun ?_
        refine PO.round nofun ?_
        refine PO.blockR ?_
        refine PO.past nofun ?_
        exact PO.finE Tryz.results33 (rv_tmp rv_nil) (by rw [decide_eq_false h3]; rfl) hK
      · replace h3 : x.2 = y.2 := by simpa using h3
        refine WP.skip ?_
        refine PO.blockN ?_
        refine PO.next ?_
        refine WP.reg ?_
        refine WL.e e_move <| WL.e (e_add (c := ((i + 1 : Nat) : Int)) rfl rfl (by rw [w_i64 (by omega) (by omega)]; omega)) <| WL.e e_assign ?_
        refine WL.nil ?_
        exact PO.againK (i + 1) ⟨by omega, by rw [take_snoc hx, take_snoc hy, List.map_append, List.map_append, he]; simp [h3]⟩ (by omega)
    · have hge : xs.length ≤ i := by rw [decide_eq_false_iff_not] at h2; omega
      replace h2 : xs.map (·.2) = ys.map (·.2) := by rwa [List.take_of_length_le hge, List.take_of_length_le (by omega)] at he
      refine WP.exit ?_
      refine PO.past nofun ?_
      refine PO.round nofun ?_
      refine PO.blockX ?_
      refine PO.next ?_
      refine WP.seq ?_
      refine WP.reg ?_
      refine WL.e e_assign ?_
      refine WL.next ?_
      refine WP.ret ?_
      exact PO.finE Tryz.results33 (rv_tmp rv_nil) (by rw [decide_eq_true h2]; rfl) hK
theorem ask_spec {g : World} {p : Nat} {l : List RowM} (k : ByteArray) : Spec Tryz.prog g 127 [.pointer (some ⟨p, 0, none⟩), .string k] [Mm p l] fun K R => K (.int .i64 (if keyOk k then 0 else 1)) (Mm p l :: R) := by
  refine Spec.intro Tryz.func127 rfl Tryz.ntmps127 rfl fun R K hK => ?_
  refine WP.seq ?_
  refine WP.reg ?_
  refine WL.e e_assign ?_
  refine WL.next ?_
  refine WP.seq ?_
  refine WP.block ?_
  refine WP.seq ?_
  refine WP.reg ?_
  refine WL.e e_move ?_
  refine WL.h (h_call (Mthere_spec) k122 ?_)
  refine WL.e e_not <| WL.e e_assign ?_
  refine WL.next ?_
  refine WP.cond_f rfl ?_
  refine WP.seq ?_
  refine WP.reg ?_
  refine WL.e e_move ?_
  refine WL.h (h_call (Check_spec _) k85 ?_)
  refine WL.e e_not <| WL.e e_assign ?_
  refine WL.next ?_
  refine WP.cond rfl (fun h1 => ?_) (fun h1 => ?_)
  · replace h1 : keyOk k = false := by simpa using h1
    refine WP.seq ?_
    refine WP.reg ?_
    refine WL.e e_assign ?_
    refine WL.next ?_
    refine WP.ret ?_
    refine PO.blockR ?_
    refine PO.past nofun ?_
    exact PO.finE Tryz.results127 (rv_tmp rv_nil) (by rw [h1]; rfl) hK
  · replace h1 : keyOk k = true := by simpa using h1
    refine WP.skip ?_
    refine PO.blockN ?_
    refine PO.next ?_
    refine WP.seq ?_
    refine WP.reg ?_
    refine WL.e e_assign ?_
    refine WL.next ?_
    refine WP.ret ?_
    exact PO.finE Tryz.results127 (rv_tmp rv_nil) (by rw [h1]; rfl) hK
theorem MPut_spec {g : World} {p : Nat} {l : List RowM} (k : ByteArray) (v : UInt32) (hl : Rising l) (hn : l.length ≤ 68719476000) (hk : keyOk k = true) : Spec Tryz.prog g 72 [.pointer (some ⟨p, 0, none⟩), .string k, .int .u32 v.toNat] [Mm p l] fun K R => K (.int .i64 0) (Mm p (setR l k v) :: R) := by
  refine Spec.intro Tryz.func72 rfl Tryz.ntmps72 rfl fun R K hK => ?_
  refine WP.seq ?_
  refine WP.reg ?_
  refine WL.e e_assign ?_
  refine WL.next ?_
  refine WP.seq ?_
  refine WP.reg ?_
  refine WL.e e_move <| WL.e e_move ?_
  refine WL.h (h_call (ask_spec k) k127 ?_)
  rw [hk]
  refine WL.e e_assign ?_
  refine WL.next ?_
  refine WP.seq ?_
  refine WP.seq ?_
  refine WP.reg ?_
  refine WL.e e_move <| WL.e e_eql ?_
  refine WL.next ?_
  refine WP.cond_t rfl ?_
  refine WP.reg ?_
  refine WL.e e_move <| WL.e e_move <| WL.e e_move ?_
  refine WL.h (h_call (set_spec k v hl hn) k126 ?_)
  refine WL.next ?_
  refine WP.seq ?_
  refine WP.reg ?_
  refine WL.e e_move <| WL.e e_assign ?_
  refine WL.next ?_
  refine WP.ret ?_
  exact PO.fin Tryz.results72 (rv_tmp rv_nil) hK
theorem MDel_spec {g : World} {p : Nat} {l : List RowM} (k : ByteArray) (hl : Rising l) (hn : l.length ≤ 68719476000) (hk : keyOk k = true) : Spec Tryz.prog g 73 [.pointer (some ⟨p, 0, none⟩), .string k] [Mm p l] fun K R => ∀ e : Int, K (.int .i64 e) (Mm p (dropR l k) :: R) := by
  refine Spec.intro Tryz.func73 rfl Tryz.ntmps73 rfl fun R K hK => ?_
  refine WP.seq ?_
  refine WP.reg ?_
  refine WL.e e_assign ?_
  refine WL.next ?_
  refine WP.seq ?_
  refine WP.reg ?_
  refine WL.e e_move <| WL.e e_move ?_
  refine WL.h (h_call (ask_spec k) k127 ?_)
  rw [hk]
  refine WL.e e_assign ?_
  refine WL.next ?_
  refine WP.seq ?_
  refine WP.seq ?_
  refine WP.reg ?_
  refine WL.e e_move <| WL.e e_eql <| WL.e e_move ?_
  refine WL.bool 11 rfl (fun hg => ?_) (fun hg => ?_)
  · skip
    refine WL.e e_move <| WL.e e_move ?_
    refine WL.h (h_call (drop_spec k hl hn) k125 ?_)
    refine WL.e e_not <| WL.e e_pick_t ?_
    refine WL.next ?_
    refine WP.cond rfl (fun h2 => ?_) (fun h2 => ?_)
    · skip
      refine WP.seq ?_
      refine WP.reg ?_
      refine WL.e e_assign ?_
      refine WL.next ?_
      refine WP.ret ?_
      refine PO.past nofun ?_
      exact PO.fin Tryz.results73 (rv_tmp rv_nil) (hK 6)
    · skip
      refine WP.skip ?_
      refine PO.next ?_
      refine WP.seq ?_
      refine WP.reg ?_
      refine WL.e e_move <| WL.e e_assign ?_
      refine WL.next ?_
      refine WP.ret ?_
      exact PO.fin Tryz.results73 (rv_tmp rv_nil) (hK 0)
  · exact absurd hg (by decide) -- end
theorem Run_spec {g : World} {A B : HP} {u v : Value} {rows : List RowM} {l : List OpM} (hA : RL A 2 RowM.c u rows) (hB : RL B 4 OpM.c v l) (hr : Rising rows) (hk : KeysOk rows) (hl : ∀ x ∈ l, opOk x = true) (hn : rows.length + l.length ≤ 1000000000) :
    Spec Tryz.prog g 32 [u, v] [A, B] fun K R => ∀ (sv : SV) (ts : List ResV) a m c, ts.map (·.2) = (runM rows l).1 → K (.tuple #[sv.v, .slice a m c]) (Sl 31 1 resC sv.v ts :: ResR ts :: Sl 40 2 RowM.c (.slice a m c) (runM rows l).2 :: A :: B :: R) := by
  refine Spec.intro Tryz.func32 rfl Tryz.ntmps32 rfl fun R K hK => ?_
  refine WP.seq ?_
  refine WP.reg ?_
  refine WL.e e_assign <| WL.e e_assign ?_
  refine WL.next ?_
  refine WP.seq ?_
  refine WP.reg ?_
  refine WL.h (h_call (MNew_spec) k71 ?_)
  intro p
  refine WL.e e_assign ?_
  refine WL.next ?_
  refine WP.seq ?_
  refine WP.seq ?_
  refine WP.reg ?_
  refine WL.e e_assign ?_
  refine WL.next ?_
  refine WP.block ?_
  refine WP.loopK (fun (i : Nat) => [(7, .int .i64 i)]) (fun (i : Nat) => Mm p (rows.take i) :: A :: B :: R) [(0, _), (1, _), (4, _), (5, _), (6, _)] (fun (i : Nat) => i ≤ rows.length) (fun (i : Nat) => rows.length - i) 0 (Nat.zero_le _) ?_
  intro i hi
  refine WP.seq ?_
  refine WP.seq ?_
  refine WP.reg ?_
  refine WL.e e_move <| WL.e e_move ?_
  refine WL.e (el_len sl29 hA) <| WL.e e_lss ?_
  refine WL.next ?_
  refine WP.cond rfl (fun h1 => ?_) (fun h1 => ?_)
  · have hlt : i < rows.length := by rw [decide_eq_true_eq] at h1; omega
    obtain ⟨x, hx⟩ : ∃ x, rows[i]? = some x := ⟨_, List.getElem?_eq_getElem hlt⟩
    refine WP.skip ?_
    refine PO.next ?_
    refine WP.seq ?_
    refine WP.block ?_
    refine WP.draws mixedOk 12 ?_
    refine RW.e 0 rfl e_move <| RW.e 1 rfl e_move <| RW.e 2 rfl e_move ?_
    refine RW.e 3 rfl (el_ia (j := i) sl29 hA hlt) ?_
    refine RW.e 4 rfl (el_fa (z := 2) (j := i) f40_0 hA hlt) ?_
    refine RW.e 5 rfl (el_load0 (j := i) (a := x) a9 rowE hA hx) <| RW.e 6 rfl e_move <| RW.e 7 rfl e_move ?_
    refine RW.e 8 rfl (el_ia (j := i) sl29 hA hlt) ?_
    refine RW.e 9 rfl (el_fa (z := 2) (j := i) f40_1 hA hlt) ?_
    refine RW.e 10 rfl (el_load (j := i) (f := 1) (a := x) a22 rowE hA hx) ?_
    refine RW.any (is := [11]) rfl ⟨?_, trivial⟩
    refine RWat.h rfl rfl rfl ?_
    refine (h_call (MPut_spec x.key x.val (hr.sublist (List.take_sublist _ _)) (by simp; omega) (hk x (List.mem_of_getElem? hx))) k72 ?_)
    refine ⟨trivial, ?_⟩
    refine RW.done ?_
    refine PO.blockN ?_
    refine PO.next ?_
    refine WP.reg ?_
    refine WL.e e_move <| WL.e (e_add (c := ((i + 1 : Nat) : Int)) rfl rfl (by rw [w_i64 (by omega) (by omega)]; omega)) <| WL.e e_assign ?_
    refine WL.nil ?_
    rw [setR_app (rising_take hr hx), show rows.take i ++ [⟨x.key, x.val⟩] = rows.take (i + 1) from (take_snoc hx).symm]
    exact PO.againK (i + 1) (by omega) (by omega)
  · rw [List.take_of_length_le (show rows.length ≤ i by rw [decide_eq_false_iff_not] at h1; omega)]
    refine WP.exit ?_
    refine PO.past nofun ?_
    refine PO.round nofun ?_
    refine PO.blockX ?_
    refine PO.next ?_
    refine WP.seq ?_
    refine WP.reg ?_
    refine WL.e e_assign ?_
    refine WL.next ?_
    refine WP.seq ?_
    refine WP.seq ?_
    refine WP.reg ?_
    refine WL.e e_assign ?_
    refine WL.next ?_
    refine WP.block ?_
    refine WP.nils 31 1 resC none ?_
    refine WP.conv (fun S h => ResR_nil h) ?_
    refine WP.loopK (fun (x : Nat × SV × List ResV) => [(9, .int .i64 x.1), (8, x.2.1.v)]) (fun (x : Nat × SV × List ResV) => Sl 31 1 resC x.2.1.v x.2.2 :: ResR x.2.2 :: Mm p (runM rows (l.take x.1)).2 :: A :: B :: R) [(1, _), (4, _), (5, _), (6, _)] (fun (x : Nat × SV × List ResV) => x.1 ≤ l.length ∧ x.2.2.map (·.2) = (runM rows (l.take x.1)).1) (fun (x : Nat × SV × List ResV) => l.length - x.1) (0, ⟨none, 0, 0⟩, []) (⟨Nat.zero_le _, rfl⟩) ?_
    rintro ⟨i, w8, ts⟩ ⟨hi, ht⟩
    simp only at hi ht
    dsimp only
    obtain ⟨hr1, hr2, hr3⟩ := runM_rows hr (l.take i)
    rw [List.length_take] at hr2
    refine WP.seq ?_
    refine WP.seq ?_
    refine WP.reg ?_
    refine WL.e e_move <| WL.e e_move ?_
    refine WL.e (el_len sl60 hB) <| WL.e e_lss ?_
    refine WL.next ?_
    refine WP.cond rfl (fun h2 => ?_) (fun h2 => ?_)
    · have hlt : i < l.length := by rw [decide_eq_true_eq] at h2; omega
      obtain ⟨x, hx⟩ : ∃ x, l[i]? = some x := ⟨_, List.getElem?_eq_getElem hlt⟩
      have hxo := hl x (List.mem_of_getElem? hx)
      refine WP.skip ?_
      refine PO.next ?_
      refine WP.seq ?_
      refine WP.block ?_
      refine WP.seq ?_
      refine WP.reg ?_
      refine WL.e (e_build z31 p31 (.z (.slice none 0 0) <| .n)) ?_
      refine WL.h (h_alloc z31 fun b1 => ?_)
      refine WL.h' (h_store s31 ?_)
      refine WL.next ?_
      refine WP.seq ?_
      refine WP.seq ?_
      refine WP.reg ?_
      refine WL.e e_move <| WL.e e_move ?_
      refine WL.e (el_ia (j := i) sl60 hB hlt) ?_
      refine WL.e (el_fa (z := 4) (j := i) f36_0 hB hlt) ?_
      refine WL.e (el_load0 (j := i) (a := x) a34 opE hB hx) ?_
      refine WL.next ?_
      refine WP.block ?_
      refine WP.seq ?_
      refine WP.reg ?_
      refine WL.e (e_eql8 (b := 1)) <| WL.e e_assign ?_
      refine WL.next ?_
      refine WP.cond rfl (fun h3 => ?_) (fun h3 => ?_)
      · replace h3 : x.kind = 1 := by simpa using h3
        have hm2 : runM rows (l.take (i + 1)) = ((runM rows (l.take i)).1 ++ [scanR (runM rows (l.take i)).2 (one x.key) 1], (runM rows (l.take i)).2) := by rw [runM_take rows hx, show doneO (runM rows (l.take i)).2 x = (scanR (runM rows (l.take i)).2 (one x.key) 1, (runM rows (l.take i)).2) by simp [doneO, h3]]
        refine WP.draws mixedOk 15 ?_
        refine RW.e 0 rfl e_move <| RW.e 1 rfl e_move <| RW.e 2 rfl e_move ?_
        refine RW.e 3 rfl (el_ia (j := i) sl60 hB hlt) ?_
        refine RW.e 4 rfl (el_fa (z := 4) (j := i) f36_1 hB hlt) ?_
        refine RW.e 5 rfl (el_load (j := i) (f := 1) (a := x) a9 opE hB hx) <| RW.e 6 rfl e_move <| RW.e 7 rfl e_move ?_
        refine RW.e 8 rfl (el_ia (j := i) sl60 hB hlt) ?_
        refine RW.e 9 rfl (el_fa (z := 4) (j := i) f36_1 hB hlt) ?_
        refine RW.e 10 rfl (el_load (j := i) (f := 1) (a := x) a9 opE hB hx) <| RW.e 11 rfl (e_build z69 p69 (.o (.tmp 56) rfl <| .o (.tmp 61) rfl <| .n)) ?_
        refine RW.any (is := [12]) rfl ⟨?_, trivial⟩
        refine RWat.h rfl rfl rfl ?_
        refine (h_call (Scan_spec (one x.key) 1 hr1 (by omega) (by decide)) k69 ?_)
        intro a5 n5 m5
        refine ⟨trivial, ?_⟩
        refine RW.e 13 rfl (e_fa f31_0) ?_
        refine RW.any (is := [14]) rfl ⟨?_, trivial⟩
        refine RWat.h' rfl rfl rfl ?_
        refine (h_store s29 ?_)
        refine ⟨trivial, ?_⟩
        refine RW.done ?_
        refine PO.blockN ?_
        refine PO.next ?_
        refine WP.reg ?_
        refine WL.e e_move <| WL.e (e_loadN a31) ?_
        refine WL.h (h_bs sl61 z31 (.a1 (.tmp 96) rfl <| .n) fun b2 => ?_)
        refine WL.h (hl_append (xs := ts) (ys := [((⟨a5, n5, m5⟩ : SV), scanR (runM rows (l.take i)).2 (one x.key) 1)]) sl61 resE z31 (lit_rl resE [((⟨a5, n5, m5⟩ : SV), scanR (runM rows (l.take i)).2 (one x.key) 1)] rfl) (by have := congrArg List.length ht; rw [List.length_map, hr3, List.length_take] at this; simp only [List.length_cons, List.length_nil]; omega) (fun a2 n2 m2 => ?_))
        refine WL.e e_assign ?_
        refine WL.nil ?_
        refine PO.blockN ?_
        refine PO.next ?_
        refine WP.reg ?_
        refine WL.e e_move <| WL.e (e_add (c := ((i + 1 : Nat) : Int)) rfl rfl (by rw [w_i64 (by omega) (by omega)]; omega)) <| WL.e e_assign ?_
        refine WL.nil ?_
        refine PO.cls (A := ResR (ts ++ [((⟨a5, n5, m5⟩ : SV), scanR (runM rows (l.take i)).2 (one x.key) 1)])) (B := [ResR ts, Sl 40 2 RowM.c (.slice a5 n5 m5) (scanR (runM rows (l.take i)).2 (one x.key) 1)]) (ResR_snoc (l := ts) (x := ((⟨a5, n5, m5⟩ : SV), scanR (runM rows (l.take i)).2 (one x.key) 1))) ?_
        refine PO.conv (conv1 (A := Mm p ((runM rows (l.take i)).2)) (B := Mm p (runM rows (l.take (i + 1))).2) (fun S h => by rw [hm2]; exact h) (by repeat first | exact .z | apply Put.s)) ?_
        exact PO.againK (i + 1, ⟨a2, n2, m2⟩, ts ++ [((⟨a5, n5, m5⟩ : SV), scanR (runM rows (l.take i)).2 (one x.key) 1)]) ⟨by simp only; omega, by simp only; rw [hm2, List.map_append, ht]; rfl⟩ (by simp only; omega)
      · replace h3 : x.kind ≠ 1 := by simpa using h3
        refine WP.seq ?_
        refine WP.reg ?_
        refine WL.e (e_eql8 (b := 4)) <| WL.e e_assign ?_
        refine WL.next ?_
        refine WP.cond rfl (fun h4 => ?_) (fun h4 => ?_)
        · replace h4 : x.kind = 4 := by simpa using h4
          have hm2 : runM rows (l.take (i + 1)) = ((runM rows (l.take i)).1 ++ [scanR (runM rows (l.take i)).2 ⟨x.key, x.to⟩ 256], (runM rows (l.take i)).2) := by rw [runM_take rows hx, show doneO (runM rows (l.take i)).2 x = (scanR (runM rows (l.take i)).2 ⟨x.key, x.to⟩ 256, (runM rows (l.take i)).2) by simp [doneO, h4]]
          refine WP.draws mixedOk 15 ?_
          refine RW.e 0 rfl e_move <| RW.e 1 rfl e_move <| RW.e 2 rfl e_move ?_
          refine RW.e 3 rfl (el_ia (j := i) sl60 hB hlt) ?_
          refine RW.e 4 rfl (el_fa (z := 4) (j := i) f36_1 hB hlt) ?_
          refine RW.e 5 rfl (el_load (j := i) (f := 1) (a := x) a9 opE hB hx) <| RW.e 6 rfl e_move <| RW.e 7 rfl e_move ?_
          refine RW.e 8 rfl (el_ia (j := i) sl60 hB hlt) ?_
          refine RW.e 9 rfl (el_fa (z := 4) (j := i) f36_2 hB hlt) ?_
          refine RW.e 10 rfl (el_load (j := i) (f := 2) (a := x) a9 opE hB hx) <| RW.e 11 rfl (e_build z69 p69 (.o (.tmp 72) rfl <| .o (.tmp 77) rfl <| .n)) ?_
          refine RW.any (is := [12]) rfl ⟨?_, trivial⟩
          refine RWat.h rfl rfl rfl ?_
          refine (h_call (Scan_spec ⟨x.key, x.to⟩ 256 hr1 (by omega) (by decide)) k69 ?_)
          intro a5 n5 m5
          refine ⟨trivial, ?_⟩
          refine RW.e 13 rfl (e_fa f31_0) ?_
          refine RW.any (is := [14]) rfl ⟨?_, trivial⟩
          refine RWat.h' rfl rfl rfl ?_
          refine (h_store s29 ?_)
          refine ⟨trivial, ?_⟩
          refine RW.done ?_
          refine PO.blockN ?_
          refine PO.next ?_
          refine WP.reg ?_
          refine WL.e e_move <| WL.e (e_loadN a31) ?_
          refine WL.h (h_bs sl61 z31 (.a1 (.tmp 96) rfl <| .n) fun b3 => ?_)
          refine WL.h (hl_append (xs := ts) (ys := [((⟨a5, n5, m5⟩ : SV), scanR (runM rows (l.take i)).2 ⟨x.key, x.to⟩ 256)]) sl61 resE z31 (lit_rl resE [((⟨a5, n5, m5⟩ : SV), scanR (runM rows (l.take i)).2 ⟨x.key, x.to⟩ 256)] rfl) (by have := congrArg List.length ht; rw [List.length_map, hr3, List.length_take] at this; simp only [List.length_cons, List.length_nil]; omega) (fun a2 n2 m2 => ?_))
          refine WL.e e_assign ?_
          refine WL.nil ?_
          refine PO.blockN ?_
          refine PO.next ?_
          refine WP.reg ?_
          refine WL.e e_move <| WL.e (e_add (c := ((i + 1 : Nat) : Int)) rfl rfl (by rw [w_i64 (by omega) (by omega)]; omega)) <| WL.e e_assign ?_
          refine WL.nil ?_
          refine PO.cls (A := ResR (ts ++ [((⟨a5, n5, m5⟩ : SV), scanR (runM rows (l.take i)).2 ⟨x.key, x.to⟩ 256)])) (B := [ResR ts, Sl 40 2 RowM.c (.slice a5 n5 m5) (scanR (runM rows (l.take i)).2 ⟨x.key, x.to⟩ 256)]) (ResR_snoc (l := ts) (x := ((⟨a5, n5, m5⟩ : SV), scanR (runM rows (l.take i)).2 ⟨x.key, x.to⟩ 256))) ?_
          refine PO.conv (conv1 (A := Mm p ((runM rows (l.take i)).2)) (B := Mm p (runM rows (l.take (i + 1))).2) (fun S h => by rw [hm2]; exact h) (by repeat first | exact .z | apply Put.s)) ?_
          exact PO.againK (i + 1, ⟨a2, n2, m2⟩, ts ++ [((⟨a5, n5, m5⟩ : SV), scanR (runM rows (l.take i)).2 ⟨x.key, x.to⟩ 256)]) ⟨by simp only; omega, by simp only; rw [hm2, List.map_append, ht]; rfl⟩ (by simp only; omega)
        · replace h4 : x.kind ≠ 4 := by simpa using h4
          refine WP.seq ?_
          refine WP.reg ?_
          refine WL.e (e_eql8 (b := 2)) <| WL.e e_assign ?_
          refine WL.next ?_
          refine WP.cond rfl (fun h5 => ?_) (fun h5 => ?_)
          · replace h5 : x.kind = 2 := by simpa using h5
            have hm2 : runM rows (l.take (i + 1)) = ((runM rows (l.take i)).1 ++ [[]], setR (runM rows (l.take i)).2 x.key x.val) := by rw [runM_take rows hx, show doneO (runM rows (l.take i)).2 x = ([], setR (runM rows (l.take i)).2 x.key x.val) by simp [doneO, h5]]
            refine WP.draws mixedOk 12 ?_
            refine RW.e 0 rfl e_move <| RW.e 1 rfl e_move <| RW.e 2 rfl e_move ?_
            refine RW.e 3 rfl (el_ia (j := i) sl60 hB hlt) ?_
            refine RW.e 4 rfl (el_fa (z := 4) (j := i) f36_1 hB hlt) ?_
            refine RW.e 5 rfl (el_load (j := i) (f := 1) (a := x) a9 opE hB hx) <| RW.e 6 rfl e_move <| RW.e 7 rfl e_move ?_
            refine RW.e 8 rfl (el_ia (j := i) sl60 hB hlt) ?_
            refine RW.e 9 rfl (el_fa (z := 4) (j := i) f36_3 hB hlt) ?_
            refine RW.e 10 rfl (el_load (j := i) (f := 3) (a := x) a22 opE hB hx) ?_
            refine RW.any (is := [11]) rfl ⟨?_, trivial⟩
            refine RWat.h rfl rfl rfl ?_
            refine (h_call (MPut_spec x.key x.val hr1 (by omega) (key_of hxo)) k72 ?_)
            refine ⟨trivial, ?_⟩
            refine RW.done ?_
            refine PO.blockN ?_
            refine PO.next ?_
            refine WP.reg ?_
            refine WL.e e_move <| WL.e (e_loadN a31) ?_
            refine WL.h (h_bs sl61 z31 (.a1 (.tmp 96) rfl <| .n) fun b4 => ?_)
            refine WL.h (hl_append (xs := ts) (ys := [((⟨none, 0, 0⟩ : SV), ([] : List RowM))]) sl61 resE z31 (lit_rl resE [((⟨none, 0, 0⟩ : SV), ([] : List RowM))] rfl) (by have := congrArg List.length ht; rw [List.length_map, hr3, List.length_take] at this; simp only [List.length_cons, List.length_nil]; omega) (fun a2 n2 m2 => ?_))
            refine WL.e e_assign ?_
            refine WL.nil ?_
            refine PO.blockN ?_
            refine PO.next ?_
            refine WP.reg ?_
            refine WL.e e_move <| WL.e (e_add (c := ((i + 1 : Nat) : Int)) rfl rfl (by rw [w_i64 (by omega) (by omega)]; omega)) <| WL.e e_assign ?_
            refine WL.nil ?_
            refine PO.nils 40 2 RowM.c none ?_
            refine PO.cls (A := ResR (ts ++ [((⟨none, 0, 0⟩ : SV), ([] : List RowM))])) (B := [ResR ts, Sl 40 2 RowM.c (.slice none 0 0) (([] : List RowM))]) (ResR_snoc (l := ts) (x := ((⟨none, 0, 0⟩ : SV), ([] : List RowM)))) ?_
            refine PO.conv (conv1 (A := Mm p (setR (runM rows (l.take i)).2 x.key x.val)) (B := Mm p (runM rows (l.take (i + 1))).2) (fun S h => by rw [hm2]; exact h) (by repeat first | exact .z | apply Put.s)) ?_
            exact PO.againK (i + 1, ⟨a2, n2, m2⟩, ts ++ [((⟨none, 0, 0⟩ : SV), ([] : List RowM))]) ⟨by simp only; omega, by simp only; rw [hm2, List.map_append, ht]; rfl⟩ (by simp only; omega)
          · replace h5 : x.kind ≠ 2 := by simpa using h5
            have hm2 : runM rows (l.take (i + 1)) = ((runM rows (l.take i)).1 ++ [[]], dropR (runM rows (l.take i)).2 x.key) := by rw [runM_take rows hx, show doneO (runM rows (l.take i)).2 x = ([], dropR (runM rows (l.take i)).2 x.key) by simp [doneO, h3, h4, h5]]
            refine WP.reg ?_
            refine WL.e e_move <| WL.e e_move <| WL.e e_move ?_
            refine WL.e (el_ia (j := i) sl60 hB hlt) ?_
            refine WL.e (el_fa (z := 4) (j := i) f36_1 hB hlt) ?_
            refine WL.e (el_load (j := i) (f := 1) (a := x) a9 opE hB hx) ?_
            refine WL.h (h_call (MDel_spec x.key hr1 (by omega) (key_of hxo)) k73 ?_)
            intro e0
            refine WL.nil ?_
            refine PO.blockN ?_
            refine PO.next ?_
            refine WP.reg ?_
            refine WL.e e_move <| WL.e (e_loadN a31) ?_
            refine WL.h (h_bs sl61 z31 (.a1 (.tmp 96) rfl <| .n) fun b5 => ?_)
            refine WL.h (hl_append (xs := ts) (ys := [((⟨none, 0, 0⟩ : SV), ([] : List RowM))]) sl61 resE z31 (lit_rl resE [((⟨none, 0, 0⟩ : SV), ([] : List RowM))] rfl) (by have := congrArg List.length ht; rw [List.length_map, hr3, List.length_take] at this; simp only [List.length_cons, List.length_nil]; omega) (fun a2 n2 m2 => ?_))
            refine WL.e e_assign ?_
            refine WL.nil ?_
            refine PO.blockN ?_
            refine PO.next ?_
            refine WP.reg ?_
            refine WL.e e_move <| WL.e (e_add (c := ((i + 1 : Nat) : Int)) rfl rfl (by rw [w_i64 (by omega) (by omega)]; omega)) <| WL.e e_assign ?_
            refine WL.nil ?_
            refine PO.nils 40 2 RowM.c none ?_
            refine PO.cls (A := ResR (ts ++ [((⟨none, 0, 0⟩ : SV), ([] : List RowM))])) (B := [ResR ts, Sl 40 2 RowM.c (.slice none 0 0) (([] : List RowM))]) (ResR_snoc (l := ts) (x := ((⟨none, 0, 0⟩ : SV), ([] : List RowM)))) ?_
            refine PO.conv (conv1 (A := Mm p (dropR (runM rows (l.take i)).2 x.key)) (B := Mm p (runM rows (l.take (i + 1))).2) (fun S h => by rw [hm2]; exact h) (by repeat first | exact .z | apply Put.s)) ?_
            exact PO.againK (i + 1, ⟨a2, n2, m2⟩, ts ++ [((⟨none, 0, 0⟩ : SV), ([] : List RowM))]) ⟨by simp only; omega, by simp only; rw [hm2, List.map_append, ht]; rfl⟩ (by simp only; omega)
    · rw [List.take_of_length_le (show l.length ≤ i by rw [decide_eq_false_iff_not] at h2; omega)] at ht ⊢
      refine WP.exit ?_
      refine PO.past nofun ?_
      refine PO.round nofun ?_
      refine PO.blockX ?_
      refine PO.next ?_
      refine WP.seq ?_
      refine WP.reg ?_
      refine WL.e e_move <| WL.e e_move ?_
      refine WL.h (h_call (Rows_spec (l := (runM rows l).2) (by have := (runM_rows hr l).2.1; omega)) k74 ?_)
      intro a9 m9 c9
      refine WL.e e_assign <| WL.e e_assign ?_
      refine WL.next ?_
      refine WP.ret ?_
      exact PO.fin Tryz.results32 (rv_tmp (rv_tmp rv_nil)) (hK w8 ts a9 m9 c9 ht)
end Go.SL
/- The steps of the walk: the end of a slice that is owned; a map that is looked at, or set, while it is gone through. -/
set_option linter.unusedSimpArgs false
set_option linter.unusedVariables false
set_option linter.unusedSectionVars false
namespace Go.SL
open Go
theorem own_from {S : Piece} {E z n i : Nat} {u : Value} {cs : List Value} (h : Own E z u n cs S) (hi : i < n) : Own E z (subV u i n none z) (n - i) (cs.drop (i * z)) S := by
  rcases h with ⟨rfl, _⟩ | ⟨b, o, c, l, rfl, h2, h3, h4, h5, h6⟩
  · omega
  · have e1 : c * z = i * z + (c - i) * z := by rw [← Nat.add_mul]; congr 1; omega
    refine .inr ⟨b, o + i * z, c - i, l, ?_, by omega, by omega, h4, by omega, ?_⟩
    · simp only [subV, Option.getD_none, if_neg (show ¬ c = i by omega), Option.map_some, add_none]
    · rw [h6, List.drop_take, List.drop_drop, ← Nat.sub_mul]
theorem sl_from {α : Type} {S : Piece} {E z i : Nat} {u : Value} {enc : α → List Value} {xs : List α} (he : EncOk z enc) (h : Sl E z enc u xs S) (hi : i < xs.length) : Sl E z enc (subV u i xs.length none z) (xs.drop i) S := by
  have := own_from h hi
  unfold Sl
  rw [List.length_drop, ← flat_drop he]; exact this
theorem own_to3 {S : Piece} {E z n i : Nat} {u : Value} {cs : List Value} (h : Own E z u n cs S) (hi : i ≤ n) : Own E z (subV u 0 i (some i) z) i (cs.take (i * z)) S := by
  rcases h with ⟨rfl, h2, a, h3⟩ | ⟨b, o, c, l, rfl, h2, h3, h4, h5, h6⟩
  · have : i = 0 := by omega
    subst this; subst h2; subst h3
    exact .inl ⟨rfl, by simp, a, by simp [subV]⟩
  · rcases Nat.eq_zero_or_pos i with rfl | h0
    · exact .inl ⟨rfl, by simp, _, by simp [subV]; rfl⟩
    · have e1 : i * z ≤ c * z := Nat.mul_le_mul_right z (by omega)
      refine .inr ⟨b, o, i, l, ?_, Nat.le_refl _, by omega, h4, by omega, ?_⟩
      · simp only [subV, Option.getD_some, if_neg (show ¬ i = 0 by omega), Option.map_some, Nat.zero_mul, add_none, Nat.sub_zero, Nat.add_zero]
      · rw [h6, List.take_take, Nat.min_eq_left (Nat.mul_le_mul_right _ hi)]
theorem sl_to3 {α : Type} {S : Piece} {E z i : Nat} {u : Value} {enc : α → List Value} {xs : List α} (he : EncOk z enc) (h : Sl E z enc u xs S) (hi : i ≤ xs.length) : Sl E z enc (subV u 0 i (some i) z) (xs.take i) S := by
  have := own_to3 h hi
  unfold Sl
  rw [List.length_take, Nat.min_eq_left hi, ← flat_take he]; exact this
/-- In 'A' the map 'm' holds these. -/
def RdM {κ : Type} (A : HP) (ek : κ → Value) (m : Value) (kvs : List (κ × Value)) : Prop := ∀ S, A S → ∃ b es clock, m = .map (some b) ∧ S b = some (.map (List.toArray es) clock) ∧ ents ek es kvs
theorem mp_rdm {κ : Type} {ek : κ → Value} {m : Value} {kvs : List (κ × Value)} : RdM (Mp ek m kvs) ek m kvs := fun _ ⟨b, es, clock, h1, h2, h3, _⟩ => ⟨b, es, clock, h1, h2, h3⟩
theorem mpit_rdm {κ : Type} {ek : κ → Value} {m it : Value} {kvs left : List (κ × Value)} {cur : Option (κ × Value)} : RdM (MpIt ek m it kvs left cur) ek m kvs := fun _ ⟨b, _, es, clock, _, h1, _, _, h2, _, h3, _⟩ => ⟨b, es, clock, h1, h2, h3⟩
section
variable {P : Program} {r : Option Nat} {g : World} {Γ : Env} {L M : List HP} {dst : Option Tmp} {t : TypeId} {pos : String} {aft : Array Edge} {gd : Option (Nat × Bool)}
variable {κ : Type} [DecidableEq κ] {kt : TypeId} {d : TypeDesc} {ek : κ → Value} {kvs : List (κ × Value)} {m : Value} {A : HP}
theorem Sat.rdm {w : World} (h : Sat g L w) (hA : RdM A ek m kvs) (hp : Pick L A M) : ∃ b es clock, m = .map (some b) ∧ w.heap[b]? = some (.map (List.toArray es) clock) ∧ ents ek es kvs := by
  obtain ⟨S1, S2, _, h1, _, h2, _⟩ := hp.to h.heap
  obtain ⟨b, es, clock, e1, e2, e3⟩ := hA _ h2
  exact ⟨b, es, clock, e1, h1 _ _ e2, e3⟩
theorem em_len {x : Operand} {T : TypeId} {e : TypeId} (ht : P.underlying T = some (.map kt e)) (hA : RdM A ek m kvs) (hx : ev Γ x = some m := by rfl) (hp : Pick L A M := by repeat first | exact .z | apply Pick.s) : EO P g ⟨dst, .call ⟨.builtin .len, #[x], #[T]⟩, t, pos, aft, gd⟩ Γ L (.int .i64 kvs.length) :=
  e_call_b (args := [x]) (vs := [m]) (by simp [evs, hx]) fun w cs hw => by
    obtain ⟨b, es, clock, rfl, hb, h3⟩ := hw.rdm hA hp
    simp [builtin, Builtin.len_, run_underlying ht, run_getObj hb, goInt, ents_len h3]
theorem em_lookup {x i : Operand} {T e : TypeId} {k : κ} {z : Value} (ht : P.underlying T = some (.map kt e)) (hk : KeyOk P kt d ek) (hz : (P.info? e).bind (·.zero) = some z) (hA : RdM A ek m kvs) (hx : ev Γ x = some m := by rfl) (hi : ev Γ i = some (ek k) := by rfl) (hp : Pick L A M := by repeat first | exact .z | apply Pick.s) :
    EO P g ⟨dst, .lookup T x i false, t, pos, aft, gd⟩ Γ L ((mget kvs k).getD z) :=
  .of (by simp) fun ρ hρ w hw => by
    obtain ⟨b, es, clock, rfl, hb, h3⟩ := hw.rdm hA hp
    simp only [execOp, hρ x _ (by simp [Op.operands]) hx, hρ i _ (by simp [Op.operands]) hi, Instr.lookup, Sem.run_bind, run_underlying ht, Result.andThen_ok, run_getObj hb (by simp), Sem.run_pure, run_checkKey hk, run_findKey hk k h3]
    cases hm : midx kvs k with
    | none => simp [midx_none.1 hm, run_zeroValue hz]
    | some j => obtain ⟨v, _, h2⟩ := midx_some hm; simp [h2]
theorem em_lookup2 {x i : Operand} {T e : TypeId} {k : κ} {z : Value} (ht : P.underlying T = some (.map kt e)) (hk : KeyOk P kt d ek) (hz : (P.info? e).bind (·.zero) = some z) (hA : RdM A ek m kvs) (hx : ev Γ x = some m := by rfl) (hi : ev Γ i = some (ek k) := by rfl) (hp : Pick L A M := by repeat first | exact .z | apply Pick.s) :
    EO P g ⟨dst, .lookup T x i true, t, pos, aft, gd⟩ Γ L (.tuple #[(mget kvs k).getD z, .bool (mget kvs k).isSome]) :=
  .of (by simp) fun ρ hρ w hw => by
    obtain ⟨b, es, clock, rfl, hb, h3⟩ := hw.rdm hA hp
    simp only [execOp, hρ x _ (by simp [Op.operands]) hx, hρ i _ (by simp [Op.operands]) hi, Instr.lookup, Sem.run_bind, run_underlying ht, Result.andThen_ok, run_getObj hb (by simp), Sem.run_pure, run_checkKey hk, run_findKey hk k h3]
    cases hm : midx kvs k with
    | none => simp [midx_none.1 hm, run_zeroValue hz]
    | some j => obtain ⟨v, _, h2⟩ := midx_some hm; simp [h2]
theorem ek_inj (hk : KeyOk P kt d ek) {a b : κ} (h : ek a = ek b) : a = b := by
  have h1 := hk.same a a
  have h2 := hk.same a b
  rw [← h, h1] at h2
  simpa using h2
/-- The one that has come last is set anew. -/
theorem h_mapUpdateIt {x i v : Operand} {T e : TypeId} {it : Value} {left : List (κ × Value)} {p : κ × Value} {u : Value} {N : List HP} {K : Value → List HP → Prop} (ht : P.underlying T = some (.map kt e)) (hk : KeyOk P kt d ek) (hnd : (kvs.map (·.1)).Nodup) (hK : K (.tuple #[]) N) (hx : ev Γ x = some m := by rfl) (hi : ev Γ i = some (ek p.1) := by rfl) (hv : ev Γ v = some u := by rfl)
    (hp : Put L (MpIt ek m it kvs left (some p)) (MpIt ek m it (mset kvs p.1 u) left none) N := by repeat first | exact .z | apply Put.s) : HO P r g ⟨dst, .mapUpdate T x i v, t, pos, aft, gd⟩ Γ L K :=
  HO.run_skip (by simp) fun a w ha hw => by
    obtain ⟨R, p1, p2⟩ := hp.picks
    obtain ⟨S1, S2, hd, l1, l2, ⟨b, i0, es, clock, seen, rfl, rfl, hbi, hb, hit, h3, h4, h5, h6, h7⟩, hR⟩ := p1.to hw.heap
    have hb' := l1 _ _ hb
    obtain ⟨e0, he0, hs0, hk0, hv0⟩ := h7 p rfl
    have hl : es.length = kvs.length := ents_len h3
    -- where it stands
    obtain ⟨j0, hj0, hje⟩ := List.getElem_of_mem he0
    have hkv0 : ∃ q, kvs[j0]? = some q ∧ e0.key = ek q.1 := by
      have := congrArg (·[j0]?) h3
      simp only [List.getElem?_map, List.getElem?_eq_getElem hj0, List.getElem?_eq_getElem (show j0 < kvs.length by omega)] at this
      simp only [Option.map_some, Option.some.injEq, Prod.mk.injEq] at this
      exact ⟨kvs[j0]'(by omega), List.getElem?_eq_getElem (by omega), by rw [← hje]; exact this.1⟩
    obtain ⟨q, hq, hqk⟩ := hkv0
    have hqp : q.1 = p.1 := ek_inj hk (hqk.symm.trans hk0)
    cases hm : midx kvs p.1 with
    | none =>
      have := List.findIdx?_eq_none_iff.1 hm q (List.mem_of_getElem? hq)
      simp [hqp] at this
    | some j =>
      obtain ⟨v', hj, hg⟩ := midx_some hm
      have hjl : j < es.length := by
        rcases Nat.lt_or_ge j kvs.length with h' | h'
        · omega
        · rw [List.getElem?_eq_none h'] at hj; cases hj
      have hjj : j = j0 := by
        have a1 : (kvs.map (·.1))[j]? = some p.1 := by rw [List.getElem?_map, hj]; rfl
        have a2 : (kvs.map (·.1))[j0]? = some p.1 := by rw [List.getElem?_map, hq]; simp [hqp]
        exact (List.getElem?_inj (i := j) (by rw [List.length_map]; omega) hnd).1 (a1.trans a2.symm)
      subst hjj
      have hkey : ((es.toArray[j]?).map (·.key)).getD (ek p.1) = ek p.1 := by
        simp [List.getElem?_eq_getElem hjl, hje, hk0]
      refine ⟨N, { w with heap := w.heap.setIfInBounds b (.map (es.modify j fun e => { e with key := ek p.1, val := u }).toArray clock) }, ?_, hK, ?_⟩
      · simp only [execOp, ev_ok hx ha, ev_ok hi ha, ev_ok hv ha, Instr.mapUpdate, Sem.run_bind, run_underlying ht, Result.andThen_ok, run_getObj hb' (by simp), run_checkKey hk, run_findKey hk p.1 h3, hm, Option.bind_some, hg, Option.map_some, hkey]
        simp only [Instr.keyThatStays, hk.bits p.1 9999, if_true, Sem.run_pure, Result.andThen_ok, run_setObj hb' (by simp)]
        simp
      · have hborn : (es.modify j fun e => { e with key := ek p.1, val := u }).map (·.born) = es.map (·.born) := by
          apply List.ext_getElem?
          intro i
          simp only [List.getElem?_map, List.getElem?_modify]
          by_cases e : j = i
          · subst e; cases es[j]? <;> simp
          · simp [e]
        refine (Sat.setObj (B := MpIt ek (.map (some b)) (.pointer (some ⟨i0, 0, none⟩)) (mset kvs p.1 u) left none) hw hd l1 l2 hb hR fun S hS hS' => ⟨b, i0, _, clock, seen, rfl, rfl, hbi, hS, by rw [hS' i0 (Ne.symm hbi)]; exact hit, ?_, by rw [hborn]; exact h4, ?_, ?_, by simp⟩).conv fun _ => p2.back
        · simp only [mset, hm]; exact ents_set h3
        · intro e he
          obtain ⟨i, hi', rfl⟩ := List.getElem_of_mem he
          simp only [List.length_modify] at hi'
          have : (es.modify j fun e => { e with key := ek p.1, val := u })[i].born = es[i].born := by
            rw [List.getElem_modify]; split <;> rfl
          rw [this]; exact h5 _ (List.getElem_mem hi')
        · have hseen : seen.contains e0.born = true := by
            have := Array.mem_of_back? hs0
            simpa using this
          have key : ∀ (l : List MapEntry) (j : Nat) (hj : j < l.length), seen.contains (l[j]).born = true → ((l.modify j fun e => { e with key := ek p.1, val := u }).filter fun e => !seen.contains e.born) = l.filter fun e => !seen.contains e.born := by
            intro l
            induction l with
            | nil => intro j hj; simp at hj
            | cons x l ih =>
              intro j hj hs
              cases j with
              | zero =>
                simp only [List.getElem_cons_zero] at hs
                rw [List.modify_zero_cons]
                rw [List.filter_cons_of_neg (by simpa using hs), List.filter_cons_of_neg (by simpa using hs)]
              | succ j =>
                simp only [List.getElem_cons_succ] at hs
                rw [List.modify_succ_cons, List.filter_cons, List.filter_cons, ih j (by simpa using hj) hs]
          rw [key es j hjl (by rw [hje]; exact hseen)]
          exact h6
end
end Go.SL
/- A map whose values are slices that are owned. -/
set_option linter.unusedSimpArgs false
set_option linter.unusedVariables false
set_option linter.unusedSectionVars false
namespace Go.SL
open Go
/-- An entry of a map of slices, and where its slice lies. -/
structure EntV (κ α : Type) where
  key : κ
  sv : SV
  ws : List α
section
variable {κ α : Type} [DecidableEq κ]
def getS (l : List (κ × List α)) (k : κ) : Option (List α) := (l.find? fun p => decide (p.1 = k)).map (·.2)
def setS (l : List (κ × List α)) (k : κ) (ws : List α) : List (κ × List α) := match l.findIdx? (fun p => decide (p.1 = k)) with
  | some i => l.set i (k, ws)
  | none => l ++ [(k, ws)]
def kvE (e : EntV κ α) : κ × Value := (e.key, e.sv.v)
def stE (e : EntV κ α) : κ × List α := (e.key, e.ws)
def findE (es : List (EntV κ α)) (k : κ) : Option (EntV κ α) := es.find? fun e => decide (e.key = k)
def svE (es : List (EntV κ α)) (k : κ) : SV := match findE es k with
  | some e => e.sv
  | none => ⟨none, 0, 0⟩
def wsE (es : List (EntV κ α)) (k : κ) : List α := match findE es k with
  | some e => e.ws
  | none => []
def setE (es : List (EntV κ α)) (k : κ) (sv : SV) (ws : List α) : List (EntV κ α) := match es.findIdx? (fun e => decide (e.key = k)) with
  | some i => es.set i ⟨k, sv, ws⟩
  | none => es ++ [⟨k, sv, ws⟩]
def delE (es : List (EntV κ α)) (k : κ) : List (EntV κ α) := es.eraseP fun e => decide (e.key = k)
theorem mget_kvE (es : List (EntV κ α)) (k : κ) : mget (es.map kvE) k = (findE es k).map fun e => e.sv.v := by
  unfold mget findE
  induction es with
  | nil => rfl
  | cons e es ih =>
    simp only [List.map_cons, List.find?_cons, kvE]
    by_cases h : e.key = k
    · simp [h]
    · simp only [h, decide_false]; exact ih
theorem mget_svE (es : List (EntV κ α)) (k : κ) : (mget (es.map kvE) k).getD (.slice none 0 0) = (svE es k).v := by
  rw [mget_kvE]; unfold svE
  cases findE es k <;> rfl
theorem mset_kvE (es : List (EntV κ α)) (k : κ) (sv : SV) (ws : List α) : mset (es.map kvE) k sv.v = (setE es k sv ws).map kvE := by
  have h : midx (es.map kvE) k = es.findIdx? (fun e => decide (e.key = k)) := by
    unfold midx; rw [List.findIdx?_map]; rfl
  unfold mset setE
  rw [h]
  cases List.findIdx? (fun e : EntV κ α => decide (e.key = k)) es with
  | none => simp [kvE]
  | some i => simp [kvE, List.map_set]
theorem setE_st (es : List (EntV κ α)) (k : κ) (sv : SV) (ws : List α) : (setE es k sv ws).map stE = setS (es.map stE) k ws := by
  have h : (es.map stE).findIdx? (fun p => decide (p.1 = k)) = es.findIdx? (fun e => decide (e.key = k)) := by
    rw [List.findIdx?_map]; rfl
  unfold setS setE
  rw [h]
  cases List.findIdx? (fun e : EntV κ α => decide (e.key = k)) es with
  | none => simp [stE]
  | some i => simp [stE, List.map_set]
theorem getS_st (es : List (EntV κ α)) (k : κ) : getS (es.map stE) k = (findE es k).map (·.ws) := by
  unfold getS findE
  induction es with
  | nil => rfl
  | cons e es ih =>
    simp only [List.map_cons, List.find?_cons, stE]
    by_cases h : e.key = k
    · simp [h]
    · simp only [h, decide_false]; exact ih
theorem wsE_st (es : List (EntV κ α)) (k : κ) : wsE es k = (getS (es.map stE) k).getD [] := by
  rw [getS_st]; unfold wsE
  cases findE es k <;> rfl
theorem keys_st (es : List (EntV κ α)) : es.map (·.key) = (es.map stE).map (·.1) := by simp [stE]
theorem keys_kv (es : List (EntV κ α)) : (es.map kvE).map (·.1) = es.map (·.key) := by simp [kvE]
theorem findE_mem {es : List (EntV κ α)} (hn : (es.map (·.key)).Nodup) {e : EntV κ α} (he : e ∈ es) : findE es e.key = some e := by
  unfold findE
  induction es with
  | nil => cases he
  | cons x es ih =>
    rw [List.map_cons] at hn
    obtain ⟨h1, h2⟩ := List.nodup_cons.1 hn
    rcases List.mem_cons.1 he with rfl | he
    · simp
    · rw [List.find?_cons]
      have : x.key ≠ e.key := fun h => h1 (h ▸ List.mem_map.2 ⟨e, he, rfl⟩)
      simp only [this, decide_false]
      exact ih h2 he
theorem findE_key {es : List (EntV κ α)} {k : κ} {e : EntV κ α} (h : findE es k = some e) : e ∈ es ∧ e.key = k := by
  refine ⟨List.mem_of_find?_eq_some h, ?_⟩
  have := List.find?_some h
  simpa using this
theorem getS_mem {l : List (κ × List α)} (hn : (l.map (·.1)).Nodup) {p : κ × List α} (h : p ∈ l) : getS l p.1 = some p.2 := by
  unfold getS
  induction l with
  | nil => cases h
  | cons x l ih =>
    rw [List.map_cons] at hn
    obtain ⟨h1, h2⟩ := List.nodup_cons.1 hn
    rw [List.find?_cons]
    rcases List.mem_cons.1 h with rfl | h
    · simp
    · have : x.1 ≠ p.1 := fun e => h1 (e ▸ List.mem_map.2 ⟨p, h, rfl⟩)
      simp only [this, decide_false]
      exact ih h2 h
theorem getS_some {l : List (κ × List α)} {k : κ} {ws : List α} (h : getS l k = some ws) : (k, ws) ∈ l := by
  unfold getS at h
  rw [Option.map_eq_some_iff] at h
  obtain ⟨p, h1, rfl⟩ := h
  have h2 := List.find?_some h1
  have h3 := List.mem_of_find?_eq_some h1
  simp at h2; subst h2
  exact h3
theorem getS_none {l : List (κ × List α)} {k : κ} (h : getS l k = none) : ∀ ws, (k, ws) ∉ l := by
  intro ws hm
  unfold getS at h
  rw [Option.map_eq_none_iff, List.find?_eq_none] at h
  have := h _ hm
  simp at this
theorem setS_get (l : List (κ × List α)) (k : κ) (ws : List α) (j : κ) : getS (setS l k ws) j = if j = k then some ws else getS l j := by
  unfold setS getS
  induction l with
  | nil =>
    by_cases h : j = k
    · subst h; simp
    · simp [h, Ne.symm h]
  | cons x l ih =>
    rw [List.findIdx?_cons]
    by_cases hx : x.1 = k
    · simp only [hx, decide_true, if_true, List.set_cons_zero, List.find?_cons]
      by_cases h : j = k
      · subst h; simp
      · have h' : ¬ k = j := fun e => h e.symm
        simp [h, h']
    · simp only [hx, decide_false, Bool.false_eq_true, if_false]
      cases hf : List.findIdx? (fun p : κ × List α => decide (p.1 = k)) l with
      | none =>
        rw [hf] at ih
        simp only [Option.map_none, List.cons_append, List.find?_cons]
        by_cases h : x.1 = j
        · have : j ≠ k := fun e => hx (h.trans e)
          simp [h, this]
        · simp only [h, decide_false]; exact ih
      | some i =>
        rw [hf] at ih
        simp only [Option.map_some, List.set_cons_succ, List.find?_cons]
        by_cases h : x.1 = j
        · have : j ≠ k := fun e => hx (h.trans e)
          simp [h, this]
        · simp only [h, decide_false]; exact ih
theorem setS_keys (l : List (κ × List α)) (k : κ) (ws : List α) : ∀ j, j ∈ (setS l k ws).map (·.1) ↔ j = k ∨ j ∈ l.map (·.1) := by
  intro j
  have key : ∀ (l : List (κ × List α)) (j : κ), j ∈ l.map (·.1) ↔ (getS l j).isSome = true := by
    intro l j
    unfold getS
    rw [Option.isSome_map, List.find?_isSome]
    simp
  rw [key, key, setS_get]
  by_cases h : j = k <;> simp [h]
theorem setS_nodup {l : List (κ × List α)} (hn : (l.map (·.1)).Nodup) (k : κ) (ws : List α) : ((setS l k ws).map (·.1)).Nodup := by
  unfold setS
  split
  · rename_i i hi
    have : (l.set i (k, ws)).map (·.1) = l.map (·.1) := by
      rw [List.map_set]
      apply List.ext_getElem?
      intro j
      rw [List.getElem?_set]
      obtain ⟨h1, h2, _⟩ := List.findIdx?_eq_some_iff_getElem.1 hi
      split
      · rename_i e; subst e
        rw [if_pos (by simpa using h1)]
        simp only [List.getElem?_map, List.getElem?_eq_getElem h1, Option.map_some]
        simp at h2; rw [h2]
      · rfl
    rw [this]; exact hn
  · rename_i hi
    rw [List.map_append, List.nodup_append]
    refine ⟨hn, by simp, ?_⟩
    intro a ha b hb e
    simp at hb; subst hb; subst e
    obtain ⟨p, hp, rfl⟩ := List.mem_map.1 ha
    have := List.findIdx?_eq_none_iff.1 hi p hp
    simp at this
theorem delE_keys {es : List (EntV κ α)} {k : κ} {e : EntV κ α} (h : findE es k = some e) : ∃ A B, es = A ++ e :: B ∧ delE es k = A ++ B ∧ (∀ sv ws, setE es k sv ws = A ++ ⟨k, sv, ws⟩ :: B) := by
  unfold findE at h
  induction es with
  | nil => simp at h
  | cons x es ih =>
    rw [List.find?_cons] at h
    by_cases e1 : x.key = k
    · simp [e1] at h; subst h
      exact ⟨[], es, rfl, by simp [delE, e1], by intro sv ws; simp [setE, List.findIdx?_cons, e1]⟩
    · simp [e1] at h
      obtain ⟨A, B, h2, h3, h4⟩ := ih (by simpa using h)
      refine ⟨x :: A, B, by simp [h2], by simp only [delE, List.eraseP_cons, e1, decide_false, cond_false, List.cons_append] at h3 ⊢; rw [h3], ?_⟩
      intro sv ws
      have := h4 sv ws
      unfold setE at this ⊢
      rw [List.findIdx?_cons]
      simp only [e1, decide_false, Bool.false_eq_true, if_false]
      cases hf : List.findIdx? (fun e : EntV κ α => decide (e.key = k)) es with
      | none => rw [hf] at this; simp only at this; simp [this]
      | some i => rw [hf] at this; simp only at this; simp [this]
theorem delE_none {es : List (EntV κ α)} {k : κ} (h : findE es k = none) : delE es k = es ∧ (∀ sv ws, setE es k sv ws = es ++ [⟨k, sv, ws⟩]) := by
  unfold findE at h
  refine ⟨?_, ?_⟩
  · unfold delE
    rw [List.eraseP_of_forall_not]
    intro x hx
    have := List.find?_eq_none.1 h x hx
    simpa using this
  · intro sv ws
    unfold setE
    rw [List.findIdx?_eq_none_iff.2 (fun x hx => by have := List.find?_eq_none.1 h x hx; simpa using this)]
/-- What lies at the entries. -/
def Ents (E z : Nat) (enc : α → List Value) (es : List (EntV κ α)) : HP := bun (es.map fun e => Sl E z enc e.sv.v e.ws)
variable {E z : Nat} {enc : α → List Value}
theorem Ents_nil {L : List HP} {S : Piece} (h : stars L S) : stars (Ents E z enc ([] : List (EntV κ α)) :: L) S := bun_stars (L := []) h
theorem Ents_out {es A B : List (EntV κ α)} {e : EntV κ α} (h : es = A ++ e :: B) : ∀ S, Ents E z enc es S → ∃ _ : Unit, stars [Sl E z enc e.sv.v e.ws, Ents E z enc (A ++ B)] S := fun S hS => by
  subst h
  refine ⟨(), ?_⟩
  unfold Ents bun at hS
  rw [List.map_append, List.map_cons] at hS
  have h1 := stars_unmove hS
  refine stars_cons (fun S h => ?_) h1
  show stars [bun ((A ++ B).map _)] S
  rw [List.map_append]
  exact bun_stars (M := []) (S := S) (by simpa using h)
theorem Ents_in {A B : List (EntV κ α)} {e : EntV κ α} : ∀ S, stars [Sl E z enc e.sv.v e.ws, Ents E z enc (A ++ B)] S → Ents E z enc (A ++ e :: B) S := fun S hS => by
  unfold Ents bun
  rw [List.map_append, List.map_cons]
  refine stars_move ?_
  refine stars_cons (fun S h => ?_) hS
  have h' : stars (bun ((A ++ B).map _) :: []) S := h
  rw [List.map_append] at h'
  have := stars_bun h'
  simpa using this
/-- The slice of a key, nil if there is none; and what is left. -/
theorem Ents_take (es : List (EntV κ α)) (k : κ) : ∀ S, Ents E z enc es S → ∃ _ : Unit, stars [Sl E z enc (svE es k).v (wsE es k), Ents E z enc (delE es k)] S := fun S hS => by
  cases hf : findE es k with
  | none =>
    refine ⟨(), ?_⟩
    rw [(delE_none hf).1]
    unfold svE wsE
    rw [hf]
    exact nil_sl (stars_one' hS)
  | some e =>
    obtain ⟨A, B, h1, h2, _⟩ := delE_keys hf
    rw [h2]
    unfold svE wsE
    rw [hf]
    exact Ents_out h1 S hS
where
  stars_one' {A : HP} {S : Piece} (h : A S) : stars [A] S := ⟨S, fun _ => none, fun _ => .inr rfl, le_refl _, (fun _ _ h => by cases h), h, trivial⟩
theorem Ents_put (es : List (EntV κ α)) (k : κ) (sv : SV) (ws : List α) : ∀ S, stars [Sl E z enc sv.v ws, Ents E z enc (delE es k)] S → Ents E z enc (setE es k sv ws) S := fun S hS => by
  cases hf : findE es k with
  | none =>
    obtain ⟨h1, h2⟩ := delE_none hf
    rw [h2]; rw [h1] at hS
    have := Ents_in (A := es) (B := []) (e := ⟨k, sv, ws⟩) S (by simpa using hS)
    simpa using this
  | some e =>
    obtain ⟨A, B, _, h2, h3⟩ := delE_keys hf
    rw [h3]; rw [h2] at hS
    exact Ents_in (e := ⟨k, sv, ws⟩) S hS
theorem ents_rl {es : List (EntV κ α)} {e : EntV κ α} (h : e ∈ es) : RL (Ents E z enc es) z enc e.sv.v e.ws := fun S hS => by
  obtain ⟨A, B, rfl⟩ := List.append_of_mem h
  obtain ⟨_, S1, S2, _, h1, _, h2, _⟩ := Ents_out (E := E) (z := z) (enc := enc) rfl S hS
  rcases sl_rl S1 h2 with h | ⟨b, o, c, l, t, a1, a2, a3, a4, a5⟩
  · exact .inl h
  · exact .inr ⟨b, o, c, l, t, a1, a2, h1 _ _ a3, a4, a5⟩
end
end Go.SL
