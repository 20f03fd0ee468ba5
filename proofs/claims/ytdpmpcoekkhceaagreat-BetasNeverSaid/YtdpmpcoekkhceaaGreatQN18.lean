/- VA: rules and walks, several texts in one. -/
import Derived.Test.YtdpmpcoekkhceaaGreatQN17
import Derived.Test.YtdpmpcoekkhceaaGreatProg
import Derived.KernelRfl
set_option linter.unusedSimpArgs false
set_option linter.unusedVariables false
namespace Go.SL.VA
open Go Go.Proofs Go.SL
theorem a22 : aggOf Tryz.prog 22 = some none := by kernel_rfl
theorem a29 : aggOf Tryz.prog 29 = some none := by kernel_rfl
theorem a31 : aggOf Tryz.prog 31 = some (some 1) := by kernel_rfl
theorem a34 : aggOf Tryz.prog 34 = some none := by kernel_rfl
theorem a40 : aggOf Tryz.prog 40 = some (some 2) := by kernel_rfl
theorem a9 : aggOf Tryz.prog 9 = some none := by kernel_rfl
theorem eqgRow : Tryz.prog.eqGuardType Tryz.prog.depth 40 = false := by kernel_rfl
theorem f31_0 : fldOf Tryz.prog 31 0 = some 0 := by kernel_rfl
theorem f36_0 : fldOf Tryz.prog 36 0 = some 0 := by kernel_rfl
theorem f36_1 : fldOf Tryz.prog 36 1 = some 1 := by kernel_rfl
theorem f36_2 : fldOf Tryz.prog 36 2 = some 2 := by kernel_rfl
theorem f36_3 : fldOf Tryz.prog 36 3 = some 3 := by kernel_rfl
theorem f40_0 : fldOf Tryz.prog 40 0 = some 0 := by kernel_rfl
theorem f40_1 : fldOf Tryz.prog 40 1 = some 1 := by kernel_rfl
theorem k122 : callable Tryz.prog 122 = true := by kernel_rfl
theorem k125 : callable Tryz.prog 125 = true := by kernel_rfl
theorem k126 : callable Tryz.prog 126 = true := by kernel_rfl
theorem k127 : callable Tryz.prog 127 = true := by kernel_rfl
theorem k34 : callable Tryz.prog 34 = true := by kernel_rfl
theorem k35 : callable Tryz.prog 35 = true := by kernel_rfl
theorem k69 : callable Tryz.prog 69 = true := by kernel_rfl
theorem k71 : callable Tryz.prog 71 = true := by kernel_rfl
theorem k72 : callable Tryz.prog 72 = true := by kernel_rfl
theorem k73 : callable Tryz.prog 73 = true := by kernel_rfl
theorem k74 : callable Tryz.prog 74 = true := by kernel_rfl
theorem k85 : callable Tryz.prog 85 = true := by kernel_rfl
theorem mixedOk : Tryz.prog.follows .mixedOrders = true := by kernel_rfl
theorem p31 : placesOf Tryz.prog 31 = some [(0, 1)] := by kernel_rfl
theorem p69 : placesOf Tryz.prog 69 = some [(0, 1), (1, 1)] := by kernel_rfl
theorem s29 : szOf Tryz.prog 29 = some 1 := by kernel_rfl
theorem s31 : szOf Tryz.prog 31 = some 1 := by kernel_rfl
theorem sl29 : slOf Tryz.prog 29 = some (40, 2, 24) := by kernel_rfl
theorem sl60 : slOf Tryz.prog 60 = some (36, 4, 48) := by kernel_rfl
theorem sl61 : slOf Tryz.prog 61 = some (31, 1, 24) := by kernel_rfl
theorem stoodRow : Tryz.prog.stoodInHeld 40 = false := by kernel_rfl
theorem z31 : zeroOf Tryz.prog 31 = some [.slice none 0 0] := by kernel_rfl
theorem z69 : zeroOf Tryz.prog 69 = some [.string .empty, .string .empty] := by kernel_rfl
end Go.SL.VA
namespace Go.SL
open Go Go.Proofs VA
theorem SameRows_spec {g : World} {A B : HP} {u v : Value} {xs ys : List RowM} (hA : RL A 2 RowM.c u xs) (hB : RL B 2 RowM.c v ys) (hn : xs.length ≤ 68719476736) : Spec Tryz.prog g 34 [u, v] [A, B] fun K R => K (.bool (decide (xs = ys))) (A :: B :: R) := by
  refine Spec.intro Tryz.func34 rfl Tryz.ntmps34 rfl fun R K hK => ?_
  refine WP.seq ?_
  refine WP.reg ?_
  refine WL.e e_assign ?_
  refine WL.next ?_
  refine WP.seq ?_
  refine WP.seq ?_
  refine WP.reg ?_
  refine WL.e e_move ?_
  refine WL.e (el_len sl29 hA) <| WL.e e_move ?_
  refine WL.e (el_len sl29 hB) <| WL.e e_neq ?_
  refine WL.next ?_
  refine WP.cond rfl (fun h1 => ?_) (fun h1 => ?_)
  · replace h1 : xs ≠ ys := fun e => by subst e; simp at h1
    refine WP.seq ?_
    refine WP.reg ?_
    refine WL.e e_assign ?_
    refine WL.next ?_
    refine WP.ret ?_
    refine PO.past nofun ?_
    exact PO.finE Tryz.results34 (rv_tmp rv_nil) (by rw [decide_eq_false h1]; rfl) hK
  · replace h1 : xs.length = ys.length := by simp at h1; omega
    refine WP.skip ?_
    refine PO.next ?_
    refine WP.seq ?_
    refine WP.seq ?_
    refine WP.reg ?_
    refine WL.e e_assign ?_
    refine WL.next ?_
    refine WP.block ?_
    refine WP.loopK (fun (i : Nat) => [(5, .int .i64 i)]) (fun (i : Nat) => A :: B :: R) [(0, _), (1, _)] (fun (i : Nat) => i ≤ xs.length ∧ xs.take i = ys.take i) (fun (i : Nat) => xs.length - i) 0 (⟨Nat.zero_le _, rfl⟩) ?_
    rintro i ⟨hi, he⟩
    refine WP.seq ?_
    refine WP.seq ?_
    refine WP.reg ?_
    refine WL.e e_move <| WL.e e_move ?_
    refine WL.e (el_len sl29 hA) <| WL.e e_lss ?_
    refine WL.next ?_
    refine WP.cond rfl (fun h2 => ?_) (fun h2 => ?_)
    · have hlt : i < xs.length := by rw [decide_eq_true_eq] at h2; omega
      obtain ⟨x, hx⟩ : ∃ x, xs[i]? = some x := ⟨_, List.getElem?_eq_getElem hlt⟩
      obtain ⟨y, hy⟩ : ∃ y, ys[i]? = some y := ⟨_, List.getElem?_eq_getElem (by omega)⟩
      refine WP.skip ?_
      refine PO.next ?_
      refine WP.seq ?_
      refine WP.block ?_
      refine WP.seq ?_
      refine WP.draws mixedOk 9 ?_
      refine RW.e 0 rfl e_move <| RW.e 1 rfl e_move ?_
      refine RW.e 2 rfl (el_ia (j := i) sl29 hA hlt) ?_
      refine RW.e 3 rfl (el_loadN (a := x) a40 rowE hA hx) <| RW.e 4 rfl e_move <| RW.e 5 rfl e_move ?_
      refine RW.e 6 rfl (el_ia (j := i) sl29 hB (by omega)) ?_
      refine RW.e 7 rfl (el_loadN (a := y) a40 rowE hB hy) ?_
      refine RW.e 8 rfl (e_rowne (a := x) (b := y) Tryz.underlying40 Tryz.underlying9 Tryz.underlying22 a9 a22 stoodRow eqgRow rfl rfl) ?_
      refine RW.done ?_
      refine PO.next ?_
      refine WP.cond rfl (fun h3 => ?_) (fun h3 => ?_)
      · replace h3 : xs ≠ ys := fun e => by subst e; rw [hx] at hy; cases hy; simp at h3
        refine WP.seq ?_
        refine WP.reg ?_
        refine WL.e e_assign ?_
        refine WL.next ?_
        refine WP.ret ?_
        refine PO.blockR ?_
        refine PO.past nofun ?_
        refine PO.round nofun ?_
        refine PO.blockR ?_
        refine PO.past nofun ?_
        exact PO.finE Tryz.results34 (rv_tmp rv_nil) (by rw [decide_eq_false h3]; rfl) hK
      · replace h3 : x = y := by simpa using h3
        refine WP.skip ?_
        refine PO.blockN ?_
        refine PO.next ?_
        refine WP.reg ?_
        refine WL.e e_move <| WL.e (e_add (c := ((i + 1 : Nat) : Int)) rfl rfl (by rw [w_i64 (by omega) (by omega)]; omega)) <| WL.e e_assign ?_
        refine WL.nil ?_
        exact PO.againK (i + 1) ⟨by omega, by rw [take_snoc hx, take_snoc hy, he, h3]⟩ (by omega)
    · have hge : xs.length ≤ i := by rw [decide_eq_false_iff_not] at h2; omega
      replace h2 : xs = ys := by rwa [List.take_of_length_le hge, List.take_of_length_le (by omega)] at he
      refine WP.exit ?_
      refine PO.past nofun ?_
      refine PO.round nofun ?_
      refine PO.blockX ?_
      refine PO.next ?_
      refine WP.seq ?_
      refine WP.reg ?_
      refine WL.e e_assign ?_
      refine WL.next ?_
      refine WP.ret ?_
      exact PO.finE Tryz.results34 (rv_tmp rv_nil) (by rw [decide_eq_true h2]; rfl) hK
/-- Results: the slice of each, its rows. -/
abbrev ResV := SV × List RowM
def resC (x : ResV) : List Value := [x.1.v]
theorem resE : EncOk 1 resC := ⟨fun _ => rfl, fun _ => rfl⟩
def resR (x : ResV) : HP := Sl 40 2 RowM.c x.1.v x.2
def ResR (l : List ResV) : HP := bun (l.map resR)
theorem ResR_nil {L : List HP} {S : Piece} (h : stars L S) : stars (ResR [] :: L) S := bun_stars (L := []) h
theorem ResR_snoc {l : List ResV} {x : ResV} : ∀ S, stars [ResR l, resR x] S → ResR (l ++ [x]) S := fun S h => by
  have := stars_bun h
  unfold ResR bun
  rwa [List.map_append]
theorem RdS.mono {S T : Piece} {z n : Nat} {u : Value} {cs : List Value} (h : RdS S z u n cs) (hl : le S T) : RdS T z u n cs := by
  rcases h with h | ⟨b, o, c, l, t, h1, h2, h3, h4, h5⟩
  · exact .inl h
  · exact .inr ⟨b, o, c, l, t, h1, h2, hl _ _ h3, h4, h5⟩
theorem stars_mem {A : HP} {L : List HP} (h : A ∈ L) : ∀ S, stars L S → ∃ T, le T S ∧ A T := by
  induction L with
  | nil => cases h
  | cons B L ih =>
    rintro S ⟨S1, S2, _, h1, h2, h3, h4⟩
    rcases List.mem_cons.1 h with rfl | h
    · exact ⟨S1, h1, h3⟩
    · obtain ⟨T, h5, h6⟩ := ih h S2 h4
      exact ⟨T, le_trans h5 h2, h6⟩
theorem res_rl {l : List ResV} {x : ResV} (h : x ∈ l) : RL (ResR l) 2 RowM.c x.1.v x.2 := fun S hS => by
  obtain ⟨T, h1, h2⟩ := stars_mem (List.mem_map.2 ⟨x, h, rfl⟩ : resR x ∈ l.map resR) S hS
  exact RdS.mono (sl_rl T h2) h1
theorem SameResult_spec {g : World} {A B : HP} {u v : SV} {xs ys : List RowM} (hA : RL A 2 RowM.c u.v xs) (hB : RL B 2 RowM.c v.v ys) (hn : xs.length ≤ 68719476736) : Spec Tryz.prog g 35 [.agg #[u.v], .agg #[v.v]] [A, B] fun K R => K (.bool (decide (xs = ys))) (A :: B :: R) := by
  refine Spec.intro Tryz.func35 rfl Tryz.ntmps35 rfl fun R K hK => ?_
  refine WP.seq ?_
  refine WP.reg ?_
  refine WL.h (h_box fun b1 => ?_)
  refine WL.h (h_box fun b2 => ?_)
  refine WL.e e_assign ?_
  refine WL.next ?_
  refine WP.seq ?_
  refine WP.reg ?_
  refine WL.e (e_fa f31_0) <| WL.e (e_load a29) <| WL.e (e_fa f31_0) <| WL.e (e_load a29) ?_
  refine WL.h (h_call (SameRows_spec hA hB hn) k34 ?_)
  refine WL.e e_assign ?_
  refine WL.next ?_
  refine WP.ret ?_
  exact PO.fin Tryz.results35 (rv_tmp rv_nil) hK
theorem SameResults_spec {g : World} {A B : HP} {u v : Value} {xs ys : List ResV} (hA : RL A 1 resC u xs) (hB : RL B 1 resC v ys) (hn : xs.length ≤ 68719476736) (hl : ∀ x ∈ xs, x.2.length ≤ 68719476736) : Spec Tryz.prog g 33 [u, v] [A, B, ResR xs, ResR ys] fun K R => K (.bool (decide (xs.map (·.2) = ys.map (·.2)))) (A :: B :: ResR xs :: ResR ys :: R) := by
  refine Spec.intro Tryz.func33 rfl Tryz.ntmps33 rfl fun R K hK => ?_
  refine WP.seq ?_
  refine WP.reg ?_
  refine WL.e e_assign ?_
  refine WL.next ?_
  refine WP.seq ?_
  refine WP.seq ?_
  refine WP.reg ?_
  refine WL.e e_move ?_
  refine WL.e (el_len sl61 hA) <| WL.e e_move ?_
  refine WL.e (el_len sl61 hB) <| WL.e e_neq ?_
  refine WL.next ?_
  refine WP.cond rfl (fun h1 => ?_) (fun h1 => ?_)
  · replace h1 : xs.map (·.2) ≠ ys.map (·.2) := fun e => by have := congrArg List.length e; simp at this; simp [this] at h1
    refine WP.seq ?_
    refine WP.reg ?_
    refine WL.e e_assign ?_
    refine WL.next ?_
    refine WP.ret ?_
    refine PO.past nofun ?_
    exact PO.finE Tryz.results33 (rv_tmp rv_nil) (by rw [decide_eq_false h1]; rfl) hK
  · replace h1 : xs.length = ys.length := by simp at h1; omega
    refine WP.skip ?_
    refine PO.next ?_
    refine WP.seq ?_
    refine WP.seq ?_
    refine WP.reg ?_
    refine WL.e e_assign ?_
    refine WL.next ?_
    refine WP.block ?_
    refine WP.loopK (fun (i : Nat) => [(5, .int .i64 i)]) (fun (i : Nat) => A :: B :: ResR xs :: ResR ys :: R) [(0, _), (1, _)] (fun (i : Nat) => i ≤ xs.length ∧ (xs.take i).map (·.2) = (ys.take i).map (·.2)) (fun (i : Nat) => xs.length - i) 0 (⟨Nat.zero_le _, rfl⟩) ?_
    rintro i ⟨hi, he⟩
    refine WP.seq ?_
    refine WP.seq ?_
    refine WP.reg ?_
    refine WL.e e_move <| WL.e e_move ?_
    refine WL.e (el_len sl61 hA) <| WL.e e_lss ?_
    refine WL.next ?_
    refine WP.cond rfl (fun h2 => ?_) (fun h2 => ?_)
    · have hlt : i < xs.length := by rw [decide_eq_true_eq] at h2; omega
      obtain ⟨x, hx⟩ : ∃ x, xs[i]? = some x := ⟨_, List.getElem?_eq_getElem hlt⟩
      obtain ⟨y, hy⟩ : ∃ y, ys[i]? = some y := ⟨_, List.getElem?_eq_getElem (by omega)⟩
      refine WP.skip ?_
      refine PO.next ?_
      refine WP.seq ?_
      refine WP.block ?_
      refine WP.seq ?_
      refine WP.draws mixedOk 10 ?_
      refine RW.e 0 rfl e_move <| RW.e 1 rfl e_move ?_
      refine RW.e 2 rfl (el_ia (j := i) sl61 hA hlt) ?_
      refine RW.e 3 rfl (el_loadN (vs := resC x) (a := x) a31 resE hA hx (hv := ext_of (resE.len x))) <| RW.e 4 rfl e_move <| RW.e 5 rfl e_move ?_
      refine RW.e 6 rfl (el_ia (j := i) sl61 hB (by omega)) ?_
      refine RW.e 7 rfl (el_loadN (vs := resC y) (a := y) a31 resE hB hy (hv := ext_of (resE.len y))) ?_
      refine RW.any (is := [8]) rfl ⟨?_, trivial⟩
      refine RWat.h rfl rfl rfl ?_
      refine (h_call (SameResult_spec (u := x.1) (v := y.1) (res_rl (List.mem_of_getElem? hx)) (res_rl (List.mem_of_getElem? hy)) (hl x (List.mem_of_getElem? hx))) k35 ?_)
      refine ⟨trivial, ?_⟩
      refine RW.e 9 rfl e_not ?_
      refine RW.done ?_
      refine PO.next ?_
      refine WP.cond rfl (fun h3 => ?_) (fun h3 => ?_)
      · replace h3 : xs.map (·.2) ≠ ys.map (·.2) := fun e => by have := congrArg (·[i]?) e; simp [hx, hy] at this; simp [this] at h3
        refine WP.seq ?_
        refine WP.reg ?_
        refine WL.e e_assign ?_
        refine WL.next ?_
        refine WP.ret ?_
        refine PO.blockR ?_
        refine PO.past nofun ?_
        refine PO.round nofun ?_
        refine PO.blockR ?_
        refine PO.past nofun ?_
        exact PO.finE Tryz.results33 (rv_tmp rv_nil) (by rw [decide_eq_false h3]; rfl) hK
      · replace h3 : x.2 = y.2 := by simpa using h3
        refine WP.skip ?_
        refine PO.blockN ?_
        refine PO.next ?_
        refine WP.reg ?_
        refine WL.e e_move <| WL.e (e_add (c := ((i + 1 : Nat) : Int)) rfl rfl (by rw [w_i64 (by omega) (by omega)]; omega)) <| WL.e e_assign ?_
        refine WL.nil ?_
        exact PO.againK (i + 1) ⟨by omega, by rw [take_snoc hx, take_snoc hy, List.map_append, List.map_append, he]; simp [h3]⟩ (by omega)
    · have hge : xs.length ≤ i := by rw [decide_eq_false_iff_not] at h2; omega
      replace h2 : xs.map (·.2) = ys.map (·.2) := by rwa [List.take_of_length_le hge, List.take_of_length_le (by omega)] at he
      refine WP.exit ?_
      refine PO.past nofun ?_
      refine PO.round nofun ?_
      refine PO.blockX ?_
      refine PO.next ?_
      refine WP.seq ?_
      refine WP.reg ?_
      refine WL.e e_assign ?_
      refine WL.next ?_
      refine WP.ret ?_
      exact PO.finE Tryz.results33 (rv_tmp rv_nil) (by rw [decide_eq_true h2]; rfl) hK
theorem ask_spec {g : World} {p : Nat} {l : List RowM} (k : ByteArray) : Spec Tryz.prog g 127 [.pointer (some ⟨p, 0, none⟩), .string k] [Mm p l] fun K R => K (.int .i64 (if keyOk k then 0 else 1)) (Mm p l :: R) := by
  refine Spec.intro Tryz.func127 rfl Tryz.ntmps127 rfl fun R K hK => ?_
  refine WP.seq ?_
  refine WP.reg ?_
  refine WL.e e_assign ?_
  refine WL.next ?_
  refine WP.seq ?_
  refine WP.block ?_
  refine WP.seq ?_
  refine WP.reg ?_
  refine WL.e e_move ?_
  refine WL.h (h_call (Mthere_spec) k122 ?_)
  refine WL.e e_not <| WL.e e_assign ?_
  refine WL.next ?_
  refine WP.cond_f rfl ?_
  refine WP.seq ?_
  refine WP.reg ?_
  refine WL.e e_move ?_
  refine WL.h (h_call (Check_spec _) k85 ?_)
  refine WL.e e_not <| WL.e e_assign ?_
  refine WL.next ?_
  refine WP.cond rfl (fun h1 => ?_) (fun h1 => ?_)
  · replace h1 : keyOk k = false := by simpa using h1
    refine WP.seq ?_
    refine WP.reg ?_
    refine WL.e e_assign ?_
    refine WL.next ?_
    refine WP.ret ?_
    refine PO.blockR ?_
    refine PO.past nofun ?_
    exact PO.finE Tryz.results127 (rv_tmp rv_nil) (by rw [h1]; rfl) hK
  · replace h1 : keyOk k = true := by simpa using h1
    refine WP.skip ?_
    refine PO.blockN ?_
    refine PO.next ?_
    refine WP.seq ?_
    refine WP.reg ?_
    refine WL.e e_assign ?_
    refine WL.next ?_
    refine WP.ret ?_
    exact PO.finE Tryz.results127 (rv_tmp rv_nil) (by rw [h1]; rfl) hK
theorem MPut_spec {g : World} {p : Nat} {l : List RowM} (k : ByteArray) (v : UInt32) (hl : Rising l) (hn : l.length ≤ 68719476000) (hk : keyOk k = true) : Spec Tryz.prog g 72 [.pointer (some ⟨p, 0, none⟩), .string k, .int .u32 v.toNat] [Mm p l] fun K R => K (.int .i64 0) (Mm p (setR l k v) :: R) := by
  refine Spec.intro Tryz.func72 rfl Tryz.ntmps72 rfl fun R K hK => ?_
  refine WP.seq ?_
  refine WP.reg ?_
  refine WL.e e_assign ?_
  refine WL.next ?_
  refine WP.seq ?_
  refine WP.reg ?_
  refine WL.e e_move <| WL.e e_move ?_
  refine WL.h (h_call (ask_spec k) k127 ?_)
  rw [hk]
  refine WL.e e_assign ?_
  refine WL.next ?_
  refine WP.seq ?_
  refine WP.seq ?_
  refine WP.reg ?_
  refine WL.e e_move <| WL.e e_eql ?_
  refine WL.next ?_
  refine WP.cond_t rfl ?_
  refine WP.reg ?_
  refine WL.e e_move <| WL.e e_move <| WL.e e_move ?_
  refine WL.h (h_call (set_spec k v hl hn) k126 ?_)
  refine WL.next ?_
  refine WP.seq ?_
  refine WP.reg ?_
  refine WL.e e_move <| WL.e e_assign ?_
  refine WL.next ?_
  refine WP.ret ?_
  exact PO.fin Tryz.results72 (rv_tmp rv_nil) hK
theorem MDel_spec {g : World} {p : Nat} {l : List RowM} (k : ByteArray) (hl : Rising l) (hn : l.length ≤ 68719476000) (hk : keyOk k = true) : Spec Tryz.prog g 73 [.pointer (some ⟨p, 0, none⟩), .string k] [Mm p l] fun K R => ∀ e : Int, K (.int .i64 e) (Mm p (dropR l k) :: R) := by
  refine Spec.intro Tryz.func73 rfl Tryz.ntmps73 rfl fun R K hK => ?_
  refine WP.seq ?_
  refine WP.reg ?_
  refine WL.e e_assign ?_
  refine WL.next ?_
  refine WP.seq ?_
  refine WP.reg ?_
  refine WL.e e_move <| WL.e e_move ?_
  refine WL.h (h_call (ask_spec k) k127 ?_)
  rw [hk]
  refine WL.e e_assign ?_
  refine WL.next ?_
  refine WP.seq ?_
  refine WP.seq ?_
  refine WP.reg ?_
  refine WL.e e_move <| WL.e e_eql <| WL.e e_move ?_
  refine WL.bool 11 rfl (fun hg => ?_) (fun hg => ?_)
  · skip
    refine WL.e e_move <| WL.e e_move ?_
    refine WL.h (h_call (drop_spec k hl hn) k125 ?_)
    refine WL.e e_not <| WL.e e_pick_t ?_
    refine WL.next ?_
    refine WP.cond rfl (fun h2 => ?_) (fun h2 => ?_)
    · skip
      refine WP.seq ?_
      refine WP.reg ?_
      refine WL.e e_assign ?_
      refine WL.next ?_
      refine WP.ret ?_
      refine PO.past nofun ?_
      exact PO.fin Tryz.results73 (rv_tmp rv_nil) (hK 6)
    · skip
      refine WP.skip ?_
      refine PO.next ?_
      refine WP.seq ?_
      refine WP.reg ?_
      refine WL.e e_move <| WL.e e_assign ?_
      refine WL.next ?_
      refine WP.ret ?_
      exact PO.fin Tryz.results73 (rv_tmp rv_nil) (hK 0)
  · exact absurd hg (by decide) -- end
theorem Run_spec {g : World} {A B : HP} {u v : Value} {rows : List RowM} {l : List OpM} (hA : RL A 2 RowM.c u rows) (hB : RL B 4 OpM.c v l) (hr : Rising rows) (hk : KeysOk rows) (hl : ∀ x ∈ l, opOk x = true) (hn : rows.length + l.length ≤ 1000000000) :
    Spec Tryz.prog g 32 [u, v] [A, B] fun K R => ∀ (sv : SV) (ts : List ResV) a m c, ts.map (·.2) = (runM rows l).1 → K (.tuple #[sv.v, .slice a m c]) (Sl 31 1 resC sv.v ts :: ResR ts :: Sl 40 2 RowM.c (.slice a m c) (runM rows l).2 :: A :: B :: R) := by
  refine Spec.intro Tryz.func32 rfl Tryz.ntmps32 rfl fun R K hK => ?_
  refine WP.seq ?_
  refine WP.reg ?_
  refine WL.e e_assign <| WL.e e_assign ?_
  refine WL.next ?_
  refine WP.seq ?_
  refine WP.reg ?_
  refine WL.h (h_call (MNew_spec) k71 ?_)
  intro p
  refine WL.e e_assign ?_
  refine WL.next ?_
  refine WP.seq ?_
  refine WP.seq ?_
  refine WP.reg ?_
  refine WL.e e_assign ?_
  refine WL.next ?_
  refine WP.block ?_
  refine WP.loopK (fun (i : Nat) => [(7, .int .i64 i)]) (fun (i : Nat) => Mm p (rows.take i) :: A :: B :: R) [(0, _), (1, _), (4, _), (5, _), (6, _)] (fun (i : Nat) => i ≤ rows.length) (fun (i : Nat) => rows.length - i) 0 (Nat.zero_le _) ?_
  intro i hi
  refine WP.seq ?_
  refine WP.seq ?_
  refine WP.reg ?_
  refine WL.e e_move <| WL.e e_move ?_
  refine WL.e (el_len sl29 hA) <| WL.e e_lss ?_
  refine WL.next ?_
  refine WP.cond rfl (fun h1 => ?_) (fun h1 => ?_)
  · have hlt : i < rows.length := by rw [decide_eq_true_eq] at h1; omega
    obtain ⟨x, hx⟩ : ∃ x, rows[i]? = some x := ⟨_, List.getElem?_eq_getElem hlt⟩
    refine WP.skip ?_
    refine PO.next ?_
    refine WP.seq ?_
    refine WP.block ?_
    refine WP.draws mixedOk 12 ?_
    refine RW.e 0 rfl e_move <| RW.e 1 rfl e_move <| RW.e 2 rfl e_move ?_
    refine RW.e 3 rfl (el_ia (j := i) sl29 hA hlt) ?_
    refine RW.e 4 rfl (el_fa (z := 2) (j := i) f40_0 hA hlt) ?_
    refine RW.e 5 rfl (el_load0 (j := i) (a := x) a9 rowE hA hx) <| RW.e 6 rfl e_move <| RW.e 7 rfl e_move ?_
    refine RW.e 8 rfl (el_ia (j := i) sl29 hA hlt) ?_
    refine RW.e 9 rfl (el_fa (z := 2) (j := i) f40_1 hA hlt) ?_
    refine RW.e 10 rfl (el_load (j := i) (f := 1) (a := x) a22 rowE hA hx) ?_
    refine RW.any (is := [11]) rfl ⟨?_, trivial⟩
    refine RWat.h rfl rfl rfl ?_
    refine (h_call (MPut_spec x.key x.val (hr.sublist (List.take_sublist _ _)) (by simp; omega) (hk x (List.mem_of_getElem? hx))) k72 ?_)
    refine ⟨trivial, ?_⟩
    refine RW.done ?_
    refine PO.blockN ?_
    refine PO.next ?_
    refine WP.reg ?_
    refine WL.e e_move <| WL.e (e_add (c := ((i + 1 : Nat) : Int)) rfl rfl (by rw [w_i64 (by omega) (by omega)]; omega)) <| WL.e e_assign ?_
    refine WL.nil ?_
    rw [setR_app (rising_take hr hx), show rows.take i ++ [⟨x.key, x.val⟩] = rows.take (i + 1) from (take_snoc hx).symm]
    exact PO.againK (i + 1) (by omega) (by omega)
  · rw [List.take_of_length_le (show rows.length ≤ i by rw [decide_eq_false_iff_not] at h1; omega)]
    refine WP.exit ?_
    refine PO.past nofun ?_
    refine PO.round nofun ?_
    refine PO.blockX ?_
    refine PO.next ?_
    refine WP.seq ?_
    refine WP.reg ?_
    refine WL.e e_assign ?_
    refine WL.next ?_
    refine WP.seq ?_
    refine WP.seq ?_
    refine WP.reg ?_
    refine WL.e e_assign ?_
    refine WL.next ?_
    refine WP.block ?_
    refine WP.nils 31 1 resC none ?_
    refine WP.conv (fun S h => ResR_nil h) ?_
    refine WP.loopK (fun (x : Nat × SV × List ResV) => [(9, .int .i64 x.1), (8, x.2.1.v)]) (fun (x : Nat × SV × List ResV) => Sl 31 1 resC x.2.1.v x.2.2 :: ResR x.2.2 :: Mm p (runM rows (l.take x.1)).2 :: A :: B :: R) [(1, _), (4, _), (5, _), (6, _)] (fun (x : Nat × SV × List ResV) => x.1 ≤ l.length ∧ x.2.2.map (·.2) = (runM rows (l.take x.1)).1) (fun (x : Nat × SV × List ResV) => l.length - x.1) (0, ⟨none, 0, 0⟩, []) (⟨Nat.zero_le _, rfl⟩) ?_
    rintro ⟨i, w8, ts⟩ ⟨hi, ht⟩
    simp only at hi ht
    dsimp only
    obtain ⟨hr1, hr2, hr3⟩ := runM_rows hr (l.take i)
    rw [List.length_take] at hr2
    refine WP.seq ?_
    refine WP.seq ?_
    refine WP.reg ?_
    refine WL.e e_move <| WL.e e_move ?_
    refine WL.e (el_len sl60 hB) <| WL.e e_lss ?_
    refine WL.next ?_
    refine WP.cond rfl (fun h2 => ?_) (fun h2 => ?_)
    · have hlt : i < l.length := by rw [decide_eq_true_eq] at h2; omega
      obtain ⟨x, hx⟩ : ∃ x, l[i]? = some x := ⟨_, List.getElem?_eq_getElem hlt⟩
      have hxo := hl x (List.mem_of_getElem? hx)
      refine WP.skip ?_
      refine PO.next ?_
      refine WP.seq ?_
      refine WP.block ?_
      refine WP.seq ?_
      refine WP.reg ?_
      refine WL.e (e_build z31 p31 (.z (.slice none 0 0) <| .n)) ?_
      refine WL.h (h_alloc z31 fun b1 => ?_)
      refine WL.h' (h_store s31 ?_)
      refine WL.next ?_
      refine WP.seq ?_
      refine WP.seq ?_
      refine WP.reg ?_
      refine WL.e e_move <| WL.e e_move ?_
      refine WL.e (el_ia (j := i) sl60 hB hlt) ?_
      refine WL.e (el_fa (z := 4) (j := i) f36_0 hB hlt) ?_
      refine WL.e (el_load0 (j := i) (a := x) a34 opE hB hx) ?_
      refine WL.next ?_
      refine WP.block ?_
      refine WP.seq ?_
      refine WP.reg ?_
      refine WL.e (e_eql8 (b := 1)) <| WL.e e_assign ?_
      refine WL.next ?_
      refine WP.cond rfl (fun h3 => ?_) (fun h3 => ?_)
      · replace h3 : x.kind = 1 := by simpa using h3
        have hm2 : runM rows (l.take (i + 1)) = ((runM rows (l.take i)).1 ++ [scanR (runM rows (l.take i)).2 (one x.key) 1], (runM rows (l.take i)).2) := by rw [runM_take rows hx, show doneO (runM rows (l.take i)).2 x = (scanR (runM rows (l.take i)).2 (one x.key) 1, (runM rows (l.take i)).2) by simp [doneO, h3]]
        refine WP.draws mixedOk 15 ?_
        refine RW.e 0 rfl e_move <| RW.e 1 rfl e_move <| RW.e 2 rfl e_move ?_
        refine RW.e 3 rfl (el_ia (j := i) sl60 hB hlt) ?_
        refine RW.e 4 rfl (el_fa (z := 4) (j := i) f36_1 hB hlt) ?_
        refine RW.e 5 rfl (el_load (j := i) (f := 1) (a := x) a9 opE hB hx) <| RW.e 6 rfl e_move <| RW.e 7 rfl e_move ?_
        refine RW.e 8 rfl (el_ia (j := i) sl60 hB hlt) ?_
        refine RW.e 9 rfl (el_fa (z := 4) (j := i) f36_1 hB hlt) ?_
        refine RW.e 10 rfl (el_load (j := i) (f := 1) (a := x) a9 opE hB hx) <| RW.e 11 rfl (e_build z69 p69 (.o (.tmp 56) rfl <| .o (.tmp 61) rfl <| .n)) ?_
        refine RW.any (is := [12]) rfl ⟨?_, trivial⟩
        refine RWat.h rfl rfl rfl ?_
        refine (h_call (Scan_spec (one x.key) 1 hr1 (by omega) (by decide)) k69 ?_)
        intro a5 n5 m5
        refine ⟨trivial, ?_⟩
        refine RW.e 13 rfl (e_fa f31_0) ?_
        refine RW.any (is := [14]) rfl ⟨?_, trivial⟩
        refine RWat.h' rfl rfl rfl ?_
        refine (h_store s29 ?_)
        refine ⟨trivial, ?_⟩
        refine RW.done ?_
        refine PO.blockN ?_
        refine PO.next ?_
        refine WP.reg ?_
        refine WL.e e_move <| WL.e (e_loadN a31) ?_
        refine WL.h (h_bs sl61 z31 (.a1 (.tmp 96) rfl <| .n) fun b2 => ?_)
        refine WL.h (hl_append (xs := ts) (ys := [((⟨a5, n5, m5⟩ : SV), scanR (runM rows (l.take i)).2 (one x.key) 1)]) sl61 resE z31 (lit_rl resE [((⟨a5, n5, m5⟩ : SV), scanR (runM rows (l.take i)).2 (one x.key) 1)] rfl) (by have := congrArg List.length ht; rw [List.length_map, hr3, List.length_take] at this; simp only [List.length_cons, List.length_nil]; omega) (fun a2 n2 m2 => ?_))
        refine WL.e e_assign ?_
        refine WL.nil ?_
        refine PO.blockN ?_
        refine PO.next ?_
        refine WP.reg ?_
        refine WL.e e_move <| WL.e (e_add (c := ((i + 1 : Nat) : Int)) rfl rfl (by rw [w_i64 (by omega) (by omega)]; omega)) <| WL.e e_assign ?_
        refine WL.nil ?_
        refine PO.cls (A := ResR (ts ++ [((⟨a5, n5, m5⟩ : SV), scanR (runM rows (l.take i)).2 (one x.key) 1)])) (B := [ResR ts, Sl 40 2 RowM.c (.slice a5 n5 m5) (scanR (runM rows (l.take i)).2 (one x.key) 1)]) (ResR_snoc (l := ts) (x := ((⟨a5, n5, m5⟩ : SV), scanR (runM rows (l.take i)).2 (one x.key) 1))) ?_
        refine PO.conv (conv1 (A := Mm p ((runM rows (l.take i)).2)) (B := Mm p (runM rows (l.take (i + 1))).2) (fun S h => by rw [hm2]; exact h) (by repeat first | exact .z | apply Put.s)) ?_
        exact PO.againK (i + 1, ⟨a2, n2, m2⟩, ts ++ [((⟨a5, n5, m5⟩ : SV), scanR (runM rows (l.take i)).2 (one x.key) 1)]) ⟨by simp only; omega, by simp only; rw [hm2, List.map_append, ht]; rfl⟩ (by simp only; omega)
      · replace h3 : x.kind ≠ 1 := by simpa using h3
        refine WP.seq ?_
        refine WP.reg ?_
        refine WL.e (e_eql8 (b := 4)) <| WL.e e_assign ?_
        refine WL.next ?_
        refine WP.cond rfl (fun h4 => ?_) (fun h4 => ?_)
        · replace h4 : x.kind = 4 := by simpa using h4
          have hm2 : runM rows (l.take (i + 1)) = ((runM rows (l.take i)).1 ++ [scanR (runM rows (l.take i)).2 ⟨x.key, x.to⟩ 256], (runM rows (l.take i)).2) := by rw [runM_take rows hx, show doneO (runM rows (l.take i)).2 x = (scanR (runM rows (l.take i)).2 ⟨x.key, x.to⟩ 256, (runM rows (l.take i)).2) by simp [doneO, h4]]
          refine WP.draws mixedOk 15 ?_
          refine RW.e 0 rfl e_move <| RW.e 1 rfl e_move <| RW.e 2 rfl e_move ?_
          refine RW.e 3 rfl (el_ia (j := i) sl60 hB hlt) ?_
          refine RW.e 4 rfl (el_fa (z := 4) (j := i) f36_1 hB hlt) ?_
          refine RW.e 5 rfl (el_load (j := i) (f := 1) (a := x) a9 opE hB hx) <| RW.e 6 rfl e_move <| RW.e 7 rfl e_move ?_
          refine RW.e 8 rfl (el_ia (j := i) sl60 hB hlt) ?_
          refine RW.e 9 rfl (el_fa (z := 4) (j := i) f36_2 hB hlt) ?_
          refine RW.e 10 rfl (el_load (j := i) (f := 2) (a := x) a9 opE hB hx) <| RW.e 11 rfl (e_build z69 p69 (.o (.tmp 72) rfl <| .o (.tmp 77) rfl <| .n)) ?_
          refine RW.any (is := [12]) rfl ⟨?_, trivial⟩
          refine RWat.h rfl rfl rfl ?_
          refine (h_call (Scan_spec ⟨x.key, x.to⟩ 256 hr1 (by omega) (by decide)) k69 ?_)
          intro a5 n5 m5
          refine ⟨trivial, ?_⟩
          refine RW.e 13 rfl (e_fa f31_0) ?_
          refine RW.any (is := [14]) rfl ⟨?_, trivial⟩
          refine RWat.h' rfl rfl rfl ?_
          refine (h_store s29 ?_)
          refine ⟨trivial, ?_⟩
          refine RW.done ?_
          refine PO.blockN ?_
          refine PO.next ?_
          refine WP.reg ?_
          refine WL.e e_move <| WL.e (e_loadN a31) ?_
          refine WL.h (h_bs sl61 z31 (.a1 (.tmp 96) rfl <| .n) fun b3 => ?_)
          refine WL.h (hl_append (xs := ts) (ys := [((⟨a5, n5, m5⟩ : SV), scanR (runM rows (l.take i)).2 ⟨x.key, x.to⟩ 256)]) sl61 resE z31 (lit_rl resE [((⟨a5, n5, m5⟩ : SV), scanR (runM rows (l.take i)).2 ⟨x.key, x.to⟩ 256)] rfl) (by have := congrArg List.length ht; rw [List.length_map, hr3, List.length_take] at this; simp only [List.length_cons, List.length_nil]; omega) (fun a2 n2 m2 => ?_))
          refine WL.e e_assign ?_
          refine WL.nil ?_
          refine PO.blockN ?_
          refine PO.next ?_
          refine WP.reg ?_
          refine WL.e e_move <| WL.e (e_add (c := ((i + 1 : Nat) : Int)) rfl rfl (by rw [w_i64 (by omega) (by omega)]; omega)) <| WL.e e_assign ?_
          refine WL.nil ?_
          refine PO.cls (A := ResR (ts ++ [((⟨a5, n5, m5⟩ : SV), scanR (runM rows (l.take i)).2 ⟨x.key, x.to⟩ 256)])) (B := [ResR ts, Sl 40 2 RowM.c (.slice a5 n5 m5) (scanR (runM rows (l.take i)).2 ⟨x.key, x.to⟩ 256)]) (ResR_snoc (l := ts) (x := ((⟨a5, n5, m5⟩ : SV), scanR (runM rows (l.take i)).2 ⟨x.key, x.to⟩ 256))) ?_
          refine PO.conv (conv1 (A := Mm p ((runM rows (l.take i)).2)) (B := Mm p (runM rows (l.take (i + 1))).2) (fun S h => by rw [hm2]; exact h) (by repeat first | exact .z | apply Put.s)) ?_
          exact PO.againK (i + 1, ⟨a2, n2, m2⟩, ts ++ [((⟨a5, n5, m5⟩ : SV), scanR (runM rows (l.take i)).2 ⟨x.key, x.to⟩ 256)]) ⟨by simp only; omega, by simp only; rw [hm2, List.map_append, ht]; rfl⟩ (by simp only; omega)
        · replace h4 : x.kind ≠ 4 := by simpa using h4
          refine WP.seq ?_
          refine WP.reg ?_
          refine WL.e (e_eql8 (b := 2)) <| WL.e e_assign ?_
          refine WL.next ?_
          refine WP.cond rfl (fun h5 => ?_) (fun h5 => ?_)
          · replace h5 : x.kind = 2 := by simpa using h5
            have hm2 : runM rows (l.take (i + 1)) = ((runM rows (l.take i)).1 ++ [[]], setR (runM rows (l.take i)).2 x.key x.val) := by rw [runM_take rows hx, show doneO (runM rows (l.take i)).2 x = ([], setR (runM rows (l.take i)).2 x.key x.val) by simp [doneO, h5]]
            refine WP.draws mixedOk 12 ?_
            refine RW.e 0 rfl e_move <| RW.e 1 rfl e_move <| RW.e 2 rfl e_move ?_
            refine RW.e 3 rfl (el_ia (j := i) sl60 hB hlt) ?_
            refine RW.e 4 rfl (el_fa (z := 4) (j := i) f36_1 hB hlt) ?_
            refine RW.e 5 rfl (el_load (j := i) (f := 1) (a := x) a9 opE hB hx) <| RW.e 6 rfl e_move <| RW.e 7 rfl e_move ?_
            refine RW.e 8 rfl (el_ia (j := i) sl60 hB hlt) ?_
            refine RW.e 9 rfl (el_fa (z := 4) (j := i) f36_3 hB hlt) ?_
            refine RW.e 10 rfl (el_load (j := i) (f := 3) (a := x) a22 opE hB hx) ?_
            refine RW.any (is := [11]) rfl ⟨?_, trivial⟩
            refine RWat.h rfl rfl rfl ?_
            refine (h_call (MPut_spec x.key x.val hr1 (by omega) (key_of hxo)) k72 ?_)
            refine ⟨trivial, ?_⟩
            refine RW.done ?_
            refine PO.blockN ?_
            refine PO.next ?_
            refine WP.reg ?_
            refine WL.e e_move <| WL.e (e_loadN a31) ?_
            refine WL.h (h_bs sl61 z31 (.a1 (.tmp 96) rfl <| .n) fun b4 => ?_)
            refine WL.h (hl_append (xs := ts) (ys := [((⟨none, 0, 0⟩ : SV), ([] : List RowM))]) sl61 resE z31 (lit_rl resE [((⟨none, 0, 0⟩ : SV), ([] : List RowM))] rfl) (by have := congrArg List.length ht; rw [List.length_map, hr3, List.length_take] at this; simp only [List.length_cons, List.length_nil]; omega) (fun a2 n2 m2 => ?_))
            refine WL.e e_assign ?_
            refine WL.nil ?_
            refine PO.blockN ?_
            refine PO.next ?_
            refine WP.reg ?_
            refine WL.e e_move <| WL.e (e_add (c := ((i + 1 : Nat) : Int)) rfl rfl (by rw [w_i64 (by omega) (by omega)]; omega)) <| WL.e e_assign ?_
            refine WL.nil ?_
            refine PO.nils 40 2 RowM.c none ?_
            refine PO.cls (A := ResR (ts ++ [((⟨none, 0, 0⟩ : SV), ([] : List RowM))])) (B := [ResR ts, Sl 40 2 RowM.c (.slice none 0 0) (([] : List RowM))]) (ResR_snoc (l := ts) (x := ((⟨none, 0, 0⟩ : SV), ([] : List RowM)))) ?_
            refine PO.conv (conv1 (A := Mm p (setR (runM rows (l.take i)).2 x.key x.val)) (B := Mm p (runM rows (l.take (i + 1))).2) (fun S h => by rw [hm2]; exact h) (by repeat first | exact .z | apply Put.s)) ?_
            exact PO.againK (i + 1, ⟨a2, n2, m2⟩, ts ++ [((⟨none, 0, 0⟩ : SV), ([] : List RowM))]) ⟨by simp only; omega, by simp only; rw [hm2, List.map_append, ht]; rfl⟩ (by simp only; omega)
          · replace h5 : x.kind ≠ 2 := by simpa using h5
            have hm2 : runM rows (l.take (i + 1)) = ((runM rows (l.take i)).1 ++ [[]], dropR (runM rows (l.take i)).2 x.key) := by rw [runM_take rows hx, show doneO (runM rows (l.take i)).2 x = ([], dropR (runM rows (l.take i)).2 x.key) by simp [doneO, h3, h4, h5]]
            refine WP.reg ?_
            refine WL.e e_move <| WL.e e_move <| WL.e e_move ?_
            refine WL.e (el_ia (j := i) sl60 hB hlt) ?_
            refine WL.e (el_fa (z := 4) (j := i) f36_1 hB hlt) ?_
            refine WL.e (el_load (j := i) (f := 1) (a := x) a9 opE hB hx) ?_
            refine WL.h (h_call (MDel_spec x.key hr1 (by omega) (key_of hxo)) k73 ?_)
            intro e0
            refine WL.nil ?_
            refine PO.blockN ?_
            refine PO.next ?_
            refine WP.reg ?_
            refine WL.e e_move <| WL.e (e_loadN a31) ?_
            refine WL.h (h_bs sl61 z31 (.a1 (.tmp 96) rfl <| .n) fun b5 => ?_)
            refine WL.h (hl_append (xs := ts) (ys := [((⟨none, 0, 0⟩ : SV), ([] : List RowM))]) sl61 resE z31 (lit_rl resE [((⟨none, 0, 0⟩ : SV), ([] : List RowM))] rfl) (by have := congrArg List.length ht; rw [List.length_map, hr3, List.length_take] at this; simp only [List.length_cons, List.length_nil]; omega) (fun a2 n2 m2 => ?_))
            refine WL.e e_assign ?_
            refine WL.nil ?_
            refine PO.blockN ?_
            refine PO.next ?_
            refine WP.reg ?_
            refine WL.e e_move <| WL.e (e_add (c := ((i + 1 : Nat) : Int)) rfl rfl (by rw [w_i64 (by omega) (by omega)]; omega)) <| WL.e e_assign ?_
            refine WL.nil ?_
            refine PO.nils 40 2 RowM.c none ?_
            refine PO.cls (A := ResR (ts ++ [((⟨none, 0, 0⟩ : SV), ([] : List RowM))])) (B := [ResR ts, Sl 40 2 RowM.c (.slice none 0 0) (([] : List RowM))]) (ResR_snoc (l := ts) (x := ((⟨none, 0, 0⟩ : SV), ([] : List RowM)))) ?_
            refine PO.conv (conv1 (A := Mm p (dropR (runM rows (l.take i)).2 x.key)) (B := Mm p (runM rows (l.take (i + 1))).2) (fun S h => by rw [hm2]; exact h) (by repeat first | exact .z | apply Put.s)) ?_
            exact PO.againK (i + 1, ⟨a2, n2, m2⟩, ts ++ [((⟨none, 0, 0⟩ : SV), ([] : List RowM))]) ⟨by simp only; omega, by simp only; rw [hm2, List.map_append, ht]; rfl⟩ (by simp only; omega)
    · rw [List.take_of_length_le (show l.length ≤ i by rw [decide_eq_false_iff_not] at h2; omega)] at ht ⊢
      refine WP.exit ?_
      refine PO.past nofun ?_
      refine PO.round nofun ?_
      refine PO.blockX ?_
      refine PO.next ?_
      refine WP.seq ?_
      refine WP.reg ?_
      refine WL.e e_move <| WL.e e_move ?_
      refine WL.h (h_call (Rows_spec (l := (runM rows l).2) (by have := (runM_rows hr l).2.1; omega)) k74 ?_)
      intro a9 m9 c9
      refine WL.e e_assign <| WL.e e_assign ?_
      refine WL.next ?_
      refine WP.ret ?_
      exact PO.fin Tryz.results32 (rv_tmp (rv_tmp rv_nil)) (hK w8 ts a9 m9 c9 ht)
end Go.SL
