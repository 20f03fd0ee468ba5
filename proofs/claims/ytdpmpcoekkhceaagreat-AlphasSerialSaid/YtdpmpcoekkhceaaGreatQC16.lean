/- VM: rules and walks, several texts in one. -/
import Derived.Test.YtdpmpcoekkhceaaGreatQC15
import Derived.Test.YtdpmpcoekkhceaaGreatProg
import Derived.KernelRfl
set_option linter.unusedSimpArgs false
set_option linter.unusedVariables false
namespace Go.SL.VM
open Go Go.Proofs Go.SL
theorem a22 : aggOf Tryz.prog 22 = some none := by kernel_rfl
theorem k195 : callable Tryz.prog 195 = true := by kernel_rfl
theorem mixedOk : Tryz.prog.follows .mixedOrders = true := by kernel_rfl
theorem s22 : szOf Tryz.prog 22 = some 1 := by kernel_rfl
theorem sl82 : slOf Tryz.prog 82 = some (22, 1, 4) := by kernel_rfl
end Go.SL.VM
namespace Go.SL
open Go Go.Proofs VM
open Go.Sort
set_option maxHeartbeats 2000000 in
theorem Part32_spec {g : World} {u : Value} (d : Array UInt32) (a b pv : Nat) (h1 : a ≤ pv) (h2 : pv < b) (hb : b ≤ d.size) (hn : d.size ≤ 68719476736) : Spec Tryz.prog g 197 [u, .int .i64 a, .int .i64 b, .int .i64 pv] [Sl 22 1 u32C u (d).toList] fun K R => K (.tuple #[.int .i64 ((partition lt32 d a b pv).1 : Nat), .bool (partition lt32 d a b pv).2.1]) (Sl 22 1 u32C u ((partition lt32 d a b pv).2.2).toList :: R) := by
  refine Spec.intro Tryz.func197 rfl Tryz.ntmps197 rfl fun R K hK => ?_
  refine WP.seq ?_
  refine WP.reg ?_
  refine WL.e e_assign <| WL.e e_assign ?_
  refine WL.next ?_
  refine WP.seq ?_
  refine WP.draws mixedOk 16 ?_
  refine RW.e 0 rfl e_move <| RW.e 1 rfl e_move <| RW.e 2 rfl e_move <| RW.e 3 rfl e_move <| RW.e 4 rfl e_move <| RW.e 5 rfl e_move <| RW.e 6 rfl (ea_ia sl82) <| RW.e 7 rfl (ea_load a22) <| RW.e 8 rfl e_move <| RW.e 9 rfl e_move <| RW.e 10 rfl (ea_ia sl82) <| RW.e 11 rfl (ea_load a22) ?_
  refine RW.e 12 rfl (ea_ia sl82) ?_
  refine RW.any (is := [13]) rfl ⟨?_, trivial⟩
  refine RWat.h' rfl rfl rfl ?_
  refine (ha_store s22 ?_)
  refine ⟨⟨⟨_, rfl, .inl ⟨rfl, e_move⟩⟩, ⟨_, rfl, .inl ⟨rfl, e_move⟩⟩, trivial⟩, ?_⟩
  refine RW.e 14 rfl (ea_ia sl82) ?_
  refine RW.any (is := [15]) rfl ⟨?_, trivial⟩
  refine RWat.h' rfl rfl rfl ?_
  refine (ha_store s22 ?_)
  refine ⟨trivial, ?_⟩
  refine RW.done ?_
  refine PO.next ?_
  refine WP.seq ?_
  refine WP.reg ?_
  refine WL.e e_move <| WL.e (e_addN (b := 1)) <| WL.e e_move <| WL.e (e_subN (b := 1)) <| WL.e e_assign <| WL.e e_assign ?_
  refine WL.next ?_
  refine WP.cutR (fun (z9 : Nat) => [(10, .int .i64 z9)]) (fun (z9 : Nat) => Sl 22 1 u32C u ((swp d a pv)).toList :: R) [(0, _), (1, _), (8, _), (9, _), (11, _)] (fun (z9 : Nat) => a + 1 ≤ z9 ∧ z9 ≤ (b - 1) + 1 ∧ scanUp (fun x => lt32 x (swp d a pv)[a]!) (swp d a pv) (b - 1) (a + 1) = z9 ∧ (z9 ≤ (b - 1) → (fun x => lt32 x (swp d a pv)[a]!) (swp d a pv)[z9]! = false)) ?_ ?_
  · skip
    refine WP.block ?_
    refine WP.loopK (fun (z9 : Nat) => [(10, .int .i64 z9)]) (fun (z9 : Nat) => Sl 22 1 u32C u ((swp d a pv)).toList :: R) [(0, _), (1, _), (8, _), (9, _), (11, _)] (fun (z9 : Nat) => a + 1 ≤ z9 ∧ z9 ≤ (b - 1) + 1 ∧ scanUp (fun x => lt32 x (swp d a pv)[a]!) (swp d a pv) (b - 1) z9 = scanUp (fun x => lt32 x (swp d a pv)[a]!) (swp d a pv) (b - 1) (a + 1)) (fun (z9 : Nat) => (b - 1) + 1 - z9) (a + 1) (⟨Nat.le_refl _, by omega, rfl⟩) ?_
    rintro i1 ⟨hi1, hi2, he1⟩
    refine WP.seq ?_
    refine WP.seq ?_
    refine WP.draws mixedOk 14 ?_
    refine RW.e 0 rfl e_move <| RW.e 1 rfl e_move <| RW.e 2 rfl e_leq <| RW.e 3 rfl e_move ?_
    refine RW.bool 33 rfl (fun g => ?_) (fun g => ?_)
    · replace g : i1 ≤ (b - 1) := by rw [decide_eq_true_eq] at g; omega
      refine RW.e 4 rfl e_move <| RW.e 5 rfl e_move <| RW.e 6 rfl (ea_ia sl82) <| RW.e 7 rfl (ea_load a22) <| RW.e 8 rfl e_move <| RW.e 9 rfl e_move <| RW.e 10 rfl (ea_ia sl82) <| RW.e 11 rfl (ea_load a22) ?_
      refine RW.any (is := [12]) rfl ⟨?_, trivial⟩
      refine RWat.h rfl rfl rfl ?_
      refine (h_call (Less32_spec _ _) k195 ?_)
      refine ⟨trivial, ?_⟩
      refine RW.e 13 rfl e_pick_t ?_
      refine RW.done ?_
      refine PO.next ?_
      refine WP.cond rfl (fun h3 => ?_) (fun h3 => ?_)
      · replace h3 : (fun x => lt32 x (swp d a pv)[a]!) ((swp d a pv))[i1]! = true := h3
        refine WP.skip ?_
        refine PO.next ?_
        refine WP.block ?_
        refine WP.reg ?_
        refine WL.e e_move <| WL.e (e_addN (b := 1)) <| WL.e e_assign ?_
        refine WL.nil ?_
        refine PO.blockN ?_
        exact PO.againK (i1 + 1) ⟨by omega, by omega, by rw [← he1, up_step g h3]⟩ (by omega)
      · replace h3 : (fun x => lt32 x (swp d a pv)[a]!) ((swp d a pv))[i1]! = false := h3
        refine WP.exit ?_
        refine PO.past nofun ?_
        refine PO.round nofun ?_
        refine PO.blockX ?_
        exact PO.meetK i1 ⟨hi1, hi2, by rw [← he1]; exact up_stop (fun _ => h3), fun _ => h3⟩
    · replace g : ¬ (i1 ≤ (b - 1)) := by rw [decide_eq_false_iff_not] at g; omega
      refine RW.skip 4 rfl <| RW.skip 5 rfl <| RW.skip 6 rfl <| RW.skip 7 rfl <| RW.skip 8 rfl <| RW.skip 9 rfl <| RW.skip 10 rfl <| RW.skip 11 rfl <| RW.skip 12 rfl <| RW.e 13 rfl e_pick_f ?_
      refine RW.done ?_
      refine PO.next ?_
      refine WP.cond_f rfl ?_
      refine WP.exit ?_
      refine PO.past nofun ?_
      refine PO.round nofun ?_
      refine PO.blockX ?_
      exact PO.meetK i1 ⟨hi1, hi2, by rw [← he1]; exact up_stop (fun h => absurd h g), fun h => absurd h g⟩
  · rintro i1 ⟨i1a, i1b, i1e, i1s⟩
    refine WP.cutR (fun (z9 : Nat) => [(11, .int .i64 z9)]) (fun (z9 : Nat) => Sl 22 1 u32C u ((swp d a pv)).toList :: R) [(0, _), (1, _), (8, _), (9, _), (10, _)] (fun (z9 : Nat) => z9 ≤ b - 1 ∧ i1 ≤ z9 + 1 ∧ scanDown (fun x => !lt32 x (swp d a pv)[a]!) (swp d a pv) i1 (b - 1) = z9 ∧ (i1 ≤ z9 → (fun x => !lt32 x (swp d a pv)[a]!) (swp d a pv)[z9]! = false)) ?_ ?_
    · skip
      refine WP.block ?_
      refine WP.loopK (fun (z9 : Nat) => [(11, .int .i64 z9)]) (fun (z9 : Nat) => Sl 22 1 u32C u ((swp d a pv)).toList :: R) [(0, _), (1, _), (8, _), (9, _), (10, _)] (fun (z9 : Nat) => z9 ≤ b - 1 ∧ i1 ≤ z9 + 1 ∧ scanDown (fun x => !lt32 x (swp d a pv)[a]!) (swp d a pv) i1 z9 = scanDown (fun x => !lt32 x (swp d a pv)[a]!) (swp d a pv) i1 (b - 1)) (fun (z9 : Nat) => z9) (b - 1) (⟨Nat.le_refl _, by omega, rfl⟩) ?_
      rintro j1 ⟨hj1, hj2, he2⟩
      refine WP.seq ?_
      refine WP.seq ?_
      refine WP.draws mixedOk 15 ?_
      refine RW.e 0 rfl e_move <| RW.e 1 rfl e_move <| RW.e 2 rfl e_leq <| RW.e 3 rfl e_move ?_
      refine RW.bool 49 rfl (fun g => ?_) (fun g => ?_)
      · replace g : i1 ≤ j1 := by rw [decide_eq_true_eq] at g; omega
        refine RW.e 4 rfl e_move <| RW.e 5 rfl e_move <| RW.e 6 rfl (ea_ia sl82) <| RW.e 7 rfl (ea_load a22) <| RW.e 8 rfl e_move <| RW.e 9 rfl e_move <| RW.e 10 rfl (ea_ia sl82) <| RW.e 11 rfl (ea_load a22) ?_
        refine RW.any (is := [12]) rfl ⟨?_, trivial⟩
        refine RWat.h rfl rfl rfl ?_
        refine (h_call (Less32_spec _ _) k195 ?_)
        refine ⟨trivial, ?_⟩
        refine RW.e 13 rfl e_not <| RW.e 14 rfl e_pick_t ?_
        refine RW.done ?_
        refine PO.next ?_
        refine WP.cond rfl (fun h3 => ?_) (fun h3 => ?_)
        · replace h3 : (fun x => !lt32 x (swp d a pv)[a]!) ((swp d a pv))[j1]! = true := h3
          refine WP.skip ?_
          refine PO.next ?_
          refine WP.block ?_
          refine WP.reg ?_
          refine WL.e e_move <| WL.e (e_subN (b := 1)) <| WL.e e_assign ?_
          refine WL.nil ?_
          refine PO.blockN ?_
          exact PO.againK (j1 - 1) ⟨by omega, by omega, by rw [← he2, down_step (by omega) g h3]⟩ (by omega)
        · replace h3 : (fun x => !lt32 x (swp d a pv)[a]!) ((swp d a pv))[j1]! = false := h3
          refine WP.exit ?_
          refine PO.past nofun ?_
          refine PO.round nofun ?_
          refine PO.blockX ?_
          exact PO.meetK j1 ⟨hj1, hj2, by rw [← he2]; exact down_stop (fun _ => h3), fun _ => h3⟩
      · replace g : ¬ (i1 ≤ j1) := by rw [decide_eq_false_iff_not] at g; omega
        refine RW.skip 4 rfl <| RW.skip 5 rfl <| RW.skip 6 rfl <| RW.skip 7 rfl <| RW.skip 8 rfl <| RW.skip 9 rfl <| RW.skip 10 rfl <| RW.skip 11 rfl <| RW.skip 12 rfl <| RW.skip 13 rfl <| RW.e 14 rfl e_pick_f ?_
        refine RW.done ?_
        refine PO.next ?_
        refine WP.cond_f rfl ?_
        refine WP.exit ?_
        refine PO.past nofun ?_
        refine PO.round nofun ?_
        refine PO.blockX ?_
        exact PO.meetK j1 ⟨hj1, hj2, by rw [← he2]; exact down_stop (fun h => absurd h g), fun h => absurd h g⟩
    · rintro j1 ⟨j1a, j1b, j1e, j1s⟩
      refine WP.seq ?_
      refine WP.seq ?_
      refine WP.reg ?_
      refine WL.e e_move <| WL.e e_move <| WL.e e_gtr ?_
      refine WL.next ?_
      refine WP.cond rfl (fun h5 => ?_) (fun h5 => ?_)
      · replace h5 : i1 > j1 := by rw [decide_eq_true_eq] at h5; omega
        refine WP.seq ?_
        refine WP.draws mixedOk 16 ?_
        refine RW.e 0 rfl e_move <| RW.e 1 rfl e_move <| RW.e 2 rfl e_move <| RW.e 3 rfl e_move <| RW.e 4 rfl e_move <| RW.e 5 rfl e_move <| RW.e 6 rfl (ea_ia sl82) <| RW.e 7 rfl (ea_load a22) <| RW.e 8 rfl e_move <| RW.e 9 rfl e_move <| RW.e 10 rfl (ea_ia sl82) <| RW.e 11 rfl (ea_load a22) ?_
        refine RW.e 12 rfl (ea_ia sl82) ?_
        refine RW.any (is := [13]) rfl ⟨?_, trivial⟩
        refine RWat.h' rfl rfl rfl ?_
        refine (ha_store s22 ?_)
        refine ⟨⟨⟨_, rfl, .inl ⟨rfl, e_move⟩⟩, ⟨_, rfl, .inl ⟨rfl, e_move⟩⟩, trivial⟩, ?_⟩
        refine RW.e 14 rfl (ea_ia sl82) ?_
        refine RW.any (is := [15]) rfl ⟨?_, trivial⟩
        refine RWat.h' rfl rfl rfl ?_
        refine (ha_store s22 ?_)
        refine ⟨trivial, ?_⟩
        refine RW.done ?_
        refine PO.next ?_
        refine WP.seq ?_
        refine WP.reg ?_
        refine WL.e e_move <| WL.e e_assign <| WL.e e_assign ?_
        refine WL.next ?_
        refine WP.ret ?_
        refine PO.past nofun ?_
        rw [partition_t rfl i1e j1e h5] at hK
        exact PO.fin Tryz.results197 (rv_tmp (rv_tmp rv_nil)) hK
      · replace h5 : ¬ (i1 > j1) := by rw [decide_eq_false_iff_not] at h5; omega
        refine WP.skip ?_
        refine PO.next ?_
        refine WP.seq ?_
        refine WP.draws mixedOk 16 ?_
        refine RW.e 0 rfl e_move <| RW.e 1 rfl e_move <| RW.e 2 rfl e_move <| RW.e 3 rfl e_move <| RW.e 4 rfl e_move <| RW.e 5 rfl e_move <| RW.e 6 rfl (ea_ia sl82) <| RW.e 7 rfl (ea_load a22) <| RW.e 8 rfl e_move <| RW.e 9 rfl e_move <| RW.e 10 rfl (ea_ia sl82) <| RW.e 11 rfl (ea_load a22) ?_
        refine RW.e 12 rfl (ea_ia sl82) ?_
        refine RW.any (is := [13]) rfl ⟨?_, trivial⟩
        refine RWat.h' rfl rfl rfl ?_
        refine (ha_store s22 ?_)
        refine ⟨⟨⟨_, rfl, .inl ⟨rfl, e_move⟩⟩, ⟨_, rfl, .inl ⟨rfl, e_move⟩⟩, trivial⟩, ?_⟩
        refine RW.e 14 rfl (ea_ia sl82) ?_
        refine RW.any (is := [15]) rfl ⟨?_, trivial⟩
        refine RWat.h' rfl rfl rfl ?_
        refine (ha_store s22 ?_)
        refine ⟨trivial, ?_⟩
        refine RW.done ?_
        refine PO.next ?_
        refine WP.seq ?_
        refine WP.reg ?_
        refine WL.e e_move <| WL.e (e_addN (b := 1)) <| WL.e e_assign ?_
        refine WL.next ?_
        refine WP.seq ?_
        refine WP.reg ?_
        refine WL.e e_move <| WL.e (e_subN (b := 1)) <| WL.e e_assign ?_
        refine WL.next ?_
        refine WP.seq ?_
        refine WP.block ?_
        have hij : i1 < j1 := by
          rcases Nat.lt_or_ge i1 j1 with h | h
          · exact h
          · obtain rfl : i1 = j1 := by omega
            have e1 := i1s (by omega)
            have e2 := nf (j1s (Nat.le_refl _))
            simp only at e1 e2
            rw [e1] at e2; cases e2
        refine WP.loopK (fun (x : Nat × Nat × Array UInt32) => [(10, .int .i64 x.1), (11, .int .i64 x.2.1)]) (fun (x : Nat × Nat × Array UInt32) => Sl 22 1 u32C u (x.2.2).toList :: R) [(0, _), (1, _), (8, _), (9, _)] (fun (x : Nat × Nat × Array UInt32) => x.2.2.size = d.size ∧ a + 1 ≤ x.1 ∧ x.1 ≤ x.2.1 + 1 ∧ x.2.1 < b ∧ partLoop lt32 a x.1 x.2.1 x.2.2 = partLoop lt32 a (i1 + 1) (j1 - 1) (swp (swp d a pv) i1 j1)) (fun (x : Nat × Nat × Array UInt32) => x.2.1 + 1 - x.1) (i1 + 1, j1 - 1, swp (swp d a pv) i1 j1) (⟨by simp only [swp_size], by simp only; omega, by simp only; omega, by simp only; omega, rfl⟩) ?_
        rintro ⟨i, j, d1⟩ ⟨hs1, hl1, hl2, hl3, hl4⟩
        simp only at hs1 hl1 hl2 hl3 hl4
        dsimp only
        refine WP.block ?_
        refine WP.cutR (fun (z9 : Nat) => [(10, .int .i64 z9)]) (fun (z9 : Nat) => Sl 22 1 u32C u (d1).toList :: R) [(0, _), (1, _), (8, _), (9, _), (11, _)] (fun (z9 : Nat) => i ≤ z9 ∧ z9 ≤ j + 1 ∧ scanUp (fun x => lt32 x d1[a]!) d1 j (i) = z9 ∧ (z9 ≤ j → (fun x => lt32 x d1[a]!) d1[z9]! = false)) ?_ ?_
        · skip
          refine WP.block ?_
          refine WP.loopK (fun (z9 : Nat) => [(10, .int .i64 z9)]) (fun (z9 : Nat) => Sl 22 1 u32C u (d1).toList :: R) [(0, _), (1, _), (8, _), (9, _), (11, _)] (fun (z9 : Nat) => i ≤ z9 ∧ z9 ≤ j + 1 ∧ scanUp (fun x => lt32 x d1[a]!) d1 j z9 = scanUp (fun x => lt32 x d1[a]!) d1 j (i)) (fun (z9 : Nat) => j + 1 - z9) (i) (⟨Nat.le_refl _, by omega, rfl⟩) ?_
          rintro i2 ⟨hi1, hi2, he1⟩
          refine WP.seq ?_
          refine WP.seq ?_
          refine WP.draws mixedOk 14 ?_
          refine RW.e 0 rfl e_move <| RW.e 1 rfl e_move <| RW.e 2 rfl e_leq <| RW.e 3 rfl e_move ?_
          refine RW.bool 102 rfl (fun g => ?_) (fun g => ?_)
          · replace g : i2 ≤ j := by rw [decide_eq_true_eq] at g; omega
            refine RW.e 4 rfl e_move <| RW.e 5 rfl e_move <| RW.e 6 rfl (ea_ia sl82) <| RW.e 7 rfl (ea_load a22) <| RW.e 8 rfl e_move <| RW.e 9 rfl e_move <| RW.e 10 rfl (ea_ia sl82) <| RW.e 11 rfl (ea_load a22) ?_
            refine RW.any (is := [12]) rfl ⟨?_, trivial⟩
            refine RWat.h rfl rfl rfl ?_
            refine (h_call (Less32_spec _ _) k195 ?_)
            refine ⟨trivial, ?_⟩
            refine RW.e 13 rfl e_pick_t ?_
            refine RW.done ?_
            refine PO.next ?_
            refine WP.cond rfl (fun h3 => ?_) (fun h3 => ?_)
            · replace h3 : (fun x => lt32 x d1[a]!) (d1)[i2]! = true := h3
              refine WP.skip ?_
              refine PO.next ?_
              refine WP.block ?_
              refine WP.reg ?_
              refine WL.e e_move <| WL.e (e_addN (b := 1)) <| WL.e e_assign ?_
              refine WL.nil ?_
              refine PO.blockN ?_
              exact PO.againK (i2 + 1) ⟨by omega, by omega, by rw [← he1, up_step g h3]⟩ (by omega)
            · replace h3 : (fun x => lt32 x d1[a]!) (d1)[i2]! = false := h3
              refine WP.exit ?_
              refine PO.past nofun ?_
              refine PO.round nofun ?_
              refine PO.blockX ?_
              exact PO.meetK i2 ⟨hi1, hi2, by rw [← he1]; exact up_stop (fun _ => h3), fun _ => h3⟩
          · replace g : ¬ (i2 ≤ j) := by rw [decide_eq_false_iff_not] at g; omega
            refine RW.skip 4 rfl <| RW.skip 5 rfl <| RW.skip 6 rfl <| RW.skip 7 rfl <| RW.skip 8 rfl <| RW.skip 9 rfl <| RW.skip 10 rfl <| RW.skip 11 rfl <| RW.skip 12 rfl <| RW.e 13 rfl e_pick_f ?_
            refine RW.done ?_
            refine PO.next ?_
            refine WP.cond_f rfl ?_
            refine WP.exit ?_
            refine PO.past nofun ?_
            refine PO.round nofun ?_
            refine PO.blockX ?_
            exact PO.meetK i2 ⟨hi1, hi2, by rw [← he1]; exact up_stop (fun h => absurd h g), fun h => absurd h g⟩
        · rintro i2 ⟨i2a, i2b, i2e, i2s⟩
          refine WP.cutR (fun (z9 : Nat) => [(11, .int .i64 z9)]) (fun (z9 : Nat) => Sl 22 1 u32C u (d1).toList :: R) [(0, _), (1, _), (8, _), (9, _), (10, _)] (fun (z9 : Nat) => z9 ≤ j ∧ i2 ≤ z9 + 1 ∧ scanDown (fun x => !lt32 x d1[a]!) d1 i2 (j) = z9 ∧ (i2 ≤ z9 → (fun x => !lt32 x d1[a]!) d1[z9]! = false)) ?_ ?_
          · skip
            refine WP.block ?_
            refine WP.loopK (fun (z9 : Nat) => [(11, .int .i64 z9)]) (fun (z9 : Nat) => Sl 22 1 u32C u (d1).toList :: R) [(0, _), (1, _), (8, _), (9, _), (10, _)] (fun (z9 : Nat) => z9 ≤ j ∧ i2 ≤ z9 + 1 ∧ scanDown (fun x => !lt32 x d1[a]!) d1 i2 z9 = scanDown (fun x => !lt32 x d1[a]!) d1 i2 (j)) (fun (z9 : Nat) => z9) (j) (⟨Nat.le_refl _, by omega, rfl⟩) ?_
            rintro j2 ⟨hj1, hj2, he2⟩
            refine WP.seq ?_
            refine WP.seq ?_
            refine WP.draws mixedOk 15 ?_
            refine RW.e 0 rfl e_move <| RW.e 1 rfl e_move <| RW.e 2 rfl e_leq <| RW.e 3 rfl e_move ?_
            refine RW.bool 118 rfl (fun g => ?_) (fun g => ?_)
            · replace g : i2 ≤ j2 := by rw [decide_eq_true_eq] at g; omega
              refine RW.e 4 rfl e_move <| RW.e 5 rfl e_move <| RW.e 6 rfl (ea_ia sl82) <| RW.e 7 rfl (ea_load a22) <| RW.e 8 rfl e_move <| RW.e 9 rfl e_move <| RW.e 10 rfl (ea_ia sl82) <| RW.e 11 rfl (ea_load a22) ?_
              refine RW.any (is := [12]) rfl ⟨?_, trivial⟩
              refine RWat.h rfl rfl rfl ?_
              refine (h_call (Less32_spec _ _) k195 ?_)
              refine ⟨trivial, ?_⟩
              refine RW.e 13 rfl e_not <| RW.e 14 rfl e_pick_t ?_
              refine RW.done ?_
              refine PO.next ?_
              refine WP.cond rfl (fun h3 => ?_) (fun h3 => ?_)
              · replace h3 : (fun x => !lt32 x d1[a]!) (d1)[j2]! = true := h3
                refine WP.skip ?_
                refine PO.next ?_
                refine WP.block ?_
                refine WP.reg ?_
                refine WL.e e_move <| WL.e (e_subN (b := 1)) <| WL.e e_assign ?_
                refine WL.nil ?_
                refine PO.blockN ?_
                exact PO.againK (j2 - 1) ⟨by omega, by omega, by rw [← he2, down_step (by omega) g h3]⟩ (by omega)
              · replace h3 : (fun x => !lt32 x d1[a]!) (d1)[j2]! = false := h3
                refine WP.exit ?_
                refine PO.past nofun ?_
                refine PO.round nofun ?_
                refine PO.blockX ?_
                exact PO.meetK j2 ⟨hj1, hj2, by rw [← he2]; exact down_stop (fun _ => h3), fun _ => h3⟩
            · replace g : ¬ (i2 ≤ j2) := by rw [decide_eq_false_iff_not] at g; omega
              refine RW.skip 4 rfl <| RW.skip 5 rfl <| RW.skip 6 rfl <| RW.skip 7 rfl <| RW.skip 8 rfl <| RW.skip 9 rfl <| RW.skip 10 rfl <| RW.skip 11 rfl <| RW.skip 12 rfl <| RW.skip 13 rfl <| RW.e 14 rfl e_pick_f ?_
              refine RW.done ?_
              refine PO.next ?_
              refine WP.cond_f rfl ?_
              refine WP.exit ?_
              refine PO.past nofun ?_
              refine PO.round nofun ?_
              refine PO.blockX ?_
              exact PO.meetK j2 ⟨hj1, hj2, by rw [← he2]; exact down_stop (fun h => absurd h g), fun h => absurd h g⟩
          · rintro j2 ⟨j2a, j2b, j2e, j2s⟩
            refine WP.seq ?_
            refine WP.seq ?_
            refine WP.reg ?_
            refine WL.e e_move <| WL.e e_move <| WL.e e_gtr ?_
            refine WL.next ?_
            refine WP.cond rfl (fun h6 => ?_) (fun h6 => ?_)
            · replace h6 : i2 > j2 := by rw [decide_eq_true_eq] at h6; omega
              refine WP.exit ?_
              refine PO.past nofun ?_
              refine PO.blockY rfl ?_
              refine PO.round nofun ?_
              refine PO.blockX ?_
              refine PO.next ?_
              refine WP.seq ?_
              refine WP.draws mixedOk 16 ?_
              refine RW.e 0 rfl e_move <| RW.e 1 rfl e_move <| RW.e 2 rfl e_move <| RW.e 3 rfl e_move <| RW.e 4 rfl e_move <| RW.e 5 rfl e_move <| RW.e 6 rfl (ea_ia sl82) <| RW.e 7 rfl (ea_load a22) <| RW.e 8 rfl e_move <| RW.e 9 rfl e_move <| RW.e 10 rfl (ea_ia sl82) <| RW.e 11 rfl (ea_load a22) ?_
              refine RW.e 12 rfl (ea_ia sl82) ?_
              refine RW.any (is := [13]) rfl ⟨?_, trivial⟩
              refine RWat.h' rfl rfl rfl ?_
              refine (ha_store s22 ?_)
              refine ⟨⟨⟨_, rfl, .inl ⟨rfl, e_move⟩⟩, ⟨_, rfl, .inl ⟨rfl, e_move⟩⟩, trivial⟩, ?_⟩
              refine RW.e 14 rfl (ea_ia sl82) ?_
              refine RW.any (is := [15]) rfl ⟨?_, trivial⟩
              refine RWat.h' rfl rfl rfl ?_
              refine (ha_store s22 ?_)
              refine ⟨trivial, ?_⟩
              refine RW.done ?_
              refine PO.next ?_
              refine WP.seq ?_
              refine WP.reg ?_
              refine WL.e e_move <| WL.e e_assign <| WL.e e_assign ?_
              refine WL.next ?_
              refine WP.ret ?_
              rw [partition_f rfl i1e j1e h5 (hl4.symm.trans (part_stop i2e j2e h6))] at hK
              exact PO.fin Tryz.results197 (rv_tmp (rv_tmp rv_nil)) hK
            · replace h6 : ¬ (i2 > j2) := by rw [decide_eq_false_iff_not] at h6; omega
              refine WP.skip ?_
              refine PO.next ?_
              refine WP.seq ?_
              refine WP.draws mixedOk 16 ?_
              refine RW.e 0 rfl e_move <| RW.e 1 rfl e_move <| RW.e 2 rfl e_move <| RW.e 3 rfl e_move <| RW.e 4 rfl e_move <| RW.e 5 rfl e_move <| RW.e 6 rfl (ea_ia sl82) <| RW.e 7 rfl (ea_load a22) <| RW.e 8 rfl e_move <| RW.e 9 rfl e_move <| RW.e 10 rfl (ea_ia sl82) <| RW.e 11 rfl (ea_load a22) ?_
              refine RW.e 12 rfl (ea_ia sl82) ?_
              refine RW.any (is := [13]) rfl ⟨?_, trivial⟩
              refine RWat.h' rfl rfl rfl ?_
              refine (ha_store s22 ?_)
              refine ⟨⟨⟨_, rfl, .inl ⟨rfl, e_move⟩⟩, ⟨_, rfl, .inl ⟨rfl, e_move⟩⟩, trivial⟩, ?_⟩
              refine RW.e 14 rfl (ea_ia sl82) ?_
              refine RW.any (is := [15]) rfl ⟨?_, trivial⟩
              refine RWat.h' rfl rfl rfl ?_
              refine (ha_store s22 ?_)
              refine ⟨trivial, ?_⟩
              refine RW.done ?_
              refine PO.next ?_
              refine WP.seq ?_
              refine WP.reg ?_
              refine WL.e e_move <| WL.e (e_addN (b := 1)) <| WL.e e_assign ?_
              refine WL.next ?_
              refine WP.reg ?_
              refine WL.e e_move <| WL.e (e_subN (b := 1)) <| WL.e e_assign ?_
              refine WL.nil ?_
              refine PO.blockN ?_
              have hij2 : i2 < j2 := by
                rcases Nat.lt_or_ge i2 j2 with h | h
                · exact h
                · obtain rfl : i2 = j2 := by omega
                  have e1 := i2s (by omega)
                  have e2 := nf (j2s (Nat.le_refl _))
                  simp only at e1 e2
                  rw [e1] at e2; cases e2
              exact PO.againK (i2 + 1, j2 - 1, swp d1 i2 j2) ⟨by simp only [swp_size]; omega, by simp only; omega, by simp only; omega, by simp only; omega, by simp only; rw [← hl4, part_step i2e j2e h6 (by omega)]⟩ (by simp only; omega)
set_option maxHeartbeats 2000000 in
theorem PartE32_spec {g : World} {u : Value} (d : Array UInt32) (a b pv : Nat) (h1 : a ≤ pv) (h2 : pv < b) (hb : b ≤ d.size) (hn : d.size ≤ 68719476736) : Spec Tryz.prog g 196 [u, .int .i64 a, .int .i64 b, .int .i64 pv] [Sl 22 1 u32C u (d).toList] fun K R => K (.int .i64 ((partitionEqual lt32 d a b pv).1 : Nat)) (Sl 22 1 u32C u ((partitionEqual lt32 d a b pv).2).toList :: R) := by
  refine Spec.intro Tryz.func196 rfl Tryz.ntmps196 rfl fun R K hK => ?_
  refine WP.seq ?_
  refine WP.reg ?_
  refine WL.e e_assign ?_
  refine WL.next ?_
  refine WP.seq ?_
  refine WP.draws mixedOk 16 ?_
  refine RW.e 0 rfl e_move <| RW.e 1 rfl e_move <| RW.e 2 rfl e_move <| RW.e 3 rfl e_move <| RW.e 4 rfl e_move <| RW.e 5 rfl e_move <| RW.e 6 rfl (ea_ia sl82) <| RW.e 7 rfl (ea_load a22) <| RW.e 8 rfl e_move <| RW.e 9 rfl e_move <| RW.e 10 rfl (ea_ia sl82) <| RW.e 11 rfl (ea_load a22) ?_
  refine RW.e 12 rfl (ea_ia sl82) ?_
  refine RW.any (is := [13]) rfl ⟨?_, trivial⟩
  refine RWat.h' rfl rfl rfl ?_
  refine (ha_store s22 ?_)
  refine ⟨⟨⟨_, rfl, .inl ⟨rfl, e_move⟩⟩, ⟨_, rfl, .inl ⟨rfl, e_move⟩⟩, trivial⟩, ?_⟩
  refine RW.e 14 rfl (ea_ia sl82) ?_
  refine RW.any (is := [15]) rfl ⟨?_, trivial⟩
  refine RWat.h' rfl rfl rfl ?_
  refine (ha_store s22 ?_)
  refine ⟨trivial, ?_⟩
  refine RW.done ?_
  refine PO.next ?_
  refine WP.seq ?_
  refine WP.reg ?_
  refine WL.e e_move <| WL.e (e_addN (b := 1)) <| WL.e e_move <| WL.e (e_subN (b := 1)) <| WL.e e_assign <| WL.e e_assign ?_
  refine WL.next ?_
  refine WP.seq ?_
  refine WP.block ?_
  refine WP.loopK (fun (x : Nat × Nat × Array UInt32) => [(9, .int .i64 x.1), (10, .int .i64 x.2.1)]) (fun (x : Nat × Nat × Array UInt32) => Sl 22 1 u32C u (x.2.2).toList :: R) [(0, _), (1, _), (8, _)] (fun (x : Nat × Nat × Array UInt32) => x.2.2.size = d.size ∧ a + 1 ≤ x.1 ∧ x.1 ≤ x.2.1 + 1 ∧ x.2.1 < b ∧ partEqLoop lt32 a x.1 x.2.1 x.2.2 = partitionEqual lt32 d a b pv) (fun (x : Nat × Nat × Array UInt32) => x.2.1 + 1 - x.1) (a + 1, b - 1, swp d a pv) (⟨by simp only [swp_size], by simp only; omega, by simp only; omega, by simp only; omega, rfl⟩) ?_
  rintro ⟨i, j, d1⟩ ⟨hs1, hl1, hl2, hl3, hl4⟩
  simp only at hs1 hl1 hl2 hl3 hl4
  dsimp only
  refine WP.block ?_
  refine WP.cutR (fun (z9 : Nat) => [(9, .int .i64 z9)]) (fun (z9 : Nat) => Sl 22 1 u32C u (d1).toList :: R) [(0, _), (1, _), (8, _), (10, _)] (fun (z9 : Nat) => i ≤ z9 ∧ z9 ≤ j + 1 ∧ scanUp (fun x => !lt32 d1[a]! x) d1 j (i) = z9 ∧ (z9 ≤ j → (fun x => !lt32 d1[a]! x) d1[z9]! = false)) ?_ ?_
  · skip
    refine WP.block ?_
    refine WP.loopK (fun (z9 : Nat) => [(9, .int .i64 z9)]) (fun (z9 : Nat) => Sl 22 1 u32C u (d1).toList :: R) [(0, _), (1, _), (8, _), (10, _)] (fun (z9 : Nat) => i ≤ z9 ∧ z9 ≤ j + 1 ∧ scanUp (fun x => !lt32 d1[a]! x) d1 j z9 = scanUp (fun x => !lt32 d1[a]! x) d1 j (i)) (fun (z9 : Nat) => j + 1 - z9) (i) (⟨Nat.le_refl _, by omega, rfl⟩) ?_
    rintro i2 ⟨hi1, hi2, he1⟩
    refine WP.seq ?_
    refine WP.seq ?_
    refine WP.draws mixedOk 15 ?_
    refine RW.e 0 rfl e_move <| RW.e 1 rfl e_move <| RW.e 2 rfl e_leq <| RW.e 3 rfl e_move ?_
    refine RW.bool 32 rfl (fun g => ?_) (fun g => ?_)
    · replace g : i2 ≤ j := by rw [decide_eq_true_eq] at g; omega
      refine RW.e 4 rfl e_move <| RW.e 5 rfl e_move <| RW.e 6 rfl (ea_ia sl82) <| RW.e 7 rfl (ea_load a22) <| RW.e 8 rfl e_move <| RW.e 9 rfl e_move <| RW.e 10 rfl (ea_ia sl82) <| RW.e 11 rfl (ea_load a22) ?_
      refine RW.any (is := [12]) rfl ⟨?_, trivial⟩
      refine RWat.h rfl rfl rfl ?_
      refine (h_call (Less32_spec _ _) k195 ?_)
      refine ⟨trivial, ?_⟩
      refine RW.e 13 rfl e_not <| RW.e 14 rfl e_pick_t ?_
      refine RW.done ?_
      refine PO.next ?_
      refine WP.cond rfl (fun h3 => ?_) (fun h3 => ?_)
      · replace h3 : (fun x => !lt32 d1[a]! x) (d1)[i2]! = true := h3
        refine WP.skip ?_
        refine PO.next ?_
        refine WP.block ?_
        refine WP.reg ?_
        refine WL.e e_move <| WL.e (e_addN (b := 1)) <| WL.e e_assign ?_
        refine WL.nil ?_
        refine PO.blockN ?_
        exact PO.againK (i2 + 1) ⟨by omega, by omega, by rw [← he1, up_step g h3]⟩ (by omega)
      · replace h3 : (fun x => !lt32 d1[a]! x) (d1)[i2]! = false := h3
        refine WP.exit ?_
        refine PO.past nofun ?_
        refine PO.round nofun ?_
        refine PO.blockX ?_
        exact PO.meetK i2 ⟨hi1, hi2, by rw [← he1]; exact up_stop (fun _ => h3), fun _ => h3⟩
    · replace g : ¬ (i2 ≤ j) := by rw [decide_eq_false_iff_not] at g; omega
      refine RW.skip 4 rfl <| RW.skip 5 rfl <| RW.skip 6 rfl <| RW.skip 7 rfl <| RW.skip 8 rfl <| RW.skip 9 rfl <| RW.skip 10 rfl <| RW.skip 11 rfl <| RW.skip 12 rfl <| RW.skip 13 rfl <| RW.e 14 rfl e_pick_f ?_
      refine RW.done ?_
      refine PO.next ?_
      refine WP.cond_f rfl ?_
      refine WP.exit ?_
      refine PO.past nofun ?_
      refine PO.round nofun ?_
      refine PO.blockX ?_
      exact PO.meetK i2 ⟨hi1, hi2, by rw [← he1]; exact up_stop (fun h => absurd h g), fun h => absurd h g⟩
  · rintro i2 ⟨i2a, i2b, i2e, i2s⟩
    refine WP.cutR (fun (z9 : Nat) => [(10, .int .i64 z9)]) (fun (z9 : Nat) => Sl 22 1 u32C u (d1).toList :: R) [(0, _), (1, _), (8, _), (9, _)] (fun (z9 : Nat) => z9 ≤ j ∧ i2 ≤ z9 + 1 ∧ scanDown (fun x => lt32 d1[a]! x) d1 i2 (j) = z9 ∧ (i2 ≤ z9 → (fun x => lt32 d1[a]! x) d1[z9]! = false)) ?_ ?_
    · skip
      refine WP.block ?_
      refine WP.loopK (fun (z9 : Nat) => [(10, .int .i64 z9)]) (fun (z9 : Nat) => Sl 22 1 u32C u (d1).toList :: R) [(0, _), (1, _), (8, _), (9, _)] (fun (z9 : Nat) => z9 ≤ j ∧ i2 ≤ z9 + 1 ∧ scanDown (fun x => lt32 d1[a]! x) d1 i2 z9 = scanDown (fun x => lt32 d1[a]! x) d1 i2 (j)) (fun (z9 : Nat) => z9) (j) (⟨Nat.le_refl _, by omega, rfl⟩) ?_
      rintro j2 ⟨hj1, hj2, he2⟩
      refine WP.seq ?_
      refine WP.seq ?_
      refine WP.draws mixedOk 14 ?_
      refine RW.e 0 rfl e_move <| RW.e 1 rfl e_move <| RW.e 2 rfl e_leq <| RW.e 3 rfl e_move ?_
      refine RW.bool 49 rfl (fun g => ?_) (fun g => ?_)
      · replace g : i2 ≤ j2 := by rw [decide_eq_true_eq] at g; omega
        refine RW.e 4 rfl e_move <| RW.e 5 rfl e_move <| RW.e 6 rfl (ea_ia sl82) <| RW.e 7 rfl (ea_load a22) <| RW.e 8 rfl e_move <| RW.e 9 rfl e_move <| RW.e 10 rfl (ea_ia sl82) <| RW.e 11 rfl (ea_load a22) ?_
        refine RW.any (is := [12]) rfl ⟨?_, trivial⟩
        refine RWat.h rfl rfl rfl ?_
        refine (h_call (Less32_spec _ _) k195 ?_)
        refine ⟨trivial, ?_⟩
        refine RW.e 13 rfl e_pick_t ?_
        refine RW.done ?_
        refine PO.next ?_
        refine WP.cond rfl (fun h3 => ?_) (fun h3 => ?_)
        · replace h3 : (fun x => lt32 d1[a]! x) (d1)[j2]! = true := h3
          refine WP.skip ?_
          refine PO.next ?_
          refine WP.block ?_
          refine WP.reg ?_
          refine WL.e e_move <| WL.e (e_subN (b := 1)) <| WL.e e_assign ?_
          refine WL.nil ?_
          refine PO.blockN ?_
          exact PO.againK (j2 - 1) ⟨by omega, by omega, by rw [← he2, down_step (by omega) g h3]⟩ (by omega)
        · replace h3 : (fun x => lt32 d1[a]! x) (d1)[j2]! = false := h3
          refine WP.exit ?_
          refine PO.past nofun ?_
          refine PO.round nofun ?_
          refine PO.blockX ?_
          exact PO.meetK j2 ⟨hj1, hj2, by rw [← he2]; exact down_stop (fun _ => h3), fun _ => h3⟩
      · replace g : ¬ (i2 ≤ j2) := by rw [decide_eq_false_iff_not] at g; omega
        refine RW.skip 4 rfl <| RW.skip 5 rfl <| RW.skip 6 rfl <| RW.skip 7 rfl <| RW.skip 8 rfl <| RW.skip 9 rfl <| RW.skip 10 rfl <| RW.skip 11 rfl <| RW.skip 12 rfl <| RW.e 13 rfl e_pick_f ?_
        refine RW.done ?_
        refine PO.next ?_
        refine WP.cond_f rfl ?_
        refine WP.exit ?_
        refine PO.past nofun ?_
        refine PO.round nofun ?_
        refine PO.blockX ?_
        exact PO.meetK j2 ⟨hj1, hj2, by rw [← he2]; exact down_stop (fun h => absurd h g), fun h => absurd h g⟩
    · rintro j2 ⟨j2a, j2b, j2e, j2s⟩
      refine WP.seq ?_
      refine WP.seq ?_
      refine WP.reg ?_
      refine WL.e e_move <| WL.e e_move <| WL.e e_gtr ?_
      refine WL.next ?_
      refine WP.cond rfl (fun h6 => ?_) (fun h6 => ?_)
      · replace h6 : i2 > j2 := by rw [decide_eq_true_eq] at h6; omega
        refine WP.exit ?_
        refine PO.past nofun ?_
        refine PO.blockY rfl ?_
        refine PO.round nofun ?_
        refine PO.blockX ?_
        refine PO.next ?_
        refine WP.seq ?_
        refine WP.reg ?_
        refine WL.e e_move <| WL.e e_assign ?_
        refine WL.next ?_
        refine WP.ret ?_
        rw [hl4.symm.trans (parte_stop i2e j2e h6)] at hK
        exact PO.fin Tryz.results196 (rv_tmp rv_nil) hK
      · replace h6 : ¬ (i2 > j2) := by rw [decide_eq_false_iff_not] at h6; omega
        refine WP.skip ?_
        refine PO.next ?_
        refine WP.seq ?_
        refine WP.draws mixedOk 16 ?_
        refine RW.e 0 rfl e_move <| RW.e 1 rfl e_move <| RW.e 2 rfl e_move <| RW.e 3 rfl e_move <| RW.e 4 rfl e_move <| RW.e 5 rfl e_move <| RW.e 6 rfl (ea_ia sl82) <| RW.e 7 rfl (ea_load a22) <| RW.e 8 rfl e_move <| RW.e 9 rfl e_move <| RW.e 10 rfl (ea_ia sl82) <| RW.e 11 rfl (ea_load a22) ?_
        refine RW.e 12 rfl (ea_ia sl82) ?_
        refine RW.any (is := [13]) rfl ⟨?_, trivial⟩
        refine RWat.h' rfl rfl rfl ?_
        refine (ha_store s22 ?_)
        refine ⟨⟨⟨_, rfl, .inl ⟨rfl, e_move⟩⟩, ⟨_, rfl, .inl ⟨rfl, e_move⟩⟩, trivial⟩, ?_⟩
        refine RW.e 14 rfl (ea_ia sl82) ?_
        refine RW.any (is := [15]) rfl ⟨?_, trivial⟩
        refine RWat.h' rfl rfl rfl ?_
        refine (ha_store s22 ?_)
        refine ⟨trivial, ?_⟩
        refine RW.done ?_
        refine PO.next ?_
        refine WP.seq ?_
        refine WP.reg ?_
        refine WL.e e_move <| WL.e (e_addN (b := 1)) <| WL.e e_assign ?_
        refine WL.next ?_
        refine WP.reg ?_
        refine WL.e e_move <| WL.e (e_subN (b := 1)) <| WL.e e_assign ?_
        refine WL.nil ?_
        refine PO.blockN ?_
        have hij2 : i2 < j2 := by
          rcases Nat.lt_or_ge i2 j2 with h | h
          · exact h
          · obtain rfl : i2 = j2 := by omega
            have e1 := nf (i2s (by omega))
            have e2 := j2s (Nat.le_refl _)
            simp only at e1 e2
            rw [e1] at e2; cases e2
        exact PO.againK (i2 + 1, j2 - 1, swp d1 i2 j2) ⟨by simp only [swp_size]; omega, by simp only; omega, by simp only; omega, by simp only; omega, by simp only; rw [← hl4, parte_step i2e j2e h6 (by omega)]⟩ (by simp only; omega)
set_option maxHeartbeats 2000000 in
theorem PIns32_spec {g : World} {u : Value} (d : Array UInt32) (a b : Nat) (hab : a < b) (hb : b ≤ d.size) (hn : d.size ≤ 68719476736) : Spec Tryz.prog g 194 [u, .int .i64 a, .int .i64 b] [Sl 22 1 u32C u (d).toList] fun K R => K (.bool (partialInsertionSort lt32 d a b).2) (Sl 22 1 u32C u ((partialInsertionSort lt32 d a b).1).toList :: R) := by
  refine Spec.intro Tryz.func194 rfl Tryz.ntmps194 rfl fun R K hK => ?_
  refine WP.seq ?_
  refine WP.reg ?_
  refine WL.e e_assign ?_
  refine WL.next ?_
  refine WP.seq ?_
  refine WP.reg ?_
  refine WL.e e_move <| WL.e (e_addN (b := 1)) <| WL.e e_assign ?_
  refine WL.next ?_
  refine WP.seq ?_
  refine WP.seq ?_
  refine WP.reg ?_
  refine WL.e e_assign ?_
  refine WL.next ?_
  refine WP.block ?_
  refine WP.loopK (fun (x : Nat × Nat × Array UInt32) => [(8, .int .i64 ((5 - x.1 : Nat) : Int)), (7, .int .i64 x.2.1)]) (fun (x : Nat × Nat × Array UInt32) => Sl 22 1 u32C u (x.2.2).toList :: R) [(0, _), (1, _), (2, _)] (fun (x : Nat × Nat × Array UInt32) => x.2.2.size = d.size ∧ x.1 ≤ 5 ∧ a + 1 ≤ x.2.1 ∧ x.2.1 ≤ b ∧ partialIns lt32 a b x.1 x.2.1 x.2.2 = partialInsertionSort lt32 d a b) (fun (x : Nat × Nat × Array UInt32) => x.1) (5, a + 1, d) (⟨rfl, Nat.le_refl _, by simp only; omega, by simp only; omega, rfl⟩) ?_
  rintro ⟨s, i, d1⟩ ⟨hs1, hl0, hl1, hl2, he⟩
  simp only at hs1 hl0 hl1 hl2 he
  dsimp only
  refine WP.seq ?_
  refine WP.seq ?_
  refine WP.reg ?_
  refine WL.e e_move <| WL.e e_lss ?_
  refine WL.next ?_
  refine WP.cond rfl (fun h1 => ?_) (fun h1 => ?_)
  · replace h1 : 0 < s := by rw [decide_eq_true_eq] at h1; omega
    refine WP.skip ?_
    refine PO.next ?_
    refine WP.seq ?_
    refine WP.block ?_
    refine WP.cutR (fun (z9 : Nat) => [(7, .int .i64 z9)]) (fun (z9 : Nat) => Sl 22 1 u32C u (d1).toList :: R) [(0, _), (1, _), (2, _), (8, _), (13, _), (14, _)] (fun (z9 : Nat) => i ≤ z9 ∧ z9 ≤ b ∧ scanSorted lt32 d1 b i = z9) ?_ ?_
    · skip
      refine WP.block ?_
      refine WP.loopK (fun (z9 : Nat) => [(7, .int .i64 z9)]) (fun (z9 : Nat) => Sl 22 1 u32C u (d1).toList :: R) [(0, _), (1, _), (2, _), (8, _), (13, _), (14, _)] (fun (z9 : Nat) => i ≤ z9 ∧ z9 ≤ b ∧ scanSorted lt32 d1 b z9 = scanSorted lt32 d1 b i) (fun (z9 : Nat) => b - z9) i (⟨Nat.le_refl _, hl2, rfl⟩) ?_
      rintro i2 ⟨hi1, hi2, he1⟩
      refine WP.seq ?_
      refine WP.seq ?_
      refine WP.draws mixedOk 16 ?_
      refine RW.e 0 rfl e_move <| RW.e 1 rfl e_move <| RW.e 2 rfl e_lss <| RW.e 3 rfl e_move ?_
      refine RW.bool 20 rfl (fun g => ?_) (fun g => ?_)
      · replace g : i2 < b := by rw [decide_eq_true_eq] at g; omega
        refine RW.e 4 rfl e_move <| RW.e 5 rfl e_move <| RW.e 6 rfl (ea_ia sl82) <| RW.e 7 rfl (ea_load a22) <| RW.e 8 rfl e_move <| RW.e 9 rfl e_move <| RW.e 10 rfl (e_subN (b := 1)) <| RW.e 11 rfl (ea_ia sl82) <| RW.e 12 rfl (ea_load a22) ?_
        refine RW.any (is := [13]) rfl ⟨?_, trivial⟩
        refine RWat.h rfl rfl rfl ?_
        refine (h_call (Less32_spec _ _) k195 ?_)
        refine ⟨trivial, ?_⟩
        refine RW.e 14 rfl e_not <| RW.e 15 rfl e_pick_t ?_
        refine RW.done ?_
        refine PO.next ?_
        refine WP.cond rfl (fun h3 => ?_) (fun h3 => ?_)
        · skip
          refine WP.skip ?_
          refine PO.next ?_
          refine WP.block ?_
          refine WP.reg ?_
          refine WL.e e_move <| WL.e (e_addN (b := 1)) <| WL.e e_assign ?_
          refine WL.nil ?_
          refine PO.blockN ?_
          exact PO.againK (i2 + 1) ⟨by omega, by omega, by rw [← he1, sorted_step g (nt h3)]⟩ (by omega)
        · skip
          refine WP.exit ?_
          refine PO.past nofun ?_
          refine PO.round nofun ?_
          refine PO.blockX ?_
          exact PO.meetK i2 ⟨hi1, hi2, by rw [← he1]; exact sorted_stop (fun _ => nf h3)⟩
      · replace g : ¬ (i2 < b) := by rw [decide_eq_false_iff_not] at g; omega
        refine RW.skip 4 rfl <| RW.skip 5 rfl <| RW.skip 6 rfl <| RW.skip 7 rfl <| RW.skip 8 rfl <| RW.skip 9 rfl <| RW.skip 10 rfl <| RW.skip 11 rfl <| RW.skip 12 rfl <| RW.skip 13 rfl <| RW.skip 14 rfl <| RW.e 15 rfl e_pick_f ?_
        refine RW.done ?_
        refine PO.next ?_
        refine WP.cond_f rfl ?_
        refine WP.exit ?_
        refine PO.past nofun ?_
        refine PO.round nofun ?_
        refine PO.blockX ?_
        exact PO.meetK i2 ⟨hi1, hi2, by rw [← he1]; exact sorted_stop (fun h => absurd h g)⟩
    · rintro i2 ⟨ia, ib, ie⟩
      refine WP.seq ?_
      refine WP.seq ?_
      refine WP.reg ?_
      refine WL.e e_move <| WL.e e_move <| WL.e e_eql ?_
      refine WL.next ?_
      refine WP.cond rfl (fun h5 => ?_) (fun h5 => ?_)
      · replace h5 : i2 = b := by have := eq_of_beq h5; omega
        obtain ⟨s9, rfl⟩ : ∃ k, s = k + 1 := ⟨s - 1, by omega⟩
        rw [pins_t ie h5] at he
        rw [← he] at hK
        refine WP.seq ?_
        refine WP.reg ?_
        refine WL.e e_assign ?_
        refine WL.next ?_
        refine WP.ret ?_
        refine PO.past nofun ?_
        refine PO.blockR ?_
        refine PO.past nofun ?_
        refine PO.round nofun ?_
        refine PO.blockR ?_
        refine PO.past nofun ?_
        exact PO.fin Tryz.results194 (rv_tmp rv_nil) hK
      · replace h5 : ¬ i2 = b := fun h => by rw [h] at h5; simp at h5
        refine WP.skip ?_
        refine PO.next ?_
        refine WP.seq ?_
        refine WP.seq ?_
        refine WP.reg ?_
        refine WL.e e_move <| WL.e e_move <| WL.e (e_subN) <| WL.e e_lss ?_
        refine WL.next ?_
        refine WP.cond rfl (fun h6 => ?_) (fun h6 => ?_)
        · replace h6 : b - a < 50 := by rw [decide_eq_true_eq] at h6; omega
          obtain ⟨s9, rfl⟩ : ∃ k, s = k + 1 := ⟨s - 1, by omega⟩
          rw [pins_f ie h5 h6] at he
          rw [← he] at hK
          refine WP.seq ?_
          refine WP.reg ?_
          refine WL.e e_assign ?_
          refine WL.next ?_
          refine WP.ret ?_
          refine PO.past nofun ?_
          refine PO.blockR ?_
          refine PO.past nofun ?_
          refine PO.round nofun ?_
          refine PO.blockR ?_
          refine PO.past nofun ?_
          exact PO.fin Tryz.results194 (rv_tmp rv_nil) hK
        · replace h6 : ¬ b - a < 50 := by rw [decide_eq_false_iff_not] at h6; omega
          refine WP.skip ?_
          refine PO.next ?_
          refine WP.seq ?_
          refine WP.draws mixedOk 18 ?_
          refine RW.e 0 rfl e_move <| RW.e 1 rfl e_move <| RW.e 2 rfl e_move <| RW.e 3 rfl e_move <| RW.e 4 rfl (e_subN (b := 1)) <| RW.e 5 rfl e_move <| RW.e 6 rfl e_move <| RW.e 7 rfl (e_subN (b := 1)) <| RW.e 8 rfl (ea_ia sl82) <| RW.e 9 rfl (ea_load a22) <| RW.e 10 rfl e_move <| RW.e 11 rfl e_move ?_
          refine RW.e 12 rfl (ea_ia sl82) <| RW.e 13 rfl (ea_load a22) <| RW.e 14 rfl (ea_ia sl82) ?_
          refine RW.any (is := [15]) rfl ⟨?_, trivial⟩
          refine RWat.h' rfl rfl rfl ?_
          refine (ha_store s22 ?_)
          refine ⟨⟨⟨_, rfl, .inl ⟨rfl, (e_subN (b := 1))⟩⟩, ⟨_, rfl, .inl ⟨rfl, e_move⟩⟩, ⟨_, rfl, .inl ⟨rfl, e_move⟩⟩, trivial⟩, ?_⟩
          refine RW.e 16 rfl (ea_ia sl82) ?_
          refine RW.any (is := [17]) rfl ⟨?_, trivial⟩
          refine RWat.h' rfl rfl rfl ?_
          refine (ha_store s22 ?_)
          refine ⟨trivial, ?_⟩
          refine RW.done ?_
          refine PO.next ?_
          refine WP.cutR (fun (z : Array UInt32) => []) (fun (z : Array UInt32) => Sl 22 1 u32C u (z).toList :: R) [(0, _), (1, _), (2, _), (7, _), (8, _), (13, _), (14, _), (35, _), (36, _), (37, _), (38, _), (39, _), (40, _), (41, _), (42, _), (43, _), (44, _), (45, _), (46, _), (47, _), (48, _), (49, _), (50, _), (51, _), (52, _), (53, _), (54, _), (55, _), (56, _), (57, _)] (fun (z : Array UInt32) => z.size = d.size ∧ (if i2 - a ≥ 2 then shiftDown lt32 (i2 - 1) (swp d1 i2 (i2 - 1)) else (swp d1 i2 (i2 - 1))) = z) ?_ ?_
          · skip
            refine WP.seq ?_
            refine WP.reg ?_
            refine WL.e e_move <| WL.e e_move <| WL.e (e_subN) <| WL.e e_geq ?_
            refine WL.next ?_
            refine WP.cond rfl (fun h7 => ?_) (fun h7 => ?_)
            · replace h7 : i2 - a ≥ 2 := by rw [decide_eq_true_eq] at h7; omega
              refine WP.seq ?_
              refine WP.reg ?_
              refine WL.e e_move <| WL.e (e_subN (b := 1)) <| WL.e e_assign ?_
              refine WL.next ?_
              refine WP.block ?_
              refine WP.loopK (fun (x : Nat × Array UInt32) => [(9, .int .i64 x.1)]) (fun (x : Nat × Array UInt32) => Sl 22 1 u32C u (x.2).toList :: R) [(0, _), (1, _), (2, _), (7, _), (8, _), (13, _), (14, _), (35, _), (36, _), (37, _), (38, _), (39, _), (40, _), (41, _), (42, _), (43, _), (44, _), (45, _), (46, _), (47, _), (48, _), (49, _), (50, _), (51, _), (52, _), (53, _), (54, _), (55, _), (56, _), (57, _), (58, _), (59, _), (60, _), (61, _), (62, _), (63, _)] (fun (x : Nat × Array UInt32) => x.2.size = d.size ∧ x.1 ≤ i2 - 1 ∧ shiftDown lt32 x.1 x.2 = shiftDown lt32 (i2 - 1) (swp d1 i2 (i2 - 1))) (fun (x : Nat × Array UInt32) => x.1) (i2 - 1, (swp d1 i2 (i2 - 1))) (⟨by simp only [swp_size]; omega, Nat.le_refl _, rfl⟩) ?_
              rintro ⟨j, d4⟩ ⟨hs4, hj1, hj3⟩
              simp only at hs4 hj1 hj3
              dsimp only
              refine WP.seq ?_
              refine WP.seq ?_
              refine WP.reg ?_
              refine WL.e e_move <| WL.e e_geq ?_
              refine WL.next ?_
              refine WP.cond rfl (fun g2 => ?_) (fun g2 => ?_)
              · replace g2 : j ≥ 1 := by rw [decide_eq_true_eq] at g2; omega
                refine WP.skip ?_
                refine PO.next ?_
                refine WP.seq ?_
                refine WP.block ?_
                refine WP.seq ?_
                refine WP.seq ?_
                refine WP.draws mixedOk 11 ?_
                refine RW.e 0 rfl e_move <| RW.e 1 rfl e_move <| RW.e 2 rfl (ea_ia sl82) <| RW.e 3 rfl (ea_load a22) <| RW.e 4 rfl e_move <| RW.e 5 rfl e_move <| RW.e 6 rfl (e_subN (b := 1)) <| RW.e 7 rfl (ea_ia sl82) <| RW.e 8 rfl (ea_load a22) ?_
                refine RW.any (is := [9]) rfl ⟨?_, trivial⟩
                refine RWat.h rfl rfl rfl ?_
                refine (h_call (Less32_spec _ _) k195 ?_)
                refine ⟨trivial, ?_⟩
                refine RW.e 10 rfl e_not ?_
                refine RW.done ?_
                refine PO.next ?_
                refine WP.cond rfl (fun h9 => ?_) (fun h9 => ?_)
                · skip
                  refine WP.exit ?_
                  refine PO.past nofun ?_
                  refine PO.blockY rfl ?_
                  refine PO.past nofun ?_
                  refine PO.round nofun ?_
                  refine PO.blockX ?_
                  exact PO.meetK d4 ⟨hs4, by rw [if_pos h7, ← hj3, sdown_stop (fun _ => nt h9)]⟩
                · skip
                  refine WP.skip ?_
                  refine PO.next ?_
                  refine WP.draws mixedOk 18 ?_
                  refine RW.e 0 rfl e_move <| RW.e 1 rfl e_move <| RW.e 2 rfl e_move <| RW.e 3 rfl e_move <| RW.e 4 rfl (e_subN (b := 1)) <| RW.e 5 rfl e_move <| RW.e 6 rfl e_move <| RW.e 7 rfl (e_subN (b := 1)) <| RW.e 8 rfl (ea_ia sl82) <| RW.e 9 rfl (ea_load a22) <| RW.e 10 rfl e_move <| RW.e 11 rfl e_move ?_
                  refine RW.e 12 rfl (ea_ia sl82) <| RW.e 13 rfl (ea_load a22) <| RW.e 14 rfl (ea_ia sl82) ?_
                  refine RW.any (is := [15]) rfl ⟨?_, trivial⟩
                  refine RWat.h' rfl rfl rfl ?_
                  refine (ha_store s22 ?_)
                  refine ⟨⟨⟨_, rfl, .inl ⟨rfl, (e_subN (b := 1))⟩⟩, ⟨_, rfl, .inl ⟨rfl, e_move⟩⟩, ⟨_, rfl, .inl ⟨rfl, e_move⟩⟩, trivial⟩, ?_⟩
                  refine RW.e 16 rfl (ea_ia sl82) ?_
                  refine RW.any (is := [17]) rfl ⟨?_, trivial⟩
                  refine RWat.h' rfl rfl rfl ?_
                  refine (ha_store s22 ?_)
                  refine ⟨trivial, ?_⟩
                  refine RW.done ?_
                  refine PO.blockN ?_
                  refine PO.next ?_
                  refine WP.reg ?_
                  refine WL.e e_move <| WL.e (e_subN (b := 1)) <| WL.e e_assign ?_
                  refine WL.nil ?_
                  exact PO.againK (j - 1, swp d4 j (j - 1)) ⟨by simp only [swp_size]; omega, by simp only; omega, by simp only; rw [← hj3, sdown_step g2 (nf h9)]⟩ (by simp only; omega)
              · replace g2 : ¬ (j ≥ 1) := by rw [decide_eq_false_iff_not] at g2; omega
                refine WP.exit ?_
                refine PO.past nofun ?_
                refine PO.round nofun ?_
                refine PO.blockX ?_
                exact PO.meetK d4 ⟨hs4, by rw [if_pos h7, ← hj3, sdown_stop (fun h => absurd h g2)]⟩
            · replace h7 : ¬ (i2 - a ≥ 2) := by rw [decide_eq_false_iff_not] at h7; omega
              refine WP.skip ?_
              exact PO.meetK (swp d1 i2 (i2 - 1)) ⟨by simp only [swp_size]; omega, by rw [if_neg h7]⟩
          · rintro d2 ⟨hs2, e2⟩
            refine WP.seq ?_
            refine WP.reg ?_
            refine WL.e e_move <| WL.e e_move <| WL.e (e_subN) <| WL.e e_geq ?_
            refine WL.next ?_
            refine WP.cond rfl (fun h8 => ?_) (fun h8 => ?_)
            · replace h8 : b - i2 ≥ 2 := by rw [decide_eq_true_eq] at h8; omega
              refine WP.seq ?_
              refine WP.reg ?_
              refine WL.e e_move <| WL.e (e_addN (b := 1)) <| WL.e e_assign ?_
              refine WL.next ?_
              refine WP.block ?_
              refine WP.loopK (fun (x : Nat × Array UInt32) => [(10, .int .i64 x.1)]) (fun (x : Nat × Array UInt32) => Sl 22 1 u32C u (x.2).toList :: R) [(0, _), (1, _), (2, _), (7, _), (8, _), (13, _), (14, _), (35, _), (36, _), (37, _), (38, _), (39, _), (40, _), (41, _), (42, _), (43, _), (44, _), (45, _), (46, _), (47, _), (48, _), (49, _), (50, _), (51, _), (52, _), (53, _), (54, _), (55, _), (56, _), (57, _), (95, _), (96, _), (97, _), (98, _), (99, _), (100, _)] (fun (x : Nat × Array UInt32) => x.2.size = d.size ∧ i2 + 1 ≤ x.1 ∧ x.1 ≤ b ∧ shiftUp lt32 b x.1 x.2 = shiftUp lt32 b (i2 + 1) d2) (fun (x : Nat × Array UInt32) => b - x.1) (i2 + 1, d2) (⟨hs2, Nat.le_refl _, by simp only; omega, rfl⟩) ?_
              rintro ⟨k, d3⟩ ⟨hs3, hk1, hk2, hk3⟩
              simp only at hs3 hk1 hk2 hk3
              dsimp only
              refine WP.seq ?_
              refine WP.seq ?_
              refine WP.reg ?_
              refine WL.e e_move <| WL.e e_move <| WL.e e_lss ?_
              refine WL.next ?_
              refine WP.cond rfl (fun g2 => ?_) (fun g2 => ?_)
              · replace g2 : k < b := by rw [decide_eq_true_eq] at g2; omega
                refine WP.skip ?_
                refine PO.next ?_
                refine WP.seq ?_
                refine WP.block ?_
                refine WP.seq ?_
                refine WP.seq ?_
                refine WP.draws mixedOk 11 ?_
                refine RW.e 0 rfl e_move <| RW.e 1 rfl e_move <| RW.e 2 rfl (ea_ia sl82) <| RW.e 3 rfl (ea_load a22) <| RW.e 4 rfl e_move <| RW.e 5 rfl e_move <| RW.e 6 rfl (e_subN (b := 1)) <| RW.e 7 rfl (ea_ia sl82) <| RW.e 8 rfl (ea_load a22) ?_
                refine RW.any (is := [9]) rfl ⟨?_, trivial⟩
                refine RWat.h rfl rfl rfl ?_
                refine (h_call (Less32_spec _ _) k195 ?_)
                refine ⟨trivial, ?_⟩
                refine RW.e 10 rfl e_not ?_
                refine RW.done ?_
                refine PO.next ?_
                refine WP.cond rfl (fun h9 => ?_) (fun h9 => ?_)
                · skip
                  refine WP.exit ?_
                  refine PO.past nofun ?_
                  refine PO.blockY rfl ?_
                  refine PO.past nofun ?_
                  refine PO.round nofun ?_
                  refine PO.blockX ?_
                  refine PO.blockN ?_
                  refine PO.next ?_
                  refine WP.reg ?_
                  refine WL.e e_move <| WL.e (e_add (c := ((5 - (s - 1) : Nat) : Int)) rfl rfl (by rw [w_i64 (by omega) (by omega)]; omega)) <| WL.e e_assign ?_
                  refine WL.nil ?_
                  exact PO.againK (s - 1, i2, d3) ⟨by simp only; omega, by simp only; omega, by simp only; omega, by simp only; omega, by simp only; obtain ⟨s9, rfl⟩ : ∃ k, s = k + 1 := ⟨s - 1, by omega⟩; rw [Nat.add_sub_cancel, ← he, pins_s ie h5 h6 e2 (by rw [if_pos h8, ← hk3, sup_stop (fun _ => nt h9)])]⟩ (by simp only; omega)
                · skip
                  refine WP.skip ?_
                  refine PO.next ?_
                  refine WP.draws mixedOk 18 ?_
                  refine RW.e 0 rfl e_move <| RW.e 1 rfl e_move <| RW.e 2 rfl e_move <| RW.e 3 rfl e_move <| RW.e 4 rfl (e_subN (b := 1)) <| RW.e 5 rfl e_move <| RW.e 6 rfl e_move <| RW.e 7 rfl (e_subN (b := 1)) <| RW.e 8 rfl (ea_ia sl82) <| RW.e 9 rfl (ea_load a22) <| RW.e 10 rfl e_move <| RW.e 11 rfl e_move ?_
                  refine RW.e 12 rfl (ea_ia sl82) <| RW.e 13 rfl (ea_load a22) <| RW.e 14 rfl (ea_ia sl82) ?_
                  refine RW.any (is := [15]) rfl ⟨?_, trivial⟩
                  refine RWat.h' rfl rfl rfl ?_
                  refine (ha_store s22 ?_)
                  refine ⟨⟨⟨_, rfl, .inl ⟨rfl, (e_subN (b := 1))⟩⟩, ⟨_, rfl, .inl ⟨rfl, e_move⟩⟩, ⟨_, rfl, .inl ⟨rfl, e_move⟩⟩, trivial⟩, ?_⟩
                  refine RW.e 16 rfl (ea_ia sl82) ?_
                  refine RW.any (is := [17]) rfl ⟨?_, trivial⟩
                  refine RWat.h' rfl rfl rfl ?_
                  refine (ha_store s22 ?_)
                  refine ⟨trivial, ?_⟩
                  refine RW.done ?_
                  refine PO.blockN ?_
                  refine PO.next ?_
                  refine WP.reg ?_
                  refine WL.e e_move <| WL.e (e_addN (b := 1)) <| WL.e e_assign ?_
                  refine WL.nil ?_
                  exact PO.againK (k + 1, swp d3 k (k - 1)) ⟨by simp only [swp_size]; omega, by simp only; omega, by simp only; omega, by simp only; rw [← hk3, sup_step g2 (nf h9)]⟩ (by simp only; omega)
              · replace g2 : ¬ (k < b) := by rw [decide_eq_false_iff_not] at g2; omega
                refine WP.exit ?_
                refine PO.past nofun ?_
                refine PO.round nofun ?_
                refine PO.blockX ?_
                refine PO.blockN ?_
                refine PO.next ?_
                refine WP.reg ?_
                refine WL.e e_move <| WL.e (e_add (c := ((5 - (s - 1) : Nat) : Int)) rfl rfl (by rw [w_i64 (by omega) (by omega)]; omega)) <| WL.e e_assign ?_
                refine WL.nil ?_
                exact PO.againK (s - 1, i2, d3) ⟨by simp only; omega, by simp only; omega, by simp only; omega, by simp only; omega, by simp only; obtain ⟨s9, rfl⟩ : ∃ k, s = k + 1 := ⟨s - 1, by omega⟩; rw [Nat.add_sub_cancel, ← he, pins_s ie h5 h6 e2 (by rw [if_pos h8, ← hk3, sup_stop (fun h => absurd h g2)])]⟩ (by simp only; omega)
            · replace h8 : ¬ (b - i2 ≥ 2) := by rw [decide_eq_false_iff_not] at h8; omega
              refine WP.skip ?_
              refine PO.blockN ?_
              refine PO.next ?_
              refine WP.reg ?_
              refine WL.e e_move <| WL.e (e_add (c := ((5 - (s - 1) : Nat) : Int)) rfl rfl (by rw [w_i64 (by omega) (by omega)]; omega)) <| WL.e e_assign ?_
              refine WL.nil ?_
              exact PO.againK (s - 1, i2, d2) ⟨by simp only; omega, by simp only; omega, by simp only; omega, by simp only; omega, by simp only; obtain ⟨s9, rfl⟩ : ∃ k, s = k + 1 := ⟨s - 1, by omega⟩; rw [Nat.add_sub_cancel, ← he, pins_s ie h5 h6 e2 (by rw [if_neg h8])]⟩ (by simp only; omega)
  · replace h1 : ¬ (0 < s) := by rw [decide_eq_false_iff_not] at h1; omega
    refine WP.exit ?_
    refine PO.past nofun ?_
    refine PO.round nofun ?_
    refine PO.blockX ?_
    refine PO.next ?_
    refine WP.seq ?_
    refine WP.reg ?_
    refine WL.e e_assign ?_
    refine WL.next ?_
    refine WP.ret ?_
    obtain rfl : s = 0 := by omega
    rw [← he] at hK
    exact PO.fin Tryz.results194 (rv_tmp rv_nil) hK
end Go.SL
