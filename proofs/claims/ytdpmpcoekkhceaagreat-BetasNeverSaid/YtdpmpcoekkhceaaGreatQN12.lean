/- VM M8: rules and walks, several texts in one. -/
import Derived.Test.YtdpmpcoekkhceaaGreatQN11
import Derived.Test.YtdpmpcoekkhceaaGreatProg
import Derived.KernelRfl
set_option linter.unusedSimpArgs false
set_option linter.unusedVariables false
namespace Go.SL.VM
open Go Go.Proofs Go.SL
theorem a22 : aggOf Tryz.prog 22 = some none := by kernel_rfl
theorem k195 : callable Tryz.prog 195 = true := by kernel_rfl
theorem mixedOk : Tryz.prog.follows .mixedOrders = true := by kernel_rfl
theorem s22 : szOf Tryz.prog 22 = some 1 := by kernel_rfl
theorem sl82 : slOf Tryz.prog 82 = some (22, 1, 4) := by kernel_rfl
end Go.SL.VM
namespace Go.SL
open Go Go.Proofs VM
open Go.Sort
set_option maxHeartbeats 2000000 in
theorem Part32_spec {g : World} {u : Value} (d : Array UInt32) (a b pv : Nat) (h1 : a ≤ pv) (h2 : pv < b) (hb : b ≤ d.size) (hn : d.size ≤ 68719476736) : Spec Tryz.prog g 197 [u, .int .i64 a, .int .i64 b, .int .i64 pv] [Sl 22 1 u32C u (d).toList] fun K R => K (.tuple #[.int .i64 ((partition lt32 d a b pv).1 : Nat), .bool (partition lt32 d a b pv).2.1]) (Sl 22 1 u32C u ((partition lt32 d a b pv).2.2).toList :: R) := by
  refine Spec.intro Tryz.func197 rfl Tryz.ntmps197 rfl fun R K hK => ?_
  refine WP.seq ?_
  refine WP.reg ?_
  refine WL.e e_assign <| WL.e e_assign ?_
  refine WL.next ?_
  refine WP.seq ?_
  refine WP.draws mixedOk 16 ?_
  refine RW.e 0 rfl e_move <| RW.e 1 rfl e_move <| RW.e 2 rfl e_move <| RW.e 3 rfl e_move <| RW.e 4 rfl e_move <| RW.e 5 rfl e_move <| RW.e 6 rfl (ea_ia sl82) <| RW.e 7 rfl (ea_load a22) <| RW.e 8 rfl e_move <| RW.e 9 rfl e_move <| RW.e 10 rfl (ea_ia sl82) <| RW.e 11 rfl (ea_load a22) ?_
  refine RW.e 12 rfl (ea_ia sl82) ?_
  refine RW.any (is := [13]) rfl ⟨?_, trivial⟩
  refine RWat.h' rfl rfl rfl ?_
  refine (ha_store s22 ?_)
  refine ⟨⟨⟨_, rfl, .inl ⟨rfl, e_move⟩⟩, ⟨_, rfl, .inl ⟨rfl, e_move⟩⟩, trivial⟩, ?_⟩
  refine RW.e 14 rfl (ea_ia sl82) ?_
  refine RW.any (is := [15]) rfl ⟨?_, trivial⟩
  refine RWat.h' rfl rfl rfl ?_
  refine (ha_store s22 ?_)
  refine ⟨trivial, ?_⟩
  refine RW.done ?_
  refine PO.next ?_
  refine WP.seq ?_
  refine WP.reg ?_
  refine WL.e e_move <| WL.e (e_addN (b := 1)) <| WL.e e_move <| WL.e (e_subN (b := 1)) <| WL.e e_assign <| WL.e e_assign ?_
  refine WL.next ?_
  refine WP.cutR (fun (z9 : Nat) => [(10, .int .i64 z9)]) (fun (z9 : Nat) => Sl 22 1 u32C u ((swp d a pv)).toList :: R) [(0, _), (1, _), (8, _), (9, _), (11, _)] (fun (z9 : Nat) => a + 1 ≤ z9 ∧ z9 ≤ (b - 1) + 1 ∧ scanUp (fun x => lt32 x (swp d a pv)[a]!) (swp d a pv) (b - 1) (a + 1) = z9 ∧ (z9 ≤ (b - 1) → (fun x => lt32 x (swp d a pv)[a]!) (swp d a pv)[z9]! = false)) ?_ ?_
  · skip
    refine WP.block ?_
    refine WP.loopK (fun (z9 : Nat) => [(10, .int .i64 z9)]) (fun (z9 : Nat) => Sl 22 1 u32C u ((swp d a pv)).toList :: R) [(0, _), (1, _), (8, _), (9, _), (11, _)] (fun (z9 : Nat) => a + 1 ≤ z9 ∧ z9 ≤ (b - 1) + 1 ∧ scanUp (fun x => lt32 x (swp d a pv)[a]!) (swp d a pv) (b - 1) z9 = scanUp (fun x => lt32 x (swp d a pv)[a]!) (swp d a pv) (b - 1) (a + 1)) (fun (z9 : Nat) => (b - 1) + 1 - z9) (a + 1) (⟨Nat.le_refl _, by omega, rfl⟩) ?_
    rintro i1 ⟨hi1, hi2, he1⟩
    refine WP.seq ?_
    refine WP.seq ?_
    refine WP.draws mixedOk 14 ?_
    refine RW.e 0 rfl e_move <| RW.e 1 rfl e_move <| RW.e 2 rfl e_leq <| RW.e 3 rfl e_move ?_
    refine RW.bool 33 rfl (fun g => ?_) (fun g => ?_)
    · replace g : i1 ≤ (b - 1) := by rw [decide_eq_true_eq] at g; omega
      refine RW.e 4 rfl e_move <| RW.e 5 rfl e_move <| RW.e 6 rfl (ea_ia sl82) <| RW.e 7 rfl (ea_load a22) <| RW.e 8 rfl e_move <| RW.e 9 rfl e_move <| RW.e 10 rfl (ea_ia sl82) <| RW.e 11 rfl (ea_load a22) ?_
      refine RW.any (is := [12]) rfl ⟨?_, trivial⟩
      refine RWat.h rfl rfl rfl ?_
      refine (h_call (Less32_spec _ _) k195 ?_)
      refine ⟨trivial, ?_⟩
      refine RW.e 13 rfl e_pick_t ?_
      refine RW.done ?_
      refine PO.next ?_
      refine WP.cond rfl (fun h3 => ?_) (fun h3 => ?_)
      · replace h3 : (fun x => lt32 x (swp d a pv)[a]!) ((swp d a pv))[i1]! = true := h3
        refine WP.skip ?_
        refine PO.next ?_
        refine WP.block ?_
        refine WP.reg ?_
        refine WL.e e_move <| WL.e (e_addN (b := 1)) <| WL.e e_assign ?_
        refine WL.nil ?_
        refine PO.blockN ?_
        exact PO.againK (i1 + 1) ⟨by omega, by omega, by rw [← he1, up_step g h3]⟩ (by omega)
      · replace h3 : (fun x => lt32 x (swp d a pv)[a]!) ((swp d a pv))[i1]! = false := h3
        refine WP.exit ?_
        refine PO.past nofun ?_
        refine PO.round nofun ?_
        refine PO.blockX ?_
        exact PO.meetK i1 ⟨hi1, hi2, by rw [← he1]; exact up_stop (fun _ => h3), fun _ => h3⟩
    · replace g : ¬ (i1 ≤ (b - 1)) := by rw [decide_eq_false_iff_not] at g; omega
      refine RW.skip 4 rfl <| RW.skip 5 rfl <| RW.skip 6 rfl <| RW.skip 7 rfl <| RW.skip 8 rfl <| RW.skip 9 rfl <| RW.skip 10 rfl <| RW.skip 11 rfl <| RW.skip 12 rfl <| RW.e 13 rfl e_pick_f ?_
      refine RW.done ?_
      refine PO.next ?_
      refine WP.cond_f rfl ?_
      refine WP.exit ?_
      refine PO.past nofun ?_
      refine PO.round nofun ?_
      refine PO.blockX ?_
      exact PO.meetK i1 ⟨hi1, hi2, by rw [← he1]; exact up_stop (fun h => absurd h g), fun h => absurd h g⟩
  · rintro i1 ⟨i1a, i1b, i1e, i1s⟩
    refine WP.cutR (fun (z9 : Nat) => [(11, .int .i64 z9)]) (fun (z9 : Nat) => Sl 22 1 u32C u ((swp d a pv)).toList :: R) [(0, _), (1, _), (8, _), (9, _), (10, _)] (fun (z9 : Nat) => z9 ≤ b - 1 ∧ i1 ≤ z9 + 1 ∧ scanDown (fun x => !lt32 x (swp d a pv)[a]!) (swp d a pv) i1 (b - 1) = z9 ∧ (i1 ≤ z9 → (fun x => !lt32 x (swp d a pv)[a]!) (swp d a pv)[z9]! = false)) ?_ ?_
    · skip
      refine WP.block ?_
      refine WP.loopK (fun (z9 : Nat) => [(11, .int .i64 z9)]) (fun (z9 : Nat) => Sl 22 1 u32C u ((swp d a pv)).toList :: R) [(0, _), (1, _), (8, _), (9, _), (10, _)] (fun (z9 : Nat) => z9 ≤ b - 1 ∧ i1 ≤ z9 + 1 ∧ scanDown (fun x => !lt32 x (swp d a pv)[a]!) (swp d a pv) i1 z9 = scanDown (fun x => !lt32 x (swp d a pv)[a]!) (swp d a pv) i1 (b - 1)) (fun (z9 : Nat) => z9) (b - 1) (⟨Nat.le_refl _, by omega, rfl⟩) ?_
      rintro j1 ⟨hj1, hj2, he2⟩
      refine WP.seq ?_
      refine WP.seq ?_
      refine WP.draws mixedOk 15 ?_
      refine RW.e 0 rfl e_move <| RW.e 1 rfl e_move <| RW.e 2 rfl e_leq <| RW.e 3 rfl e_move ?_
      refine RW.bool 49 rfl (fun g => ?_) (fun g => ?_)
      · replace g : i1 ≤ j1 := by rw [decide_eq_true_eq] at g; omega
        refine RW.e 4 rfl e_move <| RW.e 5 rfl e_move <| RW.e 6 rfl (ea_ia sl82) <| RW.e 7 rfl (ea_load a22) <| RW.e 8 rfl e_move <| RW.e 9 rfl e_move <| RW.e 10 rfl (ea_ia sl82) <| RW.e 11 rfl (ea_load a22) ?_
        refine RW.any (is := [12]) rfl ⟨?_, trivial⟩
        refine RWat.h rfl rfl rfl ?_
        refine (h_call (Less32_spec _ _) k195 ?_)
        refine ⟨trivial, ?_⟩
        refine RW.e 13 rfl e_not <| RW.e 14 rfl e_pick_t ?_
        refine RW.done ?_
        refine PO.next ?_
        refine WP.cond rfl (fun h3 => ?_) (fun h3 => ?_)
        · replace h3 : (fun x => !lt32 x (swp d a pv)[a]!) ((swp d a pv))[j1]! = true := h3
          refine WP.skip ?_
          refine PO.next ?_
          refine WP.block ?_
          refine WP.reg ?_
          refine WL.e e_move <| WL.e (e_subN (b := 1)) <| WL.e e_assign ?_
          refine WL.nil ?_
          refine PO.blockN ?_
          exact PO.againK (j1 - 1) ⟨by omega, by omega, by rw [← he2, down_step (by omega) g h3]⟩ (by omega)
        · replace h3 : (fun x => !lt32 x (swp d a pv)[a]!) ((swp d a pv))[j1]! = false := h3
          refine WP.exit ?_
          refine PO.past nofun ?_
          refine PO.round nofun ?_
          refine PO.blockX ?_
          exact PO.meetK j1 ⟨hj1, hj2, by rw [← he2]; exact down_stop (fun _ => h3), fun _ => h3⟩
      · replace g : ¬ (i1 ≤ j1) := by rw [decide_eq_false_iff_not] at g; omega
        refine RW.skip 4 rfl <| RW.skip 5 rfl <| RW.skip 6 rfl <| RW.skip 7 rfl <| RW.skip 8 rfl <| RW.skip 9 rfl <| RW.skip 10 rfl <| RW.skip 11 rfl <| RW.skip 12 rfl <| RW.skip 13 rfl <| RW.e 14 rfl e_pick_f ?_
        refine RW.done ?_
        refine PO.next ?_
        refine WP.cond_f rfl ?_
        refine WP.exit ?_
        refine PO.past nofun ?_
        refine PO.round nofun ?_
        refine PO.blockX ?_
        exact PO.meetK j1 ⟨hj1, hj2, by rw [← he2]; exact down_stop (fun h => absurd h g), fun h => absurd h g⟩
    · rintro j1 ⟨j1a, j1b, j1e, j1s⟩
      refine WP.seq ?_
      refine WP.seq ?_
      refine WP.reg ?_
      refine WL.e e_move <| WL.e e_move <| WL.e e_gtr ?_
      refine WL.next ?_
      refine WP.cond rfl (fun h5 => ?_) (fun h5 => ?_)
      · replace h5 : i1 > j1 := by rw [decide_eq_true_eq] at h5; omega
        refine WP.seq ?_
        refine WP.draws mixedOk 16 ?_
        refine RW.e 0 rfl e_move <| RW.e 1 rfl e_move <| RW.e 2 rfl e_move <| RW.e 3 rfl e_move <| RW.e 4 rfl e_move <| RW.e 5 rfl e_move <| RW.e 6 rfl (ea_ia sl82) <| RW.e 7 rfl (ea_load a22) <| RW.e 8 rfl e_move <| RW.e 9 rfl e_move <| RW.e 10 rfl (ea_ia sl82) <| RW.e 11 rfl (ea_load a22) ?_
        refine RW.e 12 rfl (ea_ia sl82) ?_
        refine RW.any (is := [13]) rfl ⟨?_, trivial⟩
        refine RWat.h' rfl rfl rfl ?_
        refine (ha_store s22 ?_)
        refine ⟨⟨⟨_, rfl, .inl ⟨rfl, e_move⟩⟩, ⟨_, rfl, .inl ⟨rfl, e_move⟩⟩, trivial⟩, ?_⟩
        refine RW.e 14 rfl (ea_ia sl82) ?_
        refine RW.any (is := [15]) rfl ⟨?_, trivial⟩
        refine RWat.h' rfl rfl rfl ?_
        refine (ha_store s22 ?_)
        refine ⟨trivial, ?_⟩
        refine RW.done ?_
        refine PO.next ?_
        refine WP.seq ?_
        refine WP.reg ?_
        refine WL.e e_move <| WL.e e_assign <| WL.e e_assign ?_
        refine WL.next ?_
        refine WP.ret ?_
        refine PO.past nofun ?_
        rw [partition_t rfl i1e j1e h5] at hK
        exact PO.fin Tryz.results197 (rv_tmp (rv_tmp rv_nil)) hK
      · replace h5 : ¬ (i1 > j1) := by rw [decide_eq_false_iff_not] at h5; omega
        refine WP.skip ?_
        refine PO.next ?_
        refine WP.seq ?_
        refine WP.draws mixedOk 16 ?_
        refine RW.e 0 rfl e_move <| RW.e 1 rfl e_move <| RW.e 2 rfl e_move <| RW.e 3 rfl e_move <| RW.e 4 rfl e_move <| RW.e 5 rfl e_move <| RW.e 6 rfl (ea_ia sl82) <| RW.e 7 rfl (ea_load a22) <| RW.e 8 rfl e_move <| RW.e 9 rfl e_move <| RW.e 10 rfl (ea_ia sl82) <| RW.e 11 rfl (ea_load a22) ?_
        refine RW.e 12 rfl (ea_ia sl82) ?_
        refine RW.any (is := [13]) rfl ⟨?_, trivial⟩
        refine RWat.h' rfl rfl rfl ?_
        refine (ha_store s22 ?_)
        refine ⟨⟨⟨_, rfl, .inl ⟨rfl, e_move⟩⟩, ⟨_, rfl, .inl ⟨rfl, e_move⟩⟩, trivial⟩, ?_⟩
        refine RW.e 14 rfl (ea_ia sl82) ?_
        refine RW.any (is := [15]) rfl ⟨?_, trivial⟩
        refine RWat.h' rfl rfl rfl ?_
        refine (ha_store s22 ?_)
        refine ⟨trivial, ?_⟩
        refine RW.done ?_
        refine PO.next ?_
        refine WP.seq ?_
        refine WP.reg ?_
        refine WL.e e_move <| WL.e (e_addN (b := 1)) <| WL.e e_assign ?_
        refine WL.next ?_
        refine WP.seq ?_
        refine WP.reg ?_
        refine WL.e e_move <| WL.e (e_subN (b := 1)) <| WL.e e_assign ?_
        refine WL.next ?_
        refine WP.seq ?_
        refine WP.block ?_
        have hij : i1 < j1 := by
          rcases Nat.lt_or_ge i1 j1 with h | h
          · exact h
          · obtain rfl : i1 = j1 := by omega
            have e1 := i1s (by omega)
            have e2 := nf (j1s (Nat.le_refl _))
            simp only at e1 e2
            rw [e1] at e2; cases e2
        refine WP.loopK (fun (x : Nat × Nat × Array UInt32) => [(10, .int .i64 x.1), (11, .int .i64 x.2.1)]) (fun (x : Nat × Nat × Array UInt32) => Sl 22 1 u32C u (x.2.2).toList :: R) [(0, _), (1, _), (8, _), (9, _)] (fun (x : Nat × Nat × Array UInt32) => x.2.2.size = d.size ∧ a + 1 ≤ x.1 ∧ x.1 ≤ x.2.1 + 1 ∧ x.2.1 < b ∧ partLoop lt32 a x.1 x.2.1 x.2.2 = partLoop lt32 a (i1 + 1) (j1 - 1) (swp (swp d a pv) i1 j1)) (fun (x : Nat × Nat × Array UInt32) => x.2.1 + 1 - x.1) (i1 + 1, j1 - 1, swp (swp d a pv) i1 j1) (⟨by simp only [swp_size], by simp only; omega, by simp only; omega, by simp only; omega, rfl⟩) ?_
        rintro ⟨i, j, d1⟩ ⟨hs1, hl1, hl2, hl3, hl4⟩
        simp only at hs1 hl1 hl2 hl3 hl4
        dsimp only
        refine WP.block ?_
        refine WP.cutR (fun (z9 : Nat) => [(10, .int .i64 z9)]) (fun (z9 : Nat) => Sl 22 1 u32C u (d1).toList :: R) [(0, _), (1, _), (8, _), (9, _), (11, _)] (fun (z9 : Nat) => i ≤ z9 ∧ z9 ≤ j + 1 ∧ scanUp (fun x => lt32 x d1[a]!) d1 j (i) = z9 ∧ (z9 ≤ j → (fun x => lt32 x d1[a]!) d1[z9]! = false)) ?_ ?_
        · skip
          refine WP.block ?_
          refine WP.loopK (fun (z9 : Nat) => [(10, .int .i64 z9)]) (fun (z9 : Nat) => Sl 22 1 u32C u (d1).toList :: R) [(0, _), (1, _), (8, _), (9, _), (11, _)] (fun (z9 : Nat) => i ≤ z9 ∧ z9 ≤ j + 1 ∧ scanUp (fun x => lt32 x d1[a]!) d1 j z9 = scanUp (fun x => lt32 x d1[a]!) d1 j (i)) (fun (z9 : Nat) => j + 1 - z9) (i) (⟨Nat.le_refl _, by omega, rfl⟩) ?_
          rintro i2 ⟨hi1, hi2, he1⟩
          refine WP.seq ?_
          refine WP.seq ?_
          refine WP.draws mixedOk 14 ?_
          refine RW.e 0 rfl e_move <| RW.e 1 rfl e_move <| RW.e 2 rfl e_leq <| RW.e 3 rfl e_move ?_
          refine RW.bool 102 rfl (fun g => ?_) (fun g => ?_)
          · replace g : i2 ≤ j := by rw [decide_eq_true_eq] at g; omega
            refine RW.e 4 rfl e_move <| RW.e 5 rfl e_move <| RW.e 6 rfl (ea_ia sl82) <| RW.e 7 rfl (ea_load a22) <| RW.e 8 rfl e_move <| RW.e 9 rfl e_move <| RW.e 10 rfl (ea_ia sl82) <| RW.e 11 rfl (ea_load a22) ?_
            refine RW.any (is := [12]) rfl ⟨?_, trivial⟩
            refine RWat.h rfl rfl rfl ?_
            refine (h_call (Less32_spec _ _) k195 ?_)
            refine ⟨trivial, ?_⟩
            refine RW.e 13 rfl e_pick_t ?_
            refine RW.done ?_
            refine PO.next ?_
            refine WP.cond rfl (fun h3 => ?_) (fun h3 => ?_)
            · replace h3 : (fun x => lt32 x d1[a]!) (d1)[i2]! = true := h3
              refine WP.skip ?_
              refine PO.next ?_
              refine WP.block ?_
              refine WP.reg ?_
              refine WL.e e_move <| WL.e (e_addN (b := 1)) <| WL.e e_assign ?_
              refine WL.nil ?_
              refine PO.blockN ?_
              exact PO.againK (i2 + 1) ⟨by omega, by omega, by rw [← he1, up_step g h3]⟩ (by omega)
            · replace h3 : (fun x => lt32 x d1[a]!) (d1)[i2]! = false := h3
              refine WP.exit ?_
              refine PO.past nofun ?_
              refine PO.round nofun ?_
              refine PO.blockX ?_
              exact PO.meetK i2 ⟨hi1, hi2, by rw [← he1]; exact up_stop (fun _ => h3), fun _ => h3⟩
          · replace g : ¬ (i2 ≤ j) := by rw [decide_eq_false_iff_not] at g; omega
            refine RW.skip 4 rfl <| RW.skip 5 rfl <| RW.skip 6 rfl <| RW.skip 7 rfl <| RW.skip 8 rfl <| RW.skip 9 rfl <| RW.skip 10 rfl <| RW.skip 11 rfl <| RW.skip 12 rfl <| RW.e 13 rfl e_pick_f ?_
            refine RW.done ?_
            refine PO.next ?_
            refine WP.cond_f rfl ?_
            refine WP.exit ?_
            refine PO.past nofun ?_
            refine PO.round nofun ?_
            refine PO.blockX ?_
            exact PO.meetK i2 ⟨hi1, hi2, by rw [← he1]; exact up_stop (fun h => absurd h g), fun h => absurd h g⟩
        · rintro i2 ⟨i2a, i2b, i2e, i2s⟩
          refine WP.cutR (fun (z9 : Nat) => [(11, .int .i64 z9)]) (fun (z9 : Nat) => Sl 22 1 u32C u (d1).toList :: R) [(0, _), (1, _), (8, _), (9, _), (10, _)] (fun (z9 : Nat) => z9 ≤ j ∧ i2 ≤ z9 + 1 ∧ scanDown (fun x => !lt32 x d1[a]!) d1 i2 (j) = z9 ∧ (i2 ≤ z9 → (fun x => !lt32 x d1[a]!) d1[z9]! = false)) ?_ ?_
          · skip
            refine WP.block ?_
            refine WP.loopK (fun (z9 : Nat) => [(11, .int .i64 z9)]) (fun (z9 : Nat) => Sl 22 1 u32C u (d1).toList :: R) [(0, _), (1, _), (8, _), (9, _), (10, _)] (fun (z9 : Nat) => z9 ≤ j ∧ i2 ≤ z9 + 1 ∧ scanDown (fun x => !lt32 x d1[a]!) d1 i2 z9 = scanDown (fun x => !lt32 x d1[a]!) d1 i2 (j)) (fun (z9 : Nat) => z9) (j) (⟨Nat.le_refl _, by omega, rfl⟩) ?_
            rintro j2 ⟨hj1, hj2, he2⟩
            refine WP.seq ?_
            refine WP.seq ?_
            refine WP.draws mixedOk 15 ?_
            refine RW.e 0 rfl e_move <| RW.e 1 rfl e_move <| RW.e 2 rfl e_leq <| RW.e 3 rfl e_move ?_
            refine RW.bool 118 rfl (fun g => ?_) (fun g => ?_)
            · replace g : i2 ≤ j2 := by rw [decide_eq_true_eq] at g; omega
              refine RW.e 4 rfl e_move <| RW.e 5 rfl e_move <| RW.e 6 rfl (ea_ia sl82) <| RW.e 7 rfl (ea_load a22) <| RW.e 8 rfl e_move <| RW.e 9 rfl e_move <| RW.e 10 rfl (ea_ia sl82) <| RW.e 11 rfl (ea_load a22) ?_
              refine RW.any (is := [12]) rfl ⟨?_, trivial⟩
              refine RWat.h rfl rfl rfl ?_
              refine (h_call (Less32_spec _ _) k195 ?_)
              refine ⟨trivial, ?_⟩
              refine RW.e 13 rfl e_not <| RW.e 14 rfl e_pick_t ?_
              refine RW.done ?_
              refine PO.next ?_
              refine WP.cond rfl (fun h3 => ?_) (fun h3 => ?_)
              · replace h3 : (fun x => !lt32 x d1[a]!) (d1)[j2]! = true := h3
                refine WP.skip ?_
                refine PO.next ?_
                refine WP.block ?_
                refine WP.reg ?_
                refine WL.e e_move <| WL.e (e_subN (b := 1)) <| WL.e e_assign ?_
                refine WL.nil ?_
                refine PO.blockN ?_
                exact PO.againK (j2 - 1) ⟨by omega, by omega, by rw [← he2, down_step (by omega) g h3]⟩ (by omega)
              · replace h3 : (fun x => !lt32 x d1[a]!) (d1)[j2]! = false := h3
                refine WP.exit ?_
                refine PO.past nofun ?_
                refine PO.round nofun ?_
                refine PO.blockX ?_
                exact PO.meetK j2 ⟨hj1, hj2, by rw [← he2]; exact down_stop (fun _ => h3), fun _ => h3⟩
            · replace g : ¬ (i2 ≤ j2) := by rw [decide_eq_false_iff_not] at g; omega
              refine RW.skip 4 rfl <| RW.skip 5 rfl <| RW.skip 6 rfl <| RW.skip 7 rfl <| RW.skip 8 rfl <| RW.skip 9 rfl <| RW.skip 10 rfl <| RW.skip 11 rfl <| RW.skip 12 rfl <| RW.skip 13 rfl <| RW.e 14 rfl e_pick_f ?_
              refine RW.done ?_
              refine PO.next ?_
              refine WP.cond_f rfl ?_
              refine WP.exit ?_
              refine PO.past nofun ?_
              refine PO.round nofun ?_
              refine PO.blockX ?_
              exact PO.meetK j2 ⟨hj1, hj2, by rw [← he2]; exact down_stop (fun h => absurd h g), fun h => absurd h g⟩
          · rintro j2 ⟨j2a, j2b, j2e, j2s⟩
            refine WP.seq ?_
            refine WP.seq ?_
            refine WP.reg ?_
            refine WL.e e_move <| WL.e e_move <| WL.e e_gtr ?_
            refine WL.next ?_
            refine WP.cond rfl (fun h6 => ?_) (fun h6 => ?_)
            · replace h6 : i2 > j2 := by rw [decide_eq_true_eq] at h6; omega
              refine WP.exit ?_
              refine PO.past nofun ?_
              refine PO.blockY rfl ?_
              refine PO.round nofun ?_
              refine PO.blockX ?_
              refine PO.next ?_
              refine WP.seq ?_
              refine WP.draws mixedOk 16 ?_
              refine RW.e 0 rfl e_move <| RW.e 1 rfl e_move <| RW.e 2 rfl e_move <| RW.e 3 rfl e_move <| RW.e 4 rfl e_move <| RW.e 5 rfl e_move <| RW.e 6 rfl (ea_ia sl82) <| RW.e 7 rfl (ea_load a22) <| RW.e 8 rfl e_move <| RW.e 9 rfl e_move <| RW.e 10 rfl (ea_ia sl82) <| RW.e 11 rfl (ea_load a22) ?_
              refine RW.e 12 rfl (ea_ia sl82) ?_
              refine RW.any (is := [13]) rfl ⟨?_, trivial⟩
              refine RWat.h' rfl rfl rfl ?_
              refine (ha_store s22 ?_)
              refine ⟨⟨⟨_, rfl, .inl ⟨rfl, e_move⟩⟩, ⟨_, rfl, .inl ⟨rfl, e_move⟩⟩, trivial⟩, ?_⟩
              refine RW.e 14 rfl (ea_ia sl82) ?_
              refine RW.any (is := [15]) rfl ⟨?_, trivial⟩
              refine RWat.h' rfl rfl rfl ?_
              refine (ha_store s22 ?_)
              refine ⟨trivial, ?_⟩
              refine RW.done ?_
              refine PO.next ?_
              refine WP.seq ?_
              refine WP.reg ?_
              refine WL.e e_move <| WL.e e_assign <| WL.e e_assign ?_
              refine WL.next ?_
              refine WP.ret ?_
              rw [partition_f rfl i1e j1e h5 (hl4.symm.trans (part_stop i2e j2e h6))] at hK
              exact PO.fin Tryz.results197 (rv_tmp (rv_tmp rv_nil)) hK
            · replace h6 : ¬ (i2 > j2) := by rw [decide_eq_false_iff_not] at h6; omega
              refine WP.skip ?_
              refine PO.next ?_
              refine WP.seq ?_
              refine WP.draws mixedOk 16 ?_
              refine RW.e 0 rfl e_move <| RW.e 1 rfl e_move <| RW.e 2 rfl e_move <| RW.e 3 rfl e_move <| RW.e 4 rfl e_move <| RW.e 5 rfl e_move <| RW.e 6 rfl (ea_ia sl82) <| RW.e 7 rfl (ea_load a22) <| RW.e 8 rfl e_move <| RW.e 9 rfl e_move <| RW.e 10 rfl (ea_ia sl82) <| RW.e 11 rfl (ea_load a22) ?_
              refine RW.e 12 rfl (ea_ia sl82) ?_
              refine RW.any (is := [13]) rfl ⟨?_, trivial⟩
              refine RWat.h' rfl rfl rfl ?_
              refine (ha_store s22 ?_)
              refine ⟨⟨⟨_, rfl, .inl ⟨rfl, e_move⟩⟩, ⟨_, rfl, .inl ⟨rfl, e_move⟩⟩, trivial⟩, ?_⟩
              refine RW.e 14 rfl (ea_ia sl82) ?_
              refine RW.any (is := [15]) rfl ⟨?_, trivial⟩
              refine RWat.h' rfl rfl rfl ?_
              refine (ha_store s22 ?_)
              refine ⟨trivial, ?_⟩
              refine RW.done ?_
              refine PO.next ?_
              refine WP.seq ?_
              refine WP.reg ?_
              refine WL.e e_move <| WL.e (e_addN (b := 1)) <| WL.e e_assign ?_
              refine WL.next ?_
              refine WP.reg ?_
              refine WL.e e_move <| WL.e (e_subN (b := 1)) <| WL.e e_assign ?_
              refine WL.nil ?_
              refine PO.blockN ?_
              have hij2 : i2 < j2 := by
                rcases Nat.lt_or_ge i2 j2 with h | h
                · exact h
                · obtain rfl : i2 = j2 := by omega
                  have e1 := i2s (by omega)
                  have e2 := nf (j2s (Nat.le_refl _))
                  simp only at e1 e2
                  rw [e1] at e2; cases e2
              exact PO.againK (i2 + 1, j2 - 1, swp d1 i2 j2) ⟨by simp only [swp_size]; omega, by simp only; omega, by simp only; omega, by simp only; omega, by simp only; rw [← hl4, part_step i2e j2e h6 (by omega)]⟩ (by simp only; omega)
set_option maxHeartbeats 2000000 in
theorem PartE32_spec {g : World} {u : Value} (d : Array UInt32) (a b pv : Nat) (h1 : a ≤ pv) (h2 : pv < b) (hb : b ≤ d.size) (hn : d.size ≤ 68719476736) : Spec Tryz.prog g 196 [u, .int .i64 a, .int .i64 b, .int .i64 pv] [Sl 22 1 u32C u (d).toList] fun K R => K (.int .i64 ((partitionEqual lt32 d a b pv).1 : Nat)) (Sl 22 1 u32C u ((partitionEqual lt32 d a b pv).2).toList :: R) := by
  refine Spec.intro Tryz.func196 rfl Tryz.ntmps196 rfl fun R K hK => ?_
  refine WP.seq ?_
  refine WP.reg ?_
  refine WL.e e_assign ?_
  refine WL.next ?_
  refine WP.seq ?_
  refine WP.draws mixedOk 16 ?_
  refine RW.e 0 rfl e_move <| RW.e 1 rfl e_move <| RW.e 2 rfl e_move <| RW.e 3 rfl e_move <| RW.e 4 rfl e_move <| RW.e 5 rfl e_move <| RW.e 6 rfl (ea_ia sl82) <| RW.e 7 rfl (ea_load a22) <| RW.e 8 rfl e_move <| RW.e 9 rfl e_move <| RW.e 10 rfl (ea_ia sl82) <| RW.e 11 rfl (ea_load a22) ?_
  refine RW.e 12 rfl (ea_ia sl82) ?_
  refine RW.any (is := [13]) rfl ⟨?_, trivial⟩
  refine RWat.h' rfl rfl rfl ?_
  refine (ha_store s22 ?_)
  refine ⟨⟨⟨_, rfl, .inl ⟨rfl, e_move⟩⟩, ⟨_, rfl, .inl ⟨rfl, e_move⟩⟩, trivial⟩, ?_⟩
  refine RW.e 14 rfl (ea_ia sl82) ?_
  refine RW.any (is := [15]) rfl ⟨?_, trivial⟩
  refine RWat.h' rfl rfl rfl ?_
  refine (ha_store s22 ?_)
  refine ⟨trivial, ?_⟩
  refine RW.done ?_
  refine PO.next ?_
  refine WP.seq ?_
  refine WP.reg ?_
  refine WL.e e_move <| WL.e (e_addN (b := 1)) <| WL.e e_move <| WL.e (e_subN (b := 1)) <| WL.e e_assign <| WL.e e_assign ?_
  refine WL.next ?_
  refine WP.seq ?_
  refine WP.block ?_
  refine WP.loopK (fun (x : Nat × Nat × Array UInt32) => [(9, .int .i64 x.1), (10, .int .i64 x.2.1)]) (fun (x : Nat × Nat × Array UInt32) => Sl 22 1 u32C u (x.2.2).toList :: R) [(0, _), (1, _), (8, _)] (fun (x : Nat × Nat × Array UInt32) => x.2.2.size = d.size ∧ a + 1 ≤ x.1 ∧ x.1 ≤ x.2.1 + 1 ∧ x.2.1 < b ∧ partEqLoop lt32 a x.1 x.2.1 x.2.2 = partitionEqual lt32 d a b pv) (fun (x : Nat × Nat × Array UInt32) => x.2.1 + 1 - x.1) (a + 1, b - 1, swp d a pv) (⟨by simp only [swp_size], by simp only; omega, by simp only; omega, by simp only; omega, rfl⟩) ?_
  rintro ⟨i, j, d1⟩ ⟨hs1, hl1, hl2, hl3, hl4⟩
  simp only at hs1 hl1 hl2 hl3 hl4
  dsimp only
  refine WP.block ?_
  refine WP.cutR (fun (z9 : Nat) => [(9, .int .i64 z9)]) (fun (z9 : Nat) => Sl 22 1 u32C u (d1).toList :: R) [(0, _), (1, _), (8, _), (10, _)] (fun (z9 : Nat) => i ≤ z9 ∧ z9 ≤ j + 1 ∧ scanUp (fun x => !lt32 d1[a]! x) d1 j (i) = z9 ∧ (z9 ≤ j → (fun x => !lt32 d1[a]! x) d1[z9]! = false)) ?_ ?_
  · skip
    refine WP.block ?_
    refine WP.loopK (fun (z9 : Nat) => [(9, .int .i64 z9)]) (fun (z9 : Nat) => Sl 22 1 u32C u (d1).toList :: R) [(0, _), (1, _), (8, _), (10, _)] (fun (z9 : Nat) => i ≤ z9 ∧ z9 ≤ j + 1 ∧ scanUp (fun x => !lt32 d1[a]! x) d1 j z9 = scanUp (fun x => !lt32 d1[a]! x) d1 j (i)) (fun (z9 : Nat) => j + 1 - z9) (i) (⟨Nat.le_refl _, by omega, rfl⟩) ?_
    rintro i2 ⟨hi1, hi2, he1⟩
    refine WP.seq ?_
    refine WP.seq ?_
    refine WP.draws mixedOk 15 ?_
    refine RW.e 0 rfl e_move <| RW.e 1 rfl e_move <| RW.e 2 rfl e_leq <| RW.e 3 rfl e_move ?_
    refine RW.bool 32 rfl (fun g => ?_) (fun g => ?_)
    · replace g : i2 ≤ j := by rw [decide_eq_true_eq] at g; omega
      refine RW.e 4 rfl e_move <| RW.e 5 rfl e_move <| RW.e 6 rfl (ea_ia sl82) <| RW.e 7 rfl (ea_load a22) <| RW.e 8 rfl e_move <| RW.e 9 rfl e_move <| RW.e 10 rfl (ea_ia sl82) <| RW.e 11 rfl (ea_load a22) ?_
      refine RW.any (is := [12]) rfl ⟨?_, trivial⟩
      refine RWat.h rfl rfl rfl ?_
      refine (h_call (Less32_spec _ _) k195 ?_)
      refine ⟨trivial, ?_⟩
      refine RW.e 13 rfl e_not <| RW.e 14 rfl e_pick_t ?_
      refine RW.done ?_
      refine PO.next ?_
      refine WP.cond rfl (fun h3 => ?_) (fun h3 => ?_)
      · replace h3 : (fun x => !lt32 d1[a]! x) (d1)[i2]! = true := h3
        refine WP.skip ?_
        refine PO.next ?_
        refine WP.block ?_
        refine WP.reg ?_
        refine WL.e e_move <| WL.e (e_addN (b := 1)) <| WL.e e_assign ?_
        refine WL.nil ?_
        refine PO.blockN ?_
        exact PO.againK (i2 + 1) ⟨by omega, by omega, by rw [← he1, up_step g h3]⟩ (by omega)
      · replace h3 : (fun x => !lt32 d1[a]! x) (d1)[i2]! = false := h3
        refine WP.exit ?_
        refine PO.past nofun ?_
        refine PO.round nofun ?_
        refine PO.blockX ?_
        exact PO.meetK i2 ⟨hi1, hi2, by rw [← he1]; exact up_stop (fun _ => h3), fun _ => h3⟩
    · replace g : ¬ (i2 ≤ j) := by rw [decide_eq_false_iff_not] at g; omega
      refine RW.skip 4 rfl <| RW.skip 5 rfl <| RW.skip 6 rfl <| RW.skip 7 rfl <| RW.skip 8 rfl <| RW.skip 9 rfl <| RW.skip 10 rfl <| RW.skip 11 rfl <| RW.skip 12 rfl <| RW.skip 13 rfl <| RW.e 14 rfl e_pick_f ?_
      refine RW.done ?_
      refine PO.next ?_
      refine WP.cond_f rfl ?_
      refine WP.exit ?_
      refine PO.past nofun ?_
      refine PO.round nofun ?_
      refine PO.blockX ?_
      exact PO.meetK i2 ⟨hi1, hi2, by rw [← he1]; exact up_stop (fun h => absurd h g), fun h => absurd h g⟩
  · rintro i2 ⟨i2a, i2b, i2e, i2s⟩
    refine WP.cutR (fun (z9 : Nat) => [(10, .int .i64 z9)]) (fun (z9 : Nat) => Sl 22 1 u32C u (d1).toList :: R) [(0, _), (1, _), (8, _), (9, _)] (fun (z9 : Nat) => z9 ≤ j ∧ i2 ≤ z9 + 1 ∧ scanDown (fun x => lt32 d1[a]! x) d1 i2 (j) = z9 ∧ (i2 ≤ z9 → (fun x => lt32 d1[a]! x) d1[z9]! = false)) ?_ ?_
    · skip
      refine WP.block ?_
      refine WP.loopK (fun (z9 : Nat) => [(10, .int .i64 z9)]) (fun (z9 : Nat) => Sl 22 1 u32C u (d1).toList :: R) [(0, _), (1, _), (8, _), (9, _)] (fun (z9 : Nat) => z9 ≤ j ∧ i2 ≤ z9 + 1 ∧ scanDown (fun x => lt32 d1[a]! x) d1 i2 z9 = scanDown (fun x => lt32 d1[a]! x) d1 i2 (j)) (fun (z9 : Nat) => z9) (j) (⟨Nat.le_refl _, by omega, rfl⟩) ?_
      rintro j2 ⟨hj1, hj2, he2⟩
      refine WP.seq ?_
      refine WP.seq ?_
      refine WP.draws mixedOk 14 ?_
      refine RW.e 0 rfl e_move <| RW.e 1 rfl e_move <| RW.e 2 rfl e_leq <| RW.e 3 rfl e_move ?_
      refine RW.bool 49 rfl (fun g => ?_) (fun g => ?_)
      · replace g : i2 ≤ j2 := by rw [decide_eq_true_eq] at g; omega
        refine RW.e 4 rfl e_move <| RW.e 5 rfl e_move <| RW.e 6 rfl (ea_ia sl82) <| RW.e 7 rfl (ea_load a22) <| RW.e 8 rfl e_move <| RW.e 9 rfl e_move <| RW.e 10 rfl (ea_ia sl82) <| RW.e 11 rfl (ea_load a22) ?_
        refine RW.any (is := [12]) rfl ⟨?_, trivial⟩
        refine RWat.h rfl rfl rfl ?_
        refine (h_call (Less32_spec _ _) k195 ?_)
        refine ⟨trivial, ?_⟩
        refine RW.e 13 rfl e_pick_t ?_
        refine RW.done ?_
        refine PO.next ?_
        refine WP.cond rfl (fun h3 => ?_) (fun h3 => ?_)
        · replace h3 : (fun x => lt32 d1[a]! x) (d1)[j2]! = true := h3
          refine WP.skip ?_
          refine PO.next ?_
          refine WP.block ?_
          refine WP.reg ?_
          refine WL.e e_move <| WL.e (e_subN (b := 1)) <| WL.e e_assign ?_
          refine WL.nil ?_
          refine PO.blockN ?_
          exact PO.againK (j2 - 1) ⟨by omega, by omega, by rw [← he2, down_step (by omega) g h3]⟩ (by omega)
        · replace h3 : (fun x => lt32 d1[a]! x) (d1)[j2]! = false := h3
          refine WP.exit ?_
          refine PO.past nofun ?_
          refine PO.round nofun ?_
          refine PO.blockX ?_
          exact PO.meetK j2 ⟨hj1, hj2, by rw [← he2]; exact down_stop (fun _ => h3), fun _ => h3⟩
      · replace g : ¬ (i2 ≤ j2) := by rw [decide_eq_false_iff_not] at g; omega
        refine RW.skip 4 rfl <| RW.skip 5 rfl <| RW.skip 6 rfl <| RW.skip 7 rfl <| RW.skip 8 rfl <| RW.skip 9 rfl <| RW.skip 10 rfl <| RW.skip 11 rfl <| RW.skip 12 rfl <| RW.e 13 rfl e_pick_f ?_
        refine RW.done ?_
        refine PO.next ?_
        refine WP.cond_f rfl ?_
        refine WP.exit ?_
        refine PO.past nofun ?_
        refine PO.round nofun ?_
        refine PO.blockX ?_
        exact PO.meetK j2 ⟨hj1, hj2, by rw [← he2]; exact down_stop (fun h => absurd h g), fun h => absurd h g⟩
    · rintro j2 ⟨j2a, j2b, j2e, j2s⟩
      refine WP.seq ?_
      refine WP.seq ?_
      refine WP.reg ?_
      refine WL.e e_move <| WL.e e_move <| WL.e e_gtr ?_
      refine WL.next ?_
      refine WP.cond rfl (fun h6 => ?_) (fun h6 => ?_)
      · replace h6 : i2 > j2 := by rw [decide_eq_true_eq] at h6; omega
        refine WP.exit ?_
        refine PO.past nofun ?_
        refine PO.blockY rfl ?_
        refine PO.round nofun ?_
        refine PO.blockX ?_
        refine PO.next ?_
        refine WP.seq ?_
        refine WP.reg ?_
        refine WL.e e_move <| WL.e e_assign ?_
        refine WL.next ?_
        refine WP.ret ?_
        rw [hl4.symm.trans (parte_stop i2e j2e h6)] at hK
        exact PO.fin Tryz.results196 (rv_tmp rv_nil) hK
      · replace h6 : ¬ (i2 > j2) := by rw [decide_eq_false_iff_not] at h6; omega
        refine WP.skip ?_
        refine PO.next ?_
        refine WP.seq ?_
        refine WP.draws mixedOk 16 ?_
        refine RW.e 0 rfl e_move <| RW.e 1 rfl e_move <| RW.e 2 rfl e_move <| RW.e 3 rfl e_move <| RW.e 4 rfl e_move <| RW.e 5 rfl e_move <| RW.e 6 rfl (ea_ia sl82) <| RW.e 7 rfl (ea_load a22) <| RW.e 8 rfl e_move <| RW.e 9 rfl e_move <| RW.e 10 rfl (ea_ia sl82) <| RW.e 11 rfl (ea_load a22) ?_
        refine RW.e 12 rfl (ea_ia sl82) ?_
        refine RW.any (is := [13]) rfl ⟨?_, trivial⟩
        refine RWat.h' rfl rfl rfl ?_
        refine (ha_store s22 ?_)
        refine ⟨⟨⟨_, rfl, .inl ⟨rfl, e_move⟩⟩, ⟨_, rfl, .inl ⟨rfl, e_move⟩⟩, trivial⟩, ?_⟩
        refine RW.e 14 rfl (ea_ia sl82) ?_
        refine RW.any (is := [15]) rfl ⟨?_, trivial⟩
        refine RWat.h' rfl rfl rfl ?_
        refine (ha_store s22 ?_)
        refine ⟨trivial, ?_⟩
        refine RW.done ?_
        refine PO.next ?_
        refine WP.seq ?_
        refine WP.reg ?_
        refine WL.e e_move <| WL.e (e_addN (b := 1)) <| WL.e e_assign ?_
        refine WL.next ?_
        refine WP.reg ?_
        refine WL.e e_move <| WL.e (e_subN (b := 1)) <| WL.e e_assign ?_
        refine WL.nil ?_
        refine PO.blockN ?_
        have hij2 : i2 < j2 := by
          rcases Nat.lt_or_ge i2 j2 with h | h
          · exact h
          · obtain rfl : i2 = j2 := by omega
            have e1 := nf (i2s (by omega))
            have e2 := j2s (Nat.le_refl _)
            simp only at e1 e2
            rw [e1] at e2; cases e2
        exact PO.againK (i2 + 1, j2 - 1, swp d1 i2 j2) ⟨by simp only [swp_size]; omega, by simp only; omega, by simp only; omega, by simp only; omega, by simp only; rw [← hl4, parte_step i2e j2e h6 (by omega)]⟩ (by simp only; omega)
set_option maxHeartbeats 2000000 in
theorem PIns32_spec {g : World} {u : Value} (d : Array UInt32) (a b : Nat) (hab : a < b) (hb : b ≤ d.size) (hn : d.size ≤ 68719476736) : Spec Tryz.prog g 194 [u, .int .i64 a, .int .i64 b] [Sl 22 1 u32C u (d).toList] fun K R => K (.bool (partialInsertionSort lt32 d a b).2) (Sl 22 1 u32C u ((partialInsertionSort lt32 d a b).1).toList :: R) := by
  refine Spec.intro Tryz.func194 rfl Tryz.ntmps194 rfl fun R K hK => ?_
  refine WP.seq ?_
  refine WP.reg ?_
  refine WL.e e_assign ?_
  refine WL.next ?_
  refine WP.seq ?_
  refine WP.reg ?_
  refine WL.e e_move <| WL.e (e_addN (b := 1)) <| WL.e e_assign ?_
  refine WL.next ?_
  refine WP.seq ?_
  refine WP.seq ?_
  refine WP.reg ?_
  refine WL.e e_assign ?_
  refine WL.next ?_
  refine WP.block ?_
  refine WP.loopK (fun (x : Nat × Nat × Array UInt32) => [(8, .int .i64 ((5 - x.1 : Nat) : Int)), (7, .int .i64 x.2.1)]) (fun (x : Nat × Nat × Array UInt32) => Sl 22 1 u32C u (x.2.2).toList :: R) [(0, _), (1, _), (2, _)] (fun (x : Nat × Nat × Array UInt32) => x.2.2.size = d.size ∧ x.1 ≤ 5 ∧ a + 1 ≤ x.2.1 ∧ x.2.1 ≤ b ∧ partialIns lt32 a b x.1 x.2.1 x.2.2 = partialInsertionSort lt32 d a b) (fun (x : Nat × Nat × Array UInt32) => x.1) (5, a + 1, d) (⟨rfl, Nat.le_refl _, by simp only; omega, by simp only; omega, rfl⟩) ?_
  rintro ⟨s, i, d1⟩ ⟨hs1, hl0, hl1, hl2, he⟩
  simp only at hs1 hl0 hl1 hl2 he
  dsimp only
  refine WP.seq ?_
  refine WP.seq ?_
  refine WP.reg ?_
  refine WL.e e_move <| WL.e e_lss ?_
  refine WL.next ?_
  refine WP.cond rfl (fun h1 => ?_) (fun h1 => ?_)
  · replace h1 : 0 < s := by rw [decide_eq_true_eq] at h1; omega
    refine WP.skip ?_
    refine PO.next ?_
    refine WP.seq ?_
    refine WP.block ?_
    refine WP.cutR (fun (z9 : Nat) => [(7, .int .i64 z9)]) (fun (z9 : Nat) => Sl 22 1 u32C u (d1).toList :: R) [(0, _), (1, _), (2, _), (8, _), (13, _), (14, _)] (fun (z9 : Nat) => i ≤ z9 ∧ z9 ≤ b ∧ scanSorted lt32 d1 b i = z9) ?_ ?_
    · skip
      refine WP.block ?_
      refine WP.loopK (fun (z9 : Nat) => [(7, .int .i64 z9)]) (fun (z9 : Nat) => Sl 22 1 u32C u (d1).toList :: R) [(0, _), (1, _), (2, _), (8, _), (13, _), (14, _)] (fun (z9 : Nat) => i ≤ z9 ∧ z9 ≤ b ∧ scanSorted lt32 d1 b z9 = scanSorted lt32 d1 b i) (fun (z9 : Nat) => b - z9) i (⟨Nat.le_refl _, hl2, rfl⟩) ?_
      rintro i2 ⟨hi1, hi2, he1⟩
      refine WP.seq ?_
      refine WP.seq ?_
      refine WP.draws mixedOk 16 ?_
      refine RW.e 0 rfl e_move <| RW.e 1 rfl e_move <| RW.e 2 rfl e_lss <| RW.e 3 rfl e_move ?_
      refine RW.bool 20 rfl (fun g => ?_) (fun g => ?_)
      · replace g : i2 < b := by rw [decide_eq_true_eq] at g; omega
        refine RW.e 4 rfl e_move <| RW.e 5 rfl e_move <| RW.e 6 rfl (ea_ia sl82) <| RW.e 7 rfl (ea_load a22) <| RW.e 8 rfl e_move <| RW.e 9 rfl e_move <| RW.e 10 rfl (e_subN (b := 1)) <| RW.e 11 rfl (ea_ia sl82) <| RW.e 12 rfl (ea_load a22) ?_
        refine RW.any (is := [13]) rfl ⟨?_, trivial⟩
        refine RWat.h rfl rfl rfl ?_
        refine (h_call (Less32_spec _ _) k195 ?_)
        refine ⟨trivial, ?_⟩
        refine RW.e 14 rfl e_not <| RW.e 15 rfl e_pick_t ?_
        refine RW.done ?_
        refine PO.next ?_
        refine WP.cond rfl (fun h3 => ?_) (fun h3 => ?_)
        · skip
          refine WP.skip ?_
          refine PO.next ?_
          refine WP.block ?_
          refine WP.reg ?_
          refine WL.e e_move <| WL.e (e_addN (b := 1)) <| WL.e e_assign ?_
          refine WL.nil ?_
          refine PO.blockN ?_
          exact PO.againK (i2 + 1) ⟨by omega, by omega, by rw [← he1, sorted_step g (nt h3)]⟩ (by omega)
        · skip
          refine WP.exit ?_
          refine PO.past nofun ?_
          refine PO.round nofun ?_
          refine PO.blockX ?_
          exact PO.meetK i2 ⟨hi1, hi2, by rw [← he1]; exact sorted_stop (fun _ => nf h3)⟩
      · replace g : ¬ (i2 < b) := by rw [decide_eq_false_iff_not] at g; omega
        refine RW.skip 4 rfl <| RW.skip 5 rfl <| RW.skip 6 rfl <| RW.skip 7 rfl <| RW.skip 8 rfl <| RW.skip 9 rfl <| RW.skip 10 rfl <| RW.skip 11 rfl <| RW.skip 12 rfl <| RW.skip 13 rfl <| RW.skip 14 rfl <| RW.e 15 rfl e_pick_f ?_
        refine RW.done ?_
        refine PO.next ?_
        refine WP.cond_f rfl ?_
        refine WP.exit ?_
        refine PO.past nofun ?_
        refine PO.round nofun ?_
        refine PO.blockX ?_
        exact PO.meetK i2 ⟨hi1, hi2, by rw [← he1]; exact sorted_stop (fun h => absurd h g)⟩
    · rintro i2 ⟨ia, ib, ie⟩
      refine WP.seq ?_
      refine WP.seq ?_
      refine WP.reg ?_
      refine WL.e e_move <| WL.e e_move <| WL.e e_eql ?_
      refine WL.next ?_
      refine WP.cond rfl (fun h5 => ?_) (fun h5 => ?_)
      · replace h5 : i2 = b := by have := eq_of_beq h5; omega
        obtain ⟨s9, rfl⟩ : ∃ k, s = k + 1 := ⟨s - 1, by omega⟩
        rw [pins_t ie h5] at he
        rw [← he] at hK
        refine WP.seq ?_
        refine WP.reg ?_
        refine WL.e e_assign ?_
        refine WL.next ?_
        refine WP.ret ?_
        refine PO.past nofun ?_
        refine PO.blockR ?_
        refine PO.past nofun ?_
        refine PO.round nofun ?_
        refine PO.blockR ?_
        refine PO.past nofun ?_
        exact PO.fin Tryz.results194 (rv_tmp rv_nil) hK
      · replace h5 : ¬ i2 = b := fun h => by rw [h] at h5; simp at h5
        refine WP.skip ?_
        refine PO.next ?_
        refine WP.seq ?_
        refine WP.seq ?_
        refine WP.reg ?_
        refine WL.e e_move <| WL.e e_move <| WL.e (e_subN) <| WL.e e_lss ?_
        refine WL.next ?_
        refine WP.cond rfl (fun h6 => ?_) (fun h6 => ?_)
        · replace h6 : b - a < 50 := by rw [decide_eq_true_eq] at h6; omega
          obtain ⟨s9, rfl⟩ : ∃ k, s = k + 1 := ⟨s - 1, by omega⟩
          rw [pins_f ie h5 h6] at he
          rw [← he] at hK
          refine WP.seq ?_
          refine WP.reg ?_
          refine WL.e e_assign ?_
          refine WL.next ?_
          refine WP.ret ?_
          refine PO.past nofun ?_
          refine PO.blockR ?_
          refine PO.past nofun ?_
          refine PO.round nofun ?_
          refine PO.blockR ?_
          refine PO.past nofun ?_
          exact PO.fin Tryz.results194 (rv_tmp rv_nil) hK
        · replace h6 : ¬ b - a < 50 := by rw [decide_eq_false_iff_not] at h6; omega
          refine WP.skip ?_
          refine PO.next ?_
          refine WP.seq ?_
          refine WP.draws mixedOk 18 ?_
          refine RW.e 0 rfl e_move <| RW.e 1 rfl e_move <| RW.e 2 rfl e_move <| RW.e 3 rfl e_move <| RW.e 4 rfl (e_subN (b := 1)) <| RW.e 5 rfl e_move <| RW.e 6 rfl e_move <| RW.e 7 rfl (e_subN (b := 1)) <| RW.e 8 rfl (ea_ia sl82) <| RW.e 9 rfl (ea_load a22) <| RW.e 10 rfl e_move <| RW.e 11 rfl e_move ?_
          refine RW.e 12 rfl (ea_ia sl82) <| RW.e 13 rfl (ea_load a22) <| RW.e 14 rfl (ea_ia sl82) ?_
          refine RW.any (is := [15]) rfl ⟨?_, trivial⟩
          refine RWat.h' rfl rfl rfl ?_
          refine (ha_store s22 ?_)
          refine ⟨⟨⟨_, rfl, .inl ⟨rfl, (e_subN (b := 1))⟩⟩, ⟨_, rfl, .inl ⟨rfl, e_move⟩⟩, ⟨_, rfl, .inl ⟨rfl, e_move⟩⟩, trivial⟩, ?_⟩
          refine RW.e 16 rfl (ea_ia sl82) ?_
          refine RW.any (is := [17]) rfl ⟨?_, trivial⟩
          refine RWat.h' rfl rfl rfl ?_
          refine (ha_store s22 ?_)
          refine ⟨trivial, ?_⟩
          refine RW.done ?_
          refine PO.next ?_
          refine WP.cutR (fun (z : Array UInt32) => []) (fun (z : Array UInt32) => Sl 22 1 u32C u (z).toList :: R) [(0, _), (1, _), (2, _), (7, _), (8, _), (13, _), (14, _), (35, _), (36, _), (37, _), (38, _), (39, _), (40, _), (41, _), (42, _), (43, _), (44, _), (45, _), (46, _), (47, _), (48, _), (49, _), (50, _), (51, _), (52, _), (53, _), (54, _), (55, _), (56, _), (57, _)] (fun (z : Array UInt32) => z.size = d.size ∧ (if i2 - a ≥ 2 then shiftDown lt32 (i2 - 1) (swp d1 i2 (i2 - 1)) else (swp d1 i2 (i2 - 1))) = z) ?_ ?_
          · skip
            refine WP.seq ?_
            refine WP.reg ?_
            refine WL.e e_move <| WL.e e_move <| WL.e (e_subN) <| WL.e e_geq ?_
            refine WL.next ?_
            refine WP.cond rfl (fun h7 => ?_) (fun h7 => ?_)
            · replace h7 : i2 - a ≥ 2 := by rw [decide_eq_true_eq] at h7; omega
              refine WP.seq ?_
              refine WP.reg ?_
              refine WL.e e_move <| WL.e (e_subN (b := 1)) <| WL.e e_assign ?_
              refine WL.next ?_
              refine WP.block ?_
              refine WP.loopK (fun (x : Nat × Array UInt32) => [(9, .int .i64 x.1)]) (fun (x : Nat × Array UInt32) => Sl 22 1 u32C u (x.2).toList :: R) [(0, _), (1, _), (2, _), (7, _), (8, _), (13, _), (14, _), (35, _), (36, _), (37, _), (38, _), (39, _), (40, _), (41, _), (42, _), (43, _), (44, _), (45, _), (46, _), (47, _), (48, _), (49, _), (50, _), (51, _), (52, _), (53, _), (54, _), (55, _), (56, _), (57, _), (58, _), (59, _), (60, _), (61, _), (62, _), (63, _)] (fun (x : Nat × Array UInt32) => x.2.size = d.size ∧ x.1 ≤ i2 - 1 ∧ shiftDown lt32 x.1 x.2 = shiftDown lt32 (i2 - 1) (swp d1 i2 (i2 - 1))) (fun (x : Nat × Array UInt32) => x.1) (i2 - 1, (swp d1 i2 (i2 - 1))) (⟨by simp only [swp_size]; omega, Nat.le_refl _, rfl⟩) ?_
              rintro ⟨j, d4⟩ ⟨hs4, hj1, hj3⟩
              simp only at hs4 hj1 hj3
              dsimp only
              refine WP.seq ?_
              refine WP.seq ?_
              refine WP.reg ?_
              refine WL.e e_move <| WL.e e_geq ?_
              refine WL.next ?_
              refine WP.cond rfl (fun g2 => ?_) (fun g2 => ?_)
              · replace g2 : j ≥ 1 := by rw [decide_eq_true_eq] at g2; omega
                refine WP.skip ?_
                refine PO.next ?_
                refine WP.seq ?_
                refine WP.block ?_
                refine WP.seq ?_
                refine WP.seq ?_
                refine WP.draws mixedOk 11 ?_
                refine RW.e 0 rfl e_move <| RW.e 1 rfl e_move <| RW.e 2 rfl (ea_ia sl82) <| RW.e 3 rfl (ea_load a22) <| RW.e 4 rfl e_move <| RW.e 5 rfl e_move <| RW.e 6 rfl (e_subN (b := 1)) <| RW.e 7 rfl (ea_ia sl82) <| RW.e 8 rfl (ea_load a22) ?_
                refine RW.any (is := [9]) rfl ⟨?_, trivial⟩
                refine RWat.h rfl rfl rfl ?_
                refine (h_call (Less32_spec _ _) k195 ?_)
                refine ⟨trivial, ?_⟩
                refine RW.e 10 rfl e_not ?_
                refine RW.done ?_
                refine PO.next ?_
                refine WP.cond rfl (fun h9 => ?_) (fun h9 => ?_)
                · skip
                  refine WP.exit ?_
                  refine PO.past nofun ?_
                  refine PO.blockY rfl ?_
                  refine PO.past nofun ?_
                  refine PO.round nofun ?_
                  refine PO.blockX ?_
                  exact PO.meetK d4 ⟨hs4, by rw [if_pos h7, ← hj3, sdown_stop (fun _ => nt h9)]⟩
                · skip
                  refine WP.skip ?_
                  refine PO.next ?_
                  refine WP.draws mixedOk 18 ?_
                  refine RW.e 0 rfl e_move <| RW.e 1 rfl e_move <| RW.e 2 rfl e_move <| RW.e 3 rfl e_move <| RW.e 4 rfl (e_subN (b := 1)) <| RW.e 5 rfl e_move <| RW.e 6 rfl e_move <| RW.e 7 rfl (e_subN (b := 1)) <| RW.e 8 rfl (ea_ia sl82) <| RW.e 9 rfl (ea_load a22) <| RW.e 10 rfl e_move <| RW.e 11 rfl e_move ?_
                  refine RW.e 12 rfl (ea_ia sl82) <| RW.e 13 rfl (ea_load a22) <| RW.e 14 rfl (ea_ia sl82) ?_
                  refine RW.any (is := [15]) rfl ⟨?_, trivial⟩
                  refine RWat.h' rfl rfl rfl ?_
                  refine (ha_store s22 ?_)
                  refine ⟨⟨⟨_, rfl, .inl ⟨rfl, (e_subN (b := 1))⟩⟩, ⟨_, rfl, .inl ⟨rfl, e_move⟩⟩, ⟨_, rfl, .inl ⟨rfl, e_move⟩⟩, trivial⟩, ?_⟩
                  refine RW.e 16 rfl (ea_ia sl82) ?_
                  refine RW.any (is := [17]) rfl ⟨?_, trivial⟩
                  refine RWat.h' rfl rfl rfl ?_
                  refine (ha_store s22 ?_)
                  refine ⟨trivial, ?_⟩
                  refine RW.done ?_
                  refine PO.blockN ?_
                  refine PO.next ?_
                  refine WP.reg ?_
                  refine WL.e e_move <| WL.e (e_subN (b := 1)) <| WL.e e_assign ?_
                  refine WL.nil ?_
                  exact PO.againK (j - 1, swp d4 j (j - 1)) ⟨by simp only [swp_size]; omega, by simp only; omega, by simp only; rw [← hj3, sdown_step g2 (nf h9)]⟩ (by simp only; omega)
              · replace g2 : ¬ (j ≥ 1) := by rw [decide_eq_false_iff_not] at g2; omega
                refine WP.exit ?_
                refine PO.past nofun ?_
                refine PO.round nofun ?_
                refine PO.blockX ?_
                exact PO.meetK d4 ⟨hs4, by rw [if_pos h7, ← hj3, sdown_stop (fun h => absurd h g2)]⟩
            · replace h7 : ¬ (i2 - a ≥ 2) := by rw [decide_eq_false_iff_not] at h7; omega
              refine WP.skip ?_
              exact PO.meetK (swp d1 i2 (i2 - 1)) ⟨by simp only [swp_size]; omega, by rw [if_neg h7]⟩
          · rintro d2 ⟨hs2, e2⟩
            refine WP.seq ?_
            refine WP.reg ?_
            refine WL.e e_move <| WL.e e_move <| WL.e (e_subN) <| WL.e e_geq ?_
            refine WL.next ?_
            refine WP.cond rfl (fun h8 => ?_) (fun h8 => ?_)
            · replace h8 : b - i2 ≥ 2 := by rw [decide_eq_true_eq] at h8; omega
              refine WP.seq ?_
              refine WP.reg ?_
              refine WL.e e_move <| WL.e (e_addN (b := 1)) <| WL.e e_assign ?_
              refine WL.next ?_
              refine WP.block ?_
              refine WP.loopK (fun (x : Nat × Array UInt32) => [(10, .int .i64 x.1)]) (fun (x : Nat × Array UInt32) => Sl 22 1 u32C u (x.2).toList :: R) [(0, _), (1, _), (2, _), (7, _), (8, _), (13, _), (14, _), (35, _), (36, _), (37, _), (38, _), (39, _), (40, _), (41, _), (42, _), (43, _), (44, _), (45, _), (46, _), (47, _), (48, _), (49, _), (50, _), (51, _), (52, _), (53, _), (54, _), (55, _), (56, _), (57, _), (95, _), (96, _), (97, _), (98, _), (99, _), (100, _)] (fun (x : Nat × Array UInt32) => x.2.size = d.size ∧ i2 + 1 ≤ x.1 ∧ x.1 ≤ b ∧ shiftUp lt32 b x.1 x.2 = shiftUp lt32 b (i2 + 1) d2) (fun (x : Nat × Array UInt32) => b - x.1) (i2 + 1, d2) (⟨hs2, Nat.le_refl _, by simp only; omega, rfl⟩) ?_
              rintro ⟨k, d3⟩ ⟨hs3, hk1, hk2, hk3⟩
              simp only at hs3 hk1 hk2 hk3
              dsimp only
              refine WP.seq ?_
              refine WP.seq ?_
              refine WP.reg ?_
              refine WL.e e_move <| WL.e e_move <| WL.e e_lss ?_
              refine WL.next ?_
              refine WP.cond rfl (fun g2 => ?_) (fun g2 => ?_)
              · replace g2 : k < b := by rw [decide_eq_true_eq] at g2; omega
                refine WP.skip ?_
                refine PO.next ?_
                refine WP.seq ?_
                refine WP.block ?_
                refine WP.seq ?_
                refine WP.seq ?_
                refine WP.draws mixedOk 11 ?_
                refine RW.e 0 rfl e_move <| RW.e 1 rfl e_move <| RW.e 2 rfl (ea_ia sl82) <| RW.e 3 rfl (ea_load a22) <| RW.e 4 rfl e_move <| RW.e 5 rfl e_move <| RW.e 6 rfl (e_subN (b := 1)) <| RW.e 7 rfl (ea_ia sl82) <| RW.e 8 rfl (ea_load a22) ?_
                refine RW.any (is := [9]) rfl ⟨?_, trivial⟩
                refine RWat.h rfl rfl rfl ?_
                refine (h_call (Less32_spec _ _) k195 ?_)
                refine ⟨trivial, ?_⟩
                refine RW.e 10 rfl e_not ?_
                refine RW.done ?_
                refine PO.next ?_
                refine WP.cond rfl (fun h9 => ?_) (fun h9 => ?_)
                · skip
                  refine WP.exit ?_
                  refine PO.past nofun ?_
                  refine PO.blockY rfl ?_
                  refine PO.past nofun ?_
                  refine PO.round nofun ?_
                  refine PO.blockX ?_
                  refine PO.blockN ?_
                  refine PO.next ?_
                  refine WP.reg ?_
                  refine WL.e e_move <| WL.e (e_add (c := ((5 - (s - 1) : Nat) : Int)) rfl rfl (by rw [w_i64 (by omega) (by omega)]; omega)) <| WL.e e_assign ?_
                  refine WL.nil ?_
                  exact PO.againK (s - 1, i2, d3) ⟨by simp only; omega, by simp only; omega, by simp only; omega, by simp only; omega, by simp only; obtain ⟨s9, rfl⟩ : ∃ k, s = k + 1 := ⟨s - 1, by omega⟩; rw [Nat.add_sub_cancel, ← he, pins_s ie h5 h6 e2 (by rw [if_pos h8, ← hk3, sup_stop (fun _ => nt h9)])]⟩ (by simp only; omega)
                · skip
                  refine WP.skip ?_
                  refine PO.next ?_
                  refine WP.draws mixedOk 18 ?_
                  refine RW.e 0 rfl e_move <| RW.e 1 rfl e_move <| RW.e 2 rfl e_move <| RW.e 3 rfl e_move <| RW.e 4 rfl (e_subN (b := 1)) <| RW.e 5 rfl e_move <| RW.e 6 rfl e_move <| RW.e 7 rfl (e_subN (b := 1)) <| RW.e 8 rfl (ea_ia sl82) <| RW.e 9 rfl (ea_load a22) <| RW.e 10 rfl e_move <| RW.e 11 rfl e_move ?_
                  refine RW.e 12 rfl (ea_ia sl82) <| RW.e 13 rfl (ea_load a22) <| RW.e 14 rfl (ea_ia sl82) ?_
                  refine RW.any (is := [15]) rfl ⟨?_, trivial⟩
                  refine RWat.h' rfl rfl rfl ?_
                  refine (ha_store s22 ?_)
                  refine ⟨⟨⟨_, rfl, .inl ⟨rfl, (e_subN (b := 1))⟩⟩, ⟨_, rfl, .inl ⟨rfl, e_move⟩⟩, ⟨_, rfl, .inl ⟨rfl, e_move⟩⟩, trivial⟩, ?_⟩
                  refine RW.e 16 rfl (ea_ia sl82) ?_
                  refine RW.any (is := [17]) rfl ⟨?_, trivial⟩
                  refine RWat.h' rfl rfl rfl ?_
                  refine (ha_store s22 ?_)
                  refine ⟨trivial, ?_⟩
                  refine RW.done ?_
                  refine PO.blockN ?_
                  refine PO.next ?_
                  refine WP.reg ?_
                  refine WL.e e_move <| WL.e (e_addN (b := 1)) <| WL.e e_assign ?_
                  refine WL.nil ?_
                  exact PO.againK (k + 1, swp d3 k (k - 1)) ⟨by simp only [swp_size]; omega, by simp only; omega, by simp only; omega, by simp only; rw [← hk3, sup_step g2 (nf h9)]⟩ (by simp only; omega)
              · replace g2 : ¬ (k < b) := by rw [decide_eq_false_iff_not] at g2; omega
                refine WP.exit ?_
                refine PO.past nofun ?_
                refine PO.round nofun ?_
                refine PO.blockX ?_
                refine PO.blockN ?_
                refine PO.next ?_
                refine WP.reg ?_
                refine WL.e e_move <| WL.e (e_add (c := ((5 - (s - 1) : Nat) : Int)) rfl rfl (by rw [w_i64 (by omega) (by omega)]; omega)) <| WL.e e_assign ?_
                refine WL.nil ?_
                exact PO.againK (s - 1, i2, d3) ⟨by simp only; omega, by simp only; omega, by simp only; omega, by simp only; omega, by simp only; obtain ⟨s9, rfl⟩ : ∃ k, s = k + 1 := ⟨s - 1, by omega⟩; rw [Nat.add_sub_cancel, ← he, pins_s ie h5 h6 e2 (by rw [if_pos h8, ← hk3, sup_stop (fun h => absurd h g2)])]⟩ (by simp only; omega)
            · replace h8 : ¬ (b - i2 ≥ 2) := by rw [decide_eq_false_iff_not] at h8; omega
              refine WP.skip ?_
              refine PO.blockN ?_
              refine PO.next ?_
              refine WP.reg ?_
              refine WL.e e_move <| WL.e (e_add (c := ((5 - (s - 1) : Nat) : Int)) rfl rfl (by rw [w_i64 (by omega) (by omega)]; omega)) <| WL.e e_assign ?_
              refine WL.nil ?_
              exact PO.againK (s - 1, i2, d2) ⟨by simp only; omega, by simp only; omega, by simp only; omega, by simp only; omega, by simp only; obtain ⟨s9, rfl⟩ : ∃ k, s = k + 1 := ⟨s - 1, by omega⟩; rw [Nat.add_sub_cancel, ← he, pins_s ie h5 h6 e2 (by rw [if_neg h8])]⟩ (by simp only; omega)
  · replace h1 : ¬ (0 < s) := by rw [decide_eq_false_iff_not] at h1; omega
    refine WP.exit ?_
    refine PO.past nofun ?_
    refine PO.round nofun ?_
    refine PO.blockX ?_
    refine PO.next ?_
    refine WP.seq ?_
    refine WP.reg ?_
    refine WL.e e_assign ?_
    refine WL.next ?_
    refine WP.ret ?_
    obtain rfl : s = 0 := by omega
    rw [← he] at hK
    exact PO.fin Tryz.results194 (rv_tmp rv_nil) hK
end Go.SL
/- What the functions compute, in plain Lean: rows by their keys. -/
set_option linter.unusedSimpArgs false
set_option linter.unusedVariables false
set_option linter.unusedSectionVars false
namespace Go.SL
open Go
theorem key_split {l : List RowM} (hl : Rising l) (k : ByteArray) : ∃ A D, l = A ++ D ∧ A.length = lowI l k ∧ (∀ r ∈ A, sLt r.key k = true) ∧ (∀ r ∈ D, sLt r.key k = false) ∧ Rising A ∧ Rising D := by
  refine ⟨l.takeWhile fun r => sLt r.key k, l.dropWhile fun r => sLt r.key k, List.takeWhile_append_dropWhile.symm, rfl, fun r hr => ?_, fun r hr => ?_, hl.sublist (List.takeWhile_sublist _), hl.sublist (List.dropWhile_sublist _)⟩
  · have := List.all_takeWhile (p := fun r : RowM => sLt r.key k) (l := l)
    exact List.all_eq_true.1 this r hr
  · have hd := hl.sublist (List.dropWhile_sublist (fun r => sLt r.key k))
    have hh : ∀ x y, l.dropWhile (fun r => sLt r.key k) = x :: y → sLt x.key k = false := fun x y e => by
      have := List.head_dropWhile_not (fun r : RowM => sLt r.key k) (l := l) (by rw [e]; simp)
      simpa [e] using this
    cases e : l.dropWhile (fun r => sLt r.key k) with
    | nil => rw [e] at hr; cases hr
    | cons x y =>
      have hx := hh x y e
      rw [e] at hr hd
      rcases List.mem_cons.1 hr with rfl | hr
      · exact hx
      · have := (List.pairwise_cons.1 hd).1 r hr
        cases e2 : sLt r.key k with
        | false => rfl
        | true => have := sLt_trans this e2; rw [hx] at this; cases this
theorem key_cut {l : List RowM} (hl : Rising l) (k : ByteArray) : (∃ A v D, l = A ++ ⟨k, v⟩ :: D ∧ A.length = lowI l k ∧ hasI l k = true ∧ (∀ r ∈ A, sLt r.key k = true) ∧ (∀ r ∈ D, sLt k r.key = true) ∧ Rising A ∧ Rising D) ∨
    (∃ A D, l = A ++ D ∧ A.length = lowI l k ∧ hasI l k = false ∧ (∀ r ∈ A, sLt r.key k = true) ∧ (∀ r ∈ D, sLt k r.key = true) ∧ Rising A ∧ Rising D) := by
  obtain ⟨A, D, he, ha, h1, h2, h3, h4⟩ := key_split hl k
  have hat : l[lowI l k]? = D.head? := by
    rw [← ha]; conv => lhs; rw [he]
    rw [List.getElem?_append_right (Nat.le_refl _), Nat.sub_self, List.head?_eq_getElem?]
  cases D with
  | nil =>
    right
    exact ⟨A, [], he, ha, by simp only [hasI, hat]; rfl, h1, by simp, h3, h4⟩
  | cons x D =>
    have hp := List.pairwise_cons.1 h4
    have hx := h2 x (by simp)
    by_cases e : x.key = k
    · left
      subst e
      exact ⟨A, x.val, D, he, ha, by simp [hasI, hat, sEq_iff], h1, fun r hr => hp.1 r hr, h3, hp.2⟩
    · right
      have hxk : sLt k x.key = true := by
        rcases sLt_tri x.key k with h | h | h
        · rw [hx] at h; cases h
        · exact absurd h e
        · exact h
      refine ⟨A, x :: D, he, ha, ?_, h1, fun r hr => ?_, h3, h4⟩
      · simp only [hasI, hat, List.head?_cons]
        cases e2 : sEq x.key k with
        | false => rfl
        | true => exact absurd (sEq_iff.1 e2) e
      · rcases List.mem_cons.1 hr with rfl | hr
        · exact hxk
        · exact sLt_trans hxk (hp.1 r hr)
def setR (l : List RowM) (k : ByteArray) (v : UInt32) : List RowM := if hasI l k then l.set (lowI l k) ⟨k, v⟩ else l.take (lowI l k) ++ ⟨k, v⟩ :: l.drop (lowI l k)
def dropR (l : List RowM) (k : ByteArray) : List RowM := if hasI l k then l.eraseIdx (lowI l k) else l
theorem sLt_ne {a b : ByteArray} (h : sLt a b = true) : a ≠ b := fun e => by subst e; rw [sLt_irrefl] at h; cases h
theorem rising_mid {A D : List RowM} {x : RowM} (h1 : ∀ r ∈ A, sLt r.key x.key = true) (h2 : ∀ r ∈ D, sLt x.key r.key = true) (hA : Rising A) (hD : Rising D) : Rising (A ++ x :: D) := by
  refine List.pairwise_append.2 ⟨hA, List.pairwise_cons.2 ⟨h2, hD⟩, fun a ha b hb => ?_⟩
  rcases List.mem_cons.1 hb with rfl | hb
  · exact h1 a ha
  · exact sLt_trans (h1 a ha) (h2 b hb)
theorem rising_two {A D : List RowM} {k : ByteArray} (h1 : ∀ r ∈ A, sLt r.key k = true) (h2 : ∀ r ∈ D, sLt k r.key = true) (hA : Rising A) (hD : Rising D) : Rising (A ++ D) :=
  List.pairwise_append.2 ⟨hA, hD, fun a ha b hb => sLt_trans (h1 a ha) (h2 b hb)⟩
theorem setR_spec {l : List RowM} (hl : Rising l) (k : ByteArray) (v : UInt32) : Rising (setR l k v) ∧ (∀ r, r ∈ setR l k v ↔ r = ⟨k, v⟩ ∨ (r ∈ l ∧ r.key ≠ k)) ∧ (setR l k v).length ≤ l.length + 1 := by
  rcases key_cut hl k with ⟨A, u, D, he, ha, hh, h1, h2, h3, h4⟩ | ⟨A, D, he, ha, hh, h1, h2, h3, h4⟩
  · have e : setR l k v = A ++ ⟨k, v⟩ :: D := by
      unfold setR; rw [if_pos hh, ← ha]; conv => lhs; rw [he]
      simp
    rw [e]
    refine ⟨rising_mid h1 h2 h3 h4, fun r => ?_, by rw [he]; simp⟩
    rw [he]
    simp only [List.mem_append, List.mem_cons]
    constructor
    · rintro (h | rfl | h)
      · exact .inr ⟨.inl h, sLt_ne (h1 r h)⟩
      · exact .inl rfl
      · exact .inr ⟨.inr (.inr h), (sLt_ne (h2 r h)).symm⟩
    · rintro (rfl | ⟨h | rfl | h, hn⟩)
      · exact .inr (.inl rfl)
      · exact .inl h
      · exact absurd rfl hn
      · exact .inr (.inr h)
  · have e : setR l k v = A ++ ⟨k, v⟩ :: D := by
      unfold setR; rw [if_neg (by simp [hh]), ← ha]; conv => lhs; rw [he]
      simp
    rw [e]
    refine ⟨rising_mid h1 h2 h3 h4, fun r => ?_, by rw [he]; simp; omega⟩
    rw [he]
    simp only [List.mem_append, List.mem_cons]
    constructor
    · rintro (h | rfl | h)
      · exact .inr ⟨.inl h, sLt_ne (h1 r h)⟩
      · exact .inl rfl
      · exact .inr ⟨.inr h, (sLt_ne (h2 r h)).symm⟩
    · rintro (rfl | ⟨h | h, hn⟩)
      · exact .inr (.inl rfl)
      · exact .inl h
      · exact .inr (.inr h)
theorem dropR_spec {l : List RowM} (hl : Rising l) (k : ByteArray) : Rising (dropR l k) ∧ (∀ r, r ∈ dropR l k ↔ r ∈ l ∧ r.key ≠ k) ∧ (dropR l k).length ≤ l.length := by
  rcases key_cut hl k with ⟨A, u, D, he, ha, hh, h1, h2, h3, h4⟩ | ⟨A, D, he, ha, hh, h1, h2, h3, h4⟩
  · have e : dropR l k = A ++ D := by
      unfold dropR; rw [if_pos hh, ← ha]; conv => lhs; rw [he]
      rw [List.eraseIdx_append_of_length_le (Nat.le_refl _)]; simp
    rw [e]
    refine ⟨rising_two h1 h2 h3 h4, fun r => ?_, by rw [he]; simp⟩
    rw [he]
    simp only [List.mem_append, List.mem_cons]
    constructor
    · rintro (h | h)
      · exact ⟨.inl h, sLt_ne (h1 r h)⟩
      · exact ⟨.inr (.inr h), (sLt_ne (h2 r h)).symm⟩
    · rintro ⟨h | rfl | h, hn⟩
      · exact .inl h
      · exact absurd rfl hn
      · exact .inr h
  · have e : dropR l k = l := by unfold dropR; rw [if_neg (by simp [hh])]
    rw [e]
    refine ⟨hl, fun r => ⟨fun h => ⟨h, ?_⟩, fun h => h.1⟩, Nat.le_refl _⟩
    rw [he] at h
    rcases List.mem_append.1 h with h | h
    · exact sLt_ne (h1 r h)
    · exact (sLt_ne (h2 r h)).symm
theorem rising_ext {a b : List RowM} (ha : Rising a) (hb : Rising b) (h : ∀ r, r ∈ a ↔ r ∈ b) : a = b := by
  induction a generalizing b with
  | nil =>
    cases b with
    | nil => rfl
    | cons x b => have := (h x).2 (by simp); cases this
  | cons x a ih =>
    have hpa := List.pairwise_cons.1 ha
    cases b with
    | nil => have := (h x).1 (by simp); cases this
    | cons y b =>
      have hpb := List.pairwise_cons.1 hb
      have exy : x = y := by
        rcases List.mem_cons.1 ((h x).1 (by simp)) with e | hx
        · exact e
        · rcases List.mem_cons.1 ((h y).2 (by simp)) with e | hy
          · exact e.symm
          · have := sLt_trans (hpb.1 x hx) (hpa.1 y hy)
            rw [sLt_irrefl] at this; cases this
      subst exy
      congr 1
      refine ih hpa.2 hpb.2 fun r => ?_
      constructor
      · intro hr
        rcases List.mem_cons.1 ((h r).1 (by simp [hr])) with e | h'
        · subst e; have := hpa.1 r hr; rw [sLt_irrefl] at this; cases this
        · exact h'
      · intro hr
        rcases List.mem_cons.1 ((h r).2 (by simp [hr])) with e | h'
        · subst e; have := hpb.1 r hr; rw [sLt_irrefl] at this; cases this
        · exact h'
/-- A key has one row at most. -/
theorem rising_one {l : List RowM} (hl : Rising l) {a b : RowM} (ha : a ∈ l) (hb : b ∈ l) (h : a.key = b.key) : a = b := by
  induction l with
  | nil => cases ha
  | cons x l ih =>
    have hp := List.pairwise_cons.1 hl
    rcases List.mem_cons.1 ha with e1 | h1 <;> rcases List.mem_cons.1 hb with e2 | h2
    · rw [e1, e2]
    · subst e1; exact absurd h (sLt_ne (hp.1 b h2))
    · subst e2; exact absurd h.symm (sLt_ne (hp.1 a h1))
    · exact ih hp.2 h1 h2
def applyC (l : List RowM) (c : ChgM) : List RowM := if c.gone then dropR l c.key else setR l c.key c.val
def changeR (l : List RowM) (cs : List ChgM) : List RowM := cs.foldl applyC l
theorem applyC_rising {l : List RowM} (hl : Rising l) (c : ChgM) : Rising (applyC l c) ∧ (applyC l c).length ≤ l.length + 1 := by
  unfold applyC; split
  · exact ⟨(dropR_spec hl _).1, Nat.le_succ_of_le (dropR_spec hl _).2.2⟩
  · exact ⟨(setR_spec hl _ _).1, (setR_spec hl _ _).2.2⟩
theorem changeR_rising : ∀ (cs : List ChgM) {l : List RowM}, Rising l → Rising (changeR l cs) ∧ (changeR l cs).length ≤ l.length + cs.length
  | [], _, h => ⟨h, Nat.le_refl _⟩
  | c :: cs, l, h => by
    have h1 := applyC_rising h c
    have h2 := changeR_rising cs h1.1
    exact ⟨h2.1, by have := h2.2; simp only [changeR, List.foldl_cons, List.length_cons] at *; omega⟩
theorem mem_applyC {l : List RowM} (hl : Rising l) (c : ChgM) (r : RowM) : r ∈ applyC l c ↔ (c.gone = false ∧ r = ⟨c.key, c.val⟩) ∨ (r ∈ l ∧ r.key ≠ c.key) := by
  unfold applyC; split
  · rename_i h; rw [(dropR_spec hl _).2.1]; simp [h]
  · rename_i h; rw [(setR_spec hl _ _).2.1]; simp [h]
/-- The rows of a span, so many at most. -/
def inSpan (p : SpanM) (k : ByteArray) : Bool := sIn k p.a p.b
def scanR (l : List RowM) (p : SpanM) (most : Nat) : List RowM := (l.filter fun r => inSpan p r.key).take most
theorem sIn_iff {k a b : ByteArray} : sIn k a b = true ↔ (sLt k a = false ∧ sLt b k = false) := by
  have hle : ∀ x y : ByteArray, (sLt x y || sEq x y) = true ↔ sLt y x = false := fun x y => by
    rcases sLt_tri x y with h | h | h
    · simp [h, sLt_asymm h]
    · subst h; simp [sLt_irrefl, sEq_iff]
    · simp [h, sLt_asymm h]
      cases e : sEq x y with
      | false => rfl
      | true => rw [sEq_iff.1 e, sLt_irrefl] at h; cases h
  unfold sIn
  rw [Bool.and_eq_true, hle, hle]
theorem sMax_iff (a b : ByteArray) : sMax a b = if sLt a b then b else a := by
  rcases sLt_tri a b with h | h | h
  · simp [sMax, h]
  · subst h; simp [sMax, sLt_irrefl]
  · simp [sMax, h, sLt_asymm h]
theorem sLe_trans {a b c : ByteArray} (h : sLt b a = false) (h' : sLt c b = false) : sLt c a = false := by
  cases e : sLt c a with
  | false => rfl
  | true =>
    rcases sLt_tri b c with h1 | h1 | h1
    · rw [sLt_trans h1 e] at h; cases h
    · subst h1; rw [h] at e; cases e
    · rw [h1] at h'; cases h'
theorem meet_iff {a b : SpanM} : meet a b = true ↔ ∃ k, inSpan a k = true ∧ inSpan b k = true := by
  unfold meet inSpan
  rw [Bool.and_eq_true, sMax_iff]
  constructor
  · rintro ⟨h1, h2⟩; exact ⟨_, h1, h2⟩
  · rintro ⟨k, h1, h2⟩
    rw [sIn_iff] at h1 h2
    simp only [sIn_iff]
    split
    · rename_i h
      exact ⟨⟨sLt_asymm h, sLe_trans h2.1 h1.2⟩, sLt_irrefl _, sLe_trans h2.1 h2.2⟩
    · rename_i h
      simp only [Bool.not_eq_true] at h
      exact ⟨⟨sLt_irrefl _, sLe_trans h1.1 h1.2⟩, h, sLe_trans h1.1 h2.2⟩
theorem meet_one {k : ByteArray} {p : SpanM} : meet (one k) p = inSpan p k := by
  rw [Bool.eq_iff_iff, meet_iff]
  unfold inSpan one
  constructor
  · rintro ⟨j, h1, h2⟩
    rw [sIn_iff] at h1
    have : j = k := by
      rcases sLt_tri j k with h | h | h
      · rw [h1.1] at h; cases h
      · exact h
      · rw [h1.2] at h; cases h
    subst this; exact h2
  · intro h; exact ⟨k, by rw [sIn_iff]; exact ⟨sLt_irrefl _, sLt_irrefl _⟩, h⟩
theorem set_app {A D : List RowM} {x y : RowM} {n : Nat} (h : A.length = n) : (A ++ x :: D).set n y = A ++ y :: D := by subst h; simp
theorem scan_eq {l : List RowM} (hl : Rising l) (s : SpanM) : (l.drop (lowI l s.a)).takeWhile (fun r => !sLt s.b r.key) = l.filter fun r => inSpan s r.key := by
  obtain ⟨A, D, rfl, ha, h1, h2, h3, h4⟩ := key_split hl s.a
  rw [← ha, List.drop_left, List.filter_append]
  have e1 : A.filter (fun r => inSpan s r.key) = [] := by
    rw [List.filter_eq_nil_iff]
    intro r hr h
    rw [inSpan, sIn_iff, h1 r hr] at h; cases h.1
  rw [e1, List.nil_append]
  clear ha e1 h1 hl h3
  induction D with
  | nil => rfl
  | cons x D ih =>
    have hp := List.pairwise_cons.1 h4
    have hx := h2 x (by simp)
    rw [List.takeWhile_cons, List.filter_cons]
    cases e : sLt s.b x.key with
    | false =>
      have : inSpan s x.key = true := by rw [inSpan, sIn_iff]; exact ⟨hx, e⟩
      simp [this, ih (fun r hr => h2 r (by simp [hr])) hp.2]
    | true =>
      have hn : inSpan s x.key = false := by
        cases e2 : inSpan s x.key with
        | false => rfl
        | true => rw [inSpan, sIn_iff, e] at e2; cases e2.2
      have : D.filter (fun r => inSpan s r.key) = [] := by
        rw [List.filter_eq_nil_iff]
        intro r hr h
        rw [inSpan, sIn_iff, sLt_trans e (hp.1 r hr)] at h; cases h.2
      simp [hn, this]
theorem meet_self {s : SpanM} {l : List RowM} (h : meet s s = false) : l.filter (fun r => inSpan s r.key) = [] := by
  rw [List.filter_eq_nil_iff]
  intro r _ hr
  have : meet s s = true := meet_iff.2 ⟨_, hr, hr⟩
  rw [h] at this; cases this
theorem has_at {l : List RowM} {k : ByteArray} (h : hasI l k = true) : ∃ u, l[lowI l k]? = some ⟨k, u⟩ := by
  unfold hasI at h
  cases e : l[lowI l k]? with
  | none => rw [e] at h; cases h
  | some r => rw [e] at h; have := sEq_iff.1 h; subst this; exact ⟨r.val, rfl⟩
theorem has_lt {l : List RowM} {k : ByteArray} (h : hasI l k = true) : lowI l k < l.length := by obtain ⟨u, hu⟩ := has_at h; exact idx_lt hu
theorem changeR_snoc (l : List RowM) (cs : List ChgM) (c : ChgM) : changeR l (cs ++ [c]) = applyC (changeR l cs) c := by simp [changeR]
theorem sgt_eq (a b : ByteArray) : (!(sLt a b || sEq a b)) = sLt b a := by
  rcases sLt_tri a b with h | h | h
  · simp [h, sLt_asymm h]
  · subst h; simp [sLt_irrefl, sEq_iff]
  · have : sEq a b = false := by
      cases e : sEq a b with
      | false => rfl
      | true => rw [sEq_iff.1 e, sLt_irrefl] at h; cases h
    simp [h, sLt_asymm h, this]
end Go.SL
