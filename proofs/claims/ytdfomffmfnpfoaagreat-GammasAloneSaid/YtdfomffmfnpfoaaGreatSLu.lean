/- The steps of the walk: are two rows one? -/
import Derived.Test.YtdfomffmfnpfoaaGreatSLt
import Derived.Test.YtdfomffmfnpfoaaGreatM0
import Derived.Laws.StructEq
set_option linter.unusedSimpArgs false
set_option linter.unusedVariables false
set_option linter.unusedSectionVars false
namespace Go.SL
open Go
instance : DecidableEq RowM := fun a b => decidable_of_iff (a.key = b.key ∧ a.val = b.val) ⟨fun ⟨h1, h2⟩ => by cases a; cases b; simp_all, fun h => by subst h; exact ⟨rfl, rfl⟩⟩
section
variable {P : Program} {r : Option Nat} {g : World} {Γ : Env} {L M : List HP} {dst : Option Tmp} {t : TypeId} {pos : String} {aft : Array Edge} {gd : Option (Nat × Bool)}
theorem run_part1 {T : TypeId} (h : aggOf P T = some none) (cs : Array Value) (i : Nat) (v : Value) (hv : cs[i]? = some v) (w : World) : (part T cs i).run P w = .ok v w := by
  unfold part
  simp [run_isAgg h, hv]
theorem e_rowne {T T2 s u : TypeId} {b0 b1 : Nat} {x y : Operand} {a b : RowM} (hT : P.underlying T = some (.struct #[⟨ "Key", s, 0, false, "", "", b0⟩, ⟨ "Value", u, 1, false, "", "", b1⟩])) (hs : P.underlying s = some .string) (hu : P.underlying u = some (.int .u32))
    (hs1 : aggOf P s = some none) (hu1 : aggOf P u = some none) (hp : P.stoodInHeld T = false) (hm : P.eqGuardType P.depth T = false) (hx : ev Γ x = some a.v) (hy : ev Γ y = some b.v) :
    EO P g ⟨dst, .binOp .neq T x y T2, t, pos, aft, gd⟩ Γ L (.bool (!decide (a = b))) := e_bin hx hy fun w => by
  have hf : P.fieldsOf T = #[⟨ "Key", s, 0, false, "", "", b0⟩, ⟨ "Value", u, 1, false, "", "", b1⟩] := by unfold Program.fieldsOf; rw [hT]
  have hE : ∀ w, (Op.equalIn 10000 T (.agg #[.string a.key, .int .u32 a.val.toNat]) (.agg #[.string b.key, .int .u32 b.val.toNat])).run P w = .ok (decide (a = b)) w := fun w => by
    rw [show (10000 : Nat) = 9999 + 1 from rfl, run_equalIn_struct w 9999 T _ _ (by rw [hf]; exact hT) hp, hf]
    simp only [Op.eqFields, Sem.run_bind]
    rw [if_pos (by decide)]
    simp only [Sem.run_bind]
    rw [run_part1 hs1 _ 0 (.string a.key) rfl]
    simp only [Result.andThen_ok]
    rw [run_part1 hs1 _ 0 (.string b.key) rfl]
    simp only [Result.andThen_ok]
    rw [show (9999 : Nat) = 9998 + 1 from rfl, run_equalIn_string w 9998 s a.key b.key hs]
    simp only [Result.andThen_ok]
    cases hk : a.key.toList == b.key.toList with
    | false =>
      simp
      intro e; subst e; simp at hk
    | true =>
      have hk' : a.key = b.key := by
        rw [← beq_toListBytes] at hk
        have : (a.key.data == b.key.data) = true := hk
        rw [ByteArray.ext_iff]; simpa using this
      simp only [Bool.not_true, Bool.false_eq_true, if_false]
      rw [if_pos (by decide)]
      simp only [Sem.run_bind]
      rw [run_part1 hu1 _ 1 (.int .u32 a.val.toNat) rfl]
      simp only [Result.andThen_ok]
      rw [run_part1 hu1 _ 1 (.int .u32 b.val.toNat) rfl]
      simp only [Result.andThen_ok]
      rw [run_equalIn_int w 9998 u .u32 .u32 _ _ hu]
      simp only [Result.andThen_ok, beq32]
      cases hv : a.val == b.val with
      | false =>
        simp
        intro e; subst e; simp at hv
      | true =>
        simp at hv
        simp
        cases a; cases b; simp_all
  show (do eqGuard .neq T x y (.agg #[.string a.key, .int .u32 a.val.toNat]) (.agg #[.string b.key, .int .u32 b.val.toNat]); binOp .neq T (.agg #[.string a.key, .int .u32 a.val.toNat]) (.agg #[.string b.key, .int .u32 b.val.toNat]) : Sem Value).run P w = _
  rw [Sem.run_bind, run_eqGuard_agg w .neq T x y _ _ hm]
  simp only [Result.andThen_ok]
  rw [run_neq_struct, hE]; rfl
end
end Go.SL
