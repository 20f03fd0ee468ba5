/- From the walk to the row: what was there ahead of the call is there behind it. -/
import Derived.Test.YtdfomffmfnpfoaaGreatSLs
import Derived.ProofKit
import Derived.Below
import Derived.Carry
import Derived.Lib.SmallJoins
import Derived.OpenShut
import Derived.ShutString
import Derived.ChangeOld
set_option linter.unusedSimpArgs false
set_option linter.unusedVariables false
set_option linter.unusedSectionVars false
namespace Go.SL
open Go
def Old (w : World) : HP := fun S => le (heapOf w) S
theorem sat_old (w : World) : Sat w [Old w] w := ⟨rfl, rfl, rfl, Nat.le_refl _, heapOf w, fun _ => none, fun _ => .inr rfl, le_refl _, (fun _ _ h => by cases h), le_refl _, trivial⟩
theorem old_below {w w' : World} (h : Sat w [Old w] w') : Go.RowKit.Below w.heap.size w w' := by
  refine ⟨h.os, h.tape, h.output, h.size, fun k hk => ?_⟩
  obtain ⟨S1, S2, _, h1, _, h2, _⟩ := h.heap
  have e : w.heap[k]? = some w.heap[k] := Array.getElem?_eq_getElem hk
  rw [e]
  exact h1 _ _ (h2 _ _ e)
theorem below_of_spec {P : Program} {w : World} {f : FuncId} {args : List Value} (h : Spec P w f args [] fun K R => K (.bool true) R) : Calls P f args.toArray w fun e w' => e = .returned (.bool true) ∧ Go.RowKit.Below w.heap.size w w' := by
  refine (h [Old w] (fun v M => v = .bool true ∧ M = [Old w]) w (sat_old w) ⟨rfl, rfl⟩).mono ?_
  rintro e w' ⟨v, M, rfl, ⟨rfl, rfl⟩, hs⟩
  exact ⟨rfl, old_below hs⟩
theorem u32_wf {n : Int} (h : (Lit.int .u32 n).wf = true) : n = ((UInt32.ofNat n.toNat).toNat : Int) := by
  simp only [Lit.wf, Bool.and_eq_true, decide_eq_true_eq] at h
  rw [show IntKind.u32.min = 0 from rfl, show IntKind.u32.max = 4294967295 from rfl] at h
  have : (UInt32.ofNat n.toNat).toNat = n.toNat := by simp; omega
  omega
theorem u8_wf {n : Int} (h : (Lit.int .u8 n).wf = true) : n = ((UInt8.ofNat n.toNat).toNat : Int) := by
  simp only [Lit.wf, Bool.and_eq_true, decide_eq_true_eq] at h
  rw [show IntKind.u8.min = 0 from rfl, show IntKind.u8.max = 255 from rfl] at h
  have : (UInt8.ofNat n.toNat).toNat = n.toNat := by simp; omega
  omega
theorem array5 {α : Type} {cs : Array α} (h : cs.size = 5) : ∃ c0 c1 c2 c3 c4, cs = #[c0, c1, c2, c3, c4] := by
  obtain ⟨l⟩ := cs
  match l, h with
  | [c0, c1, c2, c3, c4], _ => exact ⟨c0, c1, c2, c3, c4, rfl⟩
end Go.SL
