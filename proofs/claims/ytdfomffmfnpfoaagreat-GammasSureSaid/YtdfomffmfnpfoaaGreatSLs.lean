/- The steps of the walk: a place where ways meet, with all that was known. -/
import Derived.Test.YtdfomffmfnpfoaaGreatSLr
set_option linter.unusedSimpArgs false
set_option linter.unusedVariables false
set_option linter.unusedSectionVars false
namespace Go.SL
open Go
section
variable {P : Program} {r : Option Nat} {g : World} {Γ : Env} {L M : List HP} {Q : Post}
theorem WP.cutL {α : Type} {c d : Code} {n : Nat} {D : List Deferred} {l : List (Nat × Value)} (E : α → List (Nat × Value)) (H : α → List HP) (φ : α → Prop) (h : WP P r g c (Exit.then (Meet g n D (fun x => (E x ++ l, H x)) φ) Q) ⟨n, D, l⟩ L) (hd : ∀ x, φ x → WP P r g d Q ⟨n, D, E x ++ l⟩ (H x)) :
    WP P r g (.seq c d) Q ⟨n, D, l⟩ L := WP.cut (fun x => (E x ++ l, H x)) φ h hd
theorem h_makeMapB {κ : Type} [DecidableEq κ] {ek : κ → Value} {dst : Option Tmp} {t : TypeId} {pos : String} {aft : Array Edge} {gd : Option (Nat × Bool)} {T : TypeId} {K : Value → List HP → Prop} (hK : ∀ b, K (.map (some b)) (Mp ek (.map (some b)) ([] : List (κ × Value)) :: L)) : HO P r g ⟨dst, .makeMap T none, t, pos, aft, gd⟩ Γ L K :=
  HO.run (by simp) fun a w _ hw => by
    have h := hw.push (.map #[] 0)
    obtain ⟨T1, T2, hd', m1, m2, hA1, hA2⟩ := h.heap
    refine ⟨.map (some w.heap.size), _, w.alloc (.map #[] 0), by simp [execOp, Instr.makeMap], hK _, h.os, h.tape, h.output, h.size, T1, T2, hd', m1, m2, ⟨w.heap.size, [], 0, rfl, hA1, rfl, by simp, by simp⟩, hA2⟩
end
end Go.SL
