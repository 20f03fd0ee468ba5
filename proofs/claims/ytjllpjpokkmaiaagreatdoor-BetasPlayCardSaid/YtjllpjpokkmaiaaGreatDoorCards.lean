/-
  DERIVED. GIVEN WITH THE SEED: THE CARDS: each row of YtjllpjpokkmaiaaGreatDoorRows.lean that lists a variable, with what it lists TIED to the program's text (the seventh form; the later family's looks); each row that meets fmt, with fmt's text TOLD by the authors' own Lean function (tested against real Go, not proved from fmt's source: count such statements apart). THE CARD IS WHAT COUNTS. Prove the row's statement (the work); the ties are given (YtjllpjpokkmaiaaGreatDoorTie.lean); close each card by the builder's one call (the guide's Derived/Test/ToyasCard.lean, 'card_holds'). Laid BY PROGRAM, IN A SANDBOX (cutbox-door.mjs). By AI agents, Wed Nov 11 2026. No macro, syntax, notation, axiom, sorry.
-/
import Derived.Test.YtjllpjpokkmaiaaGreatDoorRows
import GoSem.ClaimSeven
namespace Go.Proofs.YtjllpjpokkmaiaaGreatDoor
namespace Rows

/-- THE TIED CARD OF 'concordatlaw16.BetasPlay'. -/
def betasPlayCard : Claim7 := { stood := { row := betasPlayRow, standIns := [], harness := (true, "d1e9166858f342c5d1e3b79e39679833c2cb7a6d7f03350bfdc5dcae73018913"), looks := false }, kinds := [], alts := [], laidByText := true, laidKinds := [.data, .data, .data], laidTests := true, laidLooks := .later }
def BetasPlayCardSaid : Prop := Claim7.holds Tryz.pinned (.plain (OpenSpec.ofChange betasPlaySpec)) betasPlayCard

/-- THE SECOND FORM's CARD OF 'concordatlaw16.BetasPlay'. -/
def betasPlayUptoCard : Claim7 := { stood := { row := betasPlayUptoRow, standIns := [], harness := (true, "d1e9166858f342c5d1e3b79e39679833c2cb7a6d7f03350bfdc5dcae73018913"), looks := false }, kinds := [], alts := [], laidByText := true, laidKinds := [.data, .data, .data], laidTests := true, laidLooks := .later }
def BetasPlayUptoCardSaid : Prop := Claim7.holds Tryz.pinned (.plain (OpenSpec.upto betasPlaySpec)) betasPlayUptoCard
end Rows
end Go.Proofs.YtjllpjpokkmaiaaGreatDoor
