/-
  DERIVED. GIVEN WITH THE SEED: THE CARDS: each row of YtdfomffmfnpfoaaGreatDoorRows.lean that lists a variable, with what it lists TIED to the program's text (the seventh form; the later family's looks); each row that meets fmt, with fmt's text TOLD by the authors' own Lean function (tested against real Go, not proved from fmt's source: count such statements apart). THE CARD IS WHAT COUNTS. Prove the row's statement (the work); the ties are given (YtdfomffmfnpfoaaGreatDoorTie.lean); close each card by the builder's one call (the guide's Derived/Test/ToyasCard.lean, 'card_holds'). Laid BY PROGRAM, IN A SANDBOX (cutbox-door.mjs). By AI agents, Wed Nov 11 2026. No macro, syntax, notation, axiom, sorry.
-/
import Derived.Test.YtdfomffmfnpfoaaGreatDoorRows
import GoSem.ClaimSeven
namespace Go.Proofs.YtdfomffmfnpfoaaGreatDoor
namespace Rows

/-- THE TIED CARD OF 'concordatlaw17.GammasPlay'. -/
def gammasPlayCard : Claim7 := { stood := { row := gammasPlayRow, standIns := [], harness := (true, "680cbebf9c53d52c926f089cb2c4ba247d0182d3e56aa9c64a2ebffd0393e242"), looks := false }, kinds := [], alts := [], laidByText := true, laidKinds := [.data, .data, .data], laidTests := true, laidLooks := .later }
def GammasPlayCardSaid : Prop := Claim7.holds Tryz.pinned (.plain (OpenSpec.ofChange gammasPlaySpec)) gammasPlayCard

/-- THE SECOND FORM's CARD OF 'concordatlaw17.GammasPlay'. -/
def gammasPlayUptoCard : Claim7 := { stood := { row := gammasPlayUptoRow, standIns := [], harness := (true, "680cbebf9c53d52c926f089cb2c4ba247d0182d3e56aa9c64a2ebffd0393e242"), looks := false }, kinds := [], alts := [], laidByText := true, laidKinds := [.data, .data, .data], laidTests := true, laidLooks := .later }
def GammasPlayUptoCardSaid : Prop := Claim7.holds Tryz.pinned (.plain (OpenSpec.upto gammasPlaySpec)) gammasPlayUptoCard
end Rows
end Go.Proofs.YtdfomffmfnpfoaaGreatDoor
