/-
  DERIVED. GIVEN WITH THE SEED: THE CARDS: each row of YtmeoolijekillaaGreatDoorRows.lean that lists a variable, with what it lists TIED to the program's text (the seventh form; the later family's looks); each row that meets fmt, with fmt's text TOLD by the authors' own Lean function (tested against real Go, not proved from fmt's source: count such statements apart). THE CARD IS WHAT COUNTS. Prove the row's statement (the work); the ties are given (YtmeoolijekillaaGreatDoorTie.lean); close each card by the builder's one call (the guide's Derived/Test/ToyasCard.lean, 'card_holds'). Laid BY PROGRAM, IN A SANDBOX (cutbox-door.mjs). By AI agents, Wed Nov 11 2026. No macro, syntax, notation, axiom, sorry.
-/
import Derived.Test.YtmeoolijekillaaGreatDoorRows
import GoSem.ClaimSeven
namespace Go.Proofs.YtmeoolijekillaaGreatDoor
namespace Rows

/-- THE TIED CARD OF 'concordatlaw23.JudgesSerial'. -/
def judgesSerialCard : Claim7 := { stood := { row := judgesSerialRow, standIns := [], harness := (true, "9e016288f6884796ada1300baa8b5f8b14ff6a3fc94c94e22f53bb199cd52ae8"), looks := false }, kinds := [], alts := [], laidByText := true, laidKinds := [.data, .data, .data], laidTests := true, laidLooks := .later }
def JudgesSerialCardSaid : Prop := Claim7.holds Tryz.pinned (.plain (OpenSpec.ofChange judgesSerialSpec)) judgesSerialCard

/-- THE TIED CARD OF 'concordatlaw23.JudgesLocal'. -/
def judgesLocalCard : Claim7 := { stood := { row := judgesLocalRow, standIns := [], harness := (true, "9e016288f6884796ada1300baa8b5f8b14ff6a3fc94c94e22f53bb199cd52ae8"), looks := false }, kinds := [], alts := [], laidByText := true, laidKinds := [.data, .data, .data], laidTests := true, laidLooks := .later }
def JudgesLocalCardSaid : Prop := Claim7.holds Tryz.pinned (.plain (OpenSpec.ofChange judgesLocalSpec)) judgesLocalCard

/-- THE TIED CARD OF 'concordatlaw23.JudgesCross'. -/
def judgesCrossCard : Claim7 := { stood := { row := judgesCrossRow, standIns := [], harness := (true, "9e016288f6884796ada1300baa8b5f8b14ff6a3fc94c94e22f53bb199cd52ae8"), looks := false }, kinds := [], alts := [], laidByText := true, laidKinds := [.data, .data, .data], laidTests := true, laidLooks := .later }
def JudgesCrossCardSaid : Prop := Claim7.holds Tryz.pinned (.plain (OpenSpec.ofChange judgesCrossSpec)) judgesCrossCard

/-- THE SECOND FORM's CARD OF 'concordatlaw23.JudgesSerial'. -/
def judgesSerialUptoCard : Claim7 := { stood := { row := judgesSerialUptoRow, standIns := [], harness := (true, "9e016288f6884796ada1300baa8b5f8b14ff6a3fc94c94e22f53bb199cd52ae8"), looks := false }, kinds := [], alts := [], laidByText := true, laidKinds := [.data, .data, .data], laidTests := true, laidLooks := .later }
def JudgesSerialUptoCardSaid : Prop := Claim7.holds Tryz.pinned (.plain (OpenSpec.upto judgesSerialSpec)) judgesSerialUptoCard

/-- THE SECOND FORM's CARD OF 'concordatlaw23.JudgesLocal'. -/
def judgesLocalUptoCard : Claim7 := { stood := { row := judgesLocalUptoRow, standIns := [], harness := (true, "9e016288f6884796ada1300baa8b5f8b14ff6a3fc94c94e22f53bb199cd52ae8"), looks := false }, kinds := [], alts := [], laidByText := true, laidKinds := [.data, .data, .data], laidTests := true, laidLooks := .later }
def JudgesLocalUptoCardSaid : Prop := Claim7.holds Tryz.pinned (.plain (OpenSpec.upto judgesLocalSpec)) judgesLocalUptoCard

/-- THE SECOND FORM's CARD OF 'concordatlaw23.JudgesCross'. -/
def judgesCrossUptoCard : Claim7 := { stood := { row := judgesCrossUptoRow, standIns := [], harness := (true, "9e016288f6884796ada1300baa8b5f8b14ff6a3fc94c94e22f53bb199cd52ae8"), looks := false }, kinds := [], alts := [], laidByText := true, laidKinds := [.data, .data, .data], laidTests := true, laidLooks := .later }
def JudgesCrossUptoCardSaid : Prop := Claim7.holds Tryz.pinned (.plain (OpenSpec.upto judgesCrossSpec)) judgesCrossUptoCard
end Rows
end Go.Proofs.YtmeoolijekillaaGreatDoor
