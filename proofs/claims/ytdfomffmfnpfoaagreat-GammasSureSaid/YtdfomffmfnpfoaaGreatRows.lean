/-
  No cell of these rows narrows 'for every input' (looked for: loops, veiled, ifaces, maps, wideKeys, modest, calm, conditions, laid).
  DERIVED. THE GIVEN ROWS OF THIS SEAT. 4 by the template 'for every input the law returns true; each argument reads behind the call as it read before'; 0 by the template 'total and deterministic' (their statements: YtdfomffmfnpfoaaGreatTotals.lean).
  GIVEN WITH THE SEED: the statements are not yours to turn. If you find one false, say at which input.
  Laid BY PROGRAM, IN A SANDBOX (cutbox-rows.mjs): the forced cells as the released guide's own fill.sh prints them over the translation 2a891bb34162708e… (all of the seat's roots in one cut). By AI agents, Wed Nov 11 2026. No macro, syntax, notation, axiom, sorry.
-/
import Derived.Test.YtdfomffmfnpfoaaGreatChecked
import GoSem.Claim
import GoSem.ClaimJoined
import GoSem.ClaimMapViews
import Derived.JoinedTies
import Derived.KernelRfl
namespace Go.Proofs.YtdfomffmfnpfoaaGreat
/- THE CELL 'sum', in the pinned program and in every row, IS THE sha256 OF THE DUMP (.gsa) THAT YtdfomffmfnpfoaaGreatProg.lean LOADS. Nothing in Lean hashes anything: it is a label: what it is worth is what the hold of that sum in a sandbox is worth. -/
noncomputable def Tryz.pinned : Pinned := { name := "ytdfomffmfnpfoaagreat", sum := "2a891bb34162708e3cbcb2ed969e7970e6cd0b4ecea9a84dbb9dcda11a4078ec", checked := Tryz.checked }
namespace Rows
def none {H : Type} : Left H := { results := [], args := [] }

/-- 'concordatlaw17.GammasSerial': WHATEVER THE INPUT: true; the input reads as it did. -/
def gammasSerialSpec : ChangeSpec := { name := "gammasSerial", fn := fun _ => fun
  | [d] => { results := [.lit (.bool true)], args := [d] }
  | _ => none }
def gammasSerialRow : OpenClaim := { program := "ytdfomffmfnpfoaagreat", sum := "2a891bb34162708e3cbcb2ed969e7970e6cd0b4ecea9a84dbb9dcda11a4078ec", func := "concordat/concordatlaw17.GammasSerial", spec := "gammasSerial", inPlace := ["slices.overlaps[concordat/api.Row]"], unfollowed := true, recurses := true, apart := false }
def GammasSerialSaid : Prop := gammasSerialRow.holds Tryz.pinned (OpenSpec.ofChange gammasSerialSpec)

/-- ITS FALSE NEIGHBOUR: 'it returns false'. Refute it at one input. -/
def gammasSerialWrong : ChangeSpec := { name := "gammasSerial", fn := fun _ => fun
  | [d] => { results := [.lit (.bool false)], args := [d] }
  | _ => none }
def GammasSerialWrongFalsely : Prop := gammasSerialRow.holds Tryz.pinned (OpenSpec.ofChange gammasSerialWrong)

/-- 'concordatlaw17.GammasAlone': WHATEVER THE INPUT: true; the input reads as it did. -/
def gammasAloneSpec : ChangeSpec := { name := "gammasAlone", fn := fun _ => fun
  | [d1, d2, d3] => { results := [.lit (.bool true)], args := [d1, d2, d3] }
  | _ => none }
def gammasAloneRow : OpenClaim := { program := "ytdfomffmfnpfoaagreat", sum := "2a891bb34162708e3cbcb2ed969e7970e6cd0b4ecea9a84dbb9dcda11a4078ec", func := "concordat/concordatlaw17.GammasAlone", spec := "gammasAlone", inPlace := ["slices.overlaps[concordat/api.Row]"], unfollowed := true, recurses := true, apart := false }
def GammasAloneSaid : Prop := gammasAloneRow.holds Tryz.pinned (OpenSpec.ofChange gammasAloneSpec)

/-- ITS FALSE NEIGHBOUR: 'it returns false'. Refute it at one input. -/
def gammasAloneWrong : ChangeSpec := { name := "gammasAlone", fn := fun _ => fun
  | [d1, d2, d3] => { results := [.lit (.bool false)], args := [d1, d2, d3] }
  | _ => none }
def GammasAloneWrongFalsely : Prop := gammasAloneRow.holds Tryz.pinned (OpenSpec.ofChange gammasAloneWrong)

/-- 'concordatlaw17.GammasRise': WHATEVER THE INPUT: true; the input reads as it did. -/
def gammasRiseSpec : ChangeSpec := { name := "gammasRise", fn := fun _ => fun
  | [d] => { results := [.lit (.bool true)], args := [d] }
  | _ => none }
def gammasRiseRow : OpenClaim := { program := "ytdfomffmfnpfoaagreat", sum := "2a891bb34162708e3cbcb2ed969e7970e6cd0b4ecea9a84dbb9dcda11a4078ec", func := "concordat/concordatlaw17.GammasRise", spec := "gammasRise", inPlace := ["slices.overlaps[concordat/api.Row]"], unfollowed := true, recurses := true, apart := false }
def GammasRiseSaid : Prop := gammasRiseRow.holds Tryz.pinned (OpenSpec.ofChange gammasRiseSpec)

/-- ITS FALSE NEIGHBOUR: 'it returns false'. Refute it at one input. -/
def gammasRiseWrong : ChangeSpec := { name := "gammasRise", fn := fun _ => fun
  | [d] => { results := [.lit (.bool false)], args := [d] }
  | _ => none }
def GammasRiseWrongFalsely : Prop := gammasRiseRow.holds Tryz.pinned (OpenSpec.ofChange gammasRiseWrong)

/-- 'concordatlaw17.GammasSure': WHATEVER THE INPUT: true; the input reads as it did. -/
def gammasSureSpec : ChangeSpec := { name := "gammasSure", fn := fun _ => fun
  | [d1, d2, d3] => { results := [.lit (.bool true)], args := [d1, d2, d3] }
  | _ => none }
def gammasSureRow : OpenClaim := { program := "ytdfomffmfnpfoaagreat", sum := "2a891bb34162708e3cbcb2ed969e7970e6cd0b4ecea9a84dbb9dcda11a4078ec", func := "concordat/concordatlaw17.GammasSure", spec := "gammasSure", inPlace := ["slices.overlaps[concordat/api.Row]"], unfollowed := true, recurses := true, apart := false }
def GammasSureSaid : Prop := gammasSureRow.holds Tryz.pinned (OpenSpec.ofChange gammasSureSpec)

/-- ITS FALSE NEIGHBOUR: 'it returns false'. Refute it at one input. -/
def gammasSureWrong : ChangeSpec := { name := "gammasSure", fn := fun _ => fun
  | [d1, d2, d3] => { results := [.lit (.bool false)], args := [d1, d2, d3] }
  | _ => none }
def GammasSureWrongFalsely : Prop := gammasSureRow.holds Tryz.pinned (OpenSpec.ofChange gammasSureWrong)

/- THE SECOND FORM. 'bulk': how many values and letters a reading holds, each counted each time it is reached (what is shared counts as often as it is met; a slice's spare places count too). A statement '..UptoSaid' is the law's where the arguments, and the package variables that the reading takes, are together of bulk at most 1048576: NARROWER than '..Said'. Prove '..Said' where nothing that the law and all that it calls make is longer than what came in: it says more and counts as full. Else prove '..UptoSaid'. A law counts once. -/
mutual
def uptoBulk {H : Type} : DataW H → Nat
  | .lit (.string bytes) => bytes.length + 1
  | .lit _ => 1
  | .nil => 1
  | .ptr d => uptoBulk d + 1
  | .slice elems spare => uptoBulkAll elems + uptoBulkAll spare + 1
  | .agg parts => uptoBulkAll parts + 1
  | .iface _ d => uptoBulk d + 1
  | .map entries => uptoBulkEntries entries + 1
  | .held _ => 1
def uptoBulkAll {H : Type} : List (DataW H) → Nat
  | [] => 0
  | d :: r => uptoBulk d + uptoBulkAll r
def uptoBulkEntries {H : Type} : List (Lit × DataW H) → Nat
  | [] => 0
  | x :: r => uptoBulkEntry x + uptoBulkEntries r
def uptoBulkEntry {H : Type} : Lit × DataW H → Nat
  | (.string bytes, d) => bytes.length + uptoBulk d + 1
  | (_, d) => uptoBulk d + 1
 end
def uptoSmall : (H : Type) → List (DataW H) → Bool := fun _ ds => decide (uptoBulkAll ds ≤ 1048576)
def OpenSpec.upto (s : _root_.Go.ChangeSpec) : _root_.Go.OpenSpec := { _root_.Go.OpenSpec.ofChange s with cond := some uptoSmall }

/-- 'concordatlaw17.GammasSerial', WHERE WHAT IT READS IS OF BULK AT MOST 1048576: true; the input reads as it did. -/
def gammasSerialUptoRow : OpenClaim := { program := "ytdfomffmfnpfoaagreat", sum := "2a891bb34162708e3cbcb2ed969e7970e6cd0b4ecea9a84dbb9dcda11a4078ec", func := "concordat/concordatlaw17.GammasSerial", spec := "gammasSerial", inPlace := ["slices.overlaps[concordat/api.Row]"], unfollowed := true, recurses := true, apart := false, narrowed := true }
def GammasSerialUptoSaid : Prop := gammasSerialUptoRow.holds Tryz.pinned (OpenSpec.upto gammasSerialSpec)

/-- 'concordatlaw17.GammasAlone', WHERE WHAT IT READS IS OF BULK AT MOST 1048576: true; the input reads as it did. -/
def gammasAloneUptoRow : OpenClaim := { program := "ytdfomffmfnpfoaagreat", sum := "2a891bb34162708e3cbcb2ed969e7970e6cd0b4ecea9a84dbb9dcda11a4078ec", func := "concordat/concordatlaw17.GammasAlone", spec := "gammasAlone", inPlace := ["slices.overlaps[concordat/api.Row]"], unfollowed := true, recurses := true, apart := false, narrowed := true }
def GammasAloneUptoSaid : Prop := gammasAloneUptoRow.holds Tryz.pinned (OpenSpec.upto gammasAloneSpec)

/-- 'concordatlaw17.GammasRise', WHERE WHAT IT READS IS OF BULK AT MOST 1048576: true; the input reads as it did. -/
def gammasRiseUptoRow : OpenClaim := { program := "ytdfomffmfnpfoaagreat", sum := "2a891bb34162708e3cbcb2ed969e7970e6cd0b4ecea9a84dbb9dcda11a4078ec", func := "concordat/concordatlaw17.GammasRise", spec := "gammasRise", inPlace := ["slices.overlaps[concordat/api.Row]"], unfollowed := true, recurses := true, apart := false, narrowed := true }
def GammasRiseUptoSaid : Prop := gammasRiseUptoRow.holds Tryz.pinned (OpenSpec.upto gammasRiseSpec)

/-- 'concordatlaw17.GammasSure', WHERE WHAT IT READS IS OF BULK AT MOST 1048576: true; the input reads as it did. -/
def gammasSureUptoRow : OpenClaim := { program := "ytdfomffmfnpfoaagreat", sum := "2a891bb34162708e3cbcb2ed969e7970e6cd0b4ecea9a84dbb9dcda11a4078ec", func := "concordat/concordatlaw17.GammasSure", spec := "gammasSure", inPlace := ["slices.overlaps[concordat/api.Row]"], unfollowed := true, recurses := true, apart := false, narrowed := true }
def GammasSureUptoSaid : Prop := gammasSureUptoRow.holds Tryz.pinned (OpenSpec.upto gammasSureSpec)

end Rows
end Go.Proofs.YtdfomffmfnpfoaaGreat
