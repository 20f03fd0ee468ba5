/-
  No cell of these rows narrows 'for every input' (looked for: loops, veiled, ifaces, maps, wideKeys, modest, calm, conditions, laid).
  DERIVED. THE GIVEN ROWS OF THIS SEAT. 11 by the template 'for every input the law returns true; each argument reads behind the call as it read before'; 0 by the template 'total and deterministic' (their statements: YtdpmpcoekkhceaaGreatTotals.lean).
  GIVEN WITH THE SEED: the statements are not yours to turn. If you find one false, say at which input.
  Laid BY PROGRAM, IN A SANDBOX (cutbox-rows.mjs): the forced cells as the released guide's own fill.sh prints them over the translation a7f4900b3b53a655… (all of the seat's roots in one cut). By AI agents, Wed Nov 11 2026. No macro, syntax, notation, axiom, sorry.
-/
import Derived.Test.YtdpmpcoekkhceaaGreatChecked
import GoSem.Claim
import GoSem.ClaimJoined
import GoSem.ClaimMapViews
import Derived.JoinedTies
import Derived.KernelRfl
namespace Go.Proofs.YtdpmpcoekkhceaaGreat
/- THE CELL 'sum', in the pinned program and in every row, IS THE sha256 OF THE DUMP (.gsa) THAT YtdpmpcoekkhceaaGreatProg.lean LOADS. Nothing in Lean hashes anything: it is a label: what it is worth is what the hold of that sum in a sandbox is worth. -/
noncomputable def Tryz.pinned : Pinned := { name := "ytdpmpcoekkhceaagreat", sum := "a7f4900b3b53a65500660e9dbfd8c1b5e24e531769fd894fc050e6ca02a02b37", checked := Tryz.checked }
namespace Rows
def none {H : Type} : Left H := { results := [], args := [] }

/-- 'concordatlaw16.BetasFirst': WHATEVER THE INPUT: true; the input reads as it did. -/
def betasFirstSpec : ChangeSpec := { name := "betasFirst", fn := fun _ => fun
  | [d1, d2, d3] => { results := [.lit (.bool true)], args := [d1, d2, d3] }
  | _ => none }
def betasFirstRow : OpenClaim := { program := "ytdpmpcoekkhceaagreat", sum := "a7f4900b3b53a65500660e9dbfd8c1b5e24e531769fd894fc050e6ca02a02b37", func := "concordat/concordatlaw16.BetasFirst", spec := "betasFirst", inPlace := ["slices.overlaps[concordat/api.Row]"], unfollowed := true, recurses := true, apart := false }
def BetasFirstSaid : Prop := betasFirstRow.holds Tryz.pinned (OpenSpec.ofChange betasFirstSpec)

/-- ITS FALSE NEIGHBOUR: 'it returns false'. Refute it at one input. -/
def betasFirstWrong : ChangeSpec := { name := "betasFirst", fn := fun _ => fun
  | [d1, d2, d3] => { results := [.lit (.bool false)], args := [d1, d2, d3] }
  | _ => none }
def BetasFirstWrongFalsely : Prop := betasFirstRow.holds Tryz.pinned (OpenSpec.ofChange betasFirstWrong)

/-- 'concordatlaw15.AlphasStrict': WHATEVER THE INPUT: true; the input reads as it did. -/
def alphasStrictSpec : ChangeSpec := { name := "alphasStrict", fn := fun _ => fun
  | [d] => { results := [.lit (.bool true)], args := [d] }
  | _ => none }
def alphasStrictRow : OpenClaim := { program := "ytdpmpcoekkhceaagreat", sum := "a7f4900b3b53a65500660e9dbfd8c1b5e24e531769fd894fc050e6ca02a02b37", func := "concordat/concordatlaw15.AlphasStrict", spec := "alphasStrict", inPlace := ["slices.overlaps[concordat/api.Row]"], unfollowed := true, recurses := true, apart := false }
def AlphasStrictSaid : Prop := alphasStrictRow.holds Tryz.pinned (OpenSpec.ofChange alphasStrictSpec)

/-- ITS FALSE NEIGHBOUR: 'it returns false'. Refute it at one input. -/
def alphasStrictWrong : ChangeSpec := { name := "alphasStrict", fn := fun _ => fun
  | [d] => { results := [.lit (.bool false)], args := [d] }
  | _ => none }
def AlphasStrictWrongFalsely : Prop := alphasStrictRow.holds Tryz.pinned (OpenSpec.ofChange alphasStrictWrong)

/-- 'concordatlaw16.BetasSerial': WHATEVER THE INPUT: true; the input reads as it did. -/
def betasSerialSpec : ChangeSpec := { name := "betasSerial", fn := fun _ => fun
  | [d] => { results := [.lit (.bool true)], args := [d] }
  | _ => none }
def betasSerialRow : OpenClaim := { program := "ytdpmpcoekkhceaagreat", sum := "a7f4900b3b53a65500660e9dbfd8c1b5e24e531769fd894fc050e6ca02a02b37", func := "concordat/concordatlaw16.BetasSerial", spec := "betasSerial", inPlace := ["slices.overlaps[concordat/api.Row]"], unfollowed := true, recurses := true, apart := false }
def BetasSerialSaid : Prop := betasSerialRow.holds Tryz.pinned (OpenSpec.ofChange betasSerialSpec)

/-- ITS FALSE NEIGHBOUR: 'it returns false'. Refute it at one input. -/
def betasSerialWrong : ChangeSpec := { name := "betasSerial", fn := fun _ => fun
  | [d] => { results := [.lit (.bool false)], args := [d] }
  | _ => none }
def BetasSerialWrongFalsely : Prop := betasSerialRow.holds Tryz.pinned (OpenSpec.ofChange betasSerialWrong)

/-- 'concordatlaw16.BetasSame': WHATEVER THE INPUT: true; the input reads as it did. -/
def betasSameSpec : ChangeSpec := { name := "betasSame", fn := fun _ => fun
  | [d1, d2, d3] => { results := [.lit (.bool true)], args := [d1, d2, d3] }
  | _ => none }
def betasSameRow : OpenClaim := { program := "ytdpmpcoekkhceaagreat", sum := "a7f4900b3b53a65500660e9dbfd8c1b5e24e531769fd894fc050e6ca02a02b37", func := "concordat/concordatlaw16.BetasSame", spec := "betasSame", inPlace := ["slices.overlaps[concordat/api.Row]"], unfollowed := true, recurses := true, apart := false }
def BetasSameSaid : Prop := betasSameRow.holds Tryz.pinned (OpenSpec.ofChange betasSameSpec)

/-- ITS FALSE NEIGHBOUR: 'it returns false'. Refute it at one input. -/
def betasSameWrong : ChangeSpec := { name := "betasSame", fn := fun _ => fun
  | [d1, d2, d3] => { results := [.lit (.bool false)], args := [d1, d2, d3] }
  | _ => none }
def BetasSameWrongFalsely : Prop := betasSameRow.holds Tryz.pinned (OpenSpec.ofChange betasSameWrong)

/-- 'concordatlaw16.BetasAlone': WHATEVER THE INPUT: true; the input reads as it did. -/
def betasAloneSpec : ChangeSpec := { name := "betasAlone", fn := fun _ => fun
  | [d1, d2, d3] => { results := [.lit (.bool true)], args := [d1, d2, d3] }
  | _ => none }
def betasAloneRow : OpenClaim := { program := "ytdpmpcoekkhceaagreat", sum := "a7f4900b3b53a65500660e9dbfd8c1b5e24e531769fd894fc050e6ca02a02b37", func := "concordat/concordatlaw16.BetasAlone", spec := "betasAlone", inPlace := ["slices.overlaps[concordat/api.Row]"], unfollowed := true, recurses := true, apart := false }
def BetasAloneSaid : Prop := betasAloneRow.holds Tryz.pinned (OpenSpec.ofChange betasAloneSpec)

/-- ITS FALSE NEIGHBOUR: 'it returns false'. Refute it at one input. -/
def betasAloneWrong : ChangeSpec := { name := "betasAlone", fn := fun _ => fun
  | [d1, d2, d3] => { results := [.lit (.bool false)], args := [d1, d2, d3] }
  | _ => none }
def BetasAloneWrongFalsely : Prop := betasAloneRow.holds Tryz.pinned (OpenSpec.ofChange betasAloneWrong)

/-- 'concordatlaw15.AlphasSerial': WHATEVER THE INPUT: true; the input reads as it did. -/
def alphasSerialSpec : ChangeSpec := { name := "alphasSerial", fn := fun _ => fun
  | [d] => { results := [.lit (.bool true)], args := [d] }
  | _ => none }
def alphasSerialRow : OpenClaim := { program := "ytdpmpcoekkhceaagreat", sum := "a7f4900b3b53a65500660e9dbfd8c1b5e24e531769fd894fc050e6ca02a02b37", func := "concordat/concordatlaw15.AlphasSerial", spec := "alphasSerial", inPlace := ["slices.overlaps[concordat/api.Row]"], unfollowed := true, recurses := true, apart := false }
def AlphasSerialSaid : Prop := alphasSerialRow.holds Tryz.pinned (OpenSpec.ofChange alphasSerialSpec)

/-- ITS FALSE NEIGHBOUR: 'it returns false'. Refute it at one input. -/
def alphasSerialWrong : ChangeSpec := { name := "alphasSerial", fn := fun _ => fun
  | [d] => { results := [.lit (.bool false)], args := [d] }
  | _ => none }
def AlphasSerialWrongFalsely : Prop := alphasSerialRow.holds Tryz.pinned (OpenSpec.ofChange alphasSerialWrong)

/-- 'concordatlaw15.AlphasAlone': WHATEVER THE INPUT: true; the input reads as it did. -/
def alphasAloneSpec : ChangeSpec := { name := "alphasAlone", fn := fun _ => fun
  | [d1, d2, d3] => { results := [.lit (.bool true)], args := [d1, d2, d3] }
  | _ => none }
def alphasAloneRow : OpenClaim := { program := "ytdpmpcoekkhceaagreat", sum := "a7f4900b3b53a65500660e9dbfd8c1b5e24e531769fd894fc050e6ca02a02b37", func := "concordat/concordatlaw15.AlphasAlone", spec := "alphasAlone", inPlace := ["slices.overlaps[concordat/api.Row]"], unfollowed := true, recurses := true, apart := false }
def AlphasAloneSaid : Prop := alphasAloneRow.holds Tryz.pinned (OpenSpec.ofChange alphasAloneSpec)

/-- ITS FALSE NEIGHBOUR: 'it returns false'. Refute it at one input. -/
def alphasAloneWrong : ChangeSpec := { name := "alphasAlone", fn := fun _ => fun
  | [d1, d2, d3] => { results := [.lit (.bool false)], args := [d1, d2, d3] }
  | _ => none }
def AlphasAloneWrongFalsely : Prop := alphasAloneRow.holds Tryz.pinned (OpenSpec.ofChange alphasAloneWrong)

/-- 'concordatlaw15.AlphasRing': WHATEVER THE INPUT: true; the input reads as it did. -/
def alphasRingSpec : ChangeSpec := { name := "alphasRing", fn := fun _ => fun
  | [d] => { results := [.lit (.bool true)], args := [d] }
  | _ => none }
def alphasRingRow : OpenClaim := { program := "ytdpmpcoekkhceaagreat", sum := "a7f4900b3b53a65500660e9dbfd8c1b5e24e531769fd894fc050e6ca02a02b37", func := "concordat/concordatlaw15.AlphasRing", spec := "alphasRing", inPlace := ["slices.overlaps[concordat/api.Row]"], unfollowed := true, recurses := true, apart := false }
def AlphasRingSaid : Prop := alphasRingRow.holds Tryz.pinned (OpenSpec.ofChange alphasRingSpec)

/-- ITS FALSE NEIGHBOUR: 'it returns false'. Refute it at one input. -/
def alphasRingWrong : ChangeSpec := { name := "alphasRing", fn := fun _ => fun
  | [d] => { results := [.lit (.bool false)], args := [d] }
  | _ => none }
def AlphasRingWrongFalsely : Prop := alphasRingRow.holds Tryz.pinned (OpenSpec.ofChange alphasRingWrong)

/-- 'concordatlaw15.AlphasSure': WHATEVER THE INPUT: true; the input reads as it did. -/
def alphasSureSpec : ChangeSpec := { name := "alphasSure", fn := fun _ => fun
  | [d1, d2, d3] => { results := [.lit (.bool true)], args := [d1, d2, d3] }
  | _ => none }
def alphasSureRow : OpenClaim := { program := "ytdpmpcoekkhceaagreat", sum := "a7f4900b3b53a65500660e9dbfd8c1b5e24e531769fd894fc050e6ca02a02b37", func := "concordat/concordatlaw15.AlphasSure", spec := "alphasSure", inPlace := ["slices.overlaps[concordat/api.Row]"], unfollowed := true, recurses := true, apart := false }
def AlphasSureSaid : Prop := alphasSureRow.holds Tryz.pinned (OpenSpec.ofChange alphasSureSpec)

/-- ITS FALSE NEIGHBOUR: 'it returns false'. Refute it at one input. -/
def alphasSureWrong : ChangeSpec := { name := "alphasSure", fn := fun _ => fun
  | [d1, d2, d3] => { results := [.lit (.bool false)], args := [d1, d2, d3] }
  | _ => none }
def AlphasSureWrongFalsely : Prop := alphasSureRow.holds Tryz.pinned (OpenSpec.ofChange alphasSureWrong)

/-- 'concordatlaw16.BetasNever': WHATEVER THE INPUT: true; the input reads as it did. -/
def betasNeverSpec : ChangeSpec := { name := "betasNever", fn := fun _ => fun
  | [d] => { results := [.lit (.bool true)], args := [d] }
  | _ => none }
def betasNeverRow : OpenClaim := { program := "ytdpmpcoekkhceaagreat", sum := "a7f4900b3b53a65500660e9dbfd8c1b5e24e531769fd894fc050e6ca02a02b37", func := "concordat/concordatlaw16.BetasNever", spec := "betasNever", inPlace := ["slices.overlaps[concordat/api.Row]"], unfollowed := true, recurses := true, apart := false }
def BetasNeverSaid : Prop := betasNeverRow.holds Tryz.pinned (OpenSpec.ofChange betasNeverSpec)

/-- ITS FALSE NEIGHBOUR: 'it returns false'. Refute it at one input. -/
def betasNeverWrong : ChangeSpec := { name := "betasNever", fn := fun _ => fun
  | [d] => { results := [.lit (.bool false)], args := [d] }
  | _ => none }
def BetasNeverWrongFalsely : Prop := betasNeverRow.holds Tryz.pinned (OpenSpec.ofChange betasNeverWrong)

/-- 'concordatlaw16.BetasSure': WHATEVER THE INPUT: true; the input reads as it did. -/
def betasSureSpec : ChangeSpec := { name := "betasSure", fn := fun _ => fun
  | [d1, d2, d3] => { results := [.lit (.bool true)], args := [d1, d2, d3] }
  | _ => none }
def betasSureRow : OpenClaim := { program := "ytdpmpcoekkhceaagreat", sum := "a7f4900b3b53a65500660e9dbfd8c1b5e24e531769fd894fc050e6ca02a02b37", func := "concordat/concordatlaw16.BetasSure", spec := "betasSure", inPlace := ["slices.overlaps[concordat/api.Row]"], unfollowed := true, recurses := true, apart := false }
def BetasSureSaid : Prop := betasSureRow.holds Tryz.pinned (OpenSpec.ofChange betasSureSpec)

/-- ITS FALSE NEIGHBOUR: 'it returns false'. Refute it at one input. -/
def betasSureWrong : ChangeSpec := { name := "betasSure", fn := fun _ => fun
  | [d1, d2, d3] => { results := [.lit (.bool false)], args := [d1, d2, d3] }
  | _ => none }
def BetasSureWrongFalsely : Prop := betasSureRow.holds Tryz.pinned (OpenSpec.ofChange betasSureWrong)

/- THE SECOND FORM. 'bulk': how many values and letters a reading holds, each counted each time it is reached (what is shared counts as often as it is met; a slice's spare places count too). A statement '..UptoSaid' is the law's where the arguments, and the package variables that the reading takes, are together of bulk at most 1048576: NARROWER than '..Said'. Prove '..Said' where nothing that the law and all that it calls make is longer than what came in: it says more and counts as full. Else prove '..UptoSaid'. A law counts once. -/
mutual
def uptoBulk {H : Type} : DataW H → Nat
  | .lit (.string bytes) => bytes.length + 1
  | .lit _ => 1
  | .nil => 1
  | .ptr d => uptoBulk d + 1
  | .slice elems spare => uptoBulkAll elems + uptoBulkAll spare + 1
  | .agg parts => uptoBulkAll parts + 1
  | .iface _ d => uptoBulk d + 1
  | .map entries => uptoBulkEntries entries + 1
  | .held _ => 1
def uptoBulkAll {H : Type} : List (DataW H) → Nat
  | [] => 0
  | d :: r => uptoBulk d + uptoBulkAll r
def uptoBulkEntries {H : Type} : List (Lit × DataW H) → Nat
  | [] => 0
  | x :: r => uptoBulkEntry x + uptoBulkEntries r
def uptoBulkEntry {H : Type} : Lit × DataW H → Nat
  | (.string bytes, d) => bytes.length + uptoBulk d + 1
  | (_, d) => uptoBulk d + 1
 end
def uptoSmall : (H : Type) → List (DataW H) → Bool := fun _ ds => decide (uptoBulkAll ds ≤ 1048576)
def OpenSpec.upto (s : _root_.Go.ChangeSpec) : _root_.Go.OpenSpec := { _root_.Go.OpenSpec.ofChange s with cond := some uptoSmall }

/-- 'concordatlaw16.BetasFirst', WHERE WHAT IT READS IS OF BULK AT MOST 1048576: true; the input reads as it did. -/
def betasFirstUptoRow : OpenClaim := { program := "ytdpmpcoekkhceaagreat", sum := "a7f4900b3b53a65500660e9dbfd8c1b5e24e531769fd894fc050e6ca02a02b37", func := "concordat/concordatlaw16.BetasFirst", spec := "betasFirst", inPlace := ["slices.overlaps[concordat/api.Row]"], unfollowed := true, recurses := true, apart := false, narrowed := true }
def BetasFirstUptoSaid : Prop := betasFirstUptoRow.holds Tryz.pinned (OpenSpec.upto betasFirstSpec)

/-- 'concordatlaw15.AlphasStrict', WHERE WHAT IT READS IS OF BULK AT MOST 1048576: true; the input reads as it did. -/
def alphasStrictUptoRow : OpenClaim := { program := "ytdpmpcoekkhceaagreat", sum := "a7f4900b3b53a65500660e9dbfd8c1b5e24e531769fd894fc050e6ca02a02b37", func := "concordat/concordatlaw15.AlphasStrict", spec := "alphasStrict", inPlace := ["slices.overlaps[concordat/api.Row]"], unfollowed := true, recurses := true, apart := false, narrowed := true }
def AlphasStrictUptoSaid : Prop := alphasStrictUptoRow.holds Tryz.pinned (OpenSpec.upto alphasStrictSpec)

/-- 'concordatlaw16.BetasSerial', WHERE WHAT IT READS IS OF BULK AT MOST 1048576: true; the input reads as it did. -/
def betasSerialUptoRow : OpenClaim := { program := "ytdpmpcoekkhceaagreat", sum := "a7f4900b3b53a65500660e9dbfd8c1b5e24e531769fd894fc050e6ca02a02b37", func := "concordat/concordatlaw16.BetasSerial", spec := "betasSerial", inPlace := ["slices.overlaps[concordat/api.Row]"], unfollowed := true, recurses := true, apart := false, narrowed := true }
def BetasSerialUptoSaid : Prop := betasSerialUptoRow.holds Tryz.pinned (OpenSpec.upto betasSerialSpec)

/-- 'concordatlaw16.BetasSame', WHERE WHAT IT READS IS OF BULK AT MOST 1048576: true; the input reads as it did. -/
def betasSameUptoRow : OpenClaim := { program := "ytdpmpcoekkhceaagreat", sum := "a7f4900b3b53a65500660e9dbfd8c1b5e24e531769fd894fc050e6ca02a02b37", func := "concordat/concordatlaw16.BetasSame", spec := "betasSame", inPlace := ["slices.overlaps[concordat/api.Row]"], unfollowed := true, recurses := true, apart := false, narrowed := true }
def BetasSameUptoSaid : Prop := betasSameUptoRow.holds Tryz.pinned (OpenSpec.upto betasSameSpec)

/-- 'concordatlaw16.BetasAlone', WHERE WHAT IT READS IS OF BULK AT MOST 1048576: true; the input reads as it did. -/
def betasAloneUptoRow : OpenClaim := { program := "ytdpmpcoekkhceaagreat", sum := "a7f4900b3b53a65500660e9dbfd8c1b5e24e531769fd894fc050e6ca02a02b37", func := "concordat/concordatlaw16.BetasAlone", spec := "betasAlone", inPlace := ["slices.overlaps[concordat/api.Row]"], unfollowed := true, recurses := true, apart := false, narrowed := true }
def BetasAloneUptoSaid : Prop := betasAloneUptoRow.holds Tryz.pinned (OpenSpec.upto betasAloneSpec)

/-- 'concordatlaw15.AlphasSerial', WHERE WHAT IT READS IS OF BULK AT MOST 1048576: true; the input reads as it did. -/
def alphasSerialUptoRow : OpenClaim := { program := "ytdpmpcoekkhceaagreat", sum := "a7f4900b3b53a65500660e9dbfd8c1b5e24e531769fd894fc050e6ca02a02b37", func := "concordat/concordatlaw15.AlphasSerial", spec := "alphasSerial", inPlace := ["slices.overlaps[concordat/api.Row]"], unfollowed := true, recurses := true, apart := false, narrowed := true }
def AlphasSerialUptoSaid : Prop := alphasSerialUptoRow.holds Tryz.pinned (OpenSpec.upto alphasSerialSpec)

/-- 'concordatlaw15.AlphasAlone', WHERE WHAT IT READS IS OF BULK AT MOST 1048576: true; the input reads as it did. -/
def alphasAloneUptoRow : OpenClaim := { program := "ytdpmpcoekkhceaagreat", sum := "a7f4900b3b53a65500660e9dbfd8c1b5e24e531769fd894fc050e6ca02a02b37", func := "concordat/concordatlaw15.AlphasAlone", spec := "alphasAlone", inPlace := ["slices.overlaps[concordat/api.Row]"], unfollowed := true, recurses := true, apart := false, narrowed := true }
def AlphasAloneUptoSaid : Prop := alphasAloneUptoRow.holds Tryz.pinned (OpenSpec.upto alphasAloneSpec)

/-- 'concordatlaw15.AlphasRing', WHERE WHAT IT READS IS OF BULK AT MOST 1048576: true; the input reads as it did. -/
def alphasRingUptoRow : OpenClaim := { program := "ytdpmpcoekkhceaagreat", sum := "a7f4900b3b53a65500660e9dbfd8c1b5e24e531769fd894fc050e6ca02a02b37", func := "concordat/concordatlaw15.AlphasRing", spec := "alphasRing", inPlace := ["slices.overlaps[concordat/api.Row]"], unfollowed := true, recurses := true, apart := false, narrowed := true }
def AlphasRingUptoSaid : Prop := alphasRingUptoRow.holds Tryz.pinned (OpenSpec.upto alphasRingSpec)

/-- 'concordatlaw15.AlphasSure', WHERE WHAT IT READS IS OF BULK AT MOST 1048576: true; the input reads as it did. -/
def alphasSureUptoRow : OpenClaim := { program := "ytdpmpcoekkhceaagreat", sum := "a7f4900b3b53a65500660e9dbfd8c1b5e24e531769fd894fc050e6ca02a02b37", func := "concordat/concordatlaw15.AlphasSure", spec := "alphasSure", inPlace := ["slices.overlaps[concordat/api.Row]"], unfollowed := true, recurses := true, apart := false, narrowed := true }
def AlphasSureUptoSaid : Prop := alphasSureUptoRow.holds Tryz.pinned (OpenSpec.upto alphasSureSpec)

/-- 'concordatlaw16.BetasNever', WHERE WHAT IT READS IS OF BULK AT MOST 1048576: true; the input reads as it did. -/
def betasNeverUptoRow : OpenClaim := { program := "ytdpmpcoekkhceaagreat", sum := "a7f4900b3b53a65500660e9dbfd8c1b5e24e531769fd894fc050e6ca02a02b37", func := "concordat/concordatlaw16.BetasNever", spec := "betasNever", inPlace := ["slices.overlaps[concordat/api.Row]"], unfollowed := true, recurses := true, apart := false, narrowed := true }
def BetasNeverUptoSaid : Prop := betasNeverUptoRow.holds Tryz.pinned (OpenSpec.upto betasNeverSpec)

/-- 'concordatlaw16.BetasSure', WHERE WHAT IT READS IS OF BULK AT MOST 1048576: true; the input reads as it did. -/
def betasSureUptoRow : OpenClaim := { program := "ytdpmpcoekkhceaagreat", sum := "a7f4900b3b53a65500660e9dbfd8c1b5e24e531769fd894fc050e6ca02a02b37", func := "concordat/concordatlaw16.BetasSure", spec := "betasSure", inPlace := ["slices.overlaps[concordat/api.Row]"], unfollowed := true, recurses := true, apart := false, narrowed := true }
def BetasSureUptoSaid : Prop := betasSureUptoRow.holds Tryz.pinned (OpenSpec.upto betasSureSpec)

end Rows
end Go.Proofs.YtdpmpcoekkhceaaGreat
