/-
  No cell of these rows narrows 'for every input' (looked for: loops, veiled, ifaces, maps, wideKeys, modest, calm, conditions, laid).
  DERIVED. THE GIVEN ROWS OF THIS SEAT. 4 by the template 'for every input the law returns true; each argument reads behind the call as it read before'; 0 by the template 'total and deterministic' (their statements: YtegjbklnhiionaaGreatTotals.lean).
  GIVEN WITH THE SEED: the statements are not yours to turn. If you find one false, say at which input.
  Laid BY PROGRAM, IN A SANDBOX (cutbox-rows.mjs): the forced cells as the released guide's own fill.sh prints them over the translation 47fee963259336a5… (all of the seat's roots in one cut). By AI agents, Wed Nov 11 2026. No macro, syntax, notation, axiom, sorry.
-/
import Derived.Test.YtegjbklnhiionaaGreatChecked
import GoSem.Claim
import GoSem.ClaimJoined
import GoSem.ClaimMapViews
import Derived.JoinedTies
import Derived.KernelRfl
namespace Go.Proofs.YtegjbklnhiionaaGreat
/- THE CELL 'sum', in the pinned program and in every row, IS THE sha256 OF THE DUMP (.gsa) THAT YtegjbklnhiionaaGreatProg.lean LOADS. Nothing in Lean hashes anything: it is a label: what it is worth is what the hold of that sum in a sandbox is worth. -/
noncomputable def Tryz.pinned : Pinned := { name := "ytegjbklnhiionaagreat", sum := "47fee963259336a575f123db682b07dfad1b4ee267d076679ee8775115930ab7", checked := Tryz.checked }
namespace Rows
def none {H : Type} : Left H := { results := [], args := [] }

/-- 'concordatlaw18.SitesBound': WHATEVER THE INPUT: true; the input reads as it did. -/
def sitesBoundSpec : ChangeSpec := { name := "sitesBound", fn := fun _ => fun
  | [d] => { results := [.lit (.bool true)], args := [d] }
  | _ => none }
def sitesBoundRow : OpenClaim := { program := "ytegjbklnhiionaagreat", sum := "47fee963259336a575f123db682b07dfad1b4ee267d076679ee8775115930ab7", func := "concordat/concordatlaw18.SitesBound", spec := "sitesBound", inPlace := ["slices.overlaps[concordat/api.Row]"], unfollowed := true, recurses := true, apart := false }
def SitesBoundSaid : Prop := sitesBoundRow.holds Tryz.pinned (OpenSpec.ofChange sitesBoundSpec)

/-- ITS FALSE NEIGHBOUR: 'it returns false'. Refute it at one input. -/
def sitesBoundWrong : ChangeSpec := { name := "sitesBound", fn := fun _ => fun
  | [d] => { results := [.lit (.bool false)], args := [d] }
  | _ => none }
def SitesBoundWrongFalsely : Prop := sitesBoundRow.holds Tryz.pinned (OpenSpec.ofChange sitesBoundWrong)

/-- 'concordatlaw18.SitesTouched': WHATEVER THE INPUT: true; the input reads as it did. -/
def sitesTouchedSpec : ChangeSpec := { name := "sitesTouched", fn := fun _ => fun
  | [d] => { results := [.lit (.bool true)], args := [d] }
  | _ => none }
def sitesTouchedRow : OpenClaim := { program := "ytegjbklnhiionaagreat", sum := "47fee963259336a575f123db682b07dfad1b4ee267d076679ee8775115930ab7", func := "concordat/concordatlaw18.SitesTouched", spec := "sitesTouched", inPlace := ["slices.overlaps[concordat/api.Row]"], unfollowed := true, recurses := true, apart := false }
def SitesTouchedSaid : Prop := sitesTouchedRow.holds Tryz.pinned (OpenSpec.ofChange sitesTouchedSpec)

/-- ITS FALSE NEIGHBOUR: 'it returns false'. Refute it at one input. -/
def sitesTouchedWrong : ChangeSpec := { name := "sitesTouched", fn := fun _ => fun
  | [d] => { results := [.lit (.bool false)], args := [d] }
  | _ => none }
def SitesTouchedWrongFalsely : Prop := sitesTouchedRow.holds Tryz.pinned (OpenSpec.ofChange sitesTouchedWrong)

/-- 'concordatlaw18.SitesAlike': WHATEVER THE INPUT: true; the input reads as it did. -/
def sitesAlikeSpec : ChangeSpec := { name := "sitesAlike", fn := fun _ => fun
  | [d1, d2] => { results := [.lit (.bool true)], args := [d1, d2] }
  | _ => none }
def sitesAlikeRow : OpenClaim := { program := "ytegjbklnhiionaagreat", sum := "47fee963259336a575f123db682b07dfad1b4ee267d076679ee8775115930ab7", func := "concordat/concordatlaw18.SitesAlike", spec := "sitesAlike", inPlace := ["slices.overlaps[concordat/api.Row]"], unfollowed := true, recurses := true, apart := false }
def SitesAlikeSaid : Prop := sitesAlikeRow.holds Tryz.pinned (OpenSpec.ofChange sitesAlikeSpec)

/-- ITS FALSE NEIGHBOUR: 'it returns false'. Refute it at one input. -/
def sitesAlikeWrong : ChangeSpec := { name := "sitesAlike", fn := fun _ => fun
  | [d1, d2] => { results := [.lit (.bool false)], args := [d1, d2] }
  | _ => none }
def SitesAlikeWrongFalsely : Prop := sitesAlikeRow.holds Tryz.pinned (OpenSpec.ofChange sitesAlikeWrong)

/-- 'concordatlaw18.SitesApart': WHATEVER THE INPUT: true; the input reads as it did. -/
def sitesApartSpec : ChangeSpec := { name := "sitesApart", fn := fun _ => fun
  | [d1, d2] => { results := [.lit (.bool true)], args := [d1, d2] }
  | _ => none }
def sitesApartRow : OpenClaim := { program := "ytegjbklnhiionaagreat", sum := "47fee963259336a575f123db682b07dfad1b4ee267d076679ee8775115930ab7", func := "concordat/concordatlaw18.SitesApart", spec := "sitesApart", inPlace := ["slices.overlaps[concordat/api.Row]"], unfollowed := true, recurses := true, apart := false }
def SitesApartSaid : Prop := sitesApartRow.holds Tryz.pinned (OpenSpec.ofChange sitesApartSpec)

/-- ITS FALSE NEIGHBOUR: 'it returns false'. Refute it at one input. -/
def sitesApartWrong : ChangeSpec := { name := "sitesApart", fn := fun _ => fun
  | [d1, d2] => { results := [.lit (.bool false)], args := [d1, d2] }
  | _ => none }
def SitesApartWrongFalsely : Prop := sitesApartRow.holds Tryz.pinned (OpenSpec.ofChange sitesApartWrong)

/- THE SECOND FORM. 'bulk': how many values and letters a reading holds, each counted each time it is reached (what is shared counts as often as it is met; a slice's spare places count too). A statement '..UptoSaid' is the law's where the arguments, and the package variables that the reading takes, are together of bulk at most 1048576: NARROWER than '..Said'. Prove '..Said' where nothing that the law and all that it calls make is longer than what came in: it says more and counts as full. Else prove '..UptoSaid'. A law counts once. -/
mutual
def uptoBulk {H : Type} : DataW H → Nat
  | .lit (.string bytes) => bytes.length + 1
  | .lit _ => 1
  | .nil => 1
  | .ptr d => uptoBulk d + 1
  | .slice elems spare => uptoBulkAll elems + uptoBulkAll spare + 1
  | .agg parts => uptoBulkAll parts + 1
  | .iface _ d => uptoBulk d + 1
  | .map entries => uptoBulkEntries entries + 1
  | .held _ => 1
def uptoBulkAll {H : Type} : List (DataW H) → Nat
  | [] => 0
  | d :: r => uptoBulk d + uptoBulkAll r
def uptoBulkEntries {H : Type} : List (Lit × DataW H) → Nat
  | [] => 0
  | x :: r => uptoBulkEntry x + uptoBulkEntries r
def uptoBulkEntry {H : Type} : Lit × DataW H → Nat
  | (.string bytes, d) => bytes.length + uptoBulk d + 1
  | (_, d) => uptoBulk d + 1
 end
def uptoSmall : (H : Type) → List (DataW H) → Bool := fun _ ds => decide (uptoBulkAll ds ≤ 1048576)
def OpenSpec.upto (s : _root_.Go.ChangeSpec) : _root_.Go.OpenSpec := { _root_.Go.OpenSpec.ofChange s with cond := some uptoSmall }

/-- 'concordatlaw18.SitesBound', WHERE WHAT IT READS IS OF BULK AT MOST 1048576: true; the input reads as it did. -/
def sitesBoundUptoRow : OpenClaim := { program := "ytegjbklnhiionaagreat", sum := "47fee963259336a575f123db682b07dfad1b4ee267d076679ee8775115930ab7", func := "concordat/concordatlaw18.SitesBound", spec := "sitesBound", inPlace := ["slices.overlaps[concordat/api.Row]"], unfollowed := true, recurses := true, apart := false, narrowed := true }
def SitesBoundUptoSaid : Prop := sitesBoundUptoRow.holds Tryz.pinned (OpenSpec.upto sitesBoundSpec)

/-- 'concordatlaw18.SitesTouched', WHERE WHAT IT READS IS OF BULK AT MOST 1048576: true; the input reads as it did. -/
def sitesTouchedUptoRow : OpenClaim := { program := "ytegjbklnhiionaagreat", sum := "47fee963259336a575f123db682b07dfad1b4ee267d076679ee8775115930ab7", func := "concordat/concordatlaw18.SitesTouched", spec := "sitesTouched", inPlace := ["slices.overlaps[concordat/api.Row]"], unfollowed := true, recurses := true, apart := false, narrowed := true }
def SitesTouchedUptoSaid : Prop := sitesTouchedUptoRow.holds Tryz.pinned (OpenSpec.upto sitesTouchedSpec)

/-- 'concordatlaw18.SitesAlike', WHERE WHAT IT READS IS OF BULK AT MOST 1048576: true; the input reads as it did. -/
def sitesAlikeUptoRow : OpenClaim := { program := "ytegjbklnhiionaagreat", sum := "47fee963259336a575f123db682b07dfad1b4ee267d076679ee8775115930ab7", func := "concordat/concordatlaw18.SitesAlike", spec := "sitesAlike", inPlace := ["slices.overlaps[concordat/api.Row]"], unfollowed := true, recurses := true, apart := false, narrowed := true }
def SitesAlikeUptoSaid : Prop := sitesAlikeUptoRow.holds Tryz.pinned (OpenSpec.upto sitesAlikeSpec)

/-- 'concordatlaw18.SitesApart', WHERE WHAT IT READS IS OF BULK AT MOST 1048576: true; the input reads as it did. -/
def sitesApartUptoRow : OpenClaim := { program := "ytegjbklnhiionaagreat", sum := "47fee963259336a575f123db682b07dfad1b4ee267d076679ee8775115930ab7", func := "concordat/concordatlaw18.SitesApart", spec := "sitesApart", inPlace := ["slices.overlaps[concordat/api.Row]"], unfollowed := true, recurses := true, apart := false, narrowed := true }
def SitesApartUptoSaid : Prop := sitesApartUptoRow.holds Tryz.pinned (OpenSpec.upto sitesApartSpec)

end Rows
end Go.Proofs.YtegjbklnhiionaaGreat
