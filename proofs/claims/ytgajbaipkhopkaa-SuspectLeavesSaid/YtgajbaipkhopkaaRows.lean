/-
  No cell of these rows narrows 'for every input' (looked for: loops, veiled, ifaces, maps, wideKeys, modest, calm, conditions, laid).
  DERIVED. THE GIVEN ROWS OF THIS SEAT. 5 by the template 'for every input the law returns true; each argument reads behind the call as it read before'; 0 by the template 'total and deterministic' (their statements: YtgajbaipkhopkaaTotals.lean).
  GIVEN WITH THE SEED: the statements are not yours to turn. If you find one false, say at which input.
  Laid BY PROGRAM, IN A SANDBOX (cutbox-rows.mjs): the forced cells as the released guide's own fill.sh prints them over the translation 4e7448e937958e1e… (all of the seat's roots in one cut). By AI agents, Wed Nov 11 2026. No macro, syntax, notation, axiom, sorry.
-/
import Derived.Test.YtgajbaipkhopkaaChecked
import GoSem.Claim
import GoSem.ClaimJoined
import GoSem.ClaimMapViews
import Derived.JoinedTies
import Derived.KernelRfl
namespace Go.Proofs.Ytgajbaipkhopkaa
/- THE CELL 'sum', in the pinned program and in every row, IS THE sha256 OF THE DUMP (.gsa) THAT YtgajbaipkhopkaaProg.lean LOADS. Nothing in Lean hashes anything: it is a label: what it is worth is what the hold of that sum in a sandbox is worth. -/
noncomputable def Try.pinned : Pinned := { name := "ytgajbaipkhopkaa", sum := "4e7448e937958e1e3183dcb2d7a27bdb6cb780fb8955cb1a6f9893db9e026aec", checked := Try.checked }
namespace Rows
def none {H : Type} : Left H := { results := [], args := [] }

/-- 'antiphonlaw18.SuspectLeaves': WHATEVER THE INPUT: true; the input reads as it did. -/
def suspectLeavesSpec : ChangeSpec := { name := "suspectLeaves", fn := fun _ => fun
  | [d1, d2, d3] => { results := [.lit (.bool true)], args := [d1, d2, d3] }
  | _ => none }
def suspectLeavesRow : OpenClaim := { program := "ytgajbaipkhopkaa", sum := "4e7448e937958e1e3183dcb2d7a27bdb6cb780fb8955cb1a6f9893db9e026aec", func := "antiphon/antiphonlaw18.SuspectLeaves", spec := "suspectLeaves", unfollowed := true, recurses := true, apart := false }
def SuspectLeavesSaid : Prop := suspectLeavesRow.holds Try.pinned (OpenSpec.ofChange suspectLeavesSpec)

/-- ITS FALSE NEIGHBOUR: 'it returns false'. Refute it at one input. -/
def suspectLeavesWrong : ChangeSpec := { name := "suspectLeaves", fn := fun _ => fun
  | [d1, d2, d3] => { results := [.lit (.bool false)], args := [d1, d2, d3] }
  | _ => none }
def SuspectLeavesWrongFalsely : Prop := suspectLeavesRow.holds Try.pinned (OpenSpec.ofChange suspectLeavesWrong)

/-- 'antiphonlaw18.SuspectTrusts': WHATEVER THE INPUT: true; the input reads as it did. -/
def suspectTrustsSpec : ChangeSpec := { name := "suspectTrusts", fn := fun _ => fun
  | [d1, d2, d3, d4, d5, d6] => { results := [.lit (.bool true)], args := [d1, d2, d3, d4, d5, d6] }
  | _ => none }
def suspectTrustsRow : OpenClaim := { program := "ytgajbaipkhopkaa", sum := "4e7448e937958e1e3183dcb2d7a27bdb6cb780fb8955cb1a6f9893db9e026aec", func := "antiphon/antiphonlaw18.SuspectTrusts", spec := "suspectTrusts", unfollowed := true, recurses := true, apart := false }
def SuspectTrustsSaid : Prop := suspectTrustsRow.holds Try.pinned (OpenSpec.ofChange suspectTrustsSpec)

/-- ITS FALSE NEIGHBOUR: 'it returns false'. Refute it at one input. -/
def suspectTrustsWrong : ChangeSpec := { name := "suspectTrusts", fn := fun _ => fun
  | [d1, d2, d3, d4, d5, d6] => { results := [.lit (.bool false)], args := [d1, d2, d3, d4, d5, d6] }
  | _ => none }
def SuspectTrustsWrongFalsely : Prop := suspectTrustsRow.holds Try.pinned (OpenSpec.ofChange suspectTrustsWrong)

/-- 'antiphonlaw18.SuspectEnds': WHATEVER THE INPUT: true; the input reads as it did. -/
def suspectEndsSpec : ChangeSpec := { name := "suspectEnds", fn := fun _ => fun
  | [d1, d2, d3, d4, d5, d6] => { results := [.lit (.bool true)], args := [d1, d2, d3, d4, d5, d6] }
  | _ => none }
def suspectEndsRow : OpenClaim := { program := "ytgajbaipkhopkaa", sum := "4e7448e937958e1e3183dcb2d7a27bdb6cb780fb8955cb1a6f9893db9e026aec", func := "antiphon/antiphonlaw18.SuspectEnds", spec := "suspectEnds", unfollowed := true, recurses := true, apart := false }
def SuspectEndsSaid : Prop := suspectEndsRow.holds Try.pinned (OpenSpec.ofChange suspectEndsSpec)

/-- ITS FALSE NEIGHBOUR: 'it returns false'. Refute it at one input. -/
def suspectEndsWrong : ChangeSpec := { name := "suspectEnds", fn := fun _ => fun
  | [d1, d2, d3, d4, d5, d6] => { results := [.lit (.bool false)], args := [d1, d2, d3, d4, d5, d6] }
  | _ => none }
def SuspectEndsWrongFalsely : Prop := suspectEndsRow.holds Try.pinned (OpenSpec.ofChange suspectEndsWrong)

/-- 'antiphonlaw18.SuspectPlays': WHATEVER THE INPUT: true; the input reads as it did. -/
def suspectPlaysSpec : ChangeSpec := { name := "suspectPlays", fn := fun _ => fun
  | [d1, d2, d3, d4] => { results := [.lit (.bool true)], args := [d1, d2, d3, d4] }
  | _ => none }
def suspectPlaysRow : OpenClaim := { program := "ytgajbaipkhopkaa", sum := "4e7448e937958e1e3183dcb2d7a27bdb6cb780fb8955cb1a6f9893db9e026aec", func := "antiphon/antiphonlaw18.SuspectPlays", spec := "suspectPlays", unfollowed := true, recurses := true, apart := false }
def SuspectPlaysSaid : Prop := suspectPlaysRow.holds Try.pinned (OpenSpec.ofChange suspectPlaysSpec)

/-- ITS FALSE NEIGHBOUR: 'it returns false'. Refute it at one input. -/
def suspectPlaysWrong : ChangeSpec := { name := "suspectPlays", fn := fun _ => fun
  | [d1, d2, d3, d4] => { results := [.lit (.bool false)], args := [d1, d2, d3, d4] }
  | _ => none }
def SuspectPlaysWrongFalsely : Prop := suspectPlaysRow.holds Try.pinned (OpenSpec.ofChange suspectPlaysWrong)

/-- 'antiphonlaw18.SuspectCopies': WHATEVER THE INPUT: true; the input reads as it did. -/
def suspectCopiesSpec : ChangeSpec := { name := "suspectCopies", fn := fun _ => fun
  | [d1, d2, d3] => { results := [.lit (.bool true)], args := [d1, d2, d3] }
  | _ => none }
def suspectCopiesRow : OpenClaim := { program := "ytgajbaipkhopkaa", sum := "4e7448e937958e1e3183dcb2d7a27bdb6cb780fb8955cb1a6f9893db9e026aec", func := "antiphon/antiphonlaw18.SuspectCopies", spec := "suspectCopies", unfollowed := true, recurses := true, apart := false }
def SuspectCopiesSaid : Prop := suspectCopiesRow.holds Try.pinned (OpenSpec.ofChange suspectCopiesSpec)

/-- ITS FALSE NEIGHBOUR: 'it returns false'. Refute it at one input. -/
def suspectCopiesWrong : ChangeSpec := { name := "suspectCopies", fn := fun _ => fun
  | [d1, d2, d3] => { results := [.lit (.bool false)], args := [d1, d2, d3] }
  | _ => none }
def SuspectCopiesWrongFalsely : Prop := suspectCopiesRow.holds Try.pinned (OpenSpec.ofChange suspectCopiesWrong)

/- THE SECOND FORM. 'bulk': how many values and letters a reading holds, each counted each time it is reached (what is shared counts as often as it is met; a slice's spare places count too). A statement '..UptoSaid' is the law's where the arguments, and the package variables that the reading takes, are together of bulk at most 1048576: NARROWER than '..Said'. Prove '..Said' where nothing that the law and all that it calls make is longer than what came in: it says more and counts as full. Else prove '..UptoSaid'. A law counts once. -/
mutual
def uptoBulk {H : Type} : DataW H → Nat
  | .lit (.string bytes) => bytes.length + 1
  | .lit _ => 1
  | .nil => 1
  | .ptr d => uptoBulk d + 1
  | .slice elems spare => uptoBulkAll elems + uptoBulkAll spare + 1
  | .agg parts => uptoBulkAll parts + 1
  | .iface _ d => uptoBulk d + 1
  | .map entries => uptoBulkEntries entries + 1
  | .held _ => 1
def uptoBulkAll {H : Type} : List (DataW H) → Nat
  | [] => 0
  | d :: r => uptoBulk d + uptoBulkAll r
def uptoBulkEntries {H : Type} : List (Lit × DataW H) → Nat
  | [] => 0
  | x :: r => uptoBulkEntry x + uptoBulkEntries r
def uptoBulkEntry {H : Type} : Lit × DataW H → Nat
  | (.string bytes, d) => bytes.length + uptoBulk d + 1
  | (_, d) => uptoBulk d + 1
 end
def uptoSmall : (H : Type) → List (DataW H) → Bool := fun _ ds => decide (uptoBulkAll ds ≤ 1048576)
def OpenSpec.upto (s : _root_.Go.ChangeSpec) : _root_.Go.OpenSpec := { _root_.Go.OpenSpec.ofChange s with cond := some uptoSmall }

/-- 'antiphonlaw18.SuspectLeaves', WHERE WHAT IT READS IS OF BULK AT MOST 1048576: true; the input reads as it did. -/
def suspectLeavesUptoRow : OpenClaim := { program := "ytgajbaipkhopkaa", sum := "4e7448e937958e1e3183dcb2d7a27bdb6cb780fb8955cb1a6f9893db9e026aec", func := "antiphon/antiphonlaw18.SuspectLeaves", spec := "suspectLeaves", unfollowed := true, recurses := true, apart := false, narrowed := true }
def SuspectLeavesUptoSaid : Prop := suspectLeavesUptoRow.holds Try.pinned (OpenSpec.upto suspectLeavesSpec)

/-- 'antiphonlaw18.SuspectTrusts', WHERE WHAT IT READS IS OF BULK AT MOST 1048576: true; the input reads as it did. -/
def suspectTrustsUptoRow : OpenClaim := { program := "ytgajbaipkhopkaa", sum := "4e7448e937958e1e3183dcb2d7a27bdb6cb780fb8955cb1a6f9893db9e026aec", func := "antiphon/antiphonlaw18.SuspectTrusts", spec := "suspectTrusts", unfollowed := true, recurses := true, apart := false, narrowed := true }
def SuspectTrustsUptoSaid : Prop := suspectTrustsUptoRow.holds Try.pinned (OpenSpec.upto suspectTrustsSpec)

/-- 'antiphonlaw18.SuspectEnds', WHERE WHAT IT READS IS OF BULK AT MOST 1048576: true; the input reads as it did. -/
def suspectEndsUptoRow : OpenClaim := { program := "ytgajbaipkhopkaa", sum := "4e7448e937958e1e3183dcb2d7a27bdb6cb780fb8955cb1a6f9893db9e026aec", func := "antiphon/antiphonlaw18.SuspectEnds", spec := "suspectEnds", unfollowed := true, recurses := true, apart := false, narrowed := true }
def SuspectEndsUptoSaid : Prop := suspectEndsUptoRow.holds Try.pinned (OpenSpec.upto suspectEndsSpec)

/-- 'antiphonlaw18.SuspectPlays', WHERE WHAT IT READS IS OF BULK AT MOST 1048576: true; the input reads as it did. -/
def suspectPlaysUptoRow : OpenClaim := { program := "ytgajbaipkhopkaa", sum := "4e7448e937958e1e3183dcb2d7a27bdb6cb780fb8955cb1a6f9893db9e026aec", func := "antiphon/antiphonlaw18.SuspectPlays", spec := "suspectPlays", unfollowed := true, recurses := true, apart := false, narrowed := true }
def SuspectPlaysUptoSaid : Prop := suspectPlaysUptoRow.holds Try.pinned (OpenSpec.upto suspectPlaysSpec)

/-- 'antiphonlaw18.SuspectCopies', WHERE WHAT IT READS IS OF BULK AT MOST 1048576: true; the input reads as it did. -/
def suspectCopiesUptoRow : OpenClaim := { program := "ytgajbaipkhopkaa", sum := "4e7448e937958e1e3183dcb2d7a27bdb6cb780fb8955cb1a6f9893db9e026aec", func := "antiphon/antiphonlaw18.SuspectCopies", spec := "suspectCopies", unfollowed := true, recurses := true, apart := false, narrowed := true }
def SuspectCopiesUptoSaid : Prop := suspectCopiesUptoRow.holds Try.pinned (OpenSpec.upto suspectCopiesSpec)

end Rows
end Go.Proofs.Ytgajbaipkhopkaa
