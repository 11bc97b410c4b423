/-
  No cell of these rows narrows 'for every input' (looked for: loops, veiled, ifaces, maps, wideKeys, modest, calm, conditions, laid).
  DERIVED. THE GIVEN ROWS OF THIS SEAT. 8 by the template 'for every input the law returns true; each argument reads behind the call as it read before'; 0 by the template 'total and deterministic' (their statements: YtnecoapbpicloaaTotals.lean).
  GIVEN WITH THE SEED: the statements are not yours to turn. If you find one false, say at which input.
  Laid BY PROGRAM, IN A SANDBOX (cutbox-rows.mjs): the forced cells as the released guide's own fill.sh prints them over the translation 06dabae7612c503c… (all of the seat's roots in one cut). By AI agents, Wed Nov 11 2026. No macro, syntax, notation, axiom, sorry.
-/
import Derived.Test.YtnecoapbpicloaaChecked
import GoSem.Claim
import GoSem.ClaimJoined
import GoSem.ClaimMapViews
import Derived.JoinedTies
import Derived.KernelRfl
namespace Go.Proofs.Ytnecoapbpicloaa
/- THE CELL 'sum', in the pinned program and in every row, IS THE sha256 OF THE DUMP (.gsa) THAT YtnecoapbpicloaaProg.lean LOADS. Nothing in Lean hashes anything: it is a label: what it is worth is what the hold of that sum in a sandbox is worth. -/
noncomputable def Try.pinned : Pinned := { name := "ytnecoapbpicloaa", sum := "06dabae7612c503c35634bd0c43fcf6b5cd3984ccd8f12ba78c128293986bc8b", checked := Try.checked }
namespace Rows
def none {H : Type} : Left H := { results := [], args := [] }

/-- 'antiphonlaw02.WireNumber': WHATEVER THE INPUT: true; the input reads as it did. -/
def wireNumberSpec : ChangeSpec := { name := "wireNumber", fn := fun _ => fun
  | [d1, d2, d3] => { results := [.lit (.bool true)], args := [d1, d2, d3] }
  | _ => none }
def wireNumberRow : OpenClaim := { program := "ytnecoapbpicloaa", sum := "06dabae7612c503c35634bd0c43fcf6b5cd3984ccd8f12ba78c128293986bc8b", func := "antiphon/antiphonlaw02.WireNumber", spec := "wireNumber", unfollowed := true, recurses := true, apart := false }
def WireNumberSaid : Prop := wireNumberRow.holds Try.pinned (OpenSpec.ofChange wireNumberSpec)

/-- ITS FALSE NEIGHBOUR: 'it returns false'. Refute it at one input. -/
def wireNumberWrong : ChangeSpec := { name := "wireNumber", fn := fun _ => fun
  | [d1, d2, d3] => { results := [.lit (.bool false)], args := [d1, d2, d3] }
  | _ => none }
def WireNumberWrongFalsely : Prop := wireNumberRow.holds Try.pinned (OpenSpec.ofChange wireNumberWrong)

/-- 'antiphonlaw02.WireLays': WHATEVER THE INPUT: true; the input reads as it did. -/
def wireLaysSpec : ChangeSpec := { name := "wireLays", fn := fun _ => fun
  | [d] => { results := [.lit (.bool true)], args := [d] }
  | _ => none }
def wireLaysRow : OpenClaim := { program := "ytnecoapbpicloaa", sum := "06dabae7612c503c35634bd0c43fcf6b5cd3984ccd8f12ba78c128293986bc8b", func := "antiphon/antiphonlaw02.WireLays", spec := "wireLays", unfollowed := true, recurses := true, apart := false }
def WireLaysSaid : Prop := wireLaysRow.holds Try.pinned (OpenSpec.ofChange wireLaysSpec)

/-- ITS FALSE NEIGHBOUR: 'it returns false'. Refute it at one input. -/
def wireLaysWrong : ChangeSpec := { name := "wireLays", fn := fun _ => fun
  | [d] => { results := [.lit (.bool false)], args := [d] }
  | _ => none }
def WireLaysWrongFalsely : Prop := wireLaysRow.holds Try.pinned (OpenSpec.ofChange wireLaysWrong)

/-- 'antiphonlaw02.WireReads': WHATEVER THE INPUT: true; the input reads as it did. -/
def wireReadsSpec : ChangeSpec := { name := "wireReads", fn := fun _ => fun
  | [d1, d2] => { results := [.lit (.bool true)], args := [d1, d2] }
  | _ => none }
def wireReadsRow : OpenClaim := { program := "ytnecoapbpicloaa", sum := "06dabae7612c503c35634bd0c43fcf6b5cd3984ccd8f12ba78c128293986bc8b", func := "antiphon/antiphonlaw02.WireReads", spec := "wireReads", unfollowed := true, recurses := true, apart := false }
def WireReadsSaid : Prop := wireReadsRow.holds Try.pinned (OpenSpec.ofChange wireReadsSpec)

/-- ITS FALSE NEIGHBOUR: 'it returns false'. Refute it at one input. -/
def wireReadsWrong : ChangeSpec := { name := "wireReads", fn := fun _ => fun
  | [d1, d2] => { results := [.lit (.bool false)], args := [d1, d2] }
  | _ => none }
def WireReadsWrongFalsely : Prop := wireReadsRow.holds Try.pinned (OpenSpec.ofChange wireReadsWrong)

/-- 'antiphonlaw02.WireStream': WHATEVER THE INPUT: true; the input reads as it did. -/
def wireStreamSpec : ChangeSpec := { name := "wireStream", fn := fun _ => fun
  | [d1, d2] => { results := [.lit (.bool true)], args := [d1, d2] }
  | _ => none }
def wireStreamRow : OpenClaim := { program := "ytnecoapbpicloaa", sum := "06dabae7612c503c35634bd0c43fcf6b5cd3984ccd8f12ba78c128293986bc8b", func := "antiphon/antiphonlaw02.WireStream", spec := "wireStream", unfollowed := true, recurses := true, apart := false }
def WireStreamSaid : Prop := wireStreamRow.holds Try.pinned (OpenSpec.ofChange wireStreamSpec)

/-- ITS FALSE NEIGHBOUR: 'it returns false'. Refute it at one input. -/
def wireStreamWrong : ChangeSpec := { name := "wireStream", fn := fun _ => fun
  | [d1, d2] => { results := [.lit (.bool false)], args := [d1, d2] }
  | _ => none }
def WireStreamWrongFalsely : Prop := wireStreamRow.holds Try.pinned (OpenSpec.ofChange wireStreamWrong)

/-- 'antiphonlaw02.WireBent': WHATEVER THE INPUT: true; the input reads as it did. -/
def wireBentSpec : ChangeSpec := { name := "wireBent", fn := fun _ => fun
  | [d1, d2, d3, d4] => { results := [.lit (.bool true)], args := [d1, d2, d3, d4] }
  | _ => none }
def wireBentRow : OpenClaim := { program := "ytnecoapbpicloaa", sum := "06dabae7612c503c35634bd0c43fcf6b5cd3984ccd8f12ba78c128293986bc8b", func := "antiphon/antiphonlaw02.WireBent", spec := "wireBent", unfollowed := true, recurses := true, apart := false }
def WireBentSaid : Prop := wireBentRow.holds Try.pinned (OpenSpec.ofChange wireBentSpec)

/-- ITS FALSE NEIGHBOUR: 'it returns false'. Refute it at one input. -/
def wireBentWrong : ChangeSpec := { name := "wireBent", fn := fun _ => fun
  | [d1, d2, d3, d4] => { results := [.lit (.bool false)], args := [d1, d2, d3, d4] }
  | _ => none }
def WireBentWrongFalsely : Prop := wireBentRow.holds Try.pinned (OpenSpec.ofChange wireBentWrong)

/-- 'antiphonlaw02.WireFrames': WHATEVER THE INPUT: true; the input reads as it did. -/
def wireFramesSpec : ChangeSpec := { name := "wireFrames", fn := fun _ => fun
  | [d1, d2] => { results := [.lit (.bool true)], args := [d1, d2] }
  | _ => none }
def wireFramesRow : OpenClaim := { program := "ytnecoapbpicloaa", sum := "06dabae7612c503c35634bd0c43fcf6b5cd3984ccd8f12ba78c128293986bc8b", func := "antiphon/antiphonlaw02.WireFrames", spec := "wireFrames", unfollowed := true, recurses := true, apart := false }
def WireFramesSaid : Prop := wireFramesRow.holds Try.pinned (OpenSpec.ofChange wireFramesSpec)

/-- ITS FALSE NEIGHBOUR: 'it returns false'. Refute it at one input. -/
def wireFramesWrong : ChangeSpec := { name := "wireFrames", fn := fun _ => fun
  | [d1, d2] => { results := [.lit (.bool false)], args := [d1, d2] }
  | _ => none }
def WireFramesWrongFalsely : Prop := wireFramesRow.holds Try.pinned (OpenSpec.ofChange wireFramesWrong)

/-- 'antiphonlaw02.WireBounds': WHATEVER THE INPUT: true; the input reads as it did. -/
def wireBoundsSpec : ChangeSpec := { name := "wireBounds", fn := fun _ => fun
  | [] => { results := [.lit (.bool true)], args := [] }
  | _ => none }
def wireBoundsRow : OpenClaim := { program := "ytnecoapbpicloaa", sum := "06dabae7612c503c35634bd0c43fcf6b5cd3984ccd8f12ba78c128293986bc8b", func := "antiphon/antiphonlaw02.WireBounds", spec := "wireBounds", unfollowed := true, recurses := true, apart := false }
def WireBoundsSaid : Prop := wireBoundsRow.holds Try.pinned (OpenSpec.ofChange wireBoundsSpec)

/-- ITS FALSE NEIGHBOUR: 'it returns false'. Refute it at one input. -/
def wireBoundsWrong : ChangeSpec := { name := "wireBounds", fn := fun _ => fun
  | [] => { results := [.lit (.bool false)], args := [] }
  | _ => none }
def WireBoundsWrongFalsely : Prop := wireBoundsRow.holds Try.pinned (OpenSpec.ofChange wireBoundsWrong)

/-- 'antiphonlaw02.WireBack': WHATEVER THE INPUT: true; the input reads as it did. -/
def wireBackSpec : ChangeSpec := { name := "wireBack", fn := fun _ => fun
  | [d1, d2, d3] => { results := [.lit (.bool true)], args := [d1, d2, d3] }
  | _ => none }
def wireBackRow : OpenClaim := { program := "ytnecoapbpicloaa", sum := "06dabae7612c503c35634bd0c43fcf6b5cd3984ccd8f12ba78c128293986bc8b", func := "antiphon/antiphonlaw02.WireBack", spec := "wireBack", unfollowed := true, recurses := true, apart := false }
def WireBackSaid : Prop := wireBackRow.holds Try.pinned (OpenSpec.ofChange wireBackSpec)

/-- ITS FALSE NEIGHBOUR: 'it returns false'. Refute it at one input. -/
def wireBackWrong : ChangeSpec := { name := "wireBack", fn := fun _ => fun
  | [d1, d2, d3] => { results := [.lit (.bool false)], args := [d1, d2, d3] }
  | _ => none }
def WireBackWrongFalsely : Prop := wireBackRow.holds Try.pinned (OpenSpec.ofChange wireBackWrong)

/- THE SECOND FORM. 'bulk': how many values and letters a reading holds, each counted each time it is reached (what is shared counts as often as it is met; a slice's spare places count too). A statement '..UptoSaid' is the law's where the arguments, and the package variables that the reading takes, are together of bulk at most 1048576: NARROWER than '..Said'. Prove '..Said' where nothing that the law and all that it calls make is longer than what came in: it says more and counts as full. Else prove '..UptoSaid'. A law counts once. -/
mutual
def uptoBulk {H : Type} : DataW H → Nat
  | .lit (.string bytes) => bytes.length + 1
  | .lit _ => 1
  | .nil => 1
  | .ptr d => uptoBulk d + 1
  | .slice elems spare => uptoBulkAll elems + uptoBulkAll spare + 1
  | .agg parts => uptoBulkAll parts + 1
  | .iface _ d => uptoBulk d + 1
  | .map entries => uptoBulkEntries entries + 1
  | .held _ => 1
def uptoBulkAll {H : Type} : List (DataW H) → Nat
  | [] => 0
  | d :: r => uptoBulk d + uptoBulkAll r
def uptoBulkEntries {H : Type} : List (Lit × DataW H) → Nat
  | [] => 0
  | x :: r => uptoBulkEntry x + uptoBulkEntries r
def uptoBulkEntry {H : Type} : Lit × DataW H → Nat
  | (.string bytes, d) => bytes.length + uptoBulk d + 1
  | (_, d) => uptoBulk d + 1
 end
def uptoSmall : (H : Type) → List (DataW H) → Bool := fun _ ds => decide (uptoBulkAll ds ≤ 1048576)
def OpenSpec.upto (s : _root_.Go.ChangeSpec) : _root_.Go.OpenSpec := { _root_.Go.OpenSpec.ofChange s with cond := some uptoSmall }

/-- 'antiphonlaw02.WireNumber', WHERE WHAT IT READS IS OF BULK AT MOST 1048576: true; the input reads as it did. -/
def wireNumberUptoRow : OpenClaim := { program := "ytnecoapbpicloaa", sum := "06dabae7612c503c35634bd0c43fcf6b5cd3984ccd8f12ba78c128293986bc8b", func := "antiphon/antiphonlaw02.WireNumber", spec := "wireNumber", unfollowed := true, recurses := true, apart := false, narrowed := true }
def WireNumberUptoSaid : Prop := wireNumberUptoRow.holds Try.pinned (OpenSpec.upto wireNumberSpec)

/-- 'antiphonlaw02.WireLays', WHERE WHAT IT READS IS OF BULK AT MOST 1048576: true; the input reads as it did. -/
def wireLaysUptoRow : OpenClaim := { program := "ytnecoapbpicloaa", sum := "06dabae7612c503c35634bd0c43fcf6b5cd3984ccd8f12ba78c128293986bc8b", func := "antiphon/antiphonlaw02.WireLays", spec := "wireLays", unfollowed := true, recurses := true, apart := false, narrowed := true }
def WireLaysUptoSaid : Prop := wireLaysUptoRow.holds Try.pinned (OpenSpec.upto wireLaysSpec)

/-- 'antiphonlaw02.WireReads', WHERE WHAT IT READS IS OF BULK AT MOST 1048576: true; the input reads as it did. -/
def wireReadsUptoRow : OpenClaim := { program := "ytnecoapbpicloaa", sum := "06dabae7612c503c35634bd0c43fcf6b5cd3984ccd8f12ba78c128293986bc8b", func := "antiphon/antiphonlaw02.WireReads", spec := "wireReads", unfollowed := true, recurses := true, apart := false, narrowed := true }
def WireReadsUptoSaid : Prop := wireReadsUptoRow.holds Try.pinned (OpenSpec.upto wireReadsSpec)

/-- 'antiphonlaw02.WireStream', WHERE WHAT IT READS IS OF BULK AT MOST 1048576: true; the input reads as it did. -/
def wireStreamUptoRow : OpenClaim := { program := "ytnecoapbpicloaa", sum := "06dabae7612c503c35634bd0c43fcf6b5cd3984ccd8f12ba78c128293986bc8b", func := "antiphon/antiphonlaw02.WireStream", spec := "wireStream", unfollowed := true, recurses := true, apart := false, narrowed := true }
def WireStreamUptoSaid : Prop := wireStreamUptoRow.holds Try.pinned (OpenSpec.upto wireStreamSpec)

/-- 'antiphonlaw02.WireBent', WHERE WHAT IT READS IS OF BULK AT MOST 1048576: true; the input reads as it did. -/
def wireBentUptoRow : OpenClaim := { program := "ytnecoapbpicloaa", sum := "06dabae7612c503c35634bd0c43fcf6b5cd3984ccd8f12ba78c128293986bc8b", func := "antiphon/antiphonlaw02.WireBent", spec := "wireBent", unfollowed := true, recurses := true, apart := false, narrowed := true }
def WireBentUptoSaid : Prop := wireBentUptoRow.holds Try.pinned (OpenSpec.upto wireBentSpec)

/-- 'antiphonlaw02.WireFrames', WHERE WHAT IT READS IS OF BULK AT MOST 1048576: true; the input reads as it did. -/
def wireFramesUptoRow : OpenClaim := { program := "ytnecoapbpicloaa", sum := "06dabae7612c503c35634bd0c43fcf6b5cd3984ccd8f12ba78c128293986bc8b", func := "antiphon/antiphonlaw02.WireFrames", spec := "wireFrames", unfollowed := true, recurses := true, apart := false, narrowed := true }
def WireFramesUptoSaid : Prop := wireFramesUptoRow.holds Try.pinned (OpenSpec.upto wireFramesSpec)

/-- 'antiphonlaw02.WireBounds', WHERE WHAT IT READS IS OF BULK AT MOST 1048576: true; the input reads as it did. -/
def wireBoundsUptoRow : OpenClaim := { program := "ytnecoapbpicloaa", sum := "06dabae7612c503c35634bd0c43fcf6b5cd3984ccd8f12ba78c128293986bc8b", func := "antiphon/antiphonlaw02.WireBounds", spec := "wireBounds", unfollowed := true, recurses := true, apart := false, narrowed := true }
def WireBoundsUptoSaid : Prop := wireBoundsUptoRow.holds Try.pinned (OpenSpec.upto wireBoundsSpec)

/-- 'antiphonlaw02.WireBack', WHERE WHAT IT READS IS OF BULK AT MOST 1048576: true; the input reads as it did. -/
def wireBackUptoRow : OpenClaim := { program := "ytnecoapbpicloaa", sum := "06dabae7612c503c35634bd0c43fcf6b5cd3984ccd8f12ba78c128293986bc8b", func := "antiphon/antiphonlaw02.WireBack", spec := "wireBack", unfollowed := true, recurses := true, apart := false, narrowed := true }
def WireBackUptoSaid : Prop := wireBackUptoRow.holds Try.pinned (OpenSpec.upto wireBackSpec)

end Rows
end Go.Proofs.Ytnecoapbpicloaa
