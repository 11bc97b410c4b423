/-
  No cell of these rows narrows 'for every input' (looked for: loops, veiled, ifaces, maps, wideKeys, modest, calm, conditions, laid).
  DERIVED. THE GIVEN ROWS OF THIS SEAT. 10 by the template 'for every input the law returns true; each argument reads behind the call as it read before'; 0 by the template 'total and deterministic' (their statements: YtodjbgcmlpmknaaTotals.lean).
  GIVEN WITH THE SEED: the statements are not yours to turn. If you find one false, say at which input.
  Laid BY PROGRAM, IN A SANDBOX (cutbox-rows.mjs): the forced cells as the released guide's own fill.sh prints them over the translation 3052851bcf9c182c… (all of the seat's roots in one cut). By AI agents, Wed Nov 11 2026. No macro, syntax, notation, axiom, sorry.
-/
import Derived.Test.YtodjbgcmlpmknaaChecked
import GoSem.Claim
import GoSem.ClaimJoined
import GoSem.ClaimMapViews
import Derived.JoinedTies
import Derived.KernelRfl
namespace Go.Proofs.Ytodjbgcmlpmknaa
/- THE CELL 'sum', in the pinned program and in every row, IS THE sha256 OF THE DUMP (.gsa) THAT YtodjbgcmlpmknaaProg.lean LOADS. Nothing in Lean hashes anything: it is a label: what it is worth is what the hold of that sum in a sandbox is worth. -/
noncomputable def Try.pinned : Pinned := { name := "ytodjbgcmlpmknaa", sum := "3052851bcf9c182c4b64d9f9515e7034016fbfb756b6ac203e09f1d57b2de007", checked := Try.checked }
namespace Rows
def none {H : Type} : Left H := { results := [], args := [] }

/-- 'antiphonlaw01.SumBytes': WHATEVER THE INPUT: true; the input reads as it did. -/
def sumBytesSpec : ChangeSpec := { name := "sumBytes", fn := fun _ => fun
  | [d] => { results := [.lit (.bool true)], args := [d] }
  | _ => none }
def sumBytesRow : OpenClaim := { program := "ytodjbgcmlpmknaa", sum := "3052851bcf9c182c4b64d9f9515e7034016fbfb756b6ac203e09f1d57b2de007", func := "antiphon/antiphonlaw01.SumBytes", spec := "sumBytes", unfollowed := true, recurses := true, apart := false }
def SumBytesSaid : Prop := sumBytesRow.holds Try.pinned (OpenSpec.ofChange sumBytesSpec)

/-- ITS FALSE NEIGHBOUR: 'it returns false'. Refute it at one input. -/
def sumBytesWrong : ChangeSpec := { name := "sumBytes", fn := fun _ => fun
  | [d] => { results := [.lit (.bool false)], args := [d] }
  | _ => none }
def SumBytesWrongFalsely : Prop := sumBytesRow.holds Try.pinned (OpenSpec.ofChange sumBytesWrong)

/-- 'antiphonlaw01.SumParts': WHATEVER THE INPUT: true; the input reads as it did. -/
def sumPartsSpec : ChangeSpec := { name := "sumParts", fn := fun _ => fun
  | [d] => { results := [.lit (.bool true)], args := [d] }
  | _ => none }
def sumPartsRow : OpenClaim := { program := "ytodjbgcmlpmknaa", sum := "3052851bcf9c182c4b64d9f9515e7034016fbfb756b6ac203e09f1d57b2de007", func := "antiphon/antiphonlaw01.SumParts", spec := "sumParts", unfollowed := true, recurses := true, apart := false }
def SumPartsSaid : Prop := sumPartsRow.holds Try.pinned (OpenSpec.ofChange sumPartsSpec)

/-- ITS FALSE NEIGHBOUR: 'it returns false'. Refute it at one input. -/
def sumPartsWrong : ChangeSpec := { name := "sumParts", fn := fun _ => fun
  | [d] => { results := [.lit (.bool false)], args := [d] }
  | _ => none }
def SumPartsWrongFalsely : Prop := sumPartsRow.holds Try.pinned (OpenSpec.ofChange sumPartsWrong)

/-- 'antiphonlaw01.SumMore': WHATEVER THE INPUT: true; the input reads as it did. -/
def sumMoreSpec : ChangeSpec := { name := "sumMore", fn := fun _ => fun
  | [d1, d2] => { results := [.lit (.bool true)], args := [d1, d2] }
  | _ => none }
def sumMoreRow : OpenClaim := { program := "ytodjbgcmlpmknaa", sum := "3052851bcf9c182c4b64d9f9515e7034016fbfb756b6ac203e09f1d57b2de007", func := "antiphon/antiphonlaw01.SumMore", spec := "sumMore", unfollowed := true, recurses := true, apart := false }
def SumMoreSaid : Prop := sumMoreRow.holds Try.pinned (OpenSpec.ofChange sumMoreSpec)

/-- ITS FALSE NEIGHBOUR: 'it returns false'. Refute it at one input. -/
def sumMoreWrong : ChangeSpec := { name := "sumMore", fn := fun _ => fun
  | [d1, d2] => { results := [.lit (.bool false)], args := [d1, d2] }
  | _ => none }
def SumMoreWrongFalsely : Prop := sumMoreRow.holds Try.pinned (OpenSpec.ofChange sumMoreWrong)

/-- 'antiphonlaw01.SumMuls': WHATEVER THE INPUT: true; the input reads as it did. -/
def sumMulsSpec : ChangeSpec := { name := "sumMuls", fn := fun _ => fun
  | [d1, d2] => { results := [.lit (.bool true)], args := [d1, d2] }
  | _ => none }
def sumMulsRow : OpenClaim := { program := "ytodjbgcmlpmknaa", sum := "3052851bcf9c182c4b64d9f9515e7034016fbfb756b6ac203e09f1d57b2de007", func := "antiphon/antiphonlaw01.SumMuls", spec := "sumMuls", unfollowed := true, recurses := true, apart := false }
def SumMulsSaid : Prop := sumMulsRow.holds Try.pinned (OpenSpec.ofChange sumMulsSpec)

/-- ITS FALSE NEIGHBOUR: 'it returns false'. Refute it at one input. -/
def sumMulsWrong : ChangeSpec := { name := "sumMuls", fn := fun _ => fun
  | [d1, d2] => { results := [.lit (.bool false)], args := [d1, d2] }
  | _ => none }
def SumMulsWrongFalsely : Prop := sumMulsRow.holds Try.pinned (OpenSpec.ofChange sumMulsWrong)

/-- 'antiphonlaw01.SumSeals': WHATEVER THE INPUT: true; the input reads as it did. -/
def sumSealsSpec : ChangeSpec := { name := "sumSeals", fn := fun _ => fun
  | [d] => { results := [.lit (.bool true)], args := [d] }
  | _ => none }
def sumSealsRow : OpenClaim := { program := "ytodjbgcmlpmknaa", sum := "3052851bcf9c182c4b64d9f9515e7034016fbfb756b6ac203e09f1d57b2de007", func := "antiphon/antiphonlaw01.SumSeals", spec := "sumSeals", unfollowed := true, recurses := true, apart := false }
def SumSealsSaid : Prop := sumSealsRow.holds Try.pinned (OpenSpec.ofChange sumSealsSpec)

/-- ITS FALSE NEIGHBOUR: 'it returns false'. Refute it at one input. -/
def sumSealsWrong : ChangeSpec := { name := "sumSeals", fn := fun _ => fun
  | [d] => { results := [.lit (.bool false)], args := [d] }
  | _ => none }
def SumSealsWrongFalsely : Prop := sumSealsRow.holds Try.pinned (OpenSpec.ofChange sumSealsWrong)

/-- 'antiphonlaw01.SumOpens': WHATEVER THE INPUT: true; the input reads as it did. -/
def sumOpensSpec : ChangeSpec := { name := "sumOpens", fn := fun _ => fun
  | [d] => { results := [.lit (.bool true)], args := [d] }
  | _ => none }
def sumOpensRow : OpenClaim := { program := "ytodjbgcmlpmknaa", sum := "3052851bcf9c182c4b64d9f9515e7034016fbfb756b6ac203e09f1d57b2de007", func := "antiphon/antiphonlaw01.SumOpens", spec := "sumOpens", unfollowed := true, recurses := true, apart := false }
def SumOpensSaid : Prop := sumOpensRow.holds Try.pinned (OpenSpec.ofChange sumOpensSpec)

/-- ITS FALSE NEIGHBOUR: 'it returns false'. Refute it at one input. -/
def sumOpensWrong : ChangeSpec := { name := "sumOpens", fn := fun _ => fun
  | [d] => { results := [.lit (.bool false)], args := [d] }
  | _ => none }
def SumOpensWrongFalsely : Prop := sumOpensRow.holds Try.pinned (OpenSpec.ofChange sumOpensWrong)

/-- 'antiphonlaw01.SumFlips': WHATEVER THE INPUT: true; the input reads as it did. -/
def sumFlipsSpec : ChangeSpec := { name := "sumFlips", fn := fun _ => fun
  | [d1, d2, d3] => { results := [.lit (.bool true)], args := [d1, d2, d3] }
  | _ => none }
def sumFlipsRow : OpenClaim := { program := "ytodjbgcmlpmknaa", sum := "3052851bcf9c182c4b64d9f9515e7034016fbfb756b6ac203e09f1d57b2de007", func := "antiphon/antiphonlaw01.SumFlips", spec := "sumFlips", unfollowed := true, recurses := true, apart := false }
def SumFlipsSaid : Prop := sumFlipsRow.holds Try.pinned (OpenSpec.ofChange sumFlipsSpec)

/-- ITS FALSE NEIGHBOUR: 'it returns false'. Refute it at one input. -/
def sumFlipsWrong : ChangeSpec := { name := "sumFlips", fn := fun _ => fun
  | [d1, d2, d3] => { results := [.lit (.bool false)], args := [d1, d2, d3] }
  | _ => none }
def SumFlipsWrongFalsely : Prop := sumFlipsRow.holds Try.pinned (OpenSpec.ofChange sumFlipsWrong)

/-- 'antiphonlaw01.SumRing': WHATEVER THE INPUT: true; the input reads as it did. -/
def sumRingSpec : ChangeSpec := { name := "sumRing", fn := fun _ => fun
  | [d1, d2, d3, d4, d5] => { results := [.lit (.bool true)], args := [d1, d2, d3, d4, d5] }
  | _ => none }
def sumRingRow : OpenClaim := { program := "ytodjbgcmlpmknaa", sum := "3052851bcf9c182c4b64d9f9515e7034016fbfb756b6ac203e09f1d57b2de007", func := "antiphon/antiphonlaw01.SumRing", spec := "sumRing", unfollowed := true, recurses := true, apart := false }
def SumRingSaid : Prop := sumRingRow.holds Try.pinned (OpenSpec.ofChange sumRingSpec)

/-- ITS FALSE NEIGHBOUR: 'it returns false'. Refute it at one input. -/
def sumRingWrong : ChangeSpec := { name := "sumRing", fn := fun _ => fun
  | [d1, d2, d3, d4, d5] => { results := [.lit (.bool false)], args := [d1, d2, d3, d4, d5] }
  | _ => none }
def SumRingWrongFalsely : Prop := sumRingRow.holds Try.pinned (OpenSpec.ofChange sumRingWrong)

/-- 'antiphonlaw01.SumPowers': WHATEVER THE INPUT: true; the input reads as it did. -/
def sumPowersSpec : ChangeSpec := { name := "sumPowers", fn := fun _ => fun
  | [d1, d2, d3] => { results := [.lit (.bool true)], args := [d1, d2, d3] }
  | _ => none }
def sumPowersRow : OpenClaim := { program := "ytodjbgcmlpmknaa", sum := "3052851bcf9c182c4b64d9f9515e7034016fbfb756b6ac203e09f1d57b2de007", func := "antiphon/antiphonlaw01.SumPowers", spec := "sumPowers", unfollowed := true, recurses := true, apart := false }
def SumPowersSaid : Prop := sumPowersRow.holds Try.pinned (OpenSpec.ofChange sumPowersSpec)

/-- ITS FALSE NEIGHBOUR: 'it returns false'. Refute it at one input. -/
def sumPowersWrong : ChangeSpec := { name := "sumPowers", fn := fun _ => fun
  | [d1, d2, d3] => { results := [.lit (.bool false)], args := [d1, d2, d3] }
  | _ => none }
def SumPowersWrongFalsely : Prop := sumPowersRow.holds Try.pinned (OpenSpec.ofChange sumPowersWrong)

/-- 'antiphonlaw01.SumJoins': WHATEVER THE INPUT: true; the input reads as it did. -/
def sumJoinsSpec : ChangeSpec := { name := "sumJoins", fn := fun _ => fun
  | [d1, d2, d3] => { results := [.lit (.bool true)], args := [d1, d2, d3] }
  | _ => none }
def sumJoinsRow : OpenClaim := { program := "ytodjbgcmlpmknaa", sum := "3052851bcf9c182c4b64d9f9515e7034016fbfb756b6ac203e09f1d57b2de007", func := "antiphon/antiphonlaw01.SumJoins", spec := "sumJoins", unfollowed := true, recurses := true, apart := false }
def SumJoinsSaid : Prop := sumJoinsRow.holds Try.pinned (OpenSpec.ofChange sumJoinsSpec)

/-- ITS FALSE NEIGHBOUR: 'it returns false'. Refute it at one input. -/
def sumJoinsWrong : ChangeSpec := { name := "sumJoins", fn := fun _ => fun
  | [d1, d2, d3] => { results := [.lit (.bool false)], args := [d1, d2, d3] }
  | _ => none }
def SumJoinsWrongFalsely : Prop := sumJoinsRow.holds Try.pinned (OpenSpec.ofChange sumJoinsWrong)

/- THE SECOND FORM. 'bulk': how many values and letters a reading holds, each counted each time it is reached (what is shared counts as often as it is met; a slice's spare places count too). A statement '..UptoSaid' is the law's where the arguments, and the package variables that the reading takes, are together of bulk at most 1048576: NARROWER than '..Said'. Prove '..Said' where nothing that the law and all that it calls make is longer than what came in: it says more and counts as full. Else prove '..UptoSaid'. A law counts once. -/
mutual
def uptoBulk {H : Type} : DataW H → Nat
  | .lit (.string bytes) => bytes.length + 1
  | .lit _ => 1
  | .nil => 1
  | .ptr d => uptoBulk d + 1
  | .slice elems spare => uptoBulkAll elems + uptoBulkAll spare + 1
  | .agg parts => uptoBulkAll parts + 1
  | .iface _ d => uptoBulk d + 1
  | .map entries => uptoBulkEntries entries + 1
  | .held _ => 1
def uptoBulkAll {H : Type} : List (DataW H) → Nat
  | [] => 0
  | d :: r => uptoBulk d + uptoBulkAll r
def uptoBulkEntries {H : Type} : List (Lit × DataW H) → Nat
  | [] => 0
  | x :: r => uptoBulkEntry x + uptoBulkEntries r
def uptoBulkEntry {H : Type} : Lit × DataW H → Nat
  | (.string bytes, d) => bytes.length + uptoBulk d + 1
  | (_, d) => uptoBulk d + 1
 end
def uptoSmall : (H : Type) → List (DataW H) → Bool := fun _ ds => decide (uptoBulkAll ds ≤ 1048576)
def OpenSpec.upto (s : _root_.Go.ChangeSpec) : _root_.Go.OpenSpec := { _root_.Go.OpenSpec.ofChange s with cond := some uptoSmall }

/-- 'antiphonlaw01.SumBytes', WHERE WHAT IT READS IS OF BULK AT MOST 1048576: true; the input reads as it did. -/
def sumBytesUptoRow : OpenClaim := { program := "ytodjbgcmlpmknaa", sum := "3052851bcf9c182c4b64d9f9515e7034016fbfb756b6ac203e09f1d57b2de007", func := "antiphon/antiphonlaw01.SumBytes", spec := "sumBytes", unfollowed := true, recurses := true, apart := false, narrowed := true }
def SumBytesUptoSaid : Prop := sumBytesUptoRow.holds Try.pinned (OpenSpec.upto sumBytesSpec)

/-- 'antiphonlaw01.SumParts', WHERE WHAT IT READS IS OF BULK AT MOST 1048576: true; the input reads as it did. -/
def sumPartsUptoRow : OpenClaim := { program := "ytodjbgcmlpmknaa", sum := "3052851bcf9c182c4b64d9f9515e7034016fbfb756b6ac203e09f1d57b2de007", func := "antiphon/antiphonlaw01.SumParts", spec := "sumParts", unfollowed := true, recurses := true, apart := false, narrowed := true }
def SumPartsUptoSaid : Prop := sumPartsUptoRow.holds Try.pinned (OpenSpec.upto sumPartsSpec)

/-- 'antiphonlaw01.SumMore', WHERE WHAT IT READS IS OF BULK AT MOST 1048576: true; the input reads as it did. -/
def sumMoreUptoRow : OpenClaim := { program := "ytodjbgcmlpmknaa", sum := "3052851bcf9c182c4b64d9f9515e7034016fbfb756b6ac203e09f1d57b2de007", func := "antiphon/antiphonlaw01.SumMore", spec := "sumMore", unfollowed := true, recurses := true, apart := false, narrowed := true }
def SumMoreUptoSaid : Prop := sumMoreUptoRow.holds Try.pinned (OpenSpec.upto sumMoreSpec)

/-- 'antiphonlaw01.SumMuls', WHERE WHAT IT READS IS OF BULK AT MOST 1048576: true; the input reads as it did. -/
def sumMulsUptoRow : OpenClaim := { program := "ytodjbgcmlpmknaa", sum := "3052851bcf9c182c4b64d9f9515e7034016fbfb756b6ac203e09f1d57b2de007", func := "antiphon/antiphonlaw01.SumMuls", spec := "sumMuls", unfollowed := true, recurses := true, apart := false, narrowed := true }
def SumMulsUptoSaid : Prop := sumMulsUptoRow.holds Try.pinned (OpenSpec.upto sumMulsSpec)

/-- 'antiphonlaw01.SumSeals', WHERE WHAT IT READS IS OF BULK AT MOST 1048576: true; the input reads as it did. -/
def sumSealsUptoRow : OpenClaim := { program := "ytodjbgcmlpmknaa", sum := "3052851bcf9c182c4b64d9f9515e7034016fbfb756b6ac203e09f1d57b2de007", func := "antiphon/antiphonlaw01.SumSeals", spec := "sumSeals", unfollowed := true, recurses := true, apart := false, narrowed := true }
def SumSealsUptoSaid : Prop := sumSealsUptoRow.holds Try.pinned (OpenSpec.upto sumSealsSpec)

/-- 'antiphonlaw01.SumOpens', WHERE WHAT IT READS IS OF BULK AT MOST 1048576: true; the input reads as it did. -/
def sumOpensUptoRow : OpenClaim := { program := "ytodjbgcmlpmknaa", sum := "3052851bcf9c182c4b64d9f9515e7034016fbfb756b6ac203e09f1d57b2de007", func := "antiphon/antiphonlaw01.SumOpens", spec := "sumOpens", unfollowed := true, recurses := true, apart := false, narrowed := true }
def SumOpensUptoSaid : Prop := sumOpensUptoRow.holds Try.pinned (OpenSpec.upto sumOpensSpec)

/-- 'antiphonlaw01.SumFlips', WHERE WHAT IT READS IS OF BULK AT MOST 1048576: true; the input reads as it did. -/
def sumFlipsUptoRow : OpenClaim := { program := "ytodjbgcmlpmknaa", sum := "3052851bcf9c182c4b64d9f9515e7034016fbfb756b6ac203e09f1d57b2de007", func := "antiphon/antiphonlaw01.SumFlips", spec := "sumFlips", unfollowed := true, recurses := true, apart := false, narrowed := true }
def SumFlipsUptoSaid : Prop := sumFlipsUptoRow.holds Try.pinned (OpenSpec.upto sumFlipsSpec)

/-- 'antiphonlaw01.SumRing', WHERE WHAT IT READS IS OF BULK AT MOST 1048576: true; the input reads as it did. -/
def sumRingUptoRow : OpenClaim := { program := "ytodjbgcmlpmknaa", sum := "3052851bcf9c182c4b64d9f9515e7034016fbfb756b6ac203e09f1d57b2de007", func := "antiphon/antiphonlaw01.SumRing", spec := "sumRing", unfollowed := true, recurses := true, apart := false, narrowed := true }
def SumRingUptoSaid : Prop := sumRingUptoRow.holds Try.pinned (OpenSpec.upto sumRingSpec)

/-- 'antiphonlaw01.SumPowers', WHERE WHAT IT READS IS OF BULK AT MOST 1048576: true; the input reads as it did. -/
def sumPowersUptoRow : OpenClaim := { program := "ytodjbgcmlpmknaa", sum := "3052851bcf9c182c4b64d9f9515e7034016fbfb756b6ac203e09f1d57b2de007", func := "antiphon/antiphonlaw01.SumPowers", spec := "sumPowers", unfollowed := true, recurses := true, apart := false, narrowed := true }
def SumPowersUptoSaid : Prop := sumPowersUptoRow.holds Try.pinned (OpenSpec.upto sumPowersSpec)

/-- 'antiphonlaw01.SumJoins', WHERE WHAT IT READS IS OF BULK AT MOST 1048576: true; the input reads as it did. -/
def sumJoinsUptoRow : OpenClaim := { program := "ytodjbgcmlpmknaa", sum := "3052851bcf9c182c4b64d9f9515e7034016fbfb756b6ac203e09f1d57b2de007", func := "antiphon/antiphonlaw01.SumJoins", spec := "sumJoins", unfollowed := true, recurses := true, apart := false, narrowed := true }
def SumJoinsUptoSaid : Prop := sumJoinsUptoRow.holds Try.pinned (OpenSpec.upto sumJoinsSpec)

end Rows
end Go.Proofs.Ytodjbgcmlpmknaa
