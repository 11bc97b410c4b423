/-
  No cell of these rows narrows 'for every input' (looked for: loops, veiled, ifaces, maps, wideKeys, modest, calm, conditions, laid).
  DERIVED. THE GIVEN ROWS OF THIS SEAT. 3 by the template 'for every input the law returns true; each argument reads behind the call as it read before'; 0 by the template 'total and deterministic' (their statements: YtomnjhhpeglcnaaTotals.lean).
  GIVEN WITH THE SEED: the statements are not yours to turn. If you find one false, say at which input.
  Laid BY PROGRAM, IN A SANDBOX (cutbox-rows.mjs): the forced cells as the released guide's own fill.sh prints them over the translation 6bbeb7b00f04eb0b… (all of the seat's roots in one cut). By AI agents, Wed Nov 11 2026. No macro, syntax, notation, axiom, sorry.
-/
import Derived.Test.YtomnjhhpeglcnaaChecked
import GoSem.Claim
import GoSem.ClaimJoined
import GoSem.ClaimMapViews
import Derived.JoinedTies
import Derived.KernelRfl
namespace Go.Proofs.Ytomnjhhpeglcnaa
/- THE CELL 'sum', in the pinned program and in every row, IS THE sha256 OF THE DUMP (.gsa) THAT YtomnjhhpeglcnaaProg.lean LOADS. Nothing in Lean hashes anything: it is a label: what it is worth is what the hold of that sum in a sandbox is worth. -/
noncomputable def Try.pinned : Pinned := { name := "ytomnjhhpeglcnaa", sum := "6bbeb7b00f04eb0b64f70c24e16a3f26194c87c7bc7f7284b5d365bc8163c589", checked := Try.checked }
namespace Rows
def none {H : Type} : Left H := { results := [], args := [] }

/-- 'antiphonlaw06.TokenSpells': WHATEVER THE INPUT: true; the input reads as it did. -/
def tokenSpellsSpec : ChangeSpec := { name := "tokenSpells", fn := fun _ => fun
  | [d1, d2] => { results := [.lit (.bool true)], args := [d1, d2] }
  | _ => none }
def tokenSpellsRow : OpenClaim := { program := "ytomnjhhpeglcnaa", sum := "6bbeb7b00f04eb0b64f70c24e16a3f26194c87c7bc7f7284b5d365bc8163c589", func := "antiphon/antiphonlaw06.TokenSpells", spec := "tokenSpells", inPlace := ["internal/bytealg.IndexByteString", "internal/abi.NoEscape"], unfollowed := true, recurses := true, apart := false }
def TokenSpellsSaid : Prop := tokenSpellsRow.holds Try.pinned (OpenSpec.ofChange tokenSpellsSpec)

/-- ITS FALSE NEIGHBOUR: 'it returns false'. Refute it at one input. -/
def tokenSpellsWrong : ChangeSpec := { name := "tokenSpells", fn := fun _ => fun
  | [d1, d2] => { results := [.lit (.bool false)], args := [d1, d2] }
  | _ => none }
def TokenSpellsWrongFalsely : Prop := tokenSpellsRow.holds Try.pinned (OpenSpec.ofChange tokenSpellsWrong)

/-- 'antiphonlaw06.TokenBounds': WHATEVER THE INPUT: true; the input reads as it did. -/
def tokenBoundsSpec : ChangeSpec := { name := "tokenBounds", fn := fun _ => fun
  | [] => { results := [.lit (.bool true)], args := [] }
  | _ => none }
def tokenBoundsRow : OpenClaim := { program := "ytomnjhhpeglcnaa", sum := "6bbeb7b00f04eb0b64f70c24e16a3f26194c87c7bc7f7284b5d365bc8163c589", func := "antiphon/antiphonlaw06.TokenBounds", spec := "tokenBounds", inPlace := ["internal/abi.NoEscape", "internal/bytealg.IndexByteString"], unfollowed := true, recurses := true, apart := false }
def TokenBoundsSaid : Prop := tokenBoundsRow.holds Try.pinned (OpenSpec.ofChange tokenBoundsSpec)

/-- ITS FALSE NEIGHBOUR: 'it returns false'. Refute it at one input. -/
def tokenBoundsWrong : ChangeSpec := { name := "tokenBounds", fn := fun _ => fun
  | [] => { results := [.lit (.bool false)], args := [] }
  | _ => none }
def TokenBoundsWrongFalsely : Prop := tokenBoundsRow.holds Try.pinned (OpenSpec.ofChange tokenBoundsWrong)

/-- 'antiphonlaw06.TokenHolds': WHATEVER THE INPUT: true; the input reads as it did. -/
def tokenHoldsSpec : ChangeSpec := { name := "tokenHolds", fn := fun _ => fun
  | [d1, d2, d3, d4, d5, d6] => { results := [.lit (.bool true)], args := [d1, d2, d3, d4, d5, d6] }
  | _ => none }
def tokenHoldsRow : OpenClaim := { program := "ytomnjhhpeglcnaa", sum := "6bbeb7b00f04eb0b64f70c24e16a3f26194c87c7bc7f7284b5d365bc8163c589", func := "antiphon/antiphonlaw06.TokenHolds", spec := "tokenHolds", inPlace := ["internal/bytealg.IndexByteString", "internal/abi.NoEscape"], unfollowed := true, recurses := true, apart := false }
def TokenHoldsSaid : Prop := tokenHoldsRow.holds Try.pinned (OpenSpec.ofChange tokenHoldsSpec)

/-- ITS FALSE NEIGHBOUR: 'it returns false'. Refute it at one input. -/
def tokenHoldsWrong : ChangeSpec := { name := "tokenHolds", fn := fun _ => fun
  | [d1, d2, d3, d4, d5, d6] => { results := [.lit (.bool false)], args := [d1, d2, d3, d4, d5, d6] }
  | _ => none }
def TokenHoldsWrongFalsely : Prop := tokenHoldsRow.holds Try.pinned (OpenSpec.ofChange tokenHoldsWrong)

/- THE SECOND FORM. 'bulk': how many values and letters a reading holds, each counted each time it is reached (what is shared counts as often as it is met; a slice's spare places count too). A statement '..UptoSaid' is the law's where the arguments, and the package variables that the reading takes, are together of bulk at most 1048576: NARROWER than '..Said'. Prove '..Said' where nothing that the law and all that it calls make is longer than what came in: it says more and counts as full. Else prove '..UptoSaid'. A law counts once. -/
mutual
def uptoBulk {H : Type} : DataW H → Nat
  | .lit (.string bytes) => bytes.length + 1
  | .lit _ => 1
  | .nil => 1
  | .ptr d => uptoBulk d + 1
  | .slice elems spare => uptoBulkAll elems + uptoBulkAll spare + 1
  | .agg parts => uptoBulkAll parts + 1
  | .iface _ d => uptoBulk d + 1
  | .map entries => uptoBulkEntries entries + 1
  | .held _ => 1
def uptoBulkAll {H : Type} : List (DataW H) → Nat
  | [] => 0
  | d :: r => uptoBulk d + uptoBulkAll r
def uptoBulkEntries {H : Type} : List (Lit × DataW H) → Nat
  | [] => 0
  | x :: r => uptoBulkEntry x + uptoBulkEntries r
def uptoBulkEntry {H : Type} : Lit × DataW H → Nat
  | (.string bytes, d) => bytes.length + uptoBulk d + 1
  | (_, d) => uptoBulk d + 1
 end
def uptoSmall : (H : Type) → List (DataW H) → Bool := fun _ ds => decide (uptoBulkAll ds ≤ 1048576)
def OpenSpec.upto (s : _root_.Go.ChangeSpec) : _root_.Go.OpenSpec := { _root_.Go.OpenSpec.ofChange s with cond := some uptoSmall }

/-- 'antiphonlaw06.TokenSpells', WHERE WHAT IT READS IS OF BULK AT MOST 1048576: true; the input reads as it did. -/
def tokenSpellsUptoRow : OpenClaim := { program := "ytomnjhhpeglcnaa", sum := "6bbeb7b00f04eb0b64f70c24e16a3f26194c87c7bc7f7284b5d365bc8163c589", func := "antiphon/antiphonlaw06.TokenSpells", spec := "tokenSpells", inPlace := ["internal/bytealg.IndexByteString", "internal/abi.NoEscape"], unfollowed := true, recurses := true, apart := false, narrowed := true }
def TokenSpellsUptoSaid : Prop := tokenSpellsUptoRow.holds Try.pinned (OpenSpec.upto tokenSpellsSpec)

/-- 'antiphonlaw06.TokenBounds', WHERE WHAT IT READS IS OF BULK AT MOST 1048576: true; the input reads as it did. -/
def tokenBoundsUptoRow : OpenClaim := { program := "ytomnjhhpeglcnaa", sum := "6bbeb7b00f04eb0b64f70c24e16a3f26194c87c7bc7f7284b5d365bc8163c589", func := "antiphon/antiphonlaw06.TokenBounds", spec := "tokenBounds", inPlace := ["internal/abi.NoEscape", "internal/bytealg.IndexByteString"], unfollowed := true, recurses := true, apart := false, narrowed := true }
def TokenBoundsUptoSaid : Prop := tokenBoundsUptoRow.holds Try.pinned (OpenSpec.upto tokenBoundsSpec)

/-- 'antiphonlaw06.TokenHolds', WHERE WHAT IT READS IS OF BULK AT MOST 1048576: true; the input reads as it did. -/
def tokenHoldsUptoRow : OpenClaim := { program := "ytomnjhhpeglcnaa", sum := "6bbeb7b00f04eb0b64f70c24e16a3f26194c87c7bc7f7284b5d365bc8163c589", func := "antiphon/antiphonlaw06.TokenHolds", spec := "tokenHolds", inPlace := ["internal/bytealg.IndexByteString", "internal/abi.NoEscape"], unfollowed := true, recurses := true, apart := false, narrowed := true }
def TokenHoldsUptoSaid : Prop := tokenHoldsUptoRow.holds Try.pinned (OpenSpec.upto tokenHoldsSpec)

end Rows
end Go.Proofs.Ytomnjhhpeglcnaa
