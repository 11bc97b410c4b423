/-
  No cell of these rows narrows 'for every input' (looked for: loops, veiled, ifaces, maps, wideKeys, modest, calm, conditions, laid).
  DERIVED. THE GIVEN ROWS OF THIS SEAT. 4 by the template 'for every input the law returns true; each argument reads behind the call as it read before'; 0 by the template 'total and deterministic' (their statements: YtomnjhhpeglcnaaGreatTotals.lean).
  GIVEN WITH THE SEED: the statements are not yours to turn. If you find one false, say at which input.
  Laid BY PROGRAM, IN A SANDBOX (cutbox-rows.mjs): the forced cells as the released guide's own fill.sh prints them over the translation b23fa0a183007f9e… (all of the seat's roots in one cut). By AI agents, Wed Nov 11 2026. No macro, syntax, notation, axiom, sorry.
-/
import Derived.Test.YtomnjhhpeglcnaaGreatChecked
import GoSem.Claim
import GoSem.ClaimJoined
import GoSem.ClaimMapViews
import Derived.JoinedTies
import Derived.KernelRfl
namespace Go.Proofs.YtomnjhhpeglcnaaGreat
/- THE CELL 'sum', in the pinned program and in every row, IS THE sha256 OF THE DUMP (.gsa) THAT YtomnjhhpeglcnaaGreatProg.lean LOADS. Nothing in Lean hashes anything: it is a label: what it is worth is what the hold of that sum in a sandbox is worth. -/
noncomputable def Tryz.pinned : Pinned := { name := "ytomnjhhpeglcnaagreat", sum := "b23fa0a183007f9eedc70f9e04ef27ed9aeec95a41eb24217365098694c1c75d", checked := Tryz.checked }
namespace Rows
def none {H : Type} : Left H := { results := [], args := [] }

/-- 'antiphonlaw06.TokenOpens': WHATEVER THE INPUT: true; the input reads as it did. -/
def tokenOpensSpec : ChangeSpec := { name := "tokenOpens", fn := fun _ => fun
  | [d1, d2, d3] => { results := [.lit (.bool true)], args := [d1, d2, d3] }
  | _ => none }
def tokenOpensRow : OpenClaim := { program := "ytomnjhhpeglcnaagreat", sum := "b23fa0a183007f9eedc70f9e04ef27ed9aeec95a41eb24217365098694c1c75d", func := "antiphon/antiphonlaw06.TokenOpens", spec := "tokenOpens", inPlace := ["internal/bytealg.IndexByteString", "internal/abi.NoEscape"], unfollowed := true, recurses := true, apart := false }
def TokenOpensSaid : Prop := tokenOpensRow.holds Tryz.pinned (OpenSpec.ofChange tokenOpensSpec)

/-- ITS FALSE NEIGHBOUR: 'it returns false'. Refute it at one input. -/
def tokenOpensWrong : ChangeSpec := { name := "tokenOpens", fn := fun _ => fun
  | [d1, d2, d3] => { results := [.lit (.bool false)], args := [d1, d2, d3] }
  | _ => none }
def TokenOpensWrongFalsely : Prop := tokenOpensRow.holds Tryz.pinned (OpenSpec.ofChange tokenOpensWrong)

/-- 'antiphonlaw06.TokenForged': WHATEVER THE INPUT: true; the input reads as it did. -/
def tokenForgedSpec : ChangeSpec := { name := "tokenForged", fn := fun _ => fun
  | [d1, d2, d3, d4, d5, d6, d7, d8] => { results := [.lit (.bool true)], args := [d1, d2, d3, d4, d5, d6, d7, d8] }
  | _ => none }
def tokenForgedRow : OpenClaim := { program := "ytomnjhhpeglcnaagreat", sum := "b23fa0a183007f9eedc70f9e04ef27ed9aeec95a41eb24217365098694c1c75d", func := "antiphon/antiphonlaw06.TokenForged", spec := "tokenForged", inPlace := ["internal/bytealg.IndexByteString", "internal/abi.NoEscape"], unfollowed := true, recurses := true, apart := false }
def TokenForgedSaid : Prop := tokenForgedRow.holds Tryz.pinned (OpenSpec.ofChange tokenForgedSpec)

/-- ITS FALSE NEIGHBOUR: 'it returns false'. Refute it at one input. -/
def tokenForgedWrong : ChangeSpec := { name := "tokenForged", fn := fun _ => fun
  | [d1, d2, d3, d4, d5, d6, d7, d8] => { results := [.lit (.bool false)], args := [d1, d2, d3, d4, d5, d6, d7, d8] }
  | _ => none }
def TokenForgedWrongFalsely : Prop := tokenForgedRow.holds Tryz.pinned (OpenSpec.ofChange tokenForgedWrong)

/-- 'antiphonlaw06.TokenMakes': WHATEVER THE INPUT: true; the input reads as it did. -/
def tokenMakesSpec : ChangeSpec := { name := "tokenMakes", fn := fun _ => fun
  | [d1, d2, d3] => { results := [.lit (.bool true)], args := [d1, d2, d3] }
  | _ => none }
def tokenMakesRow : OpenClaim := { program := "ytomnjhhpeglcnaagreat", sum := "b23fa0a183007f9eedc70f9e04ef27ed9aeec95a41eb24217365098694c1c75d", func := "antiphon/antiphonlaw06.TokenMakes", spec := "tokenMakes", inPlace := ["internal/bytealg.IndexByteString", "internal/abi.NoEscape"], unfollowed := true, recurses := true, apart := false }
def TokenMakesSaid : Prop := tokenMakesRow.holds Tryz.pinned (OpenSpec.ofChange tokenMakesSpec)

/-- ITS FALSE NEIGHBOUR: 'it returns false'. Refute it at one input. -/
def tokenMakesWrong : ChangeSpec := { name := "tokenMakes", fn := fun _ => fun
  | [d1, d2, d3] => { results := [.lit (.bool false)], args := [d1, d2, d3] }
  | _ => none }
def TokenMakesWrongFalsely : Prop := tokenMakesRow.holds Tryz.pinned (OpenSpec.ofChange tokenMakesWrong)

/-- 'antiphonlaw06.TokenKeys': WHATEVER THE INPUT: true; the input reads as it did. -/
def tokenKeysSpec : ChangeSpec := { name := "tokenKeys", fn := fun _ => fun
  | [d1, d2, d3, d4] => { results := [.lit (.bool true)], args := [d1, d2, d3, d4] }
  | _ => none }
def tokenKeysRow : OpenClaim := { program := "ytomnjhhpeglcnaagreat", sum := "b23fa0a183007f9eedc70f9e04ef27ed9aeec95a41eb24217365098694c1c75d", func := "antiphon/antiphonlaw06.TokenKeys", spec := "tokenKeys", inPlace := ["internal/bytealg.IndexByteString", "internal/abi.NoEscape"], unfollowed := true, recurses := true, apart := false }
def TokenKeysSaid : Prop := tokenKeysRow.holds Tryz.pinned (OpenSpec.ofChange tokenKeysSpec)

/-- ITS FALSE NEIGHBOUR: 'it returns false'. Refute it at one input. -/
def tokenKeysWrong : ChangeSpec := { name := "tokenKeys", fn := fun _ => fun
  | [d1, d2, d3, d4] => { results := [.lit (.bool false)], args := [d1, d2, d3, d4] }
  | _ => none }
def TokenKeysWrongFalsely : Prop := tokenKeysRow.holds Tryz.pinned (OpenSpec.ofChange tokenKeysWrong)

/- THE SECOND FORM. 'bulk': how many values and letters a reading holds, each counted each time it is reached (what is shared counts as often as it is met; a slice's spare places count too). A statement '..UptoSaid' is the law's where the arguments, and the package variables that the reading takes, are together of bulk at most 1048576: NARROWER than '..Said'. Prove '..Said' where nothing that the law and all that it calls make is longer than what came in: it says more and counts as full. Else prove '..UptoSaid'. A law counts once. -/
mutual
def uptoBulk {H : Type} : DataW H → Nat
  | .lit (.string bytes) => bytes.length + 1
  | .lit _ => 1
  | .nil => 1
  | .ptr d => uptoBulk d + 1
  | .slice elems spare => uptoBulkAll elems + uptoBulkAll spare + 1
  | .agg parts => uptoBulkAll parts + 1
  | .iface _ d => uptoBulk d + 1
  | .map entries => uptoBulkEntries entries + 1
  | .held _ => 1
def uptoBulkAll {H : Type} : List (DataW H) → Nat
  | [] => 0
  | d :: r => uptoBulk d + uptoBulkAll r
def uptoBulkEntries {H : Type} : List (Lit × DataW H) → Nat
  | [] => 0
  | x :: r => uptoBulkEntry x + uptoBulkEntries r
def uptoBulkEntry {H : Type} : Lit × DataW H → Nat
  | (.string bytes, d) => bytes.length + uptoBulk d + 1
  | (_, d) => uptoBulk d + 1
 end
def uptoSmall : (H : Type) → List (DataW H) → Bool := fun _ ds => decide (uptoBulkAll ds ≤ 1048576)
def OpenSpec.upto (s : _root_.Go.ChangeSpec) : _root_.Go.OpenSpec := { _root_.Go.OpenSpec.ofChange s with cond := some uptoSmall }

/-- 'antiphonlaw06.TokenOpens', WHERE WHAT IT READS IS OF BULK AT MOST 1048576: true; the input reads as it did. -/
def tokenOpensUptoRow : OpenClaim := { program := "ytomnjhhpeglcnaagreat", sum := "b23fa0a183007f9eedc70f9e04ef27ed9aeec95a41eb24217365098694c1c75d", func := "antiphon/antiphonlaw06.TokenOpens", spec := "tokenOpens", inPlace := ["internal/bytealg.IndexByteString", "internal/abi.NoEscape"], unfollowed := true, recurses := true, apart := false, narrowed := true }
def TokenOpensUptoSaid : Prop := tokenOpensUptoRow.holds Tryz.pinned (OpenSpec.upto tokenOpensSpec)

/-- 'antiphonlaw06.TokenForged', WHERE WHAT IT READS IS OF BULK AT MOST 1048576: true; the input reads as it did. -/
def tokenForgedUptoRow : OpenClaim := { program := "ytomnjhhpeglcnaagreat", sum := "b23fa0a183007f9eedc70f9e04ef27ed9aeec95a41eb24217365098694c1c75d", func := "antiphon/antiphonlaw06.TokenForged", spec := "tokenForged", inPlace := ["internal/bytealg.IndexByteString", "internal/abi.NoEscape"], unfollowed := true, recurses := true, apart := false, narrowed := true }
def TokenForgedUptoSaid : Prop := tokenForgedUptoRow.holds Tryz.pinned (OpenSpec.upto tokenForgedSpec)

/-- 'antiphonlaw06.TokenMakes', WHERE WHAT IT READS IS OF BULK AT MOST 1048576: true; the input reads as it did. -/
def tokenMakesUptoRow : OpenClaim := { program := "ytomnjhhpeglcnaagreat", sum := "b23fa0a183007f9eedc70f9e04ef27ed9aeec95a41eb24217365098694c1c75d", func := "antiphon/antiphonlaw06.TokenMakes", spec := "tokenMakes", inPlace := ["internal/bytealg.IndexByteString", "internal/abi.NoEscape"], unfollowed := true, recurses := true, apart := false, narrowed := true }
def TokenMakesUptoSaid : Prop := tokenMakesUptoRow.holds Tryz.pinned (OpenSpec.upto tokenMakesSpec)

/-- 'antiphonlaw06.TokenKeys', WHERE WHAT IT READS IS OF BULK AT MOST 1048576: true; the input reads as it did. -/
def tokenKeysUptoRow : OpenClaim := { program := "ytomnjhhpeglcnaagreat", sum := "b23fa0a183007f9eedc70f9e04ef27ed9aeec95a41eb24217365098694c1c75d", func := "antiphon/antiphonlaw06.TokenKeys", spec := "tokenKeys", inPlace := ["internal/bytealg.IndexByteString", "internal/abi.NoEscape"], unfollowed := true, recurses := true, apart := false, narrowed := true }
def TokenKeysUptoSaid : Prop := tokenKeysUptoRow.holds Tryz.pinned (OpenSpec.upto tokenKeysSpec)

end Rows
end Go.Proofs.YtomnjhhpeglcnaaGreat
