/-
  No cell of these rows narrows 'for every input' (looked for: loops, veiled, ifaces, maps, wideKeys, modest, calm, conditions, laid).
  DERIVED. THE GIVEN ROWS OF THIS SEAT. 7 by the template 'for every input the law returns true; each argument reads behind the call as it read before'; 0 by the template 'total and deterministic' (their statements: YticgknjjhkgggaaTotals.lean).
  GIVEN WITH THE SEED: the statements are not yours to turn. If you find one false, say at which input.
  Laid BY PROGRAM, IN A SANDBOX (cutbox-rows.mjs): the forced cells as the released guide's own fill.sh prints them over the translation 905c2978e909e7f7… (all of the seat's roots in one cut). By AI agents, Wed Nov 11 2026. No macro, syntax, notation, axiom, sorry.
-/
import Derived.Test.YticgknjjhkgggaaChecked
import GoSem.Claim
import GoSem.ClaimJoined
import GoSem.ClaimMapViews
import Derived.JoinedTies
import Derived.KernelRfl
namespace Go.Proofs.Yticgknjjhkgggaa
/- THE CELL 'sum', in the pinned program and in every row, IS THE sha256 OF THE DUMP (.gsa) THAT YticgknjjhkgggaaProg.lean LOADS. Nothing in Lean hashes anything: it is a label: what it is worth is what the hold of that sum in a sandbox is worth. -/
noncomputable def Try.pinned : Pinned := { name := "yticgknjjhkgggaa", sum := "905c2978e909e7f7f7828cf608528e62ed63b5ecb39f917c2d5bb4723bc49c43", checked := Try.checked }
namespace Rows
def none {H : Type} : Left H := { results := [], args := [] }

/-- 'antiphonlaw04.BlakeMix': WHATEVER THE INPUT: true; the input reads as it did. -/
def blakeMixSpec : ChangeSpec := { name := "blakeMix", fn := fun _ => fun
  | [d1, d2, d3] => { results := [.lit (.bool true)], args := [d1, d2, d3] }
  | _ => none }
def blakeMixRow : OpenClaim := { program := "yticgknjjhkgggaa", sum := "905c2978e909e7f7f7828cf608528e62ed63b5ecb39f917c2d5bb4723bc49c43", func := "antiphon/antiphonlaw04.BlakeMix", spec := "blakeMix", unfollowed := true, recurses := true, apart := false }
def BlakeMixSaid : Prop := blakeMixRow.holds Try.pinned (OpenSpec.ofChange blakeMixSpec)

/-- ITS FALSE NEIGHBOUR: 'it returns false'. Refute it at one input. -/
def blakeMixWrong : ChangeSpec := { name := "blakeMix", fn := fun _ => fun
  | [d1, d2, d3] => { results := [.lit (.bool false)], args := [d1, d2, d3] }
  | _ => none }
def BlakeMixWrongFalsely : Prop := blakeMixRow.holds Try.pinned (OpenSpec.ofChange blakeMixWrong)

/-- 'antiphonlaw04.BlakePress': WHATEVER THE INPUT: true; the input reads as it did. -/
def blakePressSpec : ChangeSpec := { name := "blakePress", fn := fun _ => fun
  | [d1, d2, d3, d4] => { results := [.lit (.bool true)], args := [d1, d2, d3, d4] }
  | _ => none }
def blakePressRow : OpenClaim := { program := "yticgknjjhkgggaa", sum := "905c2978e909e7f7f7828cf608528e62ed63b5ecb39f917c2d5bb4723bc49c43", func := "antiphon/antiphonlaw04.BlakePress", spec := "blakePress", unfollowed := true, recurses := true, apart := false }
def BlakePressSaid : Prop := blakePressRow.holds Try.pinned (OpenSpec.ofChange blakePressSpec)

/-- ITS FALSE NEIGHBOUR: 'it returns false'. Refute it at one input. -/
def blakePressWrong : ChangeSpec := { name := "blakePress", fn := fun _ => fun
  | [d1, d2, d3, d4] => { results := [.lit (.bool false)], args := [d1, d2, d3, d4] }
  | _ => none }
def BlakePressWrongFalsely : Prop := blakePressRow.holds Try.pinned (OpenSpec.ofChange blakePressWrong)

/-- 'antiphonlaw04.BlakeSums': WHATEVER THE INPUT: true; the input reads as it did. -/
def blakeSumsSpec : ChangeSpec := { name := "blakeSums", fn := fun _ => fun
  | [d] => { results := [.lit (.bool true)], args := [d] }
  | _ => none }
def blakeSumsRow : OpenClaim := { program := "yticgknjjhkgggaa", sum := "905c2978e909e7f7f7828cf608528e62ed63b5ecb39f917c2d5bb4723bc49c43", func := "antiphon/antiphonlaw04.BlakeSums", spec := "blakeSums", unfollowed := true, recurses := true, apart := false }
def BlakeSumsSaid : Prop := blakeSumsRow.holds Try.pinned (OpenSpec.ofChange blakeSumsSpec)

/-- ITS FALSE NEIGHBOUR: 'it returns false'. Refute it at one input. -/
def blakeSumsWrong : ChangeSpec := { name := "blakeSums", fn := fun _ => fun
  | [d] => { results := [.lit (.bool false)], args := [d] }
  | _ => none }
def BlakeSumsWrongFalsely : Prop := blakeSumsRow.holds Try.pinned (OpenSpec.ofChange blakeSumsWrong)

/-- 'antiphonlaw04.BlakeKeyed': WHATEVER THE INPUT: true; the input reads as it did. -/
def blakeKeyedSpec : ChangeSpec := { name := "blakeKeyed", fn := fun _ => fun
  | [d1, d2, d3] => { results := [.lit (.bool true)], args := [d1, d2, d3] }
  | _ => none }
def blakeKeyedRow : OpenClaim := { program := "yticgknjjhkgggaa", sum := "905c2978e909e7f7f7828cf608528e62ed63b5ecb39f917c2d5bb4723bc49c43", func := "antiphon/antiphonlaw04.BlakeKeyed", spec := "blakeKeyed", unfollowed := true, recurses := true, apart := false }
def BlakeKeyedSaid : Prop := blakeKeyedRow.holds Try.pinned (OpenSpec.ofChange blakeKeyedSpec)

/-- ITS FALSE NEIGHBOUR: 'it returns false'. Refute it at one input. -/
def blakeKeyedWrong : ChangeSpec := { name := "blakeKeyed", fn := fun _ => fun
  | [d1, d2, d3] => { results := [.lit (.bool false)], args := [d1, d2, d3] }
  | _ => none }
def BlakeKeyedWrongFalsely : Prop := blakeKeyedRow.holds Try.pinned (OpenSpec.ofChange blakeKeyedWrong)

/-- 'antiphonlaw04.BlakeCuts': WHATEVER THE INPUT: true; the input reads as it did. -/
def blakeCutsSpec : ChangeSpec := { name := "blakeCuts", fn := fun _ => fun
  | [d1, d2, d3, d4, d5] => { results := [.lit (.bool true)], args := [d1, d2, d3, d4, d5] }
  | _ => none }
def blakeCutsRow : OpenClaim := { program := "yticgknjjhkgggaa", sum := "905c2978e909e7f7f7828cf608528e62ed63b5ecb39f917c2d5bb4723bc49c43", func := "antiphon/antiphonlaw04.BlakeCuts", spec := "blakeCuts", unfollowed := true, recurses := true, apart := false }
def BlakeCutsSaid : Prop := blakeCutsRow.holds Try.pinned (OpenSpec.ofChange blakeCutsSpec)

/-- ITS FALSE NEIGHBOUR: 'it returns false'. Refute it at one input. -/
def blakeCutsWrong : ChangeSpec := { name := "blakeCuts", fn := fun _ => fun
  | [d1, d2, d3, d4, d5] => { results := [.lit (.bool false)], args := [d1, d2, d3, d4, d5] }
  | _ => none }
def BlakeCutsWrongFalsely : Prop := blakeCutsRow.holds Try.pinned (OpenSpec.ofChange blakeCutsWrong)

/-- 'antiphonlaw04.BlakeCopies': WHATEVER THE INPUT: true; the input reads as it did. -/
def blakeCopiesSpec : ChangeSpec := { name := "blakeCopies", fn := fun _ => fun
  | [d1, d2, d3, d4, d5] => { results := [.lit (.bool true)], args := [d1, d2, d3, d4, d5] }
  | _ => none }
def blakeCopiesRow : OpenClaim := { program := "yticgknjjhkgggaa", sum := "905c2978e909e7f7f7828cf608528e62ed63b5ecb39f917c2d5bb4723bc49c43", func := "antiphon/antiphonlaw04.BlakeCopies", spec := "blakeCopies", unfollowed := true, recurses := true, apart := false }
def BlakeCopiesSaid : Prop := blakeCopiesRow.holds Try.pinned (OpenSpec.ofChange blakeCopiesSpec)

/-- ITS FALSE NEIGHBOUR: 'it returns false'. Refute it at one input. -/
def blakeCopiesWrong : ChangeSpec := { name := "blakeCopies", fn := fun _ => fun
  | [d1, d2, d3, d4, d5] => { results := [.lit (.bool false)], args := [d1, d2, d3, d4, d5] }
  | _ => none }
def BlakeCopiesWrongFalsely : Prop := blakeCopiesRow.holds Try.pinned (OpenSpec.ofChange blakeCopiesWrong)

/-- 'antiphonlaw04.BlakeWrites': WHATEVER THE INPUT: true; the input reads as it did. -/
def blakeWritesSpec : ChangeSpec := { name := "blakeWrites", fn := fun _ => fun
  | [d1, d2, d3] => { results := [.lit (.bool true)], args := [d1, d2, d3] }
  | _ => none }
def blakeWritesRow : OpenClaim := { program := "yticgknjjhkgggaa", sum := "905c2978e909e7f7f7828cf608528e62ed63b5ecb39f917c2d5bb4723bc49c43", func := "antiphon/antiphonlaw04.BlakeWrites", spec := "blakeWrites", unfollowed := true, recurses := true, apart := false }
def BlakeWritesSaid : Prop := blakeWritesRow.holds Try.pinned (OpenSpec.ofChange blakeWritesSpec)

/-- ITS FALSE NEIGHBOUR: 'it returns false'. Refute it at one input. -/
def blakeWritesWrong : ChangeSpec := { name := "blakeWrites", fn := fun _ => fun
  | [d1, d2, d3] => { results := [.lit (.bool false)], args := [d1, d2, d3] }
  | _ => none }
def BlakeWritesWrongFalsely : Prop := blakeWritesRow.holds Try.pinned (OpenSpec.ofChange blakeWritesWrong)

/- THE SECOND FORM. 'bulk': how many values and letters a reading holds, each counted each time it is reached (what is shared counts as often as it is met; a slice's spare places count too). A statement '..UptoSaid' is the law's where the arguments, and the package variables that the reading takes, are together of bulk at most 1048576: NARROWER than '..Said'. Prove '..Said' where nothing that the law and all that it calls make is longer than what came in: it says more and counts as full. Else prove '..UptoSaid'. A law counts once. -/
mutual
def uptoBulk {H : Type} : DataW H → Nat
  | .lit (.string bytes) => bytes.length + 1
  | .lit _ => 1
  | .nil => 1
  | .ptr d => uptoBulk d + 1
  | .slice elems spare => uptoBulkAll elems + uptoBulkAll spare + 1
  | .agg parts => uptoBulkAll parts + 1
  | .iface _ d => uptoBulk d + 1
  | .map entries => uptoBulkEntries entries + 1
  | .held _ => 1
def uptoBulkAll {H : Type} : List (DataW H) → Nat
  | [] => 0
  | d :: r => uptoBulk d + uptoBulkAll r
def uptoBulkEntries {H : Type} : List (Lit × DataW H) → Nat
  | [] => 0
  | x :: r => uptoBulkEntry x + uptoBulkEntries r
def uptoBulkEntry {H : Type} : Lit × DataW H → Nat
  | (.string bytes, d) => bytes.length + uptoBulk d + 1
  | (_, d) => uptoBulk d + 1
 end
def uptoSmall : (H : Type) → List (DataW H) → Bool := fun _ ds => decide (uptoBulkAll ds ≤ 1048576)
def OpenSpec.upto (s : _root_.Go.ChangeSpec) : _root_.Go.OpenSpec := { _root_.Go.OpenSpec.ofChange s with cond := some uptoSmall }

/-- 'antiphonlaw04.BlakeMix', WHERE WHAT IT READS IS OF BULK AT MOST 1048576: true; the input reads as it did. -/
def blakeMixUptoRow : OpenClaim := { program := "yticgknjjhkgggaa", sum := "905c2978e909e7f7f7828cf608528e62ed63b5ecb39f917c2d5bb4723bc49c43", func := "antiphon/antiphonlaw04.BlakeMix", spec := "blakeMix", unfollowed := true, recurses := true, apart := false, narrowed := true }
def BlakeMixUptoSaid : Prop := blakeMixUptoRow.holds Try.pinned (OpenSpec.upto blakeMixSpec)

/-- 'antiphonlaw04.BlakePress', WHERE WHAT IT READS IS OF BULK AT MOST 1048576: true; the input reads as it did. -/
def blakePressUptoRow : OpenClaim := { program := "yticgknjjhkgggaa", sum := "905c2978e909e7f7f7828cf608528e62ed63b5ecb39f917c2d5bb4723bc49c43", func := "antiphon/antiphonlaw04.BlakePress", spec := "blakePress", unfollowed := true, recurses := true, apart := false, narrowed := true }
def BlakePressUptoSaid : Prop := blakePressUptoRow.holds Try.pinned (OpenSpec.upto blakePressSpec)

/-- 'antiphonlaw04.BlakeSums', WHERE WHAT IT READS IS OF BULK AT MOST 1048576: true; the input reads as it did. -/
def blakeSumsUptoRow : OpenClaim := { program := "yticgknjjhkgggaa", sum := "905c2978e909e7f7f7828cf608528e62ed63b5ecb39f917c2d5bb4723bc49c43", func := "antiphon/antiphonlaw04.BlakeSums", spec := "blakeSums", unfollowed := true, recurses := true, apart := false, narrowed := true }
def BlakeSumsUptoSaid : Prop := blakeSumsUptoRow.holds Try.pinned (OpenSpec.upto blakeSumsSpec)

/-- 'antiphonlaw04.BlakeKeyed', WHERE WHAT IT READS IS OF BULK AT MOST 1048576: true; the input reads as it did. -/
def blakeKeyedUptoRow : OpenClaim := { program := "yticgknjjhkgggaa", sum := "905c2978e909e7f7f7828cf608528e62ed63b5ecb39f917c2d5bb4723bc49c43", func := "antiphon/antiphonlaw04.BlakeKeyed", spec := "blakeKeyed", unfollowed := true, recurses := true, apart := false, narrowed := true }
def BlakeKeyedUptoSaid : Prop := blakeKeyedUptoRow.holds Try.pinned (OpenSpec.upto blakeKeyedSpec)

/-- 'antiphonlaw04.BlakeCuts', WHERE WHAT IT READS IS OF BULK AT MOST 1048576: true; the input reads as it did. -/
def blakeCutsUptoRow : OpenClaim := { program := "yticgknjjhkgggaa", sum := "905c2978e909e7f7f7828cf608528e62ed63b5ecb39f917c2d5bb4723bc49c43", func := "antiphon/antiphonlaw04.BlakeCuts", spec := "blakeCuts", unfollowed := true, recurses := true, apart := false, narrowed := true }
def BlakeCutsUptoSaid : Prop := blakeCutsUptoRow.holds Try.pinned (OpenSpec.upto blakeCutsSpec)

/-- 'antiphonlaw04.BlakeCopies', WHERE WHAT IT READS IS OF BULK AT MOST 1048576: true; the input reads as it did. -/
def blakeCopiesUptoRow : OpenClaim := { program := "yticgknjjhkgggaa", sum := "905c2978e909e7f7f7828cf608528e62ed63b5ecb39f917c2d5bb4723bc49c43", func := "antiphon/antiphonlaw04.BlakeCopies", spec := "blakeCopies", unfollowed := true, recurses := true, apart := false, narrowed := true }
def BlakeCopiesUptoSaid : Prop := blakeCopiesUptoRow.holds Try.pinned (OpenSpec.upto blakeCopiesSpec)

/-- 'antiphonlaw04.BlakeWrites', WHERE WHAT IT READS IS OF BULK AT MOST 1048576: true; the input reads as it did. -/
def blakeWritesUptoRow : OpenClaim := { program := "yticgknjjhkgggaa", sum := "905c2978e909e7f7f7828cf608528e62ed63b5ecb39f917c2d5bb4723bc49c43", func := "antiphon/antiphonlaw04.BlakeWrites", spec := "blakeWrites", unfollowed := true, recurses := true, apart := false, narrowed := true }
def BlakeWritesUptoSaid : Prop := blakeWritesUptoRow.holds Try.pinned (OpenSpec.upto blakeWritesSpec)

end Rows
end Go.Proofs.Yticgknjjhkgggaa
