/-
  No cell of these rows narrows 'for every input' (looked for: loops, veiled, ifaces, maps, wideKeys, modest, calm, conditions, laid).
  DERIVED. THE GIVEN ROWS OF THIS SEAT. 9 by the template 'for every input the law returns true; each argument reads behind the call as it read before'; 0 by the template 'total and deterministic' (their statements: YtojnnfhalpefmaaTotals.lean).
  GIVEN WITH THE SEED: the statements are not yours to turn. If you find one false, say at which input.
  Laid BY PROGRAM, IN A SANDBOX (cutbox-rows.mjs): the forced cells as the released guide's own fill.sh prints them over the translation ff545fd0b64323a3… (all of the seat's roots in one cut). By AI agents, Wed Nov 11 2026. No macro, syntax, notation, axiom, sorry.
-/
import Derived.Test.YtojnnfhalpefmaaChecked
import GoSem.Claim
import GoSem.ClaimJoined
import GoSem.ClaimMapViews
import Derived.JoinedTies
import Derived.KernelRfl
namespace Go.Proofs.Ytojnnfhalpefmaa
/- THE CELL 'sum', in the pinned program and in every row, IS THE sha256 OF THE DUMP (.gsa) THAT YtojnnfhalpefmaaProg.lean LOADS. Nothing in Lean hashes anything: it is a label: what it is worth is what the hold of that sum in a sandbox is worth. -/
noncomputable def Try.pinned : Pinned := { name := "ytojnnfhalpefmaa", sum := "ff545fd0b64323a308c2a5abdabc3d8eb99c3ab3fdca017eea1d1c1568719164", checked := Try.checked }
namespace Rows
def none {H : Type} : Left H := { results := [], args := [] }

/-- 'toruslaw04.ColumnSpace': WHATEVER THE INPUT: true; the input reads as it did. -/
def columnSpaceSpec : ChangeSpec := { name := "columnSpace", fn := fun _ => fun
  | [d1, d2, d3, d4] => { results := [.lit (.bool true)], args := [d1, d2, d3, d4] }
  | _ => none }
def columnSpaceRow : OpenClaim := { program := "ytojnnfhalpefmaa", sum := "ff545fd0b64323a308c2a5abdabc3d8eb99c3ab3fdca017eea1d1c1568719164", func := "torus/toruslaw04.ColumnSpace", spec := "columnSpace", unfollowed := true, recurses := true, apart := false }
def ColumnSpaceSaid : Prop := columnSpaceRow.holds Try.pinned (OpenSpec.ofChange columnSpaceSpec)

/-- ITS FALSE NEIGHBOUR: 'it returns false'. Refute it at one input. -/
def columnSpaceWrong : ChangeSpec := { name := "columnSpace", fn := fun _ => fun
  | [d1, d2, d3, d4] => { results := [.lit (.bool false)], args := [d1, d2, d3, d4] }
  | _ => none }
def ColumnSpaceWrongFalsely : Prop := columnSpaceRow.holds Try.pinned (OpenSpec.ofChange columnSpaceWrong)

/-- 'toruslaw04.ColumnMatches': WHATEVER THE INPUT: true; the input reads as it did. -/
def columnMatchesSpec : ChangeSpec := { name := "columnMatches", fn := fun _ => fun
  | [d1, d2, d3, d4, d5] => { results := [.lit (.bool true)], args := [d1, d2, d3, d4, d5] }
  | _ => none }
def columnMatchesRow : OpenClaim := { program := "ytojnnfhalpefmaa", sum := "ff545fd0b64323a308c2a5abdabc3d8eb99c3ab3fdca017eea1d1c1568719164", func := "torus/toruslaw04.ColumnMatches", spec := "columnMatches", unfollowed := true, recurses := true, apart := false }
def ColumnMatchesSaid : Prop := columnMatchesRow.holds Try.pinned (OpenSpec.ofChange columnMatchesSpec)

/-- ITS FALSE NEIGHBOUR: 'it returns false'. Refute it at one input. -/
def columnMatchesWrong : ChangeSpec := { name := "columnMatches", fn := fun _ => fun
  | [d1, d2, d3, d4, d5] => { results := [.lit (.bool false)], args := [d1, d2, d3, d4, d5] }
  | _ => none }
def ColumnMatchesWrongFalsely : Prop := columnMatchesRow.holds Try.pinned (OpenSpec.ofChange columnMatchesWrong)

/-- 'toruslaw04.ColumnDenseMatches': WHATEVER THE INPUT: true; the input reads as it did. -/
def columnDenseMatchesSpec : ChangeSpec := { name := "columnDenseMatches", fn := fun _ => fun
  | [d1, d2, d3, d4] => { results := [.lit (.bool true)], args := [d1, d2, d3, d4] }
  | _ => none }
def columnDenseMatchesRow : OpenClaim := { program := "ytojnnfhalpefmaa", sum := "ff545fd0b64323a308c2a5abdabc3d8eb99c3ab3fdca017eea1d1c1568719164", func := "torus/toruslaw04.ColumnDenseMatches", spec := "columnDenseMatches", unfollowed := true, recurses := true, apart := false }
def ColumnDenseMatchesSaid : Prop := columnDenseMatchesRow.holds Try.pinned (OpenSpec.ofChange columnDenseMatchesSpec)

/-- ITS FALSE NEIGHBOUR: 'it returns false'. Refute it at one input. -/
def columnDenseMatchesWrong : ChangeSpec := { name := "columnDenseMatches", fn := fun _ => fun
  | [d1, d2, d3, d4] => { results := [.lit (.bool false)], args := [d1, d2, d3, d4] }
  | _ => none }
def ColumnDenseMatchesWrongFalsely : Prop := columnDenseMatchesRow.holds Try.pinned (OpenSpec.ofChange columnDenseMatchesWrong)

/-- 'toruslaw04.ColumnBasis': WHATEVER THE INPUT: true; the input reads as it did. -/
def columnBasisSpec : ChangeSpec := { name := "columnBasis", fn := fun _ => fun
  | [d1, d2, d3] => { results := [.lit (.bool true)], args := [d1, d2, d3] }
  | _ => none }
def columnBasisRow : OpenClaim := { program := "ytojnnfhalpefmaa", sum := "ff545fd0b64323a308c2a5abdabc3d8eb99c3ab3fdca017eea1d1c1568719164", func := "torus/toruslaw04.ColumnBasis", spec := "columnBasis", unfollowed := true, recurses := true, apart := false }
def ColumnBasisSaid : Prop := columnBasisRow.holds Try.pinned (OpenSpec.ofChange columnBasisSpec)

/-- ITS FALSE NEIGHBOUR: 'it returns false'. Refute it at one input. -/
def columnBasisWrong : ChangeSpec := { name := "columnBasis", fn := fun _ => fun
  | [d1, d2, d3] => { results := [.lit (.bool false)], args := [d1, d2, d3] }
  | _ => none }
def ColumnBasisWrongFalsely : Prop := columnBasisRow.holds Try.pinned (OpenSpec.ofChange columnBasisWrong)

/-- 'toruslaw04.ColumnListsMatch': WHATEVER THE INPUT: true; the input reads as it did. -/
def columnListsMatchSpec : ChangeSpec := { name := "columnListsMatch", fn := fun _ => fun
  | [d1, d2, d3] => { results := [.lit (.bool true)], args := [d1, d2, d3] }
  | _ => none }
def columnListsMatchRow : OpenClaim := { program := "ytojnnfhalpefmaa", sum := "ff545fd0b64323a308c2a5abdabc3d8eb99c3ab3fdca017eea1d1c1568719164", func := "torus/toruslaw04.ColumnListsMatch", spec := "columnListsMatch", unfollowed := true, recurses := true, apart := false }
def ColumnListsMatchSaid : Prop := columnListsMatchRow.holds Try.pinned (OpenSpec.ofChange columnListsMatchSpec)

/-- ITS FALSE NEIGHBOUR: 'it returns false'. Refute it at one input. -/
def columnListsMatchWrong : ChangeSpec := { name := "columnListsMatch", fn := fun _ => fun
  | [d1, d2, d3] => { results := [.lit (.bool false)], args := [d1, d2, d3] }
  | _ => none }
def ColumnListsMatchWrongFalsely : Prop := columnListsMatchRow.holds Try.pinned (OpenSpec.ofChange columnListsMatchWrong)

/-- 'toruslaw04.ColumnKernel': WHATEVER THE INPUT: true; the input reads as it did. -/
def columnKernelSpec : ChangeSpec := { name := "columnKernel", fn := fun _ => fun
  | [d1, d2] => { results := [.lit (.bool true)], args := [d1, d2] }
  | _ => none }
def columnKernelRow : OpenClaim := { program := "ytojnnfhalpefmaa", sum := "ff545fd0b64323a308c2a5abdabc3d8eb99c3ab3fdca017eea1d1c1568719164", func := "torus/toruslaw04.ColumnKernel", spec := "columnKernel", unfollowed := true, recurses := true, apart := false }
def ColumnKernelSaid : Prop := columnKernelRow.holds Try.pinned (OpenSpec.ofChange columnKernelSpec)

/-- ITS FALSE NEIGHBOUR: 'it returns false'. Refute it at one input. -/
def columnKernelWrong : ChangeSpec := { name := "columnKernel", fn := fun _ => fun
  | [d1, d2] => { results := [.lit (.bool false)], args := [d1, d2] }
  | _ => none }
def ColumnKernelWrongFalsely : Prop := columnKernelRow.holds Try.pinned (OpenSpec.ofChange columnKernelWrong)

/-- 'toruslaw04.ColumnRest': WHATEVER THE INPUT: true; the input reads as it did. -/
def columnRestSpec : ChangeSpec := { name := "columnRest", fn := fun _ => fun
  | [d1, d2, d3] => { results := [.lit (.bool true)], args := [d1, d2, d3] }
  | _ => none }
def columnRestRow : OpenClaim := { program := "ytojnnfhalpefmaa", sum := "ff545fd0b64323a308c2a5abdabc3d8eb99c3ab3fdca017eea1d1c1568719164", func := "torus/toruslaw04.ColumnRest", spec := "columnRest", unfollowed := true, recurses := true, apart := false }
def ColumnRestSaid : Prop := columnRestRow.holds Try.pinned (OpenSpec.ofChange columnRestSpec)

/-- ITS FALSE NEIGHBOUR: 'it returns false'. Refute it at one input. -/
def columnRestWrong : ChangeSpec := { name := "columnRest", fn := fun _ => fun
  | [d1, d2, d3] => { results := [.lit (.bool false)], args := [d1, d2, d3] }
  | _ => none }
def ColumnRestWrongFalsely : Prop := columnRestRow.holds Try.pinned (OpenSpec.ofChange columnRestWrong)

/-- 'toruslaw04.ColumnDense': WHATEVER THE INPUT: true; the input reads as it did. -/
def columnDenseSpec : ChangeSpec := { name := "columnDense", fn := fun _ => fun
  | [d1, d2, d3, d4] => { results := [.lit (.bool true)], args := [d1, d2, d3, d4] }
  | _ => none }
def columnDenseRow : OpenClaim := { program := "ytojnnfhalpefmaa", sum := "ff545fd0b64323a308c2a5abdabc3d8eb99c3ab3fdca017eea1d1c1568719164", func := "torus/toruslaw04.ColumnDense", spec := "columnDense", unfollowed := true, recurses := true, apart := false }
def ColumnDenseSaid : Prop := columnDenseRow.holds Try.pinned (OpenSpec.ofChange columnDenseSpec)

/-- ITS FALSE NEIGHBOUR: 'it returns false'. Refute it at one input. -/
def columnDenseWrong : ChangeSpec := { name := "columnDense", fn := fun _ => fun
  | [d1, d2, d3, d4] => { results := [.lit (.bool false)], args := [d1, d2, d3, d4] }
  | _ => none }
def ColumnDenseWrongFalsely : Prop := columnDenseRow.holds Try.pinned (OpenSpec.ofChange columnDenseWrong)

/-- 'toruslaw04.ColumnExamples': WHATEVER THE INPUT: true; the input reads as it did. -/
def columnExamplesSpec : ChangeSpec := { name := "columnExamples", fn := fun _ => fun
  | [] => { results := [.lit (.bool true)], args := [] }
  | _ => none }
def columnExamplesRow : OpenClaim := { program := "ytojnnfhalpefmaa", sum := "ff545fd0b64323a308c2a5abdabc3d8eb99c3ab3fdca017eea1d1c1568719164", func := "torus/toruslaw04.ColumnExamples", spec := "columnExamples", unfollowed := true, recurses := true, apart := false }
def ColumnExamplesSaid : Prop := columnExamplesRow.holds Try.pinned (OpenSpec.ofChange columnExamplesSpec)

/-- ITS FALSE NEIGHBOUR: 'it returns false'. Refute it at one input. -/
def columnExamplesWrong : ChangeSpec := { name := "columnExamples", fn := fun _ => fun
  | [] => { results := [.lit (.bool false)], args := [] }
  | _ => none }
def ColumnExamplesWrongFalsely : Prop := columnExamplesRow.holds Try.pinned (OpenSpec.ofChange columnExamplesWrong)

/- THE SECOND FORM. 'bulk': how many values and letters a reading holds, each counted each time it is reached (what is shared counts as often as it is met; a slice's spare places count too). A statement '..UptoSaid' is the law's where the arguments, and the package variables that the reading takes, are together of bulk at most 1048576: NARROWER than '..Said'. Prove '..Said' where nothing that the law and all that it calls make is longer than what came in: it says more and counts as full. Else prove '..UptoSaid'. A law counts once. -/
mutual
def uptoBulk {H : Type} : DataW H → Nat
  | .lit (.string bytes) => bytes.length + 1
  | .lit _ => 1
  | .nil => 1
  | .ptr d => uptoBulk d + 1
  | .slice elems spare => uptoBulkAll elems + uptoBulkAll spare + 1
  | .agg parts => uptoBulkAll parts + 1
  | .iface _ d => uptoBulk d + 1
  | .map entries => uptoBulkEntries entries + 1
  | .held _ => 1
def uptoBulkAll {H : Type} : List (DataW H) → Nat
  | [] => 0
  | d :: r => uptoBulk d + uptoBulkAll r
def uptoBulkEntries {H : Type} : List (Lit × DataW H) → Nat
  | [] => 0
  | x :: r => uptoBulkEntry x + uptoBulkEntries r
def uptoBulkEntry {H : Type} : Lit × DataW H → Nat
  | (.string bytes, d) => bytes.length + uptoBulk d + 1
  | (_, d) => uptoBulk d + 1
 end
def uptoSmall : (H : Type) → List (DataW H) → Bool := fun _ ds => decide (uptoBulkAll ds ≤ 1048576)
def OpenSpec.upto (s : _root_.Go.ChangeSpec) : _root_.Go.OpenSpec := { _root_.Go.OpenSpec.ofChange s with cond := some uptoSmall }

/-- 'toruslaw04.ColumnSpace', WHERE WHAT IT READS IS OF BULK AT MOST 1048576: true; the input reads as it did. -/
def columnSpaceUptoRow : OpenClaim := { program := "ytojnnfhalpefmaa", sum := "ff545fd0b64323a308c2a5abdabc3d8eb99c3ab3fdca017eea1d1c1568719164", func := "torus/toruslaw04.ColumnSpace", spec := "columnSpace", unfollowed := true, recurses := true, apart := false, narrowed := true }
def ColumnSpaceUptoSaid : Prop := columnSpaceUptoRow.holds Try.pinned (OpenSpec.upto columnSpaceSpec)

/-- 'toruslaw04.ColumnMatches', WHERE WHAT IT READS IS OF BULK AT MOST 1048576: true; the input reads as it did. -/
def columnMatchesUptoRow : OpenClaim := { program := "ytojnnfhalpefmaa", sum := "ff545fd0b64323a308c2a5abdabc3d8eb99c3ab3fdca017eea1d1c1568719164", func := "torus/toruslaw04.ColumnMatches", spec := "columnMatches", unfollowed := true, recurses := true, apart := false, narrowed := true }
def ColumnMatchesUptoSaid : Prop := columnMatchesUptoRow.holds Try.pinned (OpenSpec.upto columnMatchesSpec)

/-- 'toruslaw04.ColumnDenseMatches', WHERE WHAT IT READS IS OF BULK AT MOST 1048576: true; the input reads as it did. -/
def columnDenseMatchesUptoRow : OpenClaim := { program := "ytojnnfhalpefmaa", sum := "ff545fd0b64323a308c2a5abdabc3d8eb99c3ab3fdca017eea1d1c1568719164", func := "torus/toruslaw04.ColumnDenseMatches", spec := "columnDenseMatches", unfollowed := true, recurses := true, apart := false, narrowed := true }
def ColumnDenseMatchesUptoSaid : Prop := columnDenseMatchesUptoRow.holds Try.pinned (OpenSpec.upto columnDenseMatchesSpec)

/-- 'toruslaw04.ColumnBasis', WHERE WHAT IT READS IS OF BULK AT MOST 1048576: true; the input reads as it did. -/
def columnBasisUptoRow : OpenClaim := { program := "ytojnnfhalpefmaa", sum := "ff545fd0b64323a308c2a5abdabc3d8eb99c3ab3fdca017eea1d1c1568719164", func := "torus/toruslaw04.ColumnBasis", spec := "columnBasis", unfollowed := true, recurses := true, apart := false, narrowed := true }
def ColumnBasisUptoSaid : Prop := columnBasisUptoRow.holds Try.pinned (OpenSpec.upto columnBasisSpec)

/-- 'toruslaw04.ColumnListsMatch', WHERE WHAT IT READS IS OF BULK AT MOST 1048576: true; the input reads as it did. -/
def columnListsMatchUptoRow : OpenClaim := { program := "ytojnnfhalpefmaa", sum := "ff545fd0b64323a308c2a5abdabc3d8eb99c3ab3fdca017eea1d1c1568719164", func := "torus/toruslaw04.ColumnListsMatch", spec := "columnListsMatch", unfollowed := true, recurses := true, apart := false, narrowed := true }
def ColumnListsMatchUptoSaid : Prop := columnListsMatchUptoRow.holds Try.pinned (OpenSpec.upto columnListsMatchSpec)

/-- 'toruslaw04.ColumnKernel', WHERE WHAT IT READS IS OF BULK AT MOST 1048576: true; the input reads as it did. -/
def columnKernelUptoRow : OpenClaim := { program := "ytojnnfhalpefmaa", sum := "ff545fd0b64323a308c2a5abdabc3d8eb99c3ab3fdca017eea1d1c1568719164", func := "torus/toruslaw04.ColumnKernel", spec := "columnKernel", unfollowed := true, recurses := true, apart := false, narrowed := true }
def ColumnKernelUptoSaid : Prop := columnKernelUptoRow.holds Try.pinned (OpenSpec.upto columnKernelSpec)

/-- 'toruslaw04.ColumnRest', WHERE WHAT IT READS IS OF BULK AT MOST 1048576: true; the input reads as it did. -/
def columnRestUptoRow : OpenClaim := { program := "ytojnnfhalpefmaa", sum := "ff545fd0b64323a308c2a5abdabc3d8eb99c3ab3fdca017eea1d1c1568719164", func := "torus/toruslaw04.ColumnRest", spec := "columnRest", unfollowed := true, recurses := true, apart := false, narrowed := true }
def ColumnRestUptoSaid : Prop := columnRestUptoRow.holds Try.pinned (OpenSpec.upto columnRestSpec)

/-- 'toruslaw04.ColumnDense', WHERE WHAT IT READS IS OF BULK AT MOST 1048576: true; the input reads as it did. -/
def columnDenseUptoRow : OpenClaim := { program := "ytojnnfhalpefmaa", sum := "ff545fd0b64323a308c2a5abdabc3d8eb99c3ab3fdca017eea1d1c1568719164", func := "torus/toruslaw04.ColumnDense", spec := "columnDense", unfollowed := true, recurses := true, apart := false, narrowed := true }
def ColumnDenseUptoSaid : Prop := columnDenseUptoRow.holds Try.pinned (OpenSpec.upto columnDenseSpec)

/-- 'toruslaw04.ColumnExamples', WHERE WHAT IT READS IS OF BULK AT MOST 1048576: true; the input reads as it did. -/
def columnExamplesUptoRow : OpenClaim := { program := "ytojnnfhalpefmaa", sum := "ff545fd0b64323a308c2a5abdabc3d8eb99c3ab3fdca017eea1d1c1568719164", func := "torus/toruslaw04.ColumnExamples", spec := "columnExamples", unfollowed := true, recurses := true, apart := false, narrowed := true }
def ColumnExamplesUptoSaid : Prop := columnExamplesUptoRow.holds Try.pinned (OpenSpec.upto columnExamplesSpec)

end Rows
end Go.Proofs.Ytojnnfhalpefmaa
