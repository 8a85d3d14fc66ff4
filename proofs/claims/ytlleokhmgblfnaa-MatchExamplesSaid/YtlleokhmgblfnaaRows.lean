/-
  No cell of these rows narrows 'for every input' (looked for: loops, veiled, ifaces, maps, wideKeys, modest, calm, conditions, laid).
  DERIVED. THE GIVEN ROWS OF THIS SEAT. 9 by the template 'for every input the law returns true; each argument reads behind the call as it read before'; 0 by the template 'total and deterministic' (their statements: YtlleokhmgblfnaaTotals.lean).
  GIVEN WITH THE SEED: the statements are not yours to turn. If you find one false, say at which input.
  Laid BY PROGRAM, IN A SANDBOX (cutbox-rows.mjs): the forced cells as the released guide's own fill.sh prints them over the translation 5a7144acf7782328… (all of the seat's roots in one cut). By AI agents, Wed Nov 11 2026. No macro, syntax, notation, axiom, sorry.
-/
import Derived.Test.YtlleokhmgblfnaaChecked
import GoSem.Claim
import GoSem.ClaimJoined
import GoSem.ClaimMapViews
import Derived.JoinedTies
import Derived.KernelRfl
namespace Go.Proofs.Ytlleokhmgblfnaa
/- THE CELL 'sum', in the pinned program and in every row, IS THE sha256 OF THE DUMP (.gsa) THAT YtlleokhmgblfnaaProg.lean LOADS. Nothing in Lean hashes anything: it is a label: what it is worth is what the hold of that sum in a sandbox is worth. -/
noncomputable def Try.pinned : Pinned := { name := "ytlleokhmgblfnaa", sum := "5a7144acf77823285568e18af1d09723c648bf7b01636a4407f52d44ed99ef13", checked := Try.checked }
namespace Rows
def none {H : Type} : Left H := { results := [], args := [] }

/-- 'toruslaw30.MatchHall': WHATEVER THE INPUT: true; the input reads as it did. -/
def matchHallSpec : ChangeSpec := { name := "matchHall", fn := fun _ => fun
  | [d] => { results := [.lit (.bool true)], args := [d] }
  | _ => none }
def matchHallRow : OpenClaim := { program := "ytlleokhmgblfnaa", sum := "5a7144acf77823285568e18af1d09723c648bf7b01636a4407f52d44ed99ef13", func := "torus/toruslaw30.MatchHall", spec := "matchHall", unfollowed := true, recurses := true, plainKeys := false, apart := false }
def MatchHallSaid : Prop := matchHallRow.holds Try.pinned (OpenSpec.ofChange matchHallSpec)

/-- ITS FALSE NEIGHBOUR: 'it returns false'. Refute it at one input. -/
def matchHallWrong : ChangeSpec := { name := "matchHall", fn := fun _ => fun
  | [d] => { results := [.lit (.bool false)], args := [d] }
  | _ => none }
def MatchHallWrongFalsely : Prop := matchHallRow.holds Try.pinned (OpenSpec.ofChange matchHallWrong)

/-- 'toruslaw30.MatchEdges': WHATEVER THE INPUT: true; the input reads as it did. -/
def matchEdgesSpec : ChangeSpec := { name := "matchEdges", fn := fun _ => fun
  | [d1, d2, d3] => { results := [.lit (.bool true)], args := [d1, d2, d3] }
  | _ => none }
def matchEdgesRow : OpenClaim := { program := "ytlleokhmgblfnaa", sum := "5a7144acf77823285568e18af1d09723c648bf7b01636a4407f52d44ed99ef13", func := "torus/toruslaw30.MatchEdges", spec := "matchEdges", unfollowed := true, recurses := true, plainKeys := false, apart := false }
def MatchEdgesSaid : Prop := matchEdgesRow.holds Try.pinned (OpenSpec.ofChange matchEdgesSpec)

/-- ITS FALSE NEIGHBOUR: 'it returns false'. Refute it at one input. -/
def matchEdgesWrong : ChangeSpec := { name := "matchEdges", fn := fun _ => fun
  | [d1, d2, d3] => { results := [.lit (.bool false)], args := [d1, d2, d3] }
  | _ => none }
def MatchEdgesWrongFalsely : Prop := matchEdgesRow.holds Try.pinned (OpenSpec.ofChange matchEdgesWrong)

/-- 'toruslaw30.MatchMatches': WHATEVER THE INPUT: true; the input reads as it did. -/
def matchMatchesSpec : ChangeSpec := { name := "matchMatches", fn := fun _ => fun
  | [d] => { results := [.lit (.bool true)], args := [d] }
  | _ => none }
def matchMatchesRow : OpenClaim := { program := "ytlleokhmgblfnaa", sum := "5a7144acf77823285568e18af1d09723c648bf7b01636a4407f52d44ed99ef13", func := "torus/toruslaw30.MatchMatches", spec := "matchMatches", unfollowed := true, recurses := true, plainKeys := false, apart := false }
def MatchMatchesSaid : Prop := matchMatchesRow.holds Try.pinned (OpenSpec.ofChange matchMatchesSpec)

/-- ITS FALSE NEIGHBOUR: 'it returns false'. Refute it at one input. -/
def matchMatchesWrong : ChangeSpec := { name := "matchMatches", fn := fun _ => fun
  | [d] => { results := [.lit (.bool false)], args := [d] }
  | _ => none }
def MatchMatchesWrongFalsely : Prop := matchMatchesRow.holds Try.pinned (OpenSpec.ofChange matchMatchesWrong)

/-- 'toruslaw30.MatchSides': WHATEVER THE INPUT: true; the input reads as it did. -/
def matchSidesSpec : ChangeSpec := { name := "matchSides", fn := fun _ => fun
  | [d] => { results := [.lit (.bool true)], args := [d] }
  | _ => none }
def matchSidesRow : OpenClaim := { program := "ytlleokhmgblfnaa", sum := "5a7144acf77823285568e18af1d09723c648bf7b01636a4407f52d44ed99ef13", func := "torus/toruslaw30.MatchSides", spec := "matchSides", unfollowed := true, recurses := true, plainKeys := false, apart := false }
def MatchSidesSaid : Prop := matchSidesRow.holds Try.pinned (OpenSpec.ofChange matchSidesSpec)

/-- ITS FALSE NEIGHBOUR: 'it returns false'. Refute it at one input. -/
def matchSidesWrong : ChangeSpec := { name := "matchSides", fn := fun _ => fun
  | [d] => { results := [.lit (.bool false)], args := [d] }
  | _ => none }
def MatchSidesWrongFalsely : Prop := matchSidesRow.holds Try.pinned (OpenSpec.ofChange matchSidesWrong)

/-- 'toruslaw30.MatchVerifies': WHATEVER THE INPUT: true; the input reads as it did. -/
def matchVerifiesSpec : ChangeSpec := { name := "matchVerifies", fn := fun _ => fun
  | [d1, d2] => { results := [.lit (.bool true)], args := [d1, d2] }
  | _ => none }
def matchVerifiesRow : OpenClaim := { program := "ytlleokhmgblfnaa", sum := "5a7144acf77823285568e18af1d09723c648bf7b01636a4407f52d44ed99ef13", func := "torus/toruslaw30.MatchVerifies", spec := "matchVerifies", unfollowed := true, recurses := true, plainKeys := false, apart := false }
def MatchVerifiesSaid : Prop := matchVerifiesRow.holds Try.pinned (OpenSpec.ofChange matchVerifiesSpec)

/-- ITS FALSE NEIGHBOUR: 'it returns false'. Refute it at one input. -/
def matchVerifiesWrong : ChangeSpec := { name := "matchVerifies", fn := fun _ => fun
  | [d1, d2] => { results := [.lit (.bool false)], args := [d1, d2] }
  | _ => none }
def MatchVerifiesWrongFalsely : Prop := matchVerifiesRow.holds Try.pinned (OpenSpec.ofChange matchVerifiesWrong)

/-- 'toruslaw30.MatchKonig': WHATEVER THE INPUT: true; the input reads as it did. -/
def matchKonigSpec : ChangeSpec := { name := "matchKonig", fn := fun _ => fun
  | [d] => { results := [.lit (.bool true)], args := [d] }
  | _ => none }
def matchKonigRow : OpenClaim := { program := "ytlleokhmgblfnaa", sum := "5a7144acf77823285568e18af1d09723c648bf7b01636a4407f52d44ed99ef13", func := "torus/toruslaw30.MatchKonig", spec := "matchKonig", unfollowed := true, recurses := true, plainKeys := false, apart := false }
def MatchKonigSaid : Prop := matchKonigRow.holds Try.pinned (OpenSpec.ofChange matchKonigSpec)

/-- ITS FALSE NEIGHBOUR: 'it returns false'. Refute it at one input. -/
def matchKonigWrong : ChangeSpec := { name := "matchKonig", fn := fun _ => fun
  | [d] => { results := [.lit (.bool false)], args := [d] }
  | _ => none }
def MatchKonigWrongFalsely : Prop := matchKonigRow.holds Try.pinned (OpenSpec.ofChange matchKonigWrong)

/-- 'toruslaw30.MatchColours': WHATEVER THE INPUT: true; the input reads as it did. -/
def matchColoursSpec : ChangeSpec := { name := "matchColours", fn := fun _ => fun
  | [d] => { results := [.lit (.bool true)], args := [d] }
  | _ => none }
def matchColoursRow : OpenClaim := { program := "ytlleokhmgblfnaa", sum := "5a7144acf77823285568e18af1d09723c648bf7b01636a4407f52d44ed99ef13", func := "torus/toruslaw30.MatchColours", spec := "matchColours", unfollowed := true, recurses := true, plainKeys := false, apart := false }
def MatchColoursSaid : Prop := matchColoursRow.holds Try.pinned (OpenSpec.ofChange matchColoursSpec)

/-- ITS FALSE NEIGHBOUR: 'it returns false'. Refute it at one input. -/
def matchColoursWrong : ChangeSpec := { name := "matchColours", fn := fun _ => fun
  | [d] => { results := [.lit (.bool false)], args := [d] }
  | _ => none }
def MatchColoursWrongFalsely : Prop := matchColoursRow.holds Try.pinned (OpenSpec.ofChange matchColoursWrong)

/-- 'toruslaw30.MatchRegular': WHATEVER THE INPUT: true; the input reads as it did. -/
def matchRegularSpec : ChangeSpec := { name := "matchRegular", fn := fun _ => fun
  | [d1, d2] => { results := [.lit (.bool true)], args := [d1, d2] }
  | _ => none }
def matchRegularRow : OpenClaim := { program := "ytlleokhmgblfnaa", sum := "5a7144acf77823285568e18af1d09723c648bf7b01636a4407f52d44ed99ef13", func := "torus/toruslaw30.MatchRegular", spec := "matchRegular", unfollowed := true, recurses := true, plainKeys := false, apart := false }
def MatchRegularSaid : Prop := matchRegularRow.holds Try.pinned (OpenSpec.ofChange matchRegularSpec)

/-- ITS FALSE NEIGHBOUR: 'it returns false'. Refute it at one input. -/
def matchRegularWrong : ChangeSpec := { name := "matchRegular", fn := fun _ => fun
  | [d1, d2] => { results := [.lit (.bool false)], args := [d1, d2] }
  | _ => none }
def MatchRegularWrongFalsely : Prop := matchRegularRow.holds Try.pinned (OpenSpec.ofChange matchRegularWrong)

/-- 'toruslaw30.MatchExamples': WHATEVER THE INPUT: true; the input reads as it did. -/
def matchExamplesSpec : ChangeSpec := { name := "matchExamples", fn := fun _ => fun
  | [] => { results := [.lit (.bool true)], args := [] }
  | _ => none }
def matchExamplesRow : OpenClaim := { program := "ytlleokhmgblfnaa", sum := "5a7144acf77823285568e18af1d09723c648bf7b01636a4407f52d44ed99ef13", func := "torus/toruslaw30.MatchExamples", spec := "matchExamples", unfollowed := true, recurses := true, plainKeys := false, apart := false }
def MatchExamplesSaid : Prop := matchExamplesRow.holds Try.pinned (OpenSpec.ofChange matchExamplesSpec)

/-- ITS FALSE NEIGHBOUR: 'it returns false'. Refute it at one input. -/
def matchExamplesWrong : ChangeSpec := { name := "matchExamples", fn := fun _ => fun
  | [] => { results := [.lit (.bool false)], args := [] }
  | _ => none }
def MatchExamplesWrongFalsely : Prop := matchExamplesRow.holds Try.pinned (OpenSpec.ofChange matchExamplesWrong)

/- THE SECOND FORM. 'bulk': how many values and letters a reading holds, each counted each time it is reached (what is shared counts as often as it is met; a slice's spare places count too). A statement '..UptoSaid' is the law's where the arguments, and the package variables that the reading takes, are together of bulk at most 1048576: NARROWER than '..Said'. Prove '..Said' where nothing that the law and all that it calls make is longer than what came in: it says more and counts as full. Else prove '..UptoSaid'. A law counts once. -/
mutual
def uptoBulk {H : Type} : DataW H → Nat
  | .lit (.string bytes) => bytes.length + 1
  | .lit _ => 1
  | .nil => 1
  | .ptr d => uptoBulk d + 1
  | .slice elems spare => uptoBulkAll elems + uptoBulkAll spare + 1
  | .agg parts => uptoBulkAll parts + 1
  | .iface _ d => uptoBulk d + 1
  | .map entries => uptoBulkEntries entries + 1
  | .held _ => 1
def uptoBulkAll {H : Type} : List (DataW H) → Nat
  | [] => 0
  | d :: r => uptoBulk d + uptoBulkAll r
def uptoBulkEntries {H : Type} : List (Lit × DataW H) → Nat
  | [] => 0
  | x :: r => uptoBulkEntry x + uptoBulkEntries r
def uptoBulkEntry {H : Type} : Lit × DataW H → Nat
  | (.string bytes, d) => bytes.length + uptoBulk d + 1
  | (_, d) => uptoBulk d + 1
 end
def uptoSmall : (H : Type) → List (DataW H) → Bool := fun _ ds => decide (uptoBulkAll ds ≤ 1048576)
def OpenSpec.upto (s : _root_.Go.ChangeSpec) : _root_.Go.OpenSpec := { _root_.Go.OpenSpec.ofChange s with cond := some uptoSmall }

/-- 'toruslaw30.MatchHall', WHERE WHAT IT READS IS OF BULK AT MOST 1048576: true; the input reads as it did. -/
def matchHallUptoRow : OpenClaim := { program := "ytlleokhmgblfnaa", sum := "5a7144acf77823285568e18af1d09723c648bf7b01636a4407f52d44ed99ef13", func := "torus/toruslaw30.MatchHall", spec := "matchHall", unfollowed := true, recurses := true, plainKeys := false, apart := false, narrowed := true }
def MatchHallUptoSaid : Prop := matchHallUptoRow.holds Try.pinned (OpenSpec.upto matchHallSpec)

/-- 'toruslaw30.MatchEdges', WHERE WHAT IT READS IS OF BULK AT MOST 1048576: true; the input reads as it did. -/
def matchEdgesUptoRow : OpenClaim := { program := "ytlleokhmgblfnaa", sum := "5a7144acf77823285568e18af1d09723c648bf7b01636a4407f52d44ed99ef13", func := "torus/toruslaw30.MatchEdges", spec := "matchEdges", unfollowed := true, recurses := true, plainKeys := false, apart := false, narrowed := true }
def MatchEdgesUptoSaid : Prop := matchEdgesUptoRow.holds Try.pinned (OpenSpec.upto matchEdgesSpec)

/-- 'toruslaw30.MatchMatches', WHERE WHAT IT READS IS OF BULK AT MOST 1048576: true; the input reads as it did. -/
def matchMatchesUptoRow : OpenClaim := { program := "ytlleokhmgblfnaa", sum := "5a7144acf77823285568e18af1d09723c648bf7b01636a4407f52d44ed99ef13", func := "torus/toruslaw30.MatchMatches", spec := "matchMatches", unfollowed := true, recurses := true, plainKeys := false, apart := false, narrowed := true }
def MatchMatchesUptoSaid : Prop := matchMatchesUptoRow.holds Try.pinned (OpenSpec.upto matchMatchesSpec)

/-- 'toruslaw30.MatchSides', WHERE WHAT IT READS IS OF BULK AT MOST 1048576: true; the input reads as it did. -/
def matchSidesUptoRow : OpenClaim := { program := "ytlleokhmgblfnaa", sum := "5a7144acf77823285568e18af1d09723c648bf7b01636a4407f52d44ed99ef13", func := "torus/toruslaw30.MatchSides", spec := "matchSides", unfollowed := true, recurses := true, plainKeys := false, apart := false, narrowed := true }
def MatchSidesUptoSaid : Prop := matchSidesUptoRow.holds Try.pinned (OpenSpec.upto matchSidesSpec)

/-- 'toruslaw30.MatchVerifies', WHERE WHAT IT READS IS OF BULK AT MOST 1048576: true; the input reads as it did. -/
def matchVerifiesUptoRow : OpenClaim := { program := "ytlleokhmgblfnaa", sum := "5a7144acf77823285568e18af1d09723c648bf7b01636a4407f52d44ed99ef13", func := "torus/toruslaw30.MatchVerifies", spec := "matchVerifies", unfollowed := true, recurses := true, plainKeys := false, apart := false, narrowed := true }
def MatchVerifiesUptoSaid : Prop := matchVerifiesUptoRow.holds Try.pinned (OpenSpec.upto matchVerifiesSpec)

/-- 'toruslaw30.MatchKonig', WHERE WHAT IT READS IS OF BULK AT MOST 1048576: true; the input reads as it did. -/
def matchKonigUptoRow : OpenClaim := { program := "ytlleokhmgblfnaa", sum := "5a7144acf77823285568e18af1d09723c648bf7b01636a4407f52d44ed99ef13", func := "torus/toruslaw30.MatchKonig", spec := "matchKonig", unfollowed := true, recurses := true, plainKeys := false, apart := false, narrowed := true }
def MatchKonigUptoSaid : Prop := matchKonigUptoRow.holds Try.pinned (OpenSpec.upto matchKonigSpec)

/-- 'toruslaw30.MatchColours', WHERE WHAT IT READS IS OF BULK AT MOST 1048576: true; the input reads as it did. -/
def matchColoursUptoRow : OpenClaim := { program := "ytlleokhmgblfnaa", sum := "5a7144acf77823285568e18af1d09723c648bf7b01636a4407f52d44ed99ef13", func := "torus/toruslaw30.MatchColours", spec := "matchColours", unfollowed := true, recurses := true, plainKeys := false, apart := false, narrowed := true }
def MatchColoursUptoSaid : Prop := matchColoursUptoRow.holds Try.pinned (OpenSpec.upto matchColoursSpec)

/-- 'toruslaw30.MatchRegular', WHERE WHAT IT READS IS OF BULK AT MOST 1048576: true; the input reads as it did. -/
def matchRegularUptoRow : OpenClaim := { program := "ytlleokhmgblfnaa", sum := "5a7144acf77823285568e18af1d09723c648bf7b01636a4407f52d44ed99ef13", func := "torus/toruslaw30.MatchRegular", spec := "matchRegular", unfollowed := true, recurses := true, plainKeys := false, apart := false, narrowed := true }
def MatchRegularUptoSaid : Prop := matchRegularUptoRow.holds Try.pinned (OpenSpec.upto matchRegularSpec)

/-- 'toruslaw30.MatchExamples', WHERE WHAT IT READS IS OF BULK AT MOST 1048576: true; the input reads as it did. -/
def matchExamplesUptoRow : OpenClaim := { program := "ytlleokhmgblfnaa", sum := "5a7144acf77823285568e18af1d09723c648bf7b01636a4407f52d44ed99ef13", func := "torus/toruslaw30.MatchExamples", spec := "matchExamples", unfollowed := true, recurses := true, plainKeys := false, apart := false, narrowed := true }
def MatchExamplesUptoSaid : Prop := matchExamplesUptoRow.holds Try.pinned (OpenSpec.upto matchExamplesSpec)

end Rows
end Go.Proofs.Ytlleokhmgblfnaa
