/-
  No cell of these rows narrows 'for every input' (looked for: loops, veiled, ifaces, maps, wideKeys, modest, calm, conditions, laid).
  DERIVED. THE GIVEN ROWS OF THIS SEAT. 6 by the template 'for every input the law returns true; each argument reads behind the call as it read before'; 0 by the template 'total and deterministic' (their statements: YtmackljhomameaaTotals.lean).
  GIVEN WITH THE SEED: the statements are not yours to turn. If you find one false, say at which input.
  Laid BY PROGRAM, IN A SANDBOX (cutbox-rows.mjs): the forced cells as the released guide's own fill.sh prints them over the translation 07146acd10138a70… (all of the seat's roots in one cut). By AI agents, Wed Nov 11 2026. No macro, syntax, notation, axiom, sorry.
-/
import Derived.Test.YtmackljhomameaaChecked
import GoSem.Claim
import GoSem.ClaimJoined
import GoSem.ClaimMapViews
import Derived.JoinedTies
import Derived.KernelRfl
namespace Go.Proofs.Ytmackljhomameaa
/- THE CELL 'sum', in the pinned program and in every row, IS THE sha256 OF THE DUMP (.gsa) THAT YtmackljhomameaaProg.lean LOADS. Nothing in Lean hashes anything: it is a label: what it is worth is what the hold of that sum in a sandbox is worth. -/
noncomputable def Try.pinned : Pinned := { name := "ytmackljhomameaa", sum := "07146acd10138a70f1b7b13c3d77d80a8e1ac65d3e383b27ea52cb65acd50c11", checked := Try.checked }
namespace Rows
def none {H : Type} : Left H := { results := [], args := [] }

/-- 'spindlelaw11.PlaceNears': WHATEVER THE INPUT: true; the input reads as it did. -/
def placeNearsSpec : ChangeSpec := { name := "placeNears", fn := fun _ => fun
  | [d1, d2, d3] => { results := [.lit (.bool true)], args := [d1, d2, d3] }
  | _ => none }
def placeNearsRow : OpenClaim := { program := "ytmackljhomameaa", sum := "07146acd10138a70f1b7b13c3d77d80a8e1ac65d3e383b27ea52cb65acd50c11", func := "spindle/spindlelaw11.PlaceNears", spec := "placeNears", plainKeys := false, apart := false }
def PlaceNearsSaid : Prop := placeNearsRow.holds Try.pinned (OpenSpec.ofChange placeNearsSpec)

/-- ITS FALSE NEIGHBOUR: 'it returns false'. Refute it at one input. -/
def placeNearsWrong : ChangeSpec := { name := "placeNears", fn := fun _ => fun
  | [d1, d2, d3] => { results := [.lit (.bool false)], args := [d1, d2, d3] }
  | _ => none }
def PlaceNearsWrongFalsely : Prop := placeNearsRow.holds Try.pinned (OpenSpec.ofChange placeNearsWrong)

/-- 'spindlelaw11.PlaceGrid': WHATEVER THE INPUT: true; the input reads as it did. -/
def placeGridSpec : ChangeSpec := { name := "placeGrid", fn := fun _ => fun
  | [d1, d2, d3] => { results := [.lit (.bool true)], args := [d1, d2, d3] }
  | _ => none }
def placeGridRow : OpenClaim := { program := "ytmackljhomameaa", sum := "07146acd10138a70f1b7b13c3d77d80a8e1ac65d3e383b27ea52cb65acd50c11", func := "spindle/spindlelaw11.PlaceGrid", spec := "placeGrid", plainKeys := false, apart := false }
def PlaceGridSaid : Prop := placeGridRow.holds Try.pinned (OpenSpec.ofChange placeGridSpec)

/-- ITS FALSE NEIGHBOUR: 'it returns false'. Refute it at one input. -/
def placeGridWrong : ChangeSpec := { name := "placeGrid", fn := fun _ => fun
  | [d1, d2, d3] => { results := [.lit (.bool false)], args := [d1, d2, d3] }
  | _ => none }
def PlaceGridWrongFalsely : Prop := placeGridRow.holds Try.pinned (OpenSpec.ofChange placeGridWrong)

/-- 'spindlelaw11.PlaceRounds': WHATEVER THE INPUT: true; the input reads as it did. -/
def placeRoundsSpec : ChangeSpec := { name := "placeRounds", fn := fun _ => fun
  | [d] => { results := [.lit (.bool true)], args := [d] }
  | _ => none }
def placeRoundsRow : OpenClaim := { program := "ytmackljhomameaa", sum := "07146acd10138a70f1b7b13c3d77d80a8e1ac65d3e383b27ea52cb65acd50c11", func := "spindle/spindlelaw11.PlaceRounds", spec := "placeRounds", unfollowed := true, recurses := true, plainKeys := false, apart := false }
def PlaceRoundsSaid : Prop := placeRoundsRow.holds Try.pinned (OpenSpec.ofChange placeRoundsSpec)

/-- ITS FALSE NEIGHBOUR: 'it returns false'. Refute it at one input. -/
def placeRoundsWrong : ChangeSpec := { name := "placeRounds", fn := fun _ => fun
  | [d] => { results := [.lit (.bool false)], args := [d] }
  | _ => none }
def PlaceRoundsWrongFalsely : Prop := placeRoundsRow.holds Try.pinned (OpenSpec.ofChange placeRoundsWrong)

/-- 'spindlelaw11.PlaceNames': WHATEVER THE INPUT: true; the input reads as it did. -/
def placeNamesSpec : ChangeSpec := { name := "placeNames", fn := fun _ => fun
  | [] => { results := [.lit (.bool true)], args := [] }
  | _ => none }
def placeNamesRow : OpenClaim := { program := "ytmackljhomameaa", sum := "07146acd10138a70f1b7b13c3d77d80a8e1ac65d3e383b27ea52cb65acd50c11", func := "spindle/spindlelaw11.PlaceNames", spec := "placeNames", unfollowed := true, recurses := true, plainKeys := false, apart := false }
def PlaceNamesSaid : Prop := placeNamesRow.holds Try.pinned (OpenSpec.ofChange placeNamesSpec)

/-- ITS FALSE NEIGHBOUR: 'it returns false'. Refute it at one input. -/
def placeNamesWrong : ChangeSpec := { name := "placeNames", fn := fun _ => fun
  | [] => { results := [.lit (.bool false)], args := [] }
  | _ => none }
def PlaceNamesWrongFalsely : Prop := placeNamesRow.holds Try.pinned (OpenSpec.ofChange placeNamesWrong)

/-- 'spindlelaw11.PlaceMatches': WHATEVER THE INPUT: true; the input reads as it did. -/
def placeMatchesSpec : ChangeSpec := { name := "placeMatches", fn := fun _ => fun
  | [d1, d2, d3] => { results := [.lit (.bool true)], args := [d1, d2, d3] }
  | _ => none }
def placeMatchesRow : OpenClaim := { program := "ytmackljhomameaa", sum := "07146acd10138a70f1b7b13c3d77d80a8e1ac65d3e383b27ea52cb65acd50c11", func := "spindle/spindlelaw11.PlaceMatches", spec := "placeMatches", plainKeys := false, apart := false }
def PlaceMatchesSaid : Prop := placeMatchesRow.holds Try.pinned (OpenSpec.ofChange placeMatchesSpec)

/-- ITS FALSE NEIGHBOUR: 'it returns false'. Refute it at one input. -/
def placeMatchesWrong : ChangeSpec := { name := "placeMatches", fn := fun _ => fun
  | [d1, d2, d3] => { results := [.lit (.bool false)], args := [d1, d2, d3] }
  | _ => none }
def PlaceMatchesWrongFalsely : Prop := placeMatchesRow.holds Try.pinned (OpenSpec.ofChange placeMatchesWrong)

/-- 'spindlelaw11.PlaceInverse': WHATEVER THE INPUT: true; the input reads as it did. -/
def placeInverseSpec : ChangeSpec := { name := "placeInverse", fn := fun _ => fun
  | [d1, d2, d3] => { results := [.lit (.bool true)], args := [d1, d2, d3] }
  | _ => none }
def placeInverseRow : OpenClaim := { program := "ytmackljhomameaa", sum := "07146acd10138a70f1b7b13c3d77d80a8e1ac65d3e383b27ea52cb65acd50c11", func := "spindle/spindlelaw11.PlaceInverse", spec := "placeInverse", plainKeys := false, apart := false }
def PlaceInverseSaid : Prop := placeInverseRow.holds Try.pinned (OpenSpec.ofChange placeInverseSpec)

/-- ITS FALSE NEIGHBOUR: 'it returns false'. Refute it at one input. -/
def placeInverseWrong : ChangeSpec := { name := "placeInverse", fn := fun _ => fun
  | [d1, d2, d3] => { results := [.lit (.bool false)], args := [d1, d2, d3] }
  | _ => none }
def PlaceInverseWrongFalsely : Prop := placeInverseRow.holds Try.pinned (OpenSpec.ofChange placeInverseWrong)

/- THE SECOND FORM. 'bulk': how many values and letters a reading holds, each counted each time it is reached (what is shared counts as often as it is met; a slice's spare places count too). A statement '..UptoSaid' is the law's where the arguments, and the package variables that the reading takes, are together of bulk at most 1048576: NARROWER than '..Said'. Prove '..Said' where nothing that the law and all that it calls make is longer than what came in: it says more and counts as full. Else prove '..UptoSaid'. A law counts once. -/
mutual
def uptoBulk {H : Type} : DataW H → Nat
  | .lit (.string bytes) => bytes.length + 1
  | .lit _ => 1
  | .nil => 1
  | .ptr d => uptoBulk d + 1
  | .slice elems spare => uptoBulkAll elems + uptoBulkAll spare + 1
  | .agg parts => uptoBulkAll parts + 1
  | .iface _ d => uptoBulk d + 1
  | .map entries => uptoBulkEntries entries + 1
  | .held _ => 1
def uptoBulkAll {H : Type} : List (DataW H) → Nat
  | [] => 0
  | d :: r => uptoBulk d + uptoBulkAll r
def uptoBulkEntries {H : Type} : List (Lit × DataW H) → Nat
  | [] => 0
  | x :: r => uptoBulkEntry x + uptoBulkEntries r
def uptoBulkEntry {H : Type} : Lit × DataW H → Nat
  | (.string bytes, d) => bytes.length + uptoBulk d + 1
  | (_, d) => uptoBulk d + 1
 end
def uptoSmall : (H : Type) → List (DataW H) → Bool := fun _ ds => decide (uptoBulkAll ds ≤ 1048576)
def OpenSpec.upto (s : _root_.Go.ChangeSpec) : _root_.Go.OpenSpec := { _root_.Go.OpenSpec.ofChange s with cond := some uptoSmall }

/-- 'spindlelaw11.PlaceNears', WHERE WHAT IT READS IS OF BULK AT MOST 1048576: true; the input reads as it did. -/
def placeNearsUptoRow : OpenClaim := { program := "ytmackljhomameaa", sum := "07146acd10138a70f1b7b13c3d77d80a8e1ac65d3e383b27ea52cb65acd50c11", func := "spindle/spindlelaw11.PlaceNears", spec := "placeNears", plainKeys := false, apart := false, narrowed := true }
def PlaceNearsUptoSaid : Prop := placeNearsUptoRow.holds Try.pinned (OpenSpec.upto placeNearsSpec)

/-- 'spindlelaw11.PlaceGrid', WHERE WHAT IT READS IS OF BULK AT MOST 1048576: true; the input reads as it did. -/
def placeGridUptoRow : OpenClaim := { program := "ytmackljhomameaa", sum := "07146acd10138a70f1b7b13c3d77d80a8e1ac65d3e383b27ea52cb65acd50c11", func := "spindle/spindlelaw11.PlaceGrid", spec := "placeGrid", plainKeys := false, apart := false, narrowed := true }
def PlaceGridUptoSaid : Prop := placeGridUptoRow.holds Try.pinned (OpenSpec.upto placeGridSpec)

/-- 'spindlelaw11.PlaceRounds', WHERE WHAT IT READS IS OF BULK AT MOST 1048576: true; the input reads as it did. -/
def placeRoundsUptoRow : OpenClaim := { program := "ytmackljhomameaa", sum := "07146acd10138a70f1b7b13c3d77d80a8e1ac65d3e383b27ea52cb65acd50c11", func := "spindle/spindlelaw11.PlaceRounds", spec := "placeRounds", unfollowed := true, recurses := true, plainKeys := false, apart := false, narrowed := true }
def PlaceRoundsUptoSaid : Prop := placeRoundsUptoRow.holds Try.pinned (OpenSpec.upto placeRoundsSpec)

/-- 'spindlelaw11.PlaceNames', WHERE WHAT IT READS IS OF BULK AT MOST 1048576: true; the input reads as it did. -/
def placeNamesUptoRow : OpenClaim := { program := "ytmackljhomameaa", sum := "07146acd10138a70f1b7b13c3d77d80a8e1ac65d3e383b27ea52cb65acd50c11", func := "spindle/spindlelaw11.PlaceNames", spec := "placeNames", unfollowed := true, recurses := true, plainKeys := false, apart := false, narrowed := true }
def PlaceNamesUptoSaid : Prop := placeNamesUptoRow.holds Try.pinned (OpenSpec.upto placeNamesSpec)

/-- 'spindlelaw11.PlaceMatches', WHERE WHAT IT READS IS OF BULK AT MOST 1048576: true; the input reads as it did. -/
def placeMatchesUptoRow : OpenClaim := { program := "ytmackljhomameaa", sum := "07146acd10138a70f1b7b13c3d77d80a8e1ac65d3e383b27ea52cb65acd50c11", func := "spindle/spindlelaw11.PlaceMatches", spec := "placeMatches", plainKeys := false, apart := false, narrowed := true }
def PlaceMatchesUptoSaid : Prop := placeMatchesUptoRow.holds Try.pinned (OpenSpec.upto placeMatchesSpec)

/-- 'spindlelaw11.PlaceInverse', WHERE WHAT IT READS IS OF BULK AT MOST 1048576: true; the input reads as it did. -/
def placeInverseUptoRow : OpenClaim := { program := "ytmackljhomameaa", sum := "07146acd10138a70f1b7b13c3d77d80a8e1ac65d3e383b27ea52cb65acd50c11", func := "spindle/spindlelaw11.PlaceInverse", spec := "placeInverse", plainKeys := false, apart := false, narrowed := true }
def PlaceInverseUptoSaid : Prop := placeInverseUptoRow.holds Try.pinned (OpenSpec.upto placeInverseSpec)

end Rows
end Go.Proofs.Ytmackljhomameaa
