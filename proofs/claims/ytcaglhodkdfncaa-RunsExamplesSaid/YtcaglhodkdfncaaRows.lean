/-
  No cell of these rows narrows 'for every input' (looked for: loops, veiled, ifaces, maps, wideKeys, modest, calm, conditions, laid).
  DERIVED. THE GIVEN ROWS OF THIS SEAT. 7 by the template 'for every input the law returns true; each argument reads behind the call as it read before'; 0 by the template 'total and deterministic' (their statements: YtcaglhodkdfncaaTotals.lean).
  GIVEN WITH THE SEED: the statements are not yours to turn. If you find one false, say at which input.
  Laid BY PROGRAM, IN A SANDBOX (cutbox-rows.mjs): the forced cells as the released guide's own fill.sh prints them over the translation 91d748091062ed3a… (all of the seat's roots in one cut). By AI agents, Wed Nov 11 2026. No macro, syntax, notation, axiom, sorry.
-/
import Derived.Test.YtcaglhodkdfncaaChecked
import GoSem.Claim
import GoSem.ClaimJoined
import GoSem.ClaimMapViews
import Derived.JoinedTies
import Derived.KernelRfl
namespace Go.Proofs.Ytcaglhodkdfncaa
/- THE CELL 'sum', in the pinned program and in every row, IS THE sha256 OF THE DUMP (.gsa) THAT YtcaglhodkdfncaaProg.lean LOADS. Nothing in Lean hashes anything: it is a label: what it is worth is what the hold of that sum in a sandbox is worth. -/
noncomputable def Try.pinned : Pinned := { name := "ytcaglhodkdfncaa", sum := "91d748091062ed3aa2d8534f8a0030da6f519ec9303d16a57591828e500c7a6d", checked := Try.checked }
namespace Rows
def none {H : Type} : Left H := { results := [], args := [] }

/-- 'spindlelaw17.RunsOf': WHATEVER THE INPUT: true; the input reads as it did. -/
def runsOfSpec : ChangeSpec := { name := "runsOf", fn := fun _ => fun
  | [d] => { results := [.lit (.bool true)], args := [d] }
  | _ => none }
def runsOfRow : OpenClaim := { program := "ytcaglhodkdfncaa", sum := "91d748091062ed3aa2d8534f8a0030da6f519ec9303d16a57591828e500c7a6d", func := "spindle/spindlelaw17.RunsOf", spec := "runsOf", unfollowed := true, recurses := true, apart := false }
def RunsOfSaid : Prop := runsOfRow.holds Try.pinned (OpenSpec.ofChange runsOfSpec)

/-- ITS FALSE NEIGHBOUR: 'it returns false'. Refute it at one input. -/
def runsOfWrong : ChangeSpec := { name := "runsOf", fn := fun _ => fun
  | [d] => { results := [.lit (.bool false)], args := [d] }
  | _ => none }
def RunsOfWrongFalsely : Prop := runsOfRow.holds Try.pinned (OpenSpec.ofChange runsOfWrong)

/-- 'spindlelaw17.RunsShape': WHATEVER THE INPUT: true; the input reads as it did. -/
def runsShapeSpec : ChangeSpec := { name := "runsShape", fn := fun _ => fun
  | [d1, d2] => { results := [.lit (.bool true)], args := [d1, d2] }
  | _ => none }
def runsShapeRow : OpenClaim := { program := "ytcaglhodkdfncaa", sum := "91d748091062ed3aa2d8534f8a0030da6f519ec9303d16a57591828e500c7a6d", func := "spindle/spindlelaw17.RunsShape", spec := "runsShape", unfollowed := true, recurses := true, apart := false }
def RunsShapeSaid : Prop := runsShapeRow.holds Try.pinned (OpenSpec.ofChange runsShapeSpec)

/-- ITS FALSE NEIGHBOUR: 'it returns false'. Refute it at one input. -/
def runsShapeWrong : ChangeSpec := { name := "runsShape", fn := fun _ => fun
  | [d1, d2] => { results := [.lit (.bool false)], args := [d1, d2] }
  | _ => none }
def RunsShapeWrongFalsely : Prop := runsShapeRow.holds Try.pinned (OpenSpec.ofChange runsShapeWrong)

/-- 'spindlelaw17.RunsSigns': WHATEVER THE INPUT: true; the input reads as it did. -/
def runsSignsSpec : ChangeSpec := { name := "runsSigns", fn := fun _ => fun
  | [d1, d2] => { results := [.lit (.bool true)], args := [d1, d2] }
  | _ => none }
def runsSignsRow : OpenClaim := { program := "ytcaglhodkdfncaa", sum := "91d748091062ed3aa2d8534f8a0030da6f519ec9303d16a57591828e500c7a6d", func := "spindle/spindlelaw17.RunsSigns", spec := "runsSigns", unfollowed := true, recurses := true, apart := false }
def RunsSignsSaid : Prop := runsSignsRow.holds Try.pinned (OpenSpec.ofChange runsSignsSpec)

/-- ITS FALSE NEIGHBOUR: 'it returns false'. Refute it at one input. -/
def runsSignsWrong : ChangeSpec := { name := "runsSigns", fn := fun _ => fun
  | [d1, d2] => { results := [.lit (.bool false)], args := [d1, d2] }
  | _ => none }
def RunsSignsWrongFalsely : Prop := runsSignsRow.holds Try.pinned (OpenSpec.ofChange runsSignsWrong)

/-- 'spindlelaw17.RunsBack': WHATEVER THE INPUT: true; the input reads as it did. -/
def runsBackSpec : ChangeSpec := { name := "runsBack", fn := fun _ => fun
  | [d1, d2] => { results := [.lit (.bool true)], args := [d1, d2] }
  | _ => none }
def runsBackRow : OpenClaim := { program := "ytcaglhodkdfncaa", sum := "91d748091062ed3aa2d8534f8a0030da6f519ec9303d16a57591828e500c7a6d", func := "spindle/spindlelaw17.RunsBack", spec := "runsBack", unfollowed := true, recurses := true, apart := false }
def RunsBackSaid : Prop := runsBackRow.holds Try.pinned (OpenSpec.ofChange runsBackSpec)

/-- ITS FALSE NEIGHBOUR: 'it returns false'. Refute it at one input. -/
def runsBackWrong : ChangeSpec := { name := "runsBack", fn := fun _ => fun
  | [d1, d2] => { results := [.lit (.bool false)], args := [d1, d2] }
  | _ => none }
def RunsBackWrongFalsely : Prop := runsBackRow.holds Try.pinned (OpenSpec.ofChange runsBackWrong)

/-- 'spindlelaw17.RunsThere': WHATEVER THE INPUT: true; the input reads as it did. -/
def runsThereSpec : ChangeSpec := { name := "runsThere", fn := fun _ => fun
  | [d1, d2] => { results := [.lit (.bool true)], args := [d1, d2] }
  | _ => none }
def runsThereRow : OpenClaim := { program := "ytcaglhodkdfncaa", sum := "91d748091062ed3aa2d8534f8a0030da6f519ec9303d16a57591828e500c7a6d", func := "spindle/spindlelaw17.RunsThere", spec := "runsThere", unfollowed := true, recurses := true, apart := false }
def RunsThereSaid : Prop := runsThereRow.holds Try.pinned (OpenSpec.ofChange runsThereSpec)

/-- ITS FALSE NEIGHBOUR: 'it returns false'. Refute it at one input. -/
def runsThereWrong : ChangeSpec := { name := "runsThere", fn := fun _ => fun
  | [d1, d2] => { results := [.lit (.bool false)], args := [d1, d2] }
  | _ => none }
def RunsThereWrongFalsely : Prop := runsThereRow.holds Try.pinned (OpenSpec.ofChange runsThereWrong)

/-- 'spindlelaw17.RunsBlock': WHATEVER THE INPUT: true; the input reads as it did. -/
def runsBlockSpec : ChangeSpec := { name := "runsBlock", fn := fun _ => fun
  | [d1, d2] => { results := [.lit (.bool true)], args := [d1, d2] }
  | _ => none }
def runsBlockRow : OpenClaim := { program := "ytcaglhodkdfncaa", sum := "91d748091062ed3aa2d8534f8a0030da6f519ec9303d16a57591828e500c7a6d", func := "spindle/spindlelaw17.RunsBlock", spec := "runsBlock", unfollowed := true, recurses := true, apart := false }
def RunsBlockSaid : Prop := runsBlockRow.holds Try.pinned (OpenSpec.ofChange runsBlockSpec)

/-- ITS FALSE NEIGHBOUR: 'it returns false'. Refute it at one input. -/
def runsBlockWrong : ChangeSpec := { name := "runsBlock", fn := fun _ => fun
  | [d1, d2] => { results := [.lit (.bool false)], args := [d1, d2] }
  | _ => none }
def RunsBlockWrongFalsely : Prop := runsBlockRow.holds Try.pinned (OpenSpec.ofChange runsBlockWrong)

/-- 'spindlelaw17.RunsExamples': WHATEVER THE INPUT: true; the input reads as it did. -/
def runsExamplesSpec : ChangeSpec := { name := "runsExamples", fn := fun _ => fun
  | [] => { results := [.lit (.bool true)], args := [] }
  | _ => none }
def runsExamplesRow : OpenClaim := { program := "ytcaglhodkdfncaa", sum := "91d748091062ed3aa2d8534f8a0030da6f519ec9303d16a57591828e500c7a6d", func := "spindle/spindlelaw17.RunsExamples", spec := "runsExamples", unfollowed := true, recurses := true, apart := false }
def RunsExamplesSaid : Prop := runsExamplesRow.holds Try.pinned (OpenSpec.ofChange runsExamplesSpec)

/-- ITS FALSE NEIGHBOUR: 'it returns false'. Refute it at one input. -/
def runsExamplesWrong : ChangeSpec := { name := "runsExamples", fn := fun _ => fun
  | [] => { results := [.lit (.bool false)], args := [] }
  | _ => none }
def RunsExamplesWrongFalsely : Prop := runsExamplesRow.holds Try.pinned (OpenSpec.ofChange runsExamplesWrong)

/- THE SECOND FORM. 'bulk': how many values and letters a reading holds, each counted each time it is reached (what is shared counts as often as it is met; a slice's spare places count too). A statement '..UptoSaid' is the law's where the arguments, and the package variables that the reading takes, are together of bulk at most 1048576: NARROWER than '..Said'. Prove '..Said' where nothing that the law and all that it calls make is longer than what came in: it says more and counts as full. Else prove '..UptoSaid'. A law counts once. -/
mutual
def uptoBulk {H : Type} : DataW H → Nat
  | .lit (.string bytes) => bytes.length + 1
  | .lit _ => 1
  | .nil => 1
  | .ptr d => uptoBulk d + 1
  | .slice elems spare => uptoBulkAll elems + uptoBulkAll spare + 1
  | .agg parts => uptoBulkAll parts + 1
  | .iface _ d => uptoBulk d + 1
  | .map entries => uptoBulkEntries entries + 1
  | .held _ => 1
def uptoBulkAll {H : Type} : List (DataW H) → Nat
  | [] => 0
  | d :: r => uptoBulk d + uptoBulkAll r
def uptoBulkEntries {H : Type} : List (Lit × DataW H) → Nat
  | [] => 0
  | x :: r => uptoBulkEntry x + uptoBulkEntries r
def uptoBulkEntry {H : Type} : Lit × DataW H → Nat
  | (.string bytes, d) => bytes.length + uptoBulk d + 1
  | (_, d) => uptoBulk d + 1
 end
def uptoSmall : (H : Type) → List (DataW H) → Bool := fun _ ds => decide (uptoBulkAll ds ≤ 1048576)
def OpenSpec.upto (s : _root_.Go.ChangeSpec) : _root_.Go.OpenSpec := { _root_.Go.OpenSpec.ofChange s with cond := some uptoSmall }

/-- 'spindlelaw17.RunsOf', WHERE WHAT IT READS IS OF BULK AT MOST 1048576: true; the input reads as it did. -/
def runsOfUptoRow : OpenClaim := { program := "ytcaglhodkdfncaa", sum := "91d748091062ed3aa2d8534f8a0030da6f519ec9303d16a57591828e500c7a6d", func := "spindle/spindlelaw17.RunsOf", spec := "runsOf", unfollowed := true, recurses := true, apart := false, narrowed := true }
def RunsOfUptoSaid : Prop := runsOfUptoRow.holds Try.pinned (OpenSpec.upto runsOfSpec)

/-- 'spindlelaw17.RunsShape', WHERE WHAT IT READS IS OF BULK AT MOST 1048576: true; the input reads as it did. -/
def runsShapeUptoRow : OpenClaim := { program := "ytcaglhodkdfncaa", sum := "91d748091062ed3aa2d8534f8a0030da6f519ec9303d16a57591828e500c7a6d", func := "spindle/spindlelaw17.RunsShape", spec := "runsShape", unfollowed := true, recurses := true, apart := false, narrowed := true }
def RunsShapeUptoSaid : Prop := runsShapeUptoRow.holds Try.pinned (OpenSpec.upto runsShapeSpec)

/-- 'spindlelaw17.RunsSigns', WHERE WHAT IT READS IS OF BULK AT MOST 1048576: true; the input reads as it did. -/
def runsSignsUptoRow : OpenClaim := { program := "ytcaglhodkdfncaa", sum := "91d748091062ed3aa2d8534f8a0030da6f519ec9303d16a57591828e500c7a6d", func := "spindle/spindlelaw17.RunsSigns", spec := "runsSigns", unfollowed := true, recurses := true, apart := false, narrowed := true }
def RunsSignsUptoSaid : Prop := runsSignsUptoRow.holds Try.pinned (OpenSpec.upto runsSignsSpec)

/-- 'spindlelaw17.RunsBack', WHERE WHAT IT READS IS OF BULK AT MOST 1048576: true; the input reads as it did. -/
def runsBackUptoRow : OpenClaim := { program := "ytcaglhodkdfncaa", sum := "91d748091062ed3aa2d8534f8a0030da6f519ec9303d16a57591828e500c7a6d", func := "spindle/spindlelaw17.RunsBack", spec := "runsBack", unfollowed := true, recurses := true, apart := false, narrowed := true }
def RunsBackUptoSaid : Prop := runsBackUptoRow.holds Try.pinned (OpenSpec.upto runsBackSpec)

/-- 'spindlelaw17.RunsThere', WHERE WHAT IT READS IS OF BULK AT MOST 1048576: true; the input reads as it did. -/
def runsThereUptoRow : OpenClaim := { program := "ytcaglhodkdfncaa", sum := "91d748091062ed3aa2d8534f8a0030da6f519ec9303d16a57591828e500c7a6d", func := "spindle/spindlelaw17.RunsThere", spec := "runsThere", unfollowed := true, recurses := true, apart := false, narrowed := true }
def RunsThereUptoSaid : Prop := runsThereUptoRow.holds Try.pinned (OpenSpec.upto runsThereSpec)

/-- 'spindlelaw17.RunsBlock', WHERE WHAT IT READS IS OF BULK AT MOST 1048576: true; the input reads as it did. -/
def runsBlockUptoRow : OpenClaim := { program := "ytcaglhodkdfncaa", sum := "91d748091062ed3aa2d8534f8a0030da6f519ec9303d16a57591828e500c7a6d", func := "spindle/spindlelaw17.RunsBlock", spec := "runsBlock", unfollowed := true, recurses := true, apart := false, narrowed := true }
def RunsBlockUptoSaid : Prop := runsBlockUptoRow.holds Try.pinned (OpenSpec.upto runsBlockSpec)

/-- 'spindlelaw17.RunsExamples', WHERE WHAT IT READS IS OF BULK AT MOST 1048576: true; the input reads as it did. -/
def runsExamplesUptoRow : OpenClaim := { program := "ytcaglhodkdfncaa", sum := "91d748091062ed3aa2d8534f8a0030da6f519ec9303d16a57591828e500c7a6d", func := "spindle/spindlelaw17.RunsExamples", spec := "runsExamples", unfollowed := true, recurses := true, apart := false, narrowed := true }
def RunsExamplesUptoSaid : Prop := runsExamplesUptoRow.holds Try.pinned (OpenSpec.upto runsExamplesSpec)

end Rows
end Go.Proofs.Ytcaglhodkdfncaa
