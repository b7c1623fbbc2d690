/-
  No cell of these rows narrows 'for every input' (looked for: loops, veiled, ifaces, maps, wideKeys, modest, calm, conditions, laid).
  DERIVED. THE GIVEN ROWS OF THIS SEAT. 7 by the template 'for every input the law returns true; each argument reads behind the call as it read before'; 0 by the template 'total and deterministic' (their statements: YtomeiofieheggaaTotals.lean).
  GIVEN WITH THE SEED: the statements are not yours to turn. If you find one false, say at which input.
  Laid BY PROGRAM, IN A SANDBOX (cutbox-rows.mjs): the forced cells as the released guide's own fill.sh prints them over the translation 359ca0bd05700db5… (all of the seat's roots in one cut). By AI agents, Wed Nov 11 2026. No macro, syntax, notation, axiom, sorry.
-/
import Derived.Test.YtomeiofieheggaaChecked
import GoSem.Claim
import GoSem.ClaimJoined
import GoSem.ClaimMapViews
import Derived.JoinedTies
import Derived.KernelRfl
namespace Go.Proofs.Ytomeiofieheggaa
/- THE CELL 'sum', in the pinned program and in every row, IS THE sha256 OF THE DUMP (.gsa) THAT YtomeiofieheggaaProg.lean LOADS. Nothing in Lean hashes anything: it is a label: what it is worth is what the hold of that sum in a sandbox is worth. -/
noncomputable def Try.pinned : Pinned := { name := "ytomeiofieheggaa", sum := "359ca0bd05700db537863b44e799bed0e41d887468dd949fb9585eff88baced2", checked := Try.checked }
namespace Rows
def none {H : Type} : Left H := { results := [], args := [] }

/-- 'spindlelaw24.CtxInits': WHATEVER THE INPUT: true; the input reads as it did. -/
def ctxInitsSpec : ChangeSpec := { name := "ctxInits", fn := fun _ => fun
  | [d1, d2, d3] => { results := [.lit (.bool true)], args := [d1, d2, d3] }
  | _ => none }
def ctxInitsRow : OpenClaim := { program := "ytomeiofieheggaa", sum := "359ca0bd05700db537863b44e799bed0e41d887468dd949fb9585eff88baced2", func := "spindle/spindlelaw24.CtxInits", spec := "ctxInits", apart := false }
def CtxInitsSaid : Prop := ctxInitsRow.holds Try.pinned (OpenSpec.ofChange ctxInitsSpec)

/-- ITS FALSE NEIGHBOUR: 'it returns false'. Refute it at one input. -/
def ctxInitsWrong : ChangeSpec := { name := "ctxInits", fn := fun _ => fun
  | [d1, d2, d3] => { results := [.lit (.bool false)], args := [d1, d2, d3] }
  | _ => none }
def CtxInitsWrongFalsely : Prop := ctxInitsRow.holds Try.pinned (OpenSpec.ofChange ctxInitsWrong)

/-- 'spindlelaw24.CtxFolds': WHATEVER THE INPUT: true; the input reads as it did. -/
def ctxFoldsSpec : ChangeSpec := { name := "ctxFolds", fn := fun _ => fun
  | [d1, d2, d3] => { results := [.lit (.bool true)], args := [d1, d2, d3] }
  | _ => none }
def ctxFoldsRow : OpenClaim := { program := "ytomeiofieheggaa", sum := "359ca0bd05700db537863b44e799bed0e41d887468dd949fb9585eff88baced2", func := "spindle/spindlelaw24.CtxFolds", spec := "ctxFolds", apart := false }
def CtxFoldsSaid : Prop := ctxFoldsRow.holds Try.pinned (OpenSpec.ofChange ctxFoldsSpec)

/-- ITS FALSE NEIGHBOUR: 'it returns false'. Refute it at one input. -/
def ctxFoldsWrong : ChangeSpec := { name := "ctxFolds", fn := fun _ => fun
  | [d1, d2, d3] => { results := [.lit (.bool false)], args := [d1, d2, d3] }
  | _ => none }
def CtxFoldsWrongFalsely : Prop := ctxFoldsRow.holds Try.pinned (OpenSpec.ofChange ctxFoldsWrong)

/-- 'spindlelaw24.CtxOrder': WHATEVER THE INPUT: true; the input reads as it did. -/
def ctxOrderSpec : ChangeSpec := { name := "ctxOrder", fn := fun _ => fun
  | [d1, d2, d3] => { results := [.lit (.bool true)], args := [d1, d2, d3] }
  | _ => none }
def ctxOrderRow : OpenClaim := { program := "ytomeiofieheggaa", sum := "359ca0bd05700db537863b44e799bed0e41d887468dd949fb9585eff88baced2", func := "spindle/spindlelaw24.CtxOrder", spec := "ctxOrder", apart := false }
def CtxOrderSaid : Prop := ctxOrderRow.holds Try.pinned (OpenSpec.ofChange ctxOrderSpec)

/-- ITS FALSE NEIGHBOUR: 'it returns false'. Refute it at one input. -/
def ctxOrderWrong : ChangeSpec := { name := "ctxOrder", fn := fun _ => fun
  | [d1, d2, d3] => { results := [.lit (.bool false)], args := [d1, d2, d3] }
  | _ => none }
def CtxOrderWrongFalsely : Prop := ctxOrderRow.holds Try.pinned (OpenSpec.ofChange ctxOrderWrong)

/-- 'spindlelaw24.CtxSlopes': WHATEVER THE INPUT: true; the input reads as it did. -/
def ctxSlopesSpec : ChangeSpec := { name := "ctxSlopes", fn := fun _ => fun
  | [d1, d2] => { results := [.lit (.bool true)], args := [d1, d2] }
  | _ => none }
def ctxSlopesRow : OpenClaim := { program := "ytomeiofieheggaa", sum := "359ca0bd05700db537863b44e799bed0e41d887468dd949fb9585eff88baced2", func := "spindle/spindlelaw24.CtxSlopes", spec := "ctxSlopes", unfollowed := true, recurses := true, apart := false }
def CtxSlopesSaid : Prop := ctxSlopesRow.holds Try.pinned (OpenSpec.ofChange ctxSlopesSpec)

/-- ITS FALSE NEIGHBOUR: 'it returns false'. Refute it at one input. -/
def ctxSlopesWrong : ChangeSpec := { name := "ctxSlopes", fn := fun _ => fun
  | [d1, d2] => { results := [.lit (.bool false)], args := [d1, d2] }
  | _ => none }
def CtxSlopesWrongFalsely : Prop := ctxSlopesRow.holds Try.pinned (OpenSpec.ofChange ctxSlopesWrong)

/-- 'spindlelaw24.CtxNames': WHATEVER THE INPUT: true; the input reads as it did. -/
def ctxNamesSpec : ChangeSpec := { name := "ctxNames", fn := fun _ => fun
  | [] => { results := [.lit (.bool true)], args := [] }
  | _ => none }
def ctxNamesRow : OpenClaim := { program := "ytomeiofieheggaa", sum := "359ca0bd05700db537863b44e799bed0e41d887468dd949fb9585eff88baced2", func := "spindle/spindlelaw24.CtxNames", spec := "ctxNames", apart := false }
def CtxNamesSaid : Prop := ctxNamesRow.holds Try.pinned (OpenSpec.ofChange ctxNamesSpec)

/-- ITS FALSE NEIGHBOUR: 'it returns false'. Refute it at one input. -/
def ctxNamesWrong : ChangeSpec := { name := "ctxNames", fn := fun _ => fun
  | [] => { results := [.lit (.bool false)], args := [] }
  | _ => none }
def CtxNamesWrongFalsely : Prop := ctxNamesRow.holds Try.pinned (OpenSpec.ofChange ctxNamesWrong)

/-- 'spindlelaw24.CtxMatches': WHATEVER THE INPUT: true; the input reads as it did. -/
def ctxMatchesSpec : ChangeSpec := { name := "ctxMatches", fn := fun _ => fun
  | [d1, d2, d3, d4] => { results := [.lit (.bool true)], args := [d1, d2, d3, d4] }
  | _ => none }
def ctxMatchesRow : OpenClaim := { program := "ytomeiofieheggaa", sum := "359ca0bd05700db537863b44e799bed0e41d887468dd949fb9585eff88baced2", func := "spindle/spindlelaw24.CtxMatches", spec := "ctxMatches", apart := false }
def CtxMatchesSaid : Prop := ctxMatchesRow.holds Try.pinned (OpenSpec.ofChange ctxMatchesSpec)

/-- ITS FALSE NEIGHBOUR: 'it returns false'. Refute it at one input. -/
def ctxMatchesWrong : ChangeSpec := { name := "ctxMatches", fn := fun _ => fun
  | [d1, d2, d3, d4] => { results := [.lit (.bool false)], args := [d1, d2, d3, d4] }
  | _ => none }
def CtxMatchesWrongFalsely : Prop := ctxMatchesRow.holds Try.pinned (OpenSpec.ofChange ctxMatchesWrong)

/-- 'spindlelaw24.CtxTwins': WHATEVER THE INPUT: true; the input reads as it did. -/
def ctxTwinsSpec : ChangeSpec := { name := "ctxTwins", fn := fun _ => fun
  | [d1, d2, d3] => { results := [.lit (.bool true)], args := [d1, d2, d3] }
  | _ => none }
def ctxTwinsRow : OpenClaim := { program := "ytomeiofieheggaa", sum := "359ca0bd05700db537863b44e799bed0e41d887468dd949fb9585eff88baced2", func := "spindle/spindlelaw24.CtxTwins", spec := "ctxTwins", apart := false }
def CtxTwinsSaid : Prop := ctxTwinsRow.holds Try.pinned (OpenSpec.ofChange ctxTwinsSpec)

/-- ITS FALSE NEIGHBOUR: 'it returns false'. Refute it at one input. -/
def ctxTwinsWrong : ChangeSpec := { name := "ctxTwins", fn := fun _ => fun
  | [d1, d2, d3] => { results := [.lit (.bool false)], args := [d1, d2, d3] }
  | _ => none }
def CtxTwinsWrongFalsely : Prop := ctxTwinsRow.holds Try.pinned (OpenSpec.ofChange ctxTwinsWrong)

/- THE SECOND FORM. 'bulk': how many values and letters a reading holds, each counted each time it is reached (what is shared counts as often as it is met; a slice's spare places count too). A statement '..UptoSaid' is the law's where the arguments, and the package variables that the reading takes, are together of bulk at most 1048576: NARROWER than '..Said'. Prove '..Said' where nothing that the law and all that it calls make is longer than what came in: it says more and counts as full. Else prove '..UptoSaid'. A law counts once. -/
mutual
def uptoBulk {H : Type} : DataW H → Nat
  | .lit (.string bytes) => bytes.length + 1
  | .lit _ => 1
  | .nil => 1
  | .ptr d => uptoBulk d + 1
  | .slice elems spare => uptoBulkAll elems + uptoBulkAll spare + 1
  | .agg parts => uptoBulkAll parts + 1
  | .iface _ d => uptoBulk d + 1
  | .map entries => uptoBulkEntries entries + 1
  | .held _ => 1
def uptoBulkAll {H : Type} : List (DataW H) → Nat
  | [] => 0
  | d :: r => uptoBulk d + uptoBulkAll r
def uptoBulkEntries {H : Type} : List (Lit × DataW H) → Nat
  | [] => 0
  | x :: r => uptoBulkEntry x + uptoBulkEntries r
def uptoBulkEntry {H : Type} : Lit × DataW H → Nat
  | (.string bytes, d) => bytes.length + uptoBulk d + 1
  | (_, d) => uptoBulk d + 1
 end
def uptoSmall : (H : Type) → List (DataW H) → Bool := fun _ ds => decide (uptoBulkAll ds ≤ 1048576)
def OpenSpec.upto (s : _root_.Go.ChangeSpec) : _root_.Go.OpenSpec := { _root_.Go.OpenSpec.ofChange s with cond := some uptoSmall }

/-- 'spindlelaw24.CtxInits', WHERE WHAT IT READS IS OF BULK AT MOST 1048576: true; the input reads as it did. -/
def ctxInitsUptoRow : OpenClaim := { program := "ytomeiofieheggaa", sum := "359ca0bd05700db537863b44e799bed0e41d887468dd949fb9585eff88baced2", func := "spindle/spindlelaw24.CtxInits", spec := "ctxInits", apart := false, narrowed := true }
def CtxInitsUptoSaid : Prop := ctxInitsUptoRow.holds Try.pinned (OpenSpec.upto ctxInitsSpec)

/-- 'spindlelaw24.CtxFolds', WHERE WHAT IT READS IS OF BULK AT MOST 1048576: true; the input reads as it did. -/
def ctxFoldsUptoRow : OpenClaim := { program := "ytomeiofieheggaa", sum := "359ca0bd05700db537863b44e799bed0e41d887468dd949fb9585eff88baced2", func := "spindle/spindlelaw24.CtxFolds", spec := "ctxFolds", apart := false, narrowed := true }
def CtxFoldsUptoSaid : Prop := ctxFoldsUptoRow.holds Try.pinned (OpenSpec.upto ctxFoldsSpec)

/-- 'spindlelaw24.CtxOrder', WHERE WHAT IT READS IS OF BULK AT MOST 1048576: true; the input reads as it did. -/
def ctxOrderUptoRow : OpenClaim := { program := "ytomeiofieheggaa", sum := "359ca0bd05700db537863b44e799bed0e41d887468dd949fb9585eff88baced2", func := "spindle/spindlelaw24.CtxOrder", spec := "ctxOrder", apart := false, narrowed := true }
def CtxOrderUptoSaid : Prop := ctxOrderUptoRow.holds Try.pinned (OpenSpec.upto ctxOrderSpec)

/-- 'spindlelaw24.CtxSlopes', WHERE WHAT IT READS IS OF BULK AT MOST 1048576: true; the input reads as it did. -/
def ctxSlopesUptoRow : OpenClaim := { program := "ytomeiofieheggaa", sum := "359ca0bd05700db537863b44e799bed0e41d887468dd949fb9585eff88baced2", func := "spindle/spindlelaw24.CtxSlopes", spec := "ctxSlopes", unfollowed := true, recurses := true, apart := false, narrowed := true }
def CtxSlopesUptoSaid : Prop := ctxSlopesUptoRow.holds Try.pinned (OpenSpec.upto ctxSlopesSpec)

/-- 'spindlelaw24.CtxNames', WHERE WHAT IT READS IS OF BULK AT MOST 1048576: true; the input reads as it did. -/
def ctxNamesUptoRow : OpenClaim := { program := "ytomeiofieheggaa", sum := "359ca0bd05700db537863b44e799bed0e41d887468dd949fb9585eff88baced2", func := "spindle/spindlelaw24.CtxNames", spec := "ctxNames", apart := false, narrowed := true }
def CtxNamesUptoSaid : Prop := ctxNamesUptoRow.holds Try.pinned (OpenSpec.upto ctxNamesSpec)

/-- 'spindlelaw24.CtxMatches', WHERE WHAT IT READS IS OF BULK AT MOST 1048576: true; the input reads as it did. -/
def ctxMatchesUptoRow : OpenClaim := { program := "ytomeiofieheggaa", sum := "359ca0bd05700db537863b44e799bed0e41d887468dd949fb9585eff88baced2", func := "spindle/spindlelaw24.CtxMatches", spec := "ctxMatches", apart := false, narrowed := true }
def CtxMatchesUptoSaid : Prop := ctxMatchesUptoRow.holds Try.pinned (OpenSpec.upto ctxMatchesSpec)

/-- 'spindlelaw24.CtxTwins', WHERE WHAT IT READS IS OF BULK AT MOST 1048576: true; the input reads as it did. -/
def ctxTwinsUptoRow : OpenClaim := { program := "ytomeiofieheggaa", sum := "359ca0bd05700db537863b44e799bed0e41d887468dd949fb9585eff88baced2", func := "spindle/spindlelaw24.CtxTwins", spec := "ctxTwins", apart := false, narrowed := true }
def CtxTwinsUptoSaid : Prop := ctxTwinsUptoRow.holds Try.pinned (OpenSpec.upto ctxTwinsSpec)

end Rows
end Go.Proofs.Ytomeiofieheggaa
