/-
  No cell of these rows narrows 'for every input' (looked for: loops, veiled, ifaces, maps, wideKeys, modest, calm, conditions, laid).
  DERIVED. THE GIVEN ROWS OF THIS SEAT. 9 by the template 'for every input the law returns true; each argument reads behind the call as it read before'; 0 by the template 'total and deterministic' (their statements: YtbgifnamionjgaaTotals.lean).
  GIVEN WITH THE SEED: the statements are not yours to turn. If you find one false, say at which input.
  Laid BY PROGRAM, IN A SANDBOX (cutbox-rows.mjs): the forced cells as the released guide's own fill.sh prints them over the translation 6906fd0818894dc3… (all of the seat's roots in one cut). By AI agents, Wed Nov 11 2026. No macro, syntax, notation, axiom, sorry.
-/
import Derived.Test.YtbgifnamionjgaaChecked
import GoSem.Claim
import GoSem.ClaimJoined
import GoSem.ClaimMapViews
import Derived.JoinedTies
import Derived.KernelRfl
namespace Go.Proofs.Ytbgifnamionjgaa
/- THE CELL 'sum', in the pinned program and in every row, IS THE sha256 OF THE DUMP (.gsa) THAT YtbgifnamionjgaaProg.lean LOADS. Nothing in Lean hashes anything: it is a label: what it is worth is what the hold of that sum in a sandbox is worth. -/
noncomputable def Try.pinned : Pinned := { name := "ytbgifnamionjgaa", sum := "6906fd0818894dc34c66c13a78876c7ece5e4abed5ffd07f480d911194f55c58", checked := Try.checked }
namespace Rows
def none {H : Type} : Left H := { results := [], args := [] }

/-- 'laws.FnExactNewTask': WHATEVER THE INPUT: true; the input reads as it did. -/
def fnExactNewTaskSpec : ChangeSpec := { name := "fnExactNewTask", fn := fun _ => fun
  | [d1, d2, d3] => { results := [.lit (.bool true)], args := [d1, d2, d3] }
  | _ => none }
def fnExactNewTaskRow : OpenClaim := { program := "ytbgifnamionjgaa", sum := "6906fd0818894dc34c66c13a78876c7ece5e4abed5ffd07f480d911194f55c58", func := "loop.example/g01004/laws.FnExactNewTask", spec := "fnExactNewTask", inPlace := ["math.sqrt"], apart := false }
def FnExactNewTaskSaid : Prop := fnExactNewTaskRow.holds Try.pinned (OpenSpec.ofChange fnExactNewTaskSpec)

/-- ITS FALSE NEIGHBOUR: 'it returns false'. Refute it at one input. -/
def fnExactNewTaskWrong : ChangeSpec := { name := "fnExactNewTask", fn := fun _ => fun
  | [d1, d2, d3] => { results := [.lit (.bool false)], args := [d1, d2, d3] }
  | _ => none }
def FnExactNewTaskWrongFalsely : Prop := fnExactNewTaskRow.holds Try.pinned (OpenSpec.ofChange fnExactNewTaskWrong)

/-- 'laws.FnExactIsTask': WHATEVER THE INPUT: true; the input reads as it did. -/
def fnExactIsTaskSpec : ChangeSpec := { name := "fnExactIsTask", fn := fun _ => fun
  | [d] => { results := [.lit (.bool true)], args := [d] }
  | _ => none }
def fnExactIsTaskRow : OpenClaim := { program := "ytbgifnamionjgaa", sum := "6906fd0818894dc34c66c13a78876c7ece5e4abed5ffd07f480d911194f55c58", func := "loop.example/g01004/laws.FnExactIsTask", spec := "fnExactIsTask", inPlace := ["math.sqrt"], apart := false }
def FnExactIsTaskSaid : Prop := fnExactIsTaskRow.holds Try.pinned (OpenSpec.ofChange fnExactIsTaskSpec)

/-- ITS FALSE NEIGHBOUR: 'it returns false'. Refute it at one input. -/
def fnExactIsTaskWrong : ChangeSpec := { name := "fnExactIsTask", fn := fun _ => fun
  | [d] => { results := [.lit (.bool false)], args := [d] }
  | _ => none }
def FnExactIsTaskWrongFalsely : Prop := fnExactIsTaskRow.holds Try.pinned (OpenSpec.ofChange fnExactIsTaskWrong)

/-- 'laws.FnExactRestOfTask': WHATEVER THE INPUT: true; the input reads as it did. -/
def fnExactRestOfTaskSpec : ChangeSpec := { name := "fnExactRestOfTask", fn := fun _ => fun
  | [d] => { results := [.lit (.bool true)], args := [d] }
  | _ => none }
def fnExactRestOfTaskRow : OpenClaim := { program := "ytbgifnamionjgaa", sum := "6906fd0818894dc34c66c13a78876c7ece5e4abed5ffd07f480d911194f55c58", func := "loop.example/g01004/laws.FnExactRestOfTask", spec := "fnExactRestOfTask", inPlace := ["math.sqrt"], apart := false }
def FnExactRestOfTaskSaid : Prop := fnExactRestOfTaskRow.holds Try.pinned (OpenSpec.ofChange fnExactRestOfTaskSpec)

/-- ITS FALSE NEIGHBOUR: 'it returns false'. Refute it at one input. -/
def fnExactRestOfTaskWrong : ChangeSpec := { name := "fnExactRestOfTask", fn := fun _ => fun
  | [d] => { results := [.lit (.bool false)], args := [d] }
  | _ => none }
def FnExactRestOfTaskWrongFalsely : Prop := fnExactRestOfTaskRow.holds Try.pinned (OpenSpec.ofChange fnExactRestOfTaskWrong)

/-- 'laws.FnExactCandidateOf': WHATEVER THE INPUT: true; the input reads as it did. -/
def fnExactCandidateOfSpec : ChangeSpec := { name := "fnExactCandidateOf", fn := fun _ => fun
  | [d1, d2] => { results := [.lit (.bool true)], args := [d1, d2] }
  | _ => none }
def fnExactCandidateOfRow : OpenClaim := { program := "ytbgifnamionjgaa", sum := "6906fd0818894dc34c66c13a78876c7ece5e4abed5ffd07f480d911194f55c58", func := "loop.example/g01004/laws.FnExactCandidateOf", spec := "fnExactCandidateOf", inPlace := ["math.sqrt"], apart := false }
def FnExactCandidateOfSaid : Prop := fnExactCandidateOfRow.holds Try.pinned (OpenSpec.ofChange fnExactCandidateOfSpec)

/-- ITS FALSE NEIGHBOUR: 'it returns false'. Refute it at one input. -/
def fnExactCandidateOfWrong : ChangeSpec := { name := "fnExactCandidateOf", fn := fun _ => fun
  | [d1, d2] => { results := [.lit (.bool false)], args := [d1, d2] }
  | _ => none }
def FnExactCandidateOfWrongFalsely : Prop := fnExactCandidateOfRow.holds Try.pinned (OpenSpec.ofChange fnExactCandidateOfWrong)

/-- 'laws.FnExactRunRange': WHATEVER THE INPUT: true; the input reads as it did. -/
def fnExactRunRangeSpec : ChangeSpec := { name := "fnExactRunRange", fn := fun _ => fun
  | [d1, d2, d3] => { results := [.lit (.bool true)], args := [d1, d2, d3] }
  | _ => none }
def fnExactRunRangeRow : OpenClaim := { program := "ytbgifnamionjgaa", sum := "6906fd0818894dc34c66c13a78876c7ece5e4abed5ffd07f480d911194f55c58", func := "loop.example/g01004/laws.FnExactRunRange", spec := "fnExactRunRange", inPlace := ["math.sqrt"], apart := false }
def FnExactRunRangeSaid : Prop := fnExactRunRangeRow.holds Try.pinned (OpenSpec.ofChange fnExactRunRangeSpec)

/-- ITS FALSE NEIGHBOUR: 'it returns false'. Refute it at one input. -/
def fnExactRunRangeWrong : ChangeSpec := { name := "fnExactRunRange", fn := fun _ => fun
  | [d1, d2, d3] => { results := [.lit (.bool false)], args := [d1, d2, d3] }
  | _ => none }
def FnExactRunRangeWrongFalsely : Prop := fnExactRunRangeRow.holds Try.pinned (OpenSpec.ofChange fnExactRunRangeWrong)

/-- 'laws.FnExactCrashTask': WHATEVER THE INPUT: true; the input reads as it did. -/
def fnExactCrashTaskSpec : ChangeSpec := { name := "fnExactCrashTask", fn := fun _ => fun
  | [d1, d2] => { results := [.lit (.bool true)], args := [d1, d2] }
  | _ => none }
def fnExactCrashTaskRow : OpenClaim := { program := "ytbgifnamionjgaa", sum := "6906fd0818894dc34c66c13a78876c7ece5e4abed5ffd07f480d911194f55c58", func := "loop.example/g01004/laws.FnExactCrashTask", spec := "fnExactCrashTask", inPlace := ["math.sqrt"], apart := false }
def FnExactCrashTaskSaid : Prop := fnExactCrashTaskRow.holds Try.pinned (OpenSpec.ofChange fnExactCrashTaskSpec)

/-- ITS FALSE NEIGHBOUR: 'it returns false'. Refute it at one input. -/
def fnExactCrashTaskWrong : ChangeSpec := { name := "fnExactCrashTask", fn := fun _ => fun
  | [d1, d2] => { results := [.lit (.bool false)], args := [d1, d2] }
  | _ => none }
def FnExactCrashTaskWrongFalsely : Prop := fnExactCrashTaskRow.holds Try.pinned (OpenSpec.ofChange fnExactCrashTaskWrong)

/-- 'laws.FnExactStepTask': WHATEVER THE INPUT: true; the input reads as it did. -/
def fnExactStepTaskSpec : ChangeSpec := { name := "fnExactStepTask", fn := fun _ => fun
  | [d1, d2] => { results := [.lit (.bool true)], args := [d1, d2] }
  | _ => none }
def fnExactStepTaskRow : OpenClaim := { program := "ytbgifnamionjgaa", sum := "6906fd0818894dc34c66c13a78876c7ece5e4abed5ffd07f480d911194f55c58", func := "loop.example/g01004/laws.FnExactStepTask", spec := "fnExactStepTask", inPlace := ["math.sqrt"], apart := false }
def FnExactStepTaskSaid : Prop := fnExactStepTaskRow.holds Try.pinned (OpenSpec.ofChange fnExactStepTaskSpec)

/-- ITS FALSE NEIGHBOUR: 'it returns false'. Refute it at one input. -/
def fnExactStepTaskWrong : ChangeSpec := { name := "fnExactStepTask", fn := fun _ => fun
  | [d1, d2] => { results := [.lit (.bool false)], args := [d1, d2] }
  | _ => none }
def FnExactStepTaskWrongFalsely : Prop := fnExactStepTaskRow.holds Try.pinned (OpenSpec.ofChange fnExactStepTaskWrong)

/-- 'laws.FnExactRangesOf': WHATEVER THE INPUT: true; the input reads as it did. -/
def fnExactRangesOfSpec : ChangeSpec := { name := "fnExactRangesOf", fn := fun _ => fun
  | [d1, d2] => { results := [.lit (.bool true)], args := [d1, d2] }
  | _ => none }
def fnExactRangesOfRow : OpenClaim := { program := "ytbgifnamionjgaa", sum := "6906fd0818894dc34c66c13a78876c7ece5e4abed5ffd07f480d911194f55c58", func := "loop.example/g01004/laws.FnExactRangesOf", spec := "fnExactRangesOf", inPlace := ["math.sqrt"], apart := false }
def FnExactRangesOfSaid : Prop := fnExactRangesOfRow.holds Try.pinned (OpenSpec.ofChange fnExactRangesOfSpec)

/-- ITS FALSE NEIGHBOUR: 'it returns false'. Refute it at one input. -/
def fnExactRangesOfWrong : ChangeSpec := { name := "fnExactRangesOf", fn := fun _ => fun
  | [d1, d2] => { results := [.lit (.bool false)], args := [d1, d2] }
  | _ => none }
def FnExactRangesOfWrongFalsely : Prop := fnExactRangesOfRow.holds Try.pinned (OpenSpec.ofChange fnExactRangesOfWrong)

/-- 'laws.FnExactJoinRanges': WHATEVER THE INPUT: true; the input reads as it did. -/
def fnExactJoinRangesSpec : ChangeSpec := { name := "fnExactJoinRanges", fn := fun _ => fun
  | [d1, d2] => { results := [.lit (.bool true)], args := [d1, d2] }
  | _ => none }
def fnExactJoinRangesRow : OpenClaim := { program := "ytbgifnamionjgaa", sum := "6906fd0818894dc34c66c13a78876c7ece5e4abed5ffd07f480d911194f55c58", func := "loop.example/g01004/laws.FnExactJoinRanges", spec := "fnExactJoinRanges", inPlace := ["math.sqrt"], unfollowed := true, recurses := true, apart := false }
def FnExactJoinRangesSaid : Prop := fnExactJoinRangesRow.holds Try.pinned (OpenSpec.ofChange fnExactJoinRangesSpec)

/-- ITS FALSE NEIGHBOUR: 'it returns false'. Refute it at one input. -/
def fnExactJoinRangesWrong : ChangeSpec := { name := "fnExactJoinRanges", fn := fun _ => fun
  | [d1, d2] => { results := [.lit (.bool false)], args := [d1, d2] }
  | _ => none }
def FnExactJoinRangesWrongFalsely : Prop := fnExactJoinRangesRow.holds Try.pinned (OpenSpec.ofChange fnExactJoinRangesWrong)

/- THE SECOND FORM. 'bulk': how many values and letters a reading holds, each counted each time it is reached (what is shared counts as often as it is met; a slice's spare places count too). A statement '..UptoSaid' is the law's where the arguments, and the package variables that the reading takes, are together of bulk at most 1048576: NARROWER than '..Said'. Prove '..Said' where nothing that the law and all that it calls make is longer than what came in: it says more and counts as full. Else prove '..UptoSaid'. A law counts once. -/
mutual
def uptoBulk {H : Type} : DataW H → Nat
  | .lit (.string bytes) => bytes.length + 1
  | .lit _ => 1
  | .nil => 1
  | .ptr d => uptoBulk d + 1
  | .slice elems spare => uptoBulkAll elems + uptoBulkAll spare + 1
  | .agg parts => uptoBulkAll parts + 1
  | .iface _ d => uptoBulk d + 1
  | .map entries => uptoBulkEntries entries + 1
  | .held _ => 1
def uptoBulkAll {H : Type} : List (DataW H) → Nat
  | [] => 0
  | d :: r => uptoBulk d + uptoBulkAll r
def uptoBulkEntries {H : Type} : List (Lit × DataW H) → Nat
  | [] => 0
  | x :: r => uptoBulkEntry x + uptoBulkEntries r
def uptoBulkEntry {H : Type} : Lit × DataW H → Nat
  | (.string bytes, d) => bytes.length + uptoBulk d + 1
  | (_, d) => uptoBulk d + 1
 end
def uptoSmall : (H : Type) → List (DataW H) → Bool := fun _ ds => decide (uptoBulkAll ds ≤ 1048576)
def OpenSpec.upto (s : _root_.Go.ChangeSpec) : _root_.Go.OpenSpec := { _root_.Go.OpenSpec.ofChange s with cond := some uptoSmall }

/-- 'laws.FnExactNewTask', WHERE WHAT IT READS IS OF BULK AT MOST 1048576: true; the input reads as it did. -/
def fnExactNewTaskUptoRow : OpenClaim := { program := "ytbgifnamionjgaa", sum := "6906fd0818894dc34c66c13a78876c7ece5e4abed5ffd07f480d911194f55c58", func := "loop.example/g01004/laws.FnExactNewTask", spec := "fnExactNewTask", inPlace := ["math.sqrt"], apart := false, narrowed := true }
def FnExactNewTaskUptoSaid : Prop := fnExactNewTaskUptoRow.holds Try.pinned (OpenSpec.upto fnExactNewTaskSpec)

/-- 'laws.FnExactIsTask', WHERE WHAT IT READS IS OF BULK AT MOST 1048576: true; the input reads as it did. -/
def fnExactIsTaskUptoRow : OpenClaim := { program := "ytbgifnamionjgaa", sum := "6906fd0818894dc34c66c13a78876c7ece5e4abed5ffd07f480d911194f55c58", func := "loop.example/g01004/laws.FnExactIsTask", spec := "fnExactIsTask", inPlace := ["math.sqrt"], apart := false, narrowed := true }
def FnExactIsTaskUptoSaid : Prop := fnExactIsTaskUptoRow.holds Try.pinned (OpenSpec.upto fnExactIsTaskSpec)

/-- 'laws.FnExactRestOfTask', WHERE WHAT IT READS IS OF BULK AT MOST 1048576: true; the input reads as it did. -/
def fnExactRestOfTaskUptoRow : OpenClaim := { program := "ytbgifnamionjgaa", sum := "6906fd0818894dc34c66c13a78876c7ece5e4abed5ffd07f480d911194f55c58", func := "loop.example/g01004/laws.FnExactRestOfTask", spec := "fnExactRestOfTask", inPlace := ["math.sqrt"], apart := false, narrowed := true }
def FnExactRestOfTaskUptoSaid : Prop := fnExactRestOfTaskUptoRow.holds Try.pinned (OpenSpec.upto fnExactRestOfTaskSpec)

/-- 'laws.FnExactCandidateOf', WHERE WHAT IT READS IS OF BULK AT MOST 1048576: true; the input reads as it did. -/
def fnExactCandidateOfUptoRow : OpenClaim := { program := "ytbgifnamionjgaa", sum := "6906fd0818894dc34c66c13a78876c7ece5e4abed5ffd07f480d911194f55c58", func := "loop.example/g01004/laws.FnExactCandidateOf", spec := "fnExactCandidateOf", inPlace := ["math.sqrt"], apart := false, narrowed := true }
def FnExactCandidateOfUptoSaid : Prop := fnExactCandidateOfUptoRow.holds Try.pinned (OpenSpec.upto fnExactCandidateOfSpec)

/-- 'laws.FnExactRunRange', WHERE WHAT IT READS IS OF BULK AT MOST 1048576: true; the input reads as it did. -/
def fnExactRunRangeUptoRow : OpenClaim := { program := "ytbgifnamionjgaa", sum := "6906fd0818894dc34c66c13a78876c7ece5e4abed5ffd07f480d911194f55c58", func := "loop.example/g01004/laws.FnExactRunRange", spec := "fnExactRunRange", inPlace := ["math.sqrt"], apart := false, narrowed := true }
def FnExactRunRangeUptoSaid : Prop := fnExactRunRangeUptoRow.holds Try.pinned (OpenSpec.upto fnExactRunRangeSpec)

/-- 'laws.FnExactCrashTask', WHERE WHAT IT READS IS OF BULK AT MOST 1048576: true; the input reads as it did. -/
def fnExactCrashTaskUptoRow : OpenClaim := { program := "ytbgifnamionjgaa", sum := "6906fd0818894dc34c66c13a78876c7ece5e4abed5ffd07f480d911194f55c58", func := "loop.example/g01004/laws.FnExactCrashTask", spec := "fnExactCrashTask", inPlace := ["math.sqrt"], apart := false, narrowed := true }
def FnExactCrashTaskUptoSaid : Prop := fnExactCrashTaskUptoRow.holds Try.pinned (OpenSpec.upto fnExactCrashTaskSpec)

/-- 'laws.FnExactStepTask', WHERE WHAT IT READS IS OF BULK AT MOST 1048576: true; the input reads as it did. -/
def fnExactStepTaskUptoRow : OpenClaim := { program := "ytbgifnamionjgaa", sum := "6906fd0818894dc34c66c13a78876c7ece5e4abed5ffd07f480d911194f55c58", func := "loop.example/g01004/laws.FnExactStepTask", spec := "fnExactStepTask", inPlace := ["math.sqrt"], apart := false, narrowed := true }
def FnExactStepTaskUptoSaid : Prop := fnExactStepTaskUptoRow.holds Try.pinned (OpenSpec.upto fnExactStepTaskSpec)

/-- 'laws.FnExactRangesOf', WHERE WHAT IT READS IS OF BULK AT MOST 1048576: true; the input reads as it did. -/
def fnExactRangesOfUptoRow : OpenClaim := { program := "ytbgifnamionjgaa", sum := "6906fd0818894dc34c66c13a78876c7ece5e4abed5ffd07f480d911194f55c58", func := "loop.example/g01004/laws.FnExactRangesOf", spec := "fnExactRangesOf", inPlace := ["math.sqrt"], apart := false, narrowed := true }
def FnExactRangesOfUptoSaid : Prop := fnExactRangesOfUptoRow.holds Try.pinned (OpenSpec.upto fnExactRangesOfSpec)

/-- 'laws.FnExactJoinRanges', WHERE WHAT IT READS IS OF BULK AT MOST 1048576: true; the input reads as it did. -/
def fnExactJoinRangesUptoRow : OpenClaim := { program := "ytbgifnamionjgaa", sum := "6906fd0818894dc34c66c13a78876c7ece5e4abed5ffd07f480d911194f55c58", func := "loop.example/g01004/laws.FnExactJoinRanges", spec := "fnExactJoinRanges", inPlace := ["math.sqrt"], unfollowed := true, recurses := true, apart := false, narrowed := true }
def FnExactJoinRangesUptoSaid : Prop := fnExactJoinRangesUptoRow.holds Try.pinned (OpenSpec.upto fnExactJoinRangesSpec)

end Rows
end Go.Proofs.Ytbgifnamionjgaa
