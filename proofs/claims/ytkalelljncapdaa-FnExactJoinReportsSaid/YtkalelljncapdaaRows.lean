/-
  No cell of these rows narrows 'for every input' (looked for: loops, veiled, ifaces, maps, wideKeys, modest, calm, conditions, laid).
  DERIVED. THE GIVEN ROWS OF THIS SEAT. 8 by the template 'for every input the law returns true; each argument reads behind the call as it read before'; 0 by the template 'total and deterministic' (their statements: YtkalelljncapdaaTotals.lean).
  GIVEN WITH THE SEED: the statements are not yours to turn. If you find one false, say at which input.
  Laid BY PROGRAM, IN A SANDBOX (cutbox-rows.mjs): the forced cells as the released guide's own fill.sh prints them over the translation b4a6615b6c7048c7… (all of the seat's roots in one cut). By AI agents, Wed Nov 11 2026. No macro, syntax, notation, axiom, sorry.
-/
import Derived.Test.YtkalelljncapdaaChecked
import GoSem.Claim
import GoSem.ClaimJoined
import GoSem.ClaimMapViews
import Derived.JoinedTies
import Derived.KernelRfl
namespace Go.Proofs.Ytkalelljncapdaa
/- THE CELL 'sum', in the pinned program and in every row, IS THE sha256 OF THE DUMP (.gsa) THAT YtkalelljncapdaaProg.lean LOADS. Nothing in Lean hashes anything: it is a label: what it is worth is what the hold of that sum in a sandbox is worth. -/
noncomputable def Try.pinned : Pinned := { name := "ytkalelljncapdaa", sum := "b4a6615b6c7048c70d6b5423a1770e2cf36367806e3dd14eb6019f3bebec5f61", checked := Try.checked }
namespace Rows
def none {H : Type} : Left H := { results := [], args := [] }

/-- 'laws.FnExactReportsBy': WHATEVER THE INPUT: true; the input reads as it did. -/
def fnExactReportsBySpec : ChangeSpec := { name := "fnExactReportsBy", fn := fun _ => fun
  | [d1, d2] => { results := [.lit (.bool true)], args := [d1, d2] }
  | _ => none }
def fnExactReportsByRow : OpenClaim := { program := "ytkalelljncapdaa", sum := "b4a6615b6c7048c70d6b5423a1770e2cf36367806e3dd14eb6019f3bebec5f61", func := "loop.example/g01004/laws.FnExactReportsBy", spec := "fnExactReportsBy", unfollowed := true, recurses := true, apart := false }
def FnExactReportsBySaid : Prop := fnExactReportsByRow.holds Try.pinned (OpenSpec.ofChange fnExactReportsBySpec)

/-- ITS FALSE NEIGHBOUR: 'it returns false'. Refute it at one input. -/
def fnExactReportsByWrong : ChangeSpec := { name := "fnExactReportsBy", fn := fun _ => fun
  | [d1, d2] => { results := [.lit (.bool false)], args := [d1, d2] }
  | _ => none }
def FnExactReportsByWrongFalsely : Prop := fnExactReportsByRow.holds Try.pinned (OpenSpec.ofChange fnExactReportsByWrong)

/-- 'laws.FnExactReportsUpTo': WHATEVER THE INPUT: true; the input reads as it did. -/
def fnExactReportsUpToSpec : ChangeSpec := { name := "fnExactReportsUpTo", fn := fun _ => fun
  | [d1, d2] => { results := [.lit (.bool true)], args := [d1, d2] }
  | _ => none }
def fnExactReportsUpToRow : OpenClaim := { program := "ytkalelljncapdaa", sum := "b4a6615b6c7048c70d6b5423a1770e2cf36367806e3dd14eb6019f3bebec5f61", func := "loop.example/g01004/laws.FnExactReportsUpTo", spec := "fnExactReportsUpTo", unfollowed := true, recurses := true, apart := false }
def FnExactReportsUpToSaid : Prop := fnExactReportsUpToRow.holds Try.pinned (OpenSpec.ofChange fnExactReportsUpToSpec)

/-- ITS FALSE NEIGHBOUR: 'it returns false'. Refute it at one input. -/
def fnExactReportsUpToWrong : ChangeSpec := { name := "fnExactReportsUpTo", fn := fun _ => fun
  | [d1, d2] => { results := [.lit (.bool false)], args := [d1, d2] }
  | _ => none }
def FnExactReportsUpToWrongFalsely : Prop := fnExactReportsUpToRow.holds Try.pinned (OpenSpec.ofChange fnExactReportsUpToWrong)

/-- 'laws.FnExactMissingReports': WHATEVER THE INPUT: true; the input reads as it did. -/
def fnExactMissingReportsSpec : ChangeSpec := { name := "fnExactMissingReports", fn := fun _ => fun
  | [d1, d2] => { results := [.lit (.bool true)], args := [d1, d2] }
  | _ => none }
def fnExactMissingReportsRow : OpenClaim := { program := "ytkalelljncapdaa", sum := "b4a6615b6c7048c70d6b5423a1770e2cf36367806e3dd14eb6019f3bebec5f61", func := "loop.example/g01004/laws.FnExactMissingReports", spec := "fnExactMissingReports", unfollowed := true, recurses := true, apart := false }
def FnExactMissingReportsSaid : Prop := fnExactMissingReportsRow.holds Try.pinned (OpenSpec.ofChange fnExactMissingReportsSpec)

/-- ITS FALSE NEIGHBOUR: 'it returns false'. Refute it at one input. -/
def fnExactMissingReportsWrong : ChangeSpec := { name := "fnExactMissingReports", fn := fun _ => fun
  | [d1, d2] => { results := [.lit (.bool false)], args := [d1, d2] }
  | _ => none }
def FnExactMissingReportsWrongFalsely : Prop := fnExactMissingReportsRow.holds Try.pinned (OpenSpec.ofChange fnExactMissingReportsWrong)

/-- 'laws.FnExactPutReport': WHATEVER THE INPUT: true; the input reads as it did. -/
def fnExactPutReportSpec : ChangeSpec := { name := "fnExactPutReport", fn := fun _ => fun
  | [d1, d2] => { results := [.lit (.bool true)], args := [d1, d2] }
  | _ => none }
def fnExactPutReportRow : OpenClaim := { program := "ytkalelljncapdaa", sum := "b4a6615b6c7048c70d6b5423a1770e2cf36367806e3dd14eb6019f3bebec5f61", func := "loop.example/g01004/laws.FnExactPutReport", spec := "fnExactPutReport", inPlace := ["slices.overlaps[loop.example/g01004/impl.Report]"], unfollowed := true, recurses := true, apart := false }
def FnExactPutReportSaid : Prop := fnExactPutReportRow.holds Try.pinned (OpenSpec.ofChange fnExactPutReportSpec)

/-- ITS FALSE NEIGHBOUR: 'it returns false'. Refute it at one input. -/
def fnExactPutReportWrong : ChangeSpec := { name := "fnExactPutReport", fn := fun _ => fun
  | [d1, d2] => { results := [.lit (.bool false)], args := [d1, d2] }
  | _ => none }
def FnExactPutReportWrongFalsely : Prop := fnExactPutReportRow.holds Try.pinned (OpenSpec.ofChange fnExactPutReportWrong)

/-- 'laws.FnExactJoinReports': WHATEVER THE INPUT: true; the input reads as it did. -/
def fnExactJoinReportsSpec : ChangeSpec := { name := "fnExactJoinReports", fn := fun _ => fun
  | [d1, d2] => { results := [.lit (.bool true)], args := [d1, d2] }
  | _ => none }
def fnExactJoinReportsRow : OpenClaim := { program := "ytkalelljncapdaa", sum := "b4a6615b6c7048c70d6b5423a1770e2cf36367806e3dd14eb6019f3bebec5f61", func := "loop.example/g01004/laws.FnExactJoinReports", spec := "fnExactJoinReports", inPlace := ["slices.overlaps[loop.example/g01004/impl.Report]"], unfollowed := true, recurses := true, apart := false }
def FnExactJoinReportsSaid : Prop := fnExactJoinReportsRow.holds Try.pinned (OpenSpec.ofChange fnExactJoinReportsSpec)

/-- ITS FALSE NEIGHBOUR: 'it returns false'. Refute it at one input. -/
def fnExactJoinReportsWrong : ChangeSpec := { name := "fnExactJoinReports", fn := fun _ => fun
  | [d1, d2] => { results := [.lit (.bool false)], args := [d1, d2] }
  | _ => none }
def FnExactJoinReportsWrongFalsely : Prop := fnExactJoinReportsRow.holds Try.pinned (OpenSpec.ofChange fnExactJoinReportsWrong)

/-- 'laws.FnExactCatalogueOf': WHATEVER THE INPUT: true; the input reads as it did. -/
def fnExactCatalogueOfSpec : ChangeSpec := { name := "fnExactCatalogueOf", fn := fun _ => fun
  | [d] => { results := [.lit (.bool true)], args := [d] }
  | _ => none }
def fnExactCatalogueOfRow : OpenClaim := { program := "ytkalelljncapdaa", sum := "b4a6615b6c7048c70d6b5423a1770e2cf36367806e3dd14eb6019f3bebec5f61", func := "loop.example/g01004/laws.FnExactCatalogueOf", spec := "fnExactCatalogueOf", inPlace := ["slices.overlaps[loop.example/g01004/impl.Entry]"], unfollowed := true, recurses := true, apart := false }
def FnExactCatalogueOfSaid : Prop := fnExactCatalogueOfRow.holds Try.pinned (OpenSpec.ofChange fnExactCatalogueOfSpec)

/-- ITS FALSE NEIGHBOUR: 'it returns false'. Refute it at one input. -/
def fnExactCatalogueOfWrong : ChangeSpec := { name := "fnExactCatalogueOf", fn := fun _ => fun
  | [d] => { results := [.lit (.bool false)], args := [d] }
  | _ => none }
def FnExactCatalogueOfWrongFalsely : Prop := fnExactCatalogueOfRow.holds Try.pinned (OpenSpec.ofChange fnExactCatalogueOfWrong)

/-- 'laws.FnExactFirstContradiction': WHATEVER THE INPUT: true; the input reads as it did. -/
def fnExactFirstContradictionSpec : ChangeSpec := { name := "fnExactFirstContradiction", fn := fun _ => fun
  | [d] => { results := [.lit (.bool true)], args := [d] }
  | _ => none }
def fnExactFirstContradictionRow : OpenClaim := { program := "ytkalelljncapdaa", sum := "b4a6615b6c7048c70d6b5423a1770e2cf36367806e3dd14eb6019f3bebec5f61", func := "loop.example/g01004/laws.FnExactFirstContradiction", spec := "fnExactFirstContradiction", inPlace := ["slices.overlaps[loop.example/g01004/impl.Entry]"], unfollowed := true, recurses := true, apart := false }
def FnExactFirstContradictionSaid : Prop := fnExactFirstContradictionRow.holds Try.pinned (OpenSpec.ofChange fnExactFirstContradictionSpec)

/-- ITS FALSE NEIGHBOUR: 'it returns false'. Refute it at one input. -/
def fnExactFirstContradictionWrong : ChangeSpec := { name := "fnExactFirstContradiction", fn := fun _ => fun
  | [d] => { results := [.lit (.bool false)], args := [d] }
  | _ => none }
def FnExactFirstContradictionWrongFalsely : Prop := fnExactFirstContradictionRow.holds Try.pinned (OpenSpec.ofChange fnExactFirstContradictionWrong)

/-- 'laws.FnExactWithoutContradictions': WHATEVER THE INPUT: true; the input reads as it did. -/
def fnExactWithoutContradictionsSpec : ChangeSpec := { name := "fnExactWithoutContradictions", fn := fun _ => fun
  | [d] => { results := [.lit (.bool true)], args := [d] }
  | _ => none }
def fnExactWithoutContradictionsRow : OpenClaim := { program := "ytkalelljncapdaa", sum := "b4a6615b6c7048c70d6b5423a1770e2cf36367806e3dd14eb6019f3bebec5f61", func := "loop.example/g01004/laws.FnExactWithoutContradictions", spec := "fnExactWithoutContradictions", inPlace := ["slices.overlaps[loop.example/g01004/impl.Entry]"], unfollowed := true, recurses := true, apart := false }
def FnExactWithoutContradictionsSaid : Prop := fnExactWithoutContradictionsRow.holds Try.pinned (OpenSpec.ofChange fnExactWithoutContradictionsSpec)

/-- ITS FALSE NEIGHBOUR: 'it returns false'. Refute it at one input. -/
def fnExactWithoutContradictionsWrong : ChangeSpec := { name := "fnExactWithoutContradictions", fn := fun _ => fun
  | [d] => { results := [.lit (.bool false)], args := [d] }
  | _ => none }
def FnExactWithoutContradictionsWrongFalsely : Prop := fnExactWithoutContradictionsRow.holds Try.pinned (OpenSpec.ofChange fnExactWithoutContradictionsWrong)

/- THE SECOND FORM. 'bulk': how many values and letters a reading holds, each counted each time it is reached (what is shared counts as often as it is met; a slice's spare places count too). A statement '..UptoSaid' is the law's where the arguments, and the package variables that the reading takes, are together of bulk at most 1048576: NARROWER than '..Said'. Prove '..Said' where nothing that the law and all that it calls make is longer than what came in: it says more and counts as full. Else prove '..UptoSaid'. A law counts once. -/
mutual
def uptoBulk {H : Type} : DataW H → Nat
  | .lit (.string bytes) => bytes.length + 1
  | .lit _ => 1
  | .nil => 1
  | .ptr d => uptoBulk d + 1
  | .slice elems spare => uptoBulkAll elems + uptoBulkAll spare + 1
  | .agg parts => uptoBulkAll parts + 1
  | .iface _ d => uptoBulk d + 1
  | .map entries => uptoBulkEntries entries + 1
  | .held _ => 1
def uptoBulkAll {H : Type} : List (DataW H) → Nat
  | [] => 0
  | d :: r => uptoBulk d + uptoBulkAll r
def uptoBulkEntries {H : Type} : List (Lit × DataW H) → Nat
  | [] => 0
  | x :: r => uptoBulkEntry x + uptoBulkEntries r
def uptoBulkEntry {H : Type} : Lit × DataW H → Nat
  | (.string bytes, d) => bytes.length + uptoBulk d + 1
  | (_, d) => uptoBulk d + 1
 end
def uptoSmall : (H : Type) → List (DataW H) → Bool := fun _ ds => decide (uptoBulkAll ds ≤ 1048576)
def OpenSpec.upto (s : _root_.Go.ChangeSpec) : _root_.Go.OpenSpec := { _root_.Go.OpenSpec.ofChange s with cond := some uptoSmall }

/-- 'laws.FnExactReportsBy', WHERE WHAT IT READS IS OF BULK AT MOST 1048576: true; the input reads as it did. -/
def fnExactReportsByUptoRow : OpenClaim := { program := "ytkalelljncapdaa", sum := "b4a6615b6c7048c70d6b5423a1770e2cf36367806e3dd14eb6019f3bebec5f61", func := "loop.example/g01004/laws.FnExactReportsBy", spec := "fnExactReportsBy", unfollowed := true, recurses := true, apart := false, narrowed := true }
def FnExactReportsByUptoSaid : Prop := fnExactReportsByUptoRow.holds Try.pinned (OpenSpec.upto fnExactReportsBySpec)

/-- 'laws.FnExactReportsUpTo', WHERE WHAT IT READS IS OF BULK AT MOST 1048576: true; the input reads as it did. -/
def fnExactReportsUpToUptoRow : OpenClaim := { program := "ytkalelljncapdaa", sum := "b4a6615b6c7048c70d6b5423a1770e2cf36367806e3dd14eb6019f3bebec5f61", func := "loop.example/g01004/laws.FnExactReportsUpTo", spec := "fnExactReportsUpTo", unfollowed := true, recurses := true, apart := false, narrowed := true }
def FnExactReportsUpToUptoSaid : Prop := fnExactReportsUpToUptoRow.holds Try.pinned (OpenSpec.upto fnExactReportsUpToSpec)

/-- 'laws.FnExactMissingReports', WHERE WHAT IT READS IS OF BULK AT MOST 1048576: true; the input reads as it did. -/
def fnExactMissingReportsUptoRow : OpenClaim := { program := "ytkalelljncapdaa", sum := "b4a6615b6c7048c70d6b5423a1770e2cf36367806e3dd14eb6019f3bebec5f61", func := "loop.example/g01004/laws.FnExactMissingReports", spec := "fnExactMissingReports", unfollowed := true, recurses := true, apart := false, narrowed := true }
def FnExactMissingReportsUptoSaid : Prop := fnExactMissingReportsUptoRow.holds Try.pinned (OpenSpec.upto fnExactMissingReportsSpec)

/-- 'laws.FnExactPutReport', WHERE WHAT IT READS IS OF BULK AT MOST 1048576: true; the input reads as it did. -/
def fnExactPutReportUptoRow : OpenClaim := { program := "ytkalelljncapdaa", sum := "b4a6615b6c7048c70d6b5423a1770e2cf36367806e3dd14eb6019f3bebec5f61", func := "loop.example/g01004/laws.FnExactPutReport", spec := "fnExactPutReport", inPlace := ["slices.overlaps[loop.example/g01004/impl.Report]"], unfollowed := true, recurses := true, apart := false, narrowed := true }
def FnExactPutReportUptoSaid : Prop := fnExactPutReportUptoRow.holds Try.pinned (OpenSpec.upto fnExactPutReportSpec)

/-- 'laws.FnExactJoinReports', WHERE WHAT IT READS IS OF BULK AT MOST 1048576: true; the input reads as it did. -/
def fnExactJoinReportsUptoRow : OpenClaim := { program := "ytkalelljncapdaa", sum := "b4a6615b6c7048c70d6b5423a1770e2cf36367806e3dd14eb6019f3bebec5f61", func := "loop.example/g01004/laws.FnExactJoinReports", spec := "fnExactJoinReports", inPlace := ["slices.overlaps[loop.example/g01004/impl.Report]"], unfollowed := true, recurses := true, apart := false, narrowed := true }
def FnExactJoinReportsUptoSaid : Prop := fnExactJoinReportsUptoRow.holds Try.pinned (OpenSpec.upto fnExactJoinReportsSpec)

/-- 'laws.FnExactCatalogueOf', WHERE WHAT IT READS IS OF BULK AT MOST 1048576: true; the input reads as it did. -/
def fnExactCatalogueOfUptoRow : OpenClaim := { program := "ytkalelljncapdaa", sum := "b4a6615b6c7048c70d6b5423a1770e2cf36367806e3dd14eb6019f3bebec5f61", func := "loop.example/g01004/laws.FnExactCatalogueOf", spec := "fnExactCatalogueOf", inPlace := ["slices.overlaps[loop.example/g01004/impl.Entry]"], unfollowed := true, recurses := true, apart := false, narrowed := true }
def FnExactCatalogueOfUptoSaid : Prop := fnExactCatalogueOfUptoRow.holds Try.pinned (OpenSpec.upto fnExactCatalogueOfSpec)

/-- 'laws.FnExactFirstContradiction', WHERE WHAT IT READS IS OF BULK AT MOST 1048576: true; the input reads as it did. -/
def fnExactFirstContradictionUptoRow : OpenClaim := { program := "ytkalelljncapdaa", sum := "b4a6615b6c7048c70d6b5423a1770e2cf36367806e3dd14eb6019f3bebec5f61", func := "loop.example/g01004/laws.FnExactFirstContradiction", spec := "fnExactFirstContradiction", inPlace := ["slices.overlaps[loop.example/g01004/impl.Entry]"], unfollowed := true, recurses := true, apart := false, narrowed := true }
def FnExactFirstContradictionUptoSaid : Prop := fnExactFirstContradictionUptoRow.holds Try.pinned (OpenSpec.upto fnExactFirstContradictionSpec)

/-- 'laws.FnExactWithoutContradictions', WHERE WHAT IT READS IS OF BULK AT MOST 1048576: true; the input reads as it did. -/
def fnExactWithoutContradictionsUptoRow : OpenClaim := { program := "ytkalelljncapdaa", sum := "b4a6615b6c7048c70d6b5423a1770e2cf36367806e3dd14eb6019f3bebec5f61", func := "loop.example/g01004/laws.FnExactWithoutContradictions", spec := "fnExactWithoutContradictions", inPlace := ["slices.overlaps[loop.example/g01004/impl.Entry]"], unfollowed := true, recurses := true, apart := false, narrowed := true }
def FnExactWithoutContradictionsUptoSaid : Prop := fnExactWithoutContradictionsUptoRow.holds Try.pinned (OpenSpec.upto fnExactWithoutContradictionsSpec)

end Rows
end Go.Proofs.Ytkalelljncapdaa
