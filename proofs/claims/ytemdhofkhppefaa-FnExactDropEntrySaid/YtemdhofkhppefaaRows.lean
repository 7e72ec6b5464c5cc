/-
  No cell of these rows narrows 'for every input' (looked for: loops, veiled, ifaces, maps, wideKeys, modest, calm, conditions, laid).
  DERIVED. THE GIVEN ROWS OF THIS SEAT. 6 by the template 'for every input the law returns true; each argument reads behind the call as it read before'; 0 by the template 'total and deterministic' (their statements: YtemdhofkhppefaaTotals.lean).
  GIVEN WITH THE SEED: the statements are not yours to turn. If you find one false, say at which input.
  Laid BY PROGRAM, IN A SANDBOX (cutbox-rows.mjs): the forced cells as the released guide's own fill.sh prints them over the translation a8381461b33a0a58… (all of the seat's roots in one cut). By AI agents, Wed Nov 11 2026. No macro, syntax, notation, axiom, sorry.
-/
import Derived.Test.YtemdhofkhppefaaChecked
import GoSem.Claim
import GoSem.ClaimJoined
import GoSem.ClaimMapViews
import Derived.JoinedTies
import Derived.KernelRfl
namespace Go.Proofs.Ytemdhofkhppefaa
/- THE CELL 'sum', in the pinned program and in every row, IS THE sha256 OF THE DUMP (.gsa) THAT YtemdhofkhppefaaProg.lean LOADS. Nothing in Lean hashes anything: it is a label: what it is worth is what the hold of that sum in a sandbox is worth. -/
noncomputable def Try.pinned : Pinned := { name := "ytemdhofkhppefaa", sum := "a8381461b33a0a583106c66dace7974a6ae946f99b169799b83764fbf6b57d3d", checked := Try.checked }
namespace Rows
def none {H : Type} : Left H := { results := [], args := [] }

/-- 'laws.FnExactIsBetter': WHATEVER THE INPUT: true; the input reads as it did. -/
def fnExactIsBetterSpec : ChangeSpec := { name := "fnExactIsBetter", fn := fun _ => fun
  | [d1, d2] => { results := [.lit (.bool true)], args := [d1, d2] }
  | _ => none }
def fnExactIsBetterRow : OpenClaim := { program := "ytemdhofkhppefaa", sum := "a8381461b33a0a583106c66dace7974a6ae946f99b169799b83764fbf6b57d3d", func := "loop.example/g01004/laws.FnExactIsBetter", spec := "fnExactIsBetter", unfollowed := true, recurses := true, apart := false }
def FnExactIsBetterSaid : Prop := fnExactIsBetterRow.holds Try.pinned (OpenSpec.ofChange fnExactIsBetterSpec)

/-- ITS FALSE NEIGHBOUR: 'it returns false'. Refute it at one input. -/
def fnExactIsBetterWrong : ChangeSpec := { name := "fnExactIsBetter", fn := fun _ => fun
  | [d1, d2] => { results := [.lit (.bool false)], args := [d1, d2] }
  | _ => none }
def FnExactIsBetterWrongFalsely : Prop := fnExactIsBetterRow.holds Try.pinned (OpenSpec.ofChange fnExactIsBetterWrong)

/-- 'laws.FnExactKnownRanks': WHATEVER THE INPUT: true; the input reads as it did. -/
def fnExactKnownRanksSpec : ChangeSpec := { name := "fnExactKnownRanks", fn := fun _ => fun
  | [d] => { results := [.lit (.bool true)], args := [d] }
  | _ => none }
def fnExactKnownRanksRow : OpenClaim := { program := "ytemdhofkhppefaa", sum := "a8381461b33a0a583106c66dace7974a6ae946f99b169799b83764fbf6b57d3d", func := "loop.example/g01004/laws.FnExactKnownRanks", spec := "fnExactKnownRanks", apart := false }
def FnExactKnownRanksSaid : Prop := fnExactKnownRanksRow.holds Try.pinned (OpenSpec.ofChange fnExactKnownRanksSpec)

/-- ITS FALSE NEIGHBOUR: 'it returns false'. Refute it at one input. -/
def fnExactKnownRanksWrong : ChangeSpec := { name := "fnExactKnownRanks", fn := fun _ => fun
  | [d] => { results := [.lit (.bool false)], args := [d] }
  | _ => none }
def FnExactKnownRanksWrongFalsely : Prop := fnExactKnownRanksRow.holds Try.pinned (OpenSpec.ofChange fnExactKnownRanksWrong)

/-- 'laws.FnExactDropEntry': WHATEVER THE INPUT: true; the input reads as it did. -/
def fnExactDropEntrySpec : ChangeSpec := { name := "fnExactDropEntry", fn := fun _ => fun
  | [d1, d2] => { results := [.lit (.bool true)], args := [d1, d2] }
  | _ => none }
def fnExactDropEntryRow : OpenClaim := { program := "ytemdhofkhppefaa", sum := "a8381461b33a0a583106c66dace7974a6ae946f99b169799b83764fbf6b57d3d", func := "loop.example/g01004/laws.FnExactDropEntry", spec := "fnExactDropEntry", unfollowed := true, recurses := true, apart := false }
def FnExactDropEntrySaid : Prop := fnExactDropEntryRow.holds Try.pinned (OpenSpec.ofChange fnExactDropEntrySpec)

/-- ITS FALSE NEIGHBOUR: 'it returns false'. Refute it at one input. -/
def fnExactDropEntryWrong : ChangeSpec := { name := "fnExactDropEntry", fn := fun _ => fun
  | [d1, d2] => { results := [.lit (.bool false)], args := [d1, d2] }
  | _ => none }
def FnExactDropEntryWrongFalsely : Prop := fnExactDropEntryRow.holds Try.pinned (OpenSpec.ofChange fnExactDropEntryWrong)

/-- 'laws.FnExactContradictions': WHATEVER THE INPUT: true; the input reads as it did. -/
def fnExactContradictionsSpec : ChangeSpec := { name := "fnExactContradictions", fn := fun _ => fun
  | [d1, d2] => { results := [.lit (.bool true)], args := [d1, d2] }
  | _ => none }
def fnExactContradictionsRow : OpenClaim := { program := "ytemdhofkhppefaa", sum := "a8381461b33a0a583106c66dace7974a6ae946f99b169799b83764fbf6b57d3d", func := "loop.example/g01004/laws.FnExactContradictions", spec := "fnExactContradictions", unfollowed := true, recurses := true, apart := false }
def FnExactContradictionsSaid : Prop := fnExactContradictionsRow.holds Try.pinned (OpenSpec.ofChange fnExactContradictionsSpec)

/-- ITS FALSE NEIGHBOUR: 'it returns false'. Refute it at one input. -/
def fnExactContradictionsWrong : ChangeSpec := { name := "fnExactContradictions", fn := fun _ => fun
  | [d1, d2] => { results := [.lit (.bool false)], args := [d1, d2] }
  | _ => none }
def FnExactContradictionsWrongFalsely : Prop := fnExactContradictionsRow.holds Try.pinned (OpenSpec.ofChange fnExactContradictionsWrong)

/-- 'laws.FnExactTightenEntry': WHATEVER THE INPUT: true; the input reads as it did. -/
def fnExactTightenEntrySpec : ChangeSpec := { name := "fnExactTightenEntry", fn := fun _ => fun
  | [d1, d2] => { results := [.lit (.bool true)], args := [d1, d2] }
  | _ => none }
def fnExactTightenEntryRow : OpenClaim := { program := "ytemdhofkhppefaa", sum := "a8381461b33a0a583106c66dace7974a6ae946f99b169799b83764fbf6b57d3d", func := "loop.example/g01004/laws.FnExactTightenEntry", spec := "fnExactTightenEntry", inPlace := ["slices.overlaps[loop.example/g01004/impl.Entry]"], unfollowed := true, recurses := true, apart := false }
def FnExactTightenEntrySaid : Prop := fnExactTightenEntryRow.holds Try.pinned (OpenSpec.ofChange fnExactTightenEntrySpec)

/-- ITS FALSE NEIGHBOUR: 'it returns false'. Refute it at one input. -/
def fnExactTightenEntryWrong : ChangeSpec := { name := "fnExactTightenEntry", fn := fun _ => fun
  | [d1, d2] => { results := [.lit (.bool false)], args := [d1, d2] }
  | _ => none }
def FnExactTightenEntryWrongFalsely : Prop := fnExactTightenEntryRow.holds Try.pinned (OpenSpec.ofChange fnExactTightenEntryWrong)

/-- 'laws.FnExactMergeCatalogues': WHATEVER THE INPUT: true; the input reads as it did. -/
def fnExactMergeCataloguesSpec : ChangeSpec := { name := "fnExactMergeCatalogues", fn := fun _ => fun
  | [d1, d2] => { results := [.lit (.bool true)], args := [d1, d2] }
  | _ => none }
def fnExactMergeCataloguesRow : OpenClaim := { program := "ytemdhofkhppefaa", sum := "a8381461b33a0a583106c66dace7974a6ae946f99b169799b83764fbf6b57d3d", func := "loop.example/g01004/laws.FnExactMergeCatalogues", spec := "fnExactMergeCatalogues", inPlace := ["slices.overlaps[loop.example/g01004/impl.Entry]"], unfollowed := true, recurses := true, apart := false }
def FnExactMergeCataloguesSaid : Prop := fnExactMergeCataloguesRow.holds Try.pinned (OpenSpec.ofChange fnExactMergeCataloguesSpec)

/-- ITS FALSE NEIGHBOUR: 'it returns false'. Refute it at one input. -/
def fnExactMergeCataloguesWrong : ChangeSpec := { name := "fnExactMergeCatalogues", fn := fun _ => fun
  | [d1, d2] => { results := [.lit (.bool false)], args := [d1, d2] }
  | _ => none }
def FnExactMergeCataloguesWrongFalsely : Prop := fnExactMergeCataloguesRow.holds Try.pinned (OpenSpec.ofChange fnExactMergeCataloguesWrong)

/- THE SECOND FORM. 'bulk': how many values and letters a reading holds, each counted each time it is reached (what is shared counts as often as it is met; a slice's spare places count too). A statement '..UptoSaid' is the law's where the arguments, and the package variables that the reading takes, are together of bulk at most 1048576: NARROWER than '..Said'. Prove '..Said' where nothing that the law and all that it calls make is longer than what came in: it says more and counts as full. Else prove '..UptoSaid'. A law counts once. -/
mutual
def uptoBulk {H : Type} : DataW H → Nat
  | .lit (.string bytes) => bytes.length + 1
  | .lit _ => 1
  | .nil => 1
  | .ptr d => uptoBulk d + 1
  | .slice elems spare => uptoBulkAll elems + uptoBulkAll spare + 1
  | .agg parts => uptoBulkAll parts + 1
  | .iface _ d => uptoBulk d + 1
  | .map entries => uptoBulkEntries entries + 1
  | .held _ => 1
def uptoBulkAll {H : Type} : List (DataW H) → Nat
  | [] => 0
  | d :: r => uptoBulk d + uptoBulkAll r
def uptoBulkEntries {H : Type} : List (Lit × DataW H) → Nat
  | [] => 0
  | x :: r => uptoBulkEntry x + uptoBulkEntries r
def uptoBulkEntry {H : Type} : Lit × DataW H → Nat
  | (.string bytes, d) => bytes.length + uptoBulk d + 1
  | (_, d) => uptoBulk d + 1
 end
def uptoSmall : (H : Type) → List (DataW H) → Bool := fun _ ds => decide (uptoBulkAll ds ≤ 1048576)
def OpenSpec.upto (s : _root_.Go.ChangeSpec) : _root_.Go.OpenSpec := { _root_.Go.OpenSpec.ofChange s with cond := some uptoSmall }

/-- 'laws.FnExactIsBetter', WHERE WHAT IT READS IS OF BULK AT MOST 1048576: true; the input reads as it did. -/
def fnExactIsBetterUptoRow : OpenClaim := { program := "ytemdhofkhppefaa", sum := "a8381461b33a0a583106c66dace7974a6ae946f99b169799b83764fbf6b57d3d", func := "loop.example/g01004/laws.FnExactIsBetter", spec := "fnExactIsBetter", unfollowed := true, recurses := true, apart := false, narrowed := true }
def FnExactIsBetterUptoSaid : Prop := fnExactIsBetterUptoRow.holds Try.pinned (OpenSpec.upto fnExactIsBetterSpec)

/-- 'laws.FnExactKnownRanks', WHERE WHAT IT READS IS OF BULK AT MOST 1048576: true; the input reads as it did. -/
def fnExactKnownRanksUptoRow : OpenClaim := { program := "ytemdhofkhppefaa", sum := "a8381461b33a0a583106c66dace7974a6ae946f99b169799b83764fbf6b57d3d", func := "loop.example/g01004/laws.FnExactKnownRanks", spec := "fnExactKnownRanks", apart := false, narrowed := true }
def FnExactKnownRanksUptoSaid : Prop := fnExactKnownRanksUptoRow.holds Try.pinned (OpenSpec.upto fnExactKnownRanksSpec)

/-- 'laws.FnExactDropEntry', WHERE WHAT IT READS IS OF BULK AT MOST 1048576: true; the input reads as it did. -/
def fnExactDropEntryUptoRow : OpenClaim := { program := "ytemdhofkhppefaa", sum := "a8381461b33a0a583106c66dace7974a6ae946f99b169799b83764fbf6b57d3d", func := "loop.example/g01004/laws.FnExactDropEntry", spec := "fnExactDropEntry", unfollowed := true, recurses := true, apart := false, narrowed := true }
def FnExactDropEntryUptoSaid : Prop := fnExactDropEntryUptoRow.holds Try.pinned (OpenSpec.upto fnExactDropEntrySpec)

/-- 'laws.FnExactContradictions', WHERE WHAT IT READS IS OF BULK AT MOST 1048576: true; the input reads as it did. -/
def fnExactContradictionsUptoRow : OpenClaim := { program := "ytemdhofkhppefaa", sum := "a8381461b33a0a583106c66dace7974a6ae946f99b169799b83764fbf6b57d3d", func := "loop.example/g01004/laws.FnExactContradictions", spec := "fnExactContradictions", unfollowed := true, recurses := true, apart := false, narrowed := true }
def FnExactContradictionsUptoSaid : Prop := fnExactContradictionsUptoRow.holds Try.pinned (OpenSpec.upto fnExactContradictionsSpec)

/-- 'laws.FnExactTightenEntry', WHERE WHAT IT READS IS OF BULK AT MOST 1048576: true; the input reads as it did. -/
def fnExactTightenEntryUptoRow : OpenClaim := { program := "ytemdhofkhppefaa", sum := "a8381461b33a0a583106c66dace7974a6ae946f99b169799b83764fbf6b57d3d", func := "loop.example/g01004/laws.FnExactTightenEntry", spec := "fnExactTightenEntry", inPlace := ["slices.overlaps[loop.example/g01004/impl.Entry]"], unfollowed := true, recurses := true, apart := false, narrowed := true }
def FnExactTightenEntryUptoSaid : Prop := fnExactTightenEntryUptoRow.holds Try.pinned (OpenSpec.upto fnExactTightenEntrySpec)

/-- 'laws.FnExactMergeCatalogues', WHERE WHAT IT READS IS OF BULK AT MOST 1048576: true; the input reads as it did. -/
def fnExactMergeCataloguesUptoRow : OpenClaim := { program := "ytemdhofkhppefaa", sum := "a8381461b33a0a583106c66dace7974a6ae946f99b169799b83764fbf6b57d3d", func := "loop.example/g01004/laws.FnExactMergeCatalogues", spec := "fnExactMergeCatalogues", inPlace := ["slices.overlaps[loop.example/g01004/impl.Entry]"], unfollowed := true, recurses := true, apart := false, narrowed := true }
def FnExactMergeCataloguesUptoSaid : Prop := fnExactMergeCataloguesUptoRow.holds Try.pinned (OpenSpec.upto fnExactMergeCataloguesSpec)

end Rows
end Go.Proofs.Ytemdhofkhppefaa
