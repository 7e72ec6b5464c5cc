/- The law FnExactCompactJournal: the card. Conditions: none (the listed variables are tied to the program's text). -/
import Derived.Test.YtegnommappmegaaDoorLawComp
import Derived.Test.YtegnommappmegaaDoorCompC1
import Derived.Test.YtegnommappmegaaDoorCompC2
import Derived.Test.YtegnommappmegaaDoorCompC3
namespace Go.Proofs.YtegnommappmegaaDoor
open Go Go.RowKit Go.ChangeShapes Go.WideShapes
theorem fnExactCompactJournal_card : Rows.FnExactCompactJournalCardSaid :=
  Claim7.holds_tied_plain_at .later [] [.data, .data, .data, .data, .sentinel, .sentinel, .pinned] true (true, "fe6689c953cf34b2516cf44cbca2f30bcdb6e88459cca52bc4d8a0854e218c26") true
    fnExactCompactJournal_holds (fun _ h => by cases h) compC_wf (fun _ h => by cases h) fnExactCompactJournal_row_tie rfl ⟨rfl, rfl⟩ compC_main rfl
    (fun f fn hf hfn => by
      obtain rfl : f = 13 := Option.some.inj ((show Tryd.prog.funcNamed "loop.example/g01004/laws.FnExactCompactJournal" = some 13 by kernel_rfl).symm.trans hf) |>.symm
      obtain rfl : fn = Tryd.f13 := (Option.some.inj (Tryd.func13.symm.trans hfn)).symm
      exact ⟨compC_looks, fun j t ht => by
        rw [Tryd.params13] at ht
        have hm : t ∈ [64] := by simpa using Array.mem_of_getElem? ht
        have hall : ([64].all fun u => !Tryd.prog.wantsStandIn u) = true := by kernel_rfl
        exact (show Tryd.prog.wantsStandIn t = false by simpa using List.all_eq_true.1 hall t hm)⟩)
    compC_goes

end Go.Proofs.YtegnommappmegaaDoor
