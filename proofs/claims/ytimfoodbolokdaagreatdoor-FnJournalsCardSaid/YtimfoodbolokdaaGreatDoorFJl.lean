/- Closed facts of the row of FnJournals. Conditions: none. -/
import Derived.Test.YtimfoodbolokdaaGreatDoorRows
import Derived.JoinedOf
import Derived.KernelRfl
namespace Go.Proofs.YtimfoodbolokdaaGreatDoor
open Go
theorem and_mk_fnJournals {a b : Bool} (ha : a = true) (hb : b = true) : (a && b) = true := by rw [ha, hb]; rfl
set_option maxRecDepth 100000 in
set_option maxHeartbeats 40000000 in
theorem fnJournals_facts : joinedFacts Tryz.prog 5 Tryz.f5 Rows.fnJournalsSpec Rows.fnJournalsRow = true := by
  unfold joinedFacts
  repeat' (with_reducible refine and_mk_fnJournals ?_ ?_)
  all_goals (as_aux_lemma => kernel_rfl)
end Go.Proofs.YtimfoodbolokdaaGreatDoor
