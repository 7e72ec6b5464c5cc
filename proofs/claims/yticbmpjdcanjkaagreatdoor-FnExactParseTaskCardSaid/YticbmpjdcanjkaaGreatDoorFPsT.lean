/- Closed facts of the row of FnExactParseTask. Conditions: none. -/
import Derived.Test.YticbmpjdcanjkaaGreatDoorRows
import Derived.JoinedOf
import Derived.KernelRfl
namespace Go.Proofs.YticbmpjdcanjkaaGreatDoor
open Go
theorem and_mk_fnExactParseTask {a b : Bool} (ha : a = true) (hb : b = true) : (a && b) = true := by rw [ha, hb]; rfl
set_option maxRecDepth 100000 in
set_option maxHeartbeats 40000000 in
theorem fnExactParseTask_facts : joinedFacts Tryz.prog 3 Tryz.f3 Rows.fnExactParseTaskSpec Rows.fnExactParseTaskRow = true := by
  unfold joinedFacts
  repeat' (with_reducible refine and_mk_fnExactParseTask ?_ ?_)
  all_goals (as_aux_lemma => kernel_rfl)
end Go.Proofs.YticbmpjdcanjkaaGreatDoor
