/- Closed facts of the row of FnWorkers. Conditions: none. -/
import Derived.Test.YtnhgdmhiblpknaaGreatDoorRows
import Derived.JoinedOf
import Derived.KernelRfl
namespace Go.Proofs.YtnhgdmhiblpknaaGreatDoor
open Go
theorem and_mk_fnWorkers {a b : Bool} (ha : a = true) (hb : b = true) : (a && b) = true := by rw [ha, hb]; rfl
set_option maxRecDepth 100000 in
set_option maxHeartbeats 40000000 in
theorem fnWorkers_facts : joinedFacts Tryz.prog 4 Tryz.f4 Rows.fnWorkersSpec Rows.fnWorkersRow = true := by
  unfold joinedFacts
  repeat' (with_reducible refine and_mk_fnWorkers ?_ ?_)
  all_goals (as_aux_lemma => kernel_rfl)
end Go.Proofs.YtnhgdmhiblpknaaGreatDoor
