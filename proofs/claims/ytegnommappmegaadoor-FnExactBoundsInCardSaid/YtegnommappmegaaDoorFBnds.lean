/- Closed facts of the row of FnExactBoundsIn. Conditions: none. -/
import Derived.Test.YtegnommappmegaaDoorRows
import Derived.JoinedOf
import Derived.KernelRfl
namespace Go.Proofs.YtegnommappmegaaDoor
open Go
theorem and_mk_fnExactBoundsIn {a b : Bool} (ha : a = true) (hb : b = true) : (a && b) = true := by rw [ha, hb]; rfl
set_option maxRecDepth 100000 in
set_option maxHeartbeats 40000000 in
theorem fnExactBoundsIn_facts : joinedFacts Tryd.prog 14 Tryd.f14 Rows.fnExactBoundsInSpec Rows.fnExactBoundsInRow = true := by
  unfold joinedFacts
  repeat' (with_reducible refine and_mk_fnExactBoundsIn ?_ ?_)
  all_goals (as_aux_lemma => kernel_rfl)
end Go.Proofs.YtegnommappmegaaDoor
