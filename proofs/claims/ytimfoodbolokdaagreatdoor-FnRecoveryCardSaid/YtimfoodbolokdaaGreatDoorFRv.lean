/- Closed facts of the row of FnRecovery. Conditions: none. -/
import Derived.Test.YtimfoodbolokdaaGreatDoorRows
import Derived.JoinedOf
import Derived.KernelRfl
namespace Go.Proofs.YtimfoodbolokdaaGreatDoor
open Go
theorem and_mk_fnRecovery {a b : Bool} (ha : a = true) (hb : b = true) : (a && b) = true := by rw [ha, hb]; rfl
set_option maxRecDepth 100000 in
set_option maxHeartbeats 40000000 in
theorem fnRecovery_facts : joinedFacts Tryz.prog 6 Tryz.f6 Rows.fnRecoverySpec Rows.fnRecoveryRow = true := by
  unfold joinedFacts
  repeat' (with_reducible refine and_mk_fnRecovery ?_ ?_)
  all_goals (as_aux_lemma => kernel_rfl)
end Go.Proofs.YtimfoodbolokdaaGreatDoor
