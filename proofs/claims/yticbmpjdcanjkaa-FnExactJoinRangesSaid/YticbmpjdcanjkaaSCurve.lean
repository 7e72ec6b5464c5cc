/- The laws' own helpers at slices of Curve: what they compute. Conditions: lengths of at most 1048576. -/
import Derived.Test.YticbmpjdcanjkaaTo
import Derived.Test.YticbmpjdcanjkaaBase2
namespace Go.Proofs.Yticbmpjdcanjkaa
open Go Go.RowKit

set_option maxHeartbeats 800000 in
theorem eqCurve_same (a b : Int) (w : World) :
    Calls Try.prog 30 #[.agg #[.int .i64 a, .int .i64 b], .agg #[.int .i64 a, .int .i64 b]] w fun e w' => e = .returned (.bool true) ∧ Below w.heap.size w w' := by
  go_enter Try.func30, Try.ntmps30
  go_wp2_with fail
  go_ret
  exact ⟨rfl, by (repeat (with_reducible first | exact Below.refl _ _ | assumption | refine bal ?_ _ | refine bst ?_ (by simp <;> omega) _ | refine Below.drew ?_ | refine bthen ?_ (by assumption)))⟩
end Go.Proofs.Yticbmpjdcanjkaa
