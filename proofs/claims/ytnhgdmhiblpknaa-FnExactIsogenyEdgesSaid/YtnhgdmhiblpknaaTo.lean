/- The walks of the laws' own helpers at one curve, entry, record, report: toX, eqX. Conditions: none. -/
import Derived.Test.YtnhgdmhiblpknaaBase
namespace Go.Proofs.Ytnhgdmhiblpknaa
open Go Go.RowKit

set_option maxHeartbeats 400000 in
theorem toCurve_any (a b : Int) (w : World) :
    Calls Try.prog 35 #[.agg #[.int .i64 a, .int .i64 b]] w fun e w' => e = .returned (.agg #[.int .i64 a, .int .i64 b]) ∧ Below w.heap.size w w' := by
  go_enter Try.func35, Try.ntmps35
  go_wp2
  exact bodyPost_ret (v := .agg #[.int .i64 a, .int .i64 b]) (by simp [results, Try.results35, go_sem]) rfl ⟨rfl, by (repeat (with_reducible first | exact Below.refl _ _ | assumption | refine bal ?_ _ | refine bst ?_ (by simp <;> omega) _ | refine Below.drew ?_ | refine bthen ?_ (by assumption)))⟩
end Go.Proofs.Ytnhgdmhiblpknaa
