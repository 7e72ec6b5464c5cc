/- IsReport of the reference and of the program. Conditions: none. -/
import Derived.Test.YtjnghjgfhlgbiaaDoorBase2
namespace Go.Proofs.YtjnghjgfhlgbiaaDoor
open Go Go.RowKit

theorem specIsReport_any (tm mc a b lo hi «to» : Int) (w : World) :
    Calls Tryd.prog 22 #[.agg #[.int .i64 tm, .int .i64 mc, .int .i64 a, .int .i64 b, .int .i64 lo, .int .i64 hi, .int .i64 «to»]] w fun e w' => e = .returned (.bool (repB tm mc a b lo hi «to»)) ∧ Below w.heap.size w w' := by
  go_enter Tryd.func22, Tryd.ntmps22
  go_wp2_with (go_at_call 34; refine (mrOne_any _ _ _ _ _ _ _ _).mono ?_; rintro e w' ⟨rfl, hb1⟩)
  go_ret
  exact ⟨rfl, by (repeat (with_reducible first | exact Below.refl _ _ | assumption | refine bal ?_ _ | refine bst ?_ (by simp <;> omega) _ | refine Below.drew ?_ | refine bthen ?_ (by assumption)))⟩

theorem implIsReport_any (tm mc a b lo hi «to» : Int) (w : World) :
    Calls Tryd.prog 11 #[.agg #[.int .i64 tm, .int .i64 mc, .int .i64 a, .int .i64 b, .int .i64 lo, .int .i64 hi, .int .i64 «to»]] w fun e w' => e = .returned (.bool (repB tm mc a b lo hi «to»)) ∧ Below w.heap.size w w' := by
  go_enter Tryd.func11, Tryd.ntmps11
  go_wp2_with (go_at_call 28; refine (isReport_any _ _ _ _ _ _ _ _).mono ?_; rintro e w' ⟨rfl, hb1⟩)
  go_ret
  exact ⟨rfl, by (repeat (with_reducible first | exact Below.refl _ _ | assumption | refine bal ?_ _ | refine bst ?_ (by simp <;> omega) _ | refine Below.drew ?_ | refine bthen ?_ (by assumption)))⟩
end Go.Proofs.YtjnghjgfhlgbiaaDoor
