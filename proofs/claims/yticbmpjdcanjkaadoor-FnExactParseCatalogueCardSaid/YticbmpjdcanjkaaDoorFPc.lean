/- Closed facts of the row of FnExactParseCatalogue. Conditions: none. -/
import Derived.Test.YticbmpjdcanjkaaDoorRows
import Derived.JoinedOf
import Derived.KernelRfl
namespace Go.Proofs.YticbmpjdcanjkaaDoor
open Go
theorem and_mk_fnExactParseCatalogue {a b : Bool} (ha : a = true) (hb : b = true) : (a && b) = true := by rw [ha, hb]; rfl
set_option maxRecDepth 100000 in
set_option maxHeartbeats 40000000 in
theorem fnExactParseCatalogue_facts : joinedFacts Tryd.prog 3 Tryd.f3 Rows.fnExactParseCatalogueSpec Rows.fnExactParseCatalogueRow = true := by
  unfold joinedFacts
  repeat' (with_reducible refine and_mk_fnExactParseCatalogue ?_ ?_)
  all_goals (as_aux_lemma => kernel_rfl)
end Go.Proofs.YticbmpjdcanjkaaDoor
