/- Closed facts of the row of FnReportLogs. Conditions: none. -/
import Derived.Test.YtjnghjgfhlgbiaaDoorRows
import Derived.JoinedOf
import Derived.KernelRfl
namespace Go.Proofs.YtjnghjgfhlgbiaaDoor
open Go
theorem and_mk_fnReportLogs {a b : Bool} (ha : a = true) (hb : b = true) : (a && b) = true := by rw [ha, hb]; rfl
set_option maxRecDepth 100000 in
set_option maxHeartbeats 40000000 in
theorem fnReportLogs_facts : joinedFacts Tryd.prog 3 Tryd.f3 Rows.fnReportLogsSpec Rows.fnReportLogsRow = true := by
  unfold joinedFacts
  repeat' (with_reducible refine and_mk_fnReportLogs ?_ ?_)
  all_goals (as_aux_lemma => kernel_rfl)
end Go.Proofs.YtjnghjgfhlgbiaaDoor
