/- The walks of the laws' own helpers at one curve, entry, record, report: toX, eqX. Conditions: none. -/
import Derived.Test.YtegnommappmegaaDoorBase
namespace Go.Proofs.YtegnommappmegaaDoor
open Go Go.RowKit

set_option maxHeartbeats 400000 in
theorem toCurve_any (a b : Int) (w : World) :
    Calls Tryd.prog 54 #[.agg #[.int .i64 a, .int .i64 b]] w fun e w' => e = .returned (.agg #[.int .i64 a, .int .i64 b]) ∧ Below w.heap.size w w' := by
  go_enter Tryd.func54, Tryd.ntmps54
  go_wp2
  exact bodyPost_ret (v := .agg #[.int .i64 a, .int .i64 b]) (by simp [results, Tryd.results54, go_sem]) rfl ⟨rfl, by (repeat (with_reducible first | exact Below.refl _ _ | assumption | refine bal ?_ _ | refine bst ?_ (by simp <;> omega) _ | refine Below.drew ?_ | refine bthen ?_ (by assumption)))⟩
set_option maxHeartbeats 400000 in
theorem toPoint_any (x y e : Int) (w : World) :
    Calls Tryd.prog 112 #[.agg #[.int .i64 x, .int .i64 y, .int .i64 e]] w fun r w' => r = .returned (.agg #[.int .i64 x, .int .i64 y, .int .i64 e]) ∧ Below w.heap.size w w' := by
  go_enter Tryd.func112, Tryd.ntmps112
  go_wp2
  exact bodyPost_ret (v := .agg #[.int .i64 x, .int .i64 y, .int .i64 e]) (by simp [results, Tryd.results112, go_sem]) rfl ⟨rfl, by (repeat (with_reducible first | exact Below.refl _ _ | assumption | refine bal ?_ _ | refine bst ?_ (by simp <;> omega) _ | refine Below.drew ?_ | refine bthen ?_ (by assumption)))⟩
set_option maxHeartbeats 400000 in
theorem toEntry_any (a b lo hi to : Int) (w : World) :
    Calls Tryd.prog 64 #[.agg #[.int .i64 a, .int .i64 b, .int .i64 lo, .int .i64 hi, .int .i64 to]] w fun e w' =>
      e = .returned (.agg #[.int .i64 a, .int .i64 b, .int .i64 lo, .int .i64 hi, .int .i64 to]) ∧ Below w.heap.size w w' := by
  go_enter Tryd.func64, Tryd.ntmps64
  go_wp2_with (go_at_call 54; refine (toCurve_any _ _ _).mono ?_; rintro e w' ⟨rfl, hb1⟩; obtain ⟨hc1, hf1⟩ := bcell hb1)
  exact bodyPost_ret (v := .agg #[.int .i64 a, .int .i64 b, .int .i64 lo, .int .i64 hi, .int .i64 to]) (by simp [results, Tryd.results64, go_sem, hc1]) rfl ⟨rfl, by (repeat (with_reducible first | exact Below.refl _ _ | assumption | refine bal ?_ _ | refine bst ?_ (by simp <;> omega) _ | refine Below.drew ?_ | refine bthen ?_ (by assumption)))⟩
set_option maxHeartbeats 400000 in
theorem toRecord_any (a b lo hi : Int) (w : World) :
    Calls Tryd.prog 16 #[.agg #[.int .i64 a, .int .i64 b, .int .i64 lo, .int .i64 hi]] w fun e w' =>
      e = .returned (.agg #[.int .i64 a, .int .i64 b, .int .i64 lo, .int .i64 hi]) ∧ Below w.heap.size w w' := by
  go_enter Tryd.func16, Tryd.ntmps16
  go_wp2_with (go_at_call 54; refine (toCurve_any _ _ _).mono ?_; rintro e w' ⟨rfl, hb1⟩; obtain ⟨hc1, hf1⟩ := bcell hb1)
  exact bodyPost_ret (v := .agg #[.int .i64 a, .int .i64 b, .int .i64 lo, .int .i64 hi]) (by simp [results, Tryd.results16, go_sem, hc1]) rfl ⟨rfl, by (repeat (with_reducible first | exact Below.refl _ _ | assumption | refine bal ?_ _ | refine bst ?_ (by simp <;> omega) _ | refine Below.drew ?_ | refine bthen ?_ (by assumption)))⟩
set_option maxHeartbeats 800000 in
theorem toReport_any (tm mc a b lo hi to : Int) (w : World) :
    Calls Tryd.prog 71 #[.agg #[.int .i64 tm, .int .i64 mc, .int .i64 a, .int .i64 b, .int .i64 lo, .int .i64 hi, .int .i64 to]] w fun e w' =>
      e = .returned (.agg #[.int .i64 tm, .int .i64 mc, .int .i64 a, .int .i64 b, .int .i64 lo, .int .i64 hi, .int .i64 to]) ∧ Below w.heap.size w w' := by
  go_enter Tryd.func71, Tryd.ntmps71
  go_wp2_with (go_at_call 64; refine (toEntry_any _ _ _ _ _ _).mono ?_; rintro e w' ⟨rfl, hb1⟩; obtain ⟨hc1, hf1⟩ := bcell hb1)
  exact bodyPost_ret (v := .agg #[.int .i64 tm, .int .i64 mc, .int .i64 a, .int .i64 b, .int .i64 lo, .int .i64 hi, .int .i64 to]) (by simp [results, Tryd.results71, go_sem, hc1]) rfl ⟨rfl, by (repeat (with_reducible first | exact Below.refl _ _ | assumption | refine bal ?_ _ | refine bst ?_ (by simp <;> omega) _ | refine Below.drew ?_ | refine bthen ?_ (by assumption)))⟩
end Go.Proofs.YtegnommappmegaaDoor
