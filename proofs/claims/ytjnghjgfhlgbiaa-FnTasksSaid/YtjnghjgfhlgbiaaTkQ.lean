/- Helpers of the laws of tasks: equal lists of points, equal tasks, the absolute value. Conditions: none. -/
import Derived.Test.YtjnghjgfhlgbiaaQPt
import Derived.Test.YtjnghjgfhlgbiaaTaskE
import Derived.Test.YtjnghjgfhlgbiaaTaskR
import Derived.Test.YtjnghjgfhlgbiaaTaskC
namespace Go.Proofs.Ytjnghjgfhlgbiaa
open Go Go.RowKit

theorem qPt_same (u v : Value) (es : List Pt) (w : World) (hu : Rd ptS w w.heap.size u es) (hv : Rd ptS w w.heap.size v es) :
    Calls Try.prog 14 #[u, v] w fun r w' => r = .returned (.bool true) ∧ Below w.heap.size w w' := by
  have h := qPt_any u v es es w hu hv
  rwa [decide_eq_true rfl] at h
set_option maxRecDepth 8000 in
set_option maxHeartbeats 1600000 in
theorem qTk_same (a b m d t : Int) (u v : Value) (es : List Pt) (w : World) (hu : Rd ptS w w.heap.size u es) (hv : Rd ptS w w.heap.size v es) :
    Calls Try.prog 8 #[.agg #[.int .i64 a, .int .i64 b, .int .i64 m, .int .i64 d, .int .i64 t, u], .agg #[.int .i64 a, .int .i64 b, .int .i64 m, .int .i64 d, .int .i64 t, v]] w fun r w' => r = .returned (.bool true) ∧ Below w.heap.size w w' := by
  have hbA := bal (bal (Below.refl w.heap.size w) (Obj.cells #[.int .i64 a, .int .i64 b, .int .i64 m, .int .i64 d, .int .i64 t, u] 28)) (Obj.cells #[.int .i64 a, .int .i64 b, .int .i64 m, .int .i64 d, .int .i64 t, v] 28)
  have Hu := Lib.hid (hu.on hbA); have Hv := Lib.hid (hv.on hbA)
  have hu0 := hu; have hv0 := hv
  obtain ⟨A1, c1, rfl, -⟩ := hu0
  obtain ⟨A2, c2, rfl, -⟩ := hv0
  clear hu hv
  have HbA := Lib.hid hbA; clear hbA
  go_enter Try.func8, Try.ntmps8
  go_wp2_with fail
  refine (qPt_same _ _ es _ Hu.out Hv.out).mono ?_; rintro e w1 ⟨rfl, hb1⟩
  go_wp2
  go_ret
  exact ⟨rfl, bthen HbA.out hb1⟩
theorem pAbs_any (n : Int) (w : World) (h : -1000 ≤ n ∧ n ≤ 1000) : Calls Try.prog 21 #[.int .i64 n] w fun r w' => r = .returned (.int .i64 (max n (-n))) ∧ Below w.heap.size w w' := by
  obtain ⟨h1, h2⟩ := h
  by_cases h0 : n < 0
  · have e : max n (-n) = -n := by omega
    rw [e]
    go_enter Try.func21, Try.ntmps21
    go_wp2
    go_ret
    exact ⟨rfl, Below.refl _ _⟩
  · have e : max n (-n) = n := by omega
    rw [e]
    go_enter Try.func21, Try.ntmps21
    go_wp2
    go_ret
    exact ⟨rfl, Below.refl _ _⟩
end Go.Proofs.Ytjnghjgfhlgbiaa
