/- The walks of the functions that speak of one curve, entry, record, report, and of their order. Conditions: none but the bounds that each theorem names. -/
import Derived.Test.YtnhgdmhiblpknaaRows
import Derived.Test.YtnhgdmhiblpknaaShapes
import Derived.Deep.RegionHeld3
namespace Go.Proofs.Ytnhgdmhiblpknaa
open Go Go.RowKit

set_option maxHeartbeats 400000 in
theorem inside_any (n lo hi : Int) (w : World) :
    Calls Try.prog 66 #[.int .i64 n, .int .i64 lo, .int .i64 hi] w fun e w' => e = .returned (.bool (insB n lo hi)) ∧ w = w' := by
  go_enter Try.func66, Try.ntmps66
  go_wp2
  all_goals go_ret
  all_goals (refine ⟨?_, rfl⟩; simp [insB]; try omega)

set_option maxHeartbeats 400000 in
theorem l1In_any (n lo hi : Int) (w : World) :
    Calls Try.prog 62 #[.int .i64 n, .int .i64 lo, .int .i64 hi] w fun e w' => e = .returned (.bool (insB n lo hi)) ∧ w = w' := by
  go_enter Try.func62, Try.ntmps62
  go_wp2
  all_goals go_ret
  all_goals (refine ⟨?_, rfl⟩; simp [insB]; try omega)

theorem core_bds {a b : Int} (h1 : -1000 ≤ a) (h2 : a ≤ 1000) (h3 : -10000 ≤ b) (h4 : b ≤ 10000) :
    (-(4000 * 1000) ≤ 4 * a * a ∧ 4 * a * a ≤ 4000 * 1000) ∧ (-(4000000 * 1000) ≤ 4 * a * a * a ∧ 4 * a * a * a ≤ 4000000 * 1000) ∧ (-(270000 * 10000) ≤ 27 * b * b ∧ 27 * b * b ≤ 270000 * 10000) :=
  ⟨mul_bd (4 * a) a 4000 1000 (by omega) (by omega) h1 h2, mul_bd (4 * a * a) a 4000000 1000 (mul_bd (4 * a) a 4000 1000 (by omega) (by omega) h1 h2).1 (mul_bd (4 * a) a 4000 1000 (by omega) (by omega) h1 h2).2 h1 h2,
    mul_bd (27 * b) b 270000 10000 (by omega) (by omega) h3 h4⟩

set_option maxHeartbeats 400000 in
theorem core_any (a b : Int) (w : World) (h1 : -1000 ≤ a) (h2 : a ≤ 1000) (h3 : -10000 ≤ b) (h4 : b ≤ 10000) :
    Calls Try.prog 67 #[.agg #[.int .i64 a, .int .i64 b]] w fun e w' => e = .returned (.int .i64 (coreI a b)) ∧ Below w.heap.size w w' := by
  obtain ⟨⟨k11, k12⟩, ⟨k21, k22⟩, k31, k32⟩ := core_bds h1 h2 h3 h4
  go_enter Try.func67, Try.ntmps67
  go_wp2
  go_ret
  exact ⟨rfl, (Below.refl _ _).alloc (Nat.le_refl _) _⟩

set_option maxHeartbeats 400000 in
theorem ecDisc_any (a b : Int) (w : World) (h1 : -1000 ≤ a) (h2 : a ≤ 1000) (h3 : -10000 ≤ b) (h4 : b ≤ 10000) :
    Calls Try.prog 63 #[.agg #[.int .i64 a, .int .i64 b]] w fun e w' => e = .returned (.int .i64 (coreI a b)) ∧ Below w.heap.size w w' := by
  obtain ⟨⟨k11, k12⟩, ⟨k21, k22⟩, k31, k32⟩ := core_bds h1 h2 h3 h4
  go_enter Try.func63, Try.ntmps63
  go_wp2
  go_ret
  exact ⟨rfl, (Below.refl _ _).alloc (Nat.le_refl _) _⟩

set_option maxHeartbeats 400000 in
theorem isCurve_any (a b : Int) (w : World) :
    Calls Try.prog 36 #[.agg #[.int .i64 a, .int .i64 b]] w fun e w' => e = .returned (.bool (curveB a b)) ∧ Below w.heap.size w w' := by
  cases ha : insB a (-1000) 1000
  · go_enter Try.func36, Try.ntmps36
    go_wp2_with (go_at_call 66; refine (inside_any _ _ _ _).mono ?_; rintro e w' ⟨rfl, rfl⟩)
    go_ret
    refine ⟨by simp [curveB, ha], (Below.refl _ _).alloc (Nat.le_refl _) _⟩
  · cases hb : insB b (-10000) 10000
    · go_enter Try.func36, Try.ntmps36
      go_wp2_with (go_at_call 66; refine (inside_any _ _ _ _).mono ?_; rintro e w' ⟨rfl, rfl⟩)
      go_ret
      refine ⟨by simp [curveB, ha, hb], (Below.refl _ _).alloc (Nat.le_refl _) _⟩
    · have h1 := insB_true ha
      have h2 := insB_true hb
      go_enter Try.func36, Try.ntmps36
      go_wp2_with (first | (go_at_call 66; refine (inside_any _ _ _ _).mono ?_; rintro e w' ⟨rfl, rfl⟩) | (go_at_call 67; refine (core_any _ _ _ h1.1 h1.2 h2.1 h2.2).mono ?_; rintro e w' ⟨rfl, hb1⟩))
      go_ret
      exact ⟨by simp [curveB, ha, hb], ((Below.refl _ _).alloc (Nat.le_refl _) _).trans (hb1.mono (by simp))⟩

set_option maxHeartbeats 400000 in
theorem ecGood_any (a b : Int) (w : World) :
    Calls Try.prog 30 #[.agg #[.int .i64 a, .int .i64 b]] w fun e w' => e = .returned (.bool (curveB a b)) ∧ Below w.heap.size w w' := by
  cases ha : insB a (-1000) 1000
  · go_enter Try.func30, Try.ntmps30
    go_wp2_with (go_at_call 62; refine (l1In_any _ _ _ _).mono ?_; rintro e w' ⟨rfl, rfl⟩)
    go_ret
    refine ⟨by simp [curveB, ha], (Below.refl _ _).alloc (Nat.le_refl _) _⟩
  · cases hb : insB b (-10000) 10000
    · go_enter Try.func30, Try.ntmps30
      go_wp2_with (go_at_call 62; refine (l1In_any _ _ _ _).mono ?_; rintro e w' ⟨rfl, rfl⟩)
      go_ret
      refine ⟨by simp [curveB, ha, hb], (Below.refl _ _).alloc (Nat.le_refl _) _⟩
    · have h1 := insB_true ha
      have h2 := insB_true hb
      go_enter Try.func30, Try.ntmps30
      go_wp2_with (first | (go_at_call 62; refine (l1In_any _ _ _ _).mono ?_; rintro e w' ⟨rfl, rfl⟩) | (go_at_call 63; refine (ecDisc_any _ _ _ h1.1 h1.2 h2.1 h2.2).mono ?_; rintro e w' ⟨rfl, hb1⟩))
      go_ret
      exact ⟨by simp [curveB, ha, hb], ((Below.refl _ _).alloc (Nat.le_refl _) _).trans (hb1.mono (by simp))⟩

end Go.Proofs.Ytnhgdmhiblpknaa
