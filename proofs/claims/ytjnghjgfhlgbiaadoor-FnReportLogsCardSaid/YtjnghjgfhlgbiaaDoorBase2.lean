/- The walks of the functions that speak of one record or report, and of the order of curves and reports. Conditions: none but the bounds that each theorem names. -/
import Derived.Test.YtjnghjgfhlgbiaaDoorBase
namespace Go.Proofs.YtjnghjgfhlgbiaaDoor
open Go Go.RowKit


theorem repB_parts (tm mc a b lo hi to : Int) : repB tm mc a b lo hi to = (insB tm 0 1000000 && (insB mc 1 9 && entB a b lo hi to)) := by
  unfold repB insB
  cases entB a b lo hi to
  · simp
  · simp only [Bool.and_true]; rw [Bool.eq_iff_iff]; simp only [Bool.and_eq_true, decide_eq_true_eq]; omega

set_option maxHeartbeats 800000 in
theorem isReport_any (tm mc a b lo hi to : Int) (w : World) :
    Calls Tryd.prog 28 #[.agg #[.int .i64 tm, .int .i64 mc, .int .i64 a, .int .i64 b, .int .i64 lo, .int .i64 hi, .int .i64 to]] w fun e w' => e = .returned (.bool (repB tm mc a b lo hi to)) ∧ Below w.heap.size w w' := by
  rw [repB_parts]
  go_enter Tryd.func28, Tryd.ntmps28
  go_wp2_with (first | (go_at_call 52; refine (isEntry_any _ _ _ _ _ _).mono ?_; rintro e w' ⟨rfl, hb1⟩) | (go_at_call 40; refine (inside_any _ _ _ _).mono ?_; rintro e w' ⟨rfl, rfl⟩))
  all_goals go_ret
  all_goals exact ⟨by simp [*] <;> (intros; omega), by (repeat (with_reducible first | exact Below.refl _ _ | assumption | refine bal ?_ _ | refine bst ?_ (by simp <;> omega) _ | refine Below.drew ?_ | refine bthen ?_ (by assumption)))⟩
theorem mrTime_any (t : Int) (w : World) :
    Calls Tryd.prog 42 #[.int .i64 t] w fun e w' => e = .returned (.bool (insB t 0 1000000)) ∧ w = w' := by
  go_enter Tryd.func42, Tryd.ntmps42
  go_wp2_with (go_at_call 61; refine (l1In_any _ _ _ _).mono ?_; rintro e w' ⟨rfl, rfl⟩)
  go_ret
  exact ⟨rfl, rfl⟩
theorem mrMachine_any (t : Int) (w : World) :
    Calls Tryd.prog 44 #[.int .i64 t] w fun e w' => e = .returned (.bool (insB t 1 9)) ∧ w = w' := by
  go_enter Tryd.func44, Tryd.ntmps44
  go_wp2_with (go_at_call 61; refine (l1In_any _ _ _ _).mono ?_; rintro e w' ⟨rfl, rfl⟩)
  go_ret
  exact ⟨rfl, rfl⟩
set_option maxHeartbeats 800000 in
theorem mrOne_any (tm mc a b lo hi to : Int) (w : World) :
    Calls Tryd.prog 34 #[.agg #[.int .i64 tm, .int .i64 mc, .int .i64 a, .int .i64 b, .int .i64 lo, .int .i64 hi, .int .i64 to]] w fun e w' => e = .returned (.bool (repB tm mc a b lo hi to)) ∧ Below w.heap.size w w' := by
  rw [repB_parts]
  go_enter Tryd.func34, Tryd.ntmps34
  go_wp2_with (first | (go_at_call 58; refine (caEntry_any _ _ _ _ _ _).mono ?_; rintro e w' ⟨rfl, hb1⟩) | (go_at_call 42; refine (mrTime_any _ _).mono ?_; rintro e w' ⟨rfl, rfl⟩) | (go_at_call 44; refine (mrMachine_any _ _).mono ?_; rintro e w' ⟨rfl, rfl⟩))
  all_goals go_ret
  all_goals exact ⟨by simp [*] <;> (intros; omega), by (repeat (with_reducible first | exact Below.refl _ _ | assumption | refine bal ?_ _ | refine bst ?_ (by simp <;> omega) _ | refine Below.drew ?_ | refine bthen ?_ (by assumption)))⟩

set_option maxHeartbeats 400000 in
theorem l1Sign_any (n : Int) (w : World) :
    Calls Tryd.prog 70 #[.int .i64 n] w fun e w' => e = .returned (.int .i64 (cmpI n 0)) ∧ w = w' := by
  go_enter Tryd.func70, Tryd.ntmps70
  go_wp2
  all_goals go_ret
  all_goals (refine ⟨?_, rfl⟩; unfold cmpI; simp <;> (first | omega | (repeat split) <;> omega))
theorem cmpI_sub (x y : Int) : cmpI (x - y) 0 = cmpI x y := by unfold cmpI; repeat' split
                                                               all_goals omega
set_option maxHeartbeats 400000 in
theorem mrOrder_any (tm mc a b lo hi to tm' mc' a' b' lo' hi' to' : Int) (w : World) (h1 : 0 ≤ tm ∧ tm ≤ 1000000) (h2 : 1 ≤ mc ∧ mc ≤ 9) (h3 : 0 ≤ tm' ∧ tm' ≤ 1000000) (h4 : 1 ≤ mc' ∧ mc' ≤ 9) :
    Calls Tryd.prog 57 #[.agg #[.int .i64 tm, .int .i64 mc, .int .i64 a, .int .i64 b, .int .i64 lo, .int .i64 hi, .int .i64 to], .agg #[.int .i64 tm', .int .i64 mc', .int .i64 a', .int .i64 b', .int .i64 lo', .int .i64 hi', .int .i64 to']] w
      fun e w' => e = .returned (.int .i64 (cmpC tm mc tm' mc')) ∧ Below w.heap.size w w' := by
  obtain ⟨h11, h12⟩ := h1; obtain ⟨h21, h22⟩ := h2; obtain ⟨h31, h32⟩ := h3; obtain ⟨h41, h42⟩ := h4
  by_cases hac : tm = tm'
  · subst hac
    go_enter Tryd.func57, Tryd.ntmps57
    go_wp2_with (go_at_call 70; refine (l1Sign_any _ _).mono ?_; rintro e w' ⟨rfl, rfl⟩)
    go_ret
    exact ⟨by simp [cmpC, cmpI_sub], by (repeat (with_reducible first | exact Below.refl _ _ | assumption | refine bal ?_ _ | refine bst ?_ (by simp <;> omega) _ | refine Below.drew ?_ | refine bthen ?_ (by assumption)))⟩
  · have hne : (tm != tm') = true := by simp [hac]
    have Hac := Lib.hid hac
    clear hac
    go_enter Tryd.func57, Tryd.ntmps57
    go_wp2_with (go_at_call 70; refine (l1Sign_any _ _).mono ?_; rintro e w' ⟨rfl, rfl⟩)
    go_ret
    exact ⟨by simp [cmpC, cmpI_sub, Hac.out], by (repeat (with_reducible first | exact Below.refl _ _ | assumption | refine bal ?_ _ | refine bst ?_ (by simp <;> omega) _ | refine Below.drew ?_ | refine bthen ?_ (by assumption)))⟩

set_option maxHeartbeats 400000 in
theorem cmpCompare_any (x y : Int) (w : World) :
    Calls Tryd.prog 54 #[.int .i64 x, .int .i64 y] w fun e w' => e = .returned (.int .i64 (cmpI x y)) ∧ w = w' := by
  go_enter Tryd.func54, Tryd.ntmps54
  go_wp2
  all_goals go_ret
  all_goals (refine ⟨?_, rfl⟩; unfold cmpI; simp <;> (first | omega | (repeat split) <;> omega))

/-- What cmp.Or makes of two numbers. -/
def or2 (x y : Int) : Int := if x = 0 then y else x
theorem or2_cmp (a b c d : Int) : or2 (cmpI a c) (cmpI b d) = cmpC a b c d := by
  unfold or2 cmpC
  by_cases h : a = c
  · rw [if_pos ((cmpI_eq a c).2 h), if_pos h]
  · rw [if_neg (fun e => h ((cmpI_eq a c).1 e)), if_neg h]
theorem int_info : (Tryd.prog.info? 3).map (fun i => (i.zero, i.size, i.bytes)) = some (some (.int .i64 0), 1, 8) := by kernel_rfl

set_option maxHeartbeats 400000 in
/-- cmp.Or of two numbers that lie in a block. -/
theorem cmpOr_two (g c : Nat) (x y : Int) (w : World) (h0 : w.cell? ⟨g, 0, none⟩ = some (.int .i64 x)) (h1 : w.cell? ⟨g, 1, none⟩ = some (.int .i64 y)) :
    Calls Tryd.prog 53 #[.slice (some ⟨g, 0, none⟩) 2 c] w fun e w' => e = .returned (.int .i64 (or2 x y)) ∧ w = w' := by
  by_cases hx : x = 0
  · subst hx
    by_cases hy : y = 0
    · subst hy
      go_enter Tryd.func53, Tryd.ntmps53
      go_wp2
      refine wp_loop_rounds 3 ?_
      rw [rounds_succ]
      go_wp2
      rw [rounds_succ]
      go_wp2
      rw [rounds_succ]
      go_wp2
      go_ret
      exact ⟨rfl, rfl⟩
    · have hy' : (y != 0) = true := by simp [hy]
      clear hy
      go_enter Tryd.func53, Tryd.ntmps53
      go_wp2
      refine wp_loop_rounds 3 ?_
      rw [rounds_succ]
      go_wp2
      rw [rounds_succ]
      go_wp2
      go_ret
      exact ⟨rfl, rfl⟩
  · have hx' : (x != 0) = true := by simp [hx]
    have e : or2 x y = x := by unfold or2; rw [if_neg hx]
    rw [e]
    clear hx e
    go_enter Tryd.func53, Tryd.ntmps53
    go_wp2
    refine wp_loop_rounds 3 ?_
    rw [rounds_succ]
    go_wp2
    go_ret
    exact ⟨rfl, rfl⟩
set_option maxHeartbeats 800000 in
theorem compareReports_any (tm mc a b lo hi to tm' mc' a' b' lo' hi' to' : Int) (w : World) :
    Calls Tryd.prog 30 #[.agg #[.int .i64 tm, .int .i64 mc, .int .i64 a, .int .i64 b, .int .i64 lo, .int .i64 hi, .int .i64 to], .agg #[.int .i64 tm', .int .i64 mc', .int .i64 a', .int .i64 b', .int .i64 lo', .int .i64 hi', .int .i64 to']] w fun e w' => e = .returned (.int .i64 (cmpC tm mc tm' mc')) ∧ Below w.heap.size w w' := by
  go_enter Tryd.func30, Tryd.ntmps30
  go_wp2
  go_region_held3 (fun w' => w'.cell? ⟨w.heap.size, 0, none⟩ = some (.int .i64 tm) ∧ w'.cell? ⟨w.heap.size, 1, none⟩ = some (.int .i64 mc) ∧ w'.cell? ⟨w.heap.size + 1, 0, none⟩ = some (.int .i64 tm') ∧ w'.cell? ⟨w.heap.size + 1, 1, none⟩ = some (.int .i64 mc')) (simp [go_sem, World.cell?_alloc_past])
    (first
      | (go_at_call 54; refine (cmpCompare_any _ _ _).mono ?_; rintro e w' ⟨rfl, rfl⟩)
      | (go_at_call 53; refine (cmpOr_two _ _ (cmpI tm tm') (cmpI mc mc') _ ?_ ?_).mono ?_; (simp [go_sem]); (simp [go_sem]); rintro e w' ⟨rfl, rfl⟩))
  all_goals go_wp2
  all_goals go_ret
  all_goals exact ⟨by rw [← or2_cmp]; rfl, by (repeat (with_reducible first | exact Below.refl _ _ | assumption | refine bal ?_ _ | refine bst ?_ (by simp <;> omega) _ | refine Below.drew ?_ | refine bthen ?_ (by assumption)))⟩
end Go.Proofs.YtjnghjgfhlgbiaaDoor
