/- The walks of the functions that speak of one record or report, and of the order of curves and reports. Conditions: none but the bounds that each theorem names. -/
import Derived.Test.YticbmpjdcanjkaaDoorBase
namespace Go.Proofs.YticbmpjdcanjkaaDoor
open Go Go.RowKit



set_option maxHeartbeats 400000 in
theorem l1Sign_any (n : Int) (w : World) :
    Calls Tryd.prog 43 #[.int .i64 n] w fun e w' => e = .returned (.int .i64 (cmpI n 0)) ∧ w = w' := by
  go_enter Tryd.func43, Tryd.ntmps43
  go_wp2
  all_goals go_ret
  all_goals (refine ⟨?_, rfl⟩; unfold cmpI; simp <;> (first | omega | (repeat split) <;> omega))
theorem cmpI_sub (x y : Int) : cmpI (x - y) 0 = cmpI x y := by unfold cmpI; repeat' split
                                                               all_goals omega
set_option maxHeartbeats 400000 in
theorem caOrder_any (a b c d : Int) (w : World) (h1 : -1000 ≤ a ∧ a ≤ 1000) (h2 : -10000 ≤ b ∧ b ≤ 10000) (h3 : -1000 ≤ c ∧ c ≤ 1000) (h4 : -10000 ≤ d ∧ d ≤ 10000) :
    Calls Tryd.prog 25 #[.agg #[.int .i64 a, .int .i64 b], .agg #[.int .i64 c, .int .i64 d]] w fun e w' => e = .returned (.int .i64 (cmpC a b c d)) ∧ Below w.heap.size w w' := by
  obtain ⟨h11, h12⟩ := h1; obtain ⟨h21, h22⟩ := h2; obtain ⟨h31, h32⟩ := h3; obtain ⟨h41, h42⟩ := h4
  by_cases hac : a = c
  · subst hac
    go_enter Tryd.func25, Tryd.ntmps25
    go_wp2_with (go_at_call 43; refine (l1Sign_any _ _).mono ?_; rintro e w' ⟨rfl, rfl⟩)
    go_ret
    exact ⟨by simp [cmpC, cmpI_sub], by (repeat (with_reducible first | exact Below.refl _ _ | assumption | refine bal ?_ _ | refine bst ?_ (by simp <;> omega) _ | refine Below.drew ?_ | refine bthen ?_ (by assumption)))⟩
  · have hne : (a != c) = true := by simp [hac]
    have Hac := Lib.hid hac
    clear hac
    go_enter Tryd.func25, Tryd.ntmps25
    go_wp2_with (go_at_call 43; refine (l1Sign_any _ _).mono ?_; rintro e w' ⟨rfl, rfl⟩)
    go_ret
    exact ⟨by simp [cmpC, cmpI_sub, Hac.out], by (repeat (with_reducible first | exact Below.refl _ _ | assumption | refine bal ?_ _ | refine bst ?_ (by simp <;> omega) _ | refine Below.drew ?_ | refine bthen ?_ (by assumption)))⟩

set_option maxHeartbeats 400000 in
theorem cmpCompare_any (x y : Int) (w : World) :
    Calls Tryd.prog 58 #[.int .i64 x, .int .i64 y] w fun e w' => e = .returned (.int .i64 (cmpI x y)) ∧ w = w' := by
  go_enter Tryd.func58, Tryd.ntmps58
  go_wp2
  all_goals go_ret
  all_goals (refine ⟨?_, rfl⟩; unfold cmpI; simp <;> (first | omega | (repeat split) <;> omega))

/-- What cmp.Or makes of two numbers. -/
def or2 (x y : Int) : Int := if x = 0 then y else x
theorem or2_cmp (a b c d : Int) : or2 (cmpI a c) (cmpI b d) = cmpC a b c d := by
  unfold or2 cmpC
  by_cases h : a = c
  · rw [if_pos ((cmpI_eq a c).2 h), if_pos h]
  · rw [if_neg (fun e => h ((cmpI_eq a c).1 e)), if_neg h]
theorem int_info : (Tryd.prog.info? 3).map (fun i => (i.zero, i.size, i.bytes)) = some (some (.int .i64 0), 1, 8) := by kernel_rfl

set_option maxHeartbeats 400000 in
/-- cmp.Or of two numbers that lie in a block. -/
theorem cmpOr_two (g c : Nat) (x y : Int) (w : World) (h0 : w.cell? ⟨g, 0, none⟩ = some (.int .i64 x)) (h1 : w.cell? ⟨g, 1, none⟩ = some (.int .i64 y)) :
    Calls Tryd.prog 57 #[.slice (some ⟨g, 0, none⟩) 2 c] w fun e w' => e = .returned (.int .i64 (or2 x y)) ∧ w = w' := by
  by_cases hx : x = 0
  · subst hx
    by_cases hy : y = 0
    · subst hy
      go_enter Tryd.func57, Tryd.ntmps57
      go_wp2
      refine wp_loop_rounds 3 ?_
      rw [rounds_succ]
      go_wp2
      rw [rounds_succ]
      go_wp2
      rw [rounds_succ]
      go_wp2
      go_ret
      exact ⟨rfl, rfl⟩
    · have hy' : (y != 0) = true := by simp [hy]
      clear hy
      go_enter Tryd.func57, Tryd.ntmps57
      go_wp2
      refine wp_loop_rounds 3 ?_
      rw [rounds_succ]
      go_wp2
      rw [rounds_succ]
      go_wp2
      go_ret
      exact ⟨rfl, rfl⟩
  · have hx' : (x != 0) = true := by simp [hx]
    have e : or2 x y = x := by unfold or2; rw [if_neg hx]
    rw [e]
    clear hx e
    go_enter Tryd.func57, Tryd.ntmps57
    go_wp2
    refine wp_loop_rounds 3 ?_
    rw [rounds_succ]
    go_wp2
    go_ret
    exact ⟨rfl, rfl⟩
set_option maxHeartbeats 800000 in
theorem compareCurves_any (a b c d : Int) (w : World) :
    Calls Tryd.prog 37 #[.agg #[.int .i64 a, .int .i64 b], .agg #[.int .i64 c, .int .i64 d]] w fun e w' => e = .returned (.int .i64 (cmpC a b c d)) ∧ Below w.heap.size w w' := by
  go_enter Tryd.func37, Tryd.ntmps37
  go_wp2
  go_region_held3 (fun w' => w'.cell? ⟨w.heap.size, 0, none⟩ = some (.int .i64 a) ∧ w'.cell? ⟨w.heap.size, 1, none⟩ = some (.int .i64 b) ∧ w'.cell? ⟨w.heap.size + 1, 0, none⟩ = some (.int .i64 c) ∧ w'.cell? ⟨w.heap.size + 1, 1, none⟩ = some (.int .i64 d)) (simp [go_sem, World.cell?_alloc_past])
    (first
      | (go_at_call 58; refine (cmpCompare_any _ _ _).mono ?_; rintro e w' ⟨rfl, rfl⟩)
      | (go_at_call 57; refine (cmpOr_two _ _ (cmpI a c) (cmpI b d) _ ?_ ?_).mono ?_; (simp [go_sem]); (simp [go_sem]); rintro e w' ⟨rfl, rfl⟩))
  all_goals go_wp2
  all_goals go_ret
  all_goals exact ⟨by rw [← or2_cmp]; rfl, by (repeat (with_reducible first | exact Below.refl _ _ | assumption | refine bal ?_ _ | refine bst ?_ (by simp <;> omega) _ | refine Below.drew ?_ | refine bthen ?_ (by assumption)))⟩
end Go.Proofs.YticbmpjdcanjkaaDoor
