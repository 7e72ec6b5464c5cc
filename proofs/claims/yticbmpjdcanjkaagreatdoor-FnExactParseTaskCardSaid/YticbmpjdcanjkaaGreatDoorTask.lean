/- Tasks without points: NewTask of both, and what the law asks of such tasks. Conditions: none. -/
import Derived.Test.YticbmpjdcanjkaaGreatDoorSCurve
import Derived.Test.YticbmpjdcanjkaaGreatDoorFrame
namespace Go.Proofs.YticbmpjdcanjkaaGreatDoor
open Go Go.RowKit

def taskB (a b m d : Int) : Bool := curveB a b && (insB m 0 200 && insB d 1 10)
def selI (k : Bool) (x : Int) : Int := if k then x else 0

theorem eqPointS_nil (w : World) : Calls Tryz.prog 33 #[.slice none 0 0, .slice none 0 0] w fun r w' => r = .returned (.bool true) ∧ w = w' := by
  go_enter Tryz.func33, Tryz.ntmps33
  go_wp2
  refine wp_loop_rounds 1 ?_
  rw [rounds_succ]
  go_wp2
  go_ret
  exact ⟨rfl, rfl⟩
theorem markPointS_nil (k : Int) (w : World) : Calls Tryz.prog 34 #[.slice none 0 0, .int .i64 k] w fun r w' => r = .returned (.int .i64 k) ∧ w = w' := by
  go_enter Tryz.func34, Tryz.ntmps34
  go_wp2
  refine wp_loop_rounds 1 ?_
  rw [rounds_succ]
  go_wp2
  go_ret
  exact ⟨rfl, rfl⟩
theorem heldPointS_nil (k : Int) (w : World) : Calls Tryz.prog 35 #[.slice none 0 0, .int .i64 k] w fun r w' => r = .returned (.int .i64 k) ∧ w = w' := by
  go_enter Tryz.func35, Tryz.ntmps35
  go_wp2
  refine wp_loop_rounds 1 ?_
  rw [rounds_succ]
  go_wp2
  go_ret
  exact ⟨rfl, rfl⟩
theorem hits_nil (p : Value) (w : World) : Calls Tryz.prog 57 #[p, .int .i64 0, .int .i64 0] w fun r w' => r = .returned (.slice none 0 0) ∧ Below w.heap.size w w' := by
  go_enter Tryz.func57, Tryz.ntmps57
  go_wp2
  refine wp_loop_rounds 1 ?_
  rw [rounds_succ]
  go_wp2
  go_ret
  exact ⟨rfl, by (repeat (with_reducible first | exact Below.refl _ _ | assumption | refine bal ?_ _ | refine bst ?_ (by simp <;> omega) _ | refine Below.drew ?_ | refine bthen ?_ (by assumption)))⟩
theorem equal_nil (w : World) : Calls Tryz.prog 90 #[.slice none 0 0, .slice none 0 0] w fun r w' => r = .returned (.bool true) ∧ Below w.heap.size w w' := by
  go_enter Tryz.func90, Tryz.ntmps90
  go_wp2
  refine wp_loop_rounds 1 ?_
  rw [rounds_succ]
  go_wp2
  go_ret
  exact ⟨rfl, by (repeat (with_reducible first | exact Below.refl _ _ | assumption | refine bal ?_ _ | refine bst ?_ (by simp <;> omega) _ | refine Below.drew ?_ | refine bthen ?_ (by assumption)))⟩
theorem total_any (g : Nat) (a b m d : Int) (w : World) (h : Blk w g 26 #[.int .i64 a, .int .i64 b, .int .i64 m, .int .i64 d, .int .i64 0, .slice none 0 0]) (hm : 0 ≤ m ∧ m ≤ 200) (hd : 1 ≤ d ∧ d ≤ 10) :
    Calls Tryz.prog 29 #[.pointer (some ⟨g, 0, none⟩)] w fun r w' => r = .returned (.int .i64 (d * (2 * m + 1))) ∧ Below w.heap.size w w' := by
  have q2 := h.cell 2
  have q3 := h.cell 3
  have ql := h.lt
  have hmul := mul_bd d (2 * m + 1) 10 401 (by omega) (by omega) (by omega) (by omega)
  have hw1 : IntKind.i64.wrap (2 * m) = 2 * m := by rw [IntKind.wrap_i64]; omega
  have hw2 : IntKind.i64.wrap (2 * m + 1) = 2 * m + 1 := by rw [IntKind.wrap_i64]; omega
  have hw3 : IntKind.i64.wrap (d * (2 * m + 1)) = d * (2 * m + 1) := by rw [IntKind.wrap_i64]; omega
  clear h hmul
  go_enter Tryz.func29, Tryz.ntmps29
  go_wp2
  refine wp_region_tame (by kernel_rfl) (by kernel_rfl) (fun T _ W hT => ?_)
  have hx := hT.cell
  repeat (go_big_quiet_step (fail))
  refine wpQuiet_nil ?_
  intro t
  clear hx
  go_wp2
  go_ret
  exact ⟨rfl, hT.below t⟩
set_option maxRecDepth 20000 in
set_option maxHeartbeats 800000 in
theorem isTask_new (g : Nat) (a b m d : Int) (w : World) (h : Blk w g 26 #[.int .i64 a, .int .i64 b, .int .i64 m, .int .i64 d, .int .i64 0, .slice none 0 0]) :
    Calls Tryz.prog 56 #[.pointer (some ⟨g, 0, none⟩)] w fun r w' => r = .returned (.bool (taskB a b m d)) ∧ Below w.heap.size w w' := by
  have q0 := h.cell 0
  have q1 := h.cell 1
  have q2 := h.cell 2
  have q3 := h.cell 3
  have q4 := h.cell 4
  have q5 := h.cell 5
  have ql := h.lt
  have Hb := Lib.hid h
  have hv : taskB a b m d = (curveB a b && (insB m 0 200 && insB d 1 10)) := rfl
  have Hv := Lib.hid hv; clear hv h
  have inB : ∀ (n lo hi : Int) (w' : World), Calls Tryz.prog 28 #[.int .i64 n, .int .i64 lo, .int .i64 hi] w' fun r w'' => r = .returned (.bool (insB n lo hi)) ∧ Below w'.heap.size w' w'' := fun n lo hi w' => (inside_any n lo hi w').mono (fun _ _ h => ⟨h.1, h.2 ▸ Below.refl _ _⟩)
  have InB := Lib.hid inB; clear inB
  have HC := Lib.hid (fun w' => isCurve_any a b w')
  have HM := Lib.hid (fun w' => InB.out m 0 200 w')
  have HD := Lib.hid (fun w' => InB.out d 1 10 w')
  cases hc : curveB a b
  all_goals rw [hc] at HC
  · go_enter Tryz.func56, Tryz.ntmps56
    go_wp2
    refine wp_region_tame (by kernel_rfl) (by kernel_rfl) (fun T _ W hT => ?_)
    have hx := hT.cell
    repeat (go_big_quiet_step ((first | (go_at_call 89; exact hT.call (HC.out _)))))
    refine wpQuiet_nil ?_
    intro t
    clear hx
    go_wp2
    go_ret
    exact ⟨by rw [Hv.out, hc]; rfl, hT.below t⟩
  · cases hm : insB m 0 200
    all_goals rw [hm] at HM
    · go_enter Tryz.func56, Tryz.ntmps56
      go_wp2
      refine wp_region_tame (by kernel_rfl) (by kernel_rfl) (fun T _ W hT => ?_)
      have hx := hT.cell
      repeat (go_big_quiet_step ((first | (go_at_call 89; exact hT.call (HC.out _)) | (go_at_call 28; with_reducible exact hT.call (HM.out _)))))
      refine wpQuiet_nil ?_
      intro t
      clear hx
      go_wp2
      go_ret
      exact ⟨by rw [Hv.out, hc, hm]; rfl, hT.below t⟩
    · cases hd : insB d 1 10
      all_goals rw [hd] at HD
      · go_enter Tryz.func56, Tryz.ntmps56
        go_wp2
        refine wp_region_tame (by kernel_rfl) (by kernel_rfl) (fun T _ W hT => ?_)
        have hx := hT.cell
        repeat (go_big_quiet_step ((first | (go_at_call 89; exact hT.call (HC.out _)) | (go_at_call 28; with_reducible exact hT.call (HM.out _)) | (go_at_call 28; with_reducible exact hT.call (HD.out _)))))
        refine wpQuiet_nil ?_
        intro t
        clear hx
        go_wp2
        go_ret
        exact ⟨by rw [Hv.out, hc, hm, hd]; rfl, hT.below t⟩
      · have Hmd := Lib.hid (And.intro (insB_true hm) (insB_true hd))
        have hpos : insB 0 0 (d * (2 * m + 1)) = true := by
          have h1 := insB_true hm
          have h2 := insB_true hd
          exact insB_mk (by omega) (Int.mul_nonneg (by omega) (by omega))
        have htot : ∀ (w' : World), Below w.heap.size w w' → Calls Tryz.prog 29 #[.pointer (some ⟨g, 0, none⟩)] w' fun r w'' => r = .returned (.int .i64 (d * (2 * m + 1))) ∧ Below w'.heap.size w' w'' := fun w' hb' => total_any g a b m d w' (Hb.out.on hb') Hmd.out.1 Hmd.out.2
        have Htot := Lib.hid htot; clear htot
        generalize d * (2 * m + 1) = tt at hpos Htot
        have HT := Lib.hid (fun w' => InB.out 0 0 tt w')
        rw [hpos] at HT
        go_enter Tryz.func56, Tryz.ntmps56
        go_wp2
        refine wp_region_tame (by kernel_rfl) (by kernel_rfl) (fun T _ W hT => ?_)
        have hx := hT.cell
        repeat (go_big_quiet_step ((first | (go_at_call 89; exact hT.call (HC.out _)) | (go_at_call 28; with_reducible exact hT.call (HM.out _)) | (go_at_call 28; with_reducible exact hT.call (HD.out _)) | (go_at_call 28; with_reducible exact hT.call (HT.out _)) | (go_at_call 29; exact hT.call (Htot.out _ (hT.below _))) | (go_at_call 57; exact hT.call (hits_nil _ _)) | (go_at_call 90; exact hT.call (equal_nil _)))))
        refine wpQuiet_nil ?_
        intro t
        clear hx
        go_wp2
        go_ret
        exact ⟨by rw [Hv.out, hc, hm, hd]; rfl, hT.below t⟩
set_option maxHeartbeats 1600000 in
theorem skBounds_new (a b m d : Int) (w : World) : Calls Tryz.prog 20 #[.agg #[.int .i64 a, .int .i64 b, .int .i64 m, .int .i64 d, .int .i64 0, .slice none 0 0]] w fun r w' => r = .returned (.bool (taskB a b m d)) ∧ Below w.heap.size w w' := by
  have hbox := Blk.new w 26 #[.int .i64 a, .int .i64 b, .int .i64 m, .int .i64 d, .int .i64 0, .slice none 0 0]
  have hbA : Below w.heap.size w (w.alloc (Obj.cells #[.int .i64 a, .int .i64 b, .int .i64 m, .int .i64 d, .int .i64 0, .slice none 0 0] 26)) := bal (Below.refl _ _) _
  have hv : taskB a b m d = (curveB a b && (insB m 0 200 && insB d 1 10)) := rfl
  have Hv := Lib.hid hv; clear hv
  have Hbox := Lib.hid hbox; clear hbox
  go_enter Tryz.func20, Tryz.ntmps20
  go_wp2_with fail
  refine (ecGood_any _ _ _).mono ?_; rintro e w1 ⟨rfl, hb1⟩
  have hbox1 := Hbox.out.on hb1
  have q0 := hbox1.cell 0
  have q1 := hbox1.cell 1
  have q2 := hbox1.cell 2
  have q3 := hbox1.cell 3
  have q4 := hbox1.cell 4
  have q5 := hbox1.cell 5
  have ql := hbox1.lt
  have hb1' := bthen hbA hb1
  clear hbox1
  cases hc : curveB a b
  · go_wp2
    go_ret
    exact ⟨by rw [Hv.out, hc]; rfl, hb1'⟩
  · go_wp2_with fail
    refine (l1In_any _ _ _ _).mono ?_; rintro e w2 ⟨rfl, rfl⟩
    cases hm : insB m 0 200
    · go_wp2
      go_ret
      exact ⟨by rw [Hv.out, hc, hm]; rfl, hb1'⟩
    · go_wp2_with fail
      refine (l1In_any _ _ _ _).mono ?_; rintro e w2 ⟨rfl, rfl⟩
      go_wp2
      go_ret
      exact ⟨by rw [Hv.out, hc, hm]; simp, hb1'⟩
end Go.Proofs.YticbmpjdcanjkaaGreatDoor
