/- The laws' own helpers at slices of Entry: what they compute. Conditions: lengths of at most 1048576. -/
import Derived.Test.YticbmpjdcanjkaaDoorTo
import Derived.Test.YticbmpjdcanjkaaDoorBase2
import Derived.Test.YticbmpjdcanjkaaDoorSCurve
namespace Go.Proofs.YticbmpjdcanjkaaDoor
open Go Go.RowKit

set_option maxHeartbeats 800000 in
theorem eqEntry_same (a b lo hi to : Int) (w : World) :
    Calls Tryd.prog 21 #[.agg #[.int .i64 a, .int .i64 b, .int .i64 lo, .int .i64 hi, .int .i64 to], .agg #[.int .i64 a, .int .i64 b, .int .i64 lo, .int .i64 hi, .int .i64 to]] w fun e w' => e = .returned (.bool true) ∧ Below w.heap.size w w' := by
  go_enter Tryd.func21, Tryd.ntmps21
  go_wp2_with (first | (go_at_call 39; refine (eqCurve_same _ _ _).mono ?_; rintro e w' ⟨rfl, hb1⟩; obtain ⟨hc1, hf1⟩ := bcell hb1))
  go_ret
  exact ⟨rfl, by (repeat (with_reducible first | exact Below.refl _ _ | assumption | refine bal ?_ _ | refine bst ?_ (by simp <;> omega) _ | refine Below.drew ?_ | refine bthen ?_ (by assumption)))⟩
set_option maxHeartbeats 1000000 in
theorem eqEntryS_same (u v : Value) (es : List En) (w : World) (hu : Rd enS w w.heap.size u es) (hv : Rd enS w w.heap.size v es) :
    Calls Tryd.prog 6 #[u, v] w fun e w' => e = .returned (.bool true) ∧ Below w.heap.size w w' := by
  obtain ⟨A, c, rfl, hc, hm, hA⟩ := hu
  obtain ⟨A', c', rfl, hc', hm', hA'⟩ := hv
  unfold maxLen at hm hm'
  rcases Nat.eq_zero_or_pos es.length with h0 | h0
  · obtain rfl : es = [] := List.eq_nil_of_length_eq_zero h0
    go_enter Tryd.func6, Tryd.ntmps6
    go_wp2
    refine wp_loop_rounds 1 ?_
    rw [rounds_succ]
    go_wp2
    go_ret
    exact ⟨rfl, Below.refl _ _⟩
  · obtain ⟨g, off, rfl, hg, hcell⟩ := hA h0
    obtain ⟨g', off', rfl, hg', hcell'⟩ := hA' h0
    clear hA hA'
    have hcell := en_cells hcell
    have hcell' := en_cells hcell'
    go_enter Tryd.func6, Tryd.ntmps6
    go_wp2
    go_loopw [5] (fun i wr => ∃ k : Nat, k ≤ es.length ∧ i = .int .i64 k ∧ Below w.heap.size w wr) (fun i _ => es.length - (intOf i).toNat)
    case atStart => exact ⟨0, Nat.zero_le _, rfl, Below.refl _ _⟩
    case round =>
      obtain ⟨k, hk, rfl, hb⟩ := hrel
      by_cases hlt : k < es.length
      · obtain ⟨f0, f1, f2, f3, f4⟩ := hcell k hlt
        obtain ⟨p0, p1, p2, p3, p4⟩ := hcell' k hlt
        rw [← hb.cell (p := ⟨_, _, _⟩) hg] at f0 f1 f2 f3 f4
        rw [← hb.cell (p := ⟨_, _, _⟩) hg'] at p0 p1 p2 p3 p4
        obtain ⟨x, hx⟩ : ∃ e, enS.get es k = e := ⟨_, rfl⟩
        rw [hx] at f0 f1 f2 f3 f4 p0 p1 p2 p3 p4
        have hgr : g < wr.heap.size := Nat.lt_of_lt_of_le hg hb.size
        have hgr' : g' < wr.heap.size := Nat.lt_of_lt_of_le hg' hb.size
        have hi0 : (0 : Int) ≤ (k : Int) := by omega
        have hi1 : (k : Int) < (es.length : Int) := by omega
        clear hcell hcell' hx
        go_wp2
        refine wp_region_tame (by kernel_rfl) (by kernel_rfl) (fun T _ W hT => ?_)
        have hy := hT.cell
        repeat (go_big_quiet_step ((go_at_call 21; exact hT.call (eqEntry_same _ _ _ _ _ _))))
        refine wpQuiet_nil ?_
        intro t
        clear hy
        go_wp2
        go_roundw
        case rel => exact ⟨k + 1, by omega, by go_num, bthen hb (hT.below t)⟩
        case measure => simp [intOf]; omega
      · go_wp2
        go_ret
        exact ⟨rfl, hb⟩
set_option maxHeartbeats 1600000 in
theorem markEntryS_any (v : Value) (n : Nat) (xs : List Value) (k0 : Int) (base : Nat) (w : World) (ho : w.ownsRow base 33 5 v n xs) (hn : n ≤ 2097152) (h0 : 0 ≤ k0) (h1 : k0 ≤ 1099511627776) :
    Calls Tryd.prog 7 #[v, .int .i64 k0] w fun e w' => e = .returned (.int .i64 (k0 + ((n * 5 : Nat) : Int))) ∧ w'.ownsRow base 33 5 v n (marks k0 (n * 5)) ∧ w.grownBy w' v.ownBlock := by
  have hxl := ho.1
  rcases Nat.eq_zero_or_pos n with hz | hz
  · subst hz
    have hx : xs = marks k0 (0 * 5) := by
      have : xs = [] := List.eq_nil_of_length_eq_zero (by rw [hxl, Nat.zero_mul])
      rw [this, Nat.zero_mul]; rfl
    have hv : ∃ A c, v = .slice A 0 c := by
      rcases ho.2 with ⟨rfl, _⟩ | ⟨g, cap, cur, rfl, _⟩
      · exact ⟨_, _, rfl⟩
      · exact ⟨_, _, rfl⟩
    obtain ⟨A, c, rfl⟩ := hv
    have Ho := Lib.hid ho; clear ho
    clear hxl
    have Hx := Lib.hid hx; clear hx
    go_enter Tryd.func7, Tryd.ntmps7
    go_wp2
    refine wp_loop_rounds 1 ?_
    rw [rounds_succ]
    go_wp2
    go_ret
    exact ⟨ret_int (by simp), by rw [← Hx.out]; exact Ho.out, World.grownBy.refl _ _⟩
  · obtain ⟨g, cap, rfl, hb, hlt⟩ := ho.form hz
    have Ho := Lib.hid ho; clear ho
    have Hxl := Lib.hid hxl; clear hxl
    go_enter Tryd.func7, Tryd.ntmps7
    go_wp2
    go_loopw [1, 5] (fun q t wr => ∃ i : Nat, i ≤ n ∧ q = .int .i64 (k0 + ((i * 5 : Nat) : Int)) ∧ t = .int .i64 i ∧ wr.ownsRow base 33 5 (.slice (some ⟨g, 0, none⟩) n cap) n (part k0 (i * 5) xs) ∧ w.grownBy wr (some g)) (fun _ t _ => n - (intOf t).toNat)
    case atStart => exact ⟨0, Nat.zero_le _, by simp, rfl, by rw [Nat.zero_mul, part_zero]; exact Ho.out, World.grownBy.refl _ _⟩
    case round =>
      obtain ⟨i, hi, rfl, rfl, hown, hgr⟩ := hrel
      by_cases hit : i < n
      · have hfr := hown.frozenAt
        obtain ⟨u0, hu0⟩ := own_cell hown (i * 5) (by omega)
        obtain ⟨u1, hu1⟩ := own_cell hown (i * 5 + 1) (by omega)
        obtain ⟨u2, hu2⟩ := own_cell hown (i * 5 + 2) (by omega)
        obtain ⟨u3, hu3⟩ := own_cell hown (i * 5 + 3) (by omega)
        obtain ⟨u4, hu4⟩ := own_cell hown (i * 5 + 4) (by omega)
        have Hown := Lib.hid hown; clear hown
        have i0 : (0 : Int) ≤ (i : Int) := by omega
        have i1 : (i : Int) < (n : Int) := by omega
        go_wp2
        go_roundw
        case rel =>
          have hl : xs.length = n * 5 := Hxl.out
          have h_0 := Hown.out
          have h_1 := (h_0.stored (i * 5) (.int .i64 (k0 + ((i * 5 : Nat) : Int)))).1
          rw [part_set k0 (i * 5) xs (by omega)] at h_1
          have h_2 := (h_1.stored (i * 5 + 1) (.int .i64 (k0 + ((i * 5 + 1 : Nat) : Int)))).1
          rw [part_set k0 (i * 5 + 1) xs (by omega)] at h_2
          have h_3 := (h_2.stored (i * 5 + 2) (.int .i64 (k0 + ((i * 5 + 2 : Nat) : Int)))).1
          rw [part_set k0 (i * 5 + 2) xs (by omega)] at h_3
          have h_4 := (h_3.stored (i * 5 + 3) (.int .i64 (k0 + ((i * 5 + 3 : Nat) : Int)))).1
          rw [part_set k0 (i * 5 + 3) xs (by omega)] at h_4
          have h_5 := (h_4.stored (i * 5 + 4) (.int .i64 (k0 + ((i * 5 + 4 : Nat) : Int)))).1
          rw [part_set k0 (i * 5 + 4) xs (by omega)] at h_5
          refine ⟨i + 1, by omega, by go_num, by go_num, ?_, ?_⟩
          · rw [show (i + 1) * 5 = i * 5 + 5 by omega]
            have e0 : k0 + (i : Int) * 5 = k0 + ((i * 5 : Nat) : Int) := by omega
            have e1 : k0 + (i : Int) * 5 + 1 = k0 + ((i * 5 + 1 : Nat) : Int) := by omega
            have e2 : k0 + (i : Int) * 5 + 1 + 1 = k0 + ((i * 5 + 2 : Nat) : Int) := by omega
            have e3 : k0 + (i : Int) * 5 + 1 + 1 + 1 = k0 + ((i * 5 + 3 : Nat) : Int) := by omega
            have e4 : k0 + (i : Int) * 5 + 1 + 1 + 1 + 1 = k0 + ((i * 5 + 4 : Nat) : Int) := by omega
            rw [e4, e3, e2, e1, e0]
            exact h_5
          · exact (only_cell (only_cell (only_cell (only_cell (only_cell hgr)))))
        case measure => simp [intOf]; omega
      · have hin : i = n := by omega
        have Hin := Lib.hid hin; clear hin
        have Hown := Lib.hid hown; clear hown
        go_wp2
        go_ret
        refine ⟨ret_int (by rw [← Hin.out]), ?_, hgr⟩
        have := Hown.out
        have hl := Hxl.out
        rw [Hin.out, ← hl, part_all, hl] at this
        exact this
set_option maxRecDepth 8000 in
set_option maxHeartbeats 1600000 in
theorem heldEntryS_any (v : Value) (n : Nat) (k0 : Int) (base : Nat) (w : World) (ho : w.ownsRow base 33 5 v n (marks k0 (n * 5))) (hn : n ≤ 2097152) (h0 : 0 ≤ k0) (h1 : k0 ≤ 1099511627776) :
    Calls Tryd.prog 8 #[v, .int .i64 k0] w fun e w' => e = .returned (.int .i64 (k0 + ((n * 5 : Nat) : Int))) ∧ w = w' := by
  rcases Nat.eq_zero_or_pos n with hz | hz
  · subst hz
    have hv : ∃ A c, v = .slice A 0 c := by
      rcases ho.2 with ⟨rfl, _⟩ | ⟨g, cap, cur, rfl, _⟩
      · exact ⟨_, _, rfl⟩
      · exact ⟨_, _, rfl⟩
    obtain ⟨A, c, rfl⟩ := hv
    clear ho
    go_enter Tryd.func8, Tryd.ntmps8
    go_wp2
    refine wp_loop_rounds 1 ?_
    rw [rounds_succ]
    go_wp2
    go_ret
    exact ⟨ret_int (by simp), rfl⟩
  · obtain ⟨g, cap, rfl, hb, hlt⟩ := ho.form hz
    have Ho := Lib.hid ho; clear ho
    go_enter Tryd.func8, Tryd.ntmps8
    go_wp2
    go_loop [1, 5] (fun q t => ∃ i : Nat, i ≤ n ∧ q = .int .i64 (k0 + ((i * 5 : Nat) : Int)) ∧ t = .int .i64 i) (fun _ t => n - (intOf t).toNat)
    case atStart => exact ⟨0, Nat.zero_le _, by simp, rfl⟩
    case round =>
      obtain ⟨i, hi, rfl, rfl⟩ := hrel
      by_cases hit : i < n
      · have i0 : (0 : Int) ≤ (i : Int) := by omega
        have i1 : (i : Int) < (n : Int) := by omega
        have q0 : w.cell? ⟨g, i * 5, none⟩ = some (.int .i64 (k0 + (i : Int) * 5)) := by
          rw [Ho.out.cellAt (i * 5) (by omega), marks_at k0 _ (i * 5) (by omega)] <;> (congr 2 <;> omega)
        have q1 : w.cell? ⟨g, i * 5 + 1, none⟩ = some (.int .i64 (k0 + (i : Int) * 5 + 1)) := by
          rw [Ho.out.cellAt (i * 5 + 1) (by omega), marks_at k0 _ (i * 5 + 1) (by omega)] <;> (congr 2 <;> omega)
        have q2 : w.cell? ⟨g, i * 5 + 2, none⟩ = some (.int .i64 (k0 + (i : Int) * 5 + 1 + 1)) := by
          rw [Ho.out.cellAt (i * 5 + 2) (by omega), marks_at k0 _ (i * 5 + 2) (by omega)] <;> (congr 2 <;> omega)
        have q3 : w.cell? ⟨g, i * 5 + 3, none⟩ = some (.int .i64 (k0 + (i : Int) * 5 + 1 + 1 + 1)) := by
          rw [Ho.out.cellAt (i * 5 + 3) (by omega), marks_at k0 _ (i * 5 + 3) (by omega)] <;> (congr 2 <;> omega)
        have q4 : w.cell? ⟨g, i * 5 + 4, none⟩ = some (.int .i64 (k0 + (i : Int) * 5 + 1 + 1 + 1 + 1)) := by
          rw [Ho.out.cellAt (i * 5 + 4) (by omega), marks_at k0 _ (i * 5 + 4) (by omega)] <;> (congr 2 <;> omega)
        go_wp2
        go_round
        case rel => exact ⟨i + 1, by omega, by go_num, by go_num⟩
        case measure => simp [intOf]; omega
      · have hin : i = n := by omega
        have Hin := Lib.hid hin; clear hin
        go_wp2
        go_ret
        exact ⟨ret_int (by rw [← Hin.out]), rfl⟩
end Go.Proofs.YticbmpjdcanjkaaDoor
