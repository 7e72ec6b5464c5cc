/- The laws' own helpers at slices of Record: what they compute. Conditions: lengths of at most 1048576. -/
import Derived.Test.YtegnommappmegaaDoorTo
import Derived.Test.YtegnommappmegaaDoorBase2
import Derived.Test.YtegnommappmegaaDoorSCurve
import Derived.Test.YtegnommappmegaaDoorJour
namespace Go.Proofs.YtegnommappmegaaDoor
open Go Go.RowKit

theorem rc_cells {w : World} {g off n : Nat} {es : List Rc} (h : ∀ k, k < n → ∀ j, j < rcS.size → w.cell? ⟨g, off + k * rcS.size + j, none⟩ = some (rcS.cell (rcS.get es k) j)) (k : Nat) (hk : k < n) :
    w.cell? ⟨g, off + k * 4, none⟩ = some (.int .i64 (rcS.get es k).a) ∧ w.cell? ⟨g, off + k * 4 + 1, none⟩ = some (.int .i64 (rcS.get es k).b) ∧ w.cell? ⟨g, off + k * 4 + 2, none⟩ = some (.int .i64 (rcS.get es k).lo) ∧
      w.cell? ⟨g, off + k * 4 + 3, none⟩ = some (.int .i64 (rcS.get es k).hi) :=
  ⟨h k hk 0 (by decide), h k hk 1 (by decide), h k hk 2 (by decide), h k hk 3 (by decide)⟩
set_option maxHeartbeats 800000 in
theorem eqRecord_same (a b lo hi : Int) (w : World) :
    Calls Tryd.prog 89 #[.agg #[.int .i64 a, .int .i64 b, .int .i64 lo, .int .i64 hi], .agg #[.int .i64 a, .int .i64 b, .int .i64 lo, .int .i64 hi]] w fun e w' => e = .returned (.bool true) ∧ Below w.heap.size w w' := by
  go_enter Tryd.func89, Tryd.ntmps89
  go_wp2_with (first | (go_at_call 81; refine (eqCurve_same _ _ _).mono ?_; rintro e w' ⟨rfl, hb1⟩; obtain ⟨hc1, hf1⟩ := bcell hb1))
  go_ret
  exact ⟨rfl, by (repeat (with_reducible first | exact Below.refl _ _ | assumption | refine bal ?_ _ | refine bst ?_ (by simp <;> omega) _ | refine Below.drew ?_ | refine bthen ?_ (by assumption)))⟩
set_option maxHeartbeats 1000000 in
theorem eqRecordS_same (u v : Value) (es : List Rc) (w : World) (hu : Rd rcS w w.heap.size u es) (hv : Rd rcS w w.heap.size v es) :
    Calls Tryd.prog 48 #[u, v] w fun e w' => e = .returned (.bool true) ∧ Below w.heap.size w w' := by
  obtain ⟨A, c, rfl, hc, hm, hA⟩ := hu
  obtain ⟨A', c', rfl, hc', hm', hA'⟩ := hv
  unfold maxLen at hm hm'
  rcases Nat.eq_zero_or_pos es.length with h0 | h0
  · obtain rfl : es = [] := List.eq_nil_of_length_eq_zero h0
    go_enter Tryd.func48, Tryd.ntmps48
    go_wp2
    refine wp_loop_rounds 1 ?_
    rw [rounds_succ]
    go_wp2
    go_ret
    exact ⟨rfl, Below.refl _ _⟩
  · obtain ⟨g, off, rfl, hg, hcell⟩ := hA h0
    obtain ⟨g', off', rfl, hg', hcell'⟩ := hA' h0
    clear hA hA'
    have hcell := rc_cells hcell
    have hcell' := rc_cells hcell'
    go_enter Tryd.func48, Tryd.ntmps48
    go_wp2
    go_loopw [5] (fun i wr => ∃ k : Nat, k ≤ es.length ∧ i = .int .i64 k ∧ Below w.heap.size w wr) (fun i _ => es.length - (intOf i).toNat)
    case atStart => exact ⟨0, Nat.zero_le _, rfl, Below.refl _ _⟩
    case round =>
      obtain ⟨k, hk, rfl, hb⟩ := hrel
      by_cases hlt : k < es.length
      · obtain ⟨f0, f1, f2, f3⟩ := hcell k hlt
        obtain ⟨p0, p1, p2, p3⟩ := hcell' k hlt
        rw [← hb.cell (p := ⟨_, _, _⟩) hg] at f0 f1 f2 f3
        rw [← hb.cell (p := ⟨_, _, _⟩) hg'] at p0 p1 p2 p3
        obtain ⟨x, hx⟩ : ∃ e, rcS.get es k = e := ⟨_, rfl⟩
        rw [hx] at f0 f1 f2 f3 p0 p1 p2 p3
        have hgr : g < wr.heap.size := Nat.lt_of_lt_of_le hg hb.size
        have hgr' : g' < wr.heap.size := Nat.lt_of_lt_of_le hg' hb.size
        have hi0 : (0 : Int) ≤ (k : Int) := by omega
        have hi1 : (k : Int) < (es.length : Int) := by omega
        clear hcell hcell' hx
        go_wp2
        refine wp_region_tame (by kernel_rfl) (by kernel_rfl) (fun T _ W hT => ?_)
        have hy := hT.cell
        repeat (go_big_quiet_step ((go_at_call 89; exact hT.call (eqRecord_same _ _ _ _ _))))
        refine wpQuiet_nil ?_
        intro t
        clear hy
        go_wp2
        go_roundw
        case rel => exact ⟨k + 1, by omega, by go_num, bthen hb (hT.below t)⟩
        case measure => simp [intOf]; omega
      · go_wp2
        go_ret
        exact ⟨rfl, hb⟩
set_option maxHeartbeats 1600000 in
theorem markRecordS_any (v : Value) (n : Nat) (xs : List Value) (k0 : Int) (base : Nat) (w : World) (ho : w.ownsRow base 30 4 v n xs) (hn : n ≤ 2097152) (h0 : 0 ≤ k0) (h1 : k0 ≤ 1099511627776) :
    Calls Tryd.prog 49 #[v, .int .i64 k0] w fun e w' => e = .returned (.int .i64 (k0 + ((n * 4 : Nat) : Int))) ∧ w'.ownsRow base 30 4 v n (marks k0 (n * 4)) ∧ w.grownBy w' v.ownBlock := by
  have hxl := ho.1
  rcases Nat.eq_zero_or_pos n with hz | hz
  · subst hz
    have hx : xs = marks k0 (0 * 4) := by
      have : xs = [] := List.eq_nil_of_length_eq_zero (by rw [hxl, Nat.zero_mul])
      rw [this, Nat.zero_mul]; rfl
    have hv : ∃ A c, v = .slice A 0 c := by
      rcases ho.2 with ⟨rfl, _⟩ | ⟨g, cap, cur, rfl, _⟩
      · exact ⟨_, _, rfl⟩
      · exact ⟨_, _, rfl⟩
    obtain ⟨A, c, rfl⟩ := hv
    have Ho := Lib.hid ho; clear ho
    clear hxl
    have Hx := Lib.hid hx; clear hx
    go_enter Tryd.func49, Tryd.ntmps49
    go_wp2
    refine wp_loop_rounds 1 ?_
    rw [rounds_succ]
    go_wp2
    go_ret
    exact ⟨ret_int (by simp), by rw [← Hx.out]; exact Ho.out, World.grownBy.refl _ _⟩
  · obtain ⟨g, cap, rfl, hb, hlt⟩ := ho.form hz
    have Ho := Lib.hid ho; clear ho
    have Hxl := Lib.hid hxl; clear hxl
    go_enter Tryd.func49, Tryd.ntmps49
    go_wp2
    go_loopw [1, 5] (fun q t wr => ∃ i : Nat, i ≤ n ∧ q = .int .i64 (k0 + ((i * 4 : Nat) : Int)) ∧ t = .int .i64 i ∧ wr.ownsRow base 30 4 (.slice (some ⟨g, 0, none⟩) n cap) n (part k0 (i * 4) xs) ∧ w.grownBy wr (some g)) (fun _ t _ => n - (intOf t).toNat)
    case atStart => exact ⟨0, Nat.zero_le _, by simp, rfl, by rw [Nat.zero_mul, part_zero]; exact Ho.out, World.grownBy.refl _ _⟩
    case round =>
      obtain ⟨i, hi, rfl, rfl, hown, hgr⟩ := hrel
      by_cases hit : i < n
      · have hfr := hown.frozenAt
        obtain ⟨u0, hu0⟩ := own_cell hown (i * 4) (by omega)
        obtain ⟨u1, hu1⟩ := own_cell hown (i * 4 + 1) (by omega)
        obtain ⟨u2, hu2⟩ := own_cell hown (i * 4 + 2) (by omega)
        obtain ⟨u3, hu3⟩ := own_cell hown (i * 4 + 3) (by omega)
        have Hown := Lib.hid hown; clear hown
        have i0 : (0 : Int) ≤ (i : Int) := by omega
        have i1 : (i : Int) < (n : Int) := by omega
        go_wp2
        go_roundw
        case rel =>
          have hl : xs.length = n * 4 := Hxl.out
          have h_0 := Hown.out
          have h_1 := (h_0.stored (i * 4) (.int .i64 (k0 + ((i * 4 : Nat) : Int)))).1
          rw [part_set k0 (i * 4) xs (by omega)] at h_1
          have h_2 := (h_1.stored (i * 4 + 1) (.int .i64 (k0 + ((i * 4 + 1 : Nat) : Int)))).1
          rw [part_set k0 (i * 4 + 1) xs (by omega)] at h_2
          have h_3 := (h_2.stored (i * 4 + 2) (.int .i64 (k0 + ((i * 4 + 2 : Nat) : Int)))).1
          rw [part_set k0 (i * 4 + 2) xs (by omega)] at h_3
          have h_4 := (h_3.stored (i * 4 + 3) (.int .i64 (k0 + ((i * 4 + 3 : Nat) : Int)))).1
          rw [part_set k0 (i * 4 + 3) xs (by omega)] at h_4
          refine ⟨i + 1, by omega, by go_num, by go_num, ?_, ?_⟩
          · rw [show (i + 1) * 4 = i * 4 + 4 by omega]
            have e0 : k0 + (i : Int) * 4 = k0 + ((i * 4 : Nat) : Int) := by omega
            have e1 : k0 + (i : Int) * 4 + 1 = k0 + ((i * 4 + 1 : Nat) : Int) := by omega
            have e2 : k0 + (i : Int) * 4 + 1 + 1 = k0 + ((i * 4 + 2 : Nat) : Int) := by omega
            have e3 : k0 + (i : Int) * 4 + 1 + 1 + 1 = k0 + ((i * 4 + 3 : Nat) : Int) := by omega
            rw [e3, e2, e1, e0]
            exact h_4
          · exact (only_cell (only_cell (only_cell (only_cell hgr))))
        case measure => simp [intOf]; omega
      · have hin : i = n := by omega
        have Hin := Lib.hid hin; clear hin
        have Hown := Lib.hid hown; clear hown
        go_wp2
        go_ret
        refine ⟨ret_int (by rw [← Hin.out]), ?_, hgr⟩
        have := Hown.out
        have hl := Hxl.out
        rw [Hin.out, ← hl, part_all, hl] at this
        exact this
set_option maxRecDepth 8000 in
set_option maxHeartbeats 1600000 in
theorem heldRecordS_any (v : Value) (n : Nat) (k0 : Int) (base : Nat) (w : World) (ho : w.ownsRow base 30 4 v n (marks k0 (n * 4))) (hn : n ≤ 2097152) (h0 : 0 ≤ k0) (h1 : k0 ≤ 1099511627776) :
    Calls Tryd.prog 50 #[v, .int .i64 k0] w fun e w' => e = .returned (.int .i64 (k0 + ((n * 4 : Nat) : Int))) ∧ w = w' := by
  rcases Nat.eq_zero_or_pos n with hz | hz
  · subst hz
    have hv : ∃ A c, v = .slice A 0 c := by
      rcases ho.2 with ⟨rfl, _⟩ | ⟨g, cap, cur, rfl, _⟩
      · exact ⟨_, _, rfl⟩
      · exact ⟨_, _, rfl⟩
    obtain ⟨A, c, rfl⟩ := hv
    clear ho
    go_enter Tryd.func50, Tryd.ntmps50
    go_wp2
    refine wp_loop_rounds 1 ?_
    rw [rounds_succ]
    go_wp2
    go_ret
    exact ⟨ret_int (by simp), rfl⟩
  · obtain ⟨g, cap, rfl, hb, hlt⟩ := ho.form hz
    have Ho := Lib.hid ho; clear ho
    go_enter Tryd.func50, Tryd.ntmps50
    go_wp2
    go_loop [1, 5] (fun q t => ∃ i : Nat, i ≤ n ∧ q = .int .i64 (k0 + ((i * 4 : Nat) : Int)) ∧ t = .int .i64 i) (fun _ t => n - (intOf t).toNat)
    case atStart => exact ⟨0, Nat.zero_le _, by simp, rfl⟩
    case round =>
      obtain ⟨i, hi, rfl, rfl⟩ := hrel
      by_cases hit : i < n
      · have i0 : (0 : Int) ≤ (i : Int) := by omega
        have i1 : (i : Int) < (n : Int) := by omega
        have q0 : w.cell? ⟨g, i * 4, none⟩ = some (.int .i64 (k0 + (i : Int) * 4)) := by
          rw [Ho.out.cellAt (i * 4) (by omega), marks_at k0 _ (i * 4) (by omega)] <;> (congr 2 <;> omega)
        have q1 : w.cell? ⟨g, i * 4 + 1, none⟩ = some (.int .i64 (k0 + (i : Int) * 4 + 1)) := by
          rw [Ho.out.cellAt (i * 4 + 1) (by omega), marks_at k0 _ (i * 4 + 1) (by omega)] <;> (congr 2 <;> omega)
        have q2 : w.cell? ⟨g, i * 4 + 2, none⟩ = some (.int .i64 (k0 + (i : Int) * 4 + 1 + 1)) := by
          rw [Ho.out.cellAt (i * 4 + 2) (by omega), marks_at k0 _ (i * 4 + 2) (by omega)] <;> (congr 2 <;> omega)
        have q3 : w.cell? ⟨g, i * 4 + 3, none⟩ = some (.int .i64 (k0 + (i : Int) * 4 + 1 + 1 + 1)) := by
          rw [Ho.out.cellAt (i * 4 + 3) (by omega), marks_at k0 _ (i * 4 + 3) (by omega)] <;> (congr 2 <;> omega)
        go_wp2
        go_round
        case rel => exact ⟨i + 1, by omega, by go_num, by go_num⟩
        case measure => simp [intOf]; omega
      · have hin : i = n := by omega
        have Hin := Lib.hid hin; clear hin
        go_wp2
        go_ret
        exact ⟨ret_int (by rw [← Hin.out]), rfl⟩
end Go.Proofs.YtegnommappmegaaDoor
