/- The laws' own helpers at slices of ints. Conditions: lengths of at most 2097152. -/
import Derived.Test.YtnhgdmhiblpknaaShapes
import Derived.Test.YtnhgdmhiblpknaaRows
namespace Go.Proofs.Ytnhgdmhiblpknaa
open Go Go.RowKit

set_option maxHeartbeats 1000000 in
theorem eqIntS_same (u v : Value) (es : List Int) (w : World) (hu : Rd inS w w.heap.size u es) (hv : Rd inS w w.heap.size v es) :
    Calls Try.prog 41 #[u, v] w fun e w' => e = .returned (.bool true) ∧ Below w.heap.size w w' := by
  obtain ⟨A, c, rfl, hc, hm, hA⟩ := hu
  obtain ⟨A', c', rfl, hc', hm', hA'⟩ := hv
  unfold maxLen at hm hm'
  rcases Nat.eq_zero_or_pos es.length with h0 | h0
  · obtain rfl : es = [] := List.eq_nil_of_length_eq_zero h0
    go_enter Try.func41, Try.ntmps41
    go_wp2
    refine wp_loop_rounds 1 ?_
    rw [rounds_succ]
    go_wp2
    go_ret
    exact ⟨rfl, Below.refl _ _⟩
  · obtain ⟨g, off, rfl, hg, hcell⟩ := hA h0
    obtain ⟨g', off', rfl, hg', hcell'⟩ := hA' h0
    clear hA hA'
    have hcell := in_cells hcell
    have hcell' := in_cells hcell'
    go_enter Try.func41, Try.ntmps41
    go_wp2
    go_loopw [5] (fun i wr => ∃ k : Nat, k ≤ es.length ∧ i = .int .i64 k ∧ Below w.heap.size w wr) (fun i _ => es.length - (intOf i).toNat)
    case atStart => exact ⟨0, Nat.zero_le _, rfl, Below.refl _ _⟩
    case round =>
      obtain ⟨k, hk, rfl, hb⟩ := hrel
      by_cases hlt : k < es.length
      · have f0 := hcell k hlt
        have p0 := hcell' k hlt
        rw [← hb.cell (p := ⟨_, _, _⟩) hg] at f0
        rw [← hb.cell (p := ⟨_, _, _⟩) hg'] at p0
        obtain ⟨x, hx⟩ : ∃ e, inS.get es k = e := ⟨_, rfl⟩
        rw [hx] at f0 p0
        have hgr : g < wr.heap.size := Nat.lt_of_lt_of_le hg hb.size
        have hgr' : g' < wr.heap.size := Nat.lt_of_lt_of_le hg' hb.size
        have hi0 : (0 : Int) ≤ (k : Int) := by omega
        have hi1 : (k : Int) < (es.length : Int) := by omega
        clear hcell hcell' hx
        go_wp2
        refine wp_region_tame (by kernel_rfl) (by kernel_rfl) (fun T _ W hT => ?_)
        have hy := hT.cell
        repeat (go_big_quiet_step (fail))
        refine wpQuiet_nil ?_
        intro t
        clear hy
        go_wp2
        go_roundw
        case rel => exact ⟨k + 1, by omega, by go_num, bthen hb (hT.below t)⟩
        case measure => simp [intOf]; omega
      · go_wp2
        go_ret
        exact ⟨rfl, hb⟩
set_option maxHeartbeats 1600000 in
theorem markIntS_any (v : Value) (n : Nat) (xs : List Value) (k0 : Int) (base : Nat) (w : World) (ho : w.ownsRow base 3 1 v n xs) (hn : n ≤ 2097152) (h0 : 0 ≤ k0) (h1 : k0 ≤ 1099511627776) :
    Calls Try.prog 43 #[v, .int .i64 k0] w fun e w' => e = .returned (.int .i64 (k0 + ((n * 1 : Nat) : Int))) ∧ w'.ownsRow base 3 1 v n (marks k0 (n * 1)) ∧ w.grownBy w' v.ownBlock := by
  have hxl := ho.1
  rcases Nat.eq_zero_or_pos n with hz | hz
  · subst hz
    have hx : xs = marks k0 (0 * 1) := by
      have : xs = [] := List.eq_nil_of_length_eq_zero (by rw [hxl, Nat.zero_mul])
      rw [this, Nat.zero_mul]; rfl
    have hv : ∃ A c, v = .slice A 0 c := by
      rcases ho.2 with ⟨rfl, _⟩ | ⟨g, cap, cur, rfl, _⟩
      · exact ⟨_, _, rfl⟩
      · exact ⟨_, _, rfl⟩
    obtain ⟨A, c, rfl⟩ := hv
    have Ho := Lib.hid ho; clear ho
    clear hxl
    have Hx := Lib.hid hx; clear hx
    go_enter Try.func43, Try.ntmps43
    go_wp2
    refine wp_loop_rounds 1 ?_
    rw [rounds_succ]
    go_wp2
    go_ret
    exact ⟨ret_int (by simp), by rw [← Hx.out]; exact Ho.out, World.grownBy.refl _ _⟩
  · obtain ⟨g, cap, rfl, hb, hlt⟩ := ho.form hz
    have Ho := Lib.hid ho; clear ho
    have Hxl := Lib.hid hxl; clear hxl
    go_enter Try.func43, Try.ntmps43
    go_wp2
    go_loopw [1, 5] (fun q t wr => ∃ i : Nat, i ≤ n ∧ q = .int .i64 (k0 + ((i : Nat) : Int)) ∧ t = .int .i64 i ∧ wr.ownsRow base 3 1 (.slice (some ⟨g, 0, none⟩) n cap) n (part k0 (i) xs) ∧ w.grownBy wr (some g)) (fun _ t _ => n - (intOf t).toNat)
    case atStart => exact ⟨0, Nat.zero_le _, by simp, rfl, by rw [part_zero]; exact Ho.out, World.grownBy.refl _ _⟩
    case round =>
      obtain ⟨i, hi, rfl, rfl, hown, hgr⟩ := hrel
      by_cases hit : i < n
      · have hfr := hown.frozenAt
        obtain ⟨u0, hu0⟩ := own_cell hown (i) (by omega)
        have Hown := Lib.hid hown; clear hown
        have i0 : (0 : Int) ≤ (i : Int) := by omega
        have i1 : (i : Int) < (n : Int) := by omega
        go_wp2
        go_roundw
        case rel =>
          have hl : xs.length = n * 1 := Hxl.out
          have h_0 := Hown.out
          have h_1 := (h_0.stored (i) (.int .i64 (k0 + ((i : Nat) : Int)))).1
          rw [part_set k0 (i) xs (by omega)] at h_1
          refine ⟨i + 1, by omega, by go_num, by go_num, ?_, ?_⟩
          · skip

            exact h_1
          · exact (only_cell hgr)
        case measure => simp [intOf]; omega
      · have hin : i = n := by omega
        have Hin := Lib.hid hin; clear hin
        have Hown := Lib.hid hown; clear hown
        go_wp2
        go_ret
        refine ⟨ret_int (by rw [← Hin.out]; simp), ?_, hgr⟩
        have := Hown.out
        have hl := Hxl.out
        rw [Nat.mul_one] at hl
        rw [Nat.mul_one]
        rw [Hin.out, show part k0 n xs = marks k0 n by rw [← hl, part_all]] at this
        exact this
set_option maxRecDepth 8000 in
set_option maxHeartbeats 1600000 in
theorem heldIntS_any (v : Value) (n : Nat) (k0 : Int) (base : Nat) (w : World) (ho : w.ownsRow base 3 1 v n (marks k0 (n * 1))) (hn : n ≤ 2097152) (h0 : 0 ≤ k0) (h1 : k0 ≤ 1099511627776) :
    Calls Try.prog 44 #[v, .int .i64 k0] w fun e w' => e = .returned (.int .i64 (k0 + ((n * 1 : Nat) : Int))) ∧ w = w' := by
  rcases Nat.eq_zero_or_pos n with hz | hz
  · subst hz
    have hv : ∃ A c, v = .slice A 0 c := by
      rcases ho.2 with ⟨rfl, _⟩ | ⟨g, cap, cur, rfl, _⟩
      · exact ⟨_, _, rfl⟩
      · exact ⟨_, _, rfl⟩
    obtain ⟨A, c, rfl⟩ := hv
    clear ho
    go_enter Try.func44, Try.ntmps44
    go_wp2
    refine wp_loop_rounds 1 ?_
    rw [rounds_succ]
    go_wp2
    go_ret
    exact ⟨ret_int (by simp), rfl⟩
  · obtain ⟨g, cap, rfl, hb, hlt⟩ := ho.form hz
    have Ho := Lib.hid ho; clear ho
    go_enter Try.func44, Try.ntmps44
    go_wp2
    go_loop [1, 5] (fun q t => ∃ i : Nat, i ≤ n ∧ q = .int .i64 (k0 + ((i : Nat) : Int)) ∧ t = .int .i64 i) (fun _ t => n - (intOf t).toNat)
    case atStart => exact ⟨0, Nat.zero_le _, by simp, rfl⟩
    case round =>
      obtain ⟨i, hi, rfl, rfl⟩ := hrel
      by_cases hit : i < n
      · have i0 : (0 : Int) ≤ (i : Int) := by omega
        have i1 : (i : Int) < (n : Int) := by omega
        have q0 : w.cell? ⟨g, i, none⟩ = some (.int .i64 (k0 + (i : Int))) := by
          rw [Ho.out.cellAt (i) (by omega), marks_at k0 _ (i) (by omega)] <;> (congr 2 <;> omega)
        go_wp2
        go_round
        case rel => exact ⟨i + 1, by omega, by go_num, by go_num⟩
        case measure => simp [intOf]; omega
      · have hin : i = n := by omega
        have Hin := Lib.hid hin; clear hin
        go_wp2
        go_ret
        exact ⟨ret_int (by rw [← Hin.out] <;> simp), rfl⟩
end Go.Proofs.Ytnhgdmhiblpknaa
