/- The laws' own helpers at slices of Report: what they compute. Conditions: lengths of at most 1048576. -/
import Derived.Test.YtegnommappmegaaDoorTo
import Derived.Test.YtegnommappmegaaDoorBase2
import Derived.Test.YtegnommappmegaaDoorSEntry
namespace Go.Proofs.YtegnommappmegaaDoor
open Go Go.RowKit

set_option maxHeartbeats 800000 in
theorem eqReport_same (tm mc a b lo hi to : Int) (w : World) :
    Calls Tryd.prog 74 #[.agg #[.int .i64 tm, .int .i64 mc, .int .i64 a, .int .i64 b, .int .i64 lo, .int .i64 hi, .int .i64 to], .agg #[.int .i64 tm, .int .i64 mc, .int .i64 a, .int .i64 b, .int .i64 lo, .int .i64 hi, .int .i64 to]] w fun e w' => e = .returned (.bool true) ∧ Below w.heap.size w w' := by
  go_enter Tryd.func74, Tryd.ntmps74
  go_wp2_with (first | (go_at_call 67; refine (eqEntry_same _ _ _ _ _ _).mono ?_; rintro e w' ⟨rfl, hb1⟩; obtain ⟨hc1, hf1⟩ := bcell hb1))
  go_ret
  exact ⟨rfl, by (repeat (with_reducible first | exact Below.refl _ _ | assumption | refine bal ?_ _ | refine bst ?_ (by simp <;> omega) _ | refine Below.drew ?_ | refine bthen ?_ (by assumption)))⟩
set_option maxHeartbeats 1000000 in
theorem eqReportS_same (u v : Value) (es : List Rp) (w : World) (hu : Rd rpS w w.heap.size u es) (hv : Rd rpS w w.heap.size v es) :
    Calls Tryd.prog 27 #[u, v] w fun e w' => e = .returned (.bool true) ∧ Below w.heap.size w w' := by
  obtain ⟨A, c, rfl, hc, hm, hA⟩ := hu
  obtain ⟨A', c', rfl, hc', hm', hA'⟩ := hv
  unfold maxLen at hm hm'
  rcases Nat.eq_zero_or_pos es.length with h0 | h0
  · obtain rfl : es = [] := List.eq_nil_of_length_eq_zero h0
    go_enter Tryd.func27, Tryd.ntmps27
    go_wp2
    refine wp_loop_rounds 1 ?_
    rw [rounds_succ]
    go_wp2
    go_ret
    exact ⟨rfl, Below.refl _ _⟩
  · obtain ⟨g, off, rfl, hg, hcell⟩ := hA h0
    obtain ⟨g', off', rfl, hg', hcell'⟩ := hA' h0
    clear hA hA'
    have hcell := rp_cells hcell
    have hcell' := rp_cells hcell'
    go_enter Tryd.func27, Tryd.ntmps27
    go_wp2
    go_loopw [5] (fun i wr => ∃ k : Nat, k ≤ es.length ∧ i = .int .i64 k ∧ Below w.heap.size w wr) (fun i _ => es.length - (intOf i).toNat)
    case atStart => exact ⟨0, Nat.zero_le _, rfl, Below.refl _ _⟩
    case round =>
      obtain ⟨k, hk, rfl, hb⟩ := hrel
      by_cases hlt : k < es.length
      · obtain ⟨f0, f1, f2, f3, f4, f5, f6⟩ := hcell k hlt
        obtain ⟨p0, p1, p2, p3, p4, p5, p6⟩ := hcell' k hlt
        rw [← hb.cell (p := ⟨_, _, _⟩) hg] at f0 f1 f2 f3 f4 f5 f6
        rw [← hb.cell (p := ⟨_, _, _⟩) hg'] at p0 p1 p2 p3 p4 p5 p6
        obtain ⟨x, hx⟩ : ∃ e, rpS.get es k = e := ⟨_, rfl⟩
        rw [hx] at f0 f1 f2 f3 f4 f5 f6 p0 p1 p2 p3 p4 p5 p6
        have hgr : g < wr.heap.size := Nat.lt_of_lt_of_le hg hb.size
        have hgr' : g' < wr.heap.size := Nat.lt_of_lt_of_le hg' hb.size
        have hi0 : (0 : Int) ≤ (k : Int) := by omega
        have hi1 : (k : Int) < (es.length : Int) := by omega
        clear hcell hcell' hx
        go_wp2
        refine wp_region_tame (by kernel_rfl) (by kernel_rfl) (fun T _ W hT => ?_)
        have hy := hT.cell
        repeat (go_big_quiet_step ((go_at_call 74; exact hT.call (eqReport_same _ _ _ _ _ _ _ _))))
        refine wpQuiet_nil ?_
        intro t
        clear hy
        go_wp2
        go_roundw
        case rel => exact ⟨k + 1, by omega, by go_num, bthen hb (hT.below t)⟩
        case measure => simp [intOf]; omega
      · go_wp2
        go_ret
        exact ⟨rfl, hb⟩
set_option maxHeartbeats 400000 in
theorem szReportS_any (A : Option Addr) (n c : Nat) (left : Int) (w : World) (hn : n ≤ 9223372036854775807) (h0 : 0 ≤ left) (h1 : left ≤ 1048576) :
    Calls Tryd.prog 23 #[.slice A n c, .int .i64 left] w fun e w' => e = .returned (.int .i64 (szI left n)) ∧ w = w' := by
  unfold szI
  by_cases hs : left - (n : Int) < 0
  · rw [if_pos hs]
    go_enter Tryd.func23, Tryd.ntmps23
    go_wp2
    go_ret
    exact ⟨rfl, rfl⟩
  · rw [if_neg hs]
    go_enter Tryd.func23, Tryd.ntmps23
    go_wp2
    go_ret
    exact ⟨rfl, rfl⟩
theorem infoReport : (Tryd.prog.info? 97).map (fun i => (i.zero, i.size, i.bytes)) = some (some (.agg #[.int .i64 0, .int .i64 0, .int .i64 0, .int .i64 0, .int .i64 0, .int .i64 0, .int .i64 0]), 7, 56) := by kernel_rfl
set_option maxHeartbeats 1000000 in
theorem toReportS_any (v : Value) (es : List Rp) (w : World) (hv : Rd rpS w w.heap.size v es) (hlen : es.length ≤ 1048576) :
    Calls Tryd.prog 25 #[v] w fun e w' => ∃ v', e = .returned v' ∧ w'.ownsRow w.heap.size 97 7 v' es.length (rpS.flat es) ∧ Below w.heap.size w w' := by
  obtain ⟨i0, hi, hz0, hz1, hz2⟩ := info_parts infoReport
  obtain ⟨A, c, rfl, hc, hm, hA⟩ := hv
  unfold maxLen at hm
  have hmk : ∀ W : World, (Instr.makeSlice 43 (.int .i64 (es.length : Int)) (.int .i64 (es.length : Int))).run Tryd.prog W = .ok (.slice (some ⟨W.heap.size, 0, none⟩) es.length es.length) (W.alloc (.cells (madeCells #[.int .i64 0, .int .i64 0, .int .i64 0, .int .i64 0, .int .i64 0, .int .i64 0, .int .i64 0] (es.length * 7)) 97)) := by
    intro W
    have := run_make (P := Tryd.prog) W 43 97 i0 _ Tryd.underlying43 hi hz0 .i64 .i64 es.length es.length (by omega) (Int.le_refl _) (by rw [hz2]; omega) (by omega)
    rw [hz1, Int.toNat_natCast] at this
    exact this
  have hmade : ∀ W : World, W.heap.size = w.heap.size → (W.alloc (.cells (madeCells #[.int .i64 0, .int .i64 0, .int .i64 0, .int .i64 0, .int .i64 0, .int .i64 0, .int .i64 0] (es.length * 7)) 97)).ownsRow w.heap.size 97 7 (.slice (some ⟨w.heap.size, 0, none⟩) es.length es.length) es.length (madeCells #[.int .i64 0, .int .i64 0, .int .i64 0, .int .i64 0, .int .i64 0, .int .i64 0, .int .i64 0] (es.length * 7)).toList := by
    intro W hW
    rw [← hW]
    exact World.ownsRow_lit (base := W.heap.size) W _ es.length (Nat.le_refl _) (by unfold maxLen; omega) (size_madeCells _ _)
  have hZ : (madeCells #[.int .i64 0, .int .i64 0, .int .i64 0, .int .i64 0, .int .i64 0, .int .i64 0, .int .i64 0] (es.length * 7)).toList.length = es.length * 7 := by rw [Array.length_toList, size_madeCells]
  generalize madeCells #[.int .i64 0, .int .i64 0, .int .i64 0, .int .i64 0, .int .i64 0, .int .i64 0, .int .i64 0] (es.length * 7) = Z at hmk hmade hZ
  have hF : (rpS.flat es).length = es.length * 7 := Shape.length_flat es
  rcases Nat.eq_zero_or_pos es.length with h0 | h0
  · obtain rfl : es = [] := List.eq_nil_of_length_eq_zero h0
    have hmk0 := fun W => hmk W
    simp at hmk0
    go_enter Tryd.func25, Tryd.ntmps25
    go_wp2
    refine wp_loop_rounds 1 ?_
    rw [rounds_succ]
    go_wp2
    go_ret
    exact ⟨_, rfl, by
      obtain rfl : Z = #[] := by simpa using hZ
      simpa [Shape.flat] using hmade w rfl, by (repeat (with_reducible first | exact Below.refl _ _ | assumption | refine bal ?_ _ | refine bst ?_ (by simp <;> omega) _ | refine Below.drew ?_ | refine bthen ?_ (by assumption)))⟩
  · obtain ⟨g, off, rfl, hg, hcell⟩ := hA h0
    clear hA
    have hcell := rp_cells hcell
    have hgne : g < w.heap.size + 1 := Nat.lt_succ_of_lt hg
    go_enter Tryd.func25, Tryd.ntmps25
    go_wp2
    clear hmk
    have Hmade := Lib.hid (hmade w rfl); clear hmade
    have HZ := Lib.hid hZ; clear hZ
    have HF := Lib.hid hF; clear hF
    go_loopw [4] (fun i wr => ∃ k : Nat, k ≤ es.length ∧ i = .int .i64 k ∧ Below w.heap.size w wr ∧ wr.ownsRow w.heap.size 97 7 (.slice (some ⟨w.heap.size, 0, none⟩) es.length es.length) es.length (mix (rpS.flat es) Z.toList (k * 7))) (fun i _ => es.length - (intOf i).toNat)
    case atStart => exact ⟨0, Nat.zero_le _, rfl, bal (Below.refl _ _) _, by rw [Nat.zero_mul, mix_zero]; exact Hmade.out⟩
    case round =>
      obtain ⟨k, hk, rfl, hb, hown⟩ := hrel
      by_cases hlt : k < es.length
      · obtain ⟨f0, f1, f2, f3, f4, f5, f6⟩ := hcell k hlt
        rw [← hb.cell (p := ⟨_, _, _⟩) hg] at f0 f1 f2 f3 f4 f5 f6
        obtain ⟨x, hx⟩ : ∃ e, rpS.get es k = e := ⟨_, rfl⟩
        rw [hx] at f0 f1 f2 f3 f4 f5 f6
        have Hx := Lib.hid hx; clear hx
        clear hcell
        have Hown := Lib.hid hown; clear hown
        go_wp2_with fail
        refine (toReport_any _ _ _ _ _ _ _ _).mono ?_; rintro e w1 ⟨rfl, hb1⟩
        have hown1 := own_below Hown.out hb1
        have hfr := hown1.frozenAt
        obtain ⟨u0, hu0⟩ := own_cell hown1 (k * 7) (by omega)
        obtain ⟨u1, hu1⟩ := own_cell hown1 (k * 7 + 1) (by omega)
        obtain ⟨u2, hu2⟩ := own_cell hown1 (k * 7 + 2) (by omega)
        obtain ⟨u3, hu3⟩ := own_cell hown1 (k * 7 + 3) (by omega)
        obtain ⟨u4, hu4⟩ := own_cell hown1 (k * 7 + 4) (by omega)
        obtain ⟨u5, hu5⟩ := own_cell hown1 (k * 7 + 5) (by omega)
        obtain ⟨u6, hu6⟩ := own_cell hown1 (k * 7 + 6) (by omega)
        have Hown1 := Lib.hid hown1; clear hown1
        go_wp2
        go_roundw
        case rel =>
          refine ⟨k + 1, by omega, by go_num, ?_, ?_⟩
          · have hb2 := bthen hb hb1
            (repeat (with_reducible first | exact Below.refl _ _ | assumption | refine bal ?_ _ | refine bst ?_ (by simp <;> omega) _ | refine Below.drew ?_ | refine bthen ?_ (by assumption)))
          · have hl : Z.toList.length = (rpS.flat es).length := by rw [HZ.out, HF.out]
            have hat : ∀ j, j < 7 → (rpS.flat es)[k * 7 + j]? = some (rpS.cell (rpS.get es k) j) := fun j hj => Shape.flat_at es k j hlt hj
            rw [Hx.out] at hat
            have h_0 := Hown1.out
            have h_1 := (h_0.stored (k * 7) (rpS.cell x 0)).1
            rw [mix_set hl (show (rpS.flat es)[k * 7]? = some (rpS.cell x 0) from hat 0 (by decide))] at h_1
            have h_2 := (h_1.stored (k * 7 + 1) (rpS.cell x 1)).1
            rw [mix_set hl (hat 1 (by decide))] at h_2
            have h_3 := (h_2.stored (k * 7 + 2) (rpS.cell x 2)).1
            rw [mix_set hl (hat 2 (by decide))] at h_3
            have h_4 := (h_3.stored (k * 7 + 3) (rpS.cell x 3)).1
            rw [mix_set hl (hat 3 (by decide))] at h_4
            have h_5 := (h_4.stored (k * 7 + 4) (rpS.cell x 4)).1
            rw [mix_set hl (hat 4 (by decide))] at h_5
            have h_6 := (h_5.stored (k * 7 + 5) (rpS.cell x 5)).1
            rw [mix_set hl (hat 5 (by decide))] at h_6
            have h_7 := (h_6.stored (k * 7 + 6) (rpS.cell x 6)).1
            rw [mix_set hl (hat 6 (by decide))] at h_7
            rw [show (k + 1) * 7 = k * 7 + 7 by omega]
            exact h_7
        case measure => simp [intOf]; omega
      · have hke : k = es.length := by omega
        have Hke := Lib.hid hke; clear hke
        have Hown := Lib.hid hown; clear hown
        go_wp2
        go_ret
        refine ⟨_, rfl, ?_, hb⟩
        have := Hown.out
        rw [Hke.out, ← HF.out, mix_all _ _ (by rw [HZ.out, HF.out])] at this
        exact this
end Go.Proofs.YtegnommappmegaaDoor
