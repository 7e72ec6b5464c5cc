/- The laws' own helpers at slices of Curve: what they compute. Conditions: lengths of at most 1048576. -/
import Derived.Test.YtnhgdmhiblpknaaTo
import Derived.Test.YtnhgdmhiblpknaaBase2
namespace Go.Proofs.Ytnhgdmhiblpknaa
open Go Go.RowKit

set_option maxHeartbeats 800000 in
theorem eqCurve_same (a b : Int) (w : World) :
    Calls Try.prog 42 #[.agg #[.int .i64 a, .int .i64 b], .agg #[.int .i64 a, .int .i64 b]] w fun e w' => e = .returned (.bool true) ∧ Below w.heap.size w w' := by
  go_enter Try.func42, Try.ntmps42
  go_wp2_with fail
  go_ret
  exact ⟨rfl, by (repeat (with_reducible first | exact Below.refl _ _ | assumption | refine bal ?_ _ | refine bst ?_ (by simp <;> omega) _ | refine Below.drew ?_ | refine bthen ?_ (by assumption)))⟩
set_option maxHeartbeats 1000000 in
theorem eqCurveS_same (u v : Value) (es : List Cu) (w : World) (hu : Rd cuS w w.heap.size u es) (hv : Rd cuS w w.heap.size v es) :
    Calls Try.prog 10 #[u, v] w fun e w' => e = .returned (.bool true) ∧ Below w.heap.size w w' := by
  obtain ⟨A, c, rfl, hc, hm, hA⟩ := hu
  obtain ⟨A', c', rfl, hc', hm', hA'⟩ := hv
  unfold maxLen at hm hm'
  rcases Nat.eq_zero_or_pos es.length with h0 | h0
  · obtain rfl : es = [] := List.eq_nil_of_length_eq_zero h0
    go_enter Try.func10, Try.ntmps10
    go_wp2
    refine wp_loop_rounds 1 ?_
    rw [rounds_succ]
    go_wp2
    go_ret
    exact ⟨rfl, Below.refl _ _⟩
  · obtain ⟨g, off, rfl, hg, hcell⟩ := hA h0
    obtain ⟨g', off', rfl, hg', hcell'⟩ := hA' h0
    clear hA hA'
    have hcell := cu_cells hcell
    have hcell' := cu_cells hcell'
    go_enter Try.func10, Try.ntmps10
    go_wp2
    go_loopw [5] (fun i wr => ∃ k : Nat, k ≤ es.length ∧ i = .int .i64 k ∧ Below w.heap.size w wr) (fun i _ => es.length - (intOf i).toNat)
    case atStart => exact ⟨0, Nat.zero_le _, rfl, Below.refl _ _⟩
    case round =>
      obtain ⟨k, hk, rfl, hb⟩ := hrel
      by_cases hlt : k < es.length
      · obtain ⟨f0, f1⟩ := hcell k hlt
        obtain ⟨p0, p1⟩ := hcell' k hlt
        rw [← hb.cell (p := ⟨_, _, _⟩) hg] at f0 f1
        rw [← hb.cell (p := ⟨_, _, _⟩) hg'] at p0 p1
        obtain ⟨x, hx⟩ : ∃ e, cuS.get es k = e := ⟨_, rfl⟩
        rw [hx] at f0 f1 p0 p1
        have hgr : g < wr.heap.size := Nat.lt_of_lt_of_le hg hb.size
        have hgr' : g' < wr.heap.size := Nat.lt_of_lt_of_le hg' hb.size
        have hi0 : (0 : Int) ≤ (k : Int) := by omega
        have hi1 : (k : Int) < (es.length : Int) := by omega
        clear hcell hcell' hx
        go_wp2
        refine wp_region_tame (by kernel_rfl) (by kernel_rfl) (fun T _ W hT => ?_)
        have hy := hT.cell
        repeat (go_big_quiet_step ((go_at_call 42; exact hT.call (eqCurve_same _ _ _))))
        refine wpQuiet_nil ?_
        intro t
        clear hy
        go_wp2
        go_roundw
        case rel => exact ⟨k + 1, by omega, by go_num, bthen hb (hT.below t)⟩
        case measure => simp [intOf]; omega
      · go_wp2
        go_ret
        exact ⟨rfl, hb⟩
set_option maxHeartbeats 400000 in
theorem szCurveS_any (A : Option Addr) (n c : Nat) (left : Int) (w : World) (hn : n ≤ 9223372036854775807) (h0 : 0 ≤ left) (h1 : left ≤ 1048576) :
    Calls Try.prog 5 #[.slice A n c, .int .i64 left] w fun e w' => e = .returned (.int .i64 (szI left n)) ∧ w = w' := by
  unfold szI
  by_cases hs : left - (n : Int) < 0
  · rw [if_pos hs]
    go_enter Try.func5, Try.ntmps5
    go_wp2
    go_ret
    exact ⟨rfl, rfl⟩
  · rw [if_neg hs]
    go_enter Try.func5, Try.ntmps5
    go_wp2
    go_ret
    exact ⟨rfl, rfl⟩
theorem infoCurve : (Try.prog.info? 37).map (fun i => (i.zero, i.size, i.bytes)) = some (some (.agg #[.int .i64 0, .int .i64 0]), 2, 16) := by kernel_rfl
set_option maxHeartbeats 1000000 in
theorem toCurveS_any (v : Value) (es : List Cu) (w : World) (hv : Rd cuS w w.heap.size v es) (hlen : es.length ≤ 1048576) :
    Calls Try.prog 7 #[v] w fun e w' => ∃ v', e = .returned v' ∧ w'.ownsRow w.heap.size 37 2 v' es.length (cuS.flat es) ∧ Below w.heap.size w w' := by
  obtain ⟨i0, hi, hz0, hz1, hz2⟩ := info_parts infoCurve
  obtain ⟨A, c, rfl, hc, hm, hA⟩ := hv
  unfold maxLen at hm
  have hmk : ∀ W : World, (Instr.makeSlice 27 (.int .i64 (es.length : Int)) (.int .i64 (es.length : Int))).run Try.prog W = .ok (.slice (some ⟨W.heap.size, 0, none⟩) es.length es.length) (W.alloc (.cells (madeCells #[.int .i64 0, .int .i64 0] (es.length * 2)) 37)) := by
    intro W
    have := run_make (P := Try.prog) W 27 37 i0 _ Try.underlying27 hi hz0 .i64 .i64 es.length es.length (by omega) (Int.le_refl _) (by rw [hz2]; omega) (by omega)
    rw [hz1, Int.toNat_natCast] at this
    exact this
  have hmade : ∀ W : World, W.heap.size = w.heap.size → (W.alloc (.cells (madeCells #[.int .i64 0, .int .i64 0] (es.length * 2)) 37)).ownsRow w.heap.size 37 2 (.slice (some ⟨w.heap.size, 0, none⟩) es.length es.length) es.length (madeCells #[.int .i64 0, .int .i64 0] (es.length * 2)).toList := by
    intro W hW
    rw [← hW]
    exact World.ownsRow_lit (base := W.heap.size) W _ es.length (Nat.le_refl _) (by unfold maxLen; omega) (size_madeCells _ _)
  have hZ : (madeCells #[.int .i64 0, .int .i64 0] (es.length * 2)).toList.length = es.length * 2 := by rw [Array.length_toList, size_madeCells]
  generalize madeCells #[.int .i64 0, .int .i64 0] (es.length * 2) = Z at hmk hmade hZ
  have hF : (cuS.flat es).length = es.length * 2 := Shape.length_flat es
  rcases Nat.eq_zero_or_pos es.length with h0 | h0
  · obtain rfl : es = [] := List.eq_nil_of_length_eq_zero h0
    have hmk0 := fun W => hmk W
    simp at hmk0
    go_enter Try.func7, Try.ntmps7
    go_wp2
    refine wp_loop_rounds 1 ?_
    rw [rounds_succ]
    go_wp2
    go_ret
    exact ⟨_, rfl, by
      obtain rfl : Z = #[] := by simpa using hZ
      simpa [Shape.flat] using hmade w rfl, by (repeat (with_reducible first | exact Below.refl _ _ | assumption | refine bal ?_ _ | refine bst ?_ (by simp <;> omega) _ | refine Below.drew ?_ | refine bthen ?_ (by assumption)))⟩
  · obtain ⟨g, off, rfl, hg, hcell⟩ := hA h0
    clear hA
    have hcell := cu_cells hcell
    have hgne : g < w.heap.size + 1 := Nat.lt_succ_of_lt hg
    go_enter Try.func7, Try.ntmps7
    go_wp2
    clear hmk
    have Hmade := Lib.hid (hmade w rfl); clear hmade
    have HZ := Lib.hid hZ; clear hZ
    have HF := Lib.hid hF; clear hF
    go_loopw [4] (fun i wr => ∃ k : Nat, k ≤ es.length ∧ i = .int .i64 k ∧ Below w.heap.size w wr ∧ wr.ownsRow w.heap.size 37 2 (.slice (some ⟨w.heap.size, 0, none⟩) es.length es.length) es.length (mix (cuS.flat es) Z.toList (k * 2))) (fun i _ => es.length - (intOf i).toNat)
    case atStart => exact ⟨0, Nat.zero_le _, rfl, bal (Below.refl _ _) _, by rw [Nat.zero_mul, mix_zero]; exact Hmade.out⟩
    case round =>
      obtain ⟨k, hk, rfl, hb, hown⟩ := hrel
      by_cases hlt : k < es.length
      · obtain ⟨f0, f1⟩ := hcell k hlt
        rw [← hb.cell (p := ⟨_, _, _⟩) hg] at f0 f1
        obtain ⟨x, hx⟩ : ∃ e, cuS.get es k = e := ⟨_, rfl⟩
        rw [hx] at f0 f1
        have Hx := Lib.hid hx; clear hx
        clear hcell
        have Hown := Lib.hid hown; clear hown
        go_wp2_with fail
        refine (toCurve_any _ _ _).mono ?_; rintro e w1 ⟨rfl, hb1⟩
        have hown1 := own_below Hown.out hb1
        have hfr := hown1.frozenAt
        obtain ⟨u0, hu0⟩ := own_cell hown1 (k * 2) (by omega)
        obtain ⟨u1, hu1⟩ := own_cell hown1 (k * 2 + 1) (by omega)
        have Hown1 := Lib.hid hown1; clear hown1
        go_wp2
        go_roundw
        case rel =>
          refine ⟨k + 1, by omega, by go_num, ?_, ?_⟩
          · have hb2 := bthen hb hb1
            (repeat (with_reducible first | exact Below.refl _ _ | assumption | refine bal ?_ _ | refine bst ?_ (by simp <;> omega) _ | refine Below.drew ?_ | refine bthen ?_ (by assumption)))
          · have hl : Z.toList.length = (cuS.flat es).length := by rw [HZ.out, HF.out]
            have hat : ∀ j, j < 2 → (cuS.flat es)[k * 2 + j]? = some (cuS.cell (cuS.get es k) j) := fun j hj => Shape.flat_at es k j hlt hj
            rw [Hx.out] at hat
            have h_0 := Hown1.out
            have h_1 := (h_0.stored (k * 2) (cuS.cell x 0)).1
            rw [mix_set hl (show (cuS.flat es)[k * 2]? = some (cuS.cell x 0) from hat 0 (by decide))] at h_1
            have h_2 := (h_1.stored (k * 2 + 1) (cuS.cell x 1)).1
            rw [mix_set hl (hat 1 (by decide))] at h_2
            rw [show (k + 1) * 2 = k * 2 + 2 by omega]
            exact h_2
        case measure => simp [intOf]; omega
      · have hke : k = es.length := by omega
        have Hke := Lib.hid hke; clear hke
        have Hown := Lib.hid hown; clear hown
        go_wp2
        go_ret
        refine ⟨_, rfl, ?_, hb⟩
        have := Hown.out
        rw [Hke.out, ← HF.out, mix_all _ _ (by rw [HZ.out, HF.out])] at this
        exact this
set_option maxHeartbeats 1600000 in
theorem markCurveS_any (v : Value) (n : Nat) (xs : List Value) (k0 : Int) (base : Nat) (w : World) (ho : w.ownsRow base 37 2 v n xs) (hn : n ≤ 2097152) (h0 : 0 ≤ k0) (h1 : k0 ≤ 1099511627776) :
    Calls Try.prog 11 #[v, .int .i64 k0] w fun e w' => e = .returned (.int .i64 (k0 + ((n * 2 : Nat) : Int))) ∧ w'.ownsRow base 37 2 v n (marks k0 (n * 2)) ∧ w.grownBy w' v.ownBlock := by
  have hxl := ho.1
  rcases Nat.eq_zero_or_pos n with hz | hz
  · subst hz
    have hx : xs = marks k0 (0 * 2) := by
      have : xs = [] := List.eq_nil_of_length_eq_zero (by rw [hxl, Nat.zero_mul])
      rw [this, Nat.zero_mul]; rfl
    have hv : ∃ A c, v = .slice A 0 c := by
      rcases ho.2 with ⟨rfl, _⟩ | ⟨g, cap, cur, rfl, _⟩
      · exact ⟨_, _, rfl⟩
      · exact ⟨_, _, rfl⟩
    obtain ⟨A, c, rfl⟩ := hv
    have Ho := Lib.hid ho; clear ho
    clear hxl
    have Hx := Lib.hid hx; clear hx
    go_enter Try.func11, Try.ntmps11
    go_wp2
    refine wp_loop_rounds 1 ?_
    rw [rounds_succ]
    go_wp2
    go_ret
    exact ⟨ret_int (by simp), by rw [← Hx.out]; exact Ho.out, World.grownBy.refl _ _⟩
  · obtain ⟨g, cap, rfl, hb, hlt⟩ := ho.form hz
    have Ho := Lib.hid ho; clear ho
    have Hxl := Lib.hid hxl; clear hxl
    go_enter Try.func11, Try.ntmps11
    go_wp2
    go_loopw [1, 5] (fun q t wr => ∃ i : Nat, i ≤ n ∧ q = .int .i64 (k0 + ((i * 2 : Nat) : Int)) ∧ t = .int .i64 i ∧ wr.ownsRow base 37 2 (.slice (some ⟨g, 0, none⟩) n cap) n (part k0 (i * 2) xs) ∧ w.grownBy wr (some g)) (fun _ t _ => n - (intOf t).toNat)
    case atStart => exact ⟨0, Nat.zero_le _, by simp, rfl, by rw [Nat.zero_mul, part_zero]; exact Ho.out, World.grownBy.refl _ _⟩
    case round =>
      obtain ⟨i, hi, rfl, rfl, hown, hgr⟩ := hrel
      by_cases hit : i < n
      · have hfr := hown.frozenAt
        obtain ⟨u0, hu0⟩ := own_cell hown (i * 2) (by omega)
        obtain ⟨u1, hu1⟩ := own_cell hown (i * 2 + 1) (by omega)
        have Hown := Lib.hid hown; clear hown
        have i0 : (0 : Int) ≤ (i : Int) := by omega
        have i1 : (i : Int) < (n : Int) := by omega
        go_wp2
        go_roundw
        case rel =>
          have hl : xs.length = n * 2 := Hxl.out
          have h_0 := Hown.out
          have h_1 := (h_0.stored (i * 2) (.int .i64 (k0 + ((i * 2 : Nat) : Int)))).1
          rw [part_set k0 (i * 2) xs (by omega)] at h_1
          have h_2 := (h_1.stored (i * 2 + 1) (.int .i64 (k0 + ((i * 2 + 1 : Nat) : Int)))).1
          rw [part_set k0 (i * 2 + 1) xs (by omega)] at h_2
          refine ⟨i + 1, by omega, by go_num, by go_num, ?_, ?_⟩
          · rw [show (i + 1) * 2 = i * 2 + 2 by omega]
            have e0 : k0 + (i : Int) * 2 = k0 + ((i * 2 : Nat) : Int) := by omega
            have e1 : k0 + (i : Int) * 2 + 1 = k0 + ((i * 2 + 1 : Nat) : Int) := by omega
            rw [e1, e0]
            exact h_2
          · exact (only_cell (only_cell hgr))
        case measure => simp [intOf]; omega
      · have hin : i = n := by omega
        have Hin := Lib.hid hin; clear hin
        have Hown := Lib.hid hown; clear hown
        go_wp2
        go_ret
        refine ⟨ret_int (by rw [← Hin.out]), ?_, hgr⟩
        have := Hown.out
        have hl := Hxl.out
        rw [Hin.out, ← hl, part_all, hl] at this
        exact this
end Go.Proofs.Ytnhgdmhiblpknaa
