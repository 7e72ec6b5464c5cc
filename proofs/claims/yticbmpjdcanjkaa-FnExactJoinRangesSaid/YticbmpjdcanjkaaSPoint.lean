/- The laws' own helpers at slices of Point: what they compute. Conditions: lengths of at most 1048576. -/
import Derived.Test.YticbmpjdcanjkaaTo
import Derived.Test.YticbmpjdcanjkaaBase2
namespace Go.Proofs.Yticbmpjdcanjkaa
open Go Go.RowKit

set_option maxHeartbeats 800000 in
theorem eqPoint_same (x y e : Int) (w : World) :
    Calls Try.prog 51 #[.agg #[.int .i64 x, .int .i64 y, .int .i64 e], .agg #[.int .i64 x, .int .i64 y, .int .i64 e]] w fun e w' => e = .returned (.bool true) ∧ Below w.heap.size w w' := by
  go_enter Try.func51, Try.ntmps51
  go_wp2_with fail
  go_ret
  exact ⟨rfl, by (repeat (with_reducible first | exact Below.refl _ _ | assumption | refine bal ?_ _ | refine bst ?_ (by simp <;> omega) _ | refine Below.drew ?_ | refine bthen ?_ (by assumption)))⟩
set_option maxHeartbeats 1000000 in
theorem eqPointS_same (u v : Value) (es : List Pt) (w : World) (hu : Rd ptS w w.heap.size u es) (hv : Rd ptS w w.heap.size v es) :
    Calls Try.prog 31 #[u, v] w fun e w' => e = .returned (.bool true) ∧ Below w.heap.size w w' := by
  obtain ⟨A, c, rfl, hc, hm, hA⟩ := hu
  obtain ⟨A', c', rfl, hc', hm', hA'⟩ := hv
  unfold maxLen at hm hm'
  rcases Nat.eq_zero_or_pos es.length with h0 | h0
  · obtain rfl : es = [] := List.eq_nil_of_length_eq_zero h0
    go_enter Try.func31, Try.ntmps31
    go_wp2
    refine wp_loop_rounds 1 ?_
    rw [rounds_succ]
    go_wp2
    go_ret
    exact ⟨rfl, Below.refl _ _⟩
  · obtain ⟨g, off, rfl, hg, hcell⟩ := hA h0
    obtain ⟨g', off', rfl, hg', hcell'⟩ := hA' h0
    clear hA hA'
    have hcell := pt_cells hcell
    have hcell' := pt_cells hcell'
    go_enter Try.func31, Try.ntmps31
    go_wp2
    go_loopw [5] (fun i wr => ∃ k : Nat, k ≤ es.length ∧ i = .int .i64 k ∧ Below w.heap.size w wr) (fun i _ => es.length - (intOf i).toNat)
    case atStart => exact ⟨0, Nat.zero_le _, rfl, Below.refl _ _⟩
    case round =>
      obtain ⟨k, hk, rfl, hb⟩ := hrel
      by_cases hlt : k < es.length
      · obtain ⟨f0, f1, f2⟩ := hcell k hlt
        obtain ⟨p0, p1, p2⟩ := hcell' k hlt
        rw [← hb.cell (p := ⟨_, _, _⟩) hg] at f0 f1 f2
        rw [← hb.cell (p := ⟨_, _, _⟩) hg'] at p0 p1 p2
        obtain ⟨x, hx⟩ : ∃ e, ptS.get es k = e := ⟨_, rfl⟩
        rw [hx] at f0 f1 f2 p0 p1 p2
        have hgr : g < wr.heap.size := Nat.lt_of_lt_of_le hg hb.size
        have hgr' : g' < wr.heap.size := Nat.lt_of_lt_of_le hg' hb.size
        have hi0 : (0 : Int) ≤ (k : Int) := by omega
        have hi1 : (k : Int) < (es.length : Int) := by omega
        clear hcell hcell' hx
        go_wp2
        refine wp_region_tame (by kernel_rfl) (by kernel_rfl) (fun T _ W hT => ?_)
        have hy := hT.cell
        repeat (go_big_quiet_step ((go_at_call 51; exact hT.call (eqPoint_same _ _ _ _))))
        refine wpQuiet_nil ?_
        intro t
        clear hy
        go_wp2
        go_roundw
        case rel => exact ⟨k + 1, by omega, by go_num, bthen hb (hT.below t)⟩
        case measure => simp [intOf]; omega
      · go_wp2
        go_ret
        exact ⟨rfl, hb⟩
set_option maxHeartbeats 400000 in
theorem szPointS_any (A : Option Addr) (n c : Nat) (left : Int) (w : World) (hn : n ≤ 9223372036854775807) (h0 : 0 ≤ left) (h1 : left ≤ 1048576) :
    Calls Try.prog 15 #[.slice A n c, .int .i64 left] w fun e w' => e = .returned (.int .i64 (szI left n)) ∧ w = w' := by
  unfold szI
  by_cases hs : left - (n : Int) < 0
  · rw [if_pos hs]
    go_enter Try.func15, Try.ntmps15
    go_wp2
    go_ret
    exact ⟨rfl, rfl⟩
  · rw [if_neg hs]
    go_enter Try.func15, Try.ntmps15
    go_wp2
    go_ret
    exact ⟨rfl, rfl⟩
theorem infoPoint : (Try.prog.info? 67).map (fun i => (i.zero, i.size, i.bytes)) = some (some (.agg #[.int .i64 0, .int .i64 0, .int .i64 0]), 3, 24) := by kernel_rfl
set_option maxHeartbeats 1000000 in
theorem toPointS_any (v : Value) (es : List Pt) (w : World) (hv : Rd ptS w w.heap.size v es) (hlen : es.length ≤ 1048576) :
    Calls Try.prog 21 #[v] w fun e w' => ∃ v', e = .returned v' ∧ w'.ownsRow w.heap.size 67 3 v' es.length (ptS.flat es) ∧ Below w.heap.size w w' := by
  obtain ⟨i0, hi, hz0, hz1, hz2⟩ := info_parts infoPoint
  obtain ⟨A, c, rfl, hc, hm, hA⟩ := hv
  unfold maxLen at hm
  have hmk : ∀ W : World, (Instr.makeSlice 31 (.int .i64 (es.length : Int)) (.int .i64 (es.length : Int))).run Try.prog W = .ok (.slice (some ⟨W.heap.size, 0, none⟩) es.length es.length) (W.alloc (.cells (madeCells #[.int .i64 0, .int .i64 0, .int .i64 0] (es.length * 3)) 67)) := by
    intro W
    have := run_make (P := Try.prog) W 31 67 i0 _ Try.underlying31 hi hz0 .i64 .i64 es.length es.length (by omega) (Int.le_refl _) (by rw [hz2]; omega) (by omega)
    rw [hz1, Int.toNat_natCast] at this
    exact this
  have hmade : ∀ W : World, W.heap.size = w.heap.size → (W.alloc (.cells (madeCells #[.int .i64 0, .int .i64 0, .int .i64 0] (es.length * 3)) 67)).ownsRow w.heap.size 67 3 (.slice (some ⟨w.heap.size, 0, none⟩) es.length es.length) es.length (madeCells #[.int .i64 0, .int .i64 0, .int .i64 0] (es.length * 3)).toList := by
    intro W hW
    rw [← hW]
    exact World.ownsRow_lit (base := W.heap.size) W _ es.length (Nat.le_refl _) (by unfold maxLen; omega) (size_madeCells _ _)
  have hZ : (madeCells #[.int .i64 0, .int .i64 0, .int .i64 0] (es.length * 3)).toList.length = es.length * 3 := by rw [Array.length_toList, size_madeCells]
  generalize madeCells #[.int .i64 0, .int .i64 0, .int .i64 0] (es.length * 3) = Z at hmk hmade hZ
  have hF : (ptS.flat es).length = es.length * 3 := Shape.length_flat es
  rcases Nat.eq_zero_or_pos es.length with h0 | h0
  · obtain rfl : es = [] := List.eq_nil_of_length_eq_zero h0
    have hmk0 := fun W => hmk W
    simp at hmk0
    go_enter Try.func21, Try.ntmps21
    go_wp2
    refine wp_loop_rounds 1 ?_
    rw [rounds_succ]
    go_wp2
    go_ret
    exact ⟨_, rfl, by
      obtain rfl : Z = #[] := by simpa using hZ
      simpa [Shape.flat] using hmade w rfl, by (repeat (with_reducible first | exact Below.refl _ _ | assumption | refine bal ?_ _ | refine bst ?_ (by simp <;> omega) _ | refine Below.drew ?_ | refine bthen ?_ (by assumption)))⟩
  · obtain ⟨g, off, rfl, hg, hcell⟩ := hA h0
    clear hA
    have hcell := pt_cells hcell
    have hgne : g < w.heap.size + 1 := Nat.lt_succ_of_lt hg
    go_enter Try.func21, Try.ntmps21
    go_wp2
    clear hmk
    have Hmade := Lib.hid (hmade w rfl); clear hmade
    have HZ := Lib.hid hZ; clear hZ
    have HF := Lib.hid hF; clear hF
    go_loopw [4] (fun i wr => ∃ k : Nat, k ≤ es.length ∧ i = .int .i64 k ∧ Below w.heap.size w wr ∧ wr.ownsRow w.heap.size 67 3 (.slice (some ⟨w.heap.size, 0, none⟩) es.length es.length) es.length (mix (ptS.flat es) Z.toList (k * 3))) (fun i _ => es.length - (intOf i).toNat)
    case atStart => exact ⟨0, Nat.zero_le _, rfl, bal (Below.refl _ _) _, by rw [Nat.zero_mul, mix_zero]; exact Hmade.out⟩
    case round =>
      obtain ⟨k, hk, rfl, hb, hown⟩ := hrel
      by_cases hlt : k < es.length
      · obtain ⟨f0, f1, f2⟩ := hcell k hlt
        rw [← hb.cell (p := ⟨_, _, _⟩) hg] at f0 f1 f2
        obtain ⟨x, hx⟩ : ∃ e, ptS.get es k = e := ⟨_, rfl⟩
        rw [hx] at f0 f1 f2
        have Hx := Lib.hid hx; clear hx
        clear hcell
        have Hown := Lib.hid hown; clear hown
        go_wp2_with fail
        refine (toPoint_any _ _ _ _).mono ?_; rintro e w1 ⟨rfl, hb1⟩
        have hown1 := own_below Hown.out hb1
        have hfr := hown1.frozenAt
        obtain ⟨u0, hu0⟩ := own_cell hown1 (k * 3) (by omega)
        obtain ⟨u1, hu1⟩ := own_cell hown1 (k * 3 + 1) (by omega)
        obtain ⟨u2, hu2⟩ := own_cell hown1 (k * 3 + 2) (by omega)
        have Hown1 := Lib.hid hown1; clear hown1
        go_wp2
        go_roundw
        case rel =>
          refine ⟨k + 1, by omega, by go_num, ?_, ?_⟩
          · have hb2 := bthen hb hb1
            (repeat (with_reducible first | exact Below.refl _ _ | assumption | refine bal ?_ _ | refine bst ?_ (by simp <;> omega) _ | refine Below.drew ?_ | refine bthen ?_ (by assumption)))
          · have hl : Z.toList.length = (ptS.flat es).length := by rw [HZ.out, HF.out]
            have hat : ∀ j, j < 3 → (ptS.flat es)[k * 3 + j]? = some (ptS.cell (ptS.get es k) j) := fun j hj => Shape.flat_at es k j hlt hj
            rw [Hx.out] at hat
            have h_0 := Hown1.out
            have h_1 := (h_0.stored (k * 3) (ptS.cell x 0)).1
            rw [mix_set hl (show (ptS.flat es)[k * 3]? = some (ptS.cell x 0) from hat 0 (by decide))] at h_1
            have h_2 := (h_1.stored (k * 3 + 1) (ptS.cell x 1)).1
            rw [mix_set hl (hat 1 (by decide))] at h_2
            have h_3 := (h_2.stored (k * 3 + 2) (ptS.cell x 2)).1
            rw [mix_set hl (hat 2 (by decide))] at h_3
            rw [show (k + 1) * 3 = k * 3 + 3 by omega]
            exact h_3
        case measure => simp [intOf]; omega
      · have hke : k = es.length := by omega
        have Hke := Lib.hid hke; clear hke
        have Hown := Lib.hid hown; clear hown
        go_wp2
        go_ret
        refine ⟨_, rfl, ?_, hb⟩
        have := Hown.out
        rw [Hke.out, ← HF.out, mix_all _ _ (by rw [HZ.out, HF.out])] at this
        exact this
set_option maxHeartbeats 1600000 in
theorem markPointS_any (v : Value) (n : Nat) (xs : List Value) (k0 : Int) (base : Nat) (w : World) (ho : w.ownsRow base 67 3 v n xs) (hn : n ≤ 2097152) (h0 : 0 ≤ k0) (h1 : k0 ≤ 1099511627776) :
    Calls Try.prog 33 #[v, .int .i64 k0] w fun e w' => e = .returned (.int .i64 (k0 + ((n * 3 : Nat) : Int))) ∧ w'.ownsRow base 67 3 v n (marks k0 (n * 3)) ∧ w.grownBy w' v.ownBlock := by
  have hxl := ho.1
  rcases Nat.eq_zero_or_pos n with hz | hz
  · subst hz
    have hx : xs = marks k0 (0 * 3) := by
      have : xs = [] := List.eq_nil_of_length_eq_zero (by rw [hxl, Nat.zero_mul])
      rw [this, Nat.zero_mul]; rfl
    have hv : ∃ A c, v = .slice A 0 c := by
      rcases ho.2 with ⟨rfl, _⟩ | ⟨g, cap, cur, rfl, _⟩
      · exact ⟨_, _, rfl⟩
      · exact ⟨_, _, rfl⟩
    obtain ⟨A, c, rfl⟩ := hv
    have Ho := Lib.hid ho; clear ho
    clear hxl
    have Hx := Lib.hid hx; clear hx
    go_enter Try.func33, Try.ntmps33
    go_wp2
    refine wp_loop_rounds 1 ?_
    rw [rounds_succ]
    go_wp2
    go_ret
    exact ⟨ret_int (by simp), by rw [← Hx.out]; exact Ho.out, World.grownBy.refl _ _⟩
  · obtain ⟨g, cap, rfl, hb, hlt⟩ := ho.form hz
    have Ho := Lib.hid ho; clear ho
    have Hxl := Lib.hid hxl; clear hxl
    go_enter Try.func33, Try.ntmps33
    go_wp2
    go_loopw [1, 5] (fun q t wr => ∃ i : Nat, i ≤ n ∧ q = .int .i64 (k0 + ((i * 3 : Nat) : Int)) ∧ t = .int .i64 i ∧ wr.ownsRow base 67 3 (.slice (some ⟨g, 0, none⟩) n cap) n (part k0 (i * 3) xs) ∧ w.grownBy wr (some g)) (fun _ t _ => n - (intOf t).toNat)
    case atStart => exact ⟨0, Nat.zero_le _, by simp, rfl, by rw [Nat.zero_mul, part_zero]; exact Ho.out, World.grownBy.refl _ _⟩
    case round =>
      obtain ⟨i, hi, rfl, rfl, hown, hgr⟩ := hrel
      by_cases hit : i < n
      · have hfr := hown.frozenAt
        obtain ⟨u0, hu0⟩ := own_cell hown (i * 3) (by omega)
        obtain ⟨u1, hu1⟩ := own_cell hown (i * 3 + 1) (by omega)
        obtain ⟨u2, hu2⟩ := own_cell hown (i * 3 + 2) (by omega)
        have Hown := Lib.hid hown; clear hown
        have i0 : (0 : Int) ≤ (i : Int) := by omega
        have i1 : (i : Int) < (n : Int) := by omega
        go_wp2
        go_roundw
        case rel =>
          have hl : xs.length = n * 3 := Hxl.out
          have h_0 := Hown.out
          have h_1 := (h_0.stored (i * 3) (.int .i64 (k0 + ((i * 3 : Nat) : Int)))).1
          rw [part_set k0 (i * 3) xs (by omega)] at h_1
          have h_2 := (h_1.stored (i * 3 + 1) (.int .i64 (k0 + ((i * 3 + 1 : Nat) : Int)))).1
          rw [part_set k0 (i * 3 + 1) xs (by omega)] at h_2
          have h_3 := (h_2.stored (i * 3 + 2) (.int .i64 (k0 + ((i * 3 + 2 : Nat) : Int)))).1
          rw [part_set k0 (i * 3 + 2) xs (by omega)] at h_3
          refine ⟨i + 1, by omega, by go_num, by go_num, ?_, ?_⟩
          · rw [show (i + 1) * 3 = i * 3 + 3 by omega]
            have e0 : k0 + (i : Int) * 3 = k0 + ((i * 3 : Nat) : Int) := by omega
            have e1 : k0 + (i : Int) * 3 + 1 = k0 + ((i * 3 + 1 : Nat) : Int) := by omega
            have e2 : k0 + (i : Int) * 3 + 1 + 1 = k0 + ((i * 3 + 2 : Nat) : Int) := by omega
            rw [e2, e1, e0]
            exact h_3
          · exact (only_cell (only_cell (only_cell hgr)))
        case measure => simp [intOf]; omega
      · have hin : i = n := by omega
        have Hin := Lib.hid hin; clear hin
        have Hown := Lib.hid hown; clear hown
        go_wp2
        go_ret
        refine ⟨ret_int (by rw [← Hin.out]), ?_, hgr⟩
        have := Hown.out
        have hl := Hxl.out
        rw [Hin.out, ← hl, part_all, hl] at this
        exact this
set_option maxRecDepth 8000 in
set_option maxHeartbeats 1600000 in
theorem heldPointS_any (v : Value) (n : Nat) (k0 : Int) (base : Nat) (w : World) (ho : w.ownsRow base 67 3 v n (marks k0 (n * 3))) (hn : n ≤ 2097152) (h0 : 0 ≤ k0) (h1 : k0 ≤ 1099511627776) :
    Calls Try.prog 35 #[v, .int .i64 k0] w fun e w' => e = .returned (.int .i64 (k0 + ((n * 3 : Nat) : Int))) ∧ w = w' := by
  rcases Nat.eq_zero_or_pos n with hz | hz
  · subst hz
    have hv : ∃ A c, v = .slice A 0 c := by
      rcases ho.2 with ⟨rfl, _⟩ | ⟨g, cap, cur, rfl, _⟩
      · exact ⟨_, _, rfl⟩
      · exact ⟨_, _, rfl⟩
    obtain ⟨A, c, rfl⟩ := hv
    clear ho
    go_enter Try.func35, Try.ntmps35
    go_wp2
    refine wp_loop_rounds 1 ?_
    rw [rounds_succ]
    go_wp2
    go_ret
    exact ⟨ret_int (by simp), rfl⟩
  · obtain ⟨g, cap, rfl, hb, hlt⟩ := ho.form hz
    have Ho := Lib.hid ho; clear ho
    go_enter Try.func35, Try.ntmps35
    go_wp2
    go_loop [1, 5] (fun q t => ∃ i : Nat, i ≤ n ∧ q = .int .i64 (k0 + ((i * 3 : Nat) : Int)) ∧ t = .int .i64 i) (fun _ t => n - (intOf t).toNat)
    case atStart => exact ⟨0, Nat.zero_le _, by simp, rfl⟩
    case round =>
      obtain ⟨i, hi, rfl, rfl⟩ := hrel
      by_cases hit : i < n
      · have i0 : (0 : Int) ≤ (i : Int) := by omega
        have i1 : (i : Int) < (n : Int) := by omega
        have q0 : w.cell? ⟨g, i * 3, none⟩ = some (.int .i64 (k0 + (i : Int) * 3)) := by
          rw [Ho.out.cellAt (i * 3) (by omega), marks_at k0 _ (i * 3) (by omega)] <;> (congr 2 <;> omega)
        have q1 : w.cell? ⟨g, i * 3 + 1, none⟩ = some (.int .i64 (k0 + (i : Int) * 3 + 1)) := by
          rw [Ho.out.cellAt (i * 3 + 1) (by omega), marks_at k0 _ (i * 3 + 1) (by omega)] <;> (congr 2 <;> omega)
        have q2 : w.cell? ⟨g, i * 3 + 2, none⟩ = some (.int .i64 (k0 + (i : Int) * 3 + 1 + 1)) := by
          rw [Ho.out.cellAt (i * 3 + 2) (by omega), marks_at k0 _ (i * 3 + 2) (by omega)] <;> (congr 2 <;> omega)
        go_wp2
        go_round
        case rel => exact ⟨i + 1, by omega, by go_num, by go_num⟩
        case measure => simp [intOf]; omega
      · have hin : i = n := by omega
        have Hin := Lib.hid hin; clear hin
        go_wp2
        go_ret
        exact ⟨ret_int (by rw [← Hin.out]), rfl⟩
end Go.Proofs.Yticbmpjdcanjkaa
