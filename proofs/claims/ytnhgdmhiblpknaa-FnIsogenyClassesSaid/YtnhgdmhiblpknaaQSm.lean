/- Lists of ints and lists of such lists, held against each other by the laws. Conditions: none. -/
import Derived.Test.YtnhgdmhiblpknaaNest
import Derived.Test.YtnhgdmhiblpknaaSIntSS
import Derived.Test.YtnhgdmhiblpknaaBase2
import Derived.Deep.RegionHeld3
namespace Go.Proofs.Ytnhgdmhiblpknaa
open Go Go.RowKit

set_option maxHeartbeats 1000000 in
theorem sameI_same (u v : Value) (es : List Int) (w : World) (hu : Rd inS w w.heap.size u es) (hv : Rd inS w w.heap.size v es) :
    Calls Try.prog 51 #[u, v] w fun e w' => e = .returned (.bool true) ∧ Below w.heap.size w w' := by
  obtain ⟨A, c, rfl, hc, hm, hA⟩ := hu
  obtain ⟨A', c', rfl, hc', hm', hA'⟩ := hv
  unfold maxLen at hm hm'
  rcases Nat.eq_zero_or_pos es.length with h0 | h0
  · obtain rfl : es = [] := List.eq_nil_of_length_eq_zero h0
    go_enter Try.func51, Try.ntmps51
    go_wp2
    refine wp_loop_rounds 1 ?_
    rw [rounds_succ]
    go_wp2
    go_ret
    exact ⟨rfl, Below.refl _ _⟩
  · obtain ⟨g, off, rfl, hg, hcell⟩ := hA h0
    obtain ⟨g', off', rfl, hg', hcell'⟩ := hA' h0
    clear hA hA'
    have hcell := in_cells hcell
    have hcell' := in_cells hcell'
    go_enter Try.func51, Try.ntmps51
    go_wp2
    go_loopw [13] (fun i wr => ∃ k : Nat, k ≤ es.length ∧ i = .int .i64 k ∧ Below w.heap.size w wr) (fun i _ => es.length - (intOf i).toNat)
    case atStart => exact ⟨0, Nat.zero_le _, rfl, Below.refl _ _⟩
    case round =>
      obtain ⟨k, hk, rfl, hb⟩ := hrel
      by_cases hlt : k < es.length
      · have f0 := hcell k hlt
        have p0 := hcell' k hlt
        rw [← hb.cell (p := ⟨_, _, _⟩) hg] at f0
        rw [← hb.cell (p := ⟨_, _, _⟩) hg'] at p0
        obtain ⟨x, hx⟩ : ∃ e, inS.get es k = e := ⟨_, rfl⟩
        rw [hx] at f0 p0
        have hgr : g < wr.heap.size := Nat.lt_of_lt_of_le hg hb.size
        have hgr' : g' < wr.heap.size := Nat.lt_of_lt_of_le hg' hb.size
        have hi0 : (0 : Int) ≤ (k : Int) := by omega
        have hi1 : (k : Int) < (es.length : Int) := by omega
        clear hcell hcell' hx
        go_wp2
        refine wp_region_tame (by kernel_rfl) (by kernel_rfl) (fun T _ W hT => ?_)
        have hy := hT.cell
        repeat (go_big_quiet_step (fail))
        refine wpQuiet_nil ?_
        intro t
        clear hy
        go_wp2
        go_roundw
        case rel => exact ⟨k + 1, by omega, by go_num, bthen hb (hT.below t)⟩
        case measure => simp [intOf]; omega
      · go_wp2
        go_ret
        exact ⟨rfl, hb⟩
set_option maxHeartbeats 2000000 in
theorem sameL_same (u v : Value) (ess : List (List Int)) (w : World) (hu : NRd w w.heap.size u ess) (hv : NRd w w.heap.size v ess) :
    Calls Try.prog 21 #[u, v] w fun e w' => e = .returned (.bool true) ∧ Below w.heap.size w w' := by
  obtain ⟨us, hul, hu, hui⟩ := hu
  obtain ⟨vs, hvl, hv, hvi⟩ := hv
  obtain ⟨A, c, rfl, hc, hm, hA⟩ := hu
  obtain ⟨A', c', rfl, hc', hm', hA'⟩ := hv
  rw [hul] at hA hc ⊢
  rw [hvl] at hA' hc' ⊢
  unfold maxLen at hm hm'
  have Hui := Lib.hid hui; have Hvi := Lib.hid hvi
  clear hui hvi hul hvl
  rcases Nat.eq_zero_or_pos ess.length with h0 | h0
  · have h00 := Lib.hid h0
    rw [h0]
    clear hA hA' h0 hc hc'
    go_enter Try.func21, Try.ntmps21
    go_wp2
    refine wp_loop_rounds 1 ?_
    rw [rounds_succ]
    go_wp2
    go_ret
    exact ⟨rfl, Below.refl _ _⟩
  · obtain ⟨g, off, rfl, hg, hcell⟩ := hA h0
    obtain ⟨g', off', rfl, hg', hcell'⟩ := hA' h0
    clear hA hA'
    have hcell := sl_cells hcell
    have hcell' := sl_cells hcell'
    go_enter Try.func21, Try.ntmps21
    go_wp2
    go_loopw [13] (fun i wr => ∃ k : Nat, k ≤ ess.length ∧ i = .int .i64 k ∧ Below w.heap.size w wr) (fun i _ => ess.length - (intOf i).toNat)
    case atStart => exact ⟨0, Nat.zero_le _, rfl, Below.refl _ _⟩
    case round =>
      obtain ⟨k, hk, rfl, hb⟩ := hrel
      by_cases hlt : k < ess.length
      · have f0 := hcell k hlt
        have p0 := hcell' k hlt
        rw [← hb.cell (p := ⟨_, _, _⟩) hg] at f0
        rw [← hb.cell (p := ⟨_, _, _⟩) hg'] at p0
        have hr1 := (Hui.out k hlt).on hb
        have hr2 := (Hvi.out k hlt).on hb
        obtain ⟨x, hx⟩ : ∃ e, vat us k = e := ⟨_, rfl⟩
        obtain ⟨y, hy⟩ : ∃ e, vat vs k = e := ⟨_, rfl⟩
        rw [hx] at f0 hr1
        rw [hy] at p0 hr2
        have Hr1 := Lib.hid hr1; have Hr2 := Lib.hid hr2
        have hgr : g < wr.heap.size := Nat.lt_of_lt_of_le hg hb.size
        have hgr' : g' < wr.heap.size := Nat.lt_of_lt_of_le hg' hb.size
        have hi0 : (0 : Int) ≤ (k : Int) := by omega
        have hi1 : (k : Int) < (ess.length : Int) := by omega
        clear hcell hcell' hx hy hr1 hr2
        go_wp2
        refine wp_region_tame (by kernel_rfl) (by kernel_rfl) (fun T _ W hT => ?_)
        have hq := hT.cell
        repeat (go_big_quiet_step ((go_at_call 51; exact hT.call (sameI_same _ _ (cat' ess k) _ (Hr1.out.on (hT.below _)) (Hr2.out.on (hT.below _))))))
        refine wpQuiet_nil ?_
        intro t
        clear hq
        go_wp2
        go_roundw
        case rel => exact ⟨k + 1, by omega, by go_num, bthen hb (hT.below t)⟩
        case measure => simp [intOf]; omega
      · go_wp2
        go_ret
        exact ⟨rfl, hb⟩
end Go.Proofs.Ytnhgdmhiblpknaa
