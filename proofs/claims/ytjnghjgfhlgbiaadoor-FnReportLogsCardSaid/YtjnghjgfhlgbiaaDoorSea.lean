/- slices.BinarySearchFunc over reports. Conditions: none. -/
import Derived.Test.YtjnghjgfhlgbiaaDoorFind
import Derived.Test.YtjnghjgfhlgbiaaDoorBy
namespace Go.Proofs.YtjnghjgfhlgbiaaDoor
open Go Go.RowKit

def placeR (es : List Rp) (t m : Int) : Nat := lead (fun k => decide (cmpC (rpS.get es k).tm (rpS.get es k).mc t m < 0)) es.length 0
set_option maxRecDepth 8000 in
set_option maxHeartbeats 4000000 in
theorem searchRp_any (v : Value) (es : List Rp) (y : Rp) (w : World) (h : Rd rpS w w.heap.size v es) (hlen : es.length ≤ 1048576) (hmono : ∀ i j, i ≤ j → j < es.length → cmpC (rpS.get es (j)).tm (rpS.get es (j)).mc y.tm y.mc < 0 → cmpC (rpS.get es (i)).tm (rpS.get es (i)).mc y.tm y.mc < 0) :
    Calls Tryd.prog 29 #[v, .agg #[.int .i64 y.tm, .int .i64 y.mc, .int .i64 y.a, .int .i64 y.b, .int .i64 y.lo, .int .i64 y.hi, .int .i64 y.to], .func (Fn.func 30) #[] #[]] w fun r w' =>
      r = .returned (.tuple #[.int .i64 (placeR es y.tm y.mc), .bool (decide (placeR es y.tm y.mc < es.length) && decide (cmpC (rpS.get es (placeR es y.tm y.mc)).tm (rpS.get es (placeR es y.tm y.mc)).mc y.tm y.mc = 0))]) ∧ Below w.heap.size w w' := by
  obtain ⟨A, c, rfl, hcc, hm, hA⟩ := h
  unfold maxLen at hm
  have Hmono := Lib.hid hmono; clear hmono
  have hbox : Blk _ w.heap.size 30 #[.int .i64 y.tm, .int .i64 y.mc, .int .i64 y.a, .int .i64 y.b, .int .i64 y.lo, .int .i64 y.hi, .int .i64 y.to] := Blk.new w _ _
  have Hbox := Lib.hid hbox; clear hbox
  rcases Nat.eq_zero_or_pos es.length with h0 | h0
  · obtain rfl : es = [] := List.eq_nil_of_length_eq_zero h0
    clear hA
    have hp : placeR ([] : List Rp) y.tm y.mc = 0 := rfl
    have Hp := Lib.hid hp; clear hp
    go_enter Tryd.func29, Tryd.ntmps29
    go_wp2
    refine wp_loop_rounds 1 ?_
    rw [rounds_succ]
    go_wp2
    refine wp_region_tame (by kernel_rfl) (by kernel_rfl) (fun T _ W hT => ?_)
    have hx := hT.cell
    repeat (go_big_quiet_step (fail))
    refine wpQuiet_nil ?_
    intro x
    clear hx
    go_wp2
    go_ret2
    exact ⟨by rw [Hp.out]; rfl, bthen (bal (Below.refl _ _) _) (hT.below x)⟩
  · obtain ⟨g, off, rfl, hg, hcell⟩ := hA h0
    clear hA
    have hcell := rp_cells hcell
    go_enter Tryd.func29, Tryd.ntmps29
    go_wp2
    go_loopw [9, 10] (fun s9 s10 wr => ∃ lo hi : Nat, s9 = .int .i64 lo ∧ s10 = .int .i64 hi ∧ lo ≤ hi ∧ hi ≤ es.length ∧ (∀ j, j < lo → cmpC (rpS.get es (j)).tm (rpS.get es (j)).mc y.tm y.mc < 0) ∧ (∀ j, hi ≤ j → j < es.length → ¬ cmpC (rpS.get es (j)).tm (rpS.get es (j)).mc y.tm y.mc < 0) ∧ Below w.heap.size w wr ∧ Blk wr w.heap.size 30 #[.int .i64 y.tm, .int .i64 y.mc, .int .i64 y.a, .int .i64 y.b, .int .i64 y.lo, .int .i64 y.hi, .int .i64 y.to]) (fun s9 s10 _ => (intOf s10).toNat - (intOf s9).toNat)
    case atStart => exact ⟨0, es.length, rfl, rfl, Nat.zero_le _, Nat.le_refl _, by omega, by omega, bal (Below.refl _ _) _, Hbox.out⟩
    case round =>
      obtain ⟨lo, hi, rfl, rfl, hlh, hin, hlow, hhigh, hb, hblk⟩ := hrel
      have Hlow := Lib.hid hlow; clear hlow
      have Hhigh := Lib.hid hhigh; clear hhigh
      have q0 := hblk.cell 0
      have q1 := hblk.cell 1
      have q2 := hblk.cell 2
      have q3 := hblk.cell 3
      have q4 := hblk.cell 4
      have q5 := hblk.cell 5
      have q6 := hblk.cell 6
      have ql := hblk.lt
      have Hblk := Lib.hid hblk; clear hblk
      by_cases hlt : lo < hi
      · obtain ⟨f0, f1, f2, f3, f4, f5, f6⟩ := hcell ((lo + hi) / 2) (by omega)
        rw [← hb.cell (p := ⟨_, _, _⟩) hg] at f0 f1 f2 f3 f4 f5 f6
        have hgr : g < wr.heap.size := Nat.lt_of_lt_of_le hg hb.size
        generalize hx : rpS.get es ((lo + hi) / 2) = x at f0 f1 f2 f3 f4 f5 f6
        have Hx := Lib.hid hx; clear hx
        have hi0 : (0 : Int) ≤ ((lo + hi) / 2 : Int) := by omega
        have hi1 : ((lo + hi) / 2 : Int) < (es.length : Int) := by omega
        clear hcell
        cases hd : decide (cmpC x.tm x.mc y.tm y.mc < 0)
        · have Hd := Lib.hid (of_decide_eq_false hd)
          go_wp2
          refine wp_region_tame (by kernel_rfl) (by kernel_rfl) (fun T _ W hT => ?_)
          have hx := hT.cell
          repeat (go_big_quiet_step ((go_at_call 30; exact hT.call (compareReports_any _ _ _ _ _ _ _ _ _ _ _ _ _ _ _))))
          refine wpQuiet_nil ?_
          intro t
          clear hx
          go_wp2
          go_roundw
          case rel =>
            refine ⟨lo, (lo + hi) / 2, rfl, by go_num, by omega, by omega, Hlow.out, fun j h1 h2 h3 => ?_, bthen hb (hT.below t), Hblk.out.on (hT.below t)⟩
            have := Hmono.out ((lo + hi) / 2) j h1 h2 h3
            rw [Hx.out] at this
            have h5 := Hd.out
            omega
          case measure => simp [intOf]; omega
        · have Hd := Lib.hid (of_decide_eq_true hd)
          go_wp2
          refine wp_region_tame (by kernel_rfl) (by kernel_rfl) (fun T _ W hT => ?_)
          have hx := hT.cell
          repeat (go_big_quiet_step ((go_at_call 30; exact hT.call (compareReports_any _ _ _ _ _ _ _ _ _ _ _ _ _ _ _))))
          refine wpQuiet_nil ?_
          intro t
          clear hx
          go_wp2
          go_roundw
          case rel =>
            refine ⟨(lo + hi) / 2 + 1, hi, by go_num, rfl, by omega, by omega, fun j h1 => ?_, fun j h1 h2 => by have := Hhigh.out j h1 h2; omega, bthen hb (hT.below t), Hblk.out.on (hT.below t)⟩
            exact Hmono.out j ((lo + hi) / 2) (by omega) (by omega) (by rw [Hx.out]; exact Hd.out)
          case measure => simp [intOf]; omega
      · obtain rfl : hi = lo := by omega
        have hp : placeR es y.tm y.mc = hi := lead_eq _ _ _ hin (fun j hj => decide_eq_true (Hlow.out j hj)) (fun h => decide_eq_false (Hhigh.out hi (Nat.le_refl _) h))
        have Hp := Lib.hid hp; clear hp
        by_cases hn : hi < es.length
        · obtain ⟨f0, f1, f2, f3, f4, f5, f6⟩ := hcell hi hn
          rw [← hb.cell (p := ⟨_, _, _⟩) hg] at f0 f1 f2 f3 f4 f5 f6
          have hgr : g < wr.heap.size := Nat.lt_of_lt_of_le hg hb.size
          generalize hx : rpS.get es hi = x at f0 f1 f2 f3 f4 f5 f6
          have Hx := Lib.hid hx; clear hx
          have hi0 : (0 : Int) ≤ (hi : Int) := by omega
          have hi1 : (hi : Int) < (es.length : Int) := by omega
          clear hcell
          go_wp2
          refine wp_region_tame (by kernel_rfl) (by kernel_rfl) (fun T _ W hT => ?_)
          have hx := hT.cell
          repeat (go_big_quiet_step ((go_at_call 30; exact hT.call (compareReports_any _ _ _ _ _ _ _ _ _ _ _ _ _ _ _))))
          refine wpQuiet_nil ?_
          intro t
          clear hx
          go_wp2
          go_ret2
          exact ⟨by rw [Hp.out, Hx.out, decide_eq_true hn, Bool.true_and]; rfl, bthen hb (hT.below t)⟩
        · clear hcell
          have hd : decide (hi < es.length) = false := decide_eq_false hn
          go_wp2
          refine wp_region_tame (by kernel_rfl) (by kernel_rfl) (fun T _ W hT => ?_)
          have hx := hT.cell
          repeat (go_big_quiet_step (fail))
          refine wpQuiet_nil ?_
          intro t
          clear hx
          go_wp2
          go_ret2
          exact ⟨by rw [Hp.out, hd, Bool.false_and]; rfl, bthen hb (hT.below t)⟩
end Go.Proofs.YtjnghjgfhlgbiaaDoor
