/- The walks of the functions that ask whether a list is reports. Conditions: none. -/
import Derived.Test.YtjnghjgfhlgbiaaDoorBase2
namespace Go.Proofs.YtjnghjgfhlgbiaaDoor
open Go Go.RowKit

set_option maxHeartbeats 1600000 in
theorem mrGood_any (v : Value) (es : List Rp) (w : World) (h : Rd rpS w w.heap.size v es) :
    Calls Tryd.prog 33 #[v] w fun e w' => e = .returned (.bool (repsB es)) ∧ Below w.heap.size w w' := by
  obtain ⟨A, c, rfl, hc, hm, hA⟩ := h
  unfold maxLen at hm
  rcases Nat.eq_zero_or_pos es.length with h0 | h0
  · obtain rfl : es = [] := List.eq_nil_of_length_eq_zero h0
    go_enter Tryd.func33, Tryd.ntmps33
    go_wp2
    refine wp_loop_rounds 1 ?_
    rw [rounds_succ]
    go_wp2
    go_ret
    exact ⟨rfl, Below.refl _ _⟩
  · obtain ⟨g, off, rfl, hg, hcell⟩ := hA h0
    clear hA
    have hcell := rp_cells hcell
    go_enter Tryd.func33, Tryd.ntmps33
    go_wp2
    go_loopw [7] (fun i wr => ∃ k : Nat, k ≤ es.length ∧ i = .int .i64 k ∧ (∀ j, j < k → okRAt es j = true) ∧ Below w.heap.size w wr) (fun i _ => es.length - (intOf i).toNat)
    case atStart => exact ⟨0, Nat.zero_le _, rfl, by omega, Below.refl _ _⟩
    case round =>
      obtain ⟨k, hk, rfl, hok, hb⟩ := hrel
      by_cases hlt : k < es.length
      · obtain ⟨f0, f1, f2, f3, f4, f5, f6⟩ := hcell k hlt
        rw [← hb.cell (p := ⟨_, _, _⟩) hg] at f0 f1 f2 f3 f4 f5 f6
        obtain ⟨ea, hea⟩ : ∃ e, rpS.get es k = e := ⟨_, rfl⟩
        rw [hea] at f0 f1 f2 f3 f4 f5 f6
        have Hea := Lib.hid hea; clear hea
        have hgr : g < wr.heap.size := Nat.lt_of_lt_of_le hg hb.size
        have hgr' : g < wr.heap.size + 1 := Nat.lt_succ_of_lt hgr
        have Hok := Lib.hid hok; clear hok
        cases he : repB ea.tm ea.mc ea.a ea.b ea.lo ea.hi ea.to
        · clear hcell
          go_wp2
          refine wp_region_tame (by kernel_rfl) (by kernel_rfl) (fun T _ W hT => ?_)
          have hx := hT.cell
          repeat (go_big_quiet_step ((go_at_call 34; exact hT.call (mrOne_any _ _ _ _ _ _ _ _))))
          refine wpQuiet_nil ?_
          intro x
          clear hx
          go_wp2
          go_ret
          refine ⟨?_, bthen (bal hb _) (hT.below x)⟩
          rw [repsB_false_at hlt (by unfold okRAt; rw [Hea.out, he]; rfl)]; rfl
        · have hcv := repB_tbd he
          rcases Nat.eq_zero_or_pos k with hk0 | hk0
          · have hd : decide (0 < k) = false := by simp; omega
            have hok' : okRAt es k = true := by unfold okRAt; rw [Hea.out, he, hk0]; rfl
            clear hcell hk0
            go_wp2
            refine wp_region_tame (by kernel_rfl) (by kernel_rfl) (fun T _ W hT => ?_)
            have hx := hT.cell
            repeat (go_big_quiet_step ((go_at_call 34; exact hT.call (mrOne_any _ _ _ _ _ _ _ _))))
            refine wpQuiet_nil ?_
            intro x
            clear hx
            go_wp2
            go_roundw
            case rel => exact ⟨k + 1, by omega, by go_num, all_lt_succ Hok.out hok', bthen (bal hb _) (hT.below x)⟩
            case measure => simp [intOf]; omega
          · obtain ⟨m, rfl⟩ : ∃ m, k = m + 1 := ⟨k - 1, by omega⟩
            obtain ⟨p0, p1, p2, p3, p4, p5, p6⟩ := hcell m (by omega)
            rw [← hb.cell (p := ⟨_, _, _⟩) hg] at p0 p1 p2 p3 p4 p5 p6
            obtain ⟨eb, heb⟩ : ∃ e, rpS.get es m = e := ⟨_, rfl⟩
            rw [heb] at p0 p1 p2 p3 p4 p5 p6
            have Heb := Lib.hid heb; clear heb
            have hbe : repB eb.tm eb.mc eb.a eb.b eb.lo eb.hi eb.to = true := by
              have := Hok.out m (by omega)
              unfold okRAt at this
              rw [Heb.out] at this
              simp only [Bool.and_eq_true] at this
              exact this.1
            have hcw := repB_tbd hbe
            clear hcell hbe
            have hd2 : decide ((0 : Int) < (m : Int) + 1) = true := by rw [decide_eq_true_eq]; omega
            have hi0 : (0 : Int) ≤ (m : Int) + 1 - 1 := by omega
            have hfin : okRAt es (m + 1) = !decide (0 ≤ cmpC eb.tm eb.mc ea.tm ea.mc) := by
              unfold okRAt
              rw [Nat.add_sub_cancel, Heb.out, Hea.out, he]
              by_cases h : cmpC eb.tm eb.mc ea.tm ea.mc < 0
              · have h' : ¬ 0 ≤ cmpC eb.tm eb.mc ea.tm ea.mc := by omega
                simp [h, h']
              · have h' : 0 ≤ cmpC eb.tm eb.mc ea.tm ea.mc := by omega
                simp [h, h']
            have Hfin := Lib.hid hfin; clear hfin
            cases hc1 : decide (0 ≤ cmpC eb.tm eb.mc ea.tm ea.mc)
            all_goals
              go_wp2
              refine wp_region_tame (by kernel_rfl) (by kernel_rfl) (fun T _ W hT => ?_)
              have hx := hT.cell
              repeat (go_big_quiet_step (first | (go_at_call 34; exact hT.call (mrOne_any _ _ _ _ _ _ _ _)) | (go_at_call 57; exact hT.call (mrOrder_any _ _ _ _ _ _ _ _ _ _ _ _ _ _ _ hcw.1 hcw.2 hcv.1 hcv.2))))
              refine wpQuiet_nil ?_
              intro x
              clear hx
              go_wp2
            · go_roundw
              case rel => exact ⟨m + 1 + 1, by omega, by go_num, all_lt_succ Hok.out (by rw [Hfin.out, hc1]; rfl), bthen (bal hb _) (hT.below x)⟩
              case measure => simp [intOf]; omega
            · go_ret
              refine ⟨?_, bthen (bal hb _) (hT.below x)⟩
              rw [repsB_false_at hlt (by rw [Hfin.out, hc1]; rfl)]; rfl
      · have : k = es.length := by omega
        go_wp2
        go_ret
        exact ⟨by rw [repsB_all (fun j hj => hok j (by omega))]; exact ret_bool (by simp [decide_eq_decide]; omega), hb⟩
set_option maxHeartbeats 1600000 in
theorem areReports_any (v : Value) (es : List Rp) (w : World) (h : Rd rpS w w.heap.size v es) :
    Calls Tryd.prog 27 #[v] w fun e w' => e = .returned (.bool (repsB es)) ∧ Below w.heap.size w w' := by
  obtain ⟨A, c, rfl, hc, hm, hA⟩ := h
  unfold maxLen at hm
  rcases Nat.eq_zero_or_pos es.length with h0 | h0
  · obtain rfl : es = [] := List.eq_nil_of_length_eq_zero h0
    go_enter Tryd.func27, Tryd.ntmps27
    go_wp2
    refine wp_loop_rounds 1 ?_
    rw [rounds_succ]
    go_wp2
    go_ret
    exact ⟨rfl, Below.refl _ _⟩
  · obtain ⟨g, off, rfl, hg, hcell⟩ := hA h0
    clear hA
    have hcell := rp_cells hcell
    go_enter Tryd.func27, Tryd.ntmps27
    go_wp2
    go_loopw [7] (fun i wr => ∃ k : Nat, k ≤ es.length ∧ i = .int .i64 k ∧ (∀ j, j < k → okRAt es j = true) ∧ Below w.heap.size w wr) (fun i _ => es.length - (intOf i).toNat)
    case atStart => exact ⟨0, Nat.zero_le _, rfl, by omega, Below.refl _ _⟩
    case round =>
      obtain ⟨k, hk, rfl, hok, hb⟩ := hrel
      by_cases hlt : k < es.length
      · obtain ⟨f0, f1, f2, f3, f4, f5, f6⟩ := hcell k hlt
        rw [← hb.cell (p := ⟨_, _, _⟩) hg] at f0 f1 f2 f3 f4 f5 f6
        obtain ⟨ea, hea⟩ : ∃ e, rpS.get es k = e := ⟨_, rfl⟩
        rw [hea] at f0 f1 f2 f3 f4 f5 f6
        have Hea := Lib.hid hea; clear hea
        have hgr : g < wr.heap.size := Nat.lt_of_lt_of_le hg hb.size
        have hgr' : g < wr.heap.size + 1 := Nat.lt_succ_of_lt hgr
        have Hok := Lib.hid hok; clear hok
        cases he : repB ea.tm ea.mc ea.a ea.b ea.lo ea.hi ea.to
        · clear hcell
          go_wp2
          refine wp_region_tame (by kernel_rfl) (by kernel_rfl) (fun T _ W hT => ?_)
          have hx := hT.cell
          repeat (go_big_quiet_step ((go_at_call 28; exact hT.call (isReport_any _ _ _ _ _ _ _ _))))
          refine wpQuiet_nil ?_
          intro x
          clear hx
          go_wp2
          go_ret
          refine ⟨?_, bthen (bal hb _) (hT.below x)⟩
          rw [repsB_false_at hlt (by unfold okRAt; rw [Hea.out, he]; rfl)]; rfl
        · have hcv := repB_tbd he
          rcases Nat.eq_zero_or_pos k with hk0 | hk0
          · have hd : decide (0 < k) = false := by simp; omega
            have hok' : okRAt es k = true := by unfold okRAt; rw [Hea.out, he, hk0]; rfl
            clear hcell hk0
            go_wp2
            refine wp_region_tame (by kernel_rfl) (by kernel_rfl) (fun T _ W hT => ?_)
            have hx := hT.cell
            repeat (go_big_quiet_step ((go_at_call 28; exact hT.call (isReport_any _ _ _ _ _ _ _ _))))
            refine wpQuiet_nil ?_
            intro x
            clear hx
            go_wp2
            go_roundw
            case rel => exact ⟨k + 1, by omega, by go_num, all_lt_succ Hok.out hok', bthen (bal hb _) (hT.below x)⟩
            case measure => simp [intOf]; omega
          · obtain ⟨m, rfl⟩ : ∃ m, k = m + 1 := ⟨k - 1, by omega⟩
            obtain ⟨p0, p1, p2, p3, p4, p5, p6⟩ := hcell m (by omega)
            rw [← hb.cell (p := ⟨_, _, _⟩) hg] at p0 p1 p2 p3 p4 p5 p6
            obtain ⟨eb, heb⟩ : ∃ e, rpS.get es m = e := ⟨_, rfl⟩
            rw [heb] at p0 p1 p2 p3 p4 p5 p6
            have Heb := Lib.hid heb; clear heb
            have hbe : repB eb.tm eb.mc eb.a eb.b eb.lo eb.hi eb.to = true := by
              have := Hok.out m (by omega)
              unfold okRAt at this
              rw [Heb.out] at this
              simp only [Bool.and_eq_true] at this
              exact this.1
            have hcw := repB_tbd hbe
            clear hcell hbe
            have hd2 : decide ((0 : Int) < (m : Int) + 1) = true := by rw [decide_eq_true_eq]; omega
            have hi0 : (0 : Int) ≤ (m : Int) + 1 - 1 := by omega
            have hfin : okRAt es (m + 1) = !decide (0 ≤ cmpC eb.tm eb.mc ea.tm ea.mc) := by
              unfold okRAt
              rw [Nat.add_sub_cancel, Heb.out, Hea.out, he]
              by_cases h : cmpC eb.tm eb.mc ea.tm ea.mc < 0
              · have h' : ¬ 0 ≤ cmpC eb.tm eb.mc ea.tm ea.mc := by omega
                simp [h, h']
              · have h' : 0 ≤ cmpC eb.tm eb.mc ea.tm ea.mc := by omega
                simp [h, h']
            have Hfin := Lib.hid hfin; clear hfin
            cases hc1 : decide (0 ≤ cmpC eb.tm eb.mc ea.tm ea.mc)
            all_goals
              go_wp2
              refine wp_region_tame (by kernel_rfl) (by kernel_rfl) (fun T _ W hT => ?_)
              have hx := hT.cell
              repeat (go_big_quiet_step (first | (go_at_call 28; exact hT.call (isReport_any _ _ _ _ _ _ _ _)) | (go_at_call 30; exact hT.call (compareReports_any _ _ _ _ _ _ _ _ _ _ _ _ _ _ _))))
              refine wpQuiet_nil ?_
              intro x
              clear hx
              go_wp2
            · go_roundw
              case rel => exact ⟨m + 1 + 1, by omega, by go_num, all_lt_succ Hok.out (by rw [Hfin.out, hc1]; rfl), bthen (bal hb _) (hT.below x)⟩
              case measure => simp [intOf]; omega
            · go_ret
              refine ⟨?_, bthen (bal hb _) (hT.below x)⟩
              rw [repsB_false_at hlt (by rw [Hfin.out, hc1]; rfl)]; rfl
      · have : k = es.length := by omega
        go_wp2
        go_ret
        exact ⟨by rw [repsB_all (fun j hj => hok j (by omega))]; exact ret_bool (by simp [decide_eq_decide]; omega), hb⟩
end Go.Proofs.YtjnghjgfhlgbiaaDoor
