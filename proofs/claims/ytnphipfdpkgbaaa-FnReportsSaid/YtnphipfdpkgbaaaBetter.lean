/- IsBetter of the reference and of the program. Conditions: none. -/
import Derived.Test.YtnphipfdpkgbaaaFind2
namespace Go.Proofs.Ytnphipfdpkgbaaa
open Go Go.RowKit

def sayB (y x : En) : Bool := !decide (y.lo < x.lo) && !decide (x.hi < y.hi) && !(!decide (x.to = 0) && !decide (y.to = x.to))
def hasB (xs : List En) (x : En) : Bool := decide (firstN xs x.a x.b < xs.length) && sayB (enS.get xs (firstN xs x.a x.b)) x
def betV (xs bs : List En) : Bool × Bool := if catB xs && catB bs then ((List.range bs.length).all (fun k => hasB xs (enS.get bs k)), true) else (false, false)
theorem betV_badA {xs bs : List En} (h : catB xs = false) : betV xs bs = (false, false) := by unfold betV; rw [h]; rfl
theorem betV_badB {xs bs : List En} (h : catB bs = false) : betV xs bs = (false, false) := by unfold betV; rw [h, Bool.and_false]; rfl
theorem betV_no {xs bs : List En} (ha : catB xs = true) (hb : catB bs = true) {k : Nat} (hk : k < bs.length) (h : hasB xs (enS.get bs k) = false) : betV xs bs = (false, true) := by
  unfold betV
  rw [ha, hb, Bool.true_and, if_pos rfl, Prod.mk.injEq]
  refine ⟨?_, rfl⟩
  rw [List.all_eq_false]
  exact ⟨k, List.mem_range.2 hk, by rw [h]; simp⟩
theorem betV_yes {xs bs : List En} (ha : catB xs = true) (hb : catB bs = true) (h : ∀ k, k < bs.length → hasB xs (enS.get bs k) = true) : betV xs bs = (true, true) := by
  unfold betV
  rw [ha, hb, Bool.true_and, if_pos rfl, Prod.mk.injEq]
  refine ⟨?_, rfl⟩
  rw [List.all_eq_true]
  exact fun k hk => h k (List.mem_range.1 hk)
theorem hasB_out {xs : List En} {x : En} (h : ¬ firstN xs x.a x.b < xs.length) : hasB xs x = false := by unfold hasB; rw [decide_eq_false h]; rfl
theorem hasB_in {xs : List En} {x : En} (h : firstN xs x.a x.b < xs.length) : hasB xs x = sayB (enS.get xs (firstN xs x.a x.b)) x := by unfold hasB; rw [decide_eq_true h]; rfl

set_option maxHeartbeats 4000000 in
theorem implBetter_any (va : Value) (xs : List En) (vb : Value) (bs : List En) (w : World) (ha : Rd enS w w.heap.size va xs) (hb : Rd enS w w.heap.size vb bs) :
    Calls Try.prog 11 #[va, vb] w fun r w' => (∃ y b : Bool, r = .returned (.tuple #[.bool y, .bool b]) ∧ betV xs bs = (y, b)) ∧ Below w.heap.size w w' := by
  have ha2 := ha
  have hb2 := hb
  obtain ⟨A, c, rfl, hcc, hm, hA⟩ := ha
  obtain ⟨B, d, rfl, hcd, hmd, hB⟩ := hb
  unfold maxLen at hm hmd
  have Ha := Lib.hid ha2; clear ha2
  have Hb := Lib.hid hb2; clear hb2
  cases hca : catB xs
  · skip
    go_enter Try.func11, Try.ntmps11
    go_wp2_with fail
    refine (isCatalogue_any _ xs _ Ha.out).mono ?_; rintro e w1 ⟨rfl, hb1⟩
    rw [hca]
    go_wp2
    go_ret2
    exact ⟨⟨false, false, rfl, betV_badA hca⟩, hb1⟩
  · cases hcb : catB bs
    · skip
      go_enter Try.func11, Try.ntmps11
      go_wp2_with fail
      refine (isCatalogue_any _ xs _ Ha.out).mono ?_; rintro e w1 ⟨rfl, hb1⟩
      rw [hca]
      go_wp2_with fail
      refine (isCatalogue_any _ bs _ (Hb.out.on hb1)).mono ?_; rintro e w2 ⟨rfl, hb2⟩
      rw [hcb]
      replace hb2 := bthen hb1 hb2
      clear hb1
      go_wp2
      go_ret2
      exact ⟨⟨false, false, rfl, betV_badB hcb⟩, hb2⟩
    · have Hva := Lib.hid (catB_spec hca).2
      have Hvb := Lib.hid (catB_spec hcb).2
      rcases Nat.eq_zero_or_pos bs.length with h0 | h0
      · have Hfin := Lib.hid (betV_yes hca hcb (fun k hk => by omega))
        obtain rfl : bs = [] := List.eq_nil_of_length_eq_zero h0
        clear hA hB h0
        go_enter Try.func11, Try.ntmps11
        go_wp2_with fail
        refine (isCatalogue_any _ xs _ Ha.out).mono ?_; rintro e w1 ⟨rfl, hb1⟩
        rw [hca]
        go_wp2_with fail
        refine (isCatalogue_any _ [] _ (Hb.out.on hb1)).mono ?_; rintro e w2 ⟨rfl, hb2⟩
        rw [hcb]
        replace hb2 := bthen hb1 hb2
        clear hb1
        go_wp2
        refine wp_loop_rounds 1 ?_
        rw [rounds_succ]
        go_wp2
        go_ret2
        exact ⟨⟨true, true, rfl, Hfin.out⟩, hb2⟩
      · obtain ⟨g, off, rfl, hg, hcell⟩ := hB h0
        clear hB
        have hcell := en_cells hcell
        go_enter Try.func11, Try.ntmps11
        go_wp2_with fail
        refine (isCatalogue_any _ xs _ Ha.out).mono ?_; rintro e w1 ⟨rfl, hb1⟩
        rw [hca]
        go_wp2_with fail
        refine (isCatalogue_any _ bs _ (Hb.out.on hb1)).mono ?_; rintro e w2 ⟨rfl, hb2⟩
        rw [hcb]
        replace hb2 := bthen hb1 hb2
        clear hb1
        go_wp2
        go_loopw [20] (fun i wr => ∃ k : Nat, k ≤ bs.length ∧ i = .int .i64 k ∧ (∀ j, j < k → hasB xs (enS.get bs j) = true) ∧ Below w.heap.size w wr) (fun i _ => bs.length - (intOf i).toNat)
        case atStart => exact ⟨0, Nat.zero_le _, rfl, by omega, hb2⟩
        case round =>
          obtain ⟨k, hk, rfl, hok, hbw⟩ := hrel
          clear hb2
          have Hok := Lib.hid hok; clear hok
          by_cases hlt : k < bs.length
          · obtain ⟨f0, f1, f2, f3, f4⟩ := hcell k hlt
            rw [← hbw.cell (p := ⟨_, _, _⟩) hg] at f0 f1 f2 f3 f4
            have hok2 := okAt_ent (Hvb.out k hlt)
            have hcu := entB_curve hok2
            have hto := (entB_bd hok2).2.2.2.1
            clear hok2
            have Hno := Lib.hid (betV_no hca hcb hlt)
            have Hs := Lib.hid (fun (h : hasB xs (enS.get bs k) = true) => all_lt_succ Hok.out h)
            generalize enS.get bs k = x at f0 f1 f2 f3 f4 hcu hto Hno Hs
            have Hcu := Lib.hid hcu; clear hcu
            have hgr : g < wr.heap.size := Nat.lt_of_lt_of_le hg hbw.size
            have hi0 : (0 : Int) ≤ (k : Int) := by omega
            have hi1 : (k : Int) < (bs.length : Int) := by omega
            clear hcell
            have hbox : Blk _ wr.heap.size 36 #[.int .i64 x.a, .int .i64 x.b, .int .i64 x.lo, .int .i64 x.hi, .int .i64 x.to] := Blk.new wr _ _
            go_wp2_with fail
            refine (entryAt_any _ xs x.a x.b _ (Ha.out.on (bal hbw _))).mono ?_; rintro e w3 ⟨⟨q, kk, rfl, hkk, hq⟩, hb3⟩
            replace hbox := hbox.on hb3
            replace hb3 := bthen (bal hbw _) hb3
            rw [hca, Bool.true_and] at hkk
            have q0 : w3.cell? ⟨wr.heap.size, 0, none⟩ = some (.int .i64 x.a) := hbox.cell 0
            have q1 : w3.cell? ⟨wr.heap.size, 1, none⟩ = some (.int .i64 x.b) := hbox.cell 1
            have q2 : w3.cell? ⟨wr.heap.size, 2, none⟩ = some (.int .i64 x.lo) := hbox.cell 2
            have q3 : w3.cell? ⟨wr.heap.size, 3, none⟩ = some (.int .i64 x.hi) := hbox.cell 3
            have q4 : w3.cell? ⟨wr.heap.size, 4, none⟩ = some (.int .i64 x.to) := hbox.cell 4
            have ql := hbox.lt
            clear hbox
            cases kk
            · have Hy := Lib.hid (hasB_out (of_decide_eq_false hkk.symm)); clear hkk hq hA
              go_wp2
              refine wp_region_tame (by kernel_rfl) (by kernel_rfl) (fun T _ W hT => ?_)
              have hx := hT.cell
              repeat (go_big_quiet_step (fail))
              refine wpQuiet_nil ?_
              intro t
              clear hx
              go_wp2
              go_ret2
              exact ⟨⟨false, true, rfl, Hno.out Hy.out⟩, bthen hb3 (hT.below t)⟩
            · have hpl := of_decide_eq_true hkk.symm
              obtain rfl := hq hpl
              have Hy := Lib.hid (hasB_in hpl)
              clear hkk hq
              have hPl : ∃ p, firstN xs x.a x.b = p := ⟨_, rfl⟩
              obtain ⟨p, hp⟩ := hPl
              rw [hp] at hpl Hy ⊢
              clear hp
              obtain ⟨g2, off2, rfl, hg2, hcell2⟩ := hA (by omega)
              clear hA
              obtain ⟨y0, y1, y2, y3, y4⟩ := en_cells hcell2 p hpl
              clear hcell2
              rw [← hb3.cell (p := ⟨_, _, _⟩) hg2] at y0 y1 y2 y3 y4
              generalize enS.get xs p = y at y0 y1 y2 y3 y4 Hy
              have hj0 : (0 : Int) ≤ (p : Int) := by omega
              have hj1 : (p : Int) < (xs.length : Int) := by omega
              have hgr2 : g2 < w3.heap.size := Nat.lt_of_lt_of_le hg2 hb3.size
              by_cases d1 : y.lo < x.lo
              · have e1 : decide (y.lo < x.lo) = true := decide_eq_true d1
                go_wp2
                refine wp_region_tame (by kernel_rfl) (by kernel_rfl) (fun T _ W hT => ?_)
                have hx := hT.cell
                repeat (go_big_quiet_step (fail))
                refine wpQuiet_nil ?_
                intro t
                clear hx
                go_wp2
                go_ret2
                exact ⟨⟨false, true, rfl, Hno.out (Hy.out.trans (by simp [sayB, d1]))⟩, bthen hb3 (hT.below t)⟩
              · have e1 : decide (y.lo < x.lo) = false := decide_eq_false d1
                by_cases d2 : x.hi < y.hi
                · have e2 : decide (x.hi < y.hi) = true := decide_eq_true d2
                  have e2g : decide (y.hi > x.hi) = true := e2
                  go_wp2
                  refine wp_region_tame (by kernel_rfl) (by kernel_rfl) (fun T _ W hT => ?_)
                  have hx := hT.cell
                  repeat (go_big_quiet_step (fail))
                  refine wpQuiet_nil ?_
                  intro t
                  clear hx
                  go_wp2
                  go_ret2
                  exact ⟨⟨false, true, rfl, Hno.out (Hy.out.trans (by simp [sayB, d2]))⟩, bthen hb3 (hT.below t)⟩
                · have e2 : decide (x.hi < y.hi) = false := decide_eq_false d2
                  have e2g : decide (y.hi > x.hi) = false := e2
                  by_cases d3 : x.to = 0
                  · skip
                    have d3a : decide (x.to = 0) = true := decide_eq_true d3
                    have d3b : (x.to == 0) = true := by simp [d3]
                    have d3c : (x.to != 0) = false := by simp [d3]
                    have hz : decide (0 < x.to) = false := by rw [decide_eq_false_iff_not]; omega
                    go_wp2
                    refine wp_region_tame (by kernel_rfl) (by kernel_rfl) (fun T _ W hT => ?_)
                    have hx := hT.cell
                    repeat (go_big_quiet_step (fail))
                    refine wpQuiet_nil ?_
                    intro t
                    clear hx
                    go_wp2
                    go_roundw
                    case rel => exact ⟨k + 1, by omega, by go_num, Hs.out (Hy.out.trans (by simp [sayB, d1, d2, d3])), bthen hb3 (hT.below t)⟩
                    case measure => simp [intOf]; omega
                  · skip
                    have d3a : decide (x.to = 0) = false := decide_eq_false d3
                    have d3b : (x.to == 0) = false := by simp [d3]
                    have d3c : (x.to != 0) = true := by simp [d3]
                    have hz : decide (0 < x.to) = true := by rw [decide_eq_true_eq]; omega
                    by_cases d4 : y.to = x.to
                    · skip
                      have d4a : decide (y.to = x.to) = true := decide_eq_true d4
                      have d4b : (y.to == x.to) = true := by simp [d4]
                      have d4c : (y.to != x.to) = false := by simp [d4]
                      go_wp2
                      refine wp_region_tame (by kernel_rfl) (by kernel_rfl) (fun T _ W hT => ?_)
                      have hx := hT.cell
                      repeat (go_big_quiet_step (fail))
                      refine wpQuiet_nil ?_
                      intro t
                      clear hx
                      go_wp2
                      go_roundw
                      case rel => exact ⟨k + 1, by omega, by go_num, Hs.out (Hy.out.trans (by simp [sayB, d1, d2, d4])), bthen hb3 (hT.below t)⟩
                      case measure => simp [intOf]; omega
                    · skip
                      have d4a : decide (y.to = x.to) = false := decide_eq_false d4
                      have d4b : (y.to == x.to) = false := by simp [d4]
                      have d4c : (y.to != x.to) = true := by simp [d4]
                      go_wp2
                      refine wp_region_tame (by kernel_rfl) (by kernel_rfl) (fun T _ W hT => ?_)
                      have hx := hT.cell
                      repeat (go_big_quiet_step (fail))
                      refine wpQuiet_nil ?_
                      intro t
                      clear hx
                      go_wp2
                      go_ret2
                      exact ⟨⟨false, true, rfl, Hno.out (Hy.out.trans (by simp [sayB, d3, d4]))⟩, bthen hb3 (hT.below t)⟩
          · have hd : decide (k < bs.length) = false := decide_eq_false hlt
            have Hfin := Lib.hid (betV_yes hca hcb (fun j hj => Hok.out j (by omega)))
            clear hcell hA
            go_wp2
            go_ret2
            exact ⟨⟨true, true, rfl, Hfin.out⟩, hbw⟩
set_option maxHeartbeats 4000000 in
theorem specBetter_any (va : Value) (xs : List En) (vb : Value) (bs : List En) (w : World) (ha : Rd enS w w.heap.size va xs) (hb : Rd enS w w.heap.size vb bs) :
    Calls Try.prog 12 #[va, vb] w fun r w' => (∃ y b : Bool, r = .returned (.tuple #[.bool y, .bool b]) ∧ betV xs bs = (y, b)) ∧ Below w.heap.size w w' := by
  have ha2 := ha
  have hb2 := hb
  obtain ⟨A, c, rfl, hcc, hm, hA⟩ := ha
  obtain ⟨B, d, rfl, hcd, hmd, hB⟩ := hb
  unfold maxLen at hm hmd
  have Ha := Lib.hid ha2; clear ha2
  have Hb := Lib.hid hb2; clear hb2
  cases hca : catB xs
  · skip
    go_enter Try.func12, Try.ntmps12
    go_wp2_with fail
    refine (caGood_any _ xs _ Ha.out).mono ?_; rintro e w1 ⟨rfl, hb1⟩
    rw [hca]
    go_wp2
    go_ret2
    exact ⟨⟨false, false, rfl, betV_badA hca⟩, hb1⟩
  · cases hcb : catB bs
    · skip
      go_enter Try.func12, Try.ntmps12
      go_wp2_with fail
      refine (caGood_any _ xs _ Ha.out).mono ?_; rintro e w1 ⟨rfl, hb1⟩
      rw [hca]
      go_wp2_with fail
      refine (caGood_any _ bs _ (Hb.out.on hb1)).mono ?_; rintro e w2 ⟨rfl, hb2⟩
      rw [hcb]
      replace hb2 := bthen hb1 hb2
      clear hb1
      go_wp2
      go_ret2
      exact ⟨⟨false, false, rfl, betV_badB hcb⟩, hb2⟩
    · have Hva := Lib.hid (catB_spec hca).2
      have Hvb := Lib.hid (catB_spec hcb).2
      rcases Nat.eq_zero_or_pos bs.length with h0 | h0
      · have Hfin := Lib.hid (betV_yes hca hcb (fun k hk => by omega))
        obtain rfl : bs = [] := List.eq_nil_of_length_eq_zero h0
        clear hA hB h0
        go_enter Try.func12, Try.ntmps12
        go_wp2_with fail
        refine (caGood_any _ xs _ Ha.out).mono ?_; rintro e w1 ⟨rfl, hb1⟩
        rw [hca]
        go_wp2_with fail
        refine (caGood_any _ [] _ (Hb.out.on hb1)).mono ?_; rintro e w2 ⟨rfl, hb2⟩
        rw [hcb]
        replace hb2 := bthen hb1 hb2
        clear hb1
        go_wp2
        refine wp_loop_rounds 1 ?_
        rw [rounds_succ]
        go_wp2
        go_ret2
        exact ⟨⟨true, true, rfl, Hfin.out⟩, hb2⟩
      · obtain ⟨g, off, rfl, hg, hcell⟩ := hB h0
        clear hB
        have hcell := en_cells hcell
        go_enter Try.func12, Try.ntmps12
        go_wp2_with fail
        refine (caGood_any _ xs _ Ha.out).mono ?_; rintro e w1 ⟨rfl, hb1⟩
        rw [hca]
        go_wp2_with fail
        refine (caGood_any _ bs _ (Hb.out.on hb1)).mono ?_; rintro e w2 ⟨rfl, hb2⟩
        rw [hcb]
        replace hb2 := bthen hb1 hb2
        clear hb1
        go_wp2
        go_loopw [19] (fun i wr => ∃ k : Nat, k ≤ bs.length ∧ i = .int .i64 k ∧ (∀ j, j < k → hasB xs (enS.get bs j) = true) ∧ Below w.heap.size w wr) (fun i _ => bs.length - (intOf i).toNat)
        case atStart => exact ⟨0, Nat.zero_le _, rfl, by omega, hb2⟩
        case round =>
          obtain ⟨k, hk, rfl, hok, hbw⟩ := hrel
          clear hb2
          have Hok := Lib.hid hok; clear hok
          by_cases hlt : k < bs.length
          · obtain ⟨f0, f1, f2, f3, f4⟩ := hcell k hlt
            rw [← hbw.cell (p := ⟨_, _, _⟩) hg] at f0 f1 f2 f3 f4
            have hok2 := okAt_ent (Hvb.out k hlt)
            have hcu := entB_curve hok2
            have hto := (entB_bd hok2).2.2.2.1
            clear hok2
            have Hno := Lib.hid (betV_no hca hcb hlt)
            have Hs := Lib.hid (fun (h : hasB xs (enS.get bs k) = true) => all_lt_succ Hok.out h)
            generalize enS.get bs k = x at f0 f1 f2 f3 f4 hcu hto Hno Hs
            have Hcu := Lib.hid hcu; clear hcu
            have hgr : g < wr.heap.size := Nat.lt_of_lt_of_le hg hbw.size
            have hi0 : (0 : Int) ≤ (k : Int) := by omega
            have hi1 : (k : Int) < (bs.length : Int) := by omega
            clear hcell
            have hbox : Blk _ wr.heap.size 36 #[.int .i64 x.a, .int .i64 x.b, .int .i64 x.lo, .int .i64 x.hi, .int .i64 x.to] := Blk.new wr _ _
            go_wp2_with fail
            refine (caPlace_any _ xs x.a x.b _ (Ha.out.on (bal hbw _)) Hva.out Hcu.out).mono ?_; rintro e w3 ⟨rfl, hb3⟩
            replace hbox := hbox.on hb3
            replace hb3 := bthen (bal hbw _) hb3
            have q0 : w3.cell? ⟨wr.heap.size, 0, none⟩ = some (.int .i64 x.a) := hbox.cell 0
            have q1 : w3.cell? ⟨wr.heap.size, 1, none⟩ = some (.int .i64 x.b) := hbox.cell 1
            have q2 : w3.cell? ⟨wr.heap.size, 2, none⟩ = some (.int .i64 x.lo) := hbox.cell 2
            have q3 : w3.cell? ⟨wr.heap.size, 3, none⟩ = some (.int .i64 x.hi) := hbox.cell 3
            have q4 : w3.cell? ⟨wr.heap.size, 4, none⟩ = some (.int .i64 x.to) := hbox.cell 4
            have ql := hbox.lt
            clear hbox
            have hfp := place_first (a := x.a) (b := x.b) Hva.out
            have hPl : ∃ p, placeN xs x.a x.b = p := ⟨_, rfl⟩
            obtain ⟨p, hp⟩ := hPl
            rw [hp] at hfp ⊢
            clear hp
            cases hat : atB xs p x.a x.b
            · have Hy := Lib.hid (hasB_out (xs := xs) (x := x) (by rw [hfp, hat]; simp)); clear hfp hA
              go_wp2
              refine wp_region_tame (by kernel_rfl) (by kernel_rfl) (fun T _ W hT => ?_)
              have hx := hT.cell
              repeat (go_big_quiet_step ((go_at_call 65; exact hT.call (caAt_any _ xs _ _ _ _ (Ha.out.on (bthen hb3 (hT.below _)))))))
              refine wpQuiet_nil ?_
              intro t
              clear hx
              go_wp2
              go_ret2
              exact ⟨⟨false, true, rfl, Hno.out Hy.out⟩, bthen hb3 (hT.below t)⟩
            · have hpl : p < xs.length := by
                have h := hat
                unfold atB at h
                simp only [Bool.and_eq_true, decide_eq_true_eq] at h
                exact h.1
              rw [hat, if_pos rfl] at hfp
              have hy := hasB_in (xs := xs) (x := x) (by rw [hfp]; exact hpl)
              rw [hfp] at hy
              have Hy := Lib.hid hy; clear hy hfp
              obtain ⟨g2, off2, rfl, hg2, hcell2⟩ := hA (by omega)
              clear hA
              obtain ⟨y0, y1, y2, y3, y4⟩ := en_cells hcell2 p hpl
              clear hcell2
              rw [← hb3.cell (p := ⟨_, _, _⟩) hg2] at y0 y1 y2 y3 y4
              generalize enS.get xs p = y at y0 y1 y2 y3 y4 Hy
              have hj0 : (0 : Int) ≤ (p : Int) := by omega
              have hj1 : (p : Int) < (xs.length : Int) := by omega
              have hgr2 : g2 < w3.heap.size := Nat.lt_of_lt_of_le hg2 hb3.size
              by_cases d1 : y.lo < x.lo
              · have e1 : decide (y.lo < x.lo) = true := decide_eq_true d1
                go_wp2
                refine wp_region_tame (by kernel_rfl) (by kernel_rfl) (fun T _ W hT => ?_)
                have hx := hT.cell
                repeat (go_big_quiet_step ((go_at_call 65; exact hT.call (caAt_any _ xs _ _ _ _ (Ha.out.on (bthen hb3 (hT.below _)))))))
                refine wpQuiet_nil ?_
                intro t
                clear hx
                go_wp2
                go_ret2
                exact ⟨⟨false, true, rfl, Hno.out (Hy.out.trans (by simp [sayB, d1]))⟩, bthen hb3 (hT.below t)⟩
              · have e1 : decide (y.lo < x.lo) = false := decide_eq_false d1
                by_cases d2 : x.hi < y.hi
                · have e2 : decide (x.hi < y.hi) = true := decide_eq_true d2
                  have e2g : decide (y.hi > x.hi) = true := e2
                  go_wp2
                  refine wp_region_tame (by kernel_rfl) (by kernel_rfl) (fun T _ W hT => ?_)
                  have hx := hT.cell
                  repeat (go_big_quiet_step ((go_at_call 65; exact hT.call (caAt_any _ xs _ _ _ _ (Ha.out.on (bthen hb3 (hT.below _)))))))
                  refine wpQuiet_nil ?_
                  intro t
                  clear hx
                  go_wp2
                  go_ret2
                  exact ⟨⟨false, true, rfl, Hno.out (Hy.out.trans (by simp [sayB, d2]))⟩, bthen hb3 (hT.below t)⟩
                · have e2 : decide (x.hi < y.hi) = false := decide_eq_false d2
                  have e2g : decide (y.hi > x.hi) = false := e2
                  by_cases d3 : x.to = 0
                  · skip
                    have d3a : decide (x.to = 0) = true := decide_eq_true d3
                    have d3b : (x.to == 0) = true := by simp [d3]
                    have d3c : (x.to != 0) = false := by simp [d3]
                    have hz : decide (0 < x.to) = false := by rw [decide_eq_false_iff_not]; omega
                    go_wp2
                    refine wp_region_tame (by kernel_rfl) (by kernel_rfl) (fun T _ W hT => ?_)
                    have hx := hT.cell
                    repeat (go_big_quiet_step ((go_at_call 65; exact hT.call (caAt_any _ xs _ _ _ _ (Ha.out.on (bthen hb3 (hT.below _)))))))
                    refine wpQuiet_nil ?_
                    intro t
                    clear hx
                    go_wp2
                    go_roundw
                    case rel => exact ⟨k + 1, by omega, by go_num, Hs.out (Hy.out.trans (by simp [sayB, d1, d2, d3])), bthen hb3 (hT.below t)⟩
                    case measure => simp [intOf]; omega
                  · skip
                    have d3a : decide (x.to = 0) = false := decide_eq_false d3
                    have d3b : (x.to == 0) = false := by simp [d3]
                    have d3c : (x.to != 0) = true := by simp [d3]
                    have hz : decide (0 < x.to) = true := by rw [decide_eq_true_eq]; omega
                    by_cases d4 : y.to = x.to
                    · skip
                      have d4a : decide (y.to = x.to) = true := decide_eq_true d4
                      have d4b : (y.to == x.to) = true := by simp [d4]
                      have d4c : (y.to != x.to) = false := by simp [d4]
                      go_wp2
                      refine wp_region_tame (by kernel_rfl) (by kernel_rfl) (fun T _ W hT => ?_)
                      have hx := hT.cell
                      repeat (go_big_quiet_step ((go_at_call 65; exact hT.call (caAt_any _ xs _ _ _ _ (Ha.out.on (bthen hb3 (hT.below _)))))))
                      refine wpQuiet_nil ?_
                      intro t
                      clear hx
                      go_wp2
                      go_roundw
                      case rel => exact ⟨k + 1, by omega, by go_num, Hs.out (Hy.out.trans (by simp [sayB, d1, d2, d4])), bthen hb3 (hT.below t)⟩
                      case measure => simp [intOf]; omega
                    · skip
                      have d4a : decide (y.to = x.to) = false := decide_eq_false d4
                      have d4b : (y.to == x.to) = false := by simp [d4]
                      have d4c : (y.to != x.to) = true := by simp [d4]
                      go_wp2
                      refine wp_region_tame (by kernel_rfl) (by kernel_rfl) (fun T _ W hT => ?_)
                      have hx := hT.cell
                      repeat (go_big_quiet_step ((go_at_call 65; exact hT.call (caAt_any _ xs _ _ _ _ (Ha.out.on (bthen hb3 (hT.below _)))))))
                      refine wpQuiet_nil ?_
                      intro t
                      clear hx
                      go_wp2
                      go_ret2
                      exact ⟨⟨false, true, rfl, Hno.out (Hy.out.trans (by simp [sayB, d3, d4]))⟩, bthen hb3 (hT.below t)⟩
          · have hd : decide (k < bs.length) = false := decide_eq_false hlt
            have Hfin := Lib.hid (betV_yes hca hcb (fun j hj => Hok.out j (by omega)))
            clear hcell hA
            go_wp2
            go_ret2
            exact ⟨⟨true, true, rfl, Hfin.out⟩, hbw⟩
end Go.Proofs.Ytnphipfdpkgbaaa
