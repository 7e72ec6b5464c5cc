/- ReportsBy and ReportsUpTo of the reference: the walks. Conditions: none. -/
import Derived.Test.YtjnghjgfhlgbiaaDoorBy
namespace Go.Proofs.YtjnghjgfhlgbiaaDoor
open Go Go.RowKit

theorem infoRp9 : (Tryd.prog.info? 30).map (fun i => (i.zero, i.size, i.bytes)) = some (some (.agg #[.int .i64 0, .int .i64 0, .int .i64 0, .int .i64 0, .int .i64 0, .int .i64 0, .int .i64 0]), 7, 56) := by kernel_rfl
set_option maxRecDepth 8000 in
set_option maxHeartbeats 4000000 in
theorem specBy_any (v : Value) (es : List Rp) (z : Int) (w : World) (h : Rd rpS w w.heap.size v es) :
    Calls Tryd.prog 16 #[v, .int .i64 z] w fun r w' => (∃ (v' : Value) (y : List Rp) (b : Bool), r = .returned (.tuple #[v', .bool b]) ∧ byV es z = (y, b) ∧ w'.ownsRow w.heap.size 30 7 v' y.length (rpS.flat y)) ∧ Below w.heap.size w w' := by
  obtain ⟨i0, hi, hz0, hz1, hz2⟩ := info_parts infoRp9
  have hr := h
  obtain ⟨A, c, rfl, hcc, hm, hA⟩ := h
  unfold maxLen at hm
  have Hr := Lib.hid hr; clear hr
  cases hg : repsB es
  · have Hfin : byV es z = ([], false) := by unfold byV; rw [hg]; rfl
    replace Hfin := Lib.hid Hfin
    go_enter Tryd.func16, Tryd.ntmps16
    go_wp2_with fail
    refine (mrGood_any _ es _ Hr.out).mono ?_; rintro e w1 ⟨rfl, hb1⟩
    rw [hg]
    go_wp2
    go_ret2
    exact ⟨⟨_, [], false, rfl, Hfin.out, by simp [Shape.flat], Or.inl ⟨rfl, rfl⟩⟩, hb1⟩
  · cases hi2 : insB z 1 9
    · have Hfin : byV es z = ([], false) := by unfold byV; rw [hi2, Bool.and_false]; rfl
      replace Hfin := Lib.hid Hfin
      go_enter Tryd.func16, Tryd.ntmps16
      go_wp2_with fail
      refine (mrGood_any _ es _ Hr.out).mono ?_; rintro e w1 ⟨rfl, hb1⟩
      rw [hg]
      go_wp2_with fail
      refine (mrMachine_any _ _).mono ?_; rintro e w2 ⟨rfl, rfl⟩
      rw [hi2]
      go_wp2
      go_ret2
      exact ⟨⟨_, [], false, rfl, Hfin.out, by simp [Shape.flat], Or.inl ⟨rfl, rfl⟩⟩, hb1⟩
    · have Hfin : byV es z = (rpF (byP z) es es.length, true) := by unfold byV; rw [hg, hi2, rpF_all]; rfl
      replace Hfin := Lib.hid Hfin
      have Hlen := Lib.hid (repsB_spec hg).1
      rcases Nat.eq_zero_or_pos es.length with h0 | h0
      · obtain rfl : es = [] := List.eq_nil_of_length_eq_zero h0
        clear hA h0
        go_enter Tryd.func16, Tryd.ntmps16
        go_wp2_with fail
        refine (mrGood_any _ [] _ Hr.out).mono ?_; rintro e w1 ⟨rfl, hb1⟩
        rw [hg]
        go_wp2_with fail
        refine (mrMachine_any _ _).mono ?_; rintro e w2 ⟨rfl, rfl⟩
        rw [hi2]
        go_wp2
        refine wp_loop_rounds 1 ?_
        rw [rounds_succ]
        go_wp2
        go_ret2
        exact ⟨⟨_, _, _, rfl, Hfin.out, by simp [rpF, Shape.flat], Or.inl ⟨rfl, by simp [rpF]⟩⟩, hb1⟩
      · obtain ⟨g, off, rfl, hgl, hcell⟩ := hA h0
        clear hA
        have hcell := rp_cells hcell
        go_enter Tryd.func16, Tryd.ntmps16
        go_wp2_with fail
        refine (mrGood_any _ es _ Hr.out).mono ?_; rintro e w1 ⟨rfl, hb1⟩
        rw [hg]
        go_wp2_with fail
        refine (mrMachine_any _ _).mono ?_; rintro e w2 ⟨rfl, rfl⟩
        rw [hi2]
        go_wp2
        go_loopw [19, 6] (fun i o wr => ∃ k : Nat, k ≤ es.length ∧ i = .int .i64 k ∧ Below w.heap.size w wr ∧ wr.ownsRow w.heap.size 30 7 o (rpF (byP z) es k).length (rpS.flat (rpF (byP z) es k))) (fun i _ _ => es.length - (intOf i).toNat)
        case atStart => exact ⟨0, Nat.zero_le _, rfl, hb1, by rw [rpF_zero]; exact ⟨rfl, Or.inl ⟨rfl, rfl⟩⟩⟩
        case round =>
          obtain ⟨k, hk, rfl, hb, hown⟩ := hrel
          have hz1' := hb1.size
          by_cases hlt : k < es.length
          · obtain ⟨f0, f1, f2, f3, f4, f5, f6⟩ := hcell k hlt
            rw [← hb.cell (p := ⟨_, _, _⟩) hgl] at f0 f1 f2 f3 f4 f5 f6
            have hle := rpF_le (byP z) es k
            have hes := Hlen.out
            have Hown := Lib.hid hown; clear hown
            have Hyes := Lib.hid (rpF_yes (p := byP z) hlt)
            have Hno := Lib.hid (rpF_no (p := byP z) hlt)
            generalize rpS.get es k = x at f0 f1 f2 f3 f4 f5 f6 Hyes Hno
            have hgr : g < wr.heap.size := Nat.lt_of_lt_of_le hgl hb.size
            have hi0 : (0 : Int) ≤ (k : Int) := by omega
            have hi1 : (k : Int) < (es.length : Int) := by omega
            clear hcell
            by_cases hd : x.mc = z
            · have hd2 : decide (x.mc = z) = true := decide_eq_true hd
              go_wp2_with (at_builtin; refine wpList_append_own _ rfl _ _ 24 rfl w.heap.size 30 i0 (.agg #[.int .i64 0, .int .i64 0, .int .i64 0, .int .i64 0, .int .i64 0, .int .i64 0, .int .i64 0]) 7 56 Tryd.underlying24 hi hz0 hz1 hz2 rfl (by decide) _ _ _ rfl ((Hown.out.alloc _).alloc _) ⟨wr.heap.size + 1, 0, none⟩ 1 1 (rpS.flat [x]) rfl rfl ?c1 ?c2 ?c3 ?c4 ?c5 ?_)
              case c1 =>
                intro j u hj
                rw [rp7] at hj
                match j, hj with
                | 0, hj => simp at hj; subst hj; first | (simp [Addr.add]; done) | (simp [Addr.add, hd]; done)
                | 1, hj => simp at hj; subst hj; first | (simp [Addr.add]; done) | (simp [Addr.add, hd]; done)
                | 2, hj => simp at hj; subst hj; first | (simp [Addr.add]; done) | (simp [Addr.add, hd]; done)
                | 3, hj => simp at hj; subst hj; first | (simp [Addr.add]; done) | (simp [Addr.add, hd]; done)
                | 4, hj => simp at hj; subst hj; first | (simp [Addr.add]; done) | (simp [Addr.add, hd]; done)
                | 5, hj => simp at hj; subst hj; first | (simp [Addr.add]; done) | (simp [Addr.add, hd]; done)
                | 6, hj => simp at hj; subst hj; first | (simp [Addr.add]; done) | (simp [Addr.add, hd]; done)
              case c2 => intro u hu; rw [rp7] at hu; simp at hu; rcases hu with rfl | rfl | rfl | rfl | rfl | rfl | rfl <;> rfl
              case c3 => unfold maxLen; omega
              case c4 => omega
              case c5 => have := hb.size; simp; omega
              intro v' w3 hown' hgrow _
              have hbn : Below w.heap.size w w3 := Below.grown (bal (bal hb _) _) hgrow (by have := hb.size; simp; omega) (fun j hj => (Hown.out.lt j hj).1)
              rw [← Shape.flat_append, ← Hyes.out (by simp [byP, hd])] at hown'
              have hln : (rpF (byP z) es k).length + 1 = (rpF (byP z) es (k + 1)).length := by rw [Hyes.out (by simp [byP, hd])]; simp
              rw [hln] at hown'
              have Hown' := Lib.hid hown'
              clear hown' hgrow
              go_wp2
              go_roundw
              case rel => exact ⟨k + 1, by omega, by go_num, hbn, Hown'.out⟩
              case measure => simp [intOf]; omega
            · have hd2 : decide (x.mc = z) = false := decide_eq_false hd
              go_wp2
              go_roundw
              case rel => exact ⟨k + 1, by omega, by go_num, by (repeat (with_reducible first | exact Below.refl _ _ | assumption | refine bal ?_ _ | refine bst ?_ (by simp <;> omega) _ | refine Below.drew ?_ | refine bthen ?_ (by assumption))), by rw [Hno.out (by simp [byP, hd])]; exact Hown.out.alloc _⟩
              case measure => simp [intOf]; omega
          · have hd : decide (k < es.length) = false := decide_eq_false hlt
            obtain rfl : k = es.length := by omega
            have Hown := Lib.hid hown
            clear hcell hown
            go_wp2
            go_ret2
            exact ⟨⟨_, _, _, rfl, Hfin.out, Hown.out⟩, hb⟩
set_option maxRecDepth 8000 in
set_option maxHeartbeats 4000000 in
theorem specUp_any (v : Value) (es : List Rp) (z : Int) (w : World) (h : Rd rpS w w.heap.size v es) :
    Calls Tryd.prog 14 #[v, .int .i64 z] w fun r w' => (∃ (v' : Value) (y : List Rp) (b : Bool), r = .returned (.tuple #[v', .bool b]) ∧ upV es z = (y, b) ∧ w'.ownsRow w.heap.size 30 7 v' y.length (rpS.flat y)) ∧ Below w.heap.size w w' := by
  obtain ⟨i0, hi, hz0, hz1, hz2⟩ := info_parts infoRp9
  have hr := h
  obtain ⟨A, c, rfl, hcc, hm, hA⟩ := h
  unfold maxLen at hm
  have Hr := Lib.hid hr; clear hr
  cases hg : repsB es
  · have Hfin : upV es z = ([], false) := by unfold upV; rw [hg]; rfl
    replace Hfin := Lib.hid Hfin
    go_enter Tryd.func14, Tryd.ntmps14
    go_wp2_with fail
    refine (mrGood_any _ es _ Hr.out).mono ?_; rintro e w1 ⟨rfl, hb1⟩
    rw [hg]
    go_wp2
    go_ret2
    exact ⟨⟨_, [], false, rfl, Hfin.out, by simp [Shape.flat], Or.inl ⟨rfl, rfl⟩⟩, hb1⟩
  · cases hi2 : insB z 0 1000000
    · have Hfin : upV es z = ([], false) := by unfold upV; rw [hi2, Bool.and_false]; rfl
      replace Hfin := Lib.hid Hfin
      go_enter Tryd.func14, Tryd.ntmps14
      go_wp2_with fail
      refine (mrGood_any _ es _ Hr.out).mono ?_; rintro e w1 ⟨rfl, hb1⟩
      rw [hg]
      go_wp2_with fail
      refine (mrTime_any _ _).mono ?_; rintro e w2 ⟨rfl, rfl⟩
      rw [hi2]
      go_wp2
      go_ret2
      exact ⟨⟨_, [], false, rfl, Hfin.out, by simp [Shape.flat], Or.inl ⟨rfl, rfl⟩⟩, hb1⟩
    · have Hfin : upV es z = (rpF (upP z) es es.length, true) := by unfold upV; rw [hg, hi2, rpF_all]; rfl
      replace Hfin := Lib.hid Hfin
      have Hlen := Lib.hid (repsB_spec hg).1
      rcases Nat.eq_zero_or_pos es.length with h0 | h0
      · obtain rfl : es = [] := List.eq_nil_of_length_eq_zero h0
        clear hA h0
        go_enter Tryd.func14, Tryd.ntmps14
        go_wp2_with fail
        refine (mrGood_any _ [] _ Hr.out).mono ?_; rintro e w1 ⟨rfl, hb1⟩
        rw [hg]
        go_wp2_with fail
        refine (mrTime_any _ _).mono ?_; rintro e w2 ⟨rfl, rfl⟩
        rw [hi2]
        go_wp2
        refine wp_loop_rounds 1 ?_
        rw [rounds_succ]
        go_wp2
        go_ret2
        exact ⟨⟨_, _, _, rfl, Hfin.out, by simp [rpF, Shape.flat], Or.inl ⟨rfl, by simp [rpF]⟩⟩, hb1⟩
      · obtain ⟨g, off, rfl, hgl, hcell⟩ := hA h0
        clear hA
        have hcell := rp_cells hcell
        go_enter Tryd.func14, Tryd.ntmps14
        go_wp2_with fail
        refine (mrGood_any _ es _ Hr.out).mono ?_; rintro e w1 ⟨rfl, hb1⟩
        rw [hg]
        go_wp2_with fail
        refine (mrTime_any _ _).mono ?_; rintro e w2 ⟨rfl, rfl⟩
        rw [hi2]
        go_wp2
        go_loopw [19, 6] (fun i o wr => ∃ k : Nat, k ≤ es.length ∧ i = .int .i64 k ∧ Below w.heap.size w wr ∧ wr.ownsRow w.heap.size 30 7 o (rpF (upP z) es k).length (rpS.flat (rpF (upP z) es k))) (fun i _ _ => es.length - (intOf i).toNat)
        case atStart => exact ⟨0, Nat.zero_le _, rfl, hb1, by rw [rpF_zero]; exact ⟨rfl, Or.inl ⟨rfl, rfl⟩⟩⟩
        case round =>
          obtain ⟨k, hk, rfl, hb, hown⟩ := hrel
          have hz1' := hb1.size
          by_cases hlt : k < es.length
          · obtain ⟨f0, f1, f2, f3, f4, f5, f6⟩ := hcell k hlt
            rw [← hb.cell (p := ⟨_, _, _⟩) hgl] at f0 f1 f2 f3 f4 f5 f6
            have hle := rpF_le (upP z) es k
            have hes := Hlen.out
            have Hown := Lib.hid hown; clear hown
            have Hyes := Lib.hid (rpF_yes (p := upP z) hlt)
            have Hno := Lib.hid (rpF_no (p := upP z) hlt)
            generalize rpS.get es k = x at f0 f1 f2 f3 f4 f5 f6 Hyes Hno
            have hgr : g < wr.heap.size := Nat.lt_of_lt_of_le hgl hb.size
            have hi0 : (0 : Int) ≤ (k : Int) := by omega
            have hi1 : (k : Int) < (es.length : Int) := by omega
            clear hcell
            by_cases hd : x.tm ≤ z
            · have hd2 : decide (x.tm ≤ z) = true := decide_eq_true hd
              go_wp2_with (at_builtin; refine wpList_append_own _ rfl _ _ 24 rfl w.heap.size 30 i0 (.agg #[.int .i64 0, .int .i64 0, .int .i64 0, .int .i64 0, .int .i64 0, .int .i64 0, .int .i64 0]) 7 56 Tryd.underlying24 hi hz0 hz1 hz2 rfl (by decide) _ _ _ rfl ((Hown.out.alloc _).alloc _) ⟨wr.heap.size + 1, 0, none⟩ 1 1 (rpS.flat [x]) rfl rfl ?c1 ?c2 ?c3 ?c4 ?c5 ?_)
              case c1 =>
                intro j u hj
                rw [rp7] at hj
                match j, hj with
                | 0, hj => simp at hj; subst hj; first | (simp [Addr.add]; done) | (simp [Addr.add, hd]; done)
                | 1, hj => simp at hj; subst hj; first | (simp [Addr.add]; done) | (simp [Addr.add, hd]; done)
                | 2, hj => simp at hj; subst hj; first | (simp [Addr.add]; done) | (simp [Addr.add, hd]; done)
                | 3, hj => simp at hj; subst hj; first | (simp [Addr.add]; done) | (simp [Addr.add, hd]; done)
                | 4, hj => simp at hj; subst hj; first | (simp [Addr.add]; done) | (simp [Addr.add, hd]; done)
                | 5, hj => simp at hj; subst hj; first | (simp [Addr.add]; done) | (simp [Addr.add, hd]; done)
                | 6, hj => simp at hj; subst hj; first | (simp [Addr.add]; done) | (simp [Addr.add, hd]; done)
              case c2 => intro u hu; rw [rp7] at hu; simp at hu; rcases hu with rfl | rfl | rfl | rfl | rfl | rfl | rfl <;> rfl
              case c3 => unfold maxLen; omega
              case c4 => omega
              case c5 => have := hb.size; simp; omega
              intro v' w3 hown' hgrow _
              have hbn : Below w.heap.size w w3 := Below.grown (bal (bal hb _) _) hgrow (by have := hb.size; simp; omega) (fun j hj => (Hown.out.lt j hj).1)
              rw [← Shape.flat_append, ← Hyes.out (by simp [upP, hd])] at hown'
              have hln : (rpF (upP z) es k).length + 1 = (rpF (upP z) es (k + 1)).length := by rw [Hyes.out (by simp [upP, hd])]; simp
              rw [hln] at hown'
              have Hown' := Lib.hid hown'
              clear hown' hgrow
              go_wp2
              go_roundw
              case rel => exact ⟨k + 1, by omega, by go_num, hbn, Hown'.out⟩
              case measure => simp [intOf]; omega
            · have hd2 : decide (x.tm ≤ z) = false := decide_eq_false hd
              go_wp2
              go_roundw
              case rel => exact ⟨k + 1, by omega, by go_num, by (repeat (with_reducible first | exact Below.refl _ _ | assumption | refine bal ?_ _ | refine bst ?_ (by simp <;> omega) _ | refine Below.drew ?_ | refine bthen ?_ (by assumption))), by rw [Hno.out (by simp [upP, hd])]; exact Hown.out.alloc _⟩
              case measure => simp [intOf]; omega
          · have hd : decide (k < es.length) = false := decide_eq_false hlt
            obtain rfl : k = es.length := by omega
            have Hown := Lib.hid hown
            clear hcell hown
            go_wp2
            go_ret2
            exact ⟨⟨_, _, _, rfl, Hfin.out, Hown.out⟩, hb⟩
end Go.Proofs.YtjnghjgfhlgbiaaDoor
