/- MissingReports of the program: the walk. Conditions: none. -/
import Derived.Test.YtkalelljncapdaaMiss
namespace Go.Proofs.Ytkalelljncapdaa
open Go Go.RowKit

theorem mi1_any (x : Rp) (va : Value) (xs : List Rp) (gb : Nat) (w : World) (h0 : w.cell? ⟨gb, 0, none⟩ = some va) (ha : Rd rpS w w.heap.size va xs) :
    Calls Try.prog 48 #[.agg #[.int .i64 x.tm, .int .i64 x.mc, .int .i64 x.a, .int .i64 x.b, .int .i64 x.lo, .int .i64 x.hi, .int .i64 x.to], .pointer (some ⟨gb, 0, none⟩)] w fun r w' => r = .returned (.bool (hasR xs x)) ∧ Below w.heap.size w w' := by
  have hg := World.block_lt_of_cell? w _ h0
  have Ha := Lib.hid ha
  have hbA : Below w.heap.size w (w.alloc _) := bal (Below.refl _ _) (Obj.cells #[.int .i64 x.tm, .int .i64 x.mc, .int .i64 x.a, .int .i64 x.b, .int .i64 x.lo, .int .i64 x.hi, .int .i64 x.to] 44)
  have HbA := Lib.hid hbA; clear hbA
  obtain ⟨A, c, rfl, -, -, -⟩ := ha
  go_enter Try.func48, Try.ntmps48
  go_wp2_with fail
  refine (containsRp_any _ xs x _ (Ha.out.on HbA.out)).mono ?_
  rintro e w1 ⟨rfl, hb1⟩
  go_wp2
  go_ret
  exact ⟨rfl, bthen HbA.out hb1⟩
set_option maxRecDepth 8000 in
set_option maxHeartbeats 1600000 in
theorem implMiss_any (va : Value) (xs : List Rp) (v : Value) (es : List Rp) (w : World) (ha : Rd rpS w w.heap.size va xs) (h : Rd rpS w w.heap.size v es) :
    Calls Try.prog 21 #[va, v] w fun r w' => (∃ (v' : Value) (y : List Rp) (b : Bool), r = .returned (.tuple #[v', .bool b]) ∧ missV xs es = (y, b) ∧ w'.ownsRow w.heap.size 44 7 v' y.length (rpS.flat y)) ∧ Below w.heap.size w w' := by
  have eg : ∀ args w, (callFunc 48 args).run Try.prog w = .ok (.enter 48 args) w := fun args w => by first | rfl | kernel_rfl | simp [go_sem]
  have Ha := Lib.hid ha
  have Hr := Lib.hid h; clear h
  obtain ⟨A, c, rfl, -, -, -⟩ := ha
  have hbA : Below w.heap.size w (w.alloc _) := bal (Below.refl _ _) (Obj.cells #[.slice A xs.length c] 24)
  have hbox : Blk _ w.heap.size 24 #[.slice A xs.length c] := Blk.new w _ _
  cases hg : repsB xs
  · have Hfin : missV xs es = ([], false) := by unfold missV; rw [hg]; rfl
    replace Hfin := Lib.hid Hfin
    go_enter Try.func21, Try.ntmps21
    go_wp2_with fail
    refine (areReports_any _ xs _ (Ha.out.on hbA)).mono ?_; rintro e w1 ⟨rfl, hb1⟩
    rw [hg]
    go_wp2
    go_ret2
    exact ⟨⟨_, [], false, rfl, Hfin.out, by simp [Shape.flat], Or.inl ⟨rfl, rfl⟩⟩, bthen hbA hb1⟩
  · cases hi2 : repsB es
    · have Hfin : missV xs es = ([], false) := by unfold missV; rw [hi2, Bool.and_false]; rfl
      replace Hfin := Lib.hid Hfin
      go_enter Try.func21, Try.ntmps21
      go_wp2_with fail
      refine (areReports_any _ xs _ (Ha.out.on hbA)).mono ?_; rintro e w1 ⟨rfl, hb1⟩
      rw [hg]
      have hb1' := bthen hbA hb1
      go_wp2_with fail
      refine (areReports_any _ es _ (Hr.out.on hb1')).mono ?_; rintro e w2 ⟨rfl, hb2⟩
      rw [hi2]
      go_wp2
      go_ret2
      exact ⟨⟨_, [], false, rfl, Hfin.out, by simp [Shape.flat], Or.inl ⟨rfl, rfl⟩⟩, bthen hb1' hb2⟩
    · have Hfin : missV xs es = (es.filter (fun x => !hasR xs x), true) := by unfold missV; rw [hg, hi2]; rfl
      replace Hfin := Lib.hid Hfin
      have Hlen := Lib.hid (repsB_spec hi2).1
      go_enter Try.func21, Try.ntmps21
      go_wp2_with fail
      refine (areReports_any _ xs _ (Ha.out.on hbA)).mono ?_; rintro e w1 ⟨rfl, hb1⟩
      rw [hg]
      have hb1' := bthen hbA hb1
      have hbox1 := hbox.on hb1
      go_wp2_with fail
      refine (areReports_any _ es _ (Hr.out.on hb1')).mono ?_; rintro e w2 ⟨rfl, hb2⟩
      rw [hi2]
      have hb2' := bthen hb1' hb2
      have hbox2 := hbox1.on hb2
      have q0 := hbox2.cell 0
      have ql := hbox2.lt
      go_wp2_with fail
      refine (cloneRp_any _ es _ (Hr.out.on hb2') (by have := Hlen.out; omega)).mono ?_
      rintro e w3 ⟨v3, rfl, hown3, hb3⟩
      have hlt3 : ∀ g, v3.ownBlock = some g → w2.heap.size ≤ g := fun g hg => (hown3.lt g hg).1
      have hq3 : w3.cell? ⟨w.heap.size, 0, none⟩ = some (.slice A xs.length c) := (hb3.cell (p := ⟨w.heap.size, 0, none⟩) ql).trans q0
      have Hq3 := Lib.hid hq3; clear hq3
      have Hown3 := Lib.hid hown3; clear hown3
      have Hlt3 := Lib.hid hlt3; clear hlt3
      have Hw2 := Lib.hid hb2'.size
      have Ha3 := Lib.hid (Ha.out.below (bthen hb2' hb3))
      go_wp2_with fail
      refine (delF_any 48 _ (fun x => hasR xs x) eg v3 es w2.heap.size w3 Hown3.out (by have := Hlen.out; omega) ?_).mono ?_
      · intro W x hW
        have hne : ∀ b, b < w2.heap.size → some b ≠ v3.ownBlock := fun b hb e => by have := Hlt3.out b e.symm; omega
        refine mi1_any x (.slice A xs.length c) xs w.heap.size W ?_ ?_
        · exact hW.cell Hq3.out (hne _ ql)
        · have hs3 := hb3.size
          have hsW := hW.size
          have hs2 := Hw2.out
          exact (Ha3.out.keep (fun p hp => World.cell?_of_block (hW.block p.block (by omega) (hne _ (by omega))))).more (by omega)
      · rintro e w4 ⟨v4, rfl, hown4, hg4⟩
        have Hown4 := Lib.hid hown4; clear hown4
        have Hg4 := Lib.hid hg4; clear hg4
        go_wp2
        go_ret2
        have hb4 : Below w2.heap.size w2 w4 := Below.grown hb3 Hg4.out hb3.size (fun j hj => Hlt3.out j hj)
        exact ⟨⟨_, _, _, rfl, Hfin.out, own_mono Hown4.out hb2'.size⟩, bthen hb2' hb4⟩

set_option maxRecDepth 8000 in
set_option maxHeartbeats 4000000 in
theorem specMiss_any (va : Value) (xs : List Rp) (v : Value) (es : List Rp) (w : World) (ha : Rd rpS w w.heap.size va xs) (h : Rd rpS w w.heap.size v es) :
    Calls Try.prog 20 #[va, v] w fun r w' => (∃ (v' : Value) (y : List Rp) (b : Bool), r = .returned (.tuple #[v', .bool b]) ∧ missV xs es = (y, b) ∧ w'.ownsRow w.heap.size 44 7 v' y.length (rpS.flat y)) ∧ Below w.heap.size w w' := by
  obtain ⟨i0, hi, hz0, hz1, hz2⟩ := info_parts infoRp2
  have hr := h
  have Ha := Lib.hid ha; clear ha
  obtain ⟨A, c, rfl, hcc, hm, hA⟩ := h
  unfold maxLen at hm
  have Hr := Lib.hid hr; clear hr
  cases hg : repsB xs && repsB es
  · have Hfin : missV xs es = ([], false) := by unfold missV; rw [hg]; rfl
    replace Hfin := Lib.hid Hfin
    go_enter Try.func20, Try.ntmps20
    go_wp2_with fail
    refine (mrTwo_any _ _ xs es _ Ha.out Hr.out).mono ?_; rintro e w1 ⟨rfl, hb1⟩
    rw [hg]
    go_wp2
    go_ret2
    exact ⟨⟨_, [], false, rfl, Hfin.out, by simp [Shape.flat], Or.inl ⟨rfl, rfl⟩⟩, hb1⟩
  · have Hfin : missV xs es = (rpF (fun x => !hasR xs x) es es.length, true) := by unfold missV; rw [hg, rpF_all]; rfl
    replace Hfin := Lib.hid Hfin
    have Hlen : Hid (es.length ≤ 20) := Lib.hid (by simp only [Bool.and_eq_true] at hg; exact (repsB_spec hg.2).1)
    rcases Nat.eq_zero_or_pos es.length with h0 | h0
    · obtain rfl : es = [] := List.eq_nil_of_length_eq_zero h0
      clear hA h0
      go_enter Try.func20, Try.ntmps20
      go_wp2_with fail
      refine (mrTwo_any _ _ xs [] _ Ha.out Hr.out).mono ?_; rintro e w1 ⟨rfl, hb1⟩
      rw [hg]
      clear hg
      go_wp2
      refine wp_loop_rounds 1 ?_
      rw [rounds_succ]
      go_wp2
      go_ret2
      exact ⟨⟨_, _, _, rfl, Hfin.out, by simp [rpF, Shape.flat], Or.inl ⟨rfl, by simp [rpF]⟩⟩, hb1⟩
    · obtain ⟨g, off, rfl, hgl, hcell⟩ := hA h0
      clear hA
      have hcell := rp_cells hcell
      go_enter Try.func20, Try.ntmps20
      go_wp2_with fail
      refine (mrTwo_any _ _ xs es _ Ha.out Hr.out).mono ?_; rintro e w1 ⟨rfl, hb1⟩
      rw [hg]
      clear hg
      go_wp2
      go_loopw [15, 6] (fun i o wr => ∃ k : Nat, k ≤ es.length ∧ i = .int .i64 k ∧ Below w.heap.size w wr ∧ wr.ownsRow w.heap.size 44 7 o (rpF (fun x => !hasR xs x) es k).length (rpS.flat (rpF (fun x => !hasR xs x) es k))) (fun i _ _ => es.length - (intOf i).toNat)
      case atStart => exact ⟨0, Nat.zero_le _, rfl, hb1, by rw [rpF_zero]; exact ⟨rfl, Or.inl ⟨rfl, rfl⟩⟩⟩
      case round =>
        obtain ⟨k, hk, rfl, hb, hown⟩ := hrel
        by_cases hlt : k < es.length
        · obtain ⟨f0, f1, f2, f3, f4, f5, f6⟩ := hcell k hlt
          rw [← hb.cell (p := ⟨_, _, _⟩) hgl] at f0 f1 f2 f3 f4 f5 f6
          have hle := rpF_le (fun x => !hasR xs x) es k
          have hes := Hlen.out
          have Hown := Lib.hid hown; clear hown
          have Hyes := Lib.hid (rpF_yes (p := fun x => !hasR xs x) hlt)
          have Hno := Lib.hid (rpF_no (p := fun x => !hasR xs x) hlt)
          generalize rpS.get es k = x at f0 f1 f2 f3 f4 f5 f6 Hyes Hno
          have hgr : g < wr.heap.size := Nat.lt_of_lt_of_le hgl hb.size
          have hi0 : (0 : Int) ≤ (k : Int) := by omega
          have hi1 : (k : Int) < (es.length : Int) := by omega
          have hbA : Below wr.heap.size wr (wr.alloc (Obj.cells #[.int .i64 x.tm, .int .i64 x.mc, .int .i64 x.a, .int .i64 x.b, .int .i64 x.lo, .int .i64 x.hi, .int .i64 x.to] 44)) := bal (Below.refl _ _) _
          have HbA := Lib.hid hbA; clear hbA
          have Hbox := Lib.hid (Blk.new wr 44 #[.int .i64 x.tm, .int .i64 x.mc, .int .i64 x.a, .int .i64 x.b, .int .i64 x.lo, .int .i64 x.hi, .int .i64 x.to])
          clear hcell
          cases hd : hasR xs x
          all_goals
            have Hd := Lib.hid hd
            go_wp2_with fail
            refine (mrHas_any _ xs x _ (Ha.out.on (bthen hb HbA.out))).mono ?_
            rintro e w2 ⟨rfl, hb2⟩
            rw [hd]
            clear hd
            have hb2' := bthen (bthen hb HbA.out) hb2
            have Hown2 := Lib.hid (own_below Hown.out (bthen HbA.out hb2))
            have hbox2 := Hbox.out.on hb2
            have b0 := hbox2.cell 0
            have b1 := hbox2.cell 1
            have b2 := hbox2.cell 2
            have b3 := hbox2.cell 3
            have b4 := hbox2.cell 4
            have b5 := hbox2.cell 5
            have b6 := hbox2.cell 6
            have bl := hbox2.lt
            clear hbox2
          · clear hb2
            go_wp2_with (at_builtin; refine wpList_append_own _ rfl _ _ 24 rfl w.heap.size 44 i0 (.agg #[.int .i64 0, .int .i64 0, .int .i64 0, .int .i64 0, .int .i64 0, .int .i64 0, .int .i64 0]) 7 56 Try.underlying24 hi hz0 hz1 hz2 rfl (by decide) _ _ _ rfl (Hown2.out.alloc _) ⟨w2.heap.size, 0, none⟩ 1 1 (rpS.flat [x]) rfl rfl ?c1 (rp_one _) ?c3 ?c4 ?c5 ?_)
            case c1 => exact oneRp_cells (Blk.new _ _ _)
            case c3 => unfold maxLen; omega
            case c4 => omega
            case c5 => have := hb2'.size; simp; omega
            intro v' w3 hown' hgrow _
            have hbn : Below w.heap.size w w3 := Below.grown (bal hb2' _) hgrow (by have := hb2'.size; simp; omega) (fun j hj => (Hown2.out.lt j hj).1)
            rw [← Shape.flat_append, ← Hyes.out (by rw [Hd.out]; rfl)] at hown'
            have hln : (rpF (fun x => !hasR xs x) es k).length + 1 = (rpF (fun x => !hasR xs x) es (k + 1)).length := by rw [Hyes.out (by rw [Hd.out]; rfl)]; simp
            rw [hln] at hown'
            have Hown' := Lib.hid hown'
            clear hown' hgrow
            go_wp2
            go_roundw
            case rel => exact ⟨k + 1, by omega, by go_num, hbn, Hown'.out⟩
            case measure => simp [intOf]; omega
          · clear hb2
            go_wp2
            go_roundw
            case rel => exact ⟨k + 1, by omega, by go_num, hb2', by rw [Hno.out (by rw [Hd.out]; rfl)]; exact Hown2.out⟩
            case measure => simp [intOf]; omega
        · have hd : decide (k < es.length) = false := decide_eq_false hlt
          obtain rfl : k = es.length := by omega
          have Hown := Lib.hid hown
          clear hcell hown
          go_wp2
          go_ret2
          exact ⟨⟨_, _, _, rfl, Hfin.out, Hown.out⟩, hb⟩
end Go.Proofs.Ytkalelljncapdaa
