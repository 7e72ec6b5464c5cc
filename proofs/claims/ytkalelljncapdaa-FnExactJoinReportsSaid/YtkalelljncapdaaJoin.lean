/- JoinReports of the reference and of the program: the walks. Conditions: none. -/
import Derived.Test.YtkalelljncapdaaJoinL
import Derived.Test.YtkalelljncapdaaPutS
import Derived.Test.YtkalelljncapdaaIns
import Derived.Test.YtkalelljncapdaaApp2
namespace Go.Proofs.Ytkalelljncapdaa
open Go Go.RowKit

set_option maxRecDepth 8000 in
theorem neqRp (x y : Rp) (W : World) : (binOp .neq 44 (.agg #[.int .i64 x.tm, .int .i64 x.mc, .int .i64 x.a, .int .i64 x.b, .int .i64 x.lo, .int .i64 x.hi, .int .i64 x.to]) (.agg #[.int .i64 y.tm, .int .i64 y.mc, .int .i64 y.a, .int .i64 y.b, .int .i64 y.lo, .int .i64 y.hi, .int .i64 y.to])).run Try.prog W = .ok (.bool (!decide (x = y))) W := by
  obtain ⟨a1, a2, a3, a4, a5, a6, a7⟩ := x
  obtain ⟨b1, b2, b3, b4, b5, b6, b7⟩ := y
  by_cases h1 : a1 = b1
  · by_cases h2 : a2 = b2
    · by_cases h3 : a3 = b3
      · by_cases h4 : a4 = b4
        · by_cases h5 : a5 = b5
          · by_cases h6 : a6 = b6
            · by_cases h7 : a7 = b7
              · simp [go_sem, h1, h2, h3, h4, h5, h6, h7]
              · simp [go_sem, h1, h2, h3, h4, h5, h6, h7]
            · simp [go_sem, h1, h2, h3, h4, h5, h6]
          · simp [go_sem, h1, h2, h3, h4, h5]
        · simp [go_sem, h1, h2, h3, h4]
      · simp [go_sem, h1, h2, h3]
    · simp [go_sem, h1, h2]
  · simp [go_sem, h1]

set_option maxRecDepth 8000 in
set_option maxHeartbeats 4000000 in
theorem specJoin_any (va : Value) (xs : List Rp) (v : Value) (bs : List Rp) (w : World) (ha : Rd rpS w w.heap.size va xs) (h : Rd rpS w w.heap.size v bs) :
    Calls Try.prog 25 #[va, v] w fun r w' => (∃ (v' : Value) (z : List Rp) (b : Bool), r = .returned (.tuple #[v', .bool b]) ∧ joinG xs bs = (z, b) ∧ w'.ownsRow w.heap.size 44 7 v' z.length (rpS.flat z)) ∧ Below w.heap.size w w' := by
  obtain ⟨i0, hi, hz0, hz1, hz2⟩ := info_parts infoRp2
  have Ha := Lib.hid ha
  have Hb := Lib.hid h
  obtain ⟨A, c, rfl, hcc, hm, hA⟩ := h
  unfold maxLen at hm
  cases hg : repsB xs && repsB bs
  · have Hfin := Lib.hid (show joinG xs bs = ([], false) by unfold joinG; rw [hg]; rfl)
    clear hA ha
    go_enter Try.func25, Try.ntmps25
    go_wp2_with fail
    refine (mrTwo_any _ _ xs bs _ Ha.out Hb.out).mono ?_; rintro e w1 ⟨rfl, hb1⟩
    rw [hg]
    go_wp2
    go_ret2
    exact ⟨⟨_, [], false, rfl, Hfin.out, by simp [Shape.flat], Or.inl ⟨rfl, rfl⟩⟩, hb1⟩
  · have hgg := hg
    simp only [Bool.and_eq_true] at hgg
    have Hx := Lib.hid (repsB_spec hgg.1)
    have HB := Lib.hid (repsB_spec hgg.2)
    have Hfin := Lib.hid (joinG_spec hgg.1 hgg.2)
    clear hgg
    obtain ⟨Aa, ca, rfl, -, -, hAa⟩ := ha
    have hcells : Hid (∀ a, Aa = some a → ∀ j u, (rpS.flat xs)[j]? = some u → w.cell? (a.add j) = some u) := Lib.hid (fun a e => by subst e; exact rp_flat_cells Ha.out)
    have hAn : Hid (Aa = none → xs.length = 0) := Lib.hid (fun e => by
      subst e
      rcases Nat.eq_zero_or_pos xs.length with h | h
      · exact h
      · obtain ⟨g, off, h1, -⟩ := hAa h
        cases h1)
    clear hAa
    have Hxl := Lib.hid (show 0 + xs.length ≤ 20 by have := Hx.out.1; omega)
    go_enter Try.func25, Try.ntmps25
    go_wp2_with fail
    refine (mrTwo_any _ _ xs bs _ Ha.out Hb.out).mono ?_; rintro e w2 ⟨rfl, hb2'⟩
    rw [hg]
    clear hg
    have hown0 := Lib.hid (World.ownsRow_lit (base := w.heap.size) (e := 44) (size := 7) w2 #[] 0 hb2'.size (by unfold maxLen; omega) rfl)
    have hbE : Below w.heap.size w (w2.alloc (Obj.cells #[] 44)) := bal hb2' _
    have Hsrc := Lib.hid (fun a (e : Aa = some a) j u (hj : (rpS.flat xs)[j]? = some u) => show (w2.alloc (Obj.cells #[] 44)).cell? (a.add j) = some u by
      have := hcells.out a e j u hj
      rw [hbE.cell (World.block_lt_of_cell? w _ this)]
      exact this)
    go_wp2_with (at_builtin; refine wpList_append_src rfl _ _ 24 rfl w.heap.size 44 i0 (.agg #[.int .i64 0, .int .i64 0, .int .i64 0, .int .i64 0, .int .i64 0, .int .i64 0, .int .i64 0]) 7 56 Try.underlying24 hi hz0 hz1 hz2 rfl (by decide) _ _ _ rfl hown0.out Aa xs.length ca (rpS.flat xs) rfl (Shape.length_flat xs) hAn.out Hsrc.out (rp_one xs) ?c3 ?c4 hbE.size ?_)
    case c3 => have := Hxl.out; unfold maxLen; omega
    case c4 => have := Hxl.out; omega
    intro v' w3 hown' hgrow
    have hbn : Below w.heap.size w w3 := Below.grown hbE hgrow hbE.size (fun j hj => (hown0.out.lt j hj).1)
    have Ho3 := Lib.hid (show w3.ownsRow w.heap.size 44 7 v' xs.length (rpS.flat xs) by simpa using hown')
    clear hown' hgrow hbE
    rcases Nat.eq_zero_or_pos bs.length with h0 | h0
    · obtain rfl : bs = [] := List.eq_nil_of_length_eq_zero h0
      clear hA h0
      have Hg2 := Lib.hid (show repsB xs = true from repsB_true Hx.out.1 Hx.out.2)
      go_wp2
      refine wp_loop_rounds 1 ?_
      rw [rounds_succ]
      go_wp2_with fail
      refine (mrGood_any _ xs _ (Rd.of_own Ho3.out rfl)).mono ?_; rintro e w4 ⟨rfl, hb4⟩
      have Hb4 := Lib.hid hb4
      rw [Hg2.out]
      go_wp2
      go_ret2
      exact ⟨⟨_, xs, true, rfl, by rw [Hfin.out]; show (if repsB xs then _ else _) = _; rw [Hg2.out]; rfl, own_below Ho3.out Hb4.out⟩, bthen hbn hb4⟩
    · obtain ⟨g, off, rfl, hgl, hcell⟩ := hA h0
      clear hA
      have hcell := rp_cells hcell
      go_wp2
      go_loopw [18, 6] (fun i o wr => ∃ (k : Nat), k ≤ bs.length ∧ i = .int .i64 k ∧ Below w.heap.size w wr ∧ wr.ownsRow w.heap.size 44 7 o (joinS xs (bs.take k)).length (rpS.flat (joinS xs (bs.take k)))) (fun i _ _ => bs.length - (intOf i).toNat)
      case atStart => exact ⟨0, Nat.zero_le _, rfl, hbn, by rw [joinS_zero]; exact Ho3.out⟩
      case round =>
        obtain ⟨k, hk, rfl, hb, hown⟩ := hrel
        have Hown := Lib.hid hown; clear hown
        by_cases hlt : k < bs.length
        · obtain ⟨f0, f1, f2, f3, f4, f5, f6⟩ := hcell k hlt
          rw [← hb.cell (p := ⟨_, _, _⟩) hgl] at f0 f1 f2 f3 f4 f5 f6
          have Hy := Lib.hid (reps_bd HB.out.2 k hlt)
          have Hsucc := Lib.hid (joinS_succ xs hlt)
          have Hjl := Lib.hid (joinS_len xs bs k hk)
          have Hjb := Lib.hid (joinS_bd Hx.out.2 HB.out.2 k hk)
          have hgr : g < wr.heap.size := Nat.lt_of_lt_of_le hgl hb.size
          generalize hz : joinS xs (bs.take k) = z at Hown Hsucc Hjl Hjb
          clear hz
          generalize rpS.get bs k = x at f0 f1 f2 f3 f4 f5 f6 Hy Hsucc
          have hi0 : (0 : Int) ≤ (k : Int) := by omega
          have hi1 : (k : Int) < (bs.length : Int) := by omega
          have hbA : Below wr.heap.size wr (wr.alloc (Obj.cells #[.int .i64 x.tm, .int .i64 x.mc, .int .i64 x.a, .int .i64 x.b, .int .i64 x.lo, .int .i64 x.hi, .int .i64 x.to] 44)) := bal (Below.refl _ _) _
          have HbA := Lib.hid hbA; clear hbA
          have Hbox := Lib.hid (Blk.new wr 44 #[.int .i64 x.tm, .int .i64 x.mc, .int .i64 x.a, .int .i64 x.b, .int .i64 x.lo, .int .i64 x.hi, .int .i64 x.to])
          clear hcell
          go_wp2_with fail
          refine (mrHas_any _ xs x _ (Ha.out.on (bthen hb HbA.out))).mono ?_
          rintro e w5 ⟨rfl, hb5⟩
          have hb5' := bthen (bthen hb HbA.out) hb5
          have Hown5 := Lib.hid (own_below Hown.out (bthen HbA.out hb5))
          have hbox5 := Hbox.out.on hb5
          clear hb5 f0 f1 f2 f3 f4 f5 f6 hgr
          cases hd : hasR xs x
          · have Hnew := Lib.hid (show joinS xs (bs.take (k + 1)) = putR z x by rw [Hsucc.out, hd]; rfl)
            clear hd
            have q0 := hbox5.cell 0
            have q1 := hbox5.cell 1
            have q2 := hbox5.cell 2
            have q3 := hbox5.cell 3
            have q4 := hbox5.cell 4
            have q5 := hbox5.cell 5
            have q6 := hbox5.cell 6
            have ql := hbox5.lt
            go_wp2_with fail
            refine (mrPut_any _ z x _ (Rd.of_own Hown5.out rfl) (by have := Hjl.out; have := Hx.out.1; have := HB.out.1; omega) Hjb.out Hy.out).mono ?_
            rintro e w6 ⟨v6, rfl, ho6, hb6⟩
            change w6.ownsRow w5.heap.size 44 7 v6 (putR z x).length (rpS.flat (putR z x)) at ho6
            have Ho6 := Lib.hid (own_mono ho6 hb5'.size); clear ho6
            clear q0 q1 q2 q3 q4 q5 q6 ql hbox5
            go_wp2
            go_roundw
            case rel => exact ⟨k + 1, by omega, by go_num, bthen hb5' hb6, by rw [Hnew.out]; exact Ho6.out⟩
            case measure => simp [intOf]; omega
          · have Hnew := Lib.hid (show joinS xs (bs.take (k + 1)) = z by rw [Hsucc.out, hd]; rfl)
            clear hd hbox5
            go_wp2
            go_roundw
            case rel => exact ⟨k + 1, by omega, by go_num, hb5', by rw [Hnew.out]; exact Hown5.out⟩
            case measure => simp [intOf]; omega
        · obtain rfl : k = bs.length := by omega
          have hd0 : decide (bs.length < bs.length) = false := decide_eq_false (by omega)
          have Hl := Lib.hid (show joinS xs (bs.take bs.length) = joinS xs bs by rw [List.take_length])
          have Hown' := Lib.hid (show wr.ownsRow w.heap.size 44 7 _ (joinS xs bs).length (rpS.flat (joinS xs bs)) by have := Hown.out; rw [Hl.out] at this; exact this)
          clear hcell Hown
          go_wp2_with fail
          refine (mrGood_any _ (joinS xs bs) _ (Rd.of_own Hown'.out rfl)).mono ?_; rintro e w4 ⟨rfl, hb4⟩
          have Hb4 := Lib.hid hb4
          cases hg2 : repsB (joinS xs bs)
          · have Hg2 := Lib.hid hg2; clear hg2
            go_wp2
            go_ret2
            exact ⟨⟨_, [], false, rfl, by rw [Hfin.out, Hg2.out]; rfl, by simp [Shape.flat], Or.inl ⟨rfl, rfl⟩⟩, bthen hb hb4⟩
          · have Hg2 := Lib.hid hg2; clear hg2
            go_wp2
            go_ret2
            exact ⟨⟨_, joinS xs bs, true, rfl, by rw [Hfin.out, Hg2.out]; rfl, own_below Hown'.out Hb4.out⟩, bthen hb hb4⟩

set_option maxRecDepth 8000 in
set_option maxHeartbeats 8000000 in
theorem implJoin_any (va : Value) (xs : List Rp) (v : Value) (bs : List Rp) (w : World) (ha : Rd rpS w w.heap.size va xs) (h : Rd rpS w w.heap.size v bs) :
    Calls Try.prog 26 #[va, v] w fun r w' => (∃ (v' : Value) (z : List Rp) (b : Bool), r = .returned (.tuple #[v', .bool b]) ∧ joinG xs bs = (z, b) ∧ w'.ownsRow w.heap.size 44 7 v' z.length (rpS.flat z)) ∧ Below w.heap.size w w' := by
  have Ha := Lib.hid ha; clear ha
  have Hb := Lib.hid h
  obtain ⟨A, c, rfl, hcc, hm, hA⟩ := h
  unfold maxLen at hm
  cases hg : repsB xs
  · have Hfin := Lib.hid (show joinG xs bs = ([], false) by unfold joinG; rw [hg]; rfl)
    clear hA
    go_enter Try.func26, Try.ntmps26
    go_wp2_with fail
    refine (areReports_any _ xs _ Ha.out).mono ?_; rintro e w1 ⟨rfl, hb1⟩
    rw [hg]
    go_wp2
    go_ret2
    exact ⟨⟨_, [], false, rfl, Hfin.out, by simp [Shape.flat], Or.inl ⟨rfl, rfl⟩⟩, hb1⟩
  · cases hg2 : repsB bs
    · have Hfin := Lib.hid (show joinG xs bs = ([], false) by unfold joinG; rw [hg2, Bool.and_false]; rfl)
      clear hA
      go_enter Try.func26, Try.ntmps26
      go_wp2_with fail
      refine (areReports_any _ xs _ Ha.out).mono ?_; rintro e w1 ⟨rfl, hb1⟩
      rw [hg]
      go_wp2_with fail
      refine (areReports_any _ bs _ (Hb.out.on hb1)).mono ?_; rintro e w2 ⟨rfl, hb2⟩
      rw [hg2]
      go_wp2
      go_ret2
      exact ⟨⟨_, [], false, rfl, Hfin.out, by simp [Shape.flat], Or.inl ⟨rfl, rfl⟩⟩, bthen hb1 hb2⟩
    · have Hx := Lib.hid (repsB_spec hg)
      have HB := Lib.hid (repsB_spec hg2)
      have Hfin := Lib.hid (show joinG xs bs = joinV xs bs by unfold joinG; rw [hg, hg2]; rfl)
      go_enter Try.func26, Try.ntmps26
      go_wp2_with fail
      refine (areReports_any _ xs _ Ha.out).mono ?_; rintro e w1 ⟨rfl, hb1⟩
      rw [hg]
      go_wp2_with fail
      refine (areReports_any _ bs _ (Hb.out.on hb1)).mono ?_; rintro e w2 ⟨rfl, hb2⟩
      rw [hg2]
      have hb2' := bthen hb1 hb2
      clear hg hg2
      go_wp2_with fail
      refine (cloneRp_any _ xs _ (Ha.out.on hb2') (by have := Hx.out.1; omega)).mono ?_
      rintro e w3 ⟨v3, rfl, ho3, hb3⟩
      have Ho3 := Lib.hid (own_mono ho3 hb2'.size)
      have hbn := bthen hb2' hb3
      obtain ⟨A3, c3, rfl, -, -, -⟩ := Rd.of_own (S := rpS) ho3 rfl
      clear ho3
      rcases Nat.eq_zero_or_pos bs.length with h0 | h0
      · obtain rfl : bs = [] := List.eq_nil_of_length_eq_zero h0
        clear hA h0
        have hx20 := Hx.out.1
        have hd : decide ((20 : Int) < (xs.length : Int)) = false := decide_eq_false (by omega)
        have hd2 : decide (20 < xs.length) = false := decide_eq_false (by omega)
        have Hv := Lib.hid (show joinV xs [] = if xs.length ≤ 20 then (xs, true) else ([], false) from rfl)
        go_wp2
        refine wp_loop_rounds 1 ?_
        rw [rounds_succ]
        go_wp2
        go_ret2
        exact ⟨⟨_, xs, true, rfl, by rw [Hfin.out, Hv.out, if_pos Hx.out.1], Ho3.out⟩, hbn⟩
      · obtain ⟨g, off, rfl, hgl, hcell⟩ := hA h0
        clear hA
        have hcell := rp_cells hcell
        go_wp2
        go_loopw [23, 6] (fun i o wr => ∃ (k : Nat) (z : List Rp), k ≤ bs.length ∧ i = .int .i64 k ∧ Hid (joinI xs (bs.take k) = some z) ∧ z.length ≤ xs.length + k ∧ Below w.heap.size w wr ∧ wr.ownsRow w.heap.size 44 7 o z.length (rpS.flat z)) (fun i _ _ => bs.length - (intOf i).toNat)
        case atStart => exact ⟨0, xs, Nat.zero_le _, rfl, Lib.hid (joinI_zero xs bs), Nat.le_refl _, hbn, Ho3.out⟩
        case round =>
          obtain ⟨k, z, hk, rfl, Hz, hzl, hb, hown⟩ := hrel
          have Hown := Lib.hid hown; clear hown
          have Hzv := Lib.hid (join_same Hx.out.2 HB.out.2 k hk z Hz.out).2
          by_cases hlt : k < bs.length
          · obtain ⟨f0, f1, f2, f3, f4, f5, f6⟩ := hcell k hlt
            rw [← hb.cell (p := ⟨_, _, _⟩) hgl] at f0 f1 f2 f3 f4 f5 f6
            have Hsucc := Lib.hid (joinI_succ xs hlt)
            have hgr : g < wr.heap.size := Nat.lt_of_lt_of_le hgl hb.size
            generalize rpS.get bs k = x at f0 f1 f2 f3 f4 f5 f6 Hsucc
            have hi0 : (0 : Int) ≤ (k : Int) := by omega
            have hi1 : (k : Int) < (bs.length : Int) := by omega
            have hbA : Below wr.heap.size wr (wr.alloc (Obj.cells #[.int .i64 x.tm, .int .i64 x.mc, .int .i64 x.a, .int .i64 x.b, .int .i64 x.lo, .int .i64 x.hi, .int .i64 x.to] 44)) := bal (Below.refl _ _) _
            have HbA := Lib.hid hbA; clear hbA
            have Hbox := Lib.hid (Blk.new wr 44 #[.int .i64 x.tm, .int .i64 x.mc, .int .i64 x.a, .int .i64 x.b, .int .i64 x.lo, .int .i64 x.hi, .int .i64 x.to])
            have Hpk := Lib.hid (placeR_spec z x).1
            have hx20 := Hx.out.1
            have hb20 := HB.out.1
            clear hcell
            go_wp2_with fail
            refine (searchRp_any _ z x _ (Rd.of_own (own_below Hown.out HbA.out) rfl) (by omega) (fun i j h1 h2 h3 => reps_mono Hzv.out x i j h1 h2 h3)).mono ?_
            rintro e w5 ⟨rfl, hb5⟩
            have hfd : (decide (placeR z x.tm x.mc < z.length) && decide (cmpC (rpS.get z (placeR z x.tm x.mc)).tm (rpS.get z (placeR z x.tm x.mc)).mc x.tm x.mc = 0)) = foundR z x := rfl
            rw [hfd]
            clear hfd
            have hb5' := bthen (bthen hb HbA.out) hb5
            have Hown5 := Lib.hid (own_below Hown.out (bthen HbA.out hb5))
            have hbox5 := Hbox.out.on hb5
            clear hb5 f0 f1 f2 f3 f4 f5 f6 hgr
            have Hjs := Lib.hid (show joinStep z x = if foundR z x then (if rpS.get z (placeR z x.tm x.mc) = x then some z else none) else some (putR z x) from rfl)
            have Hpr := Lib.hid (show putR z x = ins z (placeR z x.tm x.mc) x from rfl)
            have Hfp := Lib.hid (fun (h : foundR z x = true) => show placeR z x.tm x.mc < z.length by unfold foundR at h; simp only [Bool.and_eq_true, decide_eq_true_eq] at h; exact h.1)
            obtain ⟨p, hp⟩ : ∃ p, placeR z x.tm x.mc = p := ⟨_, rfl⟩
            rw [hp] at Hjs Hpr Hfp Hpk ⊢
            clear hp
            cases hf : foundR z x
            · have Hnew := Lib.hid (show joinI xs (bs.take (k + 1)) = some (ins z p x) by rw [Hsucc.out, Hz.out]; show joinStep z x = _; rw [Hjs.out, hf, Hpr.out]; rfl)
              clear hf
              have q0 := hbox5.cell 0
              have q1 := hbox5.cell 1
              have q2 := hbox5.cell 2
              have q3 := hbox5.cell 3
              have q4 := hbox5.cell 4
              have q5 := hbox5.cell 5
              have q6 := hbox5.cell 6
              have ql := hbox5.lt
              have hlb : Below w.heap.size w (w5.alloc (Obj.cells #[.int .i64 x.tm, .int .i64 x.mc, .int .i64 x.a, .int .i64 x.b, .int .i64 x.lo, .int .i64 x.hi, .int .i64 x.to] 44)) := bal hb5' _
              have Hlb := Lib.hid hlb; clear hlb
              go_wp2_with fail
              refine (insRp_any _ z p x w5.heap.size w.heap.size _ (World.ownsRow.alloc Hown5.out _) (by omega) Hpk.out (Blk.new _ _ _) (by intro e; have h5 := (Hown5.out.lt _ e).2; omega) Hlb.out.size).mono ?_
              rintro e w6 ⟨v6, rfl, ho6, hg6⟩
              have hb6 : Below w.heap.size w w6 := Below.grown Hlb.out hg6 Hlb.out.size (fun j hj => (Hown5.out.lt j hj).1)
              have Ho6 := Lib.hid ho6
              clear ho6 hg6 q0 q1 q2 q3 q4 q5 q6 ql hbox5
              go_wp2
              go_roundw
              case rel => exact ⟨k + 1, ins z p x, by omega, by go_num, Hnew, by rw [length_ins]; omega, hb6, Ho6.out⟩
              case measure => simp [intOf]; omega
            · have hplt := Hfp.out hf
              obtain ⟨g2, cap2, rfl⟩ : ∃ g cap, u6 = .slice (some ⟨g, 0, none⟩) z.length cap := by
                rcases Hown5.out.2 with ⟨-, h0⟩ | ⟨g, cap, cur, h1, -⟩
                · omega
                · exact ⟨g, cap, h1⟩
              obtain ⟨e0, e1, e2, e3, e4, e5, e6⟩ := own_rp Hown5.out rfl hplt
              have hg2 := (own_base Hown5.out).2
              have hi2 : (0 : Int) ≤ (p : Int) := by omega
              have hi3 : (p : Int) < (z.length : Int) := by omega
              generalize hu : rpS.get z p = u at e0 e1 e2 e3 e4 e5 e6
              have Hu := Lib.hid hu; clear hu
              have Hf := Lib.hid hf; clear hf
              have q0 := hbox5.cell 0
              have q1 := hbox5.cell 1
              have q2 := hbox5.cell 2
              have q3 := hbox5.cell 3
              have q4 := hbox5.cell 4
              have q5 := hbox5.cell 5
              have q6 := hbox5.cell 6
              have ql := hbox5.lt
              have hql := neqRp u x
              by_cases hd : u = x
              · have Hnew := Lib.hid (show joinI xs (bs.take (k + 1)) = some z by rw [Hsucc.out, Hz.out]; show joinStep z x = _; rw [Hjs.out, Hf.out, if_pos rfl, Hu.out, if_pos hd])
                have hql2 : ∀ W, (binOp .neq 44 (.agg #[.int .i64 u.tm, .int .i64 u.mc, .int .i64 u.a, .int .i64 u.b, .int .i64 u.lo, .int .i64 u.hi, .int .i64 u.to]) (.agg #[.int .i64 x.tm, .int .i64 x.mc, .int .i64 x.a, .int .i64 x.b, .int .i64 x.lo, .int .i64 x.hi, .int .i64 x.to])).run Try.prog W = .ok (.bool false) W := fun W => by rw [hql W, decide_eq_true hd]; rfl
                clear hql hd
                go_wp2
                refine wp_region_tame (by kernel_rfl) (by kernel_rfl) (fun T _ W hT => ?_)
                have hx := hT.cell
                repeat (go_big_quiet_step (fail))
                refine wpQuiet_nil ?_
                intro t
                clear hx hbox5
                go_wp2
                go_roundw
                case rel => exact ⟨k + 1, z, by omega, by go_num, Hnew, by omega, bthen hb5' (hT.below t), own_below Hown5.out (hT.below t)⟩
                case measure => simp [intOf]; omega
              · have Hno := Lib.hid (show joinI xs bs = none by refine joinI_stop (k := k + 1) ?_; rw [Hsucc.out, Hz.out]; show joinStep z x = _; rw [Hjs.out, Hf.out, if_pos rfl, Hu.out, if_neg hd])
                have hql2 : ∀ W, (binOp .neq 44 (.agg #[.int .i64 u.tm, .int .i64 u.mc, .int .i64 u.a, .int .i64 u.b, .int .i64 u.lo, .int .i64 u.hi, .int .i64 u.to]) (.agg #[.int .i64 x.tm, .int .i64 x.mc, .int .i64 x.a, .int .i64 x.b, .int .i64 x.lo, .int .i64 x.hi, .int .i64 x.to])).run Try.prog W = .ok (.bool true) W := fun W => by rw [hql W, decide_eq_false hd]; rfl
                clear hql hd
                go_wp2
                refine wp_region_tame (by kernel_rfl) (by kernel_rfl) (fun T _ W hT => ?_)
                have hx := hT.cell
                repeat (go_big_quiet_step (fail))
                refine wpQuiet_nil ?_
                intro t
                clear hx hbox5
                go_wp2
                go_ret2
                exact ⟨⟨_, [], false, rfl, by rw [Hfin.out]; unfold joinV; rw [Hno.out], by simp [Shape.flat], Or.inl ⟨rfl, rfl⟩⟩, bthen hb5' (hT.below t)⟩
          · obtain rfl : k = bs.length := by omega
            have hd0 : decide (bs.length < bs.length) = false := decide_eq_false (by omega)
            have Hz' := Lib.hid (show joinI xs bs = some z by have := Hz.out; rwa [List.take_length] at this)
            have Hv := Lib.hid (show joinV xs bs = if z.length ≤ 20 then (z, true) else ([], false) by unfold joinV; rw [Hz'.out])
            obtain ⟨A1, c1, rfl, -, -, -⟩ := Rd.of_own (S := rpS) Hown.out rfl
            clear hcell
            by_cases hl : z.length ≤ 20
            · have hd : decide ((20 : Int) < (z.length : Int)) = false := decide_eq_false (by omega)
              have hd2 : decide (20 < z.length) = false := decide_eq_false (by omega)
              have Hl := Lib.hid hl; clear hl
              go_wp2
              go_ret2
              exact ⟨⟨_, z, true, rfl, by rw [Hfin.out, Hv.out, if_pos Hl.out], Hown.out⟩, hb⟩
            · have hd : decide ((20 : Int) < (z.length : Int)) = true := decide_eq_true (by omega)
              have hd2 : decide (20 < z.length) = true := decide_eq_true (by omega)
              have Hl := Lib.hid hl; clear hl
              go_wp2
              go_ret2
              exact ⟨⟨_, [], false, rfl, by rw [Hfin.out, Hv.out, if_neg Hl.out], by simp [Shape.flat], Or.inl ⟨rfl, rfl⟩⟩, hb⟩
end Go.Proofs.Ytkalelljncapdaa
