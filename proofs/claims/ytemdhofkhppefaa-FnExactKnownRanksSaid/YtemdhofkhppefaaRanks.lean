/- KnownRanks of the reference and of the program. Conditions: none. -/
import Derived.Test.YtemdhofkhppefaaFind2
import Derived.Test.YtemdhofkhppefaaSEntry
import Derived.Test.YtemdhofkhppefaaSInt
namespace Go.Proofs.Ytemdhofkhppefaa
open Go Go.RowKit

def rkStep (l : List Int) (x : En) : List Int := if x.lo = x.hi then l.set x.lo.toNat (l.getD x.lo.toNat 0 + 1) else l
def rkN (es : List En) : Nat → List Int
  | 0 => List.replicate 21 0
  | k + 1 => rkStep (rkN es k) (enS.get es k)
def ranksV (es : List En) : List Int × Bool := if catB es then (rkN es es.length, true) else ([], false)
theorem flat_int : ∀ l : List Int, inS.flat l = l.map (fun x => Value.int .i64 x)
  | [] => rfl
  | x :: l => by
    have := flat_int l
    unfold Shape.flat at *
    rw [List.flatMap_cons, this]
    rfl
theorem rk_len (es : List En) : ∀ k, (rkN es k).length = 21
  | 0 => by simp [rkN]
  | k + 1 => by
    have := rk_len es k
    unfold rkN rkStep
    split
    · rw [List.length_set]; exact this
    · exact this
theorem rk_bd (es : List En) : ∀ k i, 0 ≤ (rkN es k).getD i 0 ∧ (rkN es k).getD i 0 ≤ (k : Int)
  | 0, i => by
    unfold rkN
    rw [List.getD_eq_getElem?_getD, List.getElem?_replicate]
    split <;> simp
  | k + 1, i => by
    have h0 := rk_bd es k i
    have h1 := rk_bd es k (enS.get es k).lo.toNat
    have hc : ((k + 1 : Nat) : Int) = (k : Int) + 1 := by omega
    unfold rkN rkStep
    split
    · rw [List.getD_eq_getElem?_getD, List.getElem?_set]
      split
      · split
        · simp only [Option.getD_some]; omega
        · simp; omega
      · rw [← List.getD_eq_getElem?_getD]; omega
    · omega
theorem ranksV_bad {es : List En} (h : catB es = false) : ranksV es = ([], false) := by unfold ranksV; rw [h]; rfl
theorem ranksV_ok {es : List En} (h : catB es = true) : ranksV es = (rkN es es.length, true) := by unfold ranksV; rw [h]; rfl
theorem ranksV_len {es : List En} (y : List Int) (b : Bool) (h : ranksV es = (y, b)) : y.length ≤ 21 := by
  unfold ranksV at h
  split at h
  · obtain ⟨rfl, -⟩ := Prod.mk.inj h; rw [rk_len]; exact Nat.le_refl _
  · obtain ⟨rfl, -⟩ := Prod.mk.inj h; simp
theorem infoInt2 : (Try.prog.info? 3).map (fun i => (i.zero, i.size, i.bytes)) = some (some (.int .i64 0), 1, 8) := by kernel_rfl
theorem rk_zero : (madeCells #[.int .i64 0] (21 * 1)).toList = (List.replicate 21 (0 : Int)).map (fun x => Value.int .i64 x) := by
  simp [madeCells, List.range, List.range.loop, Nat.mod_one]
theorem rk_mk (W : World) : (Instr.makeSlice 30 (.int .i64 21) (.int .i64 21)).run Try.prog W = .ok (.slice (some ⟨W.heap.size, 0, none⟩) 21 21) (W.alloc (.cells (madeCells #[.int .i64 0] (21 * 1)) 3)) := by
  obtain ⟨i0, hi, hz0, hz1, hz2⟩ := info_parts infoInt2
  have := run_make (P := Try.prog) W 30 3 i0 _ Try.underlying30 hi hz0 .i64 .i64 21 21 (by omega) (Int.le_refl _) (by rw [hz2]; omega) (by omega)
  rw [hz1] at this
  exact this
theorem rk_made (W : World) (b : Nat) (hb : b ≤ W.heap.size) : (W.alloc (.cells (madeCells #[.int .i64 0] (21 * 1)) 3)).ownsRow b 3 1 (.slice (some ⟨W.heap.size, 0, none⟩) 21 21) 21 ((List.replicate 21 (0 : Int)).map (fun x => Value.int .i64 x)) := by
  rw [← rk_zero]
  exact World.ownsRow_lit (base := b) W _ 21 hb (by unfold maxLen; omega) (size_madeCells _ _)
theorem rk_at (es : List En) (k m : Nat) (hm : m < 21) : ((rkN es k).map (fun x => Value.int .i64 x))[m]? = some (.int .i64 ((rkN es k).getD m 0)) := by
  have h := rk_len es k
  rw [List.getElem?_map, List.getD_eq_getElem?_getD, List.getElem?_eq_getElem (by omega)]
  rfl
theorem rk_next (es : List En) (k m : Nat) (h1 : (enS.get es k).lo = m) (h2 : (enS.get es k).hi = m) : ((rkN es k).map (fun x => Value.int .i64 x)).set m (.int .i64 ((rkN es k).getD m 0 + 1)) = (rkN es (k + 1)).map (fun x => Value.int .i64 x) := by
  show _ = (rkStep (rkN es k) (enS.get es k)).map _
  unfold rkStep
  rw [if_pos (h1.trans h2.symm), h1, Int.toNat_natCast, List.map_set]
theorem rk_skip (es : List En) (k : Nat) (h1 : ¬ (enS.get es k).lo = (enS.get es k).hi) : rkN es (k + 1) = rkN es k := by
  show rkStep (rkN es k) (enS.get es k) = _
  unfold rkStep
  rw [if_neg h1]

set_option maxHeartbeats 4000000 in
theorem implRanks_any (v : Value) (es : List En) (w : World) (h : Rd enS w w.heap.size v es) :
    Calls Try.prog 15 #[v] w fun r w' => (∃ (v' : Value) (y : List Int) (b : Bool), r = .returned (.tuple #[v', .bool b]) ∧ ranksV es = (y, b) ∧ w'.ownsRow w.heap.size 3 1 v' y.length (inS.flat y)) ∧ Below w.heap.size w w' := by
  have hr := h
  obtain ⟨A, c, rfl, hcc, hm, hA⟩ := h
  unfold maxLen at hm
  have Hr := Lib.hid hr; clear hr
  have hmk := rk_mk
  have hmade := rk_made
  generalize madeCells #[.int .i64 0] (21 * 1) = Z at hmk hmade
  have Hmade := Lib.hid hmade; clear hmade
  cases hcat : catB es
  · go_enter Try.func15, Try.ntmps15
    go_wp2_with fail
    refine (isCatalogue_any _ es _ Hr.out).mono ?_; rintro e w1 ⟨rfl, hb1⟩
    rw [hcat]
    go_wp2
    go_ret2
    exact ⟨⟨_, [], false, rfl, ranksV_bad hcat, by simp [Shape.flat], Or.inl ⟨rfl, rfl⟩⟩, hb1⟩
  · have Hfin := Lib.hid (ranksV_ok hcat)
    have Hlen := Lib.hid (catB_spec hcat).1
    have Hval := Lib.hid (catB_spec hcat).2
    rcases Nat.eq_zero_or_pos es.length with h0 | h0
    · obtain rfl : es = [] := List.eq_nil_of_length_eq_zero h0
      clear hA h0
      go_enter Try.func15, Try.ntmps15
      go_wp2_with fail
      refine (isCatalogue_any _ [] _ Hr.out).mono ?_; rintro e w1 ⟨rfl, hb1⟩
      rw [hcat]
      have Hm := Lib.hid (Hmade.out w1 w.heap.size hb1.size)
      go_wp2
      refine wp_loop_rounds 1 ?_
      rw [rounds_succ]
      go_wp2
      go_ret2
      exact ⟨⟨_, _, _, rfl, Hfin.out, by rw [rk_len, flat_int]; exact Hm.out⟩, bal hb1 _⟩
    · obtain ⟨g, off, rfl, hg, hcell⟩ := hA h0
      clear hA
      have hcell := en_cells hcell
      go_enter Try.func15, Try.ntmps15
      go_wp2_with fail
      refine (isCatalogue_any _ es _ Hr.out).mono ?_; rintro e w1 ⟨rfl, hb1⟩
      rw [hcat]
      have Hm := Lib.hid (Hmade.out w1 w.heap.size hb1.size)
      go_wp2
      clear hmk
      go_loopw [13] (fun i wr => ∃ k : Nat, k ≤ es.length ∧ i = .int .i64 k ∧ Below w.heap.size w wr ∧ wr.ownsRow w.heap.size 3 1 (.slice (some ⟨w1.heap.size, 0, none⟩) 21 21) 21 ((rkN es k).map (fun x => Value.int .i64 x))) (fun i _ => es.length - (intOf i).toNat)
      case atStart => exact ⟨0, Nat.zero_le _, rfl, bal hb1 _, Hm.out⟩
      case round =>
        obtain ⟨k, hk, rfl, hbw, hown⟩ := hrel
        have hgo := (World.ownsRow.lt hown _ rfl).2
        have hz1 := hb1.size
        by_cases hlt : k < es.length
        · obtain ⟨f0, f1, f2, f3, f4⟩ := hcell k hlt
          rw [← hbw.cell (p := ⟨_, _, _⟩) hg] at f0 f1 f2 f3 f4
          have hbd := entB_bd (okAt_ent (Hval.out k hlt))
          have Hown := Lib.hid hown
          have hgr : g < wr.heap.size := Nat.lt_of_lt_of_le hg hbw.size
          have hi0 : (0 : Int) ≤ (k : Int) := by omega
          have hi1 : (k : Int) < (es.length : Int) := by omega
          clear hcell
          by_cases hd : (enS.get es k).lo = (enS.get es k).hi
          · obtain ⟨m, hm1⟩ : ∃ m : Nat, (enS.get es k).lo = m := ⟨(enS.get es k).lo.toNat, by omega⟩
            have hm2 : (enS.get es k).hi = m := by omega
            have hm3 : m < 21 := by omega
            have Hnx := Lib.hid (rk_next es k m hm1 hm2)
            have hu := hown.cellAt m (by omega)
            rw [rk_at es k m hm3] at hu
            have hub := rk_bd es k m
            have hl12 := Hlen.out
            rw [hm1] at f2
            rw [hm2] at f3
            have hfr := hown.frozenAt m
            generalize (rkN es k).getD m 0 = u at hu hub Hnx
            clear hown hd hbd hm1 hm2
            generalize enS.get es k = x at f0 f1 f2 f3 f4
            have hj0 : (0 : Int) ≤ (m : Int) := by omega
            have hj1 : (m : Int) < 21 := by omega
            have hwu : IntKind.i64.wrap (u + 1) = u + 1 := by first | exact RowKit.wrap64_of_bounds (by omega) (by omega) | (simp [IntKind.wrap, IntKind.bits, IntKind.signed]; omega) | (unfold IntKind.wrap; simp; omega)
            go_wp2
            go_roundw
            case rel =>
              refine ⟨k + 1, by omega, by go_num, by (repeat (with_reducible first | exact Below.refl _ _ | assumption | refine bal ?_ _ | refine bst ?_ (by simp <;> omega) _ | refine Below.drew ?_ | refine bthen ?_ (by assumption))), ?_⟩
              have h1 := (Hown.out.stored m (.int .i64 (u + 1))).1
              rw [Hnx.out] at h1
              have h2 := h1.alloc (Obj.cells #[.int .i64 x.a, .int .i64 x.b, .int .i64 (m : Int), .int .i64 (m : Int), .int .i64 x.to] 53)
              simpa [hwu] using h2
            case measure => simp [intOf]; omega
          · have Hsk := Lib.hid (rk_skip es k hd)
            clear hown
            generalize enS.get es k = x at f0 f1 f2 f3 f4 hd hbd
            go_wp2
            go_roundw
            case rel =>
              refine ⟨k + 1, by omega, by go_num, by (repeat (with_reducible first | exact Below.refl _ _ | assumption | refine bal ?_ _ | refine bst ?_ (by simp <;> omega) _ | refine Below.drew ?_ | refine bthen ?_ (by assumption))), ?_⟩
              rw [Hsk.out]
              exact Hown.out.alloc _
            case measure => simp [intOf]; omega
        · have hd : decide (k < es.length) = false := decide_eq_false hlt
          obtain rfl : k = es.length := by omega
          have Hown := Lib.hid hown
          clear hcell hown
          go_wp2
          go_ret2
          exact ⟨⟨_, _, .inr ⟨rfl, Hfin.out, by rw [rk_len, flat_int]; exact Hown.out⟩⟩, hbw⟩
set_option maxHeartbeats 4000000 in
theorem specRanks_any (v : Value) (es : List En) (w : World) (h : Rd enS w w.heap.size v es) :
    Calls Try.prog 14 #[v] w fun r w' => (∃ (v' : Value) (y : List Int) (b : Bool), r = .returned (.tuple #[v', .bool b]) ∧ ranksV es = (y, b) ∧ w'.ownsRow w.heap.size 3 1 v' y.length (inS.flat y)) ∧ Below w.heap.size w w' := by
  have hr := h
  obtain ⟨A, c, rfl, hcc, hm, hA⟩ := h
  unfold maxLen at hm
  have Hr := Lib.hid hr; clear hr
  have hmk := rk_mk
  have hmade := rk_made
  generalize madeCells #[.int .i64 0] (21 * 1) = Z at hmk hmade
  have Hmade := Lib.hid hmade; clear hmade
  cases hcat : catB es
  · go_enter Try.func14, Try.ntmps14
    go_wp2_with fail
    refine (caGood_any _ es _ Hr.out).mono ?_; rintro e w1 ⟨rfl, hb1⟩
    rw [hcat]
    go_wp2
    go_ret2
    exact ⟨⟨_, [], false, rfl, ranksV_bad hcat, by simp [Shape.flat], Or.inl ⟨rfl, rfl⟩⟩, hb1⟩
  · have Hfin := Lib.hid (ranksV_ok hcat)
    have Hlen := Lib.hid (catB_spec hcat).1
    have Hval := Lib.hid (catB_spec hcat).2
    rcases Nat.eq_zero_or_pos es.length with h0 | h0
    · obtain rfl : es = [] := List.eq_nil_of_length_eq_zero h0
      clear hA h0
      go_enter Try.func14, Try.ntmps14
      go_wp2_with fail
      refine (caGood_any _ [] _ Hr.out).mono ?_; rintro e w1 ⟨rfl, hb1⟩
      rw [hcat]
      have Hm := Lib.hid (Hmade.out w1 w.heap.size hb1.size)
      go_wp2
      refine wp_loop_rounds 1 ?_
      rw [rounds_succ]
      go_wp2
      go_ret2
      exact ⟨⟨_, _, _, rfl, Hfin.out, by rw [rk_len, flat_int]; exact Hm.out⟩, bal hb1 _⟩
    · obtain ⟨g, off, rfl, hg, hcell⟩ := hA h0
      clear hA
      have hcell := en_cells hcell
      go_enter Try.func14, Try.ntmps14
      go_wp2_with fail
      refine (caGood_any _ es _ Hr.out).mono ?_; rintro e w1 ⟨rfl, hb1⟩
      rw [hcat]
      have Hm := Lib.hid (Hmade.out w1 w.heap.size hb1.size)
      go_wp2
      clear hmk
      go_loopw [13] (fun i wr => ∃ k : Nat, k ≤ es.length ∧ i = .int .i64 k ∧ Below w.heap.size w wr ∧ wr.ownsRow w.heap.size 3 1 (.slice (some ⟨w1.heap.size, 0, none⟩) 21 21) 21 ((rkN es k).map (fun x => Value.int .i64 x))) (fun i _ => es.length - (intOf i).toNat)
      case atStart => exact ⟨0, Nat.zero_le _, rfl, bal hb1 _, Hm.out⟩
      case round =>
        obtain ⟨k, hk, rfl, hbw, hown⟩ := hrel
        have hgo := (World.ownsRow.lt hown _ rfl).2
        have hz1 := hb1.size
        by_cases hlt : k < es.length
        · obtain ⟨f0, f1, f2, f3, f4⟩ := hcell k hlt
          rw [← hbw.cell (p := ⟨_, _, _⟩) hg] at f0 f1 f2 f3 f4
          have hbd := entB_bd (okAt_ent (Hval.out k hlt))
          have Hown := Lib.hid hown
          have hgr : g < wr.heap.size := Nat.lt_of_lt_of_le hg hbw.size
          have hi0 : (0 : Int) ≤ (k : Int) := by omega
          have hi1 : (k : Int) < (es.length : Int) := by omega
          clear hcell
          by_cases hd : (enS.get es k).lo = (enS.get es k).hi
          · obtain ⟨m, hm1⟩ : ∃ m : Nat, (enS.get es k).lo = m := ⟨(enS.get es k).lo.toNat, by omega⟩
            have hm2 : (enS.get es k).hi = m := by omega
            have hm3 : m < 21 := by omega
            have Hnx := Lib.hid (rk_next es k m hm1 hm2)
            have hu := hown.cellAt m (by omega)
            rw [rk_at es k m hm3] at hu
            have hub := rk_bd es k m
            have hl12 := Hlen.out
            rw [hm1] at f2
            rw [hm2] at f3
            have hfr := hown.frozenAt m
            generalize (rkN es k).getD m 0 = u at hu hub Hnx
            clear hown hd hbd hm1 hm2
            generalize enS.get es k = x at f0 f1 f2 f3 f4
            have hj0 : (0 : Int) ≤ (m : Int) := by omega
            have hj1 : (m : Int) < 21 := by omega
            have hwu : IntKind.i64.wrap (u + 1) = u + 1 := by first | exact RowKit.wrap64_of_bounds (by omega) (by omega) | (simp [IntKind.wrap, IntKind.bits, IntKind.signed]; omega) | (unfold IntKind.wrap; simp; omega)
            go_wp2
            go_roundw
            case rel =>
              refine ⟨k + 1, by omega, by go_num, by (repeat (with_reducible first | exact Below.refl _ _ | assumption | refine bal ?_ _ | refine bst ?_ (by simp <;> omega) _ | refine Below.drew ?_ | refine bthen ?_ (by assumption))), ?_⟩
              have h1 := (Hown.out.stored m (.int .i64 (u + 1))).1
              rw [Hnx.out] at h1
              have h2 := h1.alloc (Obj.cells #[.int .i64 x.a, .int .i64 x.b, .int .i64 (m : Int), .int .i64 (m : Int), .int .i64 x.to] 53)
              simpa [hwu] using h2
            case measure => simp [intOf]; omega
          · have Hsk := Lib.hid (rk_skip es k hd)
            clear hown
            generalize enS.get es k = x at f0 f1 f2 f3 f4 hd hbd
            go_wp2
            go_roundw
            case rel =>
              refine ⟨k + 1, by omega, by go_num, by (repeat (with_reducible first | exact Below.refl _ _ | assumption | refine bal ?_ _ | refine bst ?_ (by simp <;> omega) _ | refine Below.drew ?_ | refine bthen ?_ (by assumption))), ?_⟩
              rw [Hsk.out]
              exact Hown.out.alloc _
            case measure => simp [intOf]; omega
        · have hd : decide (k < es.length) = false := decide_eq_false hlt
          obtain rfl : k = es.length := by omega
          have Hown := Lib.hid hown
          clear hcell hown
          go_wp2
          go_ret2
          exact ⟨⟨_, _, .inr ⟨rfl, Hfin.out, by rw [rk_len, flat_int]; exact Hown.out⟩⟩, hbw⟩
end Go.Proofs.Ytemdhofkhppefaa
