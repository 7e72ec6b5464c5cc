/- The entry with the greatest difference of its bounds: both functions. Conditions: none. -/
import Derived.Test.YtbaobchmhgmliaaGoodEntry
namespace Go.Proofs.Ytbaobchmhgmliaa
open Go Go.RowKit

/-- The entry with the greatest difference among the first k, the first one of several. -/
def bestAt (es : List En) : Nat → En
  | 0 => enS.get es 0
  | k + 1 => if (bestAt es k).hi - (bestAt es k).lo < (enS.get es k).hi - (enS.get es k).lo then enS.get es k else bestAt es k
theorem okAt_bd {es : List En} {k : Nat} (h : okAt es k = true) : 0 ≤ (enS.get es k).lo ∧ (enS.get es k).lo ≤ (enS.get es k).hi ∧ (enS.get es k).hi ≤ 20 := by
  unfold okAt at h
  simp only [Bool.and_eq_true] at h
  obtain ⟨h1, h2, h3, _⟩ := entB_bd h.1
  exact ⟨h1, h2, h3⟩
theorem bestAt_bd {es : List En} (h : ∀ k, k < es.length → okAt es k = true) (h0 : 0 < es.length) : ∀ k, k ≤ es.length → 0 ≤ (bestAt es k).lo ∧ (bestAt es k).lo ≤ (bestAt es k).hi ∧ (bestAt es k).hi ≤ 20
  | 0, _ => okAt_bd (h 0 h0)
  | k + 1, hk => by
    unfold bestAt
    split
    · exact okAt_bd (h k (by omega))
    · exact bestAt_bd h h0 k (by omega)
def widV (es : List En) : En × Bool := if catB es && decide (0 < es.length) then (bestAt es es.length, true) else (⟨0, 0, 0, 0, 0⟩, false)

set_option maxHeartbeats 1600000 in
theorem specWidest_any (v : Value) (es : List En) (w : World) (h : Rd enS w w.heap.size v es) :
    Calls Try.prog 24 #[v] w fun e w' => (∃ (x : En) (b : Bool), e = .returned (.tuple #[.agg #[.int .i64 x.a, .int .i64 x.b, .int .i64 x.lo, .int .i64 x.hi, .int .i64 x.to], .bool b]) ∧ widV es = (x, b)) ∧ Below w.heap.size w w' := by
  have hr := h
  obtain ⟨A, c, rfl, hc, hm, hA⟩ := h
  unfold maxLen at hm
  cases hcat : catB es
  · have hfin : widV es = (⟨0, 0, 0, 0, 0⟩, false) := by unfold widV; rw [hcat]; rfl
    have Hfin := Lib.hid hfin; clear hfin
    have Hr := Lib.hid hr; clear hr
    go_enter Try.func24, Try.ntmps24
    go_wp2_with fail
    refine (caGood_any _ es _ (Hr.out.on (bal (Below.refl _ _) _))).mono ?_; rintro e w1 ⟨rfl, hb1⟩
    obtain ⟨hc1, hf1⟩ := bcell hb1
    rw [hcat]
    go_wp2
    exact bodyPost_ret (v := .tuple #[.agg #[.int .i64 0, .int .i64 0, .int .i64 0, .int .i64 0, .int .i64 0], .bool false]) (by simp [results, Try.results24, go_sem, hc1]) rfl ⟨⟨⟨0, 0, 0, 0, 0⟩, false, rfl, Hfin.out⟩, by (repeat (with_reducible first | exact Below.refl _ _ | assumption | refine bal ?_ _ | refine bst ?_ (by simp <;> omega) _ | refine Below.drew ?_ | refine bthen ?_ (by assumption)))⟩
  · rcases Nat.eq_zero_or_pos es.length with h0 | h0
    · obtain rfl : es = [] := List.eq_nil_of_length_eq_zero h0
      have Hr := Lib.hid hr; clear hr
      go_enter Try.func24, Try.ntmps24
      go_wp2_with fail
      refine (caGood_any _ [] _ (Hr.out.on (bal (Below.refl _ _) _))).mono ?_; rintro e w1 ⟨rfl, hb1⟩
      obtain ⟨hc1, hf1⟩ := bcell hb1
      rw [hcat]
      go_wp2
      exact bodyPost_ret (v := .tuple #[.agg #[.int .i64 0, .int .i64 0, .int .i64 0, .int .i64 0, .int .i64 0], .bool false]) (by simp [results, Try.results24, go_sem, hc1]) rfl ⟨⟨⟨0, 0, 0, 0, 0⟩, false, rfl, rfl⟩, by (repeat (with_reducible first | exact Below.refl _ _ | assumption | refine bal ?_ _ | refine bst ?_ (by simp <;> omega) _ | refine Below.drew ?_ | refine bthen ?_ (by assumption)))⟩
    · obtain ⟨g, off, rfl, hg, hcell⟩ := hA h0
      clear hA
      have hcell := en_cells hcell
      have hne : ((es.length : Int) == 0) = false := by rw [beq_eq_false_iff_ne]; omega
      have hv := (catB_spec hcat).2
      have hfin : widV es = (bestAt es es.length, true) := by
        unfold widV
        rw [hcat, decide_eq_true h0]; rfl
      have Hfin := Lib.hid hfin; clear hfin
      have Hv := Lib.hid hv; clear hv
      have Hr := Lib.hid hr; clear hr
      obtain ⟨f0, f1, f2, f3, f4⟩ := hcell 0 h0
      have Hcell := Lib.hid hcell; clear hcell
      rw [Nat.zero_mul, Nat.add_zero] at f0 f1 f2 f3 f4
      go_enter Try.func24, Try.ntmps24
      go_wp2_with fail
      have hbA : Below w.heap.size w (w.alloc _) := bal (Below.refl _ _) (Obj.cells #[.int .i64 0, .int .i64 0, .int .i64 0, .int .i64 0, .int .i64 0] 36)
      refine (caGood_any _ es _ (Hr.out.on hbA)).mono ?_; rintro e w1 ⟨rfl, hb1⟩
      have hres : Blk w1 w.heap.size 36 _ := (Blk.new w _ _).on hb1
      have hb1' := bthen hbA hb1
      have hsz : w.heap.size < w1.heap.size := hres.lt
      have hg1 : g < w1.heap.size := by omega
      rw [← hb1'.cell (p := ⟨_, _, _⟩) hg] at f0 f1 f2 f3 f4
      rw [hcat]
      go_wp2
      have hx0 : Blk _ w1.heap.size 36 #[.int .i64 (enS.get es 0).a, .int .i64 (enS.get es 0).b, .int .i64 (enS.get es 0).lo, .int .i64 (enS.get es 0).hi, .int .i64 (enS.get es 0).to] := Blk.new w1 _ _
      have Hb1' := Lib.hid hb1'; clear hb1'
      go_loopw [21] (fun i wr => ∃ k : Nat, k ≤ es.length ∧ i = .int .i64 k ∧ Below w1.heap.size w1 wr ∧ Blk wr w1.heap.size 36 #[.int .i64 (bestAt es k).a, .int .i64 (bestAt es k).b, .int .i64 (bestAt es k).lo, .int .i64 (bestAt es k).hi, .int .i64 (bestAt es k).to]) (fun i _ => es.length - (intOf i).toNat)
      case atStart => exact ⟨0, Nat.zero_le _, rfl, bal (Below.refl _ _) _, hx0⟩
      case round =>
        obtain ⟨k, hk, rfl, hb, hblk⟩ := hrel
        clear hx0 f0 f1 f2 f3 f4
        have blt := hblk.lt
        by_cases hlt : k < es.length
        · obtain ⟨f0, f1, f2, f3, f4⟩ := Hcell.out k hlt
          rw [← (bthen Hb1'.out hb).cell (p := ⟨_, _, _⟩) hg] at f0 f1 f2 f3 f4
          have hbd := bestAt_bd Hv.out h0 k (by omega)
          have hbe := okAt_bd (Hv.out k hlt)
          have hbs : bestAt es (k + 1) = if (bestAt es k).hi - (bestAt es k).lo < (enS.get es k).hi - (enS.get es k).lo then enS.get es k else bestAt es k := rfl
          have hy : ∃ y, bestAt es (k + 1) = y := ⟨_, rfl⟩
          obtain ⟨y, hy⟩ := hy
          rw [hy] at hbs
          have Hy := Lib.hid hy; clear hy
          generalize bestAt es k = x at hblk hbs hbd
          generalize enS.get es k = z at hbs f0 f1 f2 f3 f4 hbe
          have b0 : wr.cell? ⟨w1.heap.size, 0, none⟩ = some (.int .i64 x.a) := hblk.cell 0
          have b1 : wr.cell? ⟨w1.heap.size, 1, none⟩ = some (.int .i64 x.b) := hblk.cell 1
          have b2 : wr.cell? ⟨w1.heap.size, 2, none⟩ = some (.int .i64 x.lo) := hblk.cell 2
          have b3 : wr.cell? ⟨w1.heap.size, 3, none⟩ = some (.int .i64 x.hi) := hblk.cell 3
          have b4 : wr.cell? ⟨w1.heap.size, 4, none⟩ = some (.int .i64 x.to) := hblk.cell 4
          have bf := hblk.frozen
          obtain ⟨d1, d2, d3⟩ := hbd
          obtain ⟨e1, e2, e3⟩ := hbe
          by_cases hgt : x.hi - x.lo < z.hi - z.lo
          · rw [if_pos hgt] at hbs
            have Hbs := Lib.hid hbs; clear hbs
            go_wp2
            go_roundw
            case rel =>
              refine ⟨k + 1, by omega, by go_num, ?_, ?_⟩
              · (repeat (with_reducible first | exact Below.refl _ _ | assumption | refine bal ?_ _ | refine bst ?_ (by simp <;> omega) _ | refine Below.drew ?_ | refine bthen ?_ (by assumption)))
              · rw [Hy.out, Hbs.out]
                exact hblk.set5.alloc _
            case measure => simp [intOf]; omega
          · rw [if_neg hgt] at hbs
            have Hbs := Lib.hid hbs; clear hbs
            go_wp2
            go_roundw
            case rel =>
              refine ⟨k + 1, by omega, by go_num, ?_, ?_⟩
              · (repeat (with_reducible first | exact Below.refl _ _ | assumption | refine bal ?_ _ | refine bst ?_ (by simp <;> omega) _ | refine Below.drew ?_ | refine bthen ?_ (by assumption)))
              · rw [Hy.out, Hbs.out]
                exact hblk.alloc _
            case measure => simp [intOf]; omega
        · have hke : k = es.length := by omega
          rw [← hke] at Hfin
          have Hke := Lib.hid hke; clear hke
          generalize bestAt es k = x at hblk Hfin
          have b0 : wr.cell? ⟨w1.heap.size, 0, none⟩ = some (.int .i64 x.a) := hblk.cell 0
          have b1 : wr.cell? ⟨w1.heap.size, 1, none⟩ = some (.int .i64 x.b) := hblk.cell 1
          have b2 : wr.cell? ⟨w1.heap.size, 2, none⟩ = some (.int .i64 x.lo) := hblk.cell 2
          have b3 : wr.cell? ⟨w1.heap.size, 3, none⟩ = some (.int .i64 x.hi) := hblk.cell 3
          have b4 : wr.cell? ⟨w1.heap.size, 4, none⟩ = some (.int .i64 x.to) := hblk.cell 4
          have hr2 := hres.below hb hsz
          have r0 : wr.cell? ⟨w.heap.size, 0, none⟩ = some (.int .i64 0) := hr2.cell 0
          have r1 : wr.cell? ⟨w.heap.size, 1, none⟩ = some (.int .i64 0) := hr2.cell 1
          have r2 : wr.cell? ⟨w.heap.size, 2, none⟩ = some (.int .i64 0) := hr2.cell 2
          have r3 : wr.cell? ⟨w.heap.size, 3, none⟩ = some (.int .i64 0) := hr2.cell 3
          have r4 : wr.cell? ⟨w.heap.size, 4, none⟩ = some (.int .i64 0) := hr2.cell 4
          have rf := hr2.frozen
          go_wp2
          have hbz := bthen Hb1'.out hb
          exact bodyPost_ret (v := .tuple #[.agg #[.int .i64 x.a, .int .i64 x.b, .int .i64 x.lo, .int .i64 x.hi, .int .i64 x.to], .bool true]) (by simp [results, Try.results24, go_sem, r0, r1, r2, r3, r4]) rfl ⟨⟨x, true, rfl, Hfin.out⟩, by (repeat (with_reducible first | exact Below.refl _ _ | assumption | refine bal ?_ _ | refine bst ?_ (by simp <;> omega) _ | refine Below.drew ?_ | refine bthen ?_ (by assumption)))⟩
set_option maxHeartbeats 1600000 in
theorem implWidest_any (v : Value) (es : List En) (w : World) (h : Rd enS w w.heap.size v es) :
    Calls Try.prog 25 #[v] w fun e w' => (∃ (x : En) (b : Bool), e = .returned (.tuple #[.agg #[.int .i64 x.a, .int .i64 x.b, .int .i64 x.lo, .int .i64 x.hi, .int .i64 x.to], .bool b]) ∧ widV es = (x, b)) ∧ Below w.heap.size w w' := by
  have hr := h
  obtain ⟨A, c, rfl, hc, hm, hA⟩ := h
  unfold maxLen at hm
  cases hcat : catB es
  · have hfin : widV es = (⟨0, 0, 0, 0, 0⟩, false) := by unfold widV; rw [hcat]; rfl
    have Hfin := Lib.hid hfin; clear hfin
    have Hr := Lib.hid hr; clear hr
    go_enter Try.func25, Try.ntmps25
    go_wp2_with fail
    refine (isCatalogue_any _ es _ (Hr.out.on (bal (Below.refl _ _) _))).mono ?_; rintro e w1 ⟨rfl, hb1⟩
    obtain ⟨hc1, hf1⟩ := bcell hb1
    rw [hcat]
    go_wp2
    exact bodyPost_ret (v := .tuple #[.agg #[.int .i64 0, .int .i64 0, .int .i64 0, .int .i64 0, .int .i64 0], .bool false]) (by simp [results, Try.results25, go_sem, hc1]) rfl ⟨⟨⟨0, 0, 0, 0, 0⟩, false, rfl, Hfin.out⟩, by (repeat (with_reducible first | exact Below.refl _ _ | assumption | refine bal ?_ _ | refine bst ?_ (by simp <;> omega) _ | refine Below.drew ?_ | refine bthen ?_ (by assumption)))⟩
  · rcases Nat.eq_zero_or_pos es.length with h0 | h0
    · obtain rfl : es = [] := List.eq_nil_of_length_eq_zero h0
      have Hr := Lib.hid hr; clear hr
      go_enter Try.func25, Try.ntmps25
      go_wp2_with fail
      refine (isCatalogue_any _ [] _ (Hr.out.on (bal (Below.refl _ _) _))).mono ?_; rintro e w1 ⟨rfl, hb1⟩
      obtain ⟨hc1, hf1⟩ := bcell hb1
      rw [hcat]
      go_wp2
      exact bodyPost_ret (v := .tuple #[.agg #[.int .i64 0, .int .i64 0, .int .i64 0, .int .i64 0, .int .i64 0], .bool false]) (by simp [results, Try.results25, go_sem, hc1]) rfl ⟨⟨⟨0, 0, 0, 0, 0⟩, false, rfl, rfl⟩, by (repeat (with_reducible first | exact Below.refl _ _ | assumption | refine bal ?_ _ | refine bst ?_ (by simp <;> omega) _ | refine Below.drew ?_ | refine bthen ?_ (by assumption)))⟩
    · obtain ⟨g, off, rfl, hg, hcell⟩ := hA h0
      clear hA
      have hcell := en_cells hcell
      have hne : ((es.length : Int) == 0) = false := by rw [beq_eq_false_iff_ne]; omega
      have hv := (catB_spec hcat).2
      have hfin : widV es = (bestAt es es.length, true) := by
        unfold widV
        rw [hcat, decide_eq_true h0]; rfl
      have Hfin := Lib.hid hfin; clear hfin
      have Hv := Lib.hid hv; clear hv
      have Hr := Lib.hid hr; clear hr
      obtain ⟨f0, f1, f2, f3, f4⟩ := hcell 0 h0
      have Hcell := Lib.hid hcell; clear hcell
      rw [Nat.zero_mul, Nat.add_zero] at f0 f1 f2 f3 f4
      go_enter Try.func25, Try.ntmps25
      go_wp2_with fail
      have hbA : Below w.heap.size w (w.alloc _) := bal (Below.refl _ _) (Obj.cells #[.int .i64 0, .int .i64 0, .int .i64 0, .int .i64 0, .int .i64 0] 36)
      refine (isCatalogue_any _ es _ (Hr.out.on hbA)).mono ?_; rintro e w1 ⟨rfl, hb1⟩
      have hres : Blk w1 w.heap.size 36 _ := (Blk.new w _ _).on hb1
      have hb1' := bthen hbA hb1
      have hsz : w.heap.size < w1.heap.size := hres.lt
      have hg1 : g < w1.heap.size := by omega
      rw [← hb1'.cell (p := ⟨_, _, _⟩) hg] at f0 f1 f2 f3 f4
      rw [hcat]
      go_wp2
      have hx0 : Blk _ w1.heap.size 36 #[.int .i64 (enS.get es 0).a, .int .i64 (enS.get es 0).b, .int .i64 (enS.get es 0).lo, .int .i64 (enS.get es 0).hi, .int .i64 (enS.get es 0).to] := Blk.new w1 _ _
      have Hb1' := Lib.hid hb1'; clear hb1'
      go_loopw [21] (fun i wr => ∃ k : Nat, k ≤ es.length ∧ i = .int .i64 k ∧ Below w1.heap.size w1 wr ∧ Blk wr w1.heap.size 36 #[.int .i64 (bestAt es k).a, .int .i64 (bestAt es k).b, .int .i64 (bestAt es k).lo, .int .i64 (bestAt es k).hi, .int .i64 (bestAt es k).to]) (fun i _ => es.length - (intOf i).toNat)
      case atStart => exact ⟨0, Nat.zero_le _, rfl, bal (Below.refl _ _) _, hx0⟩
      case round =>
        obtain ⟨k, hk, rfl, hb, hblk⟩ := hrel
        clear hx0 f0 f1 f2 f3 f4
        have blt := hblk.lt
        by_cases hlt : k < es.length
        · obtain ⟨f0, f1, f2, f3, f4⟩ := Hcell.out k hlt
          rw [← (bthen Hb1'.out hb).cell (p := ⟨_, _, _⟩) hg] at f0 f1 f2 f3 f4
          have hbd := bestAt_bd Hv.out h0 k (by omega)
          have hbe := okAt_bd (Hv.out k hlt)
          have hbs : bestAt es (k + 1) = if (bestAt es k).hi - (bestAt es k).lo < (enS.get es k).hi - (enS.get es k).lo then enS.get es k else bestAt es k := rfl
          have hy : ∃ y, bestAt es (k + 1) = y := ⟨_, rfl⟩
          obtain ⟨y, hy⟩ := hy
          rw [hy] at hbs
          have Hy := Lib.hid hy; clear hy
          generalize bestAt es k = x at hblk hbs hbd
          generalize enS.get es k = z at hbs f0 f1 f2 f3 f4 hbe
          have b0 : wr.cell? ⟨w1.heap.size, 0, none⟩ = some (.int .i64 x.a) := hblk.cell 0
          have b1 : wr.cell? ⟨w1.heap.size, 1, none⟩ = some (.int .i64 x.b) := hblk.cell 1
          have b2 : wr.cell? ⟨w1.heap.size, 2, none⟩ = some (.int .i64 x.lo) := hblk.cell 2
          have b3 : wr.cell? ⟨w1.heap.size, 3, none⟩ = some (.int .i64 x.hi) := hblk.cell 3
          have b4 : wr.cell? ⟨w1.heap.size, 4, none⟩ = some (.int .i64 x.to) := hblk.cell 4
          have bf := hblk.frozen
          obtain ⟨d1, d2, d3⟩ := hbd
          obtain ⟨e1, e2, e3⟩ := hbe
          by_cases hgt : x.hi - x.lo < z.hi - z.lo
          · rw [if_pos hgt] at hbs
            have Hbs := Lib.hid hbs; clear hbs
            go_wp2
            go_roundw
            case rel =>
              refine ⟨k + 1, by omega, by go_num, ?_, ?_⟩
              · (repeat (with_reducible first | exact Below.refl _ _ | assumption | refine bal ?_ _ | refine bst ?_ (by simp <;> omega) _ | refine Below.drew ?_ | refine bthen ?_ (by assumption)))
              · rw [Hy.out, Hbs.out]
                exact hblk.set5.alloc _
            case measure => simp [intOf]; omega
          · rw [if_neg hgt] at hbs
            have Hbs := Lib.hid hbs; clear hbs
            go_wp2
            go_roundw
            case rel =>
              refine ⟨k + 1, by omega, by go_num, ?_, ?_⟩
              · (repeat (with_reducible first | exact Below.refl _ _ | assumption | refine bal ?_ _ | refine bst ?_ (by simp <;> omega) _ | refine Below.drew ?_ | refine bthen ?_ (by assumption)))
              · rw [Hy.out, Hbs.out]
                exact hblk.alloc _
            case measure => simp [intOf]; omega
        · have hke : k = es.length := by omega
          rw [← hke] at Hfin
          have Hke := Lib.hid hke; clear hke
          generalize bestAt es k = x at hblk Hfin
          have b0 : wr.cell? ⟨w1.heap.size, 0, none⟩ = some (.int .i64 x.a) := hblk.cell 0
          have b1 : wr.cell? ⟨w1.heap.size, 1, none⟩ = some (.int .i64 x.b) := hblk.cell 1
          have b2 : wr.cell? ⟨w1.heap.size, 2, none⟩ = some (.int .i64 x.lo) := hblk.cell 2
          have b3 : wr.cell? ⟨w1.heap.size, 3, none⟩ = some (.int .i64 x.hi) := hblk.cell 3
          have b4 : wr.cell? ⟨w1.heap.size, 4, none⟩ = some (.int .i64 x.to) := hblk.cell 4
          have hr2 := hres.below hb hsz
          have r0 : wr.cell? ⟨w.heap.size, 0, none⟩ = some (.int .i64 0) := hr2.cell 0
          have r1 : wr.cell? ⟨w.heap.size, 1, none⟩ = some (.int .i64 0) := hr2.cell 1
          have r2 : wr.cell? ⟨w.heap.size, 2, none⟩ = some (.int .i64 0) := hr2.cell 2
          have r3 : wr.cell? ⟨w.heap.size, 3, none⟩ = some (.int .i64 0) := hr2.cell 3
          have r4 : wr.cell? ⟨w.heap.size, 4, none⟩ = some (.int .i64 0) := hr2.cell 4
          have rf := hr2.frozen
          go_wp2
          have hbz := bthen Hb1'.out hb
          exact bodyPost_ret (v := .tuple #[.agg #[.int .i64 x.a, .int .i64 x.b, .int .i64 x.lo, .int .i64 x.hi, .int .i64 x.to], .bool true]) (by simp [results, Try.results25, go_sem, r0, r1, r2, r3, r4]) rfl ⟨⟨x, true, rfl, Hfin.out⟩, by (repeat (with_reducible first | exact Below.refl _ _ | assumption | refine bal ?_ _ | refine bst ?_ (by simp <;> omega) _ | refine Below.drew ?_ | refine bthen ?_ (by assumption)))⟩
end Go.Proofs.Ytbaobchmhgmliaa
