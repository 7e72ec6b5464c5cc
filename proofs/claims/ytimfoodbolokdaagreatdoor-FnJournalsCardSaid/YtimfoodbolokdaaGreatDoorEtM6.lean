/- Own texts put together: The entry with the greatest difference of its bounds: both functions; Numerals of the reference; Numerals of the reference, of whatever length; Numerals and texts of both: strconv; The line of a record: sealRecord of the program and jrLine of the reference; SealRecord of both; Plain laws under the journal: numerals are read back; a text of words parted by a byte is parted into these words; What a journal's functions lean on besides memory of their own: the table of powers of ten, a world of the program's shape, strconv's two sentinels; strings; The program's reader of a record's line; Plain laws of a journal's text: the records at the beginning of a text, and how many bytes they have; Plain laws under the reference's readers: a text parted at a byte, numerals read, a curve's text read. Conditions: those of each theorem. -/
import Derived.Test.YtimfoodbolokdaaGreatDoorEtM1
import Derived.Lib.ItoaNum
import Derived.Laws.IdiomStrings
import Derived.Deep.RegionHeld3
import Derived.Test.YtimfoodbolokdaaGreatDoorShelf
import Derived.Lib.Join
import Derived.Lib.AtoiTie
import Derived.Lib.SplitLaws
import Derived.ChangeAgain
import Derived.WalkSmall
import Derived.Lib.AtoiAllCases
import Derived.Lib.Bytealg
namespace Go.Proofs.YtimfoodbolokdaaGreatDoor
section
open Go Go.RowKit

/-- The entry with the greatest difference among the first k, the first one of several. -/
def bestAt (es : List En) : Nat → En
  | 0 => enS.get es 0
  | k + 1 => if (bestAt es k).hi - (bestAt es k).lo < (enS.get es k).hi - (enS.get es k).lo then enS.get es k else bestAt es k
theorem okAt_bd {es : List En} {k : Nat} (h : okAt es k = true) : 0 ≤ (enS.get es k).lo ∧ (enS.get es k).lo ≤ (enS.get es k).hi ∧ (enS.get es k).hi ≤ 20 := by
  unfold okAt at h
  simp only [Bool.and_eq_true] at h
  obtain ⟨h1, h2, h3, _⟩ := entB_bd h.1
  exact ⟨h1, h2, h3⟩
theorem bestAt_bd {es : List En} (h : ∀ k, k < es.length → okAt es k = true) (h0 : 0 < es.length) : ∀ k, k ≤ es.length → 0 ≤ (bestAt es k).lo ∧ (bestAt es k).lo ≤ (bestAt es k).hi ∧ (bestAt es k).hi ≤ 20
  | 0, _ => okAt_bd (h 0 h0)
  | k + 1, hk => by
    unfold bestAt
    split
    · exact okAt_bd (h k (by omega))
    · exact bestAt_bd h h0 k (by omega)
def widV (es : List En) : En × Bool := if catB es && decide (0 < es.length) then (bestAt es es.length, true) else (⟨0, 0, 0, 0, 0⟩, false)

set_option maxHeartbeats 1600000 in
theorem specWidest_any (v : Value) (es : List En) (w : World) (h : Rd enS w w.heap.size v es) :
    Calls Tryz.prog 15 #[v] w fun e w' => (∃ (x : En) (b : Bool), e = .returned (.tuple #[.agg #[.int .i64 x.a, .int .i64 x.b, .int .i64 x.lo, .int .i64 x.hi, .int .i64 x.to], .bool b]) ∧ widV es = (x, b)) ∧ Below w.heap.size w w' := by
  have hr := h
  obtain ⟨A, c, rfl, hc, hm, hA⟩ := h
  unfold maxLen at hm
  cases hcat : catB es
  · have hfin : widV es = (⟨0, 0, 0, 0, 0⟩, false) := by unfold widV; rw [hcat]; rfl
    have Hfin := Lib.hid hfin; clear hfin
    have Hr := Lib.hid hr; clear hr
    go_enter Tryz.func15, Tryz.ntmps15
    go_wp2_with fail
    refine (caGood_any _ es _ (Hr.out.on (bal (Below.refl _ _) _))).mono ?_; rintro e w1 ⟨rfl, hb1⟩
    obtain ⟨hc1, hf1⟩ := bcell hb1
    rw [hcat]
    go_wp2
    exact bodyPost_ret (v := .tuple #[.agg #[.int .i64 0, .int .i64 0, .int .i64 0, .int .i64 0, .int .i64 0], .bool false]) (by simp [results, Tryz.results15, go_sem, hc1]) rfl ⟨⟨⟨0, 0, 0, 0, 0⟩, false, rfl, Hfin.out⟩, by (repeat (with_reducible first | exact Below.refl _ _ | assumption | refine bal ?_ _ | refine bst ?_ (by simp <;> omega) _ | refine Below.drew ?_ | refine bthen ?_ (by assumption)))⟩
  · rcases Nat.eq_zero_or_pos es.length with h0 | h0
    · obtain rfl : es = [] := List.eq_nil_of_length_eq_zero h0
      have Hr := Lib.hid hr; clear hr
      go_enter Tryz.func15, Tryz.ntmps15
      go_wp2_with fail
      refine (caGood_any _ [] _ (Hr.out.on (bal (Below.refl _ _) _))).mono ?_; rintro e w1 ⟨rfl, hb1⟩
      obtain ⟨hc1, hf1⟩ := bcell hb1
      rw [hcat]
      go_wp2
      exact bodyPost_ret (v := .tuple #[.agg #[.int .i64 0, .int .i64 0, .int .i64 0, .int .i64 0, .int .i64 0], .bool false]) (by simp [results, Tryz.results15, go_sem, hc1]) rfl ⟨⟨⟨0, 0, 0, 0, 0⟩, false, rfl, rfl⟩, by (repeat (with_reducible first | exact Below.refl _ _ | assumption | refine bal ?_ _ | refine bst ?_ (by simp <;> omega) _ | refine Below.drew ?_ | refine bthen ?_ (by assumption)))⟩
    · obtain ⟨g, off, rfl, hg, hcell⟩ := hA h0
      clear hA
      have hcell := en_cells hcell
      have hne : ((es.length : Int) == 0) = false := by rw [beq_eq_false_iff_ne]; omega
      have hv := (catB_spec hcat).2
      have hfin : widV es = (bestAt es es.length, true) := by
        unfold widV
        rw [hcat, decide_eq_true h0]; rfl
      have Hfin := Lib.hid hfin; clear hfin
      have Hv := Lib.hid hv; clear hv
      have Hr := Lib.hid hr; clear hr
      obtain ⟨f0, f1, f2, f3, f4⟩ := hcell 0 h0
      have Hcell := Lib.hid hcell; clear hcell
      rw [Nat.zero_mul, Nat.add_zero] at f0 f1 f2 f3 f4
      go_enter Tryz.func15, Tryz.ntmps15
      go_wp2_with fail
      have hbA : Below w.heap.size w (w.alloc _) := bal (Below.refl _ _) (Obj.cells #[.int .i64 0, .int .i64 0, .int .i64 0, .int .i64 0, .int .i64 0] 29)
      refine (caGood_any _ es _ (Hr.out.on hbA)).mono ?_; rintro e w1 ⟨rfl, hb1⟩
      have hres : Blk w1 w.heap.size 29 _ := (Blk.new w _ _).on hb1
      have hb1' := bthen hbA hb1
      have hsz : w.heap.size < w1.heap.size := hres.lt
      have hg1 : g < w1.heap.size := by omega
      rw [← hb1'.cell (p := ⟨_, _, _⟩) hg] at f0 f1 f2 f3 f4
      rw [hcat]
      go_wp2
      have hx0 : Blk _ w1.heap.size 29 #[.int .i64 (enS.get es 0).a, .int .i64 (enS.get es 0).b, .int .i64 (enS.get es 0).lo, .int .i64 (enS.get es 0).hi, .int .i64 (enS.get es 0).to] := Blk.new w1 _ _
      have Hb1' := Lib.hid hb1'; clear hb1'
      go_loopw [21] (fun i wr => ∃ k : Nat, k ≤ es.length ∧ i = .int .i64 k ∧ Below w1.heap.size w1 wr ∧ Blk wr w1.heap.size 29 #[.int .i64 (bestAt es k).a, .int .i64 (bestAt es k).b, .int .i64 (bestAt es k).lo, .int .i64 (bestAt es k).hi, .int .i64 (bestAt es k).to]) (fun i _ => es.length - (intOf i).toNat)
      case atStart => exact ⟨0, Nat.zero_le _, rfl, bal (Below.refl _ _) _, hx0⟩
      case round =>
        obtain ⟨k, hk, rfl, hb, hblk⟩ := hrel
        clear hx0 f0 f1 f2 f3 f4
        have blt := hblk.lt
        by_cases hlt : k < es.length
        · obtain ⟨f0, f1, f2, f3, f4⟩ := Hcell.out k hlt
          rw [← (bthen Hb1'.out hb).cell (p := ⟨_, _, _⟩) hg] at f0 f1 f2 f3 f4
          have hbd := bestAt_bd Hv.out h0 k (by omega)
          have hbe := okAt_bd (Hv.out k hlt)
          have hbs : bestAt es (k + 1) = if (bestAt es k).hi - (bestAt es k).lo < (enS.get es k).hi - (enS.get es k).lo then enS.get es k else bestAt es k := rfl
          have hy : ∃ y, bestAt es (k + 1) = y := ⟨_, rfl⟩
          obtain ⟨y, hy⟩ := hy
          rw [hy] at hbs
          have Hy := Lib.hid hy; clear hy
          generalize bestAt es k = x at hblk hbs hbd
          generalize enS.get es k = z at hbs f0 f1 f2 f3 f4 hbe
          have b0 : wr.cell? ⟨w1.heap.size, 0, none⟩ = some (.int .i64 x.a) := hblk.cell 0
          have b1 : wr.cell? ⟨w1.heap.size, 1, none⟩ = some (.int .i64 x.b) := hblk.cell 1
          have b2 : wr.cell? ⟨w1.heap.size, 2, none⟩ = some (.int .i64 x.lo) := hblk.cell 2
          have b3 : wr.cell? ⟨w1.heap.size, 3, none⟩ = some (.int .i64 x.hi) := hblk.cell 3
          have b4 : wr.cell? ⟨w1.heap.size, 4, none⟩ = some (.int .i64 x.to) := hblk.cell 4
          have bf := hblk.frozen
          obtain ⟨d1, d2, d3⟩ := hbd
          obtain ⟨e1, e2, e3⟩ := hbe
          by_cases hgt : x.hi - x.lo < z.hi - z.lo
          · rw [if_pos hgt] at hbs
            have Hbs := Lib.hid hbs; clear hbs
            go_wp2
            go_roundw
            case rel =>
              refine ⟨k + 1, by omega, by go_num, ?_, ?_⟩
              · (repeat (with_reducible first | exact Below.refl _ _ | assumption | refine bal ?_ _ | refine bst ?_ (by simp <;> omega) _ | refine Below.drew ?_ | refine bthen ?_ (by assumption)))
              · rw [Hy.out, Hbs.out]
                exact hblk.set5.alloc _
            case measure => simp [intOf]; omega
          · rw [if_neg hgt] at hbs
            have Hbs := Lib.hid hbs; clear hbs
            go_wp2
            go_roundw
            case rel =>
              refine ⟨k + 1, by omega, by go_num, ?_, ?_⟩
              · (repeat (with_reducible first | exact Below.refl _ _ | assumption | refine bal ?_ _ | refine bst ?_ (by simp <;> omega) _ | refine Below.drew ?_ | refine bthen ?_ (by assumption)))
              · rw [Hy.out, Hbs.out]
                exact hblk.alloc _
            case measure => simp [intOf]; omega
        · have hke : k = es.length := by omega
          rw [← hke] at Hfin
          have Hke := Lib.hid hke; clear hke
          generalize bestAt es k = x at hblk Hfin
          have b0 : wr.cell? ⟨w1.heap.size, 0, none⟩ = some (.int .i64 x.a) := hblk.cell 0
          have b1 : wr.cell? ⟨w1.heap.size, 1, none⟩ = some (.int .i64 x.b) := hblk.cell 1
          have b2 : wr.cell? ⟨w1.heap.size, 2, none⟩ = some (.int .i64 x.lo) := hblk.cell 2
          have b3 : wr.cell? ⟨w1.heap.size, 3, none⟩ = some (.int .i64 x.hi) := hblk.cell 3
          have b4 : wr.cell? ⟨w1.heap.size, 4, none⟩ = some (.int .i64 x.to) := hblk.cell 4
          have hr2 := hres.below hb hsz
          have r0 : wr.cell? ⟨w.heap.size, 0, none⟩ = some (.int .i64 0) := hr2.cell 0
          have r1 : wr.cell? ⟨w.heap.size, 1, none⟩ = some (.int .i64 0) := hr2.cell 1
          have r2 : wr.cell? ⟨w.heap.size, 2, none⟩ = some (.int .i64 0) := hr2.cell 2
          have r3 : wr.cell? ⟨w.heap.size, 3, none⟩ = some (.int .i64 0) := hr2.cell 3
          have r4 : wr.cell? ⟨w.heap.size, 4, none⟩ = some (.int .i64 0) := hr2.cell 4
          have rf := hr2.frozen
          go_wp2
          have hbz := bthen Hb1'.out hb
          exact bodyPost_ret (v := .tuple #[.agg #[.int .i64 x.a, .int .i64 x.b, .int .i64 x.lo, .int .i64 x.hi, .int .i64 x.to], .bool true]) (by simp [results, Tryz.results15, go_sem, r0, r1, r2, r3, r4]) rfl ⟨⟨x, true, rfl, Hfin.out⟩, by (repeat (with_reducible first | exact Below.refl _ _ | assumption | refine bal ?_ _ | refine bst ?_ (by simp <;> omega) _ | refine Below.drew ?_ | refine bthen ?_ (by assumption)))⟩
set_option maxHeartbeats 1600000 in
theorem implWidest_any (v : Value) (es : List En) (w : World) (h : Rd enS w w.heap.size v es) :
    Calls Tryz.prog 14 #[v] w fun e w' => (∃ (x : En) (b : Bool), e = .returned (.tuple #[.agg #[.int .i64 x.a, .int .i64 x.b, .int .i64 x.lo, .int .i64 x.hi, .int .i64 x.to], .bool b]) ∧ widV es = (x, b)) ∧ Below w.heap.size w w' := by
  have hr := h
  obtain ⟨A, c, rfl, hc, hm, hA⟩ := h
  unfold maxLen at hm
  cases hcat : catB es
  · have hfin : widV es = (⟨0, 0, 0, 0, 0⟩, false) := by unfold widV; rw [hcat]; rfl
    have Hfin := Lib.hid hfin; clear hfin
    have Hr := Lib.hid hr; clear hr
    go_enter Tryz.func14, Tryz.ntmps14
    go_wp2_with fail
    refine (isCatalogue_any _ es _ (Hr.out.on (bal (Below.refl _ _) _))).mono ?_; rintro e w1 ⟨rfl, hb1⟩
    obtain ⟨hc1, hf1⟩ := bcell hb1
    rw [hcat]
    go_wp2
    exact bodyPost_ret (v := .tuple #[.agg #[.int .i64 0, .int .i64 0, .int .i64 0, .int .i64 0, .int .i64 0], .bool false]) (by simp [results, Tryz.results14, go_sem, hc1]) rfl ⟨⟨⟨0, 0, 0, 0, 0⟩, false, rfl, Hfin.out⟩, by (repeat (with_reducible first | exact Below.refl _ _ | assumption | refine bal ?_ _ | refine bst ?_ (by simp <;> omega) _ | refine Below.drew ?_ | refine bthen ?_ (by assumption)))⟩
  · rcases Nat.eq_zero_or_pos es.length with h0 | h0
    · obtain rfl : es = [] := List.eq_nil_of_length_eq_zero h0
      have Hr := Lib.hid hr; clear hr
      go_enter Tryz.func14, Tryz.ntmps14
      go_wp2_with fail
      refine (isCatalogue_any _ [] _ (Hr.out.on (bal (Below.refl _ _) _))).mono ?_; rintro e w1 ⟨rfl, hb1⟩
      obtain ⟨hc1, hf1⟩ := bcell hb1
      rw [hcat]
      go_wp2
      exact bodyPost_ret (v := .tuple #[.agg #[.int .i64 0, .int .i64 0, .int .i64 0, .int .i64 0, .int .i64 0], .bool false]) (by simp [results, Tryz.results14, go_sem, hc1]) rfl ⟨⟨⟨0, 0, 0, 0, 0⟩, false, rfl, rfl⟩, by (repeat (with_reducible first | exact Below.refl _ _ | assumption | refine bal ?_ _ | refine bst ?_ (by simp <;> omega) _ | refine Below.drew ?_ | refine bthen ?_ (by assumption)))⟩
    · obtain ⟨g, off, rfl, hg, hcell⟩ := hA h0
      clear hA
      have hcell := en_cells hcell
      have hne : ((es.length : Int) == 0) = false := by rw [beq_eq_false_iff_ne]; omega
      have hv := (catB_spec hcat).2
      have hfin : widV es = (bestAt es es.length, true) := by
        unfold widV
        rw [hcat, decide_eq_true h0]; rfl
      have Hfin := Lib.hid hfin; clear hfin
      have Hv := Lib.hid hv; clear hv
      have Hr := Lib.hid hr; clear hr
      obtain ⟨f0, f1, f2, f3, f4⟩ := hcell 0 h0
      have Hcell := Lib.hid hcell; clear hcell
      rw [Nat.zero_mul, Nat.add_zero] at f0 f1 f2 f3 f4
      go_enter Tryz.func14, Tryz.ntmps14
      go_wp2_with fail
      have hbA : Below w.heap.size w (w.alloc _) := bal (Below.refl _ _) (Obj.cells #[.int .i64 0, .int .i64 0, .int .i64 0, .int .i64 0, .int .i64 0] 29)
      refine (isCatalogue_any _ es _ (Hr.out.on hbA)).mono ?_; rintro e w1 ⟨rfl, hb1⟩
      have hres : Blk w1 w.heap.size 29 _ := (Blk.new w _ _).on hb1
      have hb1' := bthen hbA hb1
      have hsz : w.heap.size < w1.heap.size := hres.lt
      have hg1 : g < w1.heap.size := by omega
      rw [← hb1'.cell (p := ⟨_, _, _⟩) hg] at f0 f1 f2 f3 f4
      rw [hcat]
      go_wp2
      have hx0 : Blk _ w1.heap.size 29 #[.int .i64 (enS.get es 0).a, .int .i64 (enS.get es 0).b, .int .i64 (enS.get es 0).lo, .int .i64 (enS.get es 0).hi, .int .i64 (enS.get es 0).to] := Blk.new w1 _ _
      have Hb1' := Lib.hid hb1'; clear hb1'
      go_loopw [21] (fun i wr => ∃ k : Nat, k ≤ es.length ∧ i = .int .i64 k ∧ Below w1.heap.size w1 wr ∧ Blk wr w1.heap.size 29 #[.int .i64 (bestAt es k).a, .int .i64 (bestAt es k).b, .int .i64 (bestAt es k).lo, .int .i64 (bestAt es k).hi, .int .i64 (bestAt es k).to]) (fun i _ => es.length - (intOf i).toNat)
      case atStart => exact ⟨0, Nat.zero_le _, rfl, bal (Below.refl _ _) _, hx0⟩
      case round =>
        obtain ⟨k, hk, rfl, hb, hblk⟩ := hrel
        clear hx0 f0 f1 f2 f3 f4
        have blt := hblk.lt
        by_cases hlt : k < es.length
        · obtain ⟨f0, f1, f2, f3, f4⟩ := Hcell.out k hlt
          rw [← (bthen Hb1'.out hb).cell (p := ⟨_, _, _⟩) hg] at f0 f1 f2 f3 f4
          have hbd := bestAt_bd Hv.out h0 k (by omega)
          have hbe := okAt_bd (Hv.out k hlt)
          have hbs : bestAt es (k + 1) = if (bestAt es k).hi - (bestAt es k).lo < (enS.get es k).hi - (enS.get es k).lo then enS.get es k else bestAt es k := rfl
          have hy : ∃ y, bestAt es (k + 1) = y := ⟨_, rfl⟩
          obtain ⟨y, hy⟩ := hy
          rw [hy] at hbs
          have Hy := Lib.hid hy; clear hy
          generalize bestAt es k = x at hblk hbs hbd
          generalize enS.get es k = z at hbs f0 f1 f2 f3 f4 hbe
          have b0 : wr.cell? ⟨w1.heap.size, 0, none⟩ = some (.int .i64 x.a) := hblk.cell 0
          have b1 : wr.cell? ⟨w1.heap.size, 1, none⟩ = some (.int .i64 x.b) := hblk.cell 1
          have b2 : wr.cell? ⟨w1.heap.size, 2, none⟩ = some (.int .i64 x.lo) := hblk.cell 2
          have b3 : wr.cell? ⟨w1.heap.size, 3, none⟩ = some (.int .i64 x.hi) := hblk.cell 3
          have b4 : wr.cell? ⟨w1.heap.size, 4, none⟩ = some (.int .i64 x.to) := hblk.cell 4
          have bf := hblk.frozen
          obtain ⟨d1, d2, d3⟩ := hbd
          obtain ⟨e1, e2, e3⟩ := hbe
          by_cases hgt : x.hi - x.lo < z.hi - z.lo
          · rw [if_pos hgt] at hbs
            have Hbs := Lib.hid hbs; clear hbs
            go_wp2
            go_roundw
            case rel =>
              refine ⟨k + 1, by omega, by go_num, ?_, ?_⟩
              · (repeat (with_reducible first | exact Below.refl _ _ | assumption | refine bal ?_ _ | refine bst ?_ (by simp <;> omega) _ | refine Below.drew ?_ | refine bthen ?_ (by assumption)))
              · rw [Hy.out, Hbs.out]
                exact hblk.set5.alloc _
            case measure => simp [intOf]; omega
          · rw [if_neg hgt] at hbs
            have Hbs := Lib.hid hbs; clear hbs
            go_wp2
            go_roundw
            case rel =>
              refine ⟨k + 1, by omega, by go_num, ?_, ?_⟩
              · (repeat (with_reducible first | exact Below.refl _ _ | assumption | refine bal ?_ _ | refine bst ?_ (by simp <;> omega) _ | refine Below.drew ?_ | refine bthen ?_ (by assumption)))
              · rw [Hy.out, Hbs.out]
                exact hblk.alloc _
            case measure => simp [intOf]; omega
        · have hke : k = es.length := by omega
          rw [← hke] at Hfin
          have Hke := Lib.hid hke; clear hke
          generalize bestAt es k = x at hblk Hfin
          have b0 : wr.cell? ⟨w1.heap.size, 0, none⟩ = some (.int .i64 x.a) := hblk.cell 0
          have b1 : wr.cell? ⟨w1.heap.size, 1, none⟩ = some (.int .i64 x.b) := hblk.cell 1
          have b2 : wr.cell? ⟨w1.heap.size, 2, none⟩ = some (.int .i64 x.lo) := hblk.cell 2
          have b3 : wr.cell? ⟨w1.heap.size, 3, none⟩ = some (.int .i64 x.hi) := hblk.cell 3
          have b4 : wr.cell? ⟨w1.heap.size, 4, none⟩ = some (.int .i64 x.to) := hblk.cell 4
          have hr2 := hres.below hb hsz
          have r0 : wr.cell? ⟨w.heap.size, 0, none⟩ = some (.int .i64 0) := hr2.cell 0
          have r1 : wr.cell? ⟨w.heap.size, 1, none⟩ = some (.int .i64 0) := hr2.cell 1
          have r2 : wr.cell? ⟨w.heap.size, 2, none⟩ = some (.int .i64 0) := hr2.cell 2
          have r3 : wr.cell? ⟨w.heap.size, 3, none⟩ = some (.int .i64 0) := hr2.cell 3
          have r4 : wr.cell? ⟨w.heap.size, 4, none⟩ = some (.int .i64 0) := hr2.cell 4
          have rf := hr2.frozen
          go_wp2
          have hbz := bthen Hb1'.out hb
          exact bodyPost_ret (v := .tuple #[.agg #[.int .i64 x.a, .int .i64 x.b, .int .i64 x.lo, .int .i64 x.hi, .int .i64 x.to], .bool true]) (by simp [results, Tryz.results14, go_sem, r0, r1, r2, r3, r4]) rfl ⟨⟨x, true, rfl, Hfin.out⟩, by (repeat (with_reducible first | exact Below.refl _ _ | assumption | refine bal ?_ _ | refine bst ?_ (by simp <;> omega) _ | refine Below.drew ?_ | refine bthen ?_ (by assumption)))⟩
end
section
open Go Go.RowKit

def numS (n : Nat) : ByteArray := ⟨(Lib.decDigits n).toArray⟩
/-- One byte, turned into a string. -/
theorem conv_byte (w : World) (g : Nat) (b : Nat) (hb : b < 256) (h : Blk w g 5 #[.int .u8 (b : Int)]) :
    (convert 22 9 (.slice (some ⟨g, 0, none⟩) 1 1)).run Tryz.prog w = .ok (.string ⟨#[UInt8.ofNat b]⟩) w := by
  have hb' : (UInt8.ofNat b).toNat = b := by simp; omega
  refine run_convert_bytes_back w 22 9 5 ⟨g, 0, none⟩ 1 [UInt8.ofNat b] Tryz.underlying22 Tryz.underlying5 Tryz.underlying9 ?_
  intro j hj
  have hj0 : j = 0 := by simpa using hj
  subst hj0
  have := h.cell 0
  simpa [hb', Addr.add] using this
set_option maxRecDepth 100000 in
set_option maxHeartbeats 1600000 in
theorem l1Num_small (n : Nat) (hn : n < 10) (w : World) : Calls Tryz.prog 168 #[.int .i64 n] w fun r w' => r = .returned (.string (numS n)) ∧ Below w.heap.size w w' := by
  have hd : decide ((n : Int) < 10) = true := decide_eq_true (by omega)
  have hv : numS n = ⟨#[UInt8.ofNat (48 + n)]⟩ := by unfold numS; rw [Lib.decDigits_one hn]
  obtain ⟨B, hB⟩ : ∃ B, B = UInt8.ofNat (48 + n) := ⟨_, rfl⟩
  rw [← hB] at hv
  have Hv := Lib.hid hv; clear hv
  have hcv : (convert 22 9 (.slice (some ⟨w.heap.size, 0, none⟩) 1 1)).run Tryz.prog (w.alloc (Obj.cells #[.int .u8 (48 + (n : Int))] 5)) = .ok (.string ⟨#[B]⟩) (w.alloc (Obj.cells #[.int .u8 (48 + (n : Int))] 5)) := by
    rw [hB]
    have := conv_byte (w.alloc (Obj.cells #[.int .u8 (48 + (n : Int))] 5)) w.heap.size (48 + n) (by omega) (by push_cast; exact Blk.new _ _ _)
    exact this
  clear hB
  go_enter Tryz.func168, Tryz.ntmps168
  go_wp2
  go_ret
  exact ⟨by rw [Hv.out]; rfl, by (repeat (with_reducible first | exact Below.refl _ _ | assumption | refine bal ?_ _ | refine bst ?_ (by simp <;> omega) _ | refine Below.drew ?_ | refine bthen ?_ (by assumption)))⟩
theorem conv_cell (W : World) (g : Nat) (b : Nat) (hb : b < 256) (h : W.cell? ⟨g, 0, none⟩ = some (.int .u8 (b : Int))) :
    (convert 22 9 (.slice (some ⟨g, 0, none⟩) 1 1)).run Tryz.prog W = .ok (.string ⟨#[UInt8.ofNat b]⟩) W := by
  have hb' : (UInt8.ofNat b).toNat = b := by simp; omega
  refine run_convert_bytes_back W 22 9 5 ⟨g, 0, none⟩ 1 [UInt8.ofNat b] Tryz.underlying22 Tryz.underlying5 Tryz.underlying9 ?_
  intro j hj
  have hj0 : j = 0 := by simpa using hj
  subst hj0
  simpa [hb', Addr.add] using h
theorem numS_step {n : Nat} (h : ¬ n < 10) : numS n = numS (n / 10) ++ ⟨#[UInt8.ofNat (48 + n % 10)]⟩ := by
  unfold numS
  rw [Lib.decDigits, dif_neg h]
  apply ByteArray.ext
  simp
theorem numS_size (n : Nat) : (numS n).size ≤ n + 1 := by
  induction n using Nat.strongRecOn with
  | ind n ih =>
    by_cases h : n < 10
    · unfold numS; rw [Lib.decDigits_one h]; simp [ByteArray.size]
    · have := ih (n / 10) (by omega)
      rw [numS_step h, ByteArray.size_append, show (⟨#[UInt8.ofNat (48 + n % 10)]⟩ : ByteArray).size = 1 from rfl]
      omega
end
section
open Go Go.RowKit

set_option maxRecDepth 100000 in
set_option maxHeartbeats 300000 in
theorem l1Num_any (n : Nat) : n < 1000000000 → ∀ w : World, Calls Tryz.prog 168 #[.int .i64 n] w fun r w' => r = .returned (.string (numS n)) ∧ Below w.heap.size w w' := by
  induction n using Nat.strongRecOn with
  | ind n ih =>
    intro hn w
    by_cases hs : n < 10
    · exact l1Num_small n hs w
    · have Ih := Lib.hid (ih (n / 10) (by omega) (by omega)); clear ih
      have Hst := Lib.hid (numS_step hs)
      have hd : decide ((n : Int) < 10) = false := decide_eq_false (by omega)
      have hq : (n : Int).tdiv 10 = ((n / 10 : Nat) : Int) := by rw [Int.tdiv_eq_ediv_of_nonneg (by omega)]; omega
      have hr : (n : Int).tmod 10 = ((n % 10 : Nat) : Int) := by rw [Int.tmod_eq_emod_of_nonneg (by omega)]; omega
      have hr10 : n % 10 < 10 := by omega
      obtain ⟨B, hB⟩ : ∃ B, B = UInt8.ofNat (48 + n % 10) := ⟨_, rfl⟩
      rw [← hB] at Hst
      have hcv : ∀ W g, W.cell? ⟨g, 0, none⟩ = some (.int .u8 (48 + ((n % 10 : Nat) : Int))) → (convert 22 9 (.slice (some ⟨g, 0, none⟩) 1 1)).run Tryz.prog W = .ok (.string ⟨#[B]⟩) W := fun W g h => by
        rw [hB]
        exact conv_cell W g (48 + n % 10) (by omega) (by rw [h]; push_cast; rfl)
      clear hB
      have Hcv := Lib.hid hcv; clear hcv
      have hr9 : (0 : Int) ≤ ((n % 10 : Nat) : Int) ∧ ((n % 10 : Nat) : Int) ≤ 9 := by omega
      obtain ⟨m9, hm9⟩ : ∃ m9 : Int, ((n % 10 : Nat) : Int) = m9 := ⟨_, rfl⟩
      rw [hm9] at hr Hcv hr9
      obtain ⟨k9, hk9⟩ : ∃ k9 : Int, ((n / 10 : Nat) : Int) = k9 := ⟨_, rfl⟩
      rw [hk9] at hq Ih
      have hwk : IntKind.i64.wrap k9 = k9 := by rw [IntKind.wrap_i64]; omega
      clear hm9 hk9 hr10
      obtain ⟨r1, r2⟩ := hr9
      have hw1 : IntKind.i64.wrap (48 + m9) = 48 + m9 := by rw [IntKind.wrap_i64]; omega
      have hw2 : IntKind.u8.wrap (48 + m9) = 48 + m9 := by
        rw [IntKind.wrap_u8]; omega
      have hqs : (numS (n / 10)).size ≤ 1000000001 := by have := numS_size (n / 10); omega
      generalize numS (n / 10) = Q at Ih Hst hqs
      go_enter Tryz.func168, Tryz.ntmps168
      go_wp2
      have hcvC := Hcv.out (World.drew (w.alloc (Obj.cells #[.int .u8 (48 + m9)] 5))) w.heap.size ((Blk.new w _ #[.int .u8 (48 + m9)]).drew.cell 0)
      have hcvD := Hcv.out (w.alloc (Obj.cells #[.int .u8 (48 + m9)] 5)) w.heap.size ((Blk.new w _ #[.int .u8 (48 + m9)]).cell 0)
      go_region_with (go_at_call 168; (with_reducible refine (Ih.out _).mono ?_); rintro e w2 ⟨rfl, hb2⟩; have hcvA := Hcv.out (w2.alloc (Obj.cells #[.int .u8 (48 + m9)] 5)) w2.heap.size ((Blk.new w2 _ #[.int .u8 (48 + m9)]).cell 0); (try have hcvB := Hcv.out w2 w.heap.size ((hb2.cell (p := ⟨w.heap.size, 0, none⟩) (by simp)).trans ((Blk.new w _ #[.int .u8 (48 + m9)]).drew.cell 0))))
      all_goals
        go_wp2
        go_ret
        exact ⟨by rw [Hst.out]; rfl, by (repeat (with_reducible first | exact Below.refl _ _ | assumption | refine bal ?_ _ | refine bst ?_ (by simp <;> omega) _ | refine Below.drew ?_ | refine bthen ?_ (by assumption)))⟩
end
section
open Go Go.RowKit

/-! ### The table -/
def Tab (w : World) : Prop := Lib.TabIs Tryz.prog w "internal/strconv.uint64pow10" .u64 Lib.pow10Tab
theorem Tab.on {w w' : World} (h : Tab w) (hb : Below w.heap.size w w') : Tab w' := by
  have hgn : Tryz.prog.globalNamed "internal/strconv.uint64pow10" = some 4 := by kernel_rfl
  unfold Tab Lib.TabIs World.var? at h ⊢
  rw [hgn] at h ⊢
  simp only [Option.bind_some] at h ⊢
  have hlt : 4 < w.heap.size := by
    rcases Nat.lt_or_ge 4 w.heap.size with h' | h'
    · exact h'
    · rw [Array.getElem?_eq_none h'] at h; cases h
  rw [hb.block _ hlt]
  exact h
theorem below_grow (w : World) (k : Nat) (os : Array Obj) : Below w.heap.size w (Go.Sort.grow (w.drewN k) os) := by
  refine ⟨rfl, rfl, rfl, ?_, fun i hi => ?_⟩
  · show w.heap.size ≤ (w.heap ++ os).size
    rw [Array.size_append]; omega
  · show (w.heap ++ os)[i]? = w.heap[i]?
    rw [Array.getElem?_append_left hi]

/-! ### Numerals -/
def itS (n : Int) : ByteArray := ⟨(Lib.itoa n).toArray⟩
theorem itS_nat {n : Int} (h : 0 ≤ n) : itS n = numS n.toNat := by
  unfold itS numS Lib.itoa
  rw [if_neg (by omega)]
theorem itS_neg {n : Int} (h : n < 0) : itS n = ⟨#[45]⟩ ++ numS (-n).toNat := by
  unfold itS numS Lib.itoa
  rw [if_pos h, show n.natAbs = (-n).toNat by omega]
  apply ByteArray.ext
  simp
theorem itS_size (n : Int) : (itS n).size ≤ n.natAbs + 2 := by
  rcases Int.lt_or_le n 0 with h | h
  · rw [itS_neg h, ByteArray.size_append, show (⟨#[45]⟩ : ByteArray).size = 1 from rfl]
    have := numS_size (-n).toNat
    omega
  · rw [itS_nat h]
    have := numS_size n.toNat
    omega
theorem itoa_any (n : Int) (w : World) (hn : -1000000000 ≤ n ∧ n ≤ 1000000000) (ht : Tab w) : Calls Tryz.prog 166 #[.int .i64 n] w fun e w' => e = .returned (.string (itS n)) ∧ Below w.heap.size w w' := by
  refine (Tryz.strconv_Itoa n (by omega) (by omega) w ht).mono fun e w' h => ?_
  obtain ⟨h1, k, os, rfl⟩ := h
  exact ⟨h1, below_grow w k os⟩
theorem l1Num_int (n : Int) (w : World) (hn : 0 ≤ n ∧ n < 1000000000) : Calls Tryz.prog 168 #[.int .i64 n] w fun e w' => e = .returned (.string (itS n)) ∧ Below w.heap.size w w' := by
  obtain ⟨m, rfl⟩ : ∃ m : Nat, n = m := ⟨n.toNat, by omega⟩
  rw [itS_nat (by omega), Int.toNat_natCast]
  exact l1Num_any m (by omega) w
set_option maxHeartbeats 800000 in
theorem l1Int_any (n : Int) (w : World) (hn : -1000000 ≤ n ∧ n ≤ 1000000) : Calls Tryz.prog 210 #[.int .i64 n] w fun e w' => e = .returned (.string (itS n)) ∧ Below w.heap.size w w' := by
  obtain ⟨n1, n2⟩ := hn
  rcases Int.lt_or_le n 0 with h | h
  · have Hc := Lib.hid (fun w => l1Num_int (-n) w (by omega))
    have Hv := Lib.hid (show itS n = ⟨#[45]⟩ ++ itS (-n) by rw [itS_neg h, itS_nat (by omega)])
    have hs : (itS (-n)).size ≤ 1000002 := by have := itS_size (-n); omega
    generalize itS (-n) = Q at Hc Hv hs
    go_enter Tryz.func210, Tryz.ntmps210
    go_wp2_with (go_at_call 168; refine (Hc.out _).mono ?_; rintro e w' ⟨rfl, hb1⟩)
    go_ret
    exact ⟨by rw [Hv.out]; rfl, hb1⟩
  · have Hc := Lib.hid (fun w => l1Num_int n w (by omega))
    go_enter Tryz.func210, Tryz.ntmps210
    go_wp2_with (go_at_call 168; refine (Hc.out _).mono ?_; rintro e w' ⟨rfl, hb1⟩)
    go_ret
    exact ⟨rfl, hb1⟩

/-! ### Numbers, separated by blanks -/
def nText (es : List Int) : ByteArray := ⟨(Lib.join ((es.map itS).map (·.data.toList)) [32]).toArray⟩
theorem join_len : ∀ (xs : List (List UInt8)) (b : Nat), (∀ x ∈ xs, x.length ≤ b) → (Lib.join xs [32]).length ≤ xs.length * (b + 1)
  | [], _, _ => by simp [Lib.join_nil]
  | x :: r, b, h => by
    rw [Lib.join_cons, List.length_append]
    have h1 := h x (by simp)
    have h2 : (Lib.joinTail [32] r).length ≤ r.length * (b + 1) := by
      have h3 : ∀ y ∈ r, y.length ≤ b := fun y hy => h y (by simp [hy])
      clear h h1
      induction r with
      | nil => simp [Lib.joinTail]
      | cons y r ih =>
        have i1 := ih (fun z hz => h3 z (by simp [hz]))
        have i2 := h3 y (by simp)
        simp only [Lib.joinTail, List.map_cons, List.flatten_cons, List.length_append, List.length_cons, List.length_nil] at i1 ⊢
        rw [Nat.add_mul]; omega
    rw [List.length_cons, Nat.add_mul]
    omega
theorem nText_len (es : List Int) (b : Nat) (h : ∀ e ∈ es, e.natAbs ≤ b) : (Lib.join ((es.map itS).map (·.data.toList)) [32]).length ≤ es.length * (b + 3) := by
  have := join_len ((es.map itS).map (·.data.toList)) (b + 2) (by
    intro x hx
    simp only [List.mem_map] at hx
    obtain ⟨q, ⟨e, he, rfl⟩, rfl⟩ := hx
    have h1 := itS_size e
    have h2 := h e he
    have h3 : (itS e).data.toList.length = (itS e).size := Array.length_toList
    omega)
  rw [List.length_map, List.length_map] at this
  exact this
theorem infoStr : (Tryz.prog.info? 9).map (fun i => (i.zero, i.size, i.bytes)) = some (some (.string ⟨#[]⟩), 1, 16) := by kernel_rfl
theorem inS_get {es : List Int} {k : Nat} (h : k < es.length) : inS.get es k = es[k] := by
  unfold Shape.get
  rw [List.getD_eq_getElem?_getD, List.getElem?_eq_getElem h]; rfl
theorem strs_take {es : List Int} {k : Nat} (h : k < es.length) : (es.take (k + 1)).map (fun e => Value.string (itS e)) = (es.take k).map (fun e => Value.string (itS e)) ++ [Value.string (itS (inS.get es k))] := by
  rw [List.take_succ_eq_append_getElem h, List.map_append]
  unfold Shape.get
  rw [List.getD_eq_getElem?_getD, List.getElem?_eq_getElem h]; rfl

set_option maxRecDepth 8000 in
set_option maxHeartbeats 2000000 in
theorem numbersText_any (v : Value) (es : List Int) (w : World) (hv : Rd inS w w.heap.size v es) (hn : es.length ≤ 100) (hb : ∀ k, k < es.length → -1000000000 ≤ inS.get es k ∧ inS.get es k ≤ 1000000000) (ht : Tab w) :
    Calls Tryz.prog 165 #[v] w fun e w' => e = .returned (.string (nText es)) ∧ Below w.heap.size w w' := by
  obtain ⟨i0, hi, hz0, hz1, hz2⟩ := info_parts infoStr
  have Ht := Lib.hid ht; clear ht
  have Hb := Lib.hid hb
  have hjl : (Lib.join ((es.map itS).map (·.data.toList)) [32]).length ≤ 140737488355328 := by
    have := nText_len es 1000000000 (fun e he => by
      obtain ⟨k, hk, rfl⟩ := List.mem_iff_getElem.1 he
      have := hb k hk
      rw [inS_get hk] at this
      omega)
    have h2 : es.length * (1000000000 + 3) ≤ 100 * (1000000000 + 3) := Nat.mul_le_mul_right _ hn
    omega
  have Hjl := Lib.hid hjl; clear hjl hb
  obtain ⟨A, c, rfl, hc, hm, hA⟩ := hv
  unfold maxLen at hm
  rcases Nat.eq_zero_or_pos es.length with h0 | h0
  · obtain rfl : es = [] := List.eq_nil_of_length_eq_zero h0
    clear hA h0
    go_enter Tryz.func165, Tryz.ntmps165
    go_wp2
    refine wp_loop_rounds 1 ?_
    rw [rounds_succ]
    go_wp2_with fail
    refine (Tryz.strings_Join_none none 0 ⟨#[32]⟩ w).mono ?_; rintro e w' ⟨rfl, rfl⟩
    go_wp2
    go_ret
    exact ⟨rfl, Below.refl _ _⟩
  · obtain ⟨g, off, rfl, hg, hcell⟩ := hA h0
    clear hA
    have hcell := in_cells hcell
    go_enter Tryz.func165, Tryz.ntmps165
    go_wp2
    go_loopw [3, 8] (fun o i wr => ∃ k : Nat, k ≤ es.length ∧ i = .int .i64 k ∧ Below w.heap.size w wr ∧ Hid (wr.ownsRow w.heap.size 9 1 o k ((es.take k).map (fun e => Value.string (itS e))))) (fun _ i _ => es.length - (intOf i).toNat)
    case atStart => exact ⟨0, Nat.zero_le _, rfl, Below.refl _ _, Lib.hid ⟨rfl, Or.inl ⟨rfl, rfl⟩⟩⟩
    case round =>
      obtain ⟨k, hk, rfl, hb, Hown⟩ := hrel
      by_cases hlt : k < es.length
      · have f0 := hcell k hlt
        rw [← hb.cell (p := ⟨_, _, _⟩) hg] at f0
        have Hst := Lib.hid (strs_take hlt)
        have Hc := Lib.hid (fun w' ht => itoa_any (inS.get es k) w' (Hb.out k hlt) ht)
        generalize inS.get es k = x at f0 Hst Hc
        have hgr : g < wr.heap.size := Nat.lt_of_lt_of_le hg hb.size
        have hi0 : (0 : Int) ≤ (k : Int) := by omega
        have hi1 : (k : Int) < (es.length : Int) := by omega
        clear hcell
        go_wp2_with fail
        refine (Hc.out _ (Ht.out.on hb)).mono ?_; rintro e w2 ⟨rfl, hb2⟩
        have Hown2 := Lib.hid (own_below Hown.out hb2)
        have Hb2 := Lib.hid (bthen hb hb2)
        clear f0 hb2
        generalize itS x = Q at Hst
        go_wp2_with (at_builtin; refine wpList_append_own _ rfl _ _ 119 rfl w.heap.size 9 i0 (.string ⟨#[]⟩) 1 16 Tryz.underlying119 hi hz0 hz1 hz2 rfl (by decide) _ _ _ rfl (Hown2.out.alloc _) ⟨w2.heap.size, 0, none⟩ 1 1 [.string Q] rfl rfl ?c1 ?c2 ?c3 ?c4 ?c5 ?_)
        case c1 =>
          intro j u hj
          match j, hj with
          | 0, hj => simp at hj; subst hj; exact (Blk.new w2 _ _).cell 0
        case c2 => intro u hu; simp at hu; subst hu; rfl
        case c3 => unfold maxLen; omega
        case c4 => omega
        case c5 => have := Hb2.out.size; simp; omega
        intro v6 w6 hown6 hgrow _
        have Hb6 := Lib.hid (Below.grown (bal Hb2.out _) hgrow (by have := Hb2.out.size; simp; omega) (fun j hj => (Hown2.out.lt j hj).1))
        have Hown6 := Lib.hid (show w6.ownsRow w.heap.size 9 1 v6 (k + 1) ((es.take (k + 1)).map (fun e => Value.string (itS e))) by rw [Hst.out, List.map_take]; exact hown6)
        clear hown6 hgrow
        go_wp2
        go_roundw
        case rel => exact ⟨k + 1, by omega, by go_num, Hb6.out, Hown6⟩
        case measure => simp [intOf]; omega
      · obtain rfl : k = es.length := by omega
        obtain ⟨g2, cap, rfl, hb2, hlt2⟩ := Hown.out.form h0
        have hcs : ∀ (j : Nat) x, (es.map itS)[j]? = some x → wr.cell? ⟨g2, 0 + j, none⟩ = some (.string x) := by
          intro j x hj
          have hl : j < es.length := by have := (List.getElem?_eq_some_iff.1 hj).1; simpa using this
          have h1 := Hown.out.cellAt j (by omega)
          rw [List.take_length, List.getElem?_map, List.getElem?_eq_getElem hl] at h1
          rw [List.getElem?_map, List.getElem?_eq_getElem hl] at hj
          simp at hj h1
          rw [Nat.zero_add, h1, hj]
        have hcap : es.length ≤ cap := by
          rcases Hown.out.2 with ⟨h', _⟩ | ⟨g', cap', cur, h', hb', hg', hnc, -⟩
          · cases h'
          · cases h'; exact hnc
        have hj := Tryz.strings_Join g2 0 cap (es.map itS) ⟨#[32]⟩ wr hcs hlt2 (by rw [List.length_map]; omega) (by rw [List.length_map]; exact hcap) Hjl.out
        rw [List.length_map] at hj
        have Hj : Hid (Calls Tryz.prog 208 #[.slice (some ⟨g2, 0, none⟩) es.length cap, .string ⟨#[32]⟩] wr fun e w' => e = .returned (.string (nText es)) ∧ Below wr.heap.size wr w') := Lib.hid hj
        clear hcs hcap hcell hj
        go_wp2_with fail
        refine Hj.out.mono ?_; rintro e w3 ⟨rfl, hb3⟩
        go_wp2
        go_ret
        exact ⟨rfl, bthen hb hb3⟩

theorem nText2 (a b : Int) : nText [a, b] = itS a ++ ⟨#[32]⟩ ++ itS b := by
  unfold nText
  apply ByteArray.ext
  simp [Lib.join, List.intercalate]
set_option maxHeartbeats 800000 in
theorem ecText_any (a b : Int) (w : World) (ha : -1000000 ≤ a ∧ a ≤ 1000000) (hb : -1000000 ≤ b ∧ b ≤ 1000000) :
    Calls Tryz.prog 167 #[.agg #[.int .i64 a, .int .i64 b]] w fun e w' => e = .returned (.string (nText [a, b])) ∧ Below w.heap.size w w' := by
  have H1 := Lib.hid (fun w => l1Int_any a w ha)
  have H2 := Lib.hid (fun w => l1Int_any b w hb)
  have Hv := Lib.hid (nText2 a b)
  have HbA := Lib.hid (show Below w.heap.size w (w.alloc (Obj.cells #[.int .i64 a, .int .i64 b] 25)) from bal (Below.refl _ _) _)
  have s1 := itS_size a
  have s2 := itS_size b
  have s3 : (itS a).size ≤ 1000002 := by omega
  have s4 : (itS b).size ≤ 1000002 := by omega
  clear s1 s2
  generalize itS a = P1 at H1 Hv s3
  generalize itS b = P2 at H2 Hv s4
  have s5 : (P1 ++ (⟨#[32]⟩ : ByteArray)).size ≤ 1000003 := by rw [ByteArray.size_append, show (⟨#[32]⟩ : ByteArray).size = 1 from rfl]; omega
  go_enter Tryz.func167, Tryz.ntmps167
  go_wp2
  refine wp_region_tame (by kernel_rfl) (by kernel_rfl) (fun T _ W hT => ?_)
  have hx := hT.cell
  repeat (go_big_quiet_step ((first | (go_at_call 210; with_reducible exact hT.call (H1.out _)) | (go_at_call 210; with_reducible exact hT.call (H2.out _)))))
  refine wpQuiet_nil ?_
  intro t
  clear hx
  go_wp2
  go_ret
  exact ⟨by rw [Hv.out]; rfl, bthen HbA.out (hT.below t)⟩
end
section
open Go Go.RowKit

/-! ### The sum of a text's bytes -/
def sumL (l : List UInt8) : Int := l.foldl (fun o b => (31 * o + (b.toNat : Int)) % 1000003) 1
theorem sumL_bd : ∀ l : List UInt8, 0 ≤ sumL l ∧ sumL l < 1000003 := by
  have key : ∀ (l : List UInt8) (z : Int), 0 ≤ z ∧ z < 1000003 → 0 ≤ l.foldl (fun o b => (31 * o + (b.toNat : Int)) % 1000003) z ∧ l.foldl (fun o b => (31 * o + (b.toNat : Int)) % 1000003) z < 1000003 := by
    intro l
    induction l with
    | nil => exact fun z h => h
    | cons b l ih => exact fun z h => ih _ (show 0 ≤ (31 * z + (b.toNat : Int)) % 1000003 ∧ (31 * z + (b.toNat : Int)) % 1000003 < 1000003 by omega)
  exact fun l => key l 1 (by omega)
theorem sumL_snoc (l : List UInt8) (b : UInt8) : sumL (l ++ [b]) = (31 * sumL l + (b.toNat : Int)) % 1000003 := by simp [sumL]
theorem take_snoc (s : ByteArray) (k : Nat) (h : k < s.size) : s.data.toList.take (k + 1) = s.data.toList.take k ++ [s[k]] := by
  rw [List.take_succ_eq_append_getElem (by simpa using h)]; rfl
set_option maxHeartbeats 800000 in
theorem jrSum_any (s : ByteArray) (w : World) (hs : s.size ≤ 9223372036854775807) : Calls Tryz.prog 191 #[.string s] w fun e w' => e = .returned (.int .i64 (sumL s.data.toList)) ∧ w = w' := by
  go_enter Tryz.func191, Tryz.ntmps191
  go_wp2
  go_loop [3, 4] (fun n i => ∃ k : Nat, k ≤ s.size ∧ i = .int .i64 k ∧ n = .int .i64 (sumL (s.data.toList.take k))) (fun _ i => s.size - (intOf i).toNat)
  case atStart => exact ⟨0, Nat.zero_le _, rfl, rfl⟩
  case round =>
    obtain ⟨k, hk, rfl, rfl⟩ := hrel
    obtain ⟨d1, d2⟩ := sumL_bd (s.data.toList.take k)
    by_cases hlt : k < s.size
    · have Hn := Lib.hid (show sumL (s.data.toList.take (k + 1)) = (31 * sumL (s.data.toList.take k) + (s[k].toNat : Int)) % 1000003 by rw [take_snoc s k hlt, sumL_snoc])
      have hb := UInt8.toNat_lt s[k]
      have hb1 : (0 : Int) ≤ (s[k].toNat : Int) := by omega
      have hb2 : (s[k].toNat : Int) ≤ 255 := by omega
      clear hb
      generalize sumL (s.data.toList.take k) = S at d1 d2 Hn
      go_wp2
      go_round
      case rel => exact ⟨k + 1, by omega, by go_num, by rw [Hn.out]⟩
      case measure => simp [intOf]; omega
    · obtain rfl : k = s.size := by omega
      go_wp2
      go_ret
      exact ⟨ret_int (by rw [List.take_of_length_le (by simp)]), rfl⟩

/-! ### The line -/
def lineS (k a b lo hi : Int) : ByteArray := nText [k, a, b, lo, hi] ++ ⟨#[35]⟩ ++ itS (sumL (nText [k, a, b, lo, hi]).data.toList) ++ ⟨#[10]⟩
theorem nText5 (k a b lo hi : Int) : nText [k, a, b, lo, hi] = itS k ++ ⟨#[32]⟩ ++ nText [a, b] ++ ⟨#[32]⟩ ++ itS lo ++ ⟨#[32]⟩ ++ itS hi := by
  unfold nText
  apply ByteArray.ext
  simp [Lib.join, List.intercalate]
theorem nText_size (es : List Int) (b : Nat) (h : ∀ e ∈ es, e.natAbs ≤ b) : (nText es).size ≤ es.length * (b + 3) := nText_len es b h
/-- The bounds of a record and of its number. -/
structure RcB (k a b lo hi : Int) : Prop where
  k : 0 ≤ k ∧ k ≤ 29
  a : -1000 ≤ a ∧ a ≤ 1000
  b : -10000 ≤ b ∧ b ≤ 10000
  lo : 0 ≤ lo ∧ lo ≤ 20
  hi : 0 ≤ hi ∧ hi ≤ 20
theorem RcB.size {k a b lo hi : Int} (h : RcB k a b lo hi) : (nText [k, a, b, lo, hi]).size ≤ 100000 := by
  have := nText_size [k, a, b, lo, hi] 10000 (by
    intro e he
    have h1 := h.k; have h2 := h.a; have h3 := h.b; have h4 := h.lo; have h5 := h.hi
    simp at he
    omega)
  simp at this
  omega
set_option maxRecDepth 8000 in
set_option maxHeartbeats 2000000 in
theorem jrLine_any (k a b lo hi : Int) (w : World) (h : RcB k a b lo hi) :
    Calls Tryz.prog 142 #[.int .i64 k, .agg #[.int .i64 a, .int .i64 b, .int .i64 lo, .int .i64 hi]] w fun e w' => e = .returned (.string (lineS k a b lo hi)) ∧ Below w.heap.size w w' := by
  have hsz := h.size
  have Hs := Lib.hid (fun w => jrSum_any (nText [k, a, b, lo, hi]) w (by omega))
  have hsum := sumL_bd (nText [k, a, b, lo, hi]).data.toList
  have Hv : Hid (lineS k a b lo hi = nText [k, a, b, lo, hi] ++ ⟨#[35]⟩ ++ itS (sumL (nText [k, a, b, lo, hi]).data.toList) ++ ⟨#[10]⟩) := Lib.hid rfl
  have Hc2 := Lib.hid (fun w => l1Num_int (sumL (nText [k, a, b, lo, hi]).data.toList) w (by omega))
  have h6 := itS_size (sumL (nText [k, a, b, lo, hi]).data.toList)
  generalize sumL (nText [k, a, b, lo, hi]).data.toList = S at Hs hsum Hv Hc2 h6
  have h7 : (itS S).size ≤ 1000010 := by omega
  generalize itS S = PS at Hv Hc2 h7
  rw [nText5] at Hv Hs hsz
  have H1 := Lib.hid (fun w => l1Num_int k w (by have := h.k; omega))
  have H2 := Lib.hid (fun w => ecText_any a b w (by have := h.a; omega) (by have := h.b; omega))
  have H3 := Lib.hid (fun w => l1Num_int lo w (by have := h.lo; omega))
  have H4 := Lib.hid (fun w => l1Num_int hi w (by have := h.hi; omega))
  have s1 : (itS k).size ≤ 100 := by have := itS_size k; have := h.k; omega
  have s3 : (itS lo).size ≤ 100 := by have := itS_size lo; have := h.lo; omega
  have s4 : (itS hi).size ≤ 100 := by have := itS_size hi; have := h.hi; omega
  have s2 : (nText [a, b]).size ≤ 100000 := by
    have := nText_size [a, b] 10000 (by intro e he; have h2 := h.a; have h3 := h.b; simp at he; omega)
    simp at this; omega
  have hbx := Blk.new w 78 #[.int .i64 a, .int .i64 b, .int .i64 lo, .int .i64 hi]
  have Hbx := Lib.hid hbx; clear hbx
  have HbA := Lib.hid (show Below w.heap.size w (w.alloc (Obj.cells #[.int .i64 a, .int .i64 b, .int .i64 lo, .int .i64 hi] 78)) from bal (Below.refl _ _) _)
  generalize itS k = P1 at H1 Hv Hs s1 hsz
  generalize nText [a, b] = P2 at H2 Hv Hs s2 hsz
  generalize itS lo = P3 at H3 Hv Hs s3 hsz
  generalize itS hi = P4 at H4 Hv Hs s4 hsz
  clear h hsz h6 hsum
  go_enter Tryz.func142, Tryz.ntmps142
  go_wp2
  refine wp_region_tame (by kernel_rfl) (by kernel_rfl) (fun T _ W hT => ?_)
  have hx := hT.cell
  repeat (go_big_quiet_step ((first | (go_at_call 167; with_reducible exact hT.call (H2.out _)) | (go_at_call 168; with_reducible exact hT.call (H1.out _)) | (go_at_call 168; with_reducible exact hT.call (H3.out _)) | (go_at_call 168; with_reducible exact hT.call (H4.out _)))))
  refine wpQuiet_nil ?_
  intro t
  clear hx
  have hbt := bthen HbA.out (hT.below t)
  generalize W t = wt at hbt ⊢
  clear hT
  go_wp2_with fail
  refine (Hs.out _).mono ?_; rintro e w2 ⟨rfl, rfl⟩
  go_wp2_with fail
  refine (Hc2.out _).mono ?_; rintro e w3 ⟨rfl, hb3⟩
  go_wp2
  go_ret
  exact ⟨by rw [Hv.out]; rfl, bthen hbt hb3⟩

theorem rd_ints (w : World) (t : TypeId) (es : List Int) (hl : es.length ≤ 1000) : Rd inS (w.alloc (.cells (es.map (Value.int .i64)).toArray t)) (w.alloc (.cells (es.map (Value.int .i64)).toArray t)).heap.size (.slice (some ⟨w.heap.size, 0, none⟩) es.length es.length) es := by
  refine ⟨_, es.length, rfl, Nat.le_refl _, by unfold maxLen; omega, fun _ => ⟨w.heap.size, 0, rfl, by rw [World.size_alloc]; omega, fun k hk j hj => ?_⟩⟩
  have hj0 : j = 0 := by simp [inS] at hj; exact hj
  subst hj0
  rw [show 0 + k * inS.size + 0 = k by simp [inS], (Blk.new w t (es.map (Value.int .i64)).toArray).cell k]
  rw [List.getElem?_toArray, List.getElem?_map, List.getElem?_eq_getElem hk, inS_get hk]
  rfl
theorem take_app (Q : ByteArray) : (Q ++ (⟨#[35]⟩ : ByteArray)).data.toList.take Q.size = Q.data.toList := by
  simp
set_option maxRecDepth 8000 in
set_option maxHeartbeats 2000000 in
theorem sealRecord_any (k a b lo hi : Int) (w : World) (h : RcB k a b lo hi) (ht : Tab w) :
    Calls Tryz.prog 138 #[.int .i64 k, .agg #[.int .i64 a, .int .i64 b, .int .i64 lo, .int .i64 hi]] w fun e w' => e = .returned (.string (lineS k a b lo hi)) ∧ Below w.heap.size w w' := by
  have hsz := h.size
  have hbA := bal (bal (Below.refl w.heap.size w) (Obj.cells #[.int .i64 a, .int .i64 b, .int .i64 lo, .int .i64 hi] 78)) (Obj.cells #[.int .i64 k, .int .i64 a, .int .i64 b, .int .i64 lo, .int .i64 hi] 3)
  have Hnt := Lib.hid (numbersText_any (.slice (some ⟨w.heap.size + 1, 0, none⟩) 5 5) [k, a, b, lo, hi] ((w.alloc (Obj.cells #[.int .i64 a, .int .i64 b, .int .i64 lo, .int .i64 hi] 78)).alloc (Obj.cells #[.int .i64 k, .int .i64 a, .int .i64 b, .int .i64 lo, .int .i64 hi] 3))
    (by have := rd_ints (w.alloc (Obj.cells #[.int .i64 a, .int .i64 b, .int .i64 lo, .int .i64 hi] 78)) 3 [k, a, b, lo, hi] (by simp)
        rw [World.size_alloc w] at this
        exact this) (by simp) (by
      intro j hj
      rw [inS_get hj]
      have h1 := h.k; have h2 := h.a; have h3 := h.b; have h4 := h.lo; have h5 := h.hi
      have h6 : [k, a, b, lo, hi][j] ∈ [k, a, b, lo, hi] := List.getElem_mem hj
      generalize [k, a, b, lo, hi][j] = y at h6
      simp at h6
      omega) (ht.on hbA))
  have Ht := Lib.hid ht
  have HbA := Lib.hid hbA; clear hbA ht
  have Hv : Hid (lineS k a b lo hi = nText [k, a, b, lo, hi] ++ ⟨#[35]⟩ ++ itS (sumL (nText [k, a, b, lo, hi]).data.toList) ++ ⟨#[10]⟩) := Lib.hid rfl
  have hsum := sumL_bd (nText [k, a, b, lo, hi]).data.toList
  have Hc2 := Lib.hid (fun w ht => itoa_any (sumL (nText [k, a, b, lo, hi]).data.toList) w (by omega) ht)
  have h6 := itS_size (sumL (nText [k, a, b, lo, hi]).data.toList)
  have h7 : (itS (sumL (nText [k, a, b, lo, hi]).data.toList)).size ≤ 1000010 := by omega
  clear h6 hsum
  generalize nText [k, a, b, lo, hi] = Q at Hnt Hv Hc2 hsz h7
  obtain ⟨s, hs⟩ : ∃ s, Q ++ (⟨#[35]⟩ : ByteArray) = s := ⟨_, rfl⟩
  have hss : s.size = Q.size + 1 := by rw [← hs, ByteArray.size_append]; rfl
  have Htk := Lib.hid (show s.data.toList.take Q.size = Q.data.toList by rw [← hs]; exact take_app Q)
  rw [hs] at Hv
  have hsz2 : s.size ≤ 100001 := by omega
  have Hss := Lib.hid hss; clear hss
  clear h
  go_enter Tryz.func138, Tryz.ntmps138
  go_wp2_with fail
  refine Hnt.out.mono ?_; rintro e w1 ⟨rfl, hb1⟩
  have hb01 := bthen HbA.out hb1
  clear hb1
  go_wp2
  have Hhs := Lib.hid hs; clear hs
  go_loop [6, 25] (fun n i => ∃ j : Nat, j ≤ Q.size ∧ i = .int .i64 j ∧ n = .int .i64 (sumL (s.data.toList.take j))) (fun _ i => Q.size - (intOf i).toNat)
  case atStart => exact ⟨0, Nat.zero_le _, rfl, rfl⟩
  case round =>
    obtain ⟨j, hj, rfl, rfl⟩ := hrel
    obtain ⟨d1, d2⟩ := sumL_bd (s.data.toList.take j)
    by_cases hlt : j < Q.size
    · have hjs : j < s.size := by have := Hss.out; omega
      have hjl : (j : Int) < (s.size : Int) - 1 := by have := Hss.out; omega
      have Hn := Lib.hid (show sumL (s.data.toList.take (j + 1)) = (31 * sumL (s.data.toList.take j) + (s[j].toNat : Int)) % 1000003 by rw [take_snoc s j hjs, sumL_snoc])
      have hb := UInt8.toNat_lt s[j]
      have hb1 : (0 : Int) ≤ (s[j].toNat : Int) := by omega
      have hb2 : (s[j].toNat : Int) ≤ 255 := by omega
      clear hb
      generalize sumL (s.data.toList.take j) = S at d1 d2 Hn
      go_wp2
      go_round
      case rel => exact ⟨j + 1, by omega, by go_num, by rw [Hn.out]⟩
      case measure => simp [intOf]; omega
    · have hjl : ¬ (j : Int) < (s.size : Int) - 1 := by have := Hss.out; omega
      have hjq : j = Q.size := by omega
      have Hsum := Lib.hid (show sumL (s.data.toList.take j) = sumL Q.data.toList by rw [hjq, Htk.out])
      clear hjq
      generalize sumL (s.data.toList.take j) = S at d1 d2 Hsum
      have Hc3 := Lib.hid (fun w' ht => by have := Hc2.out w' ht; rw [← Hsum.out] at this; exact this)
      have Hv3 := Hv.out
      rw [← Hsum.out] at Hv3
      rw [← Hsum.out] at h7
      replace Hv3 := Lib.hid Hv3
      generalize itS S = PS at Hc3 Hv3 h7
      go_wp2_with fail
      refine (Hc3.out _ (Ht.out.on hb01)).mono ?_; rintro e w3 ⟨rfl, hb3⟩
      go_wp2
      go_ret
      exact ⟨by rw [Hv3.out]; rfl, bthen hb01 hb3⟩
end
section
open Go Go.RowKit

/-! ### Numerals read back -/
theorem decFrom_app : ∀ (a b : List UInt8) (acc x : Nat), Lib.decFrom acc a = some x → Lib.decFrom acc (a ++ b) = Lib.decFrom x b
  | [], b, acc, x, h => by
    rw [List.nil_append]
    simp only [Lib.decFrom] at h
    injection h with h
    rw [h]
  | c :: a, b, acc, x, h => by
    rw [List.cons_append]
    rw [Lib.decFrom] at h
    rw [Lib.decFrom]
    cases hd : Lib.digitVal c with
    | none => rw [hd] at h; cases h
    | some d => rw [hd] at h; exact decFrom_app a b _ x h
theorem digitVal_of {d : Nat} (h : d < 10) : Lib.digitVal (UInt8.ofNat (48 + d)) = some d := by
  have hb : (UInt8.ofNat (48 + d)).toNat = 48 + d := by simp; omega
  unfold Lib.digitVal
  rw [hb, if_pos (by omega), Nat.add_sub_cancel_left]
theorem decFrom_digits (n : Nat) : Lib.decFrom 0 (Lib.decDigits n) = some n := by
  induction n using Nat.strongRecOn with
  | ind n ih =>
    by_cases h : n < 10
    · rw [Lib.decDigits_one h]
      simp only [Lib.decFrom, digitVal_of h, Nat.zero_mul, Nat.zero_add]
    · rw [Lib.decDigits, dif_neg h, decFrom_app _ _ _ _ (ih (n / 10) (by omega))]
      simp only [Lib.decFrom, digitVal_of (Nat.mod_lt n (by omega : 10 > 0))]
      congr 1
      omega
theorem digits_len : ∀ (k n : Nat), n < 10 ^ (k + 1) → (Lib.decDigits n).length ≤ k + 1
  | 0, n, h => by rw [Lib.decDigits_one (by omega)]; simp
  | k + 1, n, h => by
    by_cases h1 : n < 10
    · rw [Lib.decDigits_one h1]; simp
    · rw [Lib.decDigits, dif_neg h1, List.length_append]
      have := digits_len k (n / 10) (by rw [Nat.pow_succ] at h; omega)
      simp only [List.length_cons, List.length_nil]
      omega
theorem digits_byte (n : Nat) : ∀ b ∈ Lib.decDigits n, 48 ≤ b.toNat ∧ b.toNat ≤ 57 := by
  induction n using Nat.strongRecOn with
  | ind n ih =>
    have key : ∀ d : Nat, d < 10 → (UInt8.ofNat (48 + d)).toNat = 48 + d := fun d hd => by simp; omega
    by_cases h : n < 10
    · rw [Lib.decDigits_one h]
      intro b hb
      have e : b = UInt8.ofNat (48 + n) := by simpa using hb
      rw [e, key n h]; omega
    · rw [Lib.decDigits, dif_neg h]
      intro b hb
      rcases List.mem_append.1 hb with hb | hb
      · exact ih (n / 10) (by omega) b hb
      · have e : b = UInt8.ofNat (48 + n % 10) := by simpa using hb
        rw [e, key _ (Nat.mod_lt n (by omega))]; omega
theorem digits_ne (n : Nat) : Lib.decDigits n ≠ [] := by
  by_cases h : n < 10
  · rw [Lib.decDigits_one h]; simp
  · rw [Lib.decDigits, dif_neg h]; simp
theorem decNat_digits (n : Nat) : Lib.decNat (Lib.decDigits n) = some n := by
  unfold Lib.decNat
  rw [if_neg (by simpa using digits_ne n), decFrom_digits]
theorem atoi_itoa (n : Int) : Lib.atoi (Lib.itoa n) = some n := by
  unfold Lib.itoa
  split
  · rename_i h
    show (if (45 : UInt8) == 45 then (Lib.decNat (Lib.decDigits n.natAbs)).map fun (m : Nat) => -(m : Int) else if (45 : UInt8) == 43 then (Lib.decNat (Lib.decDigits n.natAbs)).map fun (m : Nat) => (m : Int) else (Lib.decNat (45 :: Lib.decDigits n.natAbs)).map fun (m : Nat) => (m : Int)) = _
    rw [if_pos (by rfl), decNat_digits]
    simp only [Option.map_some]
    congr 1
    omega
  · rename_i h
    have hd := digits_byte n.toNat
    have hv := decNat_digits n.toNat
    have hne := digits_ne n.toNat
    generalize Lib.decDigits n.toNat = l at hd hv hne
    cases l with
    | nil => exact absurd rfl hne
    | cons b r =>
      have hb := hd b (by simp)
      show (if b == 45 then (Lib.decNat r).map fun (m : Nat) => -(m : Int) else if b == 43 then (Lib.decNat r).map fun (m : Nat) => (m : Int) else (Lib.decNat (b :: r)).map fun (m : Nat) => (m : Int)) = _
      rw [if_neg (by intro e; have := beq_iff_eq.1 e; subst this; exact absurd hb.1 (by decide)), if_neg (by intro e; have := beq_iff_eq.1 e; subst this; exact absurd hb.1 (by decide)), hv]
      simp only [Option.map_some]
      congr 1
      omega
theorem itoa_len {n : Int} (k : Nat) (h : n.natAbs < 10 ^ (k + 1)) : (Lib.itoa n).length ≤ k + 2 := by
  unfold Lib.itoa
  split
  · have := digits_len k n.natAbs h
    simp only [List.length_cons]; omega
  · have := digits_len k n.toNat (by omega)
    omega
theorem atoiAll_itS (n : Int) (h : n.natAbs < 10 ^ 15) : Lib.atoiAll (itS n).data.toList = .ok n := by
  have e : (itS n).data.toList = Lib.itoa n := rfl
  rw [e, Lib.atoiAll_short _ (by have := itoa_len (n := n) 14 h; omega), atoi_itoa]
  rfl
theorem itoa_byte (n : Int) : ∀ b ∈ Lib.itoa n, b.toNat = 45 ∨ 48 ≤ b.toNat ∧ b.toNat ≤ 57 := by
  unfold Lib.itoa
  split
  · intro b hb
    rcases List.mem_cons.1 hb with rfl | hb
    · exact Or.inl (by decide)
    · exact Or.inr (digits_byte _ b hb)
  · exact fun b hb => Or.inr (digits_byte _ b hb)

/-! ### Words parted by a byte -/
theorem ix_none (c : UInt8) : ∀ w : List UInt8, c ∉ w → Lib.index w [c] = -1
  | [], _ => rfl
  | b :: l, h => by
    have hne : c ≠ b := fun e => h (by simp [e])
    unfold Lib.index
    rw [if_neg (by simp [List.isPrefixOf, hne]), ix_none c l (fun h2 => h (by simp [h2]))]
    rfl
theorem ix_here (c : UInt8) (r : List UInt8) : ∀ w : List UInt8, c ∉ w → Lib.index (w ++ c :: r) [c] = w.length
  | [], _ => by
    rw [List.nil_append]
    unfold Lib.index
    rw [if_pos (by simp [List.isPrefixOf])]
    rfl
  | b :: l, h => by
    have hne : c ≠ b := fun e => h (by simp [e])
    rw [List.cons_append]
    unfold Lib.index
    rw [if_neg (by simp [List.isPrefixOf, hne]), ix_here c r l (fun h2 => h (by simp [h2]))]
    rw [if_neg (by intro e; have := beq_iff_eq.1 e; omega)]
    simp
theorem cut_here (c : UInt8) (w r : List UInt8) (h : c ∉ w) : (Lib.cut (w ++ c :: r) [c]).1 = w := by
  unfold Lib.cut
  rw [ix_here c r w h, if_pos (by omega)]
  simp
theorem join2 (c : UInt8) (x y : List UInt8) (r : List (List UInt8)) : Lib.join (x :: y :: r) [c] = x ++ c :: Lib.join (y :: r) [c] := by
  rw [Lib.join_cons, Lib.join_cons]
  simp [Lib.joinTail]
theorem splitK_join (c : UInt8) : ∀ (r : List (List UInt8)) (x : List UInt8), (∀ w ∈ x :: r, c ∉ w) → Lib.splitK [c] 0 r.length (Lib.join (x :: r) [c]) = x :: r
  | [], x, _ => by rw [Lib.join_one]; rfl
  | y :: r, x, h => by
    have ih := splitK_join c r y (fun w hw => h w (by simp at hw ⊢; exact Or.inr hw))
    rw [join2, List.length_cons]
    unfold Lib.splitK
    rw [ix_here c _ x (h x (by simp)), if_neg (by intro e; have := beq_iff_eq.1 e; omega)]
    simp only [Int.toNat_natCast, Nat.add_zero, List.take_left', List.length_cons, List.length_nil, Nat.zero_add]
    rw [show (x ++ c :: Lib.join (y :: r) [c]).drop (x.length + 1) = Lib.join (y :: r) [c] by rw [← List.drop_drop, List.drop_left]; rfl, ih]
theorem count_join (c : UInt8) : ∀ (r : List (List UInt8)) (x : List UInt8), (∀ w ∈ x :: r, c ∉ w) → (Lib.join (x :: r) [c]).count c = r.length
  | [], x, h => by rw [Lib.join_one, List.count_eq_zero.2 (h x (by simp))]; rfl
  | y :: r, x, h => by
    rw [join2, List.count_append, List.count_cons_self, count_join c r y (fun w hw => h w (by simp at hw ⊢; exact Or.inr hw)), List.count_eq_zero.2 (h x (by simp)), List.length_cons]
    omega
/-- The words of numerals, parted at the blanks. -/
theorem split_nText (e : Int) (es : List Int) : Lib.countB (nText (e :: es)) ⟨#[32]⟩ = es.length ∧ Lib.splitB ⟨#[32]⟩ 0 (Lib.countB (nText (e :: es)) ⟨#[32]⟩) (nText (e :: es)) = (e :: es).map itS := by
  have hno : ∀ w ∈ ((e :: es).map itS).map (·.data.toList), (32 : UInt8) ∉ w := by
    intro w hw h32
    simp only [List.map_map, List.mem_map] at hw
    obtain ⟨n, -, rfl⟩ := hw
    have := itoa_byte n 32 h32
    revert this; decide
  have hd : (nText (e :: es)).data.toList = Lib.join (((e :: es).map itS).map (·.data.toList)) [32] := rfl
  have hc : Lib.countB (nText (e :: es)) ⟨#[32]⟩ = es.length := by
    show Lib.count (nText (e :: es)).data.toList [32] = es.length
    rw [Lib.count_one, hd, List.map_cons, List.map_cons, count_join 32 _ _ (by simpa using hno)]
    simp
  refine ⟨hc, ?_⟩
  have h1 := Lib.splitB_data ⟨#[32]⟩ 0 (Lib.countB (nText (e :: es)) ⟨#[32]⟩) (nText (e :: es))
  rw [hc] at h1 ⊢
  have h2 := splitK_join 32 ((es.map itS).map (·.data.toList)) (itS e).data.toList (by simpa using hno)
  rw [hd, List.map_cons, List.map_cons] at h1
  simp only [List.length_map] at h2
  rw [show (⟨#[32]⟩ : ByteArray).data.toList = [32] from rfl, h2] at h1
  refine (List.map_inj_right (f := fun x : ByteArray => x.data.toList) (fun a b h => by
    obtain ⟨⟨a⟩⟩ := a; obtain ⟨⟨b⟩⟩ := b
    exact congrArg (fun l => ByteArray.mk ⟨l⟩) h)).1 (h1.trans ?_)
  rfl
end
section
open Go Go.RowKit

theorem kept_of_below {w w' : World} (hb : Below w.heap.size w w') : w.keptBut w' (fun _ => False) := ⟨hb.os, hb.output, fun i hi => by
  rw [hb.block i hi]
  cases h : w.heap[i]? with
  | none => rfl
  | some o => cases o with
    | cells c t fr => exact ⟨rfl, rfl, rfl, fun _ _ => rfl⟩
    | map es clock => exact Or.inr ⟨rfl, rfl⟩
    | _ => rfl⟩
theorem shaped_on {w w' : World} (h : w.ShapedOpen Tryz.prog) (hb : Below w.heap.size w w') : w'.ShapedOpen Tryz.prog := h.keptBut (kept_of_below hb) (fun _ hf => hf.elim)
theorem var_on {w w' : World} {n : String} {cs : Array Value} (h : w.var? Tryz.prog n = some cs) (hb : Below w.heap.size w w') : w'.var? Tryz.prog n = some cs := by
  unfold World.var? at h ⊢
  cases hg : Tryz.prog.globalNamed n with
  | none => rw [hg] at h; cases h
  | some g =>
    rw [hg] at h
    simp only [Option.bind_some] at h ⊢
    rcases Nat.lt_or_ge g w.heap.size with hl | hl
    · rw [hb.block g hl]; exact h
    · rw [Array.getElem?_eq_none hl] at h; cases h
structure Env (w : World) : Prop where
  tab : Tab w
  sh : w.ShapedOpen Tryz.prog
  es : ∃ tp p, w.var? Tryz.prog "strconv.ErrSyntax" = some #[.iface tp p]
  er : ∃ tp p, w.var? Tryz.prog "strconv.ErrRange" = some #[.iface tp p]
theorem Env.on {w w' : World} (h : Env w) (hb : Below w.heap.size w w') : Env w' :=
  ⟨h.tab.on hb, shaped_on h.sh hb, let ⟨tp, p, h1⟩ := h.es; ⟨tp, p, var_on h1 hb⟩, let ⟨tp, p, h1⟩ := h.er; ⟨tp, p, var_on h1 hb⟩⟩

/-- How strconv.Atoi ends: a number; or none, and an error. -/
def AtP (s : ByteArray) (e : Ending) : Prop :=
  (∃ v : Int, Lib.atoiAll s.data.toList = .ok v ∧ -9223372036854775808 ≤ v ∧ v ≤ 9223372036854775807 ∧ e = .returned (.tuple #[.int .i64 v, .nilIface])) ∨
  ((∀ v : Int, Lib.atoiAll s.data.toList ≠ .ok v) ∧ ∃ (v : Int) (t : TypeId) (N : Nat), e = .returned (.tuple #[.int .i64 v, .iface t (.pointer (some ⟨N, 0, none⟩))]))
theorem atoi_any (s : ByteArray) (w : World) (hs : s.size ≤ 100000000) (h : Env w) : Calls Tryz.prog 101 #[.string s] w fun e w' => AtP s e ∧ Below w.heap.size w w' := by
  obtain ⟨tp, p, h1⟩ := h.es
  obtain ⟨tq, q, h2⟩ := h.er
  rcases hh : Lib.atoiAll s.data.toList with v | _ | _
  · refine (Tryz.strconv_Atoi_ok s (by omega) v hh w).mono fun e w' hp => ?_
    obtain ⟨he, hw⟩ := hp
    refine ⟨Or.inl ⟨v, hh, (Lib.atoiAll_bounds hh).1, (Lib.atoiAll_bounds hh).2, he⟩, ?_⟩
    rcases hw with rfl | ⟨t, rfl⟩
    · exact Below.refl _ _
    · exact Lib.bytesWorld_below _ _ _
  · refine (Any.strconv_Atoi_syntax_var Tryz.laysC172 s (by omega) hh tp p w h1).mono fun e w' hp => ?_
    obtain ⟨N, he, -, -, hb⟩ := hp
    exact ⟨Or.inr ⟨(fun v hv => by rw [hh] at hv; cases hv), 0, _, N, he⟩, hb⟩
  · refine (Any.strconv_Atoi_range_var Tryz.laysC172 s (by omega) hh tq q w h2).mono fun e w' hp => ?_
    obtain ⟨N, he, -, -, hb⟩ := hp
    exact ⟨Or.inr ⟨(fun v hv => by rw [hh] at hv; cases hv), _, _, N, he⟩, hb⟩
/-- The text ahead of the mark, and its words. -/
def jrT (line : ByteArray) : ByteArray := ⟨(Lib.cut line.data.toList [35]).1.toArray⟩
def jrW (line : ByteArray) : List ByteArray := Lib.splitB ⟨#[32]⟩ 0 (Lib.countB (jrT line) ⟨#[32]⟩) (jrT line)
theorem jrT_size (line : ByteArray) : (jrT line).size ≤ line.size := by
  have h : (Lib.cut line.data.toList [35]).1.length ≤ line.data.toList.length := by
    unfold Lib.cut
    split
    · rw [List.length_take]; exact Nat.min_le_right _ _
    · exact Nat.le_refl _
  exact h
theorem jrW_length (line : ByteArray) : (jrW line).length = Lib.countB (jrT line) ⟨#[32]⟩ + 1 := Lib.splitB_all ⟨#[32]⟩ (by decide) 0 _ _ rfl
theorem no35 (es : List Int) : (35 : UInt8) ∉ (nText es).data.toList := by
  intro h
  have h2 : (35 : UInt8) ∈ Lib.join ((es.map itS).map (·.data.toList)) [32] := h
  cases es with
  | nil => simp [Lib.join] at h2
  | cons e es =>
    have key : ∀ (r : List (List UInt8)) (x : List UInt8), (∀ w ∈ x :: r, (35 : UInt8) ∉ w) → (35 : UInt8) ∉ Lib.join (x :: r) [32] := by
      intro r
      induction r with
      | nil => intro x hx; rw [Lib.join_one]; exact hx x (by simp)
      | cons y r ih =>
        intro x hx
        rw [join2]
        intro hm
        rcases List.mem_append.1 hm with hm | hm
        · exact hx x (by simp) hm
        · rcases List.mem_cons.1 hm with hm | hm
          · revert hm; decide
          · exact ih y (fun w hw => hx w (by simp at hw ⊢; exact Or.inr hw)) hm
    refine key _ _ (fun w hw h35 => ?_) h2
    rw [← List.map_cons (f := fun x : ByteArray => x.data.toList), ← List.map_cons (f := itS)] at hw
    simp only [List.map_map, List.mem_map] at hw
    obtain ⟨n, -, rfl⟩ := hw
    have := itoa_byte n 35 h35
    revert this; decide
theorem line_text (k a b lo hi : Int) : jrT (lineS k a b lo hi) = nText [k, a, b, lo, hi] := by
  have hd : (lineS k a b lo hi).data.toList = (nText [k, a, b, lo, hi]).data.toList ++ 35 :: ((itS (sumL (nText [k, a, b, lo, hi]).data.toList)).data.toList ++ [10]) := by
    unfold lineS
    simp
  unfold jrT
  rw [hd, cut_here 35 _ _ (no35 _)]
theorem line_words (k a b lo hi : Int) : jrW (lineS k a b lo hi) = [itS k, itS a, itS b, itS lo, itS hi] := by
  unfold jrW
  rw [line_text]
  exact (split_nText k [a, b, lo, hi]).2
end
section
open Go Go.RowKit

def okNums (ws : List ByteArray) (xs : List Int) : Prop := ws.map (fun s => Lib.atoiAll s.data.toList) = xs.map Lib.NumEnd.ok
theorem okNums_nil : okNums [] [] := rfl
theorem okNums_snoc {ws : List ByteArray} {xs : List Int} {j : Nat} {v : Int} (h : okNums (ws.take j) xs) (hj : j < ws.length) (hv : Lib.atoiAll ws[j].data.toList = .ok v) : okNums (ws.take (j + 1)) (xs ++ [v]) := by
  unfold okNums at h ⊢
  rw [List.take_succ_eq_append_getElem hj, List.map_append, List.map_append, h]
  simp [hv]
def RdP (k : Int) (line : ByteArray) (e : Ending) : Prop :=
  (∃ a b lo hi : Int, recB a b lo hi = true ∧ lineS k a b lo hi = line ∧ e = .returned (.tuple #[.agg #[.int .i64 a, .int .i64 b, .int .i64 lo, .int .i64 hi], .bool true])) ∨
  ((∀ a b lo hi : Int, recB a b lo hi = true → lineS k a b lo hi ≠ line) ∧ ∃ a b lo hi : Int, e = .returned (.tuple #[.agg #[.int .i64 a, .int .i64 b, .int .i64 lo, .int .i64 hi], .bool false]))
theorem recB_bd {k a b lo hi : Int} (h : recB a b lo hi = true) (hk : 0 ≤ k ∧ k ≤ 29) : RcB k a b lo hi := by
  unfold recB at h
  simp only [Bool.and_eq_true, decide_eq_true_eq] at h
  have h2 := curveB_bd h.1
  exact ⟨hk, h2.1, h2.2, by omega, by omega⟩
theorem rec_words {k a b lo hi : Int} {line : ByteArray} (h : recB a b lo hi = true) (hk : 0 ≤ k ∧ k ≤ 29) (hl : lineS k a b lo hi = line) : okNums (jrW line) [k, a, b, lo, hi] := by
  have hb := recB_bd h hk
  have h1 := hb.a; have h2 := hb.b; have h3 := hb.lo; have h4 := hb.hi
  rw [← hl]
  unfold okNums
  rw [line_words]
  simp only [List.map_cons, List.map_nil]
  rw [atoiAll_itS k (by omega), atoiAll_itS a (by omega), atoiAll_itS b (by omega), atoiAll_itS lo (by omega), atoiAll_itS hi (by omega)]
theorem okNums_inj {ws : List ByteArray} {xs ys : List Int} (h : okNums ws xs) (h2 : okNums ws ys) : xs = ys := by
  unfold okNums at h h2
  have h3 := h.symm.trans h2
  exact (List.map_inj_right (fun a b e => by injection e)).1 h3
theorem not_rec_len {k : Int} {line : ByteArray} (hk : 0 ≤ k ∧ k ≤ 29) (hn : (jrW line).length ≠ 5) : ∀ a b lo hi : Int, recB a b lo hi = true → lineS k a b lo hi ≠ line := by
  intro a b lo hi h hl
  have := congrArg List.length (rec_words h hk hl)
  simp at this
  exact hn this
theorem not_rec_word {k : Int} {line : ByteArray} {j : Nat} (hk : 0 ≤ k ∧ k ≤ 29) (hj : j < (jrW line).length) (hn : ∀ v : Int, Lib.atoiAll (jrW line)[j].data.toList ≠ .ok v) : ∀ a b lo hi : Int, recB a b lo hi = true → lineS k a b lo hi ≠ line := by
  intro a b lo hi h hl
  have h1 := rec_words h hk hl
  unfold okNums at h1
  have h2 := congrArg (fun l => l[j]?) h1
  simp only [List.getElem?_map, List.getElem?_eq_getElem hj, Option.map_some] at h2
  cases h5 : [k, a, b, lo, hi][j]? with
  | none => rw [h5] at h2; cases h2
  | some v => rw [h5] at h2; exact hn v (Option.some.inj h2)
theorem not_rec_vals {k a b lo hi x0 : Int} {line : ByteArray} (hk : 0 ≤ k ∧ k ≤ 29) (hw : okNums (jrW line) [x0, a, b, lo, hi]) (hn : ¬ (recB a b lo hi = true ∧ lineS k a b lo hi = line)) : ∀ a b lo hi : Int, recB a b lo hi = true → lineS k a b lo hi ≠ line := by
  intro a' b' lo' hi' h hl
  have h1 := okNums_inj hw (rec_words h hk hl)
  simp only [List.cons.injEq, and_true] at h1
  obtain ⟨-, rfl, rfl, rfl, rfl⟩ := h1
  exact hn ⟨h, hl⟩
theorem drewN_below (w : World) (n : Nat) : Below w.heap.size w (w.drewN n) := ⟨rfl, rfl, rfl, Nat.le_refl _, fun _ _ => rfl⟩
theorem cut_any (line : ByteArray) (w : World) (hs : line.size ≤ 100000000) (h : Env w) : Calls Tryz.prog 100 #[.string line, .string ⟨#[35]⟩] w fun e w' => (∃ u b, e = .returned (.tuple #[.string (jrT line), .string u, .bool b])) ∧ Below w.heap.size w w' := by
  refine (Tryz.strings_Cut_shaped line ⟨#[35]⟩ w h.sh (by omega)).mono fun e w' hp => ?_
  obtain ⟨he, n, rfl⟩ := hp
  exact ⟨⟨_, _, he⟩, drewN_below w n⟩
theorem split_any (line : ByteArray) (w : World) (hs : line.size ≤ 100000000) (h : Env w) : Calls Tryz.prog 97 #[.string (jrT line), .string ⟨#[32]⟩] w fun e w' => e = .returned (.slice (some ⟨w.heap.size, 0, none⟩) (jrW line).length (jrW line).length) ∧ Blk w' w.heap.size 9 ((jrW line).map Value.string).toArray ∧ Below w.heap.size w w' := by
  refine (Tryz.strings_Split_shaped (jrT line) ⟨#[32]⟩ w h.sh (by have := jrT_size line; omega) (by decide)).mono fun e w' hp => ?_
  obtain ⟨he, rfl⟩ := hp
  rw [jrW_length]
  exact ⟨he, Blk.new w _ _, bal (Below.refl _ _) _⟩
end
section
open Go Go.RowKit

structure Rc where
  a : Int
  b : Int
  lo : Int
  hi : Int
  deriving DecidableEq
def rcS : Shape Rc := ⟨4, fun e j => match j with | 0 => .int .i64 e.a | 1 => .int .i64 e.b | 2 => .int .i64 e.lo | _ => .int .i64 e.hi, ⟨0, 0, 0, 0⟩⟩
def Rc.agg (r : Rc) : Value := .agg #[.int .i64 r.a, .int .i64 r.b, .int .i64 r.lo, .int .i64 r.hi]
def Rc.ok (r : Rc) : Bool := recB r.a r.b r.lo r.hi
def Rc.line (k : Int) (r : Rc) : ByteArray := lineS k r.a r.b r.lo r.hi

/-- The record of a line with a number, if there is one. -/
def rdL (k : Int) (line : ByteArray) : Option Rc :=
  match (jrW line).map (fun s => Lib.atoiAll s.data.toList) with
  | [.ok _, .ok a, .ok b, .ok lo, .ok hi] => if recB a b lo hi = true ∧ (lineS k a b lo hi).data.toList = line.data.toList then some ⟨a, b, lo, hi⟩ else none
  | _ => none
theorem bytes_ext {a b : ByteArray} (h : a.data.toList = b.data.toList) : a = b := by
  obtain ⟨⟨a⟩⟩ := a; obtain ⟨⟨b⟩⟩ := b
  exact congrArg (fun l => ByteArray.mk ⟨l⟩) h
theorem rdL_some {k : Int} {line : ByteArray} {r : Rc} (h : r.ok = true) (hk : 0 ≤ k ∧ k ≤ 29) (hl : r.line k = line) : rdL k line = some r := by
  have h1 := rec_words h hk hl
  unfold okNums at h1
  unfold rdL
  rw [h1]
  simp only [List.map_cons, List.map_nil]
  rw [if_pos ⟨h, by rw [← hl]; rfl⟩]
theorem rdL_spec {k : Int} {line : ByteArray} {r : Rc} (h : rdL k line = some r) : r.ok = true ∧ r.line k = line := by
  unfold rdL at h
  split at h
  · split at h
    · rename_i hh
      injection h with h
      subst h
      exact ⟨hh.1, bytes_ext hh.2⟩
    · cases h
  · cases h
theorem RdP.cases {k : Int} {line : ByteArray} {e : Ending} (hk : 0 ≤ k ∧ k ≤ 29) (h : RdP k line e) :
    (∃ r : Rc, rdL k line = some r ∧ r.ok = true ∧ r.line k = line ∧ e = .returned (.tuple #[.agg #[.int .i64 r.a, .int .i64 r.b, .int .i64 r.lo, .int .i64 r.hi], .bool true])) ∨
    (rdL k line = none ∧ ∃ a b lo hi : Int, e = .returned (.tuple #[.agg #[.int .i64 a, .int .i64 b, .int .i64 lo, .int .i64 hi], .bool false])) := by
  rcases h with ⟨a, b, lo, hi, h1, h2, rfl⟩ | ⟨h1, a, b, lo, hi, rfl⟩
  · exact Or.inl ⟨⟨a, b, lo, hi⟩, rdL_some (r := ⟨a, b, lo, hi⟩) h1 hk h2, h1, h2, rfl⟩
  · refine Or.inr ⟨?_, a, b, lo, hi, rfl⟩
    cases hr : rdL k line with
    | none => rfl
    | some r => exact absurd (rdL_spec hr).2 (h1 _ _ _ _ (rdL_spec hr).1)

/-! ### The first newline -/
theorem ixb_app : ∀ (l p : List UInt8) (c : UInt8), 0 ≤ Lib.indexByte l c → Lib.indexByte (l ++ p) c = Lib.indexByte l c
  | [], _, _, h => absurd (show (0 : Int) ≤ -1 from h) (by decide)
  | b :: l, p, c, h => by
    rw [List.cons_append]
    unfold Lib.indexByte at h ⊢
    by_cases hb : (b == c) = true
    · rw [if_pos hb, if_pos hb]
    · rw [if_neg hb] at h ⊢
      rw [if_neg hb]
      by_cases h2 : (Lib.indexByte l c == -1) = true
      · rw [if_pos h2] at h
        exact absurd h (by decide)
      · rw [if_neg h2]
        have hge := Lib.indexByte_ge l c
        have hne : Lib.indexByte l c ≠ -1 := fun e => h2 (by rw [e]; rfl)
        rw [ixb_app l p c (by omega), if_neg h2]
theorem ixb_lt : ∀ (l : List UInt8) (c : UInt8), 0 ≤ Lib.indexByte l c → (Lib.indexByte l c).toNat < l.length
  | [], _, h => absurd (show (0 : Int) ≤ -1 from h) (by decide)
  | b :: l, c, h => by
    unfold Lib.indexByte at h ⊢
    by_cases hb : (b == c) = true
    · rw [if_pos hb]; simp
    · rw [if_neg hb] at h ⊢
      by_cases h2 : (Lib.indexByte l c == -1) = true
      · rw [if_pos h2] at h
        exact absurd h (by decide)
      · rw [if_neg h2]
        have hge := Lib.indexByte_ge l c
        have hne : Lib.indexByte l c ≠ -1 := fun e => h2 (by rw [e]; rfl)
        have := ixb_lt l c (by omega)
        rw [List.length_cons]
        omega

/-! ### The records at the beginning of a text -/
def openF : Nat → Int → List UInt8 → List Rc × Nat
  | 0, _, _ => ([], 0)
  | F + 1, k, l =>
    if Lib.indexByte l 10 < 0 then ([], 0) else
      match rdL k ⟨(l.take ((Lib.indexByte l 10).toNat + 1)).toArray⟩ with
      | none => ([], 0)
      | some r => (r :: (openF F (k + 1) (l.drop ((Lib.indexByte l 10).toNat + 1))).1, (Lib.indexByte l 10).toNat + 1 + (openF F (k + 1) (l.drop ((Lib.indexByte l 10).toNat + 1))).2)
theorem openF_zero (k : Int) (l : List UInt8) : openF 0 k l = ([], 0) := rfl
theorem openF_none {F : Nat} {k : Int} {l : List UInt8} (h : Lib.indexByte l 10 < 0) : openF F k l = ([], 0) := by
  cases F with
  | zero => rfl
  | succ F => unfold openF; rw [if_pos h]
theorem openF_bad {F : Nat} {k : Int} {l : List UInt8} (h : rdL k ⟨(l.take ((Lib.indexByte l 10).toNat + 1)).toArray⟩ = none) : openF F k l = ([], 0) := by
  cases F with
  | zero => rfl
  | succ F =>
    unfold openF
    split
    · rfl
    · rw [h]
theorem openF_step {F : Nat} {k : Int} {l : List UInt8} {r : Rc} (h0 : 0 ≤ Lib.indexByte l 10) (h : rdL k ⟨(l.take ((Lib.indexByte l 10).toNat + 1)).toArray⟩ = some r) :
    openF (F + 1) k l = (r :: (openF F (k + 1) (l.drop ((Lib.indexByte l 10).toNat + 1))).1, (Lib.indexByte l 10).toNat + 1 + (openF F (k + 1) (l.drop ((Lib.indexByte l 10).toNat + 1))).2) := by
  rw [openF, if_neg (by omega), h]
/-- The two ways. -/
theorem openF_cases (F : Nat) (k : Int) (l : List UInt8) : openF F k l = ([], 0) ∨
    ∃ G r, F = G + 1 ∧ 0 ≤ Lib.indexByte l 10 ∧ rdL k ⟨(l.take ((Lib.indexByte l 10).toNat + 1)).toArray⟩ = some r ∧
      openF F k l = (r :: (openF G (k + 1) (l.drop ((Lib.indexByte l 10).toNat + 1))).1, (Lib.indexByte l 10).toNat + 1 + (openF G (k + 1) (l.drop ((Lib.indexByte l 10).toNat + 1))).2) := by
  cases F with
  | zero => exact Or.inl rfl
  | succ G =>
    by_cases h0 : Lib.indexByte l 10 < 0
    · exact Or.inl (openF_none h0)
    · cases h : rdL k ⟨(l.take ((Lib.indexByte l 10).toNat + 1)).toArray⟩ with
      | none => exact Or.inl (openF_bad h)
      | some r => exact Or.inr ⟨G, r, rfl, by omega, by first | rfl | exact h, openF_step (by omega) h⟩
theorem openF_le : ∀ (F : Nat) (k : Int) (l : List UInt8), (openF F k l).1.length ≤ F ∧ (openF F k l).2 ≤ l.length := by
  intro F
  induction F with
  | zero => exact fun k l => ⟨Nat.le_refl _, Nat.zero_le _⟩
  | succ F ih =>
    intro k l
    rcases openF_cases (F + 1) k l with h | ⟨G, r, hG, h0, -, h⟩
    · rw [h]; exact ⟨Nat.zero_le _, Nat.zero_le _⟩
    · obtain rfl : F = G := by omega
      have h2 := ih (k + 1) (l.drop ((Lib.indexByte l 10).toNat + 1))
      have h3 := ixb_lt l 10 h0
      rw [h]
      rw [List.length_drop] at h2
      exact ⟨by rw [List.length_cons]; omega, by show (Lib.indexByte l 10).toNat + 1 + _ ≤ _; omega⟩
theorem openF_ok : ∀ (F : Nat) (k : Int) (l : List UInt8), ∀ r ∈ (openF F k l).1, r.ok = true := by
  intro F
  induction F with
  | zero => exact fun k l r h => by cases h
  | succ F ih =>
    intro k l r hr
    rcases openF_cases (F + 1) k l with h | ⟨G, r', hG, h0, hr', h⟩
    · rw [h] at hr; cases hr
    · obtain rfl : F = G := by omega
      rw [h] at hr
      rcases List.mem_cons.1 hr with rfl | hr
      · exact (rdL_spec hr').1
      · exact ih _ _ r hr
/-- What all of a text is made of goes ahead of any other text. -/
theorem openF_app : ∀ (F : Nat) (k : Int) (D P : List UInt8), (openF F k D).2 = D.length →
    openF F k (D ++ P) = ((openF F k D).1 ++ (openF (F - (openF F k D).1.length) (k + (openF F k D).1.length) P).1, D.length + (openF (F - (openF F k D).1.length) (k + (openF F k D).1.length) P).2) := by
  intro F
  induction F with
  | zero =>
    intro k D P h
    obtain rfl : D = [] := List.eq_nil_of_length_eq_zero h.symm
    rfl
  | succ F ih =>
    intro k D P h
    rcases openF_cases (F + 1) k D with hc | ⟨G, r, hG, h0, hr, hc⟩
    · rw [hc] at h
      obtain rfl : D = [] := List.eq_nil_of_length_eq_zero h.symm
      rw [hc, List.nil_append]
      simp
    · obtain rfl : F = G := by omega
      have h3 := ixb_lt D 10 h0
      have hx := ixb_app D P 10 h0
      rw [hc] at h
      have h' : (openF F (k + 1) (D.drop ((Lib.indexByte D 10).toNat + 1))).2 = (D.drop ((Lib.indexByte D 10).toNat + 1)).length := by
        rw [List.length_drop]
        simp only at h
        omega
      have h4 := ih (k + 1) (D.drop ((Lib.indexByte D 10).toNat + 1)) P h'
      have ht : (D ++ P).take ((Lib.indexByte (D ++ P) 10).toNat + 1) = D.take ((Lib.indexByte D 10).toNat + 1) := by
        rw [hx, List.take_append_of_le_length (by omega)]
      have hd : (D ++ P).drop ((Lib.indexByte (D ++ P) 10).toNat + 1) = D.drop ((Lib.indexByte D 10).toNat + 1) ++ P := by
        rw [hx, List.drop_append_of_le_length (by omega)]
      rw [openF_step (by rw [hx]; exact h0) (by rw [ht]; exact hr), hd, h4, hc, hx]
      have e5 : ∀ n : Nat, k + ((n + 1 : Nat) : Int) = k + 1 + (n : Int) := fun n => by omega
      simp only [List.length_cons, List.cons_append, e5]
      rw [show F + 1 - ((openF F (k + 1) (D.drop ((Lib.indexByte D 10).toNat + 1))).1.length + 1) = F - (openF F (k + 1) (D.drop ((Lib.indexByte D 10).toNat + 1))).1.length by omega]
      rw [List.length_drop]
      simp only [Prod.mk.injEq, true_and]
      omega

/-! ### How long a line is -/
theorem line_len {k : Int} {r : Rc} (h : r.ok = true) (hk : 0 ≤ k ∧ k ≤ 29) : (r.line k).size ≤ 40 := by
  have hb := recB_bd h hk
  have e : (r.line k).data.toList = Lib.itoa k ++ 32 :: (Lib.itoa r.a ++ 32 :: (Lib.itoa r.b ++ 32 :: (Lib.itoa r.lo ++ 32 :: (Lib.itoa r.hi ++ 35 :: (Lib.itoa (sumL (nText [k, r.a, r.b, r.lo, r.hi]).data.toList) ++ [10]))))) := by
    unfold Rc.line lineS nText itS
    simp [Lib.join, List.intercalate]
  have h2 := hb.a; have h3 := hb.b; have h4 := hb.lo; have h5 := hb.hi
  have h6 := sumL_bd (nText [k, r.a, r.b, r.lo, r.hi]).data.toList
  have l1 := itoa_len (n := k) 1 (by omega)
  have l2 := itoa_len (n := r.a) 3 (by omega)
  have l3 := itoa_len (n := r.b) 4 (by omega)
  have l4 := itoa_len (n := r.lo) 1 (by omega)
  have l5 := itoa_len (n := r.hi) 1 (by omega)
  have l6 := itoa_len (n := sumL (nText [k, r.a, r.b, r.lo, r.hi]).data.toList) 6 (by omega)
  have e2 := congrArg List.length e
  simp only [List.length_append, List.length_cons, List.length_nil] at e2
  have e3 : (r.line k).data.toList.length = (r.line k).size := rfl
  omega
theorem openF_size : ∀ (F : Nat) (k : Int) (l : List UInt8), 0 ≤ k → k + F ≤ 30 → (openF F k l).2 ≤ 40 * (openF F k l).1.length := by
  intro F
  induction F with
  | zero => exact fun k l _ _ => Nat.le_refl _
  | succ F ih =>
    intro k l hk hF
    rcases openF_cases (F + 1) k l with h | ⟨G, r, hG, h0, hr, h⟩
    · rw [h]; exact Nat.zero_le _
    · obtain rfl : F = G := by omega
      have h2 := ih (k + 1) (l.drop ((Lib.indexByte l 10).toNat + 1)) (by omega) (by omega)
      have h3 := ixb_lt l 10 h0
      have h4 := line_len (rdL_spec hr).1 (k := k) (by omega)
      rw [(rdL_spec hr).2] at h4
      have h5 : (⟨(l.take ((Lib.indexByte l 10).toNat + 1)).toArray⟩ : ByteArray).size = (Lib.indexByte l 10).toNat + 1 := by
        show (l.take ((Lib.indexByte l 10).toNat + 1)).toArray.size = _
        rw [List.size_toArray, List.length_take]; omega
      rw [h]
      simp only [List.length_cons]
      omega

/-! ### Journals -/
def jrA (D : ByteArray) : List Rc × Nat := openF 30 0 D.data.toList
def jrN (D P : ByteArray) : List Rc × Nat := openF (30 - (jrA D).1.length) ((jrA D).1.length : Int) P.data.toList
/-- A journal is valid. -/
def jrOk (D P : ByteArray) : Bool := decide ((jrA D).2 = D.size ∧ (jrN D P).2 = P.size)
/-- Its records. -/
def jrRecs (D P : ByteArray) : List Rc := (jrA D).1 ++ (jrN D P).1
theorem jrA_le (D : ByteArray) : (jrA D).1.length ≤ 30 ∧ (jrA D).2 ≤ D.size := openF_le 30 0 D.data.toList
theorem jrN_le (D P : ByteArray) : (jrN D P).1.length ≤ 30 - (jrA D).1.length ∧ (jrN D P).2 ≤ P.size := openF_le _ _ P.data.toList
theorem jrRecs_len (D P : ByteArray) : (jrRecs D P).length ≤ 30 := by
  have h1 := jrA_le D; have h2 := jrN_le D P
  unfold jrRecs
  rw [List.length_append]; omega
theorem jrRecs_ok (D P : ByteArray) : ∀ r ∈ jrRecs D P, r.ok = true := by
  intro r hr
  rcases List.mem_append.1 hr with h | h
  · exact openF_ok _ _ _ r h
  · exact openF_ok _ _ _ r h
theorem jr_size {D P : ByteArray} (h : jrOk D P = true) : D.size + P.size ≤ 1200 := by
  unfold jrOk at h
  have h0 := of_decide_eq_true h
  have h1 := jrA_le D; have h2 := jrN_le D P
  have s1 : (jrA D).2 ≤ 40 * (jrA D).1.length := openF_size 30 0 D.data.toList (by omega) (by omega)
  have s2 : (jrN D P).2 ≤ 40 * (jrN D P).1.length := openF_size (30 - (jrA D).1.length) _ P.data.toList (by omega) (by omega)
  omega
theorem jr_both {D P : ByteArray} (h : (jrA D).2 = D.size) : jrA (D ++ P) = (jrRecs D P, D.size + (jrN D P).2) := by
  have h1 := openF_app 30 0 D.data.toList P.data.toList h
  have e : (D ++ P).data.toList = D.data.toList ++ P.data.toList := by simp
  unfold jrRecs jrN jrA at *
  rw [e, h1, Int.zero_add]
  rfl
/-- The reference's way to say it. -/
theorem jrOk_spec (D P : ByteArray) : jrOk D P = (decide (D.size ≤ 4000) && (decide (P.size ≤ 4000) && (decide ((D ++ P).size ≤ 4000) && (decide ((jrA (D ++ P)).2 = D.size + P.size) && decide ((jrA D).2 = D.size))))) := by
  rw [Bool.eq_iff_iff]
  simp only [Bool.and_eq_true, decide_eq_true_eq]
  rw [ByteArray.size_append]
  constructor
  · intro h
    have hs := jr_size h
    have h0 := of_decide_eq_true h
    refine ⟨by omega, by omega, by omega, ?_, h0.1⟩
    rw [jr_both h0.1]
    show D.size + _ = _
    rw [h0.2]
  · rintro ⟨-, -, -, h1, h2⟩
    rw [jr_both h2] at h1
    unfold jrOk
    refine decide_eq_true ⟨h2, ?_⟩
    simp only at h1
    omega
theorem jrRecs_spec {D P : ByteArray} (h : jrOk D P = true) : (jrA (D ++ P)).1 = jrRecs D P := by
  have h0 := of_decide_eq_true h
  rw [jr_both h0.1]
end
section
open Go Go.RowKit

/-! ### A text parted at a byte -/
def spl (b : UInt8) : List UInt8 → List (List UInt8)
  | [] => [[]]
  | c :: l => if c = b then [] :: spl b l else match spl b l with
    | [] => [[c]]
    | x :: r => (c :: x) :: r
theorem spl_ne (b : UInt8) (l : List UInt8) : spl b l ≠ [] := by
  cases l with
  | nil => simp [spl]
  | cons c l =>
    unfold spl
    split
    · simp
    · split <;> simp
theorem spl_none (b : UInt8) : ∀ w : List UInt8, b ∉ w → spl b w = [w]
  | [], _ => rfl
  | c :: l, h => by
    have hne : c ≠ b := fun e => h (by simp [e])
    unfold spl
    rw [if_neg hne, spl_none b l (fun h2 => h (by simp [h2]))]
theorem spl_here (b : UInt8) (r : List UInt8) : ∀ w : List UInt8, b ∉ w → spl b (w ++ b :: r) = w :: spl b r
  | [], _ => by
    rw [List.nil_append]
    conv => lhs; unfold spl
    rw [if_pos rfl]
  | c :: l, h => by
    have hne : c ≠ b := fun e => h (by simp [e])
    rw [List.cons_append]
    conv => lhs; unfold spl
    rw [if_neg hne, spl_here b r l (fun h2 => h (by simp [h2]))]
theorem spl_join (b : UInt8) : ∀ (r : List (List UInt8)) (x : List UInt8), (∀ w ∈ x :: r, b ∉ w) → spl b (Lib.join (x :: r) [b]) = x :: r
  | [], x, h => by rw [Lib.join_one]; exact spl_none b x (h x (by simp))
  | y :: r, x, h => by
    rw [join2, spl_here b _ x (h x (by simp)), spl_join b r y (fun w hw => h w (by simp at hw ⊢; exact Or.inr hw))]
theorem spl_len (b : UInt8) : ∀ l : List UInt8, (spl b l).length ≤ l.length + 1
  | [] => Nat.le_refl _
  | c :: l => by
    have := spl_len b l
    unfold spl
    split
    · simp only [List.length_cons]; omega
    · split
      · simp
      · rename_i h; rw [h] at this; simp only [List.length_cons] at this ⊢; omega
theorem spl_mem (b : UInt8) : ∀ l : List UInt8, ∀ x ∈ spl b l, x.length ≤ l.length
  | [], x, h => by simp [spl] at h; rw [h]; exact Nat.le_refl _
  | c :: l, x, h => by
    have ih := spl_mem b l
    unfold spl at h
    split at h
    · rcases List.mem_cons.1 h with rfl | h
      · simp
      · have := ih x h; simp only [List.length_cons]; omega
    · split at h
      · simp at h; rw [h]; simp
      · rename_i y r hy
        rcases List.mem_cons.1 h with rfl | h
        · have := ih y (by rw [hy]; simp); simp only [List.length_cons]; omega
        · have := ih x (by rw [hy]; simp [h]); simp only [List.length_cons]; omega

/-! ### Numerals read -/
def rdD : List UInt8 → Int → Int
  | [], acc => acc
  | c :: l, acc => if c < 48 ∨ 57 < c then -1 else rdD l (10 * acc + (c.toNat : Int) - 48)
def rdN (l : List UInt8) : Int := if ¬ (1 ≤ l.length ∧ l.length ≤ 6) ∨ (l[0]? = some 48 ∧ 1 < l.length) then -1 else rdD l 0
def sgN (l : List UInt8) : Int := if l[0]? = some 45 then (if rdN (l.drop 1) < 0 then 100000 else -(rdN (l.drop 1))) else (if rdN l < 0 then 100000 else rdN l)
theorem rdD_bd : ∀ (l : List UInt8) (acc : Int) (n : Nat), 0 ≤ acc → acc < 10 ^ n → -1 ≤ rdD l acc ∧ rdD l acc < 10 ^ (n + l.length)
  | [], acc, n, h0, h1 => ⟨by show -1 ≤ acc; omega, h1⟩
  | c :: l, acc, n, h0, h1 => by
    unfold rdD
    split
    · refine ⟨by omega, ?_⟩
      have : (0 : Int) < 10 ^ (n + (c :: l).length) := Int.pow_pos (by omega)
      omega
    · rename_i hc
      have h2 : 48 ≤ c.toNat ∧ c.toNat ≤ 57 := by
        constructor
        · rcases Nat.lt_or_ge c.toNat 48 with h | h
          · exact absurd (Or.inl (by rw [UInt8.lt_iff_toNat_lt]; exact h)) hc
          · exact h
        · rcases Nat.lt_or_ge 57 c.toNat with h | h
          · exact absurd (Or.inr (by rw [UInt8.lt_iff_toNat_lt]; exact h)) hc
          · exact h
      have h3 := rdD_bd l (10 * acc + (c.toNat : Int) - 48) (n + 1) (by omega) (by rw [Int.pow_succ]; omega)
      rw [List.length_cons, show n + (l.length + 1) = n + 1 + l.length by omega]
      exact h3
theorem rdN_bd (l : List UInt8) : -1 ≤ rdN l ∧ rdN l ≤ 999999 := by
  unfold rdN
  split
  · omega
  · rename_i h
    have hl : l.length ≤ 6 := by
      rcases Nat.lt_or_ge 6 l.length with h2 | h2
      · exact absurd (Or.inl (by omega)) h
      · exact h2
    have h1 := rdD_bd l 0 0 (by omega) (by decide)
    have h2 : (10 : Int) ^ (0 + l.length) ≤ 10 ^ 6 := by
      rw [Nat.zero_add]
      match l.length, hl with
      | 0, _ => decide
      | 1, _ => decide
      | 2, _ => decide
      | 3, _ => decide
      | 4, _ => decide
      | 5, _ => decide
      | 6, _ => decide
    have h3 : (10 : Int) ^ 6 = 1000000 := by decide
    omega
theorem sgN_bd (l : List UInt8) : -999999 ≤ sgN l ∧ sgN l ≤ 999999 := by
  have h1 := rdN_bd l; have h2 := rdN_bd (l.drop 1)
  unfold sgN
  split <;> split <;> omega
theorem rdD_dec : ∀ (l : List UInt8) (acc x : Nat), Lib.decFrom acc l = some x → rdD l acc = x
  | [], acc, x, h => by
    simp only [Lib.decFrom] at h
    injection h with h
    rw [h]; rfl
  | c :: l, acc, x, h => by
    rw [Lib.decFrom] at h
    cases hd : Lib.digitVal c with
    | none => rw [hd] at h; cases h
    | some d =>
      rw [hd] at h
      have hd2 : 48 ≤ c.toNat ∧ c.toNat ≤ 57 ∧ d = c.toNat - 48 := by
        unfold Lib.digitVal at hd
        split at hd
        · rename_i hh
          injection hd with hd
          exact ⟨by omega, by omega, by omega⟩
        · cases hd
      unfold rdD
      rw [if_neg (by rw [UInt8.lt_iff_toNat_lt, UInt8.lt_iff_toNat_lt]; show ¬ (c.toNat < 48 ∨ 57 < c.toNat); omega)]
      have h3 := rdD_dec l _ x h
      rw [← h3]
      congr 1
      omega
theorem digits_head (n : Nat) : ∀ r, Lib.decDigits n = 48 :: r → r = [] := by
  induction n using Nat.strongRecOn with
  | ind n ih =>
    intro r h
    by_cases h1 : n < 10
    · rw [Lib.decDigits_one h1] at h
      injection h with _ h
      exact h.symm
    · rw [Lib.decDigits, dif_neg h1] at h
      cases hq : Lib.decDigits (n / 10) with
      | nil => exact absurd hq (digits_ne _)
      | cons c q =>
        rw [hq] at h
        injection h with hc hr
        subst hc
        have hq0 := ih (n / 10) (by omega) q hq
        subst hq0
        have hv := decFrom_digits (n / 10)
        rw [hq] at hv
        have h0 : Lib.decFrom 0 [48] = some 0 := by decide
        rw [h0] at hv
        injection hv with hv
        omega
theorem rdN_digits (n : Nat) (h : n < 1000000) : rdN (Lib.decDigits n) = n := by
  unfold rdN
  have hl := digits_len 5 n (by omega)
  have hne := digits_ne n
  rw [if_neg]
  · exact rdD_dec _ 0 n (decFrom_digits n)
  · rintro (h1 | ⟨h1, h2⟩)
    · apply h1
      have : 0 < (Lib.decDigits n).length := List.length_pos_iff.2 hne
      omega
    · cases hq : Lib.decDigits n with
      | nil => exact hne hq
      | cons c q =>
        rw [hq] at h1 h2
        simp only [List.getElem?_cons_zero, Option.some.injEq] at h1
        subst h1
        have := digits_head n q hq
        subst this
        simp at h2
theorem rdN_itoa {n : Int} (h0 : 0 ≤ n) (h : n < 1000000) : rdN (Lib.itoa n) = n := by
  unfold Lib.itoa
  rw [if_neg (by omega), rdN_digits _ (by omega)]
  omega
theorem sgN_itoa {n : Int} (h0 : -1000000 < n) (h : n < 1000000) : sgN (Lib.itoa n) = n := by
  by_cases hn : n < 0
  · have e : Lib.itoa n = 45 :: Lib.decDigits n.natAbs := by unfold Lib.itoa; rw [if_pos hn]
    unfold sgN
    rw [e]
    simp only [List.getElem?_cons_zero, if_pos, List.drop_succ_cons, List.drop_zero]
    rw [rdN_digits _ (by omega), if_neg (by omega)]
    omega
  · have e : Lib.itoa n = Lib.decDigits n.toNat := by unfold Lib.itoa; rw [if_neg hn]
    have h1 : ¬ (Lib.itoa n)[0]? = some 45 := by
      rw [e]
      intro h2
      cases hq : Lib.decDigits n.toNat with
      | nil => exact digits_ne _ hq
      | cons c q =>
        rw [hq] at h2
        simp only [List.getElem?_cons_zero, Option.some.injEq] at h2
        have := digits_byte n.toNat c (by rw [hq]; simp)
        subst h2
        revert this; decide
    unfold sgN
    rw [if_neg h1, rdN_itoa (by omega) h, if_neg (by omega)]

/-! ### A curve's text read -/
def paC (s : List UInt8) : Option (Int × Int) :=
  match spl 32 s with
  | [x, y] => if curveB (sgN x) (sgN y) = true ∧ (nText [sgN x, sgN y]).data.toList = s then some (sgN x, sgN y) else none
  | _ => none
theorem itoa_no32 (n : Int) : (32 : UInt8) ∉ Lib.itoa n := fun h => by
  have := itoa_byte n 32 h
  revert this; decide
theorem nTextD (a b : Int) : (nText [a, b]).data.toList = Lib.itoa a ++ 32 :: Lib.itoa b := by
  unfold nText itS
  simp [Lib.join, List.intercalate]
theorem paC_text {a b : Int} (h : curveB a b = true) : paC (nText [a, b]).data.toList = some (a, b) := by
  obtain ⟨h1, h2⟩ := curveB_bd h
  unfold paC
  rw [nTextD, spl_here 32 _ _ (itoa_no32 a), spl_none 32 _ (itoa_no32 b)]
  simp only
  rw [sgN_itoa (by omega) (by omega), sgN_itoa (by omega) (by omega), if_pos ⟨h, nTextD a b⟩]
theorem paC_spec {s : List UInt8} {a b : Int} (h : paC s = some (a, b)) : curveB a b = true ∧ (nText [a, b]).data.toList = s := by
  unfold paC at h
  split at h
  · split at h
    · rename_i hh
      injection h with h
      injection h with ha hb
      subst ha; subst hb
      exact hh
    · cases h
  · cases h
theorem nText2_len {a b : Int} (h : curveB a b = true) : (nText [a, b]).data.toList.length ≤ 12 := by
  obtain ⟨h1, h2⟩ := curveB_bd h
  rw [nTextD]
  have l2 := itoa_len (n := a) 3 (by omega)
  have l3 := itoa_len (n := b) 4 (by omega)
  rw [List.length_append, List.length_cons]
  omega
theorem paC_long {s : List UInt8} (h : 12 < s.length) : paC s = none := by
  cases hp : paC s with
  | none => rfl
  | some p =>
    have h1 := paC_spec (a := p.1) (b := p.2) hp
    have h2 := nText2_len h1.1
    rw [h1.2] at h2
    omega

/-! ### The reference's way to read a record's line -/
/-- The words ahead of the mark. -/
def jwS (s : List UInt8) : List (List UInt8) := spl 32 ((spl 35 s).headD [])
theorem line_data (k a b lo hi : Int) : (lineS k a b lo hi).data.toList = (nText [k, a, b, lo, hi]).data.toList ++ 35 :: ((itS (sumL (nText [k, a, b, lo, hi]).data.toList)).data.toList ++ [10]) := by
  unfold lineS
  simp
theorem line_cut {s : List UInt8} {k a b lo hi : Int} (h : (lineS k a b lo hi).data.toList = s ++ [10]) : s = (nText [k, a, b, lo, hi]).data.toList ++ 35 :: (itS (sumL (nText [k, a, b, lo, hi]).data.toList)).data.toList := by
  rw [line_data, ← List.cons_append, ← List.append_assoc] at h
  exact (List.append_cancel_right h).symm
theorem line_jw {s : List UInt8} {k a b lo hi : Int} (h : (lineS k a b lo hi).data.toList = s ++ [10]) : jwS s = [Lib.itoa k, Lib.itoa a, Lib.itoa b, Lib.itoa lo, Lib.itoa hi] := by
  have h1 := line_cut h
  unfold jwS
  rw [h1, spl_here 35 _ _ (no35 _)]
  show spl 32 (nText [k, a, b, lo, hi]).data.toList = _
  have hd : (nText [k, a, b, lo, hi]).data.toList = Lib.join [Lib.itoa k, Lib.itoa a, Lib.itoa b, Lib.itoa lo, Lib.itoa hi] [32] := rfl
  rw [hd]
  refine spl_join 32 _ _ (fun w hw => ?_)
  simp only [List.mem_cons, List.not_mem_nil, or_false] at hw
  rcases hw with rfl | rfl | rfl | rfl | rfl <;> exact itoa_no32 _
def rdS (k : Int) (s : List UInt8) : Option Rc :=
  match jwS s with
  | [_, a, b, lo, hi] => match paC (a ++ 32 :: b) with
    | none => none
    | some (x, y) => if recB x y (rdN lo) (rdN hi) = true ∧ (lineS k x y (rdN lo) (rdN hi)).data.toList = s ++ [10] then some ⟨x, y, rdN lo, rdN hi⟩ else none
  | _ => none
theorem recB_curve {a b lo hi : Int} (h : recB a b lo hi = true) : curveB a b = true := by
  unfold recB at h
  simp only [Bool.and_eq_true] at h
  exact h.1
theorem rdS_some {k : Int} {s : List UInt8} {r : Rc} (hk : 0 ≤ k ∧ k ≤ 29) (h : r.ok = true) (hl : (r.line k).data.toList = s ++ [10]) : rdS k s = some r := by
  have h1 := line_jw (k := k) hl
  have hb := recB_bd h hk
  have h4 := hb.lo; have h5 := hb.hi
  unfold rdS
  rw [h1]
  simp only
  rw [← nTextD, paC_text (recB_curve h)]
  simp only
  rw [rdN_itoa (by omega) (by omega), rdN_itoa (by omega) (by omega), if_pos ⟨h, hl⟩]
theorem rdS_spec {k : Int} {s : List UInt8} {r : Rc} (h : rdS k s = some r) : r.ok = true ∧ (r.line k).data.toList = s ++ [10] := by
  unfold rdS at h
  split at h
  · split at h
    · cases h
    · split at h
      · rename_i hh
        injection h with h
        subst h
        exact hh
      · cases h
  · cases h
/-- Both read the same. -/
theorem rdS_eq {k : Int} (hk : 0 ≤ k ∧ k ≤ 29) (s : List UInt8) : rdS k s = rdL k ⟨(s ++ [10]).toArray⟩ := by
  cases h : rdS k s with
  | some r =>
    obtain ⟨h1, h2⟩ := rdS_spec h
    exact (rdL_some h1 hk (bytes_ext (by rw [h2]))).symm
  | none =>
    cases h3 : rdL k ⟨(s ++ [10]).toArray⟩ with
    | none => rfl
    | some r =>
      obtain ⟨h1, h2⟩ := rdL_spec h3
      rw [rdS_some hk h1 (by rw [h2])] at h
      cases h
end
end Go.Proofs.YtimfoodbolokdaaGreatDoor
