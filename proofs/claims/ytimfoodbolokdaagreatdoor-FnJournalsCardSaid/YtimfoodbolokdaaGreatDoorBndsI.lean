/- BoundsIn of both. Conditions: Env; bounds. -/
import Derived.Test.YtimfoodbolokdaaGreatDoorBnds
import Derived.Test.YtimfoodbolokdaaGreatDoorJRecs
import Derived.Deep.RegionHeld3
namespace Go.Proofs.YtimfoodbolokdaaGreatDoor
open Go Go.RowKit

def biV (D P : ByteArray) (a b : Int) : Int × Int × Bool := if jrOk D P = true ∧ curveB a b = true then bndV a b (jrV D P) else (0, 0, false)
set_option linter.unusedSimpArgs false in
set_option maxRecDepth 8000 in
set_option maxHeartbeats 4000000 in
theorem implBn_any (D P : ByteArray) (a b : Int) (w : World) (h : JB D P) (he : Env w) : Calls Tryz.prog 65 #[.agg #[.string D, .string P], .agg #[.int .i64 a, .int .i64 b]] w fun e w' => e = .returned (.tuple #[.int .i64 (biV D P a b).1, .int .i64 (biV D P a b).2.1, .bool (biV D P a b).2.2]) ∧ Below w.heap.size w w' := by
  have hd := h.d; have hp := h.p
  have hbx := bal (bal (Below.refl w.heap.size w) (Obj.cells #[.string D, .string P] 76)) (Obj.cells #[.int .i64 a, .int .i64 b] 25)
  have He := Lib.hid (he.on hbx); clear he
  have HX := Lib.hid ((Blk.new w 76 #[.string D, .string P]).alloc (Obj.cells #[.int .i64 a, .int .i64 b] 25))
  have HY := Lib.hid (Blk.new1 w (Obj.cells #[.string D, .string P] 76) 25 #[.int .i64 a, .int .i64 b])
  have Hbx := Lib.hid hbx; clear hbx
  go_enter Tryz.func65, Tryz.ntmps65
  go_wp2_with fail
  refine (recordsOf_any D P _ (by omega) (by omega) He.out).mono ?_; rintro e w1 ⟨⟨v, rfl, hown⟩, hb1⟩
  have Hown := Lib.hid (Rd.of_own (S := rcS) hown rfl); clear hown
  have HX1 := Lib.hid (HX.out.on hb1); have HY1 := Lib.hid (HY.out.on hb1); have Hb1 := Lib.hid (bthen Hbx.out hb1); clear hb1
  have x0 := HX1.out.cell 0
  have x1 := HX1.out.cell 1
  have xl := HX1.out.lt
  have y0 := HY1.out.cell 0
  have y1 := HY1.out.cell 1
  have yl := HY1.out.lt
  simp at x0 x1 y0 y1
  cases hok : jrOk D P
  · have Hv := Lib.hid (show biV D P a b = (0, 0, false) by unfold biV; rw [if_neg (fun hh => by rw [hok] at hh; cases hh.1)])
    clear hok
    go_wp2
    exact bodyPost_ret (v := .tuple #[.int .i64 0, .int .i64 0, .bool false]) (by simp [results, Tryz.results65, go_sem]) rfl ⟨by rw [Hv.out] <;> rfl, Hb1.out⟩
  · go_wp2_with fail
    refine (isCurve_any a b _).mono ?_; rintro e w2 ⟨rfl, hb2⟩
    clear x0 x1 xl y0 y1 yl
    have HX2 := Lib.hid (HX1.out.on hb2); have HY2 := Lib.hid (HY1.out.on hb2); have Hb2 := Lib.hid (bthen Hb1.out hb2)
    cases hcv : curveB a b
    · have Hv := Lib.hid (show biV D P a b = (0, 0, false) by unfold biV; rw [if_neg (fun hh => by rw [hcv] at hh; cases hh.2)])
      clear hok hcv
      go_wp2
      exact bodyPost_ret (v := .tuple #[.int .i64 0, .int .i64 0, .bool false]) (by simp [results, Tryz.results65, go_sem]) rfl ⟨by rw [Hv.out] <;> rfl, Hb2.out⟩
    · have Hv := Lib.hid (show biV D P a b = bndV a b (jrV D P) by unfold biV; rw [if_pos ⟨hok, hcv⟩])
      clear hok hcv
      have y0 := HY2.out.cell 0
      have y1 := HY2.out.cell 1
      have yl := HY2.out.lt
      simp at y0 y1
      have Hrd := Lib.hid (Hown.out.on hb2)
      clear hb2
      go_wp2_with fail
      refine (boundsIn_any _ _ a b _ Hrd.out).mono ?_; rintro e w3 ⟨rfl, hb3⟩
      go_wp2
      exact bodyPost_ret (v := .tuple #[.int .i64 (bndV a b (jrV D P)).1, .int .i64 (bndV a b (jrV D P)).2.1, .bool (bndV a b (jrV D P)).2.2]) (by simp [results, Tryz.results65, go_sem]) rfl ⟨by rw [Hv.out] <;> rfl, bthen Hb2.out hb3⟩
set_option linter.unusedSimpArgs false in
set_option maxRecDepth 8000 in
set_option maxHeartbeats 4000000 in
theorem specBn_any (D P : ByteArray) (a b : Int) (w : World) (h : JB D P) : Calls Tryz.prog 66 #[.agg #[.string D, .string P], .agg #[.int .i64 a, .int .i64 b]] w fun e w' => e = .returned (.tuple #[.int .i64 (biV D P a b).1, .int .i64 (biV D P a b).2.1, .bool (biV D P a b).2.2]) ∧ Below w.heap.size w w' := by
  have hd := h.d; have hp := h.p
  have hbx := bal (bal (Below.refl w.heap.size w) (Obj.cells #[.string D, .string P] 76)) (Obj.cells #[.int .i64 a, .int .i64 b] 25)
  have HX := Lib.hid ((Blk.new w 76 #[.string D, .string P]).alloc (Obj.cells #[.int .i64 a, .int .i64 b] 25))
  have HY := Lib.hid (Blk.new1 w (Obj.cells #[.string D, .string P] 76) 25 #[.int .i64 a, .int .i64 b])
  have Hbx := Lib.hid hbx; clear hbx
  go_enter Tryz.func66, Tryz.ntmps66
  go_wp2_with fail
  refine (jrGood_any D P _ h).mono ?_; rintro e w1 ⟨rfl, hb1⟩
  have HX1 := Lib.hid (HX.out.on hb1); have HY1 := Lib.hid (HY.out.on hb1); have Hb1 := Lib.hid (bthen Hbx.out hb1); clear hb1
  have x0 := HX1.out.cell 0
  have x1 := HX1.out.cell 1
  have xl := HX1.out.lt
  have y0 := HY1.out.cell 0
  have y1 := HY1.out.cell 1
  have yl := HY1.out.lt
  simp at x0 x1 y0 y1
  cases hok : jrOk D P
  · have Hv := Lib.hid (show biV D P a b = (0, 0, false) by unfold biV; rw [if_neg (fun hh => by rw [hok] at hh; cases hh.1)])
    clear hok
    go_wp2
    exact bodyPost_ret (v := .tuple #[.int .i64 0, .int .i64 0, .bool false]) (by simp [results, Tryz.results66, go_sem]) rfl ⟨by rw [Hv.out] <;> rfl, Hb1.out⟩
  · go_wp2_with fail
    refine (ecGood_any a b _).mono ?_; rintro e w2 ⟨rfl, hb2⟩
    clear x0 x1 xl y0 y1 yl
    have HX2 := Lib.hid (HX1.out.on hb2); have HY2 := Lib.hid (HY1.out.on hb2); have Hb2 := Lib.hid (bthen Hb1.out hb2)
    cases hcv : curveB a b
    · have Hv := Lib.hid (show biV D P a b = (0, 0, false) by unfold biV; rw [if_neg (fun hh => by rw [hcv] at hh; cases hh.2)])
      clear hok hcv
      go_wp2
      exact bodyPost_ret (v := .tuple #[.int .i64 0, .int .i64 0, .bool false]) (by simp [results, Tryz.results66, go_sem]) rfl ⟨by rw [Hv.out] <;> rfl, Hb2.out⟩
    · have Hv := Lib.hid (show biV D P a b = bndV a b (jrV D P) by unfold biV; rw [if_pos ⟨hok, hcv⟩])
      have Hall := Lib.hid (fun W => jrAll_any D P W h hok)
      rw [← jrV_ok hok] at Hall
      clear hok hcv hb2
      generalize jrV D P = ys at Hall Hv
      have HS : Hid (∀ w', Below w2.heap.size w2 w' → (w'.cell? ⟨w.heap.size, 0, none⟩ = some (.string D) ∧ w'.cell? ⟨w.heap.size, 1, none⟩ = some (.string P) ∧ w'.cell? ⟨w.heap.size + 1, 0, none⟩ = some (.int .i64 a) ∧ w'.cell? ⟨w.heap.size + 1, 1, none⟩ = some (.int .i64 b) ∧ Below w2.heap.size w2 w')) := Lib.hid (fun w' hw => ⟨(hw.cell (p := ⟨w.heap.size, 0, none⟩) HX2.out.lt).trans (HX2.out.cell 0), (hw.cell (p := ⟨w.heap.size, 1, none⟩) HX2.out.lt).trans (HX2.out.cell 1), (hw.cell (p := ⟨w.heap.size + 1, 0, none⟩) HY2.out.lt).trans (HY2.out.cell 0), (hw.cell (p := ⟨w.heap.size + 1, 1, none⟩) HY2.out.lt).trans (HY2.out.cell 1), hw⟩)
      go_wp2
      go_region_held3 (fun w' => w'.cell? ⟨w.heap.size, 0, none⟩ = some (.string D) ∧ w'.cell? ⟨w.heap.size, 1, none⟩ = some (.string P) ∧ w'.cell? ⟨w.heap.size + 1, 0, none⟩ = some (.int .i64 a) ∧ w'.cell? ⟨w.heap.size + 1, 1, none⟩ = some (.int .i64 b) ∧ Below w2.heap.size w2 w')
        ((go_split_ands; refine HS.out _ ?_; repeat (first | (with_reducible assumption) | (with_reducible exact Below.refl _ _) | (with_reducible refine Below.drew ?_) | (with_reducible refine bthen ?_ (by with_reducible assumption)))))
        ((first
          | (go_at_call 141; (with_reducible refine (Hall.out _).mono ?_); rintro e wy ⟨⟨vy, rfl, howny⟩, hby⟩; have Hrdy := Lib.hid (Rd.of_own (S := rcS) howny rfl); clear howny)
          | (go_at_call 153; (with_reducible refine (jrBounds_any _ _ a b _ Hrdy.out).mono ?_); rintro e wz ⟨rfl, hbz⟩)))
      all_goals
        go_wp2
        exact bodyPost_ret (v := .tuple #[.int .i64 (bndV a b ys).1, .int .i64 (bndV a b ys).2.1, .bool (bndV a b ys).2.2]) (by simp [results, Tryz.results66, go_sem]) rfl ⟨by rw [Hv.out] <;> rfl, bthen (bthen Hb2.out.drew hby) hbz⟩
end Go.Proofs.YtimfoodbolokdaaGreatDoor
