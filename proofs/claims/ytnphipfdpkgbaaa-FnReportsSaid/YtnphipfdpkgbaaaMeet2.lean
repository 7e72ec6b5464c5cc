/- Two entries of one curve meet: meetEntries of the program. Conditions: none. -/
import Derived.Test.YtnphipfdpkgbaaaMeet
namespace Go.Proofs.Ytnphipfdpkgbaaa
open Go Go.RowKit

set_option maxHeartbeats 4000000 in
theorem meetEntries_any (x y : En) (w : World) :
    Calls Try.prog 63 #[.agg #[.int .i64 x.a, .int .i64 x.b, .int .i64 x.lo, .int .i64 x.hi, .int .i64 x.to], .agg #[.int .i64 y.a, .int .i64 y.b, .int .i64 y.lo, .int .i64 y.hi, .int .i64 y.to]] w fun r w' =>
      (∃ m : En, r = .returned (.tuple #[.agg #[.int .i64 m.a, .int .i64 m.b, .int .i64 m.lo, .int .i64 m.hi, .int .i64 m.to], .bool (okMeet x y)]) ∧ (okMeet x y = true → m = meetE x y)) ∧ Below w.heap.size w w' := by
  obtain ⟨X, hX⟩ : ∃ X, X = ((w.alloc (Obj.cells #[.int .i64 x.a, .int .i64 x.b, .int .i64 x.lo, .int .i64 x.hi, .int .i64 x.to] 36)).alloc (Obj.cells #[.int .i64 y.a, .int .i64 y.b, .int .i64 y.lo, .int .i64 y.hi, .int .i64 y.to] 36)).alloc (Obj.cells #[.int .i64 0, .int .i64 0, .int .i64 0, .int .i64 0, .int .i64 0] 36) := ⟨_, rfl⟩
  have hbX : Below w.heap.size w X := by rw [hX]; exact bal (bal (bal (Below.refl _ _) _) _) _
  have hX1 : Blk X w.heap.size 36 #[.int .i64 x.a, .int .i64 x.b, .int .i64 x.lo, .int .i64 x.hi, .int .i64 x.to] := by rw [hX]; exact ((Blk.new w _ _).alloc _).alloc _
  have hX2 : Blk X (w.heap.size + 1) 36 #[.int .i64 y.a, .int .i64 y.b, .int .i64 y.lo, .int .i64 y.hi, .int .i64 y.to] := by rw [hX]; exact (Blk.new1 w _ _ _).alloc _
  have hX3 : Blk X (w.heap.size + 2) 36 #[.int .i64 0, .int .i64 0, .int .i64 0, .int .i64 0, .int .i64 0] := by rw [hX]; have := Blk.new ((w.alloc (Obj.cells #[.int .i64 x.a, .int .i64 x.b, .int .i64 x.lo, .int .i64 x.hi, .int .i64 x.to] 36)).alloc (Obj.cells #[.int .i64 y.a, .int .i64 y.b, .int .i64 y.lo, .int .i64 y.hi, .int .i64 y.to] 36)) 36 #[.int .i64 0, .int .i64 0, .int .i64 0, .int .i64 0, .int .i64 0]; rw [World.size_alloc, World.size_alloc] at this; exact this
  have hnew : ∀ cs, Blk (X.alloc (.cells cs 36)) (w.heap.size + 3) 36 cs := fun cs => by have := Blk.new X 36 cs; rw [show X.heap.size = w.heap.size + 3 by rw [hX]; simp] at this; exact this
  have hx1 : Hid (max x.lo y.lo = (meetE x y).lo) := Lib.hid (by simp only [meetE, mostI]; split <;> omega)
  have hx2 : Hid (min x.hi y.hi = (meetE x y).hi) := Lib.hid (by simp only [meetE, leastI]; split <;> omega)
  have hx3 : Hid (max x.to y.to = (meetE x y).to) := Lib.hid (by simp only [meetE, mostI]; split <;> omega)
  have hxa : Hid (Obj.cells #[.int .i64 x.a, .int .i64 x.b, .int .i64 (meetE x y).lo, .int .i64 (meetE x y).hi, .int .i64 (meetE x y).to] 36 = Obj.cells #[.int .i64 (meetE x y).a, .int .i64 (meetE x y).b, .int .i64 (meetE x y).lo, .int .i64 (meetE x y).hi, .int .i64 (meetE x y).to] 36) := Lib.hid rfl
  have hok : okMeet x y = (!tornB x y && decide ((meetE x y).lo ≤ (meetE x y).hi)) := rfl
  generalize hm : meetE x y = m at *
  clear hm
  have hC1 := hnew #[.int .i64 m.a, .int .i64 m.b, .int .i64 m.lo, .int .i64 m.hi, .int .i64 m.to]
  have hC3 : Blk (X.alloc (.cells #[.int .i64 m.a, .int .i64 m.b, .int .i64 m.lo, .int .i64 m.hi, .int .i64 m.to] 36)) _ _ _ := hX3.alloc _
  have hCb : Below w.heap.size w (X.alloc (.cells #[.int .i64 m.a, .int .i64 m.b, .int .i64 m.lo, .int .i64 m.hi, .int .i64 m.to] 36)) := bal hbX _
  by_cases h1 : x.to = 0
  · have hd1 : (x.to != 0) = false := by simp [h1]
    have Hyes := Lib.hid (show okMeet x y = decide (m.lo ≤ m.hi) by rw [hok]; simp [tornB, h1])
    clear h1 hok
    go_enter Try.func63, Try.ntmps63
    go_wp2_with fail
    rw [hx1.out, hx2.out, hx3.out]
    rw [hxa.out]
    rw [← hX]
    generalize hX2w : X.alloc (.cells #[.int .i64 m.a, .int .i64 m.b, .int .i64 m.lo, .int .i64 m.hi, .int .i64 m.to] 36) = X2 at hC1 hC3 hCb ⊢
    clear hX2w hX hX1 hX2 hX3 hbX hnew
    have t0 := hC1.cell 0
    have t1 := hC1.cell 1
    have t2 := hC1.cell 2
    have t3 := hC1.cell 3
    have t4 := hC1.cell 4
    have tl := hC1.lt
    have hne : w.heap.size + 3 ≠ w.heap.size + 1 + 1 := by omega
    have hfar : Hid (∀ v0 v1 v2 v3 v4 k, (World.drew (((((X2.setCell ⟨w.heap.size + 1 + 1, 0, none⟩ v0).setCell ⟨w.heap.size + 1 + 1, 1, none⟩ v1).setCell ⟨w.heap.size + 1 + 1, 2, none⟩ v2).setCell ⟨w.heap.size + 1 + 1, 3, none⟩ v3).setCell ⟨w.heap.size + 1 + 1, 4, none⟩ v4)).cell? ⟨w.heap.size + 3, k, none⟩ = (World.drew X2).cell? ⟨w.heap.size + 3, k, none⟩) := Lib.hid (fun v0 v1 v2 v3 v4 k => by rw [World.cell?_drew, farC hne, farC hne, farC hne, farC hne, farC hne, World.cell?_drew])
    clear hne
    have d0 : (World.drew X2).cell? ⟨w.heap.size + 3, 0, none⟩ = some (.int .i64 m.a) := t0
    have d1 : (World.drew X2).cell? ⟨w.heap.size + 3, 1, none⟩ = some (.int .i64 m.b) := t1
    have d2 : (World.drew X2).cell? ⟨w.heap.size + 3, 2, none⟩ = some (.int .i64 m.lo) := t2
    have d3 : (World.drew X2).cell? ⟨w.heap.size + 3, 3, none⟩ = some (.int .i64 m.hi) := t3
    have d4 : (World.drew X2).cell? ⟨w.heap.size + 3, 4, none⟩ = some (.int .i64 m.to) := t4
    have r0 := hC3.cell 0
    have r1 := hC3.cell 1
    have r2 := hC3.cell 2
    have r3 := hC3.cell 3
    have r4 := hC3.cell 4
    have z0 := hC3.frozen 0
    have z1 := hC3.frozen 1
    have z2 := hC3.frozen 2
    have z3 := hC3.frozen 3
    have z4 := hC3.frozen 4
    go_region_held3 (fun w' => w'.cell? ⟨w.heap.size + 3, 0, none⟩ = some (.int .i64 m.a) ∧ w'.cell? ⟨w.heap.size + 3, 1, none⟩ = some (.int .i64 m.b) ∧ w'.cell? ⟨w.heap.size + 3, 2, none⟩ = some (.int .i64 m.lo) ∧ w'.cell? ⟨w.heap.size + 3, 3, none⟩ = some (.int .i64 m.hi) ∧ w'.cell? ⟨w.heap.size + 3, 4, none⟩ = some (.int .i64 m.to)) ((first | (go_split_ands; refine ⟨?_, ?_, ?_, ?_, ?_⟩ <;> with_reducible assumption) | with_reducible exact ⟨(hfar.out _ _ _ _ _ 0).trans d0, (hfar.out _ _ _ _ _ 1).trans d1, (hfar.out _ _ _ _ _ 2).trans d2, (hfar.out _ _ _ _ _ 3).trans d3, (hfar.out _ _ _ _ _ 4).trans d4⟩)) (fail)
    all_goals
      go_wp2
      exact bodyPost_ret (v := .tuple #[.agg #[.int .i64 m.a, .int .i64 m.b, .int .i64 m.lo, .int .i64 m.hi, .int .i64 m.to], .bool (decide (m.lo ≤ m.hi))]) (by simp [results, Try.results63, go_sem, r0, r1, r2, r3, r4]) rfl ⟨⟨m, by rw [Hyes.out], fun _ => rfl⟩, by repeat (with_reducible first | exact Below.refl _ _ | exact hCb | (refine Below.drew ?_) | (refine bst ?_ (by first | omega | (simp; done) | (simp; omega)) _))⟩
  · have hd1 : (x.to != 0) = true := by simp [h1]
    by_cases h2 : y.to = 0
    · have hd2 : (y.to != 0) = false := by simp [h2]
      have Hyes := Lib.hid (show okMeet x y = decide (m.lo ≤ m.hi) by rw [hok]; simp [tornB, h2])
      clear h1 h2 hok
      go_enter Try.func63, Try.ntmps63
      go_wp2_with fail
      rw [hx1.out, hx2.out, hx3.out]
      rw [hxa.out]
      rw [← hX]
      generalize hX2w : X.alloc (.cells #[.int .i64 m.a, .int .i64 m.b, .int .i64 m.lo, .int .i64 m.hi, .int .i64 m.to] 36) = X2 at hC1 hC3 hCb ⊢
      clear hX2w hX hX1 hX2 hX3 hbX hnew
      have t0 := hC1.cell 0
      have t1 := hC1.cell 1
      have t2 := hC1.cell 2
      have t3 := hC1.cell 3
      have t4 := hC1.cell 4
      have tl := hC1.lt
      have hne : w.heap.size + 3 ≠ w.heap.size + 1 + 1 := by omega
      have hfar : Hid (∀ v0 v1 v2 v3 v4 k, (World.drew (((((X2.setCell ⟨w.heap.size + 1 + 1, 0, none⟩ v0).setCell ⟨w.heap.size + 1 + 1, 1, none⟩ v1).setCell ⟨w.heap.size + 1 + 1, 2, none⟩ v2).setCell ⟨w.heap.size + 1 + 1, 3, none⟩ v3).setCell ⟨w.heap.size + 1 + 1, 4, none⟩ v4)).cell? ⟨w.heap.size + 3, k, none⟩ = (World.drew X2).cell? ⟨w.heap.size + 3, k, none⟩) := Lib.hid (fun v0 v1 v2 v3 v4 k => by rw [World.cell?_drew, farC hne, farC hne, farC hne, farC hne, farC hne, World.cell?_drew])
      clear hne
      have d0 : (World.drew X2).cell? ⟨w.heap.size + 3, 0, none⟩ = some (.int .i64 m.a) := t0
      have d1 : (World.drew X2).cell? ⟨w.heap.size + 3, 1, none⟩ = some (.int .i64 m.b) := t1
      have d2 : (World.drew X2).cell? ⟨w.heap.size + 3, 2, none⟩ = some (.int .i64 m.lo) := t2
      have d3 : (World.drew X2).cell? ⟨w.heap.size + 3, 3, none⟩ = some (.int .i64 m.hi) := t3
      have d4 : (World.drew X2).cell? ⟨w.heap.size + 3, 4, none⟩ = some (.int .i64 m.to) := t4
      have r0 := hC3.cell 0
      have r1 := hC3.cell 1
      have r2 := hC3.cell 2
      have r3 := hC3.cell 3
      have r4 := hC3.cell 4
      have z0 := hC3.frozen 0
      have z1 := hC3.frozen 1
      have z2 := hC3.frozen 2
      have z3 := hC3.frozen 3
      have z4 := hC3.frozen 4
      go_region_held3 (fun w' => w'.cell? ⟨w.heap.size + 3, 0, none⟩ = some (.int .i64 m.a) ∧ w'.cell? ⟨w.heap.size + 3, 1, none⟩ = some (.int .i64 m.b) ∧ w'.cell? ⟨w.heap.size + 3, 2, none⟩ = some (.int .i64 m.lo) ∧ w'.cell? ⟨w.heap.size + 3, 3, none⟩ = some (.int .i64 m.hi) ∧ w'.cell? ⟨w.heap.size + 3, 4, none⟩ = some (.int .i64 m.to)) ((first | (go_split_ands; refine ⟨?_, ?_, ?_, ?_, ?_⟩ <;> with_reducible assumption) | with_reducible exact ⟨(hfar.out _ _ _ _ _ 0).trans d0, (hfar.out _ _ _ _ _ 1).trans d1, (hfar.out _ _ _ _ _ 2).trans d2, (hfar.out _ _ _ _ _ 3).trans d3, (hfar.out _ _ _ _ _ 4).trans d4⟩)) (fail)
      all_goals
        go_wp2
        exact bodyPost_ret (v := .tuple #[.agg #[.int .i64 m.a, .int .i64 m.b, .int .i64 m.lo, .int .i64 m.hi, .int .i64 m.to], .bool (decide (m.lo ≤ m.hi))]) (by simp [results, Try.results63, go_sem, r0, r1, r2, r3, r4]) rfl ⟨⟨m, by rw [Hyes.out], fun _ => rfl⟩, by repeat (with_reducible first | exact Below.refl _ _ | exact hCb | (refine Below.drew ?_) | (refine bst ?_ (by first | omega | (simp; done) | (simp; omega)) _))⟩
    · have hd2 : (y.to != 0) = true := by simp [h2]
      by_cases h3 : x.to = y.to
      · have hd3 : (x.to != y.to) = false := by simp [h3]
        have Hyes := Lib.hid (show okMeet x y = decide (m.lo ≤ m.hi) by rw [hok]; simp [tornB, h3])
        clear h1 h2 h3 hok
        go_enter Try.func63, Try.ntmps63
        go_wp2_with fail
        rw [hx1.out, hx2.out, hx3.out]
        rw [hxa.out]
        rw [← hX]
        generalize hX2w : X.alloc (.cells #[.int .i64 m.a, .int .i64 m.b, .int .i64 m.lo, .int .i64 m.hi, .int .i64 m.to] 36) = X2 at hC1 hC3 hCb ⊢
        clear hX2w hX hX1 hX2 hX3 hbX hnew
        have t0 := hC1.cell 0
        have t1 := hC1.cell 1
        have t2 := hC1.cell 2
        have t3 := hC1.cell 3
        have t4 := hC1.cell 4
        have tl := hC1.lt
        have hne : w.heap.size + 3 ≠ w.heap.size + 1 + 1 := by omega
        have hfar : Hid (∀ v0 v1 v2 v3 v4 k, (World.drew (((((X2.setCell ⟨w.heap.size + 1 + 1, 0, none⟩ v0).setCell ⟨w.heap.size + 1 + 1, 1, none⟩ v1).setCell ⟨w.heap.size + 1 + 1, 2, none⟩ v2).setCell ⟨w.heap.size + 1 + 1, 3, none⟩ v3).setCell ⟨w.heap.size + 1 + 1, 4, none⟩ v4)).cell? ⟨w.heap.size + 3, k, none⟩ = (World.drew X2).cell? ⟨w.heap.size + 3, k, none⟩) := Lib.hid (fun v0 v1 v2 v3 v4 k => by rw [World.cell?_drew, farC hne, farC hne, farC hne, farC hne, farC hne, World.cell?_drew])
        clear hne
        have d0 : (World.drew X2).cell? ⟨w.heap.size + 3, 0, none⟩ = some (.int .i64 m.a) := t0
        have d1 : (World.drew X2).cell? ⟨w.heap.size + 3, 1, none⟩ = some (.int .i64 m.b) := t1
        have d2 : (World.drew X2).cell? ⟨w.heap.size + 3, 2, none⟩ = some (.int .i64 m.lo) := t2
        have d3 : (World.drew X2).cell? ⟨w.heap.size + 3, 3, none⟩ = some (.int .i64 m.hi) := t3
        have d4 : (World.drew X2).cell? ⟨w.heap.size + 3, 4, none⟩ = some (.int .i64 m.to) := t4
        have r0 := hC3.cell 0
        have r1 := hC3.cell 1
        have r2 := hC3.cell 2
        have r3 := hC3.cell 3
        have r4 := hC3.cell 4
        have z0 := hC3.frozen 0
        have z1 := hC3.frozen 1
        have z2 := hC3.frozen 2
        have z3 := hC3.frozen 3
        have z4 := hC3.frozen 4
        go_region_held3 (fun w' => w'.cell? ⟨w.heap.size + 3, 0, none⟩ = some (.int .i64 m.a) ∧ w'.cell? ⟨w.heap.size + 3, 1, none⟩ = some (.int .i64 m.b) ∧ w'.cell? ⟨w.heap.size + 3, 2, none⟩ = some (.int .i64 m.lo) ∧ w'.cell? ⟨w.heap.size + 3, 3, none⟩ = some (.int .i64 m.hi) ∧ w'.cell? ⟨w.heap.size + 3, 4, none⟩ = some (.int .i64 m.to)) ((first | (go_split_ands; refine ⟨?_, ?_, ?_, ?_, ?_⟩ <;> with_reducible assumption) | with_reducible exact ⟨(hfar.out _ _ _ _ _ 0).trans d0, (hfar.out _ _ _ _ _ 1).trans d1, (hfar.out _ _ _ _ _ 2).trans d2, (hfar.out _ _ _ _ _ 3).trans d3, (hfar.out _ _ _ _ _ 4).trans d4⟩)) (fail)
        all_goals
          go_wp2
          exact bodyPost_ret (v := .tuple #[.agg #[.int .i64 m.a, .int .i64 m.b, .int .i64 m.lo, .int .i64 m.hi, .int .i64 m.to], .bool (decide (m.lo ≤ m.hi))]) (by simp [results, Try.results63, go_sem, r0, r1, r2, r3, r4]) rfl ⟨⟨m, by rw [Hyes.out], fun _ => rfl⟩, by repeat (with_reducible first | exact Below.refl _ _ | exact hCb | (refine Below.drew ?_) | (refine bst ?_ (by first | omega | (simp; done) | (simp; omega)) _))⟩
      · have hd3 : (x.to != y.to) = true := by simp [h3]
        have Hno := Lib.hid (show okMeet x y = false by rw [hok]; simp [tornB, h1, h2, h3])
        clear h1 h2 h3 hok hC1 hC3 hCb hnew
        go_enter Try.func63, Try.ntmps63
        go_wp2_with fail
        exact bodyPost_ret (v := .tuple #[.agg #[.int .i64 0, .int .i64 0, .int .i64 0, .int .i64 0, .int .i64 0], .bool false]) (by simp [results, Try.results63, go_sem]) rfl ⟨⟨⟨0, 0, 0, 0, 0⟩, by rw [Hno.out], fun h => by rw [Hno.out] at h; cases h⟩, by (repeat (with_reducible first | exact Below.refl _ _ | assumption | refine bal ?_ _ | refine bst ?_ (by simp <;> omega) _ | refine Below.drew ?_ | refine bthen ?_ (by assumption)))⟩
end Go.Proofs.Ytnphipfdpkgbaaa
