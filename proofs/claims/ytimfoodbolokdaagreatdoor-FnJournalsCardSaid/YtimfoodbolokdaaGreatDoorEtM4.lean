/- Own texts put together: Two entries of one curve meet: meetEntries of the program; mergeCatalogues of the program; MergeCatalogues and TightenEntry of the reference and of the program: the walks; Contradictions of the reference and of the program: the walks. Conditions: those of each theorem. -/
import Derived.Test.YtimfoodbolokdaaGreatDoorEtM2
import Derived.Test.YtimfoodbolokdaaGreatDoorEtM3
import Derived.Test.YtimfoodbolokdaaGreatDoorEtM1
namespace Go.Proofs.YtimfoodbolokdaaGreatDoor
section
open Go Go.RowKit

set_option maxHeartbeats 4000000 in
theorem meetEntries_any (x y : En) (w : World) :
    Calls Tryz.prog 178 #[.agg #[.int .i64 x.a, .int .i64 x.b, .int .i64 x.lo, .int .i64 x.hi, .int .i64 x.to], .agg #[.int .i64 y.a, .int .i64 y.b, .int .i64 y.lo, .int .i64 y.hi, .int .i64 y.to]] w fun r w' =>
      (∃ m : En, r = .returned (.tuple #[.agg #[.int .i64 m.a, .int .i64 m.b, .int .i64 m.lo, .int .i64 m.hi, .int .i64 m.to], .bool (okMeet x y)]) ∧ (okMeet x y = true → m = meetE x y)) ∧ Below w.heap.size w w' := by
  obtain ⟨X, hX⟩ : ∃ X, X = ((w.alloc (Obj.cells #[.int .i64 x.a, .int .i64 x.b, .int .i64 x.lo, .int .i64 x.hi, .int .i64 x.to] 29)).alloc (Obj.cells #[.int .i64 y.a, .int .i64 y.b, .int .i64 y.lo, .int .i64 y.hi, .int .i64 y.to] 29)).alloc (Obj.cells #[.int .i64 0, .int .i64 0, .int .i64 0, .int .i64 0, .int .i64 0] 29) := ⟨_, rfl⟩
  have hbX : Below w.heap.size w X := by rw [hX]; exact bal (bal (bal (Below.refl _ _) _) _) _
  have hX1 : Blk X w.heap.size 29 #[.int .i64 x.a, .int .i64 x.b, .int .i64 x.lo, .int .i64 x.hi, .int .i64 x.to] := by rw [hX]; exact ((Blk.new w _ _).alloc _).alloc _
  have hX2 : Blk X (w.heap.size + 1) 29 #[.int .i64 y.a, .int .i64 y.b, .int .i64 y.lo, .int .i64 y.hi, .int .i64 y.to] := by rw [hX]; exact (Blk.new1 w _ _ _).alloc _
  have hX3 : Blk X (w.heap.size + 2) 29 #[.int .i64 0, .int .i64 0, .int .i64 0, .int .i64 0, .int .i64 0] := by rw [hX]; have := Blk.new ((w.alloc (Obj.cells #[.int .i64 x.a, .int .i64 x.b, .int .i64 x.lo, .int .i64 x.hi, .int .i64 x.to] 29)).alloc (Obj.cells #[.int .i64 y.a, .int .i64 y.b, .int .i64 y.lo, .int .i64 y.hi, .int .i64 y.to] 29)) 29 #[.int .i64 0, .int .i64 0, .int .i64 0, .int .i64 0, .int .i64 0]; rw [World.size_alloc, World.size_alloc] at this; exact this
  have hnew : ∀ cs, Blk (X.alloc (.cells cs 29)) (w.heap.size + 3) 29 cs := fun cs => by have := Blk.new X 29 cs; rw [show X.heap.size = w.heap.size + 3 by rw [hX]; simp] at this; exact this
  have hx1 : Hid (max x.lo y.lo = (meetE x y).lo) := Lib.hid (by simp only [meetE, mostI]; split <;> omega)
  have hx2 : Hid (min x.hi y.hi = (meetE x y).hi) := Lib.hid (by simp only [meetE, leastI]; split <;> omega)
  have hx3 : Hid (max x.to y.to = (meetE x y).to) := Lib.hid (by simp only [meetE, mostI]; split <;> omega)
  have hxa : Hid (Obj.cells #[.int .i64 x.a, .int .i64 x.b, .int .i64 (meetE x y).lo, .int .i64 (meetE x y).hi, .int .i64 (meetE x y).to] 29 = Obj.cells #[.int .i64 (meetE x y).a, .int .i64 (meetE x y).b, .int .i64 (meetE x y).lo, .int .i64 (meetE x y).hi, .int .i64 (meetE x y).to] 29) := Lib.hid rfl
  have hok : okMeet x y = (!tornB x y && decide ((meetE x y).lo ≤ (meetE x y).hi)) := rfl
  generalize hm : meetE x y = m at *
  clear hm
  have hC1 := hnew #[.int .i64 m.a, .int .i64 m.b, .int .i64 m.lo, .int .i64 m.hi, .int .i64 m.to]
  have hC3 : Blk (X.alloc (.cells #[.int .i64 m.a, .int .i64 m.b, .int .i64 m.lo, .int .i64 m.hi, .int .i64 m.to] 29)) _ _ _ := hX3.alloc _
  have hCb : Below w.heap.size w (X.alloc (.cells #[.int .i64 m.a, .int .i64 m.b, .int .i64 m.lo, .int .i64 m.hi, .int .i64 m.to] 29)) := bal hbX _
  by_cases h1 : x.to = 0
  · have hd1 : (x.to != 0) = false := by simp [h1]
    have Hyes := Lib.hid (show okMeet x y = decide (m.lo ≤ m.hi) by rw [hok]; simp [tornB, h1])
    clear h1 hok
    go_enter Tryz.func178, Tryz.ntmps178
    go_wp2_with fail
    rw [hx1.out, hx2.out, hx3.out]
    rw [hxa.out]
    rw [← hX]
    generalize hX2w : X.alloc (.cells #[.int .i64 m.a, .int .i64 m.b, .int .i64 m.lo, .int .i64 m.hi, .int .i64 m.to] 29) = X2 at hC1 hC3 hCb ⊢
    clear hX2w hX hX1 hX2 hX3 hbX hnew
    have t0 := hC1.cell 0
    have t1 := hC1.cell 1
    have t2 := hC1.cell 2
    have t3 := hC1.cell 3
    have t4 := hC1.cell 4
    have tl := hC1.lt
    have hne : w.heap.size + 3 ≠ w.heap.size + 1 + 1 := by omega
    have hfar : Hid (∀ v0 v1 v2 v3 v4 k, (World.drew (((((X2.setCell ⟨w.heap.size + 1 + 1, 0, none⟩ v0).setCell ⟨w.heap.size + 1 + 1, 1, none⟩ v1).setCell ⟨w.heap.size + 1 + 1, 2, none⟩ v2).setCell ⟨w.heap.size + 1 + 1, 3, none⟩ v3).setCell ⟨w.heap.size + 1 + 1, 4, none⟩ v4)).cell? ⟨w.heap.size + 3, k, none⟩ = (World.drew X2).cell? ⟨w.heap.size + 3, k, none⟩) := Lib.hid (fun v0 v1 v2 v3 v4 k => by rw [World.cell?_drew, farC hne, farC hne, farC hne, farC hne, farC hne, World.cell?_drew])
    clear hne
    have d0 : (World.drew X2).cell? ⟨w.heap.size + 3, 0, none⟩ = some (.int .i64 m.a) := t0
    have d1 : (World.drew X2).cell? ⟨w.heap.size + 3, 1, none⟩ = some (.int .i64 m.b) := t1
    have d2 : (World.drew X2).cell? ⟨w.heap.size + 3, 2, none⟩ = some (.int .i64 m.lo) := t2
    have d3 : (World.drew X2).cell? ⟨w.heap.size + 3, 3, none⟩ = some (.int .i64 m.hi) := t3
    have d4 : (World.drew X2).cell? ⟨w.heap.size + 3, 4, none⟩ = some (.int .i64 m.to) := t4
    have r0 := hC3.cell 0
    have r1 := hC3.cell 1
    have r2 := hC3.cell 2
    have r3 := hC3.cell 3
    have r4 := hC3.cell 4
    have z0 := hC3.frozen 0
    have z1 := hC3.frozen 1
    have z2 := hC3.frozen 2
    have z3 := hC3.frozen 3
    have z4 := hC3.frozen 4
    go_region_held3 (fun w' => w'.cell? ⟨w.heap.size + 3, 0, none⟩ = some (.int .i64 m.a) ∧ w'.cell? ⟨w.heap.size + 3, 1, none⟩ = some (.int .i64 m.b) ∧ w'.cell? ⟨w.heap.size + 3, 2, none⟩ = some (.int .i64 m.lo) ∧ w'.cell? ⟨w.heap.size + 3, 3, none⟩ = some (.int .i64 m.hi) ∧ w'.cell? ⟨w.heap.size + 3, 4, none⟩ = some (.int .i64 m.to)) ((first | (go_split_ands; refine ⟨?_, ?_, ?_, ?_, ?_⟩ <;> with_reducible assumption) | with_reducible exact ⟨(hfar.out _ _ _ _ _ 0).trans d0, (hfar.out _ _ _ _ _ 1).trans d1, (hfar.out _ _ _ _ _ 2).trans d2, (hfar.out _ _ _ _ _ 3).trans d3, (hfar.out _ _ _ _ _ 4).trans d4⟩)) (fail)
    all_goals
      go_wp2
      exact bodyPost_ret (v := .tuple #[.agg #[.int .i64 m.a, .int .i64 m.b, .int .i64 m.lo, .int .i64 m.hi, .int .i64 m.to], .bool (decide (m.lo ≤ m.hi))]) (by simp [results, Tryz.results178, go_sem, r0, r1, r2, r3, r4]) rfl ⟨⟨m, by rw [Hyes.out], fun _ => rfl⟩, by repeat (with_reducible first | exact Below.refl _ _ | exact hCb | (refine Below.drew ?_) | (refine bst ?_ (by first | omega | (simp; done) | (simp; omega)) _))⟩
  · have hd1 : (x.to != 0) = true := by simp [h1]
    by_cases h2 : y.to = 0
    · have hd2 : (y.to != 0) = false := by simp [h2]
      have Hyes := Lib.hid (show okMeet x y = decide (m.lo ≤ m.hi) by rw [hok]; simp [tornB, h2])
      clear h1 h2 hok
      go_enter Tryz.func178, Tryz.ntmps178
      go_wp2_with fail
      rw [hx1.out, hx2.out, hx3.out]
      rw [hxa.out]
      rw [← hX]
      generalize hX2w : X.alloc (.cells #[.int .i64 m.a, .int .i64 m.b, .int .i64 m.lo, .int .i64 m.hi, .int .i64 m.to] 29) = X2 at hC1 hC3 hCb ⊢
      clear hX2w hX hX1 hX2 hX3 hbX hnew
      have t0 := hC1.cell 0
      have t1 := hC1.cell 1
      have t2 := hC1.cell 2
      have t3 := hC1.cell 3
      have t4 := hC1.cell 4
      have tl := hC1.lt
      have hne : w.heap.size + 3 ≠ w.heap.size + 1 + 1 := by omega
      have hfar : Hid (∀ v0 v1 v2 v3 v4 k, (World.drew (((((X2.setCell ⟨w.heap.size + 1 + 1, 0, none⟩ v0).setCell ⟨w.heap.size + 1 + 1, 1, none⟩ v1).setCell ⟨w.heap.size + 1 + 1, 2, none⟩ v2).setCell ⟨w.heap.size + 1 + 1, 3, none⟩ v3).setCell ⟨w.heap.size + 1 + 1, 4, none⟩ v4)).cell? ⟨w.heap.size + 3, k, none⟩ = (World.drew X2).cell? ⟨w.heap.size + 3, k, none⟩) := Lib.hid (fun v0 v1 v2 v3 v4 k => by rw [World.cell?_drew, farC hne, farC hne, farC hne, farC hne, farC hne, World.cell?_drew])
      clear hne
      have d0 : (World.drew X2).cell? ⟨w.heap.size + 3, 0, none⟩ = some (.int .i64 m.a) := t0
      have d1 : (World.drew X2).cell? ⟨w.heap.size + 3, 1, none⟩ = some (.int .i64 m.b) := t1
      have d2 : (World.drew X2).cell? ⟨w.heap.size + 3, 2, none⟩ = some (.int .i64 m.lo) := t2
      have d3 : (World.drew X2).cell? ⟨w.heap.size + 3, 3, none⟩ = some (.int .i64 m.hi) := t3
      have d4 : (World.drew X2).cell? ⟨w.heap.size + 3, 4, none⟩ = some (.int .i64 m.to) := t4
      have r0 := hC3.cell 0
      have r1 := hC3.cell 1
      have r2 := hC3.cell 2
      have r3 := hC3.cell 3
      have r4 := hC3.cell 4
      have z0 := hC3.frozen 0
      have z1 := hC3.frozen 1
      have z2 := hC3.frozen 2
      have z3 := hC3.frozen 3
      have z4 := hC3.frozen 4
      go_region_held3 (fun w' => w'.cell? ⟨w.heap.size + 3, 0, none⟩ = some (.int .i64 m.a) ∧ w'.cell? ⟨w.heap.size + 3, 1, none⟩ = some (.int .i64 m.b) ∧ w'.cell? ⟨w.heap.size + 3, 2, none⟩ = some (.int .i64 m.lo) ∧ w'.cell? ⟨w.heap.size + 3, 3, none⟩ = some (.int .i64 m.hi) ∧ w'.cell? ⟨w.heap.size + 3, 4, none⟩ = some (.int .i64 m.to)) ((first | (go_split_ands; refine ⟨?_, ?_, ?_, ?_, ?_⟩ <;> with_reducible assumption) | with_reducible exact ⟨(hfar.out _ _ _ _ _ 0).trans d0, (hfar.out _ _ _ _ _ 1).trans d1, (hfar.out _ _ _ _ _ 2).trans d2, (hfar.out _ _ _ _ _ 3).trans d3, (hfar.out _ _ _ _ _ 4).trans d4⟩)) (fail)
      all_goals
        go_wp2
        exact bodyPost_ret (v := .tuple #[.agg #[.int .i64 m.a, .int .i64 m.b, .int .i64 m.lo, .int .i64 m.hi, .int .i64 m.to], .bool (decide (m.lo ≤ m.hi))]) (by simp [results, Tryz.results178, go_sem, r0, r1, r2, r3, r4]) rfl ⟨⟨m, by rw [Hyes.out], fun _ => rfl⟩, by repeat (with_reducible first | exact Below.refl _ _ | exact hCb | (refine Below.drew ?_) | (refine bst ?_ (by first | omega | (simp; done) | (simp; omega)) _))⟩
    · have hd2 : (y.to != 0) = true := by simp [h2]
      by_cases h3 : x.to = y.to
      · have hd3 : (x.to != y.to) = false := by simp [h3]
        have Hyes := Lib.hid (show okMeet x y = decide (m.lo ≤ m.hi) by rw [hok]; simp [tornB, h3])
        clear h1 h2 h3 hok
        go_enter Tryz.func178, Tryz.ntmps178
        go_wp2_with fail
        rw [hx1.out, hx2.out, hx3.out]
        rw [hxa.out]
        rw [← hX]
        generalize hX2w : X.alloc (.cells #[.int .i64 m.a, .int .i64 m.b, .int .i64 m.lo, .int .i64 m.hi, .int .i64 m.to] 29) = X2 at hC1 hC3 hCb ⊢
        clear hX2w hX hX1 hX2 hX3 hbX hnew
        have t0 := hC1.cell 0
        have t1 := hC1.cell 1
        have t2 := hC1.cell 2
        have t3 := hC1.cell 3
        have t4 := hC1.cell 4
        have tl := hC1.lt
        have hne : w.heap.size + 3 ≠ w.heap.size + 1 + 1 := by omega
        have hfar : Hid (∀ v0 v1 v2 v3 v4 k, (World.drew (((((X2.setCell ⟨w.heap.size + 1 + 1, 0, none⟩ v0).setCell ⟨w.heap.size + 1 + 1, 1, none⟩ v1).setCell ⟨w.heap.size + 1 + 1, 2, none⟩ v2).setCell ⟨w.heap.size + 1 + 1, 3, none⟩ v3).setCell ⟨w.heap.size + 1 + 1, 4, none⟩ v4)).cell? ⟨w.heap.size + 3, k, none⟩ = (World.drew X2).cell? ⟨w.heap.size + 3, k, none⟩) := Lib.hid (fun v0 v1 v2 v3 v4 k => by rw [World.cell?_drew, farC hne, farC hne, farC hne, farC hne, farC hne, World.cell?_drew])
        clear hne
        have d0 : (World.drew X2).cell? ⟨w.heap.size + 3, 0, none⟩ = some (.int .i64 m.a) := t0
        have d1 : (World.drew X2).cell? ⟨w.heap.size + 3, 1, none⟩ = some (.int .i64 m.b) := t1
        have d2 : (World.drew X2).cell? ⟨w.heap.size + 3, 2, none⟩ = some (.int .i64 m.lo) := t2
        have d3 : (World.drew X2).cell? ⟨w.heap.size + 3, 3, none⟩ = some (.int .i64 m.hi) := t3
        have d4 : (World.drew X2).cell? ⟨w.heap.size + 3, 4, none⟩ = some (.int .i64 m.to) := t4
        have r0 := hC3.cell 0
        have r1 := hC3.cell 1
        have r2 := hC3.cell 2
        have r3 := hC3.cell 3
        have r4 := hC3.cell 4
        have z0 := hC3.frozen 0
        have z1 := hC3.frozen 1
        have z2 := hC3.frozen 2
        have z3 := hC3.frozen 3
        have z4 := hC3.frozen 4
        go_region_held3 (fun w' => w'.cell? ⟨w.heap.size + 3, 0, none⟩ = some (.int .i64 m.a) ∧ w'.cell? ⟨w.heap.size + 3, 1, none⟩ = some (.int .i64 m.b) ∧ w'.cell? ⟨w.heap.size + 3, 2, none⟩ = some (.int .i64 m.lo) ∧ w'.cell? ⟨w.heap.size + 3, 3, none⟩ = some (.int .i64 m.hi) ∧ w'.cell? ⟨w.heap.size + 3, 4, none⟩ = some (.int .i64 m.to)) ((first | (go_split_ands; refine ⟨?_, ?_, ?_, ?_, ?_⟩ <;> with_reducible assumption) | with_reducible exact ⟨(hfar.out _ _ _ _ _ 0).trans d0, (hfar.out _ _ _ _ _ 1).trans d1, (hfar.out _ _ _ _ _ 2).trans d2, (hfar.out _ _ _ _ _ 3).trans d3, (hfar.out _ _ _ _ _ 4).trans d4⟩)) (fail)
        all_goals
          go_wp2
          exact bodyPost_ret (v := .tuple #[.agg #[.int .i64 m.a, .int .i64 m.b, .int .i64 m.lo, .int .i64 m.hi, .int .i64 m.to], .bool (decide (m.lo ≤ m.hi))]) (by simp [results, Tryz.results178, go_sem, r0, r1, r2, r3, r4]) rfl ⟨⟨m, by rw [Hyes.out], fun _ => rfl⟩, by repeat (with_reducible first | exact Below.refl _ _ | exact hCb | (refine Below.drew ?_) | (refine bst ?_ (by first | omega | (simp; done) | (simp; omega)) _))⟩
      · have hd3 : (x.to != y.to) = true := by simp [h3]
        have Hno := Lib.hid (show okMeet x y = false by rw [hok]; simp [tornB, h1, h2, h3])
        clear h1 h2 h3 hok hC1 hC3 hCb hnew
        go_enter Tryz.func178, Tryz.ntmps178
        go_wp2_with fail
        exact bodyPost_ret (v := .tuple #[.agg #[.int .i64 0, .int .i64 0, .int .i64 0, .int .i64 0, .int .i64 0], .bool false]) (by simp [results, Tryz.results178, go_sem]) rfl ⟨⟨⟨0, 0, 0, 0, 0⟩, by rw [Hno.out], fun h => by rw [Hno.out] at h; cases h⟩, by (repeat (with_reducible first | exact Below.refl _ _ | assumption | refine bal ?_ _ | refine bst ?_ (by simp <;> omega) _ | refine Below.drew ?_ | refine bthen ?_ (by assumption)))⟩
end
section
open Go Go.RowKit

theorem foundE (es : List En) (y : En) : (decide (placeN es y.a y.b < es.length) && decide (cmpC (enS.get es (placeN es y.a y.b)).a (enS.get es (placeN es y.a y.b)).b y.a y.b = 0)) = atB es (placeN es y.a y.b) y.a y.b := by
  unfold atB isCu
  congr 1
  rw [Bool.eq_iff_iff, decide_eq_true_eq, cmpC_eq]
  simp
theorem catE_mono {es : List En} (hv : okCat es) (y : En) : ∀ i j, i ≤ j → j < es.length → cmpC (enS.get es j).a (enS.get es j).b y.a y.b < 0 → cmpC (enS.get es i).a (enS.get es i).b y.a y.b < 0 := by
  intro i j hij hj h
  rcases Nat.lt_or_ge i j with h1 | h1
  · exact cmpE_trans (catE_lt hv h1 hj) h
  · obtain rfl : i = j := by omega
    exact h
theorem tightO_new {es : List En} {y : En} (h : atB es (placeN es y.a y.b) y.a y.b = false) : tightO es y = some (ins es (placeN es y.a y.b) y) := by unfold tightO; rw [h]; rfl
theorem tightO_met {es : List En} {y : En} (h : atB es (placeN es y.a y.b) y.a y.b = true) (ho : okMeet (enS.get es (placeN es y.a y.b)) y = true) : tightO es y = some (swapE es (placeN es y.a y.b) (meetE (enS.get es (placeN es y.a y.b)) y)) := by unfold tightO; rw [h, ho]; rfl
theorem tightO_torn {es : List En} {y : En} (h : atB es (placeN es y.a y.b) y.a y.b = true) (ho : okMeet (enS.get es (placeN es y.a y.b)) y = false) : tightO es y = none := by unfold tightO; rw [h, ho]; rfl

set_option maxRecDepth 8000 in
set_option maxHeartbeats 8000000 in
theorem mergeCat_any (va : Value) (xs : List En) (v : Value) (bs : List En) (w : World) (ha : Rd enS w w.heap.size va xs) (h : Rd enS w w.heap.size v bs) (hxl : xs.length ≤ 100) (hbl : bs.length ≤ 100) (hxv : okCat xs) (hbv : ∀ k, k < bs.length → entE (enS.get bs k) = true) :
    Calls Tryz.prog 106 #[va, v] w fun r w' => (∃ (v' : Value) (z : List En) (b : Bool), r = .returned (.tuple #[v', .bool b]) ∧ mergeV xs bs = (z, b) ∧ w'.ownsRow w.heap.size 29 5 v' z.length (enS.flat z)) ∧ Below w.heap.size w w' := by
  have Ha := Lib.hid ha; clear ha
  have Hxv := Lib.hid hxv; clear hxv
  have Hbv := Lib.hid hbv; clear hbv
  obtain ⟨A, c, rfl, hcc, hm, hA⟩ := h
  unfold maxLen at hm
  rcases Nat.eq_zero_or_pos bs.length with h0 | h0
  · obtain rfl : bs = [] := List.eq_nil_of_length_eq_zero h0
    clear hA h0 hbl
    go_enter Tryz.func106, Tryz.ntmps106
    go_wp2_with fail
    refine (cloneEn_any _ xs _ Ha.out (by omega)).mono ?_
    rintro e w1 ⟨v1, rfl, ho1, hb1⟩
    have Ho1 := Lib.hid ho1
    obtain ⟨A1, c1, rfl, -, -, -⟩ := Rd.of_own (S := enS) ho1 rfl
    clear ho1
    have Hv := Lib.hid (show mergeV xs [] = if xs.length ≤ 12 then (xs, true) else ([], false) from rfl)
    go_wp2
    refine wp_loop_rounds 1 ?_
    rw [rounds_succ]
    by_cases hl : xs.length ≤ 12
    · have hd : decide ((12 : Int) < (xs.length : Int)) = false := decide_eq_false (by omega)
      have hd2 : decide (12 < xs.length) = false := decide_eq_false (by omega)
      have Hl := Lib.hid hl; clear hl
      go_wp2
      go_ret2
      exact ⟨⟨_, xs, true, rfl, by rw [Hv.out, if_pos Hl.out], Ho1.out⟩, hb1⟩
    · have hd : decide ((12 : Int) < (xs.length : Int)) = true := decide_eq_true (by omega)
      have hd2 : decide (12 < xs.length) = true := decide_eq_true (by omega)
      have Hl := Lib.hid hl; clear hl
      go_wp2
      go_ret2
      exact ⟨⟨_, [], false, rfl, by rw [Hv.out, if_neg Hl.out], by simp [Shape.flat], Or.inl ⟨rfl, rfl⟩⟩, hb1⟩
  · obtain ⟨g, off, rfl, hgl, hcell⟩ := hA h0
    clear hA
    have hcell := en_cells hcell
    go_enter Tryz.func106, Tryz.ntmps106
    go_wp2_with fail
    refine (cloneEn_any _ xs _ Ha.out (by omega)).mono ?_
    rintro e w1 ⟨v1, rfl, ho1, hb1⟩
    have Ho1 := Lib.hid ho1; clear ho1
    go_wp2
    go_loopw [17, 6] (fun i o wr => ∃ (k : Nat) (z : List En), k ≤ bs.length ∧ i = .int .i64 k ∧ Hid (foldO xs (bs.take k) = some z) ∧ Hid (okCat z) ∧ z.length ≤ xs.length + k ∧ Below w.heap.size w wr ∧ wr.ownsRow w.heap.size 29 5 o z.length (enS.flat z)) (fun i _ _ => bs.length - (intOf i).toNat)
    case atStart => exact ⟨0, xs, Nat.zero_le _, rfl, Lib.hid (foldO_zero xs bs), Lib.hid Hxv.out, Nat.le_refl _, hb1, Ho1.out⟩
    case round =>
      obtain ⟨k, z, hk, rfl, Hz, Hzv, hzl, hb, hown⟩ := hrel
      have Hown := Lib.hid hown; clear hown
      by_cases hlt : k < bs.length
      · obtain ⟨f0, f1, f2, f3, f4⟩ := hcell k hlt
        rw [← hb.cell (p := ⟨_, _, _⟩) hgl] at f0 f1 f2 f3 f4
        have Hy := Lib.hid (Hbv.out k hlt)
        have Hsucc := Lib.hid (foldO_succ xs hlt)
        have hgr : g < wr.heap.size := Nat.lt_of_lt_of_le hgl hb.size
        generalize enS.get bs k = y at f0 f1 f2 f3 f4 Hy Hsucc
        have hi0 : (0 : Int) ≤ (k : Int) := by omega
        have hi1 : (k : Int) < (bs.length : Int) := by omega
        have hbA : Below wr.heap.size wr (wr.alloc (Obj.cells #[.int .i64 y.a, .int .i64 y.b, .int .i64 y.lo, .int .i64 y.hi, .int .i64 y.to] 29)) := bal (Below.refl _ _) _
        have HbA := Lib.hid hbA; clear hbA
        have Hbox := Lib.hid (Blk.new wr 29 #[.int .i64 y.a, .int .i64 y.b, .int .i64 y.lo, .int .i64 y.hi, .int .i64 y.to])
        have Hpk := Lib.hid (placeN_spec z y).1
        clear hcell
        go_wp2_with fail
        refine (searchEn_any _ z y _ (Rd.of_own (own_below Hown.out HbA.out) rfl) (by omega) (catE_mono Hzv.out y)).mono ?_
        rintro e w2 ⟨rfl, hb2⟩
        rw [foundE]
        have Hown2 := Lib.hid (own_below Hown.out (bthen HbA.out hb2))
        have hb2' := bthen (bthen hb HbA.out) hb2
        have hbox2 := Hbox.out.on hb2
        clear hb2 f0 f1 f2 f3 f4 hgr
        obtain ⟨p, hp⟩ : ∃ p, placeN z y.a y.b = p := ⟨_, rfl⟩
        rw [hp]
        have Hp := Lib.hid hp
        rw [hp] at Hpk
        clear hp
        cases hat : atB z p y.a y.b
        · have Hnew := Lib.hid (show foldO xs (bs.take (k + 1)) = some (ins z p y) by rw [Hsucc.out, Hz.out, ← Hp.out]; exact tightO_new (by rw [Hp.out]; exact hat))
          have Hnv := Lib.hid (show okCat (ins z p y) by rw [← Hp.out]; exact tight_ok Hzv.out Hy.out (tightO_new (by rw [Hp.out]; exact hat)))
          clear hat
          have q0 := hbox2.cell 0
          have q1 := hbox2.cell 1
          have q2 := hbox2.cell 2
          have q3 := hbox2.cell 3
          have q4 := hbox2.cell 4
          have ql := hbox2.lt
          go_wp2_with fail
          have hlb : Below w.heap.size w (w2.alloc (Obj.cells #[.int .i64 y.a, .int .i64 y.b, .int .i64 y.lo, .int .i64 y.hi, .int .i64 y.to] 29)) := bal hb2' _
          refine (insEn_any _ z p y w2.heap.size w.heap.size _ (World.ownsRow.alloc Hown2.out _) (by omega) Hpk.out (Blk.new _ _ _) (by intro e; have h5 := (Hown2.out.lt _ e).2; omega) hlb.size).mono ?_
          rintro e w3 ⟨v3, rfl, ho3, hg3⟩
          have hb3 : Below w.heap.size w w3 := Below.grown hlb hg3 hlb.size (fun j hj => (Hown2.out.lt j hj).1)
          have Ho3 := Lib.hid ho3
          clear ho3 hg3 q0 q1 q2 q3 q4 ql hbox2
          go_wp2
          go_roundw
          case rel => exact ⟨k + 1, ins z p y, by omega, by go_num, Hnew, Hnv, by rw [length_ins]; omega, hb3, Ho3.out⟩
          case measure => simp [intOf]; omega
        · have hplt := (atB_spec hat).1
          obtain ⟨g2, cap2, rfl⟩ : ∃ g cap, u6 = .slice (some ⟨g, 0, none⟩) z.length cap := by
            rcases Hown2.out.2 with ⟨-, h0⟩ | ⟨g, cap, cur, h1, -⟩
            · omega
            · exact ⟨g, cap, h1⟩
          obtain ⟨e0, e1, e2, e3, e4⟩ := own_en Hown2.out rfl hplt
          have hg2 := (own_base Hown2.out).2
          have hne2 : wr.heap.size ≠ g2 := by have := (own_base Hown.out).2; omega
          have hi2 : (0 : Int) ≤ (p : Int) := by omega
          have hi3 : (p : Int) < (z.length : Int) := by omega
          generalize hx : enS.get z p = x at e0 e1 e2 e3 e4
          have Hat := Lib.hid hat; clear hat
          have Hx := Lib.hid hx; clear hx
          have HS : Hid (∀ w', Below w2.heap.size w2 w' → (w'.cell? ⟨g2, p * 5, none⟩ = some (.int .i64 x.a) ∧ w'.cell? ⟨g2, p * 5 + 1, none⟩ = some (.int .i64 x.b) ∧ w'.cell? ⟨g2, p * 5 + 2, none⟩ = some (.int .i64 x.lo) ∧ w'.cell? ⟨g2, p * 5 + 3, none⟩ = some (.int .i64 x.hi) ∧ w'.cell? ⟨g2, p * 5 + 4, none⟩ = some (.int .i64 x.to) ∧ w'.cell? ⟨wr.heap.size, 0, none⟩ = some (.int .i64 y.a) ∧ w'.cell? ⟨wr.heap.size, 1, none⟩ = some (.int .i64 y.b) ∧ w'.cell? ⟨wr.heap.size, 2, none⟩ = some (.int .i64 y.lo) ∧ w'.cell? ⟨wr.heap.size, 3, none⟩ = some (.int .i64 y.hi) ∧ w'.cell? ⟨wr.heap.size, 4, none⟩ = some (.int .i64 y.to) ∧ Below w2.heap.size w2 w')) := Lib.hid (fun w' hw => ⟨(hw.cell (p := ⟨g2, p * 5, none⟩) hg2).trans e0, (hw.cell (p := ⟨g2, p * 5 + 1, none⟩) hg2).trans e1, (hw.cell (p := ⟨g2, p * 5 + 2, none⟩) hg2).trans e2, (hw.cell (p := ⟨g2, p * 5 + 3, none⟩) hg2).trans e3, (hw.cell (p := ⟨g2, p * 5 + 4, none⟩) hg2).trans e4, (hw.cell (p := ⟨wr.heap.size, 0, none⟩) hbox2.lt).trans (hbox2.cell 0), (hw.cell (p := ⟨wr.heap.size, 1, none⟩) hbox2.lt).trans (hbox2.cell 1), (hw.cell (p := ⟨wr.heap.size, 2, none⟩) hbox2.lt).trans (hbox2.cell 2), (hw.cell (p := ⟨wr.heap.size, 3, none⟩) hbox2.lt).trans (hbox2.cell 3), (hw.cell (p := ⟨wr.heap.size, 4, none⟩) hbox2.lt).trans (hbox2.cell 4), hw⟩)
          go_wp2_with fail
          go_cut [11, 12] (fun q b wx => ∃ (qb : Nat) (m : En), q = .pointer (some ⟨qb, 0, none⟩) ∧ b = .bool (okMeet x y) ∧ (okMeet x y = true → m = meetE x y) ∧ Blk wx qb 29 #[.int .i64 m.a, .int .i64 m.b, .int .i64 m.lo, .int .i64 m.hi, .int .i64 m.to] ∧ w2.heap.size ≤ qb ∧ Below w2.heap.size w2 wx)
          case first =>
            go_region_held3 (fun w' => w'.cell? ⟨g2, p * 5, none⟩ = some (.int .i64 x.a) ∧ w'.cell? ⟨g2, p * 5 + 1, none⟩ = some (.int .i64 x.b) ∧ w'.cell? ⟨g2, p * 5 + 2, none⟩ = some (.int .i64 x.lo) ∧ w'.cell? ⟨g2, p * 5 + 3, none⟩ = some (.int .i64 x.hi) ∧ w'.cell? ⟨g2, p * 5 + 4, none⟩ = some (.int .i64 x.to) ∧ w'.cell? ⟨wr.heap.size, 0, none⟩ = some (.int .i64 y.a) ∧ w'.cell? ⟨wr.heap.size, 1, none⟩ = some (.int .i64 y.b) ∧ w'.cell? ⟨wr.heap.size, 2, none⟩ = some (.int .i64 y.lo) ∧ w'.cell? ⟨wr.heap.size, 3, none⟩ = some (.int .i64 y.hi) ∧ w'.cell? ⟨wr.heap.size, 4, none⟩ = some (.int .i64 y.to) ∧ Below w2.heap.size w2 w')
              ((go_split_ands; refine HS.out _ ?_; repeat (first | (with_reducible assumption) | (with_reducible exact Below.refl _ _) | (with_reducible refine Below.drew ?_) | (with_reducible refine bal ?_ _) | (with_reducible refine bst ?_ (by first | omega | (simp; done) | (simp; omega)) _) | (with_reducible refine bthen ?_ (by with_reducible assumption)))))
              ((first
                | (go_at_call 178; refine (meetEntries_any x y _).mono ?_; rintro e w3 ⟨⟨m, rfl, hm3⟩, hb3⟩; (try (have hz3 : Blk w3 w2.heap.size 29 #[.int .i64 0, .int .i64 0, .int .i64 0, .int .i64 0, .int .i64 0] := (Blk.drew (Blk.new w2 29 #[.int .i64 0, .int .i64 0, .int .i64 0, .int .i64 0, .int .i64 0])).on hb3; have zc0 := hz3.cell 0; have zc1 := hz3.cell 1; have zc2 := hz3.cell 2; have zc3 := hz3.cell 3; have zc4 := hz3.cell 4; have zf0 := hz3.frozen 0; have zf1 := hz3.frozen 1; have zf2 := hz3.frozen 2; have zf3 := hz3.frozen 3; have zf4 := hz3.frozen 4; have zl := hz3.lt; have Hz3 := Lib.hid hz3; clear hz3)))))
            all_goals
              have Hm3 := Lib.hid hm3
              clear hm3
              go_wp2_with fail
              go_meet
              have hsz3 : Hid (w2.drew.heap.size ≤ w3.heap.size → w2.heap.size ≤ w3.heap.size) := Lib.hid (fun h => h)
              first
                | with_reducible exact ⟨_, m, rfl, rfl, Hm3.out, Blk.new _ _ _, hsz3.out hb3.size, by repeat (with_reducible first | exact Below.refl _ _ | refine Below.drew ?_ | refine bal ?_ _ | refine bthen ?_ hb3)⟩
                | exact ⟨_, m, rfl, rfl, Hm3.out, Blk.set5 Hz3.out, Nat.le_refl _, by repeat (with_reducible first | exact Below.refl _ _ | refine Below.drew ?_ | refine bal ?_ _ | (refine bst ?_ (by first | omega | (simp; done) | (simp; omega)) _) | refine bthen ?_ hb3)⟩
          obtain ⟨qb, m, rfl, rfl, hm', hBm, hq, hbc⟩ := hcut
          have hbt := bthen hb2' hbc
          have Hownc := Lib.hid (own_below Hown2.out hbc)
          clear HS e0 e1 e2 e3 e4 hbox2
          have Hm := Lib.hid hm'; clear hm'
          cases hok : okMeet x y
          · have Hno := Lib.hid (show foldO xs bs = none by refine foldO_stop (k := k + 1) ?_; rw [Hsucc.out, Hz.out]; exact tightO_torn (by rw [Hp.out]; exact Hat.out) (by rw [Hp.out, Hx.out]; exact hok))
            have Hok := Lib.hid hok; clear hok hBm
            go_wp2
            go_ret2
            exact ⟨⟨_, [], false, rfl, by unfold mergeV; rw [Hno.out], by simp [Shape.flat], Or.inl ⟨rfl, rfl⟩⟩, hbt⟩
          · have hto : tightO z y = some (swapE z p m) := by
              have := tightO_met (es := z) (y := y) (by rw [Hp.out]; exact Hat.out) (by rw [Hp.out, Hx.out]; exact hok)
              rw [Hp.out, Hx.out, ← Hm.out hok] at this
              exact this
            have Hnew := Lib.hid (show foldO xs (bs.take (k + 1)) = some (swapE z p m) by rw [Hsucc.out, Hz.out]; exact hto)
            have Hnv := Lib.hid (tight_ok Hzv.out Hy.out hto)
            have Hok := Lib.hid hok; clear hok hto
            obtain ⟨o0, o1, o2, o3, o4⟩ := own_en Hownc.out rfl hplt
            have hgc := (own_base Hownc.out).2
            have z0 := Hownc.out.frozenAt (p * 5)
            have z1 := Hownc.out.frozenAt (p * 5 + 1)
            have z2 := Hownc.out.frozenAt (p * 5 + 2)
            have z3 := Hownc.out.frozenAt (p * 5 + 3)
            have z4 := Hownc.out.frozenAt (p * 5 + 4)
            have m0 := hBm.cell 0
            have m1 := hBm.cell 1
            have m2 := hBm.cell 2
            have m3 := hBm.cell 3
            have m4 := hBm.cell 4
            have ml := hBm.lt
            clear hBm
            go_wp2
            go_roundw
            case rel =>
              have hl := own_lay (enS.cells m) _ _ (p * 5) Hownc.out
              rw [putEn] at hl
              have hfl : lay (enS.flat z) (p * 5) (enS.cells m) = enS.flat (swapE z p m) := by
                rw [swapE_set z p m hplt]
                rcases lay_flat (S := enS) z p m with h | h
                · exact h
                · omega
              rw [hfl] at hl
              exact ⟨k + 1, swapE z p m, by omega, by go_num, Hnew, Hnv, by rw [length_swapE _ _ _ hplt]; omega, Below.grown hbt hl.2 hbt.size (fun j hj => by cases hj; exact (own_base Hownc.out).1), by rw [length_swapE _ _ _ hplt]; exact hl.1⟩
            case measure => simp [intOf]; omega
      · obtain rfl : k = bs.length := by omega
        have hd0 : decide (bs.length < bs.length) = false := decide_eq_false (by omega)
        have Hz' := Lib.hid (show foldO xs bs = some z by have := Hz.out; rwa [List.take_length] at this)
        have Hv := Lib.hid (show mergeV xs bs = if z.length ≤ 12 then (z, true) else ([], false) by unfold mergeV; rw [Hz'.out])
        obtain ⟨A1, c1, rfl, -, -, -⟩ := Rd.of_own (S := enS) Hown.out rfl
        clear hcell
        by_cases hl : z.length ≤ 12
        · have hd : decide ((12 : Int) < (z.length : Int)) = false := decide_eq_false (by omega)
          have hd2 : decide (12 < z.length) = false := decide_eq_false (by omega)
          have Hl := Lib.hid hl; clear hl
          go_wp2
          go_ret2
          exact ⟨⟨_, z, true, rfl, by rw [Hv.out, if_pos Hl.out], Hown.out⟩, hb⟩
        · have hd : decide ((12 : Int) < (z.length : Int)) = true := decide_eq_true (by omega)
          have hd2 : decide (12 < z.length) = true := decide_eq_true (by omega)
          have Hl := Lib.hid hl; clear hl
          go_wp2
          go_ret2
          exact ⟨⟨_, [], false, rfl, by rw [Hv.out, if_neg Hl.out], by simp [Shape.flat], Or.inl ⟨rfl, rfl⟩⟩, hb⟩
end
section
open Go Go.RowKit

theorem rd_lit {w : World} {b : Nat} {y : En} (h : Blk w b 29 #[.int .i64 y.a, .int .i64 y.b, .int .i64 y.lo, .int .i64 y.hi, .int .i64 y.to]) : Rd enS w w.heap.size (.slice (some ⟨b, 0, none⟩) 1 1) [y] := by
  refine ⟨some ⟨b, 0, none⟩, 1, rfl, Nat.le_refl _, by unfold maxLen; omega, fun _ => ⟨b, 0, rfl, h.lt, fun k hk j hj => ?_⟩⟩
  have hk0 : k = 0 := by simpa using hk
  subst hk0
  have hj5 : j < 5 := hj
  match j, hj5 with
  | 0, _ => exact h.cell 0
  | 1, _ => exact h.cell 1
  | 2, _ => exact h.cell 2
  | 3, _ => exact h.cell 3
  | 4, _ => exact h.cell 4
theorem cat_ok {es : List En} (h : catB es = true) : es.length ≤ 12 ∧ okCat es := catB_spec h
theorem one_ent {y : En} (hy : entE y = true) : ∀ k, k < [y].length → entE (enS.get [y] k) = true := by
  intro k hk
  have hk0 : k = 0 := by simpa using hk
  subst hk0
  exact hy
theorem cat_ents {bs : List En} (h : catB bs = true) : ∀ k, k < bs.length → entE (enS.get bs k) = true := fun k hk => okE_ent ((catB_spec h).2 k hk)

set_option maxRecDepth 8000 in
set_option maxHeartbeats 1600000 in
theorem specTight_any (v : Value) (es : List En) (y : En) (w : World) (h : Rd enS w w.heap.size v es) :
    Calls Tryz.prog 157 #[v, .agg #[.int .i64 y.a, .int .i64 y.b, .int .i64 y.lo, .int .i64 y.hi, .int .i64 y.to]] w fun r w' => (∃ (v' : Value) (z : List En) (b : Bool), r = .returned (.tuple #[v', .bool b]) ∧ tightG es y = (z, b) ∧ w'.ownsRow w.heap.size 29 5 v' z.length (enS.flat z)) ∧ Below w.heap.size w w' := by
  have Hr := Lib.hid h; clear h
  have hbA : Below w.heap.size w (w.alloc _) := bal (Below.refl _ _) (Obj.cells #[.int .i64 y.a, .int .i64 y.b, .int .i64 y.lo, .int .i64 y.hi, .int .i64 y.to] 29)
  have hbox : Blk _ w.heap.size 29 #[.int .i64 y.a, .int .i64 y.b, .int .i64 y.lo, .int .i64 y.hi, .int .i64 y.to] := Blk.new w _ _
  cases hg : catB es
  · have Hfin := Lib.hid (show tightG es y = ([], false) by unfold tightG; rw [hg]; rfl)
    go_enter Tryz.func157, Tryz.ntmps157
    go_wp2_with fail
    refine (caGood_any _ es _ (Hr.out.on hbA)).mono ?_; rintro e w1 ⟨rfl, hb1⟩
    rw [hg]
    go_wp2
    go_ret2
    exact ⟨⟨_, [], false, rfl, Hfin.out, by simp [Shape.flat], Or.inl ⟨rfl, rfl⟩⟩, bthen hbA hb1⟩
  · obtain ⟨hl, hv⟩ := cat_ok hg
    have Hv := Lib.hid hv; clear hv
    cases hy : entE y
    · have Hfin := Lib.hid (show tightG es y = ([], false) by unfold tightG; rw [hy, Bool.and_false]; rfl)
      have Hy := Lib.hid (show entB y.a y.b y.lo y.hi y.to = false from hy)
      go_enter Tryz.func157, Tryz.ntmps157
      go_wp2_with fail
      refine (caGood_any _ es _ (Hr.out.on hbA)).mono ?_; rintro e w1 ⟨rfl, hb1⟩
      rw [hg]
      have hbox1 := hbox.on hb1
      have q0 := hbox1.cell 0
      have q1 := hbox1.cell 1
      have q2 := hbox1.cell 2
      have q3 := hbox1.cell 3
      have q4 := hbox1.cell 4
      have ql := hbox1.lt
      go_wp2_with fail
      refine (caEntry_any _ _ _ _ _ _).mono ?_; rintro e w2 ⟨rfl, hb2⟩
      rw [Hy.out]
      go_wp2
      go_ret2
      exact ⟨⟨_, [], false, rfl, Hfin.out, by simp [Shape.flat], Or.inl ⟨rfl, rfl⟩⟩, bthen (bthen hbA hb1) hb2⟩
    · have Hy := Lib.hid (show entB y.a y.b y.lo y.hi y.to = true from hy)
      have Hy' := Lib.hid hy
      have Hfin := Lib.hid (show tightG es y = mergeV es [y] by unfold tightG; rw [hg, hy]; rfl)
      go_enter Tryz.func157, Tryz.ntmps157
      go_wp2_with fail
      refine (caGood_any _ es _ (Hr.out.on hbA)).mono ?_; rintro e w1 ⟨rfl, hb1⟩
      rw [hg]
      have hbox1 := hbox.on hb1
      have q0 := hbox1.cell 0
      have q1 := hbox1.cell 1
      have q2 := hbox1.cell 2
      have q3 := hbox1.cell 3
      have q4 := hbox1.cell 4
      have ql := hbox1.lt
      go_wp2_with fail
      refine (caEntry_any _ _ _ _ _ _).mono ?_; rintro e w2 ⟨rfl, hb2⟩
      rw [Hy.out]
      have hb2' := bthen (bthen hbA hb1) hb2
      have hbox2 := hbox1.on hb2
      clear q0 q1 q2 q3 q4 ql
      have q0 := hbox2.cell 0
      have q1 := hbox2.cell 1
      have q2 := hbox2.cell 2
      have q3 := hbox2.cell 3
      have q4 := hbox2.cell 4
      have ql := hbox2.lt
      go_wp2_with fail
      refine (caTighten_any _ es y _ (Hr.out.on hb2') (by omega) Hv.out Hy'.out).mono ?_
      rintro e w3 ⟨⟨v3, z, b, rfl, ht, hbz, ho3⟩, hb3⟩
      have Ho3 := Lib.hid ho3; clear ho3
      have Ht := Lib.hid ht; clear ht
      have hb3' := bthen hb2' hb3
      cases b
      · clear hbz
        go_wp2
        go_ret2
        exact ⟨⟨_, [], false, rfl, by rw [Hfin.out, mergeV_one, Ht.out]; rfl, by simp [Shape.flat], Or.inl ⟨rfl, rfl⟩⟩, hb3'⟩
      · clear hbz
        have Hcat := Lib.hid (catB_all (tight_ok Hv.out Hy'.out Ht.out))
        go_wp2_with fail
        refine (caGood_any _ z _ (Rd.of_own Ho3.out rfl)).mono ?_; rintro e w4 ⟨rfl, hb4⟩
        have Hb4 := Lib.hid hb4
        rw [Hcat.out]
        by_cases hl2 : z.length ≤ 12
        · have hd : decide (z.length ≤ 12) = true := decide_eq_true hl2
          have Hl2 := Lib.hid hl2; clear hl2
          rw [hd]
          go_wp2
          go_ret2
          exact ⟨⟨_, z, true, rfl, by rw [Hfin.out, mergeV_one, Ht.out]; exact if_pos Hl2.out, own_mono (own_below Ho3.out Hb4.out) hb2'.size⟩, bthen hb3' hb4⟩
        · have hd : decide (z.length ≤ 12) = false := decide_eq_false hl2
          have Hl2 := Lib.hid hl2; clear hl2
          rw [hd]
          go_wp2
          go_ret2
          exact ⟨⟨_, [], false, rfl, by rw [Hfin.out, mergeV_one, Ht.out]; exact if_neg Hl2.out, by simp [Shape.flat], Or.inl ⟨rfl, rfl⟩⟩, bthen hb3' hb4⟩
theorem specTight_ints (v : Value) (es : List En) (a b lo hi tor : Int) (w : World) (h : Rd enS w w.heap.size v es) :
    Calls Tryz.prog 157 #[v, .agg #[.int .i64 a, .int .i64 b, .int .i64 lo, .int .i64 hi, .int .i64 tor]] w fun r w' => (∃ (v' : Value) (z : List En) (b' : Bool), r = .returned (.tuple #[v', .bool b']) ∧ tightG es ⟨a, b, lo, hi, tor⟩ = (z, b') ∧ w'.ownsRow w.heap.size 29 5 v' z.length (enS.flat z)) ∧ Below w.heap.size w w' :=
  specTight_any v es ⟨a, b, lo, hi, tor⟩ w h

set_option maxRecDepth 8000 in
set_option maxHeartbeats 1600000 in
theorem implTight_any (v : Value) (es : List En) (y : En) (w : World) (h : Rd enS w w.heap.size v es) :
    Calls Tryz.prog 27 #[v, .agg #[.int .i64 y.a, .int .i64 y.b, .int .i64 y.lo, .int .i64 y.hi, .int .i64 y.to]] w fun r w' => (∃ (v' : Value) (z : List En) (b : Bool), r = .returned (.tuple #[v', .bool b]) ∧ tightG es y = (z, b) ∧ w'.ownsRow w.heap.size 29 5 v' z.length (enS.flat z)) ∧ Below w.heap.size w w' := by
  have Hr := Lib.hid h; clear h
  have hbA : Below w.heap.size w (w.alloc _) := bal (Below.refl _ _) (Obj.cells #[.int .i64 y.a, .int .i64 y.b, .int .i64 y.lo, .int .i64 y.hi, .int .i64 y.to] 29)
  have hbox : Blk _ w.heap.size 29 #[.int .i64 y.a, .int .i64 y.b, .int .i64 y.lo, .int .i64 y.hi, .int .i64 y.to] := Blk.new w _ _
  cases hg : catB es
  · have Hfin := Lib.hid (show tightG es y = ([], false) by unfold tightG; rw [hg]; rfl)
    go_enter Tryz.func27, Tryz.ntmps27
    go_wp2_with fail
    refine (isCatalogue_any _ es _ (Hr.out.on hbA)).mono ?_; rintro e w1 ⟨rfl, hb1⟩
    rw [hg]
    go_wp2
    go_ret2
    exact ⟨⟨_, [], false, rfl, Hfin.out, by simp [Shape.flat], Or.inl ⟨rfl, rfl⟩⟩, bthen hbA hb1⟩
  · obtain ⟨hl, hv⟩ := cat_ok hg
    have Hv := Lib.hid hv; clear hv
    cases hy : entE y
    · have Hfin := Lib.hid (show tightG es y = ([], false) by unfold tightG; rw [hy, Bool.and_false]; rfl)
      have Hy := Lib.hid (show entB y.a y.b y.lo y.hi y.to = false from hy)
      go_enter Tryz.func27, Tryz.ntmps27
      go_wp2_with fail
      refine (isCatalogue_any _ es _ (Hr.out.on hbA)).mono ?_; rintro e w1 ⟨rfl, hb1⟩
      rw [hg]
      have hbox1 := hbox.on hb1
      have q0 := hbox1.cell 0
      have q1 := hbox1.cell 1
      have q2 := hbox1.cell 2
      have q3 := hbox1.cell 3
      have q4 := hbox1.cell 4
      have ql := hbox1.lt
      go_wp2_with fail
      refine (isEntry_any _ _ _ _ _ _).mono ?_; rintro e w2 ⟨rfl, hb2⟩
      rw [Hy.out]
      go_wp2
      go_ret2
      exact ⟨⟨_, [], false, rfl, Hfin.out, by simp [Shape.flat], Or.inl ⟨rfl, rfl⟩⟩, bthen (bthen hbA hb1) hb2⟩
    · have Hy := Lib.hid (show entB y.a y.b y.lo y.hi y.to = true from hy)
      have Hy' := Lib.hid hy
      have Hfin := Lib.hid (show tightG es y = mergeV es [y] by unfold tightG; rw [hg, hy]; rfl)
      go_enter Tryz.func27, Tryz.ntmps27
      go_wp2_with fail
      refine (isCatalogue_any _ es _ (Hr.out.on hbA)).mono ?_; rintro e w1 ⟨rfl, hb1⟩
      rw [hg]
      have hbox1 := hbox.on hb1
      have q0 := hbox1.cell 0
      have q1 := hbox1.cell 1
      have q2 := hbox1.cell 2
      have q3 := hbox1.cell 3
      have q4 := hbox1.cell 4
      have ql := hbox1.lt
      go_wp2_with fail
      refine (isEntry_any _ _ _ _ _ _).mono ?_; rintro e w2 ⟨rfl, hb2⟩
      rw [Hy.out]
      have hb2' := bthen (bthen hbA hb1) hb2
      have hbox2 := hbox1.on hb2
      clear q0 q1 q2 q3 q4 ql
      have q0 := hbox2.cell 0
      have q1 := hbox2.cell 1
      have q2 := hbox2.cell 2
      have q3 := hbox2.cell 3
      have q4 := hbox2.cell 4
      have ql := hbox2.lt
      have Hlb := Lib.hid (bal hb2' (Obj.cells #[.int .i64 y.a, .int .i64 y.b, .int .i64 y.lo, .int .i64 y.hi, .int .i64 y.to] 29))
      go_wp2_with fail
      refine (mergeCat_any _ es _ [y] _ (Hr.out.on Hlb.out) (rd_lit (Blk.new _ _ _)) (by omega) (by simp) Hv.out (one_ent Hy'.out)).mono ?_
      rintro e w3 ⟨⟨v3, z, b, rfl, hz, ho3⟩, hb3⟩
      have Ho3 := Lib.hid ho3; clear ho3
      have Hz := Lib.hid hz; clear hz
      go_wp2
      go_ret2
      exact ⟨⟨_, z, b, rfl, by rw [Hfin.out, Hz.out], own_mono Ho3.out Hlb.out.size⟩, bthen Hlb.out hb3⟩
theorem implTight_ints (v : Value) (es : List En) (a b lo hi tor : Int) (w : World) (h : Rd enS w w.heap.size v es) :
    Calls Tryz.prog 27 #[v, .agg #[.int .i64 a, .int .i64 b, .int .i64 lo, .int .i64 hi, .int .i64 tor]] w fun r w' => (∃ (v' : Value) (z : List En) (b' : Bool), r = .returned (.tuple #[v', .bool b']) ∧ tightG es ⟨a, b, lo, hi, tor⟩ = (z, b') ∧ w'.ownsRow w.heap.size 29 5 v' z.length (enS.flat z)) ∧ Below w.heap.size w w' :=
  implTight_any v es ⟨a, b, lo, hi, tor⟩ w h


end
section
open Go Go.RowKit

def tornE (bs : List En) (e : En) : Bool := atB bs (placeN bs e.a e.b) e.a e.b && !okMeet e (enS.get bs (placeN bs e.a e.b))
def conF (bs xs : List En) : List Cu := (xs.filter (tornE bs)).map (fun e => ⟨e.a, e.b⟩)
def conG (xs bs : List En) : List Cu × Bool := if catB xs && catB bs then (conF bs xs, true) else ([], false)
theorem conF_succ (bs : List En) {xs : List En} {k : Nat} (hk : k < xs.length) : conF bs (xs.take (k + 1)) = if tornE bs (enS.get xs k) then conF bs (xs.take k) ++ [⟨(enS.get xs k).a, (enS.get xs k).b⟩] else conF bs (xs.take k) := by
  have : xs.take (k + 1) = xs.take k ++ [enS.get xs k] := by
    rw [List.take_add_one, List.getElem?_eq_getElem hk]
    simp [Shape.get, List.getD_eq_getElem?_getD, List.getElem?_eq_getElem hk]
  unfold conF
  rw [this, List.filter_append, List.map_append]
  cases h : tornE bs (enS.get xs k)
  · simp [h]
  · simp [h]
theorem conF_len (bs xs : List En) (k : Nat) : (conF bs (xs.take k)).length ≤ xs.length := by
  unfold conF
  rw [List.length_map]
  exact Nat.le_trans (List.length_filter_le _ _) (by rw [List.length_take]; omega)
theorem conG_len {xs bs : List En} (y : List Cu) (b : Bool) (h : conG xs bs = (y, b)) : y.length ≤ 12 := by
  unfold conG at h
  split at h
  · rename_i hg
    obtain ⟨rfl, -⟩ := Prod.mk.inj h
    simp only [Bool.and_eq_true] at hg
    have := conF_len bs xs xs.length
    rw [List.take_length] at this
    have h2 := (catB_spec hg.1).1
    omega
  · obtain ⟨rfl, -⟩ := Prod.mk.inj h; simp
theorem infoCu2 : (Tryz.prog.info? 25).map (fun i => (i.zero, i.size, i.bytes)) = some (some (.agg #[.int .i64 0, .int .i64 0]), 2, 16) := by kernel_rfl
theorem cu_one (es : List Cu) : ∀ u ∈ cuS.flat es, u.oneCell' = true := by
  intro u hu
  unfold Shape.flat at hu
  rw [List.mem_flatMap] at hu
  obtain ⟨x, -, hx⟩ := hu
  unfold Shape.cells at hx
  rw [List.mem_map] at hx
  obtain ⟨j, -, rfl⟩ := hx
  simp only [cuS]
  split <;> rfl
theorem oneCu_cells {w : World} {b : Nat} {x : Cu} (h : Blk w b 25 #[.int .i64 x.a, .int .i64 x.b]) : ∀ j u, (cuS.flat [x])[j]? = some u → w.cell? ((⟨b, 0, none⟩ : Addr).add j) = some u := by
  intro j u hj
  have hj2 : ((#[.int .i64 x.a, .int .i64 x.b] : Array Value).toList)[j]? = some u := hj
  rw [Array.getElem?_toList] at hj2
  rw [← hj2, ← h.cell j]
  unfold Addr.add
  by_cases h0 : j = 0 <;> simp [h0]


end
end Go.Proofs.YtimfoodbolokdaaGreatDoor
