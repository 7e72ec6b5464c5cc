/- Two entries of one curve meet: caMeet of the reference, meetEntries of the program. Conditions: none. -/
import Derived.Test.YtnphipfdpkgbaaaFind2
import Derived.Test.YtnphipfdpkgbaaaFrame
import Derived.Test.YtnphipfdpkgbaaaRow2
import Derived.Deep.RegionHeld3
import Derived.Deep.DeepCutAuto
namespace Go.Proofs.Ytnphipfdpkgbaaa
open Go Go.RowKit

def mostI (x y : Int) : Int := if y < x then x else y
def leastI (x y : Int) : Int := if x < y then x else y
def meetE (x y : En) : En := ⟨x.a, x.b, mostI x.lo y.lo, leastI x.hi y.hi, mostI x.to y.to⟩
def tornB (x y : En) : Bool := x.to != 0 && (y.to != 0 && x.to != y.to)
def okMeet (x y : En) : Bool := !tornB x y && decide (mostI x.lo y.lo ≤ leastI x.hi y.hi)

theorem l1Most_any (x y : Int) (w : World) : Calls Try.prog 116 #[.int .i64 x, .int .i64 y] w fun e w' => e = .returned (.int .i64 (mostI x y)) ∧ w = w' := by
  by_cases h : y < x
  · have hd : decide (y < x) = true := decide_eq_true h
    have hv : mostI x y = x := if_pos h
    rw [hv]
    go_enter Try.func116, Try.ntmps116
    go_wp2
    go_ret
    exact ⟨rfl, rfl⟩
  · have hd : decide (y < x) = false := decide_eq_false h
    have hv : mostI x y = y := if_neg h
    rw [hv]
    go_enter Try.func116, Try.ntmps116
    go_wp2
    go_ret
    exact ⟨rfl, rfl⟩
theorem l1Least_any (x y : Int) (w : World) : Calls Try.prog 80 #[.int .i64 x, .int .i64 y] w fun e w' => e = .returned (.int .i64 (leastI x y)) ∧ w = w' := by
  by_cases h : x < y
  · have hd : decide (x < y) = true := decide_eq_true h
    have hv : leastI x y = x := if_pos h
    rw [hv]
    go_enter Try.func80, Try.ntmps80
    go_wp2
    go_ret
    exact ⟨rfl, rfl⟩
  · have hd : decide (x < y) = false := decide_eq_false h
    have hv : leastI x y = y := if_neg h
    rw [hv]
    go_enter Try.func80, Try.ntmps80
    go_wp2
    go_ret
    exact ⟨rfl, rfl⟩

set_option maxHeartbeats 4000000 in
theorem caMeet_any (x y : En) (w : World) (hx : 0 ≤ x.to) (hy : 0 ≤ y.to) :
    Calls Try.prog 66 #[.agg #[.int .i64 x.a, .int .i64 x.b, .int .i64 x.lo, .int .i64 x.hi, .int .i64 x.to], .agg #[.int .i64 y.a, .int .i64 y.b, .int .i64 y.lo, .int .i64 y.hi, .int .i64 y.to]] w fun r w' =>
      (∃ m : En, r = .returned (.tuple #[.agg #[.int .i64 m.a, .int .i64 m.b, .int .i64 m.lo, .int .i64 m.hi, .int .i64 m.to], .bool (okMeet x y)]) ∧ (okMeet x y = true → m = meetE x y)) ∧ Below w.heap.size w w' := by
  obtain ⟨X, hX⟩ : ∃ X, X = ((w.alloc (Obj.cells #[.int .i64 x.a, .int .i64 x.b, .int .i64 x.lo, .int .i64 x.hi, .int .i64 x.to] 36)).alloc (Obj.cells #[.int .i64 y.a, .int .i64 y.b, .int .i64 y.lo, .int .i64 y.hi, .int .i64 y.to] 36)).alloc (Obj.cells #[.int .i64 0, .int .i64 0, .int .i64 0, .int .i64 0, .int .i64 0] 36) := ⟨_, rfl⟩
  have hbX : Below w.heap.size w X := by rw [hX]; exact bal (bal (bal (Below.refl _ _) _) _) _
  have hX1 : Blk X w.heap.size 36 #[.int .i64 x.a, .int .i64 x.b, .int .i64 x.lo, .int .i64 x.hi, .int .i64 x.to] := by rw [hX]; exact ((Blk.new w _ _).alloc _).alloc _
  have hX2 : Blk X (w.heap.size + 1) 36 #[.int .i64 y.a, .int .i64 y.b, .int .i64 y.lo, .int .i64 y.hi, .int .i64 y.to] := by rw [hX]; exact (Blk.new1 w _ _ _).alloc _
  have hX3 : Blk X (w.heap.size + 2) 36 #[.int .i64 0, .int .i64 0, .int .i64 0, .int .i64 0, .int .i64 0] := by rw [hX]; have := Blk.new ((w.alloc (Obj.cells #[.int .i64 x.a, .int .i64 x.b, .int .i64 x.lo, .int .i64 x.hi, .int .i64 x.to] 36)).alloc (Obj.cells #[.int .i64 y.a, .int .i64 y.b, .int .i64 y.lo, .int .i64 y.hi, .int .i64 y.to] 36)) 36 #[.int .i64 0, .int .i64 0, .int .i64 0, .int .i64 0, .int .i64 0]; rw [World.size_alloc, World.size_alloc] at this; exact this
  have hXs : X.heap.size = w.heap.size + 3 := by rw [hX]; simp
  go_enter Try.func66, Try.ntmps66
  go_wp2_with fail
  rw [← hX]
  clear hX
  have hnew : ∀ cs, Blk (X.alloc (.cells cs 36)) (w.heap.size + 3) 36 cs := fun cs => by have := Blk.new X 36 cs; rw [hXs] at this; exact this
  have HS : Hid (∀ w', Below X.heap.size X w' → (w'.cell? ⟨w.heap.size, 0, none⟩ = some (.int .i64 x.a) ∧ w'.cell? ⟨w.heap.size, 1, none⟩ = some (.int .i64 x.b) ∧ w'.cell? ⟨w.heap.size, 2, none⟩ = some (.int .i64 x.lo) ∧ w'.cell? ⟨w.heap.size, 3, none⟩ = some (.int .i64 x.hi) ∧ w'.cell? ⟨w.heap.size, 4, none⟩ = some (.int .i64 x.to) ∧ w'.cell? ⟨w.heap.size + 1, 0, none⟩ = some (.int .i64 y.a) ∧ w'.cell? ⟨w.heap.size + 1, 1, none⟩ = some (.int .i64 y.b) ∧ w'.cell? ⟨w.heap.size + 1, 2, none⟩ = some (.int .i64 y.lo) ∧ w'.cell? ⟨w.heap.size + 1, 3, none⟩ = some (.int .i64 y.hi) ∧ w'.cell? ⟨w.heap.size + 1, 4, none⟩ = some (.int .i64 y.to) ∧ Below X.heap.size X w')) := Lib.hid (fun w' hw => ⟨(hw.cell (p := ⟨w.heap.size, 0, none⟩) hX1.lt).trans (hX1.cell 0), (hw.cell (p := ⟨w.heap.size, 1, none⟩) hX1.lt).trans (hX1.cell 1), (hw.cell (p := ⟨w.heap.size, 2, none⟩) hX1.lt).trans (hX1.cell 2), (hw.cell (p := ⟨w.heap.size, 3, none⟩) hX1.lt).trans (hX1.cell 3), (hw.cell (p := ⟨w.heap.size, 4, none⟩) hX1.lt).trans (hX1.cell 4), (hw.cell (p := ⟨w.heap.size + 1, 0, none⟩) hX2.lt).trans (hX2.cell 0), (hw.cell (p := ⟨w.heap.size + 1, 1, none⟩) hX2.lt).trans (hX2.cell 1), (hw.cell (p := ⟨w.heap.size + 1, 2, none⟩) hX2.lt).trans (hX2.cell 2), (hw.cell (p := ⟨w.heap.size + 1, 3, none⟩) hX2.lt).trans (hX2.cell 3), (hw.cell (p := ⟨w.heap.size + 1, 4, none⟩) hX2.lt).trans (hX2.cell 4), hw⟩)
  go_cut [6] (fun p wx => p = .pointer (some ⟨w.heap.size + 3, 0, none⟩) ∧ Blk wx (w.heap.size + 3) 36 #[.int .i64 (meetE x y).a, .int .i64 (meetE x y).b, .int .i64 (meetE x y).lo, .int .i64 (meetE x y).hi, .int .i64 (meetE x y).to] ∧ Below X.heap.size X wx)
  case first =>
    go_region_held3 (fun w' => w'.cell? ⟨w.heap.size, 0, none⟩ = some (.int .i64 x.a) ∧ w'.cell? ⟨w.heap.size, 1, none⟩ = some (.int .i64 x.b) ∧ w'.cell? ⟨w.heap.size, 2, none⟩ = some (.int .i64 x.lo) ∧ w'.cell? ⟨w.heap.size, 3, none⟩ = some (.int .i64 x.hi) ∧ w'.cell? ⟨w.heap.size, 4, none⟩ = some (.int .i64 x.to) ∧ w'.cell? ⟨w.heap.size + 1, 0, none⟩ = some (.int .i64 y.a) ∧ w'.cell? ⟨w.heap.size + 1, 1, none⟩ = some (.int .i64 y.b) ∧ w'.cell? ⟨w.heap.size + 1, 2, none⟩ = some (.int .i64 y.lo) ∧ w'.cell? ⟨w.heap.size + 1, 3, none⟩ = some (.int .i64 y.hi) ∧ w'.cell? ⟨w.heap.size + 1, 4, none⟩ = some (.int .i64 y.to) ∧ Below X.heap.size X w')
      ((go_split_ands; refine HS.out _ ?_; repeat (first | (with_reducible assumption) | (with_reducible exact Below.refl _ _) | (with_reducible refine Below.drew ?_) | (with_reducible refine bal ?_ _) | (with_reducible refine bst ?_ (by simp) _))))
      ((first
        | (go_at_call 116; refine (l1Most_any _ _ _).mono ?_; rintro e w' ⟨rfl, rfl⟩)
        | (go_at_call 80; refine (l1Least_any _ _ _).mono ?_; rintro e w' ⟨rfl, rfl⟩)))
    all_goals
      go_wp2_with fail
      go_meet
      exact ⟨rfl, by first | exact hnew _ | exact (hnew _).drew | exact Blk.set5 (hnew _) | exact Blk.set5 (Blk.drew (hnew _)), by repeat (with_reducible first | exact Below.refl _ _ | refine Below.drew ?_ | refine bal ?_ _ | refine bst ?_ (by simp [hXs]) _)⟩
  obtain ⟨rfl, hBm, hbc⟩ := hcut
  clear HS hnew
  have hB1 := hX1.on hbc
  have hB2 := hX2.on hbc
  have hB3 := hX3.on hbc
  have HbC := Lib.hid (bthen hbX hbc)
  clear hX1 hX2 hX3 hbX hXs
  have p0 := hB1.cell 0
  have p1 := hB1.cell 1
  have p2 := hB1.cell 2
  have p3 := hB1.cell 3
  have p4 := hB1.cell 4
  have q0 := hB2.cell 0
  have q1 := hB2.cell 1
  have q2 := hB2.cell 2
  have q3 := hB2.cell 3
  have q4 := hB2.cell 4
  have r0 := hB3.cell 0
  have r1 := hB3.cell 1
  have r2 := hB3.cell 2
  have r3 := hB3.cell 3
  have r4 := hB3.cell 4
  have t0 := hBm.cell 0
  have t1 := hBm.cell 1
  have t2 := hBm.cell 2
  have t3 := hBm.cell 3
  have t4 := hBm.cell 4
  have l1 := hB1.lt
  have l2 := hB2.lt
  have l3 := hB3.lt
  have l4 := hBm.lt
  have z0 := hB3.frozen 0
  have z1 := hB3.frozen 1
  have z2 := hB3.frozen 2
  have z3 := hB3.frozen 3
  have z4 := hB3.frozen 4
  have hok : okMeet x y = (!tornB x y && decide ((meetE x y).lo ≤ (meetE x y).hi)) := rfl
  generalize hm : meetE x y = m at *
  have Hm := Lib.hid hm; clear hm
  clear hB1 hB2 hB3 hBm hbc
  by_cases h1 : m.hi < m.lo
  · have Hno := Lib.hid (show okMeet x y = false by rw [hok, decide_eq_false (by omega), Bool.and_false])
    clear hok
    have hd : decide (m.hi < m.lo) = true := decide_eq_true h1
    go_wp2
    exact bodyPost_ret (v := .tuple #[.agg #[.int .i64 0, .int .i64 0, .int .i64 0, .int .i64 0, .int .i64 0], .bool false]) (by simp [results, Try.results66, go_sem, r0, r1, r2, r3, r4]) rfl ⟨⟨⟨0, 0, 0, 0, 0⟩, by rw [Hno.out], fun h => by rw [Hno.out] at h; cases h⟩, by repeat (with_reducible first | exact Below.refl _ _ | exact HbC.out | (refine bst ?_ (by first | omega | (simp; done) | (simp; omega)) _))⟩
  · have hd : decide (m.hi < m.lo) = false := decide_eq_false h1
    rw [decide_eq_true (show m.lo ≤ m.hi by omega), Bool.and_true] at hok
    by_cases h2 : 0 < x.to
    · have hd2 : decide (0 < x.to) = true := decide_eq_true h2
      by_cases h3 : 0 < y.to
      · have hd3 : decide (0 < y.to) = true := decide_eq_true h3
        by_cases h4 : x.to = y.to
        · have Hyes := Lib.hid (show okMeet x y = true by rw [hok]; simp [tornB, h4])
          clear hok
          have hd4 : (x.to != y.to) = false := by simp [h4]
          go_wp2
          exact bodyPost_ret (v := .tuple #[.agg #[.int .i64 m.a, .int .i64 m.b, .int .i64 m.lo, .int .i64 m.hi, .int .i64 m.to], .bool true]) (by simp [results, Try.results66, go_sem, r0, r1, r2, r3, r4]) rfl ⟨⟨m, by rw [Hyes.out], fun _ => Hm.out.symm⟩, by repeat (with_reducible first | exact Below.refl _ _ | exact HbC.out | (refine bst ?_ (by first | omega | (simp; done) | (simp; omega)) _))⟩
        · have Hno := Lib.hid (show okMeet x y = false by rw [hok]; simp [tornB, h4]; omega)
          clear hok
          have hd4 : (x.to != y.to) = true := by simp [h4]
          go_wp2
          exact bodyPost_ret (v := .tuple #[.agg #[.int .i64 0, .int .i64 0, .int .i64 0, .int .i64 0, .int .i64 0], .bool false]) (by simp [results, Try.results66, go_sem, r0, r1, r2, r3, r4]) rfl ⟨⟨⟨0, 0, 0, 0, 0⟩, by rw [Hno.out], fun h => by rw [Hno.out] at h; cases h⟩, by repeat (with_reducible first | exact Below.refl _ _ | exact HbC.out | (refine bst ?_ (by first | omega | (simp; done) | (simp; omega)) _))⟩
      · have Hyes := Lib.hid (show okMeet x y = true by rw [hok]; simp [tornB, show y.to = 0 by omega])
        clear hok
        have hd3 : decide (0 < y.to) = false := decide_eq_false h3
        go_wp2
        exact bodyPost_ret (v := .tuple #[.agg #[.int .i64 m.a, .int .i64 m.b, .int .i64 m.lo, .int .i64 m.hi, .int .i64 m.to], .bool true]) (by simp [results, Try.results66, go_sem, r0, r1, r2, r3, r4]) rfl ⟨⟨m, by rw [Hyes.out], fun _ => Hm.out.symm⟩, by repeat (with_reducible first | exact Below.refl _ _ | exact HbC.out | (refine bst ?_ (by first | omega | (simp; done) | (simp; omega)) _))⟩
    · have Hyes := Lib.hid (show okMeet x y = true by rw [hok]; simp [tornB, show x.to = 0 by omega])
      clear hok
      have hd2 : decide (0 < x.to) = false := decide_eq_false h2
      go_wp2
      exact bodyPost_ret (v := .tuple #[.agg #[.int .i64 m.a, .int .i64 m.b, .int .i64 m.lo, .int .i64 m.hi, .int .i64 m.to], .bool true]) (by simp [results, Try.results66, go_sem, r0, r1, r2, r3, r4]) rfl ⟨⟨m, by rw [Hyes.out], fun _ => Hm.out.symm⟩, by repeat (with_reducible first | exact Below.refl _ _ | exact HbC.out | (refine bst ?_ (by first | omega | (simp; done) | (simp; omega)) _))⟩
end Go.Proofs.Ytnphipfdpkgbaaa
