/- Tasks without points: NewTask of both, eqTask, markTask, heldTask. Conditions: none. -/
import Derived.Test.YticbmpjdcanjkaaGreatDoorTask
namespace Go.Proofs.YticbmpjdcanjkaaGreatDoor
open Go Go.RowKit

def newT (a b m d : Int) : Int × Int × Int × Int × Bool := if taskB a b m d then (a, b, m, d, true) else (0, 0, 0, 0, false)
set_option maxRecDepth 8000 in
set_option maxHeartbeats 1600000 in
theorem implNew_any (a b m d : Int) (w : World) : Calls Tryz.prog 27 #[.agg #[.int .i64 a, .int .i64 b], .int .i64 m, .int .i64 d] w fun r w' =>
    (∃ (A B M D : Int) (k : Bool), r = .returned (.tuple #[.agg #[.int .i64 A, .int .i64 B, .int .i64 M, .int .i64 D, .int .i64 0, .slice none 0 0], .bool k]) ∧ newT a b m d = (A, B, M, D, k)) ∧ Below w.heap.size w w' := by
  have hbA : Below w.heap.size w (((w.alloc (Obj.cells #[.int .i64 a, .int .i64 b] 23)).alloc (Obj.cells #[.int .i64 0, .int .i64 0, .int .i64 0, .int .i64 0, .int .i64 0, .slice none 0 0] 26)).alloc (Obj.cells #[.int .i64 a, .int .i64 b, .int .i64 m, .int .i64 d, .int .i64 0, .slice none 0 0] 26)) := bal (bal (bal (Below.refl _ _) _) _) _
  have hR : Blk (((w.alloc (Obj.cells #[.int .i64 a, .int .i64 b] 23)).alloc (Obj.cells #[.int .i64 0, .int .i64 0, .int .i64 0, .int .i64 0, .int .i64 0, .slice none 0 0] 26)).alloc (Obj.cells #[.int .i64 a, .int .i64 b, .int .i64 m, .int .i64 d, .int .i64 0, .slice none 0 0] 26)) (w.heap.size + 1) 26 #[.int .i64 0, .int .i64 0, .int .i64 0, .int .i64 0, .int .i64 0, .slice none 0 0] := (Blk.new1 w _ _ _).alloc _
  have hT : Blk (((w.alloc (Obj.cells #[.int .i64 a, .int .i64 b] 23)).alloc (Obj.cells #[.int .i64 0, .int .i64 0, .int .i64 0, .int .i64 0, .int .i64 0, .slice none 0 0] 26)).alloc (Obj.cells #[.int .i64 a, .int .i64 b, .int .i64 m, .int .i64 d, .int .i64 0, .slice none 0 0] 26)) (w.heap.size + 2) 26 #[.int .i64 a, .int .i64 b, .int .i64 m, .int .i64 d, .int .i64 0, .slice none 0 0] := by
    have := Blk.new ((w.alloc (Obj.cells #[.int .i64 a, .int .i64 b] 23)).alloc (Obj.cells #[.int .i64 0, .int .i64 0, .int .i64 0, .int .i64 0, .int .i64 0, .slice none 0 0] 26)) 26 #[.int .i64 a, .int .i64 b, .int .i64 m, .int .i64 d, .int .i64 0, .slice none 0 0]
    rw [World.size_alloc, World.size_alloc] at this
    exact this
  have HbA := Lib.hid hbA; clear hbA
  have HR := Lib.hid hR; clear hR
  have HT := Lib.hid hT
  go_enter Tryz.func27, Tryz.ntmps27
  go_wp2_with fail
  refine (isTask_new _ a b m d _ hT).mono ?_
  rintro e w1 ⟨rfl, hb1⟩
  have hR1 := HR.out.on hb1
  have hT1 := HT.out.on hb1
  have hb := bthen HbA.out hb1
  clear hT hb1
  have r0 := hR1.cell 0
  have r1 := hR1.cell 1
  have r2 := hR1.cell 2
  have r3 := hR1.cell 3
  have r4 := hR1.cell 4
  have r5 := hR1.cell 5
  have rl := hR1.lt
  have t0 := hT1.cell 0
  have t1 := hT1.cell 1
  have t2 := hT1.cell 2
  have t3 := hT1.cell 3
  have t4 := hT1.cell 4
  have t5 := hT1.cell 5
  have tl := hT1.lt
  have z0 := hR1.frozen 0
  have z1 := hR1.frozen 1
  have z2 := hR1.frozen 2
  have z3 := hR1.frozen 3
  have z4 := hR1.frozen 4
  have z5 := hR1.frozen 5
  clear hR1 hT1
  have HbB := Lib.hid hb; clear hb
  cases hk : taskB a b m d
  · have Hk := Lib.hid hk; clear hk
    go_wp2
    exact bodyPost_ret (v := .tuple #[.agg #[.int .i64 0, .int .i64 0, .int .i64 0, .int .i64 0, .int .i64 0, .slice none 0 0], .bool false]) (by simp [results, Tryz.results27, go_sem, r0, r1, r2, r3, r4, r5]) rfl ⟨⟨0, 0, 0, 0, false, rfl, by unfold newT; rw [Hk.out]; rfl⟩, by repeat (with_reducible first | exact HbB.out | (refine bst ?_ (by first | omega | (simp; done) | (simp; omega)) _))⟩
  · have Hk := Lib.hid hk; clear hk
    go_wp2
    exact bodyPost_ret (v := .tuple #[.agg #[.int .i64 a, .int .i64 b, .int .i64 m, .int .i64 d, .int .i64 0, .slice none 0 0], .bool true]) (by simp [results, Tryz.results27, go_sem, r0, r1, r2, r3, r4, r5]) rfl ⟨⟨a, b, m, d, true, rfl, by unfold newT; rw [Hk.out]; rfl⟩, by repeat (with_reducible first | exact HbB.out | (refine bst ?_ (by first | omega | (simp; done) | (simp; omega)) _))⟩

set_option maxHeartbeats 1600000 in
theorem eqTask_new (a b m d : Int) (w : World) : Calls Tryz.prog 7 #[.agg #[.int .i64 a, .int .i64 b, .int .i64 m, .int .i64 d, .int .i64 0, .slice none 0 0], .agg #[.int .i64 a, .int .i64 b, .int .i64 m, .int .i64 d, .int .i64 0, .slice none 0 0]] w fun r w' => r = .returned (.bool true) ∧ Below w.heap.size w w' := by
  have hbA : Below w.heap.size w ((w.alloc (Obj.cells #[.int .i64 a, .int .i64 b, .int .i64 m, .int .i64 d, .int .i64 0, .slice none 0 0] 26)).alloc (Obj.cells #[.int .i64 a, .int .i64 b, .int .i64 m, .int .i64 d, .int .i64 0, .slice none 0 0] 26)) := bal (bal (Below.refl _ _) _) _
  have h1 : Blk ((w.alloc (Obj.cells #[.int .i64 a, .int .i64 b, .int .i64 m, .int .i64 d, .int .i64 0, .slice none 0 0] 26)).alloc (Obj.cells #[.int .i64 a, .int .i64 b, .int .i64 m, .int .i64 d, .int .i64 0, .slice none 0 0] 26)) w.heap.size 26 #[.int .i64 a, .int .i64 b, .int .i64 m, .int .i64 d, .int .i64 0, .slice none 0 0] := (Blk.new w _ _).alloc _
  have h2 : Blk ((w.alloc (Obj.cells #[.int .i64 a, .int .i64 b, .int .i64 m, .int .i64 d, .int .i64 0, .slice none 0 0] 26)).alloc (Obj.cells #[.int .i64 a, .int .i64 b, .int .i64 m, .int .i64 d, .int .i64 0, .slice none 0 0] 26)) (w.heap.size + 1) 26 #[.int .i64 a, .int .i64 b, .int .i64 m, .int .i64 d, .int .i64 0, .slice none 0 0] := Blk.new1 w _ _ _
  have HbA := Lib.hid hbA; clear hbA
  have H1 := Lib.hid h1; clear h1
  have H2 := Lib.hid h2; clear h2
  go_enter Tryz.func7, Tryz.ntmps7
  go_wp2_with fail
  refine (eqCurve_same _ _ _).mono ?_; rintro e w1 ⟨rfl, hb1⟩
  have k1 := H1.out.on hb1
  have k2 := H2.out.on hb1
  have p0 := k1.cell 0
  have p1 := k1.cell 1
  have p2 := k1.cell 2
  have p3 := k1.cell 3
  have p4 := k1.cell 4
  have p5 := k1.cell 5
  have pl := k1.lt
  have q0 := k2.cell 0
  have q1 := k2.cell 1
  have q2 := k2.cell 2
  have q3 := k2.cell 3
  have q4 := k2.cell 4
  have q5 := k2.cell 5
  have ql := k2.lt
  have hb := bthen HbA.out hb1
  have Hb := Lib.hid hb; clear hb hb1 k1 k2
  go_wp2_with fail
  refine (eqPointS_nil _).mono ?_; rintro e w2 ⟨rfl, rfl⟩
  go_wp2
  go_ret
  exact ⟨rfl, Hb.out⟩
theorem markTask_new (a b m d k : Int) (w : World) : Calls Tryz.prog 8 #[.agg #[.int .i64 a, .int .i64 b, .int .i64 m, .int .i64 d, .int .i64 0, .slice none 0 0], .int .i64 k] w fun r w' => r = .returned (.int .i64 k) ∧ Below w.heap.size w w' := by
  have HbA := Lib.hid (show Below w.heap.size w (w.alloc (Obj.cells #[.int .i64 a, .int .i64 b, .int .i64 m, .int .i64 d, .int .i64 0, .slice none 0 0] 26)) from bal (Below.refl _ _) _)
  go_enter Tryz.func8, Tryz.ntmps8
  go_wp2_with fail
  refine (markPointS_nil _ _).mono ?_; rintro e w2 ⟨rfl, rfl⟩
  go_wp2
  go_ret
  exact ⟨rfl, HbA.out⟩
theorem heldTask_new (a b m d : Int) (w : World) : Calls Tryz.prog 9 #[.agg #[.int .i64 a, .int .i64 b, .int .i64 m, .int .i64 d, .int .i64 0, .slice none 0 0], .int .i64 1] w fun r w' => r = .returned (.int .i64 1) ∧ Below w.heap.size w w' := by
  have HbA := Lib.hid (show Below w.heap.size w (w.alloc (Obj.cells #[.int .i64 a, .int .i64 b, .int .i64 m, .int .i64 d, .int .i64 0, .slice none 0 0] 26)) from bal (Below.refl _ _) _)
  go_enter Tryz.func9, Tryz.ntmps9
  go_wp2_with fail
  refine (heldPointS_nil _ _).mono ?_; rintro e w2 ⟨rfl, rfl⟩
  go_wp2
  go_ret
  exact ⟨rfl, HbA.out⟩
end Go.Proofs.YticbmpjdcanjkaaGreatDoor
