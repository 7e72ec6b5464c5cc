/- The order of a journal's catalogue: the closure's walk, to the world itself. Conditions: none. -/
import Derived.Test.YtimfoodbolokdaaGreatDoorEtM2
import Derived.Sort.Grow
import Derived.Deep.RegionHeld3
namespace Go.Proofs.YtimfoodbolokdaaGreatDoor
open Go Go.RowKit Go.Sort

/-- Draws and new blocks, nothing else. -/
def Gr (w w' : World) : Prop := ∃ (q : Nat) (os : Array Obj), w' = grow (w.drewN q) os
theorem Gr.refl (w : World) : Gr w w := ⟨0, #[], by rw [grow_empty]; rfl⟩
theorem Gr.drew {w w' : World} (h : Gr w w') : Gr w w'.drew := by
  obtain ⟨q, os, rfl⟩ := h
  exact ⟨q + 1, os, rfl⟩
theorem Gr.alloc {w w' : World} (h : Gr w w') (o : Obj) : Gr w (w'.alloc o) := by
  obtain ⟨q, os, rfl⟩ := h
  exact ⟨q, os ++ #[o], by rw [alloc_eq_grow, grow_grow]⟩
theorem Gr.trans {w w1 w2 : World} (h : Gr w w1) (k : Gr w1 w2) : Gr w w2 := by
  obtain ⟨q, os, rfl⟩ := h
  obtain ⟨p, ot, rfl⟩ := k
  refine ⟨q + p, os ++ ot, ?_⟩
  rw [← grow_grow]
  unfold grow World.drewN
  simp only [Nat.add_assoc]
set_option maxHeartbeats 800000 in
theorem compareCurves_gr (a b c d : Int) (w : World) :
    Calls Tryz.prog 148 #[.agg #[.int .i64 a, .int .i64 b], .agg #[.int .i64 c, .int .i64 d]] w fun e w' => e = .returned (.int .i64 (cmpC a b c d)) ∧ Gr w w' := by
  go_enter Tryz.func148, Tryz.ntmps148
  go_wp2
  go_region_held3 (fun w' => w'.cell? ⟨w.heap.size, 0, none⟩ = some (.int .i64 a) ∧ w'.cell? ⟨w.heap.size, 1, none⟩ = some (.int .i64 b) ∧ w'.cell? ⟨w.heap.size + 1, 0, none⟩ = some (.int .i64 c) ∧ w'.cell? ⟨w.heap.size + 1, 1, none⟩ = some (.int .i64 d)) (simp [go_sem, World.cell?_alloc_past])
    (first
      | (go_at_call 197; refine (cmpCompare_any _ _ _).mono ?_; rintro e w' ⟨rfl, rfl⟩)
      | (go_at_call 196; refine (cmpOr_two _ _ (cmpI a c) (cmpI b d) _ ?_ ?_).mono ?_; (simp [go_sem]); (simp [go_sem]); rintro e w' ⟨rfl, rfl⟩))
  all_goals go_wp2
  all_goals go_ret
  all_goals exact ⟨by rw [← or2_cmp]; rfl, by repeat (with_reducible first | exact Gr.refl _ | refine Gr.drew ?_ | refine Gr.alloc ?_ _)⟩
set_option maxHeartbeats 800000 in
theorem cmpEntries_gr (x y : En) (w : World) :
    Calls Tryz.prog 147 #[.agg #[.int .i64 x.a, .int .i64 x.b, .int .i64 x.lo, .int .i64 x.hi, .int .i64 x.to], .agg #[.int .i64 y.a, .int .i64 y.b, .int .i64 y.lo, .int .i64 y.hi, .int .i64 y.to]] w fun e w' => e = .returned (.int .i64 (cmpE x y)) ∧ Gr w w' := by
  go_enter Tryz.func147, Tryz.ntmps147
  go_wp2_with fail
  refine (compareCurves_gr x.a x.b y.a y.b _).mono ?_; rintro e w1 ⟨rfl, hg⟩
  go_wp2
  go_ret
  exact ⟨rfl, Gr.trans (by repeat (with_reducible first | exact Gr.refl _ | refine Gr.drew ?_ | refine Gr.alloc ?_ _)) hg⟩
end Go.Proofs.YtimfoodbolokdaaGreatDoor
