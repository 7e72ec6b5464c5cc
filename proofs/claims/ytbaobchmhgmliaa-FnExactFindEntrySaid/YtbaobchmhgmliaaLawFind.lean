/- The law FnExactFindEntry: for all arguments the program's answer is the reference's. Conditions: none. -/
import Derived.Test.YtbaobchmhgmliaaSEntry
import Derived.Test.YtbaobchmhgmliaaFind2
import Derived.Deep.RegionHeld3
import Derived.Deep.DeepCutAuto
import Derived.Test.YtbaobchmhgmliaaFrame
namespace Go.Proofs.Ytbaobchmhgmliaa
open Go Go.RowKit Go.ChangeShapes Go.WideShapes

set_option maxHeartbeats 40000000 in
theorem fnExactFindEntry_walk (v0 : Value) (es0 : List En) (a1 b1 : Int) (w : World) (hr0 : Rd enS w w.heap.size v0 es0) :
    Calls Try.prog 9 #[v0, .agg #[.int .i64 a1, .int .i64 b1]] w fun e w' => e = .returned (.bool true) ∧ Below w.heap.size w w' := by
  have hq0 := hr0
  obtain ⟨A0, c0, rfl, hc0, hm0, -⟩ := hq0
  unfold maxLen at hm0
  have Hr0 := Lib.hid hr0; clear hr0
  by_cases hl0 : es0.length ≤ 1048576
  · skip
    go_enter Try.func9, Try.ntmps9
    go_wp2_with fail
    refine (szEntryS_any _ _ _ _ _ (by omega) (by omega) (by omega)).mono ?_; rintro e z0 ⟨rfl, rfl⟩
    rw [szI_pos (by omega)]
    have hge0 : (0 : Int) ≤ 1048576 - (es0.length : Int) := by omega
    go_wp2_with fail
    have bx1 : Blk _ (w.heap.size) 23 #[.int .i64 a1, .int .i64 b1] := (Blk.new (w) 23 #[.int .i64 a1, .int .i64 b1])
    go_cut [6, 7] (fun p b wx => ∃ (g : Nat) (yy : En) (bb : Bool), p = .pointer (some ⟨g, 0, none⟩) ∧ b = .bool bb ∧ findV es0 a1 b1 = (yy, bb) ∧ Below w.heap.size w wx ∧ Blk wx g 36 #[.int .i64 yy.a, .int .i64 yy.b, .int .i64 yy.lo, .int .i64 yy.hi, .int .i64 yy.to] ∧ Blk wx w.heap.size 23 #[.int .i64 a1, .int .i64 b1])
    case first =>
      have qd1_0 : (World.drew (w.alloc (Obj.cells #[.int .i64 a1, .int .i64 b1] 23))).cell? ⟨w.heap.size, 0, none⟩ = some (.int .i64 a1) := bx1.drew.cell 0
      have qd1_1 : (World.drew (w.alloc (Obj.cells #[.int .i64 a1, .int .i64 b1] 23))).cell? ⟨w.heap.size, 1, none⟩ = some (.int .i64 b1) := bx1.drew.cell 1
      have qe1_0 : (World.drew ((w.alloc (Obj.cells #[.int .i64 a1, .int .i64 b1] 23)).alloc (Obj.cells #[.int .i64 0, .int .i64 0, .int .i64 0, .int .i64 0, .int .i64 0] 36))).cell? ⟨w.heap.size, 0, none⟩ = some (.int .i64 a1) := (bx1.alloc _).drew.cell 0
      have qe1_1 : (World.drew ((w.alloc (Obj.cells #[.int .i64 a1, .int .i64 b1] 23)).alloc (Obj.cells #[.int .i64 0, .int .i64 0, .int .i64 0, .int .i64 0, .int .i64 0] 36))).cell? ⟨w.heap.size, 1, none⟩ = some (.int .i64 b1) := (bx1.alloc _).drew.cell 1
      have qn0 : (World.drew ((w.alloc (Obj.cells #[.int .i64 a1, .int .i64 b1] 23)).alloc (Obj.cells #[.int .i64 0, .int .i64 0, .int .i64 0, .int .i64 0, .int .i64 0] 36))).cell? ⟨w.heap.size + 1, 0, none⟩ = some (.int .i64 0) := (Blk.new1 w _ _ _).drew.cell 0
      have qm0 : (World.drew ((w.alloc (Obj.cells #[.int .i64 a1, .int .i64 b1] 23)).alloc (Obj.cells #[.int .i64 0, .int .i64 0, .int .i64 0, .int .i64 0, .int .i64 0] 36))).frozen? ⟨w.heap.size + 1, 0, none⟩ = false := (Blk.new1 w _ _ _).drew.frozen 0
      have qn1 : (World.drew ((w.alloc (Obj.cells #[.int .i64 a1, .int .i64 b1] 23)).alloc (Obj.cells #[.int .i64 0, .int .i64 0, .int .i64 0, .int .i64 0, .int .i64 0] 36))).cell? ⟨w.heap.size + 1, 1, none⟩ = some (.int .i64 0) := (Blk.new1 w _ _ _).drew.cell 1
      have qm1 : (World.drew ((w.alloc (Obj.cells #[.int .i64 a1, .int .i64 b1] 23)).alloc (Obj.cells #[.int .i64 0, .int .i64 0, .int .i64 0, .int .i64 0, .int .i64 0] 36))).frozen? ⟨w.heap.size + 1, 1, none⟩ = false := (Blk.new1 w _ _ _).drew.frozen 1
      have qn2 : (World.drew ((w.alloc (Obj.cells #[.int .i64 a1, .int .i64 b1] 23)).alloc (Obj.cells #[.int .i64 0, .int .i64 0, .int .i64 0, .int .i64 0, .int .i64 0] 36))).cell? ⟨w.heap.size + 1, 2, none⟩ = some (.int .i64 0) := (Blk.new1 w _ _ _).drew.cell 2
      have qm2 : (World.drew ((w.alloc (Obj.cells #[.int .i64 a1, .int .i64 b1] 23)).alloc (Obj.cells #[.int .i64 0, .int .i64 0, .int .i64 0, .int .i64 0, .int .i64 0] 36))).frozen? ⟨w.heap.size + 1, 2, none⟩ = false := (Blk.new1 w _ _ _).drew.frozen 2
      have qn3 : (World.drew ((w.alloc (Obj.cells #[.int .i64 a1, .int .i64 b1] 23)).alloc (Obj.cells #[.int .i64 0, .int .i64 0, .int .i64 0, .int .i64 0, .int .i64 0] 36))).cell? ⟨w.heap.size + 1, 3, none⟩ = some (.int .i64 0) := (Blk.new1 w _ _ _).drew.cell 3
      have qm3 : (World.drew ((w.alloc (Obj.cells #[.int .i64 a1, .int .i64 b1] 23)).alloc (Obj.cells #[.int .i64 0, .int .i64 0, .int .i64 0, .int .i64 0, .int .i64 0] 36))).frozen? ⟨w.heap.size + 1, 3, none⟩ = false := (Blk.new1 w _ _ _).drew.frozen 3
      have qn4 : (World.drew ((w.alloc (Obj.cells #[.int .i64 a1, .int .i64 b1] 23)).alloc (Obj.cells #[.int .i64 0, .int .i64 0, .int .i64 0, .int .i64 0, .int .i64 0] 36))).cell? ⟨w.heap.size + 1, 4, none⟩ = some (.int .i64 0) := (Blk.new1 w _ _ _).drew.cell 4
      have qm4 : (World.drew ((w.alloc (Obj.cells #[.int .i64 a1, .int .i64 b1] 23)).alloc (Obj.cells #[.int .i64 0, .int .i64 0, .int .i64 0, .int .i64 0, .int .i64 0] 36))).frozen? ⟨w.heap.size + 1, 4, none⟩ = false := (Blk.new1 w _ _ _).drew.frozen 4
      go_region_held3 (fun w' => w'.cell? ⟨w.heap.size, 0, none⟩ = some (.int .i64 a1) ∧ w'.cell? ⟨w.heap.size, 1, none⟩ = some (.int .i64 b1)) (first | (go_split_ands; refine ⟨?_, ?_⟩ <;> with_reducible assumption) | (go_split_ands; with_reducible refine ⟨(hc3 (w.heap.size) 0 ?_).trans ?_, (hc3 (w.heap.size) 1 ?_).trans ?_⟩ <;> (first | with_reducible assumption | (apply And.left; with_reducible assumption) | (apply And.right; with_reducible assumption) | omega | (simp; done) | (simp; omega))) | (go_split_ands; with_reducible refine ⟨(hc2 (w.heap.size) 0 ?_).trans ?_, (hc2 (w.heap.size) 1 ?_).trans ?_⟩ <;> (first | with_reducible assumption | (apply And.left; with_reducible assumption) | (apply And.right; with_reducible assumption) | omega | (simp; done) | (simp; omega))) | (go_split_ands; with_reducible refine ⟨(hc1 (w.heap.size) 0 ?_).trans ?_, (hc1 (w.heap.size) 1 ?_).trans ?_⟩ <;> (first | with_reducible assumption | (apply And.left; with_reducible assumption) | (apply And.right; with_reducible assumption) | omega | (simp; done) | (simp; omega))) | (go_split_ands; with_reducible refine ⟨(World.cell?_alloc_lt _ _ ⟨w.heap.size, 0, none⟩ ?_).trans ?_, (World.cell?_alloc_lt _ _ ⟨w.heap.size, 1, none⟩ ?_).trans ?_⟩ <;> (first | with_reducible assumption | (apply And.left; with_reducible assumption) | (apply And.right; with_reducible assumption) | omega | (simp; done) | (simp; omega))) | (go_split_ands; with_reducible refine ⟨(World.cell?_alloc_lt _ _ ⟨w.heap.size, 0, none⟩ ?_).trans ((World.cell?_alloc_lt _ (Obj.cells #[.int .i64 0, .int .i64 0, .int .i64 0, .int .i64 0, .int .i64 0] 36) ⟨w.heap.size, 0, none⟩ ?_).symm.trans ?_), (World.cell?_alloc_lt _ _ ⟨w.heap.size, 1, none⟩ ?_).trans ((World.cell?_alloc_lt _ (Obj.cells #[.int .i64 0, .int .i64 0, .int .i64 0, .int .i64 0, .int .i64 0] 36) ⟨w.heap.size, 1, none⟩ ?_).symm.trans ?_)⟩ <;> (first | with_reducible assumption | (apply And.left; with_reducible assumption) | (apply And.right; with_reducible assumption) | omega | (simp; done) | (simp; omega))) | (go_split_ands; refine ⟨?_, ?_⟩ <;> (repeat (with_reducible refine (farC (by omega)).trans ?_)) <;> (first | with_reducible assumption | (apply And.left; with_reducible assumption) | (apply And.right; with_reducible assumption))) | (trace_state; fail "KEEP")) (first | (go_at_call 21; refine (toEntryS_any _ es0 _ ?_ ?_).mono ?_; (first | with_reducible exact Hr0.out.on (Below.drew (bal (Below.refl _ _) _)) | with_reducible exact Hr0.out.on (bal (Below.drew (bal (Below.refl _ _) _)) _) | with_reducible exact Hr0.out.on (Below.drew (bal (bal (Below.refl _ _) _) _))); (omega); rintro e w1 ⟨vv1, rfl, ho1, hb1⟩; obtain ⟨hc1, hf1⟩ := bcell hb1; have hz1 := hb1.size; (try simp at hz1)) | (go_at_call 33; refine (toCurve_any _ _ _).mono ?_; rintro e w2 ⟨rfl, hb2⟩; obtain ⟨hc2, hf2⟩ := bcell hb2; have hz2 := hb2.size; (try simp at hz2)) | (go_at_call 32; refine (specFind_any _ es0 _ _ _ ?_).mono ?_; (first | with_reducible exact (Rd.of_own ho1 rfl).on (bthen (Below.refl _ _) hb2) | with_reducible exact (Rd.of_own ho1 rfl).on (bthen (bal (Below.refl _ _) _) hb2) | with_reducible exact (Rd.of_own ho1 rfl).on (bal (bthen (Below.refl _ _) hb2) _)); rintro e w3 ⟨⟨y0, b0, rfl, hy0⟩, hb3⟩; obtain ⟨hc3, hf3⟩ := bcell hb3; have hz3 := hb3.size; (try simp at hz3); (try (have hnew0 : w3.cell? ⟨w.heap.size + 1, 0, none⟩ = some (.int .i64 0) ∧ w3.cell? ⟨w.heap.size + 1, 1, none⟩ = some (.int .i64 0) ∧ w3.cell? ⟨w.heap.size + 1, 2, none⟩ = some (.int .i64 0) ∧ w3.cell? ⟨w.heap.size + 1, 3, none⟩ = some (.int .i64 0) ∧ w3.cell? ⟨w.heap.size + 1, 4, none⟩ = some (.int .i64 0) ∧ w3.frozen? ⟨w.heap.size + 1, 0, none⟩ = false ∧ w3.frozen? ⟨w.heap.size + 1, 1, none⟩ = false ∧ w3.frozen? ⟨w.heap.size + 1, 2, none⟩ = false ∧ w3.frozen? ⟨w.heap.size + 1, 3, none⟩ = false ∧ w3.frozen? ⟨w.heap.size + 1, 4, none⟩ = false := by (refine ⟨?_, ?_, ?_, ?_, ?_, ?_, ?_, ?_, ?_, ?_⟩ <;> ((first | rw [hc3 _ _ (by first | omega | (simp; done) | (simp; omega)), hc2 _ _ (by first | omega | (simp; done) | (simp; omega)), hc1 _ _ (by first | omega | (simp; done) | (simp; omega))] | rw [hf3 _ _ (by first | omega | (simp; done) | (simp; omega)), hf2 _ _ (by first | omega | (simp; done) | (simp; omega)), hf1 _ _ (by first | omega | (simp; done) | (simp; omega))]); first | with_reducible assumption | exact new_cell (by first | rfl | (simp; done)) rfl | exact new_frozen (by first | rfl | (simp; done)))))); (try have hgn0 : w.heap.size + 1 < w3.heap.size := by (first | omega | (simp at *; omega))); (try (obtain ⟨hn0_0, hn0_1, hn0_2, hn0_3, hn0_4, hn0_5, hn0_6, hn0_7, hn0_8, hn0_9⟩ := hnew0)); (try (have hnew1 : w3.cell? ⟨w1.heap.size, 0, none⟩ = some (.int .i64 0) ∧ w3.cell? ⟨w1.heap.size, 1, none⟩ = some (.int .i64 0) ∧ w3.cell? ⟨w1.heap.size, 2, none⟩ = some (.int .i64 0) ∧ w3.cell? ⟨w1.heap.size, 3, none⟩ = some (.int .i64 0) ∧ w3.cell? ⟨w1.heap.size, 4, none⟩ = some (.int .i64 0) ∧ w3.frozen? ⟨w1.heap.size, 0, none⟩ = false ∧ w3.frozen? ⟨w1.heap.size, 1, none⟩ = false ∧ w3.frozen? ⟨w1.heap.size, 2, none⟩ = false ∧ w3.frozen? ⟨w1.heap.size, 3, none⟩ = false ∧ w3.frozen? ⟨w1.heap.size, 4, none⟩ = false := by (refine ⟨?_, ?_, ?_, ?_, ?_, ?_, ?_, ?_, ?_, ?_⟩ <;> ((first | rw [hc3 _ _ (by first | omega | (simp; done) | (simp; omega)), hc2 _ _ (by first | omega | (simp; done) | (simp; omega))] | rw [hf3 _ _ (by first | omega | (simp; done) | (simp; omega)), hf2 _ _ (by first | omega | (simp; done) | (simp; omega))]); first | with_reducible assumption | exact new_cell (by first | rfl | (simp; done)) rfl | exact new_frozen (by first | rfl | (simp; done)))))); (try have hgn1 : w1.heap.size < w3.heap.size := by (first | omega | (simp at *; omega))); (try (obtain ⟨hn1_0, hn1_1, hn1_2, hn1_3, hn1_4, hn1_5, hn1_6, hn1_7, hn1_8, hn1_9⟩ := hnew1)); (try (have hnew2 : w3.cell? ⟨w2.heap.size, 0, none⟩ = some (.int .i64 0) ∧ w3.cell? ⟨w2.heap.size, 1, none⟩ = some (.int .i64 0) ∧ w3.cell? ⟨w2.heap.size, 2, none⟩ = some (.int .i64 0) ∧ w3.cell? ⟨w2.heap.size, 3, none⟩ = some (.int .i64 0) ∧ w3.cell? ⟨w2.heap.size, 4, none⟩ = some (.int .i64 0) ∧ w3.frozen? ⟨w2.heap.size, 0, none⟩ = false ∧ w3.frozen? ⟨w2.heap.size, 1, none⟩ = false ∧ w3.frozen? ⟨w2.heap.size, 2, none⟩ = false ∧ w3.frozen? ⟨w2.heap.size, 3, none⟩ = false ∧ w3.frozen? ⟨w2.heap.size, 4, none⟩ = false := by (refine ⟨?_, ?_, ?_, ?_, ?_, ?_, ?_, ?_, ?_, ?_⟩ <;> ((first | rw [hc3 _ _ (by first | omega | (simp; done) | (simp; omega))] | rw [hf3 _ _ (by first | omega | (simp; done) | (simp; omega))]); first | with_reducible assumption | exact new_cell (by first | rfl | (simp; done)) rfl | exact new_frozen (by first | rfl | (simp; done)))))); (try have hgn2 : w2.heap.size < w3.heap.size := by (first | omega | (simp at *; omega))); (try (obtain ⟨hn2_0, hn2_1, hn2_2, hn2_3, hn2_4, hn2_5, hn2_6, hn2_7, hn2_8, hn2_9⟩ := hnew2))))
      · go_wp2_with fail
        go_meet
        exact ⟨_, y0, b0, rfl, rfl, hy0, by (repeat (with_reducible first | exact Below.refl _ _ | assumption | refine bal ?_ _ | refine bst ?_ (by simp <;> omega) _ | refine Below.drew ?_ | refine bthen ?_ (by assumption))), (Blk.new _ _ _), ((((bx1.drew.on hb1).on hb2).on hb3).alloc _)⟩
      · go_wp2_with fail
        go_meet
        exact ⟨_, y0, b0, rfl, rfl, hy0, by (repeat (with_reducible first | exact Below.refl _ _ | assumption | refine bal ?_ _ | refine bst ?_ (by simp <;> omega) _ | refine Below.drew ?_ | refine bthen ?_ (by assumption))), (Blk.set5 ((Blk.new w2 36 #[.int .i64 0, .int .i64 0, .int .i64 0, .int .i64 0, .int .i64 0]).on hb3)), bfar5 ((((bx1.drew.on hb1).on hb2).alloc _).on hb3) (by first | omega | (simp; done) | (simp; omega))⟩
      · go_wp2_with fail
        go_meet
        exact ⟨_, y0, b0, rfl, rfl, hy0, by (repeat (with_reducible first | exact Below.refl _ _ | assumption | refine bal ?_ _ | refine bst ?_ (by simp <;> omega) _ | refine Below.drew ?_ | refine bthen ?_ (by assumption))), (Blk.set5 (((Blk.new w1 36 #[.int .i64 0, .int .i64 0, .int .i64 0, .int .i64 0, .int .i64 0]).on hb2).on hb3)), bfar5 ((((bx1.drew.on hb1).alloc _).on hb2).on hb3) (by first | omega | (simp; done) | (simp; omega))⟩
      · go_wp2_with fail
        go_meet
        exact ⟨_, y0, b0, rfl, rfl, hy0, by (repeat (with_reducible first | exact Below.refl _ _ | assumption | refine bal ?_ _ | refine bst ?_ (by simp <;> omega) _ | refine Below.drew ?_ | refine bthen ?_ (by assumption))), (Blk.set5 ((((Blk.new1 w _ 36 #[.int .i64 0, .int .i64 0, .int .i64 0, .int .i64 0, .int .i64 0]).drew.on hb1).on hb2).on hb3)), bfar5 (((((bx1.alloc _).drew).on hb1).on hb2).on hb3) (by first | omega | (simp; done) | (simp; omega))⟩
    obtain ⟨g, y0, b0, rfl, rfl, hy0, hbc, hw0, cx1⟩ := hcut
    replace bx1 := cx1
    have Hy0 := Lib.hid hy0; clear hy0
    have qbx1_0 : wc.cell? ⟨(w.heap.size), 0, none⟩ = some (.int .i64 a1) := bx1.cell 0
    have qbx1_1 : wc.cell? ⟨(w.heap.size), 1, none⟩ = some (.int .i64 b1) := bx1.cell 1
    have qbx1_l := bx1.lt
    have qhw0_0 : wc.cell? ⟨g, 0, none⟩ = some (.int .i64 y0.a) := hw0.cell 0
    have qhw0_1 : wc.cell? ⟨g, 1, none⟩ = some (.int .i64 y0.b) := hw0.cell 1
    have qhw0_2 : wc.cell? ⟨g, 2, none⟩ = some (.int .i64 y0.lo) := hw0.cell 2
    have qhw0_3 : wc.cell? ⟨g, 3, none⟩ = some (.int .i64 y0.hi) := hw0.cell 3
    have qhw0_4 : wc.cell? ⟨g, 4, none⟩ = some (.int .i64 y0.to) := hw0.cell 4
    have qhw0_l := hw0.lt
    go_wp2_with fail
    clear qbx1_0 qbx1_1 qbx1_l qhw0_0 qhw0_1 qhw0_2 qhw0_3 qhw0_4 qhw0_l
    refine (toEntryS_any _ es0 _ (Hr0.out.on (hbc)) (by omega)).mono ?_; rintro e w4 ⟨cp4, rfl, ho4, hb4⟩
    replace bx1 := bx1.on (hb4)
    replace hw0 := hw0.on (hb4)
    replace hb4 := bthen (hbc) hb4
    have qbx1_0 : w4.cell? ⟨(w.heap.size), 0, none⟩ = some (.int .i64 a1) := bx1.cell 0
    have qbx1_1 : w4.cell? ⟨(w.heap.size), 1, none⟩ = some (.int .i64 b1) := bx1.cell 1
    have qbx1_l := bx1.lt
    have qhw0_0 : w4.cell? ⟨g, 0, none⟩ = some (.int .i64 y0.a) := hw0.cell 0
    have qhw0_1 : w4.cell? ⟨g, 1, none⟩ = some (.int .i64 y0.b) := hw0.cell 1
    have qhw0_2 : w4.cell? ⟨g, 2, none⟩ = some (.int .i64 y0.lo) := hw0.cell 2
    have qhw0_3 : w4.cell? ⟨g, 3, none⟩ = some (.int .i64 y0.hi) := hw0.cell 3
    have qhw0_4 : w4.cell? ⟨g, 4, none⟩ = some (.int .i64 y0.to) := hw0.cell 4
    have qhw0_l := hw0.lt
    go_wp2_with fail
    clear qbx1_0 qbx1_1 qbx1_l qhw0_0 qhw0_1 qhw0_2 qhw0_3 qhw0_4 qhw0_l
    refine (toCurve_any _ _ _).mono ?_; rintro e w5 ⟨rfl, hb5⟩
    replace bx1 := bx1.on (hb5)
    replace hw0 := hw0.on (hb5)
    replace ho4 := own_below ho4 (hb5)
    replace hb5 := bthen (hb4) hb5
    have qbx1_0 : w5.cell? ⟨(w.heap.size), 0, none⟩ = some (.int .i64 a1) := bx1.cell 0
    have qbx1_1 : w5.cell? ⟨(w.heap.size), 1, none⟩ = some (.int .i64 b1) := bx1.cell 1
    have qbx1_l := bx1.lt
    have qhw0_0 : w5.cell? ⟨g, 0, none⟩ = some (.int .i64 y0.a) := hw0.cell 0
    have qhw0_1 : w5.cell? ⟨g, 1, none⟩ = some (.int .i64 y0.b) := hw0.cell 1
    have qhw0_2 : w5.cell? ⟨g, 2, none⟩ = some (.int .i64 y0.lo) := hw0.cell 2
    have qhw0_3 : w5.cell? ⟨g, 3, none⟩ = some (.int .i64 y0.hi) := hw0.cell 3
    have qhw0_4 : w5.cell? ⟨g, 4, none⟩ = some (.int .i64 y0.to) := hw0.cell 4
    have qhw0_l := hw0.lt
    go_wp2_with fail
    clear qbx1_0 qbx1_1 qbx1_l qhw0_0 qhw0_1 qhw0_2 qhw0_3 qhw0_4 qhw0_l
    refine (implFind_any _ es0 _ _ _ (Rd.of_own ho4 rfl)).mono ?_; rintro e w6 ⟨⟨y1, b1, rfl, hy1⟩, hb6⟩
    replace bx1 := bx1.on (hb6)
    replace hw0 := hw0.on (hb6)
    replace ho4 := own_below ho4 (hb6)
    replace hb6 := bthen (hb5) hb6
    obtain ⟨rfl, rfl⟩ : y0 = y1 ∧ b0 = b1 := by have := Hy0.out.symm.trans hy1; simpa using this
    clear hy1
    have qbx1_0 : w6.cell? ⟨(w.heap.size), 0, none⟩ = some (.int .i64 a1) := bx1.cell 0
    have qbx1_1 : w6.cell? ⟨(w.heap.size), 1, none⟩ = some (.int .i64 b1) := bx1.cell 1
    have qbx1_l := bx1.lt
    have qhw0_0 : w6.cell? ⟨g, 0, none⟩ = some (.int .i64 y0.a) := hw0.cell 0
    have qhw0_1 : w6.cell? ⟨g, 1, none⟩ = some (.int .i64 y0.b) := hw0.cell 1
    have qhw0_2 : w6.cell? ⟨g, 2, none⟩ = some (.int .i64 y0.lo) := hw0.cell 2
    have qhw0_3 : w6.cell? ⟨g, 3, none⟩ = some (.int .i64 y0.hi) := hw0.cell 3
    have qhw0_4 : w6.cell? ⟨g, 4, none⟩ = some (.int .i64 y0.to) := hw0.cell 4
    have qhw0_l := hw0.lt
    go_wp2_with fail
    clear qbx1_0 qbx1_1 qbx1_l qhw0_0 qhw0_1 qhw0_2 qhw0_3 qhw0_4 qhw0_l
    have hw1 : Blk _ (w6.heap.size) 36 #[.int .i64 y0.a, .int .i64 y0.b, .int .i64 y0.lo, .int .i64 y0.hi, .int .i64 y0.to] := (Blk.new (w6) 36 #[.int .i64 y0.a, .int .i64 y0.b, .int .i64 y0.lo, .int .i64 y0.hi, .int .i64 y0.to])
    refine (eqEntry_same _ _ _ _ _ _).mono ?_; rintro e w7 ⟨rfl, hb7⟩
    replace bx1 := bx1.on (bthen (bal (Below.refl _ _) _) hb7)
    replace hw0 := hw0.on (bthen (bal (Below.refl _ _) _) hb7)
    replace ho4 := own_below ho4 (bthen (bal (Below.refl _ _) _) hb7)
    replace hw1 := hw1.on hb7
    replace hb7 := bthen (bal (hb6) _) hb7
    clear hw0
    clear hw1
    have qbx1_0 : w7.cell? ⟨(w.heap.size), 0, none⟩ = some (.int .i64 a1) := bx1.cell 0
    have qbx1_1 : w7.cell? ⟨(w.heap.size), 1, none⟩ = some (.int .i64 b1) := bx1.cell 1
    have qbx1_l := bx1.lt
    go_wp2_with fail
    clear qbx1_0 qbx1_1 qbx1_l
    refine (toEntryS_any _ es0 _ (Hr0.out.on (hb7)) (by omega)).mono ?_; rintro e w8 ⟨cp8, rfl, ho8, hb8⟩
    replace bx1 := bx1.on (hb8)
    replace ho4 := own_below ho4 (hb8)
    replace hb8 := bthen (hb7) hb8
    have qbx1_0 : w8.cell? ⟨(w.heap.size), 0, none⟩ = some (.int .i64 a1) := bx1.cell 0
    have qbx1_1 : w8.cell? ⟨(w.heap.size), 1, none⟩ = some (.int .i64 b1) := bx1.cell 1
    have qbx1_l := bx1.lt
    go_wp2_with fail
    clear qbx1_0 qbx1_1 qbx1_l
    refine (eqEntryS_same _ _ es0 _ (Rd.of_own ho4 rfl) (Rd.of_own ho8 rfl)).mono ?_; rintro e w9 ⟨rfl, hb9⟩
    replace bx1 := bx1.on (hb9)
    replace ho4 := own_below ho4 (hb9)
    replace ho8 := own_below ho8 (hb9)
    replace hb9 := bthen (hb8) hb9
    clear ho8
    have qbx1_0 : w9.cell? ⟨(w.heap.size), 0, none⟩ = some (.int .i64 a1) := bx1.cell 0
    have qbx1_1 : w9.cell? ⟨(w.heap.size), 1, none⟩ = some (.int .i64 b1) := bx1.cell 1
    have qbx1_l := bx1.lt
    go_wp2
    go_ret
    exact ⟨rfl, hb9⟩
  · skip
    go_enter Try.func9, Try.ntmps9
    go_wp2_with fail
    refine (szEntryS_any _ _ _ _ _ (by omega) (by omega) (by omega)).mono ?_; rintro e z0 ⟨rfl, rfl⟩
    rw [szI_neg (by omega)]
    go_wp2
    go_ret
    exact ⟨rfl, by (repeat (with_reducible first | exact Below.refl _ _ | assumption | refine bal ?_ _ | refine bst ?_ (by simp <;> omega) _ | refine Below.drew ?_ | refine bthen ?_ (by assumption)))⟩

set_option maxRecDepth 100000 in
theorem fnExactFindEntry_lifted (os : Os) (started : os.Started) (H : Type) (enc : TypeId × Value → H) :
    ReturnsInHanded {} Try.checked os 9 .any (Rows.fnExactFindEntrySpec.pre6 enc Try.prog Try.f9 Rows.fnExactFindEntryRow.domain false) (Rows.fnExactFindEntrySpec.post enc Try.prog Try.f9 false true false false) := by
  refine returnsInHanded_of_change (C := Try.checked) own_knob started (by kernel_rfl) Try.func9
    (ChangeSpec.witness6 (enc := enc) (C := Try.checked) false ⟨#[], #[.slice none 0 0, .agg #[.int .i64 0, .int .i64 0]], []⟩ 8 (by kernel_rfl) (by kernel_rfl) (by kernel_rfl) (by kernel_rfl)) ?_
  intro W base args ds gs before hval0 hW _ _
  have hval : ∀ (j : Nat) t v, Try.f9.params[j]? = some t → args[j]? = some v → Value.okWide Try.prog W .any base t v := hval0
  have hW' := hW
  obtain ⟨p, q, hA0, hV, rfl, hfz, hnd⟩ := hW
  have hA : DataW.TrodAll enc Try.prog W 0 (fun _ => true) true Try.f9.params.toList args.toList ds p := hA0
  rw [Try.params9] at hA hval
  obtain ⟨v0, v1, d0, d1, p0, p1, rfl, rfl, rfl, h0, h1⟩ := trodAll_two hA
  obtain ⟨rfl, rfl⟩ := trodVars_none hV
  simp only [List.append_nil] at hW'
  have hlt := hW'.lt
  have hlt0 : ∀ x ∈ p0, x.block < W.heap.size := fun x hx => hlt x (by simp [hx])
  have hlt1 : ∀ x ∈ p1, x.block < W.heap.size := fun x hx => hlt x (by simp [hx])
  have k0 := h0
  obtain ⟨es0, hr0⟩ := open_ints_slice enS enMk enMk_cell Try.underlying46 (by decide) (by kernel_rfl) 5 (by kernel_rfl) (hval 0 46 v0 rfl rfl) h0
  have k1 := h1
  obtain ⟨ns1, hn1, rfl, hwf1⟩ := open_ints_agg Try.underlying23 5 (by kernel_rfl) (hval 1 23 v1 rfl rfl) h1
  obtain ⟨x1a, x1b, rfl⟩ := list2 (hn1.trans (by kernel_rfl : Try.prog.cellsOf 23 = 2))
  refine (fnExactFindEntry_walk v0 es0 x1a x1b W hr0).mono fun e W' ⟨he, hb⟩ => ?_
  subst he
  exact ⟨_, rfl, post_below hW' (trodAll_mk1 (shut_bool Try.underlying4 true)) (trodAll_mk2 (WideElems.Trod_stays laid_out (by kernel_rfl) (of_decide_eq_true (by kernel_rfl)) k0 (fun x hx => hb.same (hlt0 x hx)) (fun x hx => by simpa using hlt0 x hx)) (WideElems.Trod_stays laid_out (by kernel_rfl) (of_decide_eq_true (by kernel_rfl)) k1 (fun x hx => hb.same (hlt1 x hx)) (fun x hx => by simpa using hlt1 x hx))) rfl rfl hb⟩

theorem fnExactFindEntry_holds : Rows.FnExactFindEntrySaid :=
  OpenClaim.holds_of_wide 9 Try.f9 rfl rfl rfl rfl rfl rfl rfl ⟨rfl, rfl, rfl, rfl, rfl⟩ rfl rfl rfl rfl rfl (by kernel_rfl) Try.func9 (by kernel_rfl)
    (of_decide_eq_true (by kernel_rfl)) (by unfold Func.isWrapper; rw [if_neg (of_decide_eq_false (by kernel_rfl))]; exact ⟨rfl, rfl⟩)
    (fun os started H enc _ => fnExactFindEntry_lifted os started H enc)

end Go.Proofs.Ytbaobchmhgmliaa
