/- Own texts put together: Tasks without points: NewTask of both, and what the law asks of such tasks; Tasks without points: NewTask of both, eqTask, markTask, heldTask; The walk of the program's ParseTask; The program's readers of a journal: the records at the beginning of a text; the records of a journal; The program's records of a journal; The reference's readers: a text parted at a byte; numerals; a curve's text; The reference's readers of numerals and of a curve's text: the walks. Conditions: those of each theorem. -/
import Derived.Test.YtnhgdmhiblpknaaGreatDoorWkM13
import Derived.Test.YtnhgdmhiblpknaaGreatDoorWkM5
import Derived.Test.YtnhgdmhiblpknaaGreatDoorWkM12
import Derived.Deep.RegionHeld3
import Derived.Deep.DeepCutAuto
import Derived.Test.YtnhgdmhiblpknaaGreatDoorWkM11
namespace Go.Proofs.YtnhgdmhiblpknaaGreatDoor
section
open Go Go.RowKit

def taskB (a b m d : Int) : Bool := curveB a b && (insB m 0 200 && insB d 1 10)
def selI (k : Bool) (x : Int) : Int := if k then x else 0

theorem hits_nil (p : Value) (w : World) : Calls Tryz.prog 87 #[p, .int .i64 0, .int .i64 0] w fun r w' => r = .returned (.slice none 0 0) ∧ Below w.heap.size w w' := by
  go_enter Tryz.func87, Tryz.ntmps87
  go_wp2
  refine wp_loop_rounds 1 ?_
  rw [rounds_succ]
  go_wp2
  go_ret
  exact ⟨rfl, by (repeat (with_reducible first | exact Below.refl _ _ | assumption | refine bal ?_ _ | refine bst ?_ (by simp <;> omega) _ | refine Below.drew ?_ | refine bthen ?_ (by assumption)))⟩
theorem equal_nil (w : World) : Calls Tryz.prog 128 #[.slice none 0 0, .slice none 0 0] w fun r w' => r = .returned (.bool true) ∧ Below w.heap.size w w' := by
  go_enter Tryz.func128, Tryz.ntmps128
  go_wp2
  refine wp_loop_rounds 1 ?_
  rw [rounds_succ]
  go_wp2
  go_ret
  exact ⟨rfl, by (repeat (with_reducible first | exact Below.refl _ _ | assumption | refine bal ?_ _ | refine bst ?_ (by simp <;> omega) _ | refine Below.drew ?_ | refine bthen ?_ (by assumption)))⟩
theorem total_any (g : Nat) (a b m d : Int) (w : World) (h : Blk w g 51 #[.int .i64 a, .int .i64 b, .int .i64 m, .int .i64 d, .int .i64 0, .slice none 0 0]) (hm : 0 ≤ m ∧ m ≤ 200) (hd : 1 ≤ d ∧ d ≤ 10) :
    Calls Tryz.prog 86 #[.pointer (some ⟨g, 0, none⟩)] w fun r w' => r = .returned (.int .i64 (d * (2 * m + 1))) ∧ Below w.heap.size w w' := by
  have q2 := h.cell 2
  have q3 := h.cell 3
  have ql := h.lt
  have hmul := mul_bd d (2 * m + 1) 10 401 (by omega) (by omega) (by omega) (by omega)
  have hw1 : IntKind.i64.wrap (2 * m) = 2 * m := by rw [IntKind.wrap_i64]; omega
  have hw2 : IntKind.i64.wrap (2 * m + 1) = 2 * m + 1 := by rw [IntKind.wrap_i64]; omega
  have hw3 : IntKind.i64.wrap (d * (2 * m + 1)) = d * (2 * m + 1) := by rw [IntKind.wrap_i64]; omega
  clear h hmul
  go_enter Tryz.func86, Tryz.ntmps86
  go_wp2
  refine wp_region_tame (by kernel_rfl) (by kernel_rfl) (fun T _ W hT => ?_)
  have hx := hT.cell
  repeat (go_big_quiet_step (fail))
  refine wpQuiet_nil ?_
  intro t
  clear hx
  go_wp2
  go_ret
  exact ⟨rfl, hT.below t⟩
set_option maxRecDepth 20000 in
set_option maxHeartbeats 800000 in
theorem isTask_new (g : Nat) (a b m d : Int) (w : World) (h : Blk w g 51 #[.int .i64 a, .int .i64 b, .int .i64 m, .int .i64 d, .int .i64 0, .slice none 0 0]) :
    Calls Tryz.prog 79 #[.pointer (some ⟨g, 0, none⟩)] w fun r w' => r = .returned (.bool (taskB a b m d)) ∧ Below w.heap.size w w' := by
  have q0 := h.cell 0
  have q1 := h.cell 1
  have q2 := h.cell 2
  have q3 := h.cell 3
  have q4 := h.cell 4
  have q5 := h.cell 5
  have ql := h.lt
  have Hb := Lib.hid h
  have hv : taskB a b m d = (curveB a b && (insB m 0 200 && insB d 1 10)) := rfl
  have Hv := Lib.hid hv; clear hv h
  have inB : ∀ (n lo hi : Int) (w' : World), Calls Tryz.prog 80 #[.int .i64 n, .int .i64 lo, .int .i64 hi] w' fun r w'' => r = .returned (.bool (insB n lo hi)) ∧ Below w'.heap.size w' w'' := fun n lo hi w' => (inside_any n lo hi w').mono (fun _ _ h => ⟨h.1, h.2 ▸ Below.refl _ _⟩)
  have InB := Lib.hid inB; clear inB
  have HC := Lib.hid (fun w' => isCurve_any a b w')
  have HM := Lib.hid (fun w' => InB.out m 0 200 w')
  have HD := Lib.hid (fun w' => InB.out d 1 10 w')
  cases hc : curveB a b
  all_goals rw [hc] at HC
  · go_enter Tryz.func79, Tryz.ntmps79
    go_wp2
    refine wp_region_tame (by kernel_rfl) (by kernel_rfl) (fun T _ W hT => ?_)
    have hx := hT.cell
    repeat (go_big_quiet_step ((first | (go_at_call 123; exact hT.call (HC.out _)))))
    refine wpQuiet_nil ?_
    intro t
    clear hx
    go_wp2
    go_ret
    exact ⟨by rw [Hv.out, hc]; rfl, hT.below t⟩
  · cases hm : insB m 0 200
    all_goals rw [hm] at HM
    · go_enter Tryz.func79, Tryz.ntmps79
      go_wp2
      refine wp_region_tame (by kernel_rfl) (by kernel_rfl) (fun T _ W hT => ?_)
      have hx := hT.cell
      repeat (go_big_quiet_step ((first | (go_at_call 123; exact hT.call (HC.out _)) | (go_at_call 80; with_reducible exact hT.call (HM.out _)))))
      refine wpQuiet_nil ?_
      intro t
      clear hx
      go_wp2
      go_ret
      exact ⟨by rw [Hv.out, hc, hm]; rfl, hT.below t⟩
    · cases hd : insB d 1 10
      all_goals rw [hd] at HD
      · go_enter Tryz.func79, Tryz.ntmps79
        go_wp2
        refine wp_region_tame (by kernel_rfl) (by kernel_rfl) (fun T _ W hT => ?_)
        have hx := hT.cell
        repeat (go_big_quiet_step ((first | (go_at_call 123; exact hT.call (HC.out _)) | (go_at_call 80; with_reducible exact hT.call (HM.out _)) | (go_at_call 80; with_reducible exact hT.call (HD.out _)))))
        refine wpQuiet_nil ?_
        intro t
        clear hx
        go_wp2
        go_ret
        exact ⟨by rw [Hv.out, hc, hm, hd]; rfl, hT.below t⟩
      · have Hmd := Lib.hid (And.intro (insB_true hm) (insB_true hd))
        have hpos : insB 0 0 (d * (2 * m + 1)) = true := by
          have h1 := insB_true hm
          have h2 := insB_true hd
          exact insB_mk (by omega) (Int.mul_nonneg (by omega) (by omega))
        have htot : ∀ (w' : World), Below w.heap.size w w' → Calls Tryz.prog 86 #[.pointer (some ⟨g, 0, none⟩)] w' fun r w'' => r = .returned (.int .i64 (d * (2 * m + 1))) ∧ Below w'.heap.size w' w'' := fun w' hb' => total_any g a b m d w' (Hb.out.on hb') Hmd.out.1 Hmd.out.2
        have Htot := Lib.hid htot; clear htot
        generalize d * (2 * m + 1) = tt at hpos Htot
        have HT := Lib.hid (fun w' => InB.out 0 0 tt w')
        rw [hpos] at HT
        go_enter Tryz.func79, Tryz.ntmps79
        go_wp2
        refine wp_region_tame (by kernel_rfl) (by kernel_rfl) (fun T _ W hT => ?_)
        have hx := hT.cell
        repeat (go_big_quiet_step ((first | (go_at_call 123; exact hT.call (HC.out _)) | (go_at_call 80; with_reducible exact hT.call (HM.out _)) | (go_at_call 80; with_reducible exact hT.call (HD.out _)) | (go_at_call 80; with_reducible exact hT.call (HT.out _)) | (go_at_call 86; exact hT.call (Htot.out _ (hT.below _))) | (go_at_call 87; exact hT.call (hits_nil _ _)) | (go_at_call 128; exact hT.call (equal_nil _)))))
        refine wpQuiet_nil ?_
        intro t
        clear hx
        go_wp2
        go_ret
        exact ⟨by rw [Hv.out, hc, hm, hd]; rfl, hT.below t⟩
set_option maxHeartbeats 1600000 in
theorem skBounds_new (a b m d : Int) (w : World) : Calls Tryz.prog 102 #[.agg #[.int .i64 a, .int .i64 b, .int .i64 m, .int .i64 d, .int .i64 0, .slice none 0 0]] w fun r w' => r = .returned (.bool (taskB a b m d)) ∧ Below w.heap.size w w' := by
  have hbox := Blk.new w 51 #[.int .i64 a, .int .i64 b, .int .i64 m, .int .i64 d, .int .i64 0, .slice none 0 0]
  have hbA : Below w.heap.size w (w.alloc (Obj.cells #[.int .i64 a, .int .i64 b, .int .i64 m, .int .i64 d, .int .i64 0, .slice none 0 0] 51)) := bal (Below.refl _ _) _
  have hv : taskB a b m d = (curveB a b && (insB m 0 200 && insB d 1 10)) := rfl
  have Hv := Lib.hid hv; clear hv
  have Hbox := Lib.hid hbox; clear hbox
  go_enter Tryz.func102, Tryz.ntmps102
  go_wp2_with fail
  refine (ecGood_any _ _ _).mono ?_; rintro e w1 ⟨rfl, hb1⟩
  have hbox1 := Hbox.out.on hb1
  have q0 := hbox1.cell 0
  have q1 := hbox1.cell 1
  have q2 := hbox1.cell 2
  have q3 := hbox1.cell 3
  have q4 := hbox1.cell 4
  have q5 := hbox1.cell 5
  have ql := hbox1.lt
  have hb1' := bthen hbA hb1
  clear hbox1
  cases hc : curveB a b
  · go_wp2
    go_ret
    exact ⟨by rw [Hv.out, hc]; rfl, hb1'⟩
  · go_wp2_with fail
    refine (l1In_any _ _ _ _).mono ?_; rintro e w2 ⟨rfl, rfl⟩
    cases hm : insB m 0 200
    · go_wp2
      go_ret
      exact ⟨by rw [Hv.out, hc, hm]; rfl, hb1'⟩
    · go_wp2_with fail
      refine (l1In_any _ _ _ _).mono ?_; rintro e w2 ⟨rfl, rfl⟩
      go_wp2
      go_ret
      exact ⟨by rw [Hv.out, hc, hm]; simp, hb1'⟩
end
section
open Go Go.RowKit

def newT (a b m d : Int) : Int × Int × Int × Int × Bool := if taskB a b m d then (a, b, m, d, true) else (0, 0, 0, 0, false)
set_option maxRecDepth 8000 in
set_option maxHeartbeats 1600000 in
theorem specNew_any (a b m d : Int) (w : World) : Calls Tryz.prog 49 #[.agg #[.int .i64 a, .int .i64 b], .int .i64 m, .int .i64 d] w fun r w' =>
    (∃ (A B M D : Int) (k : Bool), r = .returned (.tuple #[.agg #[.int .i64 A, .int .i64 B, .int .i64 M, .int .i64 D, .int .i64 0, .slice none 0 0], .bool k]) ∧ newT a b m d = (A, B, M, D, k)) ∧ Below w.heap.size w w' := by
  have hbA : Below w.heap.size w (((w.alloc (Obj.cells #[.int .i64 a, .int .i64 b] 25)).alloc (Obj.cells #[.int .i64 0, .int .i64 0, .int .i64 0, .int .i64 0, .int .i64 0, .slice none 0 0] 51)).alloc (Obj.cells #[.int .i64 a, .int .i64 b, .int .i64 m, .int .i64 d, .int .i64 0, .slice none 0 0] 51)) := bal (bal (bal (Below.refl _ _) _) _) _
  have hR : Blk (((w.alloc (Obj.cells #[.int .i64 a, .int .i64 b] 25)).alloc (Obj.cells #[.int .i64 0, .int .i64 0, .int .i64 0, .int .i64 0, .int .i64 0, .slice none 0 0] 51)).alloc (Obj.cells #[.int .i64 a, .int .i64 b, .int .i64 m, .int .i64 d, .int .i64 0, .slice none 0 0] 51)) (w.heap.size + 1) 51 #[.int .i64 0, .int .i64 0, .int .i64 0, .int .i64 0, .int .i64 0, .slice none 0 0] := (Blk.new1 w _ _ _).alloc _
  have hT : Blk (((w.alloc (Obj.cells #[.int .i64 a, .int .i64 b] 25)).alloc (Obj.cells #[.int .i64 0, .int .i64 0, .int .i64 0, .int .i64 0, .int .i64 0, .slice none 0 0] 51)).alloc (Obj.cells #[.int .i64 a, .int .i64 b, .int .i64 m, .int .i64 d, .int .i64 0, .slice none 0 0] 51)) (w.heap.size + 2) 51 #[.int .i64 a, .int .i64 b, .int .i64 m, .int .i64 d, .int .i64 0, .slice none 0 0] := by
    have := Blk.new ((w.alloc (Obj.cells #[.int .i64 a, .int .i64 b] 25)).alloc (Obj.cells #[.int .i64 0, .int .i64 0, .int .i64 0, .int .i64 0, .int .i64 0, .slice none 0 0] 51)) 51 #[.int .i64 a, .int .i64 b, .int .i64 m, .int .i64 d, .int .i64 0, .slice none 0 0]
    rw [World.size_alloc, World.size_alloc] at this
    exact this
  have HbA := Lib.hid hbA; clear hbA
  have HR := Lib.hid hR; clear hR
  have HT := Lib.hid hT
  go_enter Tryz.func49, Tryz.ntmps49
  go_wp2_with fail
  refine (skBounds_new a b m d _).mono ?_
  rintro e w1 ⟨rfl, hb1⟩
  have hR1 := HR.out.on hb1
  have hT1 := HT.out.on hb1
  have hb := bthen HbA.out hb1
  clear hT hb1
  have r0 := hR1.cell 0
  have r1 := hR1.cell 1
  have r2 := hR1.cell 2
  have r3 := hR1.cell 3
  have r4 := hR1.cell 4
  have r5 := hR1.cell 5
  have rl := hR1.lt
  have t0 := hT1.cell 0
  have t1 := hT1.cell 1
  have t2 := hT1.cell 2
  have t3 := hT1.cell 3
  have t4 := hT1.cell 4
  have t5 := hT1.cell 5
  have tl := hT1.lt
  have z0 := hR1.frozen 0
  have z1 := hR1.frozen 1
  have z2 := hR1.frozen 2
  have z3 := hR1.frozen 3
  have z4 := hR1.frozen 4
  have z5 := hR1.frozen 5
  clear hR1 hT1
  have HbB := Lib.hid hb; clear hb
  cases hk : taskB a b m d
  · have Hk := Lib.hid hk; clear hk
    go_wp2
    exact bodyPost_ret (v := .tuple #[.agg #[.int .i64 0, .int .i64 0, .int .i64 0, .int .i64 0, .int .i64 0, .slice none 0 0], .bool false]) (by simp [results, Tryz.results49, go_sem, r0, r1, r2, r3, r4, r5]) rfl ⟨⟨0, 0, 0, 0, false, rfl, by unfold newT; rw [Hk.out]; rfl⟩, by repeat (with_reducible first | exact HbB.out | (refine bst ?_ (by first | omega | (simp; done) | (simp; omega)) _))⟩
  · have Hk := Lib.hid hk; clear hk
    go_wp2
    exact bodyPost_ret (v := .tuple #[.agg #[.int .i64 a, .int .i64 b, .int .i64 m, .int .i64 d, .int .i64 0, .slice none 0 0], .bool true]) (by simp [results, Tryz.results49, go_sem, r0, r1, r2, r3, r4, r5]) rfl ⟨⟨a, b, m, d, true, rfl, by unfold newT; rw [Hk.out]; rfl⟩, by repeat (with_reducible first | exact HbB.out | (refine bst ?_ (by first | omega | (simp; done) | (simp; omega)) _))⟩
set_option maxRecDepth 8000 in
set_option maxHeartbeats 1600000 in
theorem implNew_any (a b m d : Int) (w : World) : Calls Tryz.prog 48 #[.agg #[.int .i64 a, .int .i64 b], .int .i64 m, .int .i64 d] w fun r w' =>
    (∃ (A B M D : Int) (k : Bool), r = .returned (.tuple #[.agg #[.int .i64 A, .int .i64 B, .int .i64 M, .int .i64 D, .int .i64 0, .slice none 0 0], .bool k]) ∧ newT a b m d = (A, B, M, D, k)) ∧ Below w.heap.size w w' := by
  have hbA : Below w.heap.size w (((w.alloc (Obj.cells #[.int .i64 a, .int .i64 b] 25)).alloc (Obj.cells #[.int .i64 0, .int .i64 0, .int .i64 0, .int .i64 0, .int .i64 0, .slice none 0 0] 51)).alloc (Obj.cells #[.int .i64 a, .int .i64 b, .int .i64 m, .int .i64 d, .int .i64 0, .slice none 0 0] 51)) := bal (bal (bal (Below.refl _ _) _) _) _
  have hR : Blk (((w.alloc (Obj.cells #[.int .i64 a, .int .i64 b] 25)).alloc (Obj.cells #[.int .i64 0, .int .i64 0, .int .i64 0, .int .i64 0, .int .i64 0, .slice none 0 0] 51)).alloc (Obj.cells #[.int .i64 a, .int .i64 b, .int .i64 m, .int .i64 d, .int .i64 0, .slice none 0 0] 51)) (w.heap.size + 1) 51 #[.int .i64 0, .int .i64 0, .int .i64 0, .int .i64 0, .int .i64 0, .slice none 0 0] := (Blk.new1 w _ _ _).alloc _
  have hT : Blk (((w.alloc (Obj.cells #[.int .i64 a, .int .i64 b] 25)).alloc (Obj.cells #[.int .i64 0, .int .i64 0, .int .i64 0, .int .i64 0, .int .i64 0, .slice none 0 0] 51)).alloc (Obj.cells #[.int .i64 a, .int .i64 b, .int .i64 m, .int .i64 d, .int .i64 0, .slice none 0 0] 51)) (w.heap.size + 2) 51 #[.int .i64 a, .int .i64 b, .int .i64 m, .int .i64 d, .int .i64 0, .slice none 0 0] := by
    have := Blk.new ((w.alloc (Obj.cells #[.int .i64 a, .int .i64 b] 25)).alloc (Obj.cells #[.int .i64 0, .int .i64 0, .int .i64 0, .int .i64 0, .int .i64 0, .slice none 0 0] 51)) 51 #[.int .i64 a, .int .i64 b, .int .i64 m, .int .i64 d, .int .i64 0, .slice none 0 0]
    rw [World.size_alloc, World.size_alloc] at this
    exact this
  have HbA := Lib.hid hbA; clear hbA
  have HR := Lib.hid hR; clear hR
  have HT := Lib.hid hT
  go_enter Tryz.func48, Tryz.ntmps48
  go_wp2_with fail
  refine (isTask_new _ a b m d _ hT).mono ?_
  rintro e w1 ⟨rfl, hb1⟩
  have hR1 := HR.out.on hb1
  have hT1 := HT.out.on hb1
  have hb := bthen HbA.out hb1
  clear hT hb1
  have r0 := hR1.cell 0
  have r1 := hR1.cell 1
  have r2 := hR1.cell 2
  have r3 := hR1.cell 3
  have r4 := hR1.cell 4
  have r5 := hR1.cell 5
  have rl := hR1.lt
  have t0 := hT1.cell 0
  have t1 := hT1.cell 1
  have t2 := hT1.cell 2
  have t3 := hT1.cell 3
  have t4 := hT1.cell 4
  have t5 := hT1.cell 5
  have tl := hT1.lt
  have z0 := hR1.frozen 0
  have z1 := hR1.frozen 1
  have z2 := hR1.frozen 2
  have z3 := hR1.frozen 3
  have z4 := hR1.frozen 4
  have z5 := hR1.frozen 5
  clear hR1 hT1
  have HbB := Lib.hid hb; clear hb
  cases hk : taskB a b m d
  · have Hk := Lib.hid hk; clear hk
    go_wp2
    exact bodyPost_ret (v := .tuple #[.agg #[.int .i64 0, .int .i64 0, .int .i64 0, .int .i64 0, .int .i64 0, .slice none 0 0], .bool false]) (by simp [results, Tryz.results48, go_sem, r0, r1, r2, r3, r4, r5]) rfl ⟨⟨0, 0, 0, 0, false, rfl, by unfold newT; rw [Hk.out]; rfl⟩, by repeat (with_reducible first | exact HbB.out | (refine bst ?_ (by first | omega | (simp; done) | (simp; omega)) _))⟩
  · have Hk := Lib.hid hk; clear hk
    go_wp2
    exact bodyPost_ret (v := .tuple #[.agg #[.int .i64 a, .int .i64 b, .int .i64 m, .int .i64 d, .int .i64 0, .slice none 0 0], .bool true]) (by simp [results, Tryz.results48, go_sem, r0, r1, r2, r3, r4, r5]) rfl ⟨⟨a, b, m, d, true, rfl, by unfold newT; rw [Hk.out]; rfl⟩, by repeat (with_reducible first | exact HbB.out | (refine bst ?_ (by first | omega | (simp; done) | (simp; omega)) _))⟩

end
section
open Go Go.RowKit

theorem splW_size {s : ByteArray} {j : Nat} (h : j < (splW s).length) : (splW s)[j].size ≤ s.size := splitB_size _ _ _ _ (List.getElem_mem h)
theorem split_gen (s : ByteArray) (w : World) (hs : s.size ≤ 100000000) (h : Env w) : Calls Tryz.prog 67 #[.string s, .string ⟨#[32]⟩] w fun e w' => e = .returned (.slice (some ⟨w.heap.size, 0, none⟩) (splW s).length (splW s).length) ∧ Blk w' w.heap.size 9 ((splW s).map Value.string).toArray ∧ Below w.heap.size w w' := by
  refine (Tryz.strings_Split_shaped s ⟨#[32]⟩ w h.sh (by omega) (by decide)).mono fun e w' hp => ?_
  obtain ⟨he, rfl⟩ := hp
  rw [splW_length]
  exact ⟨he, Blk.new w _ _, bal (Below.refl _ _) _⟩
theorem implNew_det {a b m d A B M D : Int} {k : Bool} (h : newT a b m d = (A, B, M, D, k)) (w : World) : Calls Tryz.prog 48 #[.agg #[.int .i64 a, .int .i64 b], .int .i64 m, .int .i64 d] w fun r w' => r = .returned (.tuple #[.agg #[.int .i64 A, .int .i64 B, .int .i64 M, .int .i64 D, .int .i64 0, .slice none 0 0], .bool k]) ∧ Below w.heap.size w w' :=
  (implNew_any a b m d w).mono (fun r w' hp => by
    obtain ⟨⟨A', B', M', D', k', he, h'⟩, hb⟩ := hp
    rw [h] at h'
    simp only [Prod.mk.injEq] at h'
    obtain ⟨rfl, rfl, rfl, rfl, rfl⟩ := h'
    exact ⟨he, hb⟩)
theorem newT_no {a b m d A B M D : Int} (h : newT a b m d = (A, B, M, D, false)) : tkB a b m d = false := by
  unfold newT at h
  cases hk : taskB a b m d
  · exact hk
  · rw [hk] at h; simp at h
theorem newT_yes {a b m d A B M D : Int} (h : newT a b m d = (A, B, M, D, true)) : tkB a b m d = true ∧ a = A ∧ b = B ∧ m = M ∧ d = D := by
  unfold newT at h
  cases hk : taskB a b m d
  · rw [hk] at h; simp at h
  · rw [hk] at h; simp at h
    exact ⟨hk, h.1, h.2.1, h.2.2.1, h.2.2.2⟩
set_option linter.unusedSimpArgs false in
set_option maxRecDepth 20000 in
set_option maxHeartbeats 4000000 in
theorem implParse_any (s : ByteArray) (w : World) (hs : s.size ≤ 2000000) (h : Env w) :
    Calls Tryz.prog 44 #[.string s] w fun r w' => TkRet (psV s) w.heap.size r w' ∧ Below w.heap.size w w' := by
  obtain ⟨i0, hi, hz0, hz1, hz2⟩ := info_parts infoIntR
  have Hn5 := Lib.hid (fun hn => psV_none (psI_len (s := s) hn))
  have Hnw := Lib.hid (fun j hj hn => psV_none (psI_word (s := s) (j := j) hj hn))
  have Hvl := Lib.hid (fun a b m d t hw => psI_vals (s := s) (a := a) (b := b) (m := m) (d := d) (t := t) hw)
  have hwl : (splW s).length ≤ 2000001 := by
    rw [splW_length]
    have := Lib.countB_le ⟨#[32]⟩ (by decide) _ s (Nat.le_refl _)
    omega
  have HR := Lib.hid (Blk.new w 51 #[.int .i64 0, .int .i64 0, .int .i64 0, .int .i64 0, .int .i64 0, .slice none 0 0])
  have hA := bal (Below.refl w.heap.size w) (Obj.cells #[.int .i64 0, .int .i64 0, .int .i64 0, .int .i64 0, .int .i64 0, .slice none 0 0] 51)
  have He := Lib.hid (h.on hA)
  have HbA := Lib.hid hA
  have Hwsz := Lib.hid (fun j (hj : j < (splW s).length) => Nat.le_trans (splW_size hj) hs)
  have Hw := Lib.hid h
  clear h hA
  go_enter Tryz.func44, Tryz.ntmps44
  go_wp2_with fail
  refine (split_gen s _ (by omega) He.out).mono ?_; rintro e w2 ⟨rfl, hB2, hb2⟩
  have HW2 := Lib.hid hB2; have HR2 := Lib.hid (HR.out.on hb2); have He2 := Lib.hid (He.out.on hb2); have Hb2 := Lib.hid (bthen HbA.out hb2); clear hb2 hB2
  obtain ⟨gw, hgw⟩ : ∃ g, (w.alloc (Obj.cells #[.int .i64 0, .int .i64 0, .int .i64 0, .int .i64 0, .int .i64 0, .slice none 0 0] 51)).heap.size = g := ⟨_, rfl⟩
  rw [hgw] at HW2 ⊢
  clear hgw
  go_wp2
  go_loopw [14, 4] (fun i o wr => ∃ (j : Nat) (xs : List Int), j ≤ (splW s).length ∧ i = .int .i64 j ∧ xs.length = j ∧ Hid (okNums ((splW s).take j) xs) ∧ Below w2.heap.size w2 wr ∧ Hid (wr.ownsRow w2.heap.size 3 1 o xs.length (xs.map (Value.int .i64)))) (fun i _ _ => (splW s).length - (intOf i).toNat)
  case atStart => exact ⟨0, [], Nat.zero_le _, rfl, rfl, Lib.hid rfl, Below.refl _ _, Lib.hid ⟨rfl, Or.inl ⟨rfl, rfl⟩⟩⟩
  case round =>
    obtain ⟨j, xs, hj, rfl, hxj, Hok, hb, Hown⟩ := hrel
    have HRr := Lib.hid (HR2.out.on hb)
    have HWr := Lib.hid (HW2.out.on hb)
    have Her := Lib.hid (He2.out.on hb)
    have Hbr := Lib.hid (bthen Hb2.out hb)
    by_cases hlt : j < (splW s).length
    · have hlo := HWr.out.lt
      have f0 : wr.cell? ⟨gw, j, none⟩ = some (.string (splW s)[j]) := by
        rw [HWr.out.cell j, List.getElem?_toArray, List.getElem?_map, List.getElem?_eq_getElem hlt]; rfl
      have Hsz := Lib.hid (Hwsz.out j hlt)
      have Hnj := Lib.hid (Hnw.out j hlt)
      have Hsn := Lib.hid (fun v hv => okNums_snoc (v := v) Hok.out hlt hv)
      generalize (splW s)[j] = x at f0 Hsz Hnj Hsn
      have hi0 : (0 : Int) ≤ (j : Int) := by omega
      have hi1 : (j : Int) < ((splW s).length : Int) := by omega
      go_wp2_with fail
      refine (atoi_any x _ (by have := Hsz.out; omega) Her.out).mono ?_; rintro e w3 ⟨hat, hb3⟩
      have Hown3 := Lib.hid (own_below Hown.out hb3)
      have HR3 := Lib.hid (HRr.out.on hb3)
      have Hb23 := Lib.hid (bthen hb hb3)
      have Hb3 := Lib.hid (bthen Hbr.out hb3)
      clear f0 hlo hb3
      rcases hat with ⟨v, hv, v1, v2, rfl⟩ | ⟨hno, v, t, N, rfl⟩
      · have Hsv := Lib.hid (Hsn.out v hv)
        clear hv
        go_wp2_with (at_builtin; refine wpList_append_own _ rfl _ _ 34 rfl w2.heap.size 3 i0 (.int .i64 0) 1 8 Tryz.underlying34 hi hz0 hz1 hz2 rfl (by decide) _ _ _ rfl (Hown3.out.alloc _) ⟨w3.heap.size, 0, none⟩ 1 1 [.int .i64 v] rfl rfl ?c1 ?c2 ?c3 ?c4 ?c5 ?_)
        case c1 =>
          intro j u hj
          match j, hj with
          | 0, hj => simp at hj; subst hj; exact (Blk.new w3 _ _).cell 0
        case c2 => intro u hu; simp at hu; subst hu; rfl
        case c3 => unfold maxLen; omega
        case c4 => omega
        case c5 => have := Hb23.out.size; simp; omega
        intro v6 w6 hown6 hgrow _
        have Hb6 := Lib.hid (Below.grown (bal Hb23.out _) hgrow (by have := Hb23.out.size; simp; omega) (fun j hj => (Hown3.out.lt j hj).1))
        have Hown6 := Lib.hid (show w6.ownsRow w2.heap.size 3 1 v6 (xs ++ [v]).length ((xs ++ [v]).map (Value.int .i64)) by rw [List.map_append, List.length_append, hxj]; exact hown6)
        clear hown6 hgrow
        go_wp2
        go_roundw
        case rel => exact ⟨j + 1, xs ++ [v], by omega, by go_num, by rw [List.length_append, hxj]; rfl, Hsv, Hb6.out, Hown6⟩
        case measure => simp [intOf]; omega
      · have HN := Lib.hid (Hnj.out hno)
        clear hno
        have r0 := HR3.out.cell 0
        have r1 := HR3.out.cell 1
        have r2 := HR3.out.cell 2
        have r3 := HR3.out.cell 3
        have r4 := HR3.out.cell 4
        have r5 := HR3.out.cell 5
        simp at r0 r1 r2 r3 r4 r5
        have rl := HR3.out.lt
        have rf := HR3.out.frozen
        go_wp2
        clear r0 r1 r2 r3 r4 r5 rf
        have HR6 := HR3.out.set6 (b0 := .int .i64 0) (b1 := .int .i64 0) (b2 := .int .i64 0) (b3 := .int .i64 0) (b4 := .int .i64 0) (b5 := .slice none 0 0)
        have k0 := HR6.cell 0
        have k1 := HR6.cell 1
        have k2 := HR6.cell 2
        have k3 := HR6.cell 3
        have k4 := HR6.cell 4
        have k5 := HR6.cell 5
        simp at k0 k1 k2 k3 k4 k5
        exact bodyPost_ret (v := .tuple #[.agg #[.int .i64 0, .int .i64 0, .int .i64 0, .int .i64 0, .int .i64 0, .slice none 0 0], .bool false]) (by simp [results, Tryz.results44, go_sem, k0, k1, k2, k3, k4, k5]) rfl ⟨TkRet.zero HN.out, bst (bst (bst (bst (bst (bst (Hb3.out) (Nat.le_refl _) _) (Nat.le_refl _) _) (Nat.le_refl _) _) (Nat.le_refl _) _) (Nat.le_refl _) _) (Nat.le_refl _) _⟩
    · obtain rfl : j = (splW s).length := by omega
      have Hok' := Lib.hid (show okNums (splW s) xs by have := Hok.out; rwa [List.take_length] at this)
      clear Hok
      by_cases h5 : xs.length = 5
      · obtain ⟨x0, x1, x2, x3, x4, rfl⟩ := list5r h5
        have Hps := Lib.hid (Hvl.out x0 x1 x2 x3 x4 Hok'.out)
        clear h5 Hok' Hn5 Hnw Hvl Hwsz hwl hj
        obtain ⟨g2, cap, rfl, hbg, hlg⟩ := Hown.out.form (by simp)
        have c0 := Hown.out.cellAt 0 (by simp)
        have c1 := Hown.out.cellAt 1 (by simp)
        have c2 := Hown.out.cellAt 2 (by simp)
        have c3 := Hown.out.cellAt 3 (by simp)
        have c4 := Hown.out.cellAt 4 (by simp)
        simp at c0 c1 c2 c3 c4
        have Hxj := Lib.hid hxj; clear hxj
        have hcap : 5 ≤ cap := by
          rcases Hown.out.2 with ⟨h', _⟩ | ⟨g', cap', cur, h', hb', hg', hnc, -⟩
          · cases h'
          · cases h'; exact hnc
        obtain ⟨A, B, M, D, ok, Hnt⟩ : ∃ A B M D ok, Hid (newT x0 x1 x2 x3 = (A, B, M, D, ok)) := ⟨_, _, _, _, _, Lib.hid rfl⟩
        have Hnew := Lib.hid (implNew_det Hnt.out)
        have C4 := Lib.hid c4; clear c4
        have HS : Hid (∀ w', Below wr.heap.size wr w' → (w'.cell? ⟨g2, 0, none⟩ = some (.int .i64 x0) ∧ w'.cell? ⟨g2, 1, none⟩ = some (.int .i64 x1) ∧ w'.cell? ⟨g2, 2, none⟩ = some (.int .i64 x2) ∧ w'.cell? ⟨g2, 3, none⟩ = some (.int .i64 x3) ∧ Below wr.heap.size wr w')) := Lib.hid (fun w' hw => ⟨(hw.cell (p := ⟨g2, 0, none⟩) hlg).trans c0, (hw.cell (p := ⟨g2, 1, none⟩) hlg).trans c1, (hw.cell (p := ⟨g2, 2, none⟩) hlg).trans c2, (hw.cell (p := ⟨g2, 3, none⟩) hlg).trans c3, hw⟩)
        go_wp2_with fail
        go_cut [9, 10] (fun p o wx => ∃ (q : Nat), p = .pointer (some ⟨q, 0, none⟩) ∧ o = .bool ok ∧ Blk wx q 51 #[.int .i64 A, .int .i64 B, .int .i64 M, .int .i64 D, .int .i64 0, .slice none 0 0] ∧ wr.heap.size ≤ q ∧ Below wr.heap.size wr wx)
        case first =>
          go_region_held3 (fun w' => w'.cell? ⟨g2, 0, none⟩ = some (.int .i64 x0) ∧ w'.cell? ⟨g2, 1, none⟩ = some (.int .i64 x1) ∧ w'.cell? ⟨g2, 2, none⟩ = some (.int .i64 x2) ∧ w'.cell? ⟨g2, 3, none⟩ = some (.int .i64 x3) ∧ Below wr.heap.size wr w')
            ((go_split_ands; refine HS.out _ ?_; repeat (first | (with_reducible assumption) | (with_reducible exact Below.refl _ _) | (with_reducible refine Below.drew ?_) | (with_reducible refine bal ?_ _) | (with_reducible refine bst ?_ (by first | omega | (simp; done) | (simp; omega)) _) | (with_reducible refine bthen ?_ (by with_reducible assumption)))))
            ((first | (go_at_call 48; (with_reducible refine (Hnew.out _).mono ?_); rintro e w3 ⟨rfl, hb3⟩; (try (have hz3 : Blk w3 wr.heap.size 51 #[.int .i64 0, .int .i64 0, .int .i64 0, .int .i64 0, .int .i64 0, .slice none 0 0] := (Blk.drew (Blk.new wr 51 #[.int .i64 0, .int .i64 0, .int .i64 0, .int .i64 0, .int .i64 0, .slice none 0 0])).on hb3; have zc0 := hz3.cell 0; have zc1 := hz3.cell 1; have zc2 := hz3.cell 2; have zc3 := hz3.cell 3; have zc4 := hz3.cell 4; have zc5 := hz3.cell 5; have zf0 := hz3.frozen 0; have zf1 := hz3.frozen 1; have zf2 := hz3.frozen 2; have zf3 := hz3.frozen 3; have zf4 := hz3.frozen 4; have zf5 := hz3.frozen 5; have zl := hz3.lt; simp at zc0 zc1 zc2 zc3 zc4 zc5; have Hz3 := Lib.hid hz3; clear hz3)))))
          all_goals
            go_wp2_with fail
            go_meet
            have hsz3 : Hid (wr.drew.heap.size ≤ w3.heap.size → wr.heap.size ≤ w3.heap.size) := Lib.hid (fun h => h)
            first
              | with_reducible exact ⟨_, rfl, rfl, Blk.new _ _ _, hsz3.out hb3.size, by repeat (with_reducible first | exact Below.refl _ _ | refine Below.drew ?_ | refine bal ?_ _ | refine bthen ?_ hb3)⟩
              | exact ⟨_, rfl, rfl, Blk.set6 Hz3.out, Nat.le_refl _, by repeat (with_reducible first | exact Below.refl _ _ | refine Below.drew ?_ | refine bal ?_ _ | (refine bst ?_ (by first | omega | (simp; done) | (simp; omega)) _) | refine bthen ?_ hb3)⟩
        obtain ⟨q, rfl, rfl, hBq, hq, hbc⟩ := hcut
        have HR3 := Lib.hid (HRr.out.on hbc); have Hb3 := Lib.hid (bthen Hbr.out hbc)
        have He3 := Lib.hid (Her.out.on hbc)
        have c4 := (hbc.cell (p := ⟨g2, 4, none⟩) hlg).trans C4.out
        have hlg3 := Nat.lt_of_lt_of_le hlg hbc.size
        have HBq := Lib.hid hBq
        clear HS c0 c1 c2 c3 hBq hbc C4
        have hqw : Hid (w.heap.size ≠ q) := Lib.hid (by have := HRr.out.lt; omega)
        have Hq0 : Hid (w.heap.size ≤ q) := Lib.hid (by have := HRr.out.lt; omega)
        clear hq Hown HRr HWr Her Hbr hbg hb
        cases ok
        · have HN := Lib.hid (psV_none (show psI s = none by rw [Hps.out, if_neg (fun hh => by have h9 := hh.1; unfold tk5 at h9; rw [newT_no Hnt.out] at h9; cases h9)]))
          go_wp2
          refine wp_region_tame (by kernel_rfl) (by kernel_rfl) (fun T _ W hT => ?_)
          have hx := hT.cell
          repeat (go_big_quiet_step (fail))
          refine wpQuiet_nil ?_
          intro t
          clear hx
          have hbt := hT.below t
          have HR4 := Lib.hid (HR3.out.on hbt); have Hb4 := Lib.hid (bthen Hb3.out hbt); clear hbt
          have r0 := HR4.out.cell 0
          have r1 := HR4.out.cell 1
          have r2 := HR4.out.cell 2
          have r3 := HR4.out.cell 3
          have r4 := HR4.out.cell 4
          have r5 := HR4.out.cell 5
          simp at r0 r1 r2 r3 r4 r5
          have rl := HR4.out.lt
          have rf := HR4.out.frozen
          go_wp2
          clear r0 r1 r2 r3 r4 r5 rf
          have HR6 := HR4.out.set6 (b0 := .int .i64 0) (b1 := .int .i64 0) (b2 := .int .i64 0) (b3 := .int .i64 0) (b4 := .int .i64 0) (b5 := .slice none 0 0)
          have k0 := HR6.cell 0
          have k1 := HR6.cell 1
          have k2 := HR6.cell 2
          have k3 := HR6.cell 3
          have k4 := HR6.cell 4
          have k5 := HR6.cell 5
          simp at k0 k1 k2 k3 k4 k5
          exact bodyPost_ret (v := .tuple #[.agg #[.int .i64 0, .int .i64 0, .int .i64 0, .int .i64 0, .int .i64 0, .slice none 0 0], .bool false]) (by simp [results, Tryz.results44, go_sem, k0, k1, k2, k3, k4, k5]) rfl ⟨TkRet.zero HN.out, bst (bst (bst (bst (bst (bst (Hb4.out) (Nat.le_refl _) _) (Nat.le_refl _) _) (Nat.le_refl _) _) (Nat.le_refl _) _) (Nat.le_refl _) _) (Nat.le_refl _) _⟩
        · obtain ⟨hk, rfl, rfl, rfl, rfl⟩ := newT_yes Hnt.out
          have Htk := Lib.hid (tkB_tk hk)
          have Htot := Lib.hid (fun (w' : World) (hb : Below wc.heap.size wc w') => tkTotal_any q x0 x1 x2 x3 0 (.slice none 0 0) w' (HBq.out.on hb) Htk.out)
          have inB : ∀ (n lo hi : Int) (w' : World), Calls Tryz.prog 80 #[.int .i64 n, .int .i64 lo, .int .i64 hi] w' fun r w'' => r = .returned (.bool (insB n lo hi)) ∧ Below w'.heap.size w' w'' := fun n lo hi w' => (inside_any n lo hi w').mono (fun _ _ h => ⟨h.1, h.2 ▸ Below.refl _ _⟩)
          have HT := Lib.hid (fun w' => inB x4 0 (totI x2 x3) w')
          clear inB
          cases hin : insB x4 0 (totI x2 x3)
          all_goals rw [hin] at HT
          · have HN := Lib.hid (psV_none (show psI s = none by rw [Hps.out, if_neg (fun hh => by have h9 := hh.1; unfold tk5 at h9; rw [hin] at h9; simp at h9)]))
            clear hin hk
            go_wp2
            refine wp_region_tame (by kernel_rfl) (by kernel_rfl) (fun T _ W hT => ?_)
            have hx := hT.cell
            repeat (go_big_quiet_step ((first | (go_at_call 80; with_reducible exact hT.call (HT.out _)) | (go_at_call 86; exact hT.call (Htot.out _ (hT.below _))))))
            refine wpQuiet_nil ?_
            intro t
            clear hx
            have hbt := hT.below t
            have HR4 := Lib.hid (HR3.out.on hbt); have Hb4 := Lib.hid (bthen Hb3.out hbt); clear hbt
            have r0 := HR4.out.cell 0
            have r1 := HR4.out.cell 1
            have r2 := HR4.out.cell 2
            have r3 := HR4.out.cell 3
            have r4 := HR4.out.cell 4
            have r5 := HR4.out.cell 5
            simp at r0 r1 r2 r3 r4 r5
            have rl := HR4.out.lt
            have rf := HR4.out.frozen
            go_wp2
            clear r0 r1 r2 r3 r4 r5 rf
            have HR6 := HR4.out.set6 (b0 := .int .i64 0) (b1 := .int .i64 0) (b2 := .int .i64 0) (b3 := .int .i64 0) (b4 := .int .i64 0) (b5 := .slice none 0 0)
            have k0 := HR6.cell 0
            have k1 := HR6.cell 1
            have k2 := HR6.cell 2
            have k3 := HR6.cell 3
            have k4 := HR6.cell 4
            have k5 := HR6.cell 5
            simp at k0 k1 k2 k3 k4 k5
            exact bodyPost_ret (v := .tuple #[.agg #[.int .i64 0, .int .i64 0, .int .i64 0, .int .i64 0, .int .i64 0, .slice none 0 0], .bool false]) (by simp [results, Tryz.results44, go_sem, k0, k1, k2, k3, k4, k5]) rfl ⟨TkRet.zero HN.out, bst (bst (bst (bst (bst (bst (Hb4.out) (Nat.le_refl _) _) (Nat.le_refl _) _) (Nat.le_refl _) _) (Nat.le_refl _) _) (Nat.le_refl _) _) (Nat.le_refl _) _⟩
          · have Hin := Lib.hid (insB_true hin)
            have h5k := Lib.hid (show tk5 x0 x1 x2 x3 x4 = true by unfold tk5; rw [hk, hin]; rfl)
            clear hin hk
            go_wp2
            refine wp_region_tame (by kernel_rfl) (by kernel_rfl) (fun T _ W hT => ?_)
            have hx := hT.cell
            repeat (go_big_quiet_step ((first | (go_at_call 80; with_reducible exact hT.call (HT.out _)) | (go_at_call 86; exact hT.call (Htot.out _ (hT.below _))))))
            refine wpQuiet_nil ?_
            intro t
            clear hx
            have hbt := hT.below t
            have HR4 := Lib.hid (HR3.out.on hbt); have HBq4 := Lib.hid (HBq.out.on hbt); have Hb4 := Lib.hid (bthen Hb3.out hbt)
            have c5 := (hbt.cell (p := ⟨g2, 4, none⟩) hlg3).trans c4
            clear hbt c4 hlg3 hT
            skip
            go_wp2_with fail
            refine (doneTo_any q x0 x1 x2 x3 0 x4 (.slice none 0 0) _ HBq4.out Htk.out Hin.out).mono ?_; rintro e w5 ⟨⟨v5, rfl, hown5⟩, hb5⟩
            obtain ⟨A5, c5, rfl⟩ := own_form hown5
            have HR5 := Lib.hid (HR4.out.on hb5); have HBq5 := Lib.hid (HBq4.out.on hb5); have Hb5 := Lib.hid (bthen Hb4.out hb5); have Hql := Lib.hid HBq4.out.lt; have Hrl := Lib.hid HR4.out.lt
            have Hown5 := Lib.hid hown5; clear hown5 hb5
            skip
            have b0 := HBq5.out.cell 0
            have b1 := HBq5.out.cell 1
            have b2 := HBq5.out.cell 2
            have b3 := HBq5.out.cell 3
            have b4 := HBq5.out.cell 4
            have b5 := HBq5.out.cell 5
            simp at b0 b1 b2 b3 b4 b5
            have bl := HBq5.out.lt
            have bf := HBq5.out.frozen
            go_wp2_with fail
            clear b0 b1 b2 b3 b4 b5 bf
            have HBq6 := HBq5.out.set6 (b0 := .int .i64 x0) (b1 := .int .i64 x1) (b2 := .int .i64 x2) (b3 := .int .i64 x3) (b4 := .int .i64 x4) (b5 := .slice A5 (hitsZ x0 x1 x2 0 x4).length c5)
            have HR6 := Lib.hid (((((((HR5.out).far (p := ⟨q, 0, none⟩) hqw.out (.int .i64 x0)).far (p := ⟨q, 1, none⟩) hqw.out (.int .i64 x1)).far (p := ⟨q, 2, none⟩) hqw.out (.int .i64 x2)).far (p := ⟨q, 3, none⟩) hqw.out (.int .i64 x3)).far (p := ⟨q, 4, none⟩) hqw.out (.int .i64 x4)).far (p := ⟨q, 5, none⟩) hqw.out (.slice A5 (hitsZ x0 x1 x2 0 x4).length c5))
            have Hb6 := Lib.hid (bst (bst (bst (bst (bst (bst (Hb5.out) (p := ⟨q, 0, none⟩) Hq0.out (.int .i64 x0)) (p := ⟨q, 1, none⟩) Hq0.out (.int .i64 x1)) (p := ⟨q, 2, none⟩) Hq0.out (.int .i64 x2)) (p := ⟨q, 3, none⟩) Hq0.out (.int .i64 x3)) (p := ⟨q, 4, none⟩) Hq0.out (.int .i64 x4)) (p := ⟨q, 5, none⟩) Hq0.out (.slice A5 (hitsZ x0 x1 x2 0 x4).length c5))
            have Hown6 := Lib.hid (show World.ownsRow (World.setCell (World.setCell (World.setCell (World.setCell (World.setCell (World.setCell w5 ⟨q, 0, none⟩ (.int .i64 x0)) ⟨q, 1, none⟩ (.int .i64 x1)) ⟨q, 2, none⟩ (.int .i64 x2)) ⟨q, 3, none⟩ (.int .i64 x3)) ⟨q, 4, none⟩ (.int .i64 x4)) ⟨q, 5, none⟩ (.slice A5 (hitsZ x0 x1 x2 0 x4).length c5)) _ 117 3 _ _ _ from own_far (g := q) Hown5.out (by repeat (first | (with_reducible exact grefl _ _) | (with_reducible refine only_cell ?_) | (with_reducible refine only_drew ?_))) Hql.out)
            clear Hown5 Hb5
            refine (text_any q x0 x1 x2 x3 x4 _ _ HBq6 Htk.out (by have h6 := (tk5_small h5k.out).2.2.2.2; exact h6) (Hw.out.on Hb6.out).tab).mono ?_; rintro e w7 ⟨rfl, hb7⟩
            have HR7 := Lib.hid (HR6.out.on hb7); have HBq7 := Lib.hid (HBq6.on hb7); have Hb7 := Lib.hid (bthen Hb6.out hb7); have Hown7 := Lib.hid (own_below Hown6.out hb7)
            clear hb7 HBq6 Hown6 Hb6 HR6 HBq5
            by_cases htx : nText [x0, x1, x2, x3, x4] = s
            · have HV := Lib.hid (psV_some (show psI s = some (x0, x1, x2, x3, x4) by rw [Hps.out, if_pos ⟨h5k.out, by rw [htx]⟩]))
              have hq : ((nText [x0, x1, x2, x3, x4]).toList == s.toList) = true := by rw [htx]; simp
              clear htx
              have b0 := HBq7.out.cell 0
              have b1 := HBq7.out.cell 1
              have b2 := HBq7.out.cell 2
              have b3 := HBq7.out.cell 3
              have b4 := HBq7.out.cell 4
              have b5 := HBq7.out.cell 5
              simp at b0 b1 b2 b3 b4 b5
              have bl := HBq7.out.lt
              have r0 := HR7.out.cell 0
              have r1 := HR7.out.cell 1
              have r2 := HR7.out.cell 2
              have r3 := HR7.out.cell 3
              have r4 := HR7.out.cell 4
              have r5 := HR7.out.cell 5
              simp at r0 r1 r2 r3 r4 r5
              have rl := HR7.out.lt
              have rf := HR7.out.frozen
              go_wp2
              clear r0 r1 r2 r3 r4 r5 rf b0 b1 b2 b3 b4 b5
              have HR6 := HR7.out.set6 (b0 := .int .i64 x0) (b1 := .int .i64 x1) (b2 := .int .i64 x2) (b3 := .int .i64 x3) (b4 := .int .i64 x4) (b5 := .slice A5 (hitsZ x0 x1 x2 0 x4).length c5)
              have k0 := HR6.cell 0
              have k1 := HR6.cell 1
              have k2 := HR6.cell 2
              have k3 := HR6.cell 3
              have k4 := HR6.cell 4
              have k5 := HR6.cell 5
              simp at k0 k1 k2 k3 k4 k5
              exact bodyPost_ret (v := .tuple #[.agg #[.int .i64 x0, .int .i64 x1, .int .i64 x2, .int .i64 x3, .int .i64 x4, .slice A5 (hitsZ x0 x1 x2 0 x4).length c5], .bool true]) (by simp [results, Tryz.results44, go_sem, k0, k1, k2, k3, k4, k5]) rfl ⟨TkRet.mk HV.out (own_far (g := w.heap.size) Hown7.out (by repeat (first | (with_reducible exact grefl _ _) | (with_reducible refine only_cell ?_) | (with_reducible refine only_drew ?_))) Hrl.out) (Nat.le_of_lt Hrl.out), bst (bst (bst (bst (bst (bst (Hb7.out) (Nat.le_refl _) _) (Nat.le_refl _) _) (Nat.le_refl _) _) (Nat.le_refl _) _) (Nat.le_refl _) _) (Nat.le_refl _) _⟩
            · have HN := Lib.hid (psV_none (show psI s = none by rw [Hps.out, if_neg (fun hh => htx (bytes_ext hh.2))]))
              have hq : ((nText [x0, x1, x2, x3, x4]).toList == s.toList) = false := beq_eq_false_iff_ne.2 (fun e => htx (bytes_inj e))
              clear htx
              have r0 := HR7.out.cell 0
              have r1 := HR7.out.cell 1
              have r2 := HR7.out.cell 2
              have r3 := HR7.out.cell 3
              have r4 := HR7.out.cell 4
              have r5 := HR7.out.cell 5
              simp at r0 r1 r2 r3 r4 r5
              have rl := HR7.out.lt
              have rf := HR7.out.frozen
              go_wp2
              clear r0 r1 r2 r3 r4 r5 rf
              have HR6 := HR7.out.set6 (b0 := .int .i64 0) (b1 := .int .i64 0) (b2 := .int .i64 0) (b3 := .int .i64 0) (b4 := .int .i64 0) (b5 := .slice none 0 0)
              have k0 := HR6.cell 0
              have k1 := HR6.cell 1
              have k2 := HR6.cell 2
              have k3 := HR6.cell 3
              have k4 := HR6.cell 4
              have k5 := HR6.cell 5
              simp at k0 k1 k2 k3 k4 k5
              exact bodyPost_ret (v := .tuple #[.agg #[.int .i64 0, .int .i64 0, .int .i64 0, .int .i64 0, .int .i64 0, .slice none 0 0], .bool false]) (by simp [results, Tryz.results44, go_sem, k0, k1, k2, k3, k4, k5]) rfl ⟨TkRet.zero HN.out, bst (bst (bst (bst (bst (bst (Hb7.out) (Nat.le_refl _) _) (Nat.le_refl _) _) (Nat.le_refl _) _) (Nat.le_refl _) _) (Nat.le_refl _) _) (Nat.le_refl _) _⟩
      · have HN := Lib.hid (Hn5.out (by omega))
        obtain ⟨A9, c9, rfl⟩ := own_form Hown.out
        have hx5 : ¬ ((xs.length : Int) = 5) := by omega
        have hx6 : ((xs.length : Int) == 5) = false := beq_eq_false_iff_ne.2 hx5
        have hx7 : ((xs.length : Int) != 5) = true := by simp [bne, hx6]
        have r0 := HRr.out.cell 0
        have r1 := HRr.out.cell 1
        have r2 := HRr.out.cell 2
        have r3 := HRr.out.cell 3
        have r4 := HRr.out.cell 4
        have r5 := HRr.out.cell 5
        simp at r0 r1 r2 r3 r4 r5
        have rl := HRr.out.lt
        have rf := HRr.out.frozen
        go_wp2
        clear r0 r1 r2 r3 r4 r5 rf
        have HR6 := HRr.out.set6 (b0 := .int .i64 0) (b1 := .int .i64 0) (b2 := .int .i64 0) (b3 := .int .i64 0) (b4 := .int .i64 0) (b5 := .slice none 0 0)
        have k0 := HR6.cell 0
        have k1 := HR6.cell 1
        have k2 := HR6.cell 2
        have k3 := HR6.cell 3
        have k4 := HR6.cell 4
        have k5 := HR6.cell 5
        simp at k0 k1 k2 k3 k4 k5
        exact bodyPost_ret (v := .tuple #[.agg #[.int .i64 0, .int .i64 0, .int .i64 0, .int .i64 0, .int .i64 0, .slice none 0 0], .bool false]) (by simp [results, Tryz.results44, go_sem, k0, k1, k2, k3, k4, k5]) rfl ⟨TkRet.zero HN.out, bst (bst (bst (bst (bst (bst (Hbr.out) (Nat.le_refl _) _) (Nat.le_refl _) _) (Nat.le_refl _) _) (Nat.le_refl _) _) (Nat.le_refl _) _) (Nat.le_refl _) _⟩
end
section
open Go Go.RowKit

theorem rc4 (x : Rc) : rcS.flat [x] = [.int .i64 x.a, .int .i64 x.b, .int .i64 x.lo, .int .i64 x.hi] := rfl
theorem ext_data (s : ByteArray) (a b : Nat) : (s.extract a b).data.toList = (s.data.toList.drop a).take (b - a) := Lib.extract_data s a b
theorem ext_all (s : ByteArray) (a : Nat) : (s.extract a s.size).data.toList = s.data.toList.drop a := by
  rw [ext_data, List.take_of_length_le]
  rw [List.length_drop]; exact Nat.le_refl _
theorem ext_line (s : ByteArray) (p n : Nat) : s.extract p (p + n + 1) = ⟨((s.data.toList.drop p).take (n + 1)).toArray⟩ := by
  apply bytes_ext
  rw [ext_data, show p + n + 1 - p = n + 1 by omega]
theorem openF_stop {F : Nat} {k : Int} {l rest : List UInt8} {xs : List Rc} {p : Nat} {G : Nat} {j : Int} (h : openF F k l = (xs ++ (openF G j rest).1, p + (openF G j rest).2)) (h0 : openF G j rest = ([], 0)) : openF F k l = (xs, p) := by
  rw [h0] at h
  simpa using h
theorem openF_on {F : Nat} {k : Int} {l rest : List UInt8} {xs : List Rc} {p : Nat} {G : Nat} {j : Int} {r : Rc} {m : Nat} (h : openF F k l = (xs ++ (openF (G + 1) j rest).1, p + (openF (G + 1) j rest).2)) (hm : Lib.indexByte rest 10 = m) (hr : rdL j ⟨(rest.take (m + 1)).toArray⟩ = some r) :
    openF F k l = ((xs ++ [r]) ++ (openF G (j + 1) (rest.drop (m + 1))).1, (p + (m + 1)) + (openF G (j + 1) (rest.drop (m + 1))).2) := by
  have h1 : (Lib.indexByte rest 10).toNat = m := by omega
  have h2 := openF_step (F := G) (k := j) (l := rest) (r := r) (by omega) (by rw [h1]; exact hr)
  rw [h1] at h2
  rw [h, h2]
  simp [Nat.add_assoc]
end
section
open Go Go.RowKit

/-- What both hand back: the records, if the journal is valid. -/
def jrV (D P : ByteArray) : List Rc := if jrOk D P = true then jrRecs D P else []
theorem jrV_ok {D P : ByteArray} (h : jrOk D P = true) : jrV D P = jrRecs D P := by unfold jrV; rw [if_pos h]
theorem jrV_no {D P : ByteArray} (h : jrOk D P = false) : jrV D P = [] := by unfold jrV; rw [h]; rfl
theorem rc_one (ys : List Rc) : ∀ u ∈ rcS.flat ys, u.oneCell' = true := by
  intro u hu
  obtain ⟨r, -, hr⟩ := List.mem_flatMap.1 hu
  have hr2 : u ∈ rcS.flat [r] := by simpa [Shape.flat] using hr
  rw [rc4] at hr2
  simp at hr2
  rcases hr2 with rfl | rfl | rfl | rfl <;> rfl
theorem own_two {w : World} {b : Nat} {t : TypeId} {z n c : Nat} {A : Option Addr} {xs : List Value} (h : w.ownsRow b t z (.slice A n c) n xs) : (n = 0 ∧ A = none ∧ c = 0) ∨ ∃ g, A = some ⟨g, 0, none⟩ ∧ b ≤ g ∧ g < w.heap.size := by
  rcases h.2 with ⟨h', hn⟩ | ⟨g, cap, cur, h', hb, hg, -⟩
  · cases h'; exact Or.inl ⟨hn, rfl, rfl⟩
  · cases h'; exact Or.inr ⟨g, rfl, hb, (Array.getElem?_eq_some_iff.1 hg).1⟩
theorem Addr.add_zero_block (g j : Nat) : (⟨g, 0, none⟩ : Addr).add j = ⟨g, j, none⟩ := by
  unfold Addr.add
  by_cases h : j = 0 <;> simp [h]
end
section
open Go Go.RowKit

def bsv (l : List UInt8) : Value := .string ⟨l.toArray⟩
theorem ext_mk (s : ByteArray) (a b : Nat) : s.extract a b = ⟨((s.data.toList.drop a).take (b - a)).toArray⟩ := bytes_ext (ext_data s a b)
theorem ext_mk_all (s : ByteArray) (a : Nat) : s.extract a s.size = ⟨(s.data.toList.drop a).toArray⟩ := bytes_ext (ext_all s a)
theorem get_data (s : ByteArray) (i : Nat) (h : i < s.size) : s.data.toList[i]? = some s[i] := Lib.data_getElem? s i h
theorem drop_at (s : ByteArray) (f i : Nat) (h : f ≤ i) (hi : i < s.size) : s.data.toList.drop f = (s.data.toList.drop f).take (i - f) ++ s[i] :: s.data.toList.drop (i + 1) := by
  have h1 : (s.data.toList.drop f).drop (i - f) = s[i] :: s.data.toList.drop (i + 1) := by
    rw [List.drop_drop, show f + (i - f) = i by omega]
    exact List.drop_eq_getElem_cons hi
  rw [← h1, List.take_append_drop]
theorem take_at (s : ByteArray) (f i : Nat) (h : f ≤ i) (hi : i < s.size) : (s.data.toList.drop f).take (i + 1 - f) = (s.data.toList.drop f).take (i - f) ++ [s[i]] := by
  rw [show i + 1 - f = (i - f) + 1 by omega, List.take_add_one]
  rw [List.getElem?_drop, show f + (i - f) = i by omega, get_data s i hi]
  rfl
theorem spl_step {b : UInt8} {D : List (List UInt8)} {s : ByteArray} {f i : Nat} (h : spl b s.data.toList = D ++ spl b (s.data.toList.drop f)) (hf : f ≤ i) (hi : i < s.size) (hn : b ∉ (s.data.toList.drop f).take (i - f)) (hc : s[i] = b) :
    spl b s.data.toList = (D ++ [(s.data.toList.drop f).take (i - f)]) ++ spl b (s.data.toList.drop (i + 1)) := by
  have h1 := spl_here b (s.data.toList.drop (i + 1)) _ hn
  rw [← hc, ← drop_at s f i hf hi, hc] at h1
  rw [h, h1, List.append_assoc]
  rfl
theorem spl_keep {b : UInt8} {s : ByteArray} {f i : Nat} (hf : f ≤ i) (hi : i < s.size) (hn : b ∉ (s.data.toList.drop f).take (i - f)) (hc : s[i] ≠ b) : b ∉ (s.data.toList.drop f).take (i + 1 - f) := by
  rw [take_at s f i hf hi]
  intro h
  rcases List.mem_append.1 h with h | h
  · exact hn h
  · simp at h; exact hc h.symm
theorem spl_end {b : UInt8} {D : List (List UInt8)} {s : ByteArray} {f : Nat} (h : spl b s.data.toList = D ++ spl b (s.data.toList.drop f)) (hn : b ∉ (s.data.toList.drop f).take (s.size - f)) : spl b s.data.toList = D ++ [s.data.toList.drop f] := by
  rw [List.take_of_length_le (by rw [List.length_drop]; exact Nat.le_refl _)] at hn
  rw [h, spl_none b _ hn]
theorem spl_bound {b : UInt8} {D : List (List UInt8)} {s : ByteArray} {r : List (List UInt8)} (h : spl b s.data.toList = D ++ r) : D.length ≤ s.size + 1 := by
  have h1 := spl_len b s.data.toList
  rw [h, List.length_append] at h1
  have : s.data.toList.length = s.size := rfl
  omega
set_option maxRecDepth 8000 in
set_option maxHeartbeats 4000000 in
theorem l1Split_any (s : ByteArray) (b : UInt8) (w : World) (hs : s.size ≤ 4000000) :
    Calls Tryz.prog 72 #[.string s, .int .u8 b.toNat] w fun e w' => (∃ v : Value, e = .returned v ∧ w'.ownsRow w.heap.size 9 1 v (spl b s.data.toList).length ((spl b s.data.toList).map bsv)) ∧ Below w.heap.size w w' := by
  obtain ⟨i0, hi, hz0, hz1, hz2⟩ := info_parts infoStr
  go_enter Tryz.func72, Tryz.ntmps72
  go_wp2
  go_loopw [7, 6, 5] (fun i f o wr => ∃ (k q : Nat) (D : List (List UInt8)), k ≤ s.size ∧ q ≤ k ∧ i = .int .i64 k ∧ f = .int .i64 q ∧ Hid (spl b s.data.toList = D ++ spl b (s.data.toList.drop q)) ∧ Hid (b ∉ (s.data.toList.drop q).take (k - q)) ∧ Below w.heap.size w wr ∧ Hid (wr.ownsRow w.heap.size 9 1 o D.length (D.map bsv))) (fun i _ _ _ => s.size - (intOf i).toNat)
  case atStart => exact ⟨0, 0, [], Nat.zero_le _, Nat.le_refl _, rfl, rfl, Lib.hid (by simp), Lib.hid (by simp), Below.refl _ _, Lib.hid ⟨rfl, Or.inl ⟨rfl, rfl⟩⟩⟩
  case round =>
    obtain ⟨k, q, D, hk, hq, rfl, rfl, Hd, Hn, hb, Hown⟩ := hrel
    obtain ⟨A9, c9, rfl⟩ := own_form Hown.out
    have hDl := spl_bound Hd.out
    have h2 : (0 : Int) ≤ (k : Int) := by omega
    have h3 : (0 : Int) ≤ (q : Int) := by omega
    have h4 : (q : Int) ≤ (k : Int) := by omega
    by_cases hlt : k < s.size
    · have h1 : (k : Int) < (s.size : Int) := by omega
      have h5 : (k : Int) ≤ (s.size : Int) := by omega
      by_cases hc : s[k] = b
      · have hc1 : ((s[k].toNat : Int) == (b.toNat : Int)) = true := by rw [hc]; simp
        have Hnew := Lib.hid (spl_step Hd.out hq hlt Hn.out hc)
        have Hext := Lib.hid (ext_mk s q k)
        clear hc
        go_wp2_with (at_builtin; refine wpList_append_own _ rfl _ _ 91 rfl w.heap.size 9 i0 (.string ⟨#[]⟩) 1 16 Tryz.underlying91 hi hz0 hz1 hz2 rfl (by decide) _ _ _ rfl (Hown.out.alloc _) ⟨wr.heap.size, 0, none⟩ 1 1 [.string (s.extract q k)] rfl rfl ?c1 ?c2 ?c3 ?c4 ?c5 ?_)
        case c1 =>
          intro j u hj
          match j, hj with
          | 0, hj => simp at hj; subst hj; exact (Blk.new wr _ _).cell 0
        case c2 => intro u hu; simp at hu; subst hu; rfl
        case c3 => unfold maxLen; omega
        case c4 => omega
        case c5 => have := hb.size; simp; omega
        intro v' w3 hown' hgrow _
        have hbn : Below w.heap.size w w3 := Below.grown (bal hb _) hgrow (by have := hb.size; simp; omega) (fun j hj => (Hown.out.lt j hj).1)
        have Hown' := Lib.hid (show w3.ownsRow w.heap.size 9 1 v' (D ++ [(s.data.toList.drop q).take (k - q)]).length ((D ++ [(s.data.toList.drop q).take (k - q)]).map bsv) by
          rw [List.map_append, List.length_append, List.map_singleton, bsv, ← Hext.out]; exact hown')
        clear hown' hgrow
        go_wp2
        go_roundw
        case rel => exact ⟨k + 1, k + 1, _, by omega, Nat.le_refl _, by go_num, by go_num, Hnew, Lib.hid (by simp), hbn, Hown'⟩
        case measure => simp [intOf]; omega
      · have hc1 : ((s[k].toNat : Int) == (b.toNat : Int)) = false := by
          refine beq_eq_false_iff_ne.2 (fun e => hc (UInt8.toNat_inj.1 (by omega)))
        have Hnew := Lib.hid (spl_keep hq hlt Hn.out hc)
        clear hc
        go_wp2
        go_roundw
        case rel => exact ⟨k + 1, q, D, by omega, by omega, by go_num, rfl, Hd, Hnew, hb, Hown⟩
        case measure => simp [intOf]; omega
    · obtain rfl : k = s.size := by omega
      have h5 : (q : Int) ≤ (s.size : Int) := by omega
      have Hext := Lib.hid (ext_mk_all s q)
      have Hfin := Lib.hid (spl_end Hd.out Hn.out)
      go_wp2_with (at_builtin; refine wpList_append_own _ rfl _ _ 91 rfl w.heap.size 9 i0 (.string ⟨#[]⟩) 1 16 Tryz.underlying91 hi hz0 hz1 hz2 rfl (by decide) _ _ _ rfl (Hown.out.alloc _) ⟨wr.heap.size, 0, none⟩ 1 1 [.string (s.extract q s.size)] rfl rfl ?c1 ?c2 ?c3 ?c4 ?c5 ?_)
      case c1 =>
        intro j u hj
        match j, hj with
        | 0, hj => simp at hj; subst hj; exact (Blk.new wr _ _).cell 0
      case c2 => intro u hu; simp at hu; subst hu; rfl
      case c3 => unfold maxLen; omega
      case c4 => omega
      case c5 => have := hb.size; simp; omega
      intro v' w3 hown' hgrow _
      have hbn : Below w.heap.size w w3 := Below.grown (bal hb _) hgrow (by have := hb.size; simp; omega) (fun j hj => (Hown.out.lt j hj).1)
      have Hown' := Lib.hid (show w3.ownsRow w.heap.size 9 1 v' (spl b s.data.toList).length ((spl b s.data.toList).map bsv) by
        rw [Hfin.out, List.map_append, List.length_append, List.map_singleton, bsv, ← Hext.out]; exact hown')
      clear hown' hgrow
      go_wp2
      go_ret
      exact ⟨⟨_, rfl, Hown'.out⟩, hbn⟩
end
section
open Go Go.RowKit

theorem pow5 {k : Nat} (h : k ≤ 5) : (10 : Int) ^ k ≤ 100000 := by
  match k, h with
  | 0, _ => decide
  | 1, _ => decide
  | 2, _ => decide
  | 3, _ => decide
  | 4, _ => decide
  | 5, _ => decide
theorem rdD_no {s : ByteArray} {k : Nat} {acc : Int} (hk : k < s.size) (h : (s[k].toNat : Int) < 48 ∨ 57 < (s[k].toNat : Int)) : rdD (s.data.toList.drop k) acc = -1 := by
  rw [show s.data.toList.drop k = s[k] :: s.data.toList.drop (k + 1) from List.drop_eq_getElem_cons hk]
  unfold rdD
  rw [if_pos]
  rw [UInt8.lt_iff_toNat_lt, UInt8.lt_iff_toNat_lt]
  show s[k].toNat < 48 ∨ 57 < s[k].toNat
  omega
theorem rdD_on {s : ByteArray} {k : Nat} {acc : Int} (hk : k < s.size) (h1 : 48 ≤ (s[k].toNat : Int)) (h2 : (s[k].toNat : Int) ≤ 57) : rdD (s.data.toList.drop k) acc = rdD (s.data.toList.drop (k + 1)) (10 * acc + ((s[k].toNat : Int) - 48)) := by
  rw [show s.data.toList.drop k = s[k] :: s.data.toList.drop (k + 1) from List.drop_eq_getElem_cons hk]
  conv => lhs; unfold rdD
  rw [if_neg]
  · congr 1; omega
  rw [UInt8.lt_iff_toNat_lt, UInt8.lt_iff_toNat_lt]
  show ¬ (s[k].toNat < 48 ∨ 57 < s[k].toNat)
  omega
set_option maxRecDepth 8000 in
set_option maxHeartbeats 4000000 in
theorem l1Read_any (s : ByteArray) (w : World) (hs : s.size ≤ 4000000) :
    Calls Tryz.prog 101 #[.string s] w fun e w' => e = .returned (.int .i64 (rdN s.data.toList)) ∧ w = w' := by
  have hlen : s.data.toList.length = s.size := rfl
  cases hin : insB s.size 1 6
  · have Hv := Lib.hid (show rdN s.data.toList = -1 by
      unfold rdN; rw [if_pos (Or.inl (by rw [hlen]; intro hh; have := insB_mk (n := (s.size : Int)) (lo := 1) (hi := 6) (by omega) (by omega); rw [this] at hin; cases hin))])
    rw [Hv.out]
    go_enter Tryz.func101, Tryz.ntmps101
    go_wp2_with fail
    refine (l1In_any _ _ _ _).mono ?_; rintro r w2 ⟨rfl, rfl⟩
    rw [hin]
    go_wp2
    go_ret
    exact ⟨rfl, rfl⟩
  · obtain ⟨hs1, hs2⟩ := insB_true hin
    have h0 : 0 < s.size := by omega
    have hd0 := get_data s 0 h0
    by_cases hz : s[0] = 48 ∧ 1 < s.size
    · obtain ⟨hz, hl⟩ := hz
      have hz1 : ((s[0].toNat : Int) == 48) = true := by rw [hz]; rfl
      have Hv := Lib.hid (show rdN s.data.toList = -1 by
        unfold rdN; rw [if_pos (Or.inr ⟨by rw [hd0, hz], by rw [hlen]; exact hl⟩)])
      rw [Hv.out]
      have hl1 : (1 : Int) < (s.size : Int) := by omega
      clear hz hd0
      go_enter Tryz.func101, Tryz.ntmps101
      go_wp2_with fail
      refine (l1In_any _ _ _ _).mono ?_; rintro r w2 ⟨rfl, rfl⟩
      rw [hin]
      go_wp2
      go_ret
      exact ⟨rfl, rfl⟩
    · have Hv := Lib.hid (show rdN s.data.toList = rdD s.data.toList 0 by
        unfold rdN; rw [if_neg]; rintro (hh | ⟨hh1, hh2⟩)
        · rw [hlen] at hh; omega
        · rw [hd0] at hh1; injection hh1 with hh1; rw [hlen] at hh2; exact hz ⟨hh1, hh2⟩)
      rw [Hv.out]
      have hcase : (((s[0].toNat : Int) == 48) = true ∧ ¬ (1 : Int) < (s.size : Int)) ∨ ((s[0].toNat : Int) == 48) = false := by
        cases hq : ((s[0].toNat : Int) == 48)
        · exact Or.inr rfl
        · refine Or.inl ⟨rfl, fun hl => hz ⟨?_, by omega⟩⟩
          have := beq_iff_eq.1 hq
          exact UInt8.toNat_inj.1 (show s[0].toNat = 48 by omega)
      clear hz hd0 hs Hv
      go_enter Tryz.func101, Tryz.ntmps101
      go_wp2_with fail
      refine (l1In_any _ _ _ _).mono ?_; rintro r w2 ⟨rfl, rfl⟩
      rw [hin]
      rcases hcase with ⟨hz1, hl1⟩ | hz1 <;> (
        go_wp2
        go_loop [3, 4] (fun n i => ∃ (k : Nat) (acc : Int), k ≤ s.size ∧ i = .int .i64 k ∧ n = .int .i64 acc ∧ 0 ≤ acc ∧ acc < 10 ^ k ∧ Hid (rdD s.data.toList 0 = rdD (s.data.toList.drop k) acc)) (fun _ i => s.size - (intOf i).toNat)
        case atStart => exact ⟨0, 0, Nat.zero_le _, rfl, rfl, by omega, by decide, Lib.hid rfl⟩
        case round =>
          obtain ⟨k, acc, hk, rfl, rfl, ha0, ha1, Hr⟩ := hrel
          by_cases hlt : k < s.size
          · have hp := pow5 (k := k) (by omega)
            have hps := Int.pow_succ 10 k
            have Hps := Lib.hid hps; clear hps
            have Ha1 := Lib.hid ha1
            have ha2 : acc < 100000 := by omega
            have hb0 : (0 : Int) ≤ (s[k].toNat : Int) := by omega
            have hb1 : (s[k].toNat : Int) ≤ 255 := by have := UInt8.toNat_lt s[k]; omega
            have h1 : (k : Int) < (s.size : Int) := by omega
            have h2 : (0 : Int) ≤ (k : Int) := by omega
            clear hp ha1
            by_cases c1 : (s[k].toNat : Int) < 48
            · have Hfin := Lib.hid ((rdD_no (acc := acc) hlt (Or.inl c1)))
              go_wp2
              go_ret
              exact ⟨ret_int (by rw [Hr.out, Hfin.out]), rfl⟩
            · by_cases c2 : 57 < (s[k].toNat : Int)
              · have Hfin := Lib.hid ((rdD_no (acc := acc) hlt (Or.inr c2)))
                go_wp2
                go_ret
                exact ⟨ret_int (by rw [Hr.out, Hfin.out]), rfl⟩
              · have Hnew := Lib.hid (rdD_on (acc := acc) hlt (by omega) (by omega))
                go_wp2
                go_round
                case rel => exact ⟨k + 1, 10 * acc + ((s[k].toNat : Int) - 48), by omega, by go_num, rfl, by omega, by rw [Hps.out]; have := Ha1.out; omega, Lib.hid (by rw [Hr.out, Hnew.out])⟩
                case measure => simp [intOf]; omega
          · obtain rfl : k = s.size := by omega
            have Hfin := Lib.hid (show rdD (s.data.toList.drop s.size) acc = acc by rw [List.drop_eq_nil_of_le (by rw [hlen]; exact Nat.le_refl _)]; rfl)
            clear ha1
            go_wp2
            go_ret
            exact ⟨ret_int (by rw [Hr.out, Hfin.out]), rfl⟩)
set_option maxRecDepth 8000 in
set_option maxHeartbeats 4000000 in
theorem ecSigned_any (s : ByteArray) (w : World) (hs : s.size ≤ 4000000) :
    Calls Tryz.prog 139 #[.string s] w fun e w' => e = .returned (.int .i64 (sgN s.data.toList)) ∧ w = w' := by
  have hlen : s.data.toList.length = s.size := rfl
  have hbd := rdN_bd s.data.toList
  have hbd1 := rdN_bd (s.data.toList.drop 1)
  by_cases hm : 0 < s.size ∧ s.data.toList[0]? = some 45
  · obtain ⟨h0, hm⟩ := hm
    have hd0 := get_data s 0 h0
    have hc1 : ((s[0].toNat : Int) == 45) = true := by
      rw [hd0] at hm; injection hm with hm; rw [hm]; rfl
    have Hv := Lib.hid (show sgN s.data.toList = if rdN (s.data.toList.drop 1) < 0 then 100000 else -(rdN (s.data.toList.drop 1)) by unfold sgN; rw [if_pos hm])
    have h1 : (0 : Int) < (s.size : Int) := by omega
    have h2 : (1 : Int) ≤ (s.size : Int) := by omega
    have Hx := Lib.hid (fun W => l1Read_any (s.extract 1 s.size) W (by rw [ByteArray.size_extract]; omega))
    rw [ext_all] at Hx
    generalize rdN (s.data.toList.drop 1) = N at Hv Hx hbd1
    clear hd0 hm
    go_enter Tryz.func139, Tryz.ntmps139
    go_wp2_with fail
    refine (Hx.out _).mono ?_; rintro r w2 ⟨rfl, rfl⟩
    by_cases hn : N < 0
    · go_wp2
      go_ret
      exact ⟨ret_int (by rw [Hv.out, if_pos hn]), rfl⟩
    · go_wp2
      go_ret
      exact ⟨ret_int (by rw [Hv.out, if_neg (by omega)]), rfl⟩
  · have Hv := Lib.hid (show sgN s.data.toList = if rdN s.data.toList < 0 then 100000 else rdN s.data.toList by
      unfold sgN
      rw [if_neg (fun hh => hm ⟨?_, hh⟩)]
      rcases Nat.eq_zero_or_pos s.size with h0 | h0
      · rw [List.getElem?_eq_none (by rw [hlen]; omega)] at hh; cases hh
      · exact h0)
    have hcase : ¬ (0 : Int) < (s.size : Int) ∨ (∃ h0 : 0 < s.size, (0 : Int) < (s.size : Int) ∧ ((s[0].toNat : Int) == 45) = false) := by
      rcases Nat.eq_zero_or_pos s.size with h0 | h0
      · exact Or.inl (by omega)
      · refine Or.inr ⟨h0, by omega, beq_eq_false_iff_ne.2 (fun e => hm ⟨h0, ?_⟩)⟩
        rw [get_data s 0 h0]
        congr 1
        exact UInt8.toNat_inj.1 (show s[0].toNat = 45 by omega)
    have Hx := Lib.hid (fun W => l1Read_any s W hs)
    generalize rdN s.data.toList = N at Hv Hx hbd
    clear hm
    go_enter Tryz.func139, Tryz.ntmps139
    rcases hcase with h1 | ⟨h0, h1, hc1⟩ <;> (
      go_wp2_with fail
      refine (Hx.out _).mono ?_; rintro r w2 ⟨rfl, rfl⟩
      by_cases hn : N < 0
      · go_wp2
        go_ret
        exact ⟨ret_int (by rw [Hv.out, if_pos hn]), rfl⟩
      · go_wp2
        go_ret
        exact ⟨ret_int (by rw [Hv.out, if_neg (by omega)]), rfl⟩)
end
end Go.Proofs.YtnhgdmhiblpknaaGreatDoor
