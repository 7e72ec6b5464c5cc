/- The law FnExactNewTask: for all arguments the program's answer is the reference's. Conditions: none. -/
import Derived.Test.YtbgifnamionjgaaTask2
import Derived.Test.YtbgifnamionjgaaFrame
namespace Go.Proofs.Ytbgifnamionjgaa
open Go Go.RowKit Go.ChangeShapes Go.WideShapes

set_option maxRecDepth 8000 in
set_option maxHeartbeats 4000000 in
theorem fnExactNewTask_walk (a0 b0 x1 x2 : Int) (w : World) (_hx1 : -9223372036854775808 ≤ x1 ∧ x1 ≤ 9223372036854775807) (_hx2 : -9223372036854775808 ≤ x2 ∧ x2 ≤ 9223372036854775807) :
    Calls Try.prog 3 #[.agg #[.int .i64 a0, .int .i64 b0], .int .i64 x1, .int .i64 x2] w fun e w' => e = .returned (.bool true) ∧ Below w.heap.size w w' := by
  go_enter Try.func3, Try.ntmps3
  go_wp2_with fail
  have bx0 : Blk (w.alloc (Obj.cells #[.int .i64 a0, .int .i64 b0] 23)) w.heap.size 23 #[.int .i64 a0, .int .i64 b0] := Blk.new w 23 #[.int .i64 a0, .int .i64 b0]
  refine (toCurve_any a0 b0 _).mono ?_; rintro e w1 ⟨rfl, hb1⟩
  replace bx0 := bx0.on hb1
  replace hb1 := bthen (bal (Below.refl _ _) _) hb1
  have qbx0_0 : w1.cell? ⟨w.heap.size, 0, none⟩ = some (.int .i64 a0) := bx0.cell 0
  have qbx0_1 : w1.cell? ⟨w.heap.size, 1, none⟩ = some (.int .i64 b0) := bx0.cell 1
  have qbx0_l := bx0.lt
  go_wp2_with fail
  clear qbx0_0 qbx0_1 qbx0_l
  refine (specNew_any a0 b0 x1 x2 _).mono ?_; rintro e w2 ⟨⟨A, B, M, D, k, rfl, hy⟩, hb2⟩
  replace bx0 := bx0.on (hb2)
  replace hb2 := bthen (hb1) hb2
  have Hy := Lib.hid hy; clear hy
  have qbx0_0 : w2.cell? ⟨w.heap.size, 0, none⟩ = some (.int .i64 a0) := bx0.cell 0
  have qbx0_1 : w2.cell? ⟨w.heap.size, 1, none⟩ = some (.int .i64 b0) := bx0.cell 1
  have qbx0_l := bx0.lt
  go_wp2_with fail
  clear qbx0_0 qbx0_1 qbx0_l
  have t7 : Blk (w2.alloc (Obj.cells #[.int .i64 A, .int .i64 B, .int .i64 M, .int .i64 D, .int .i64 0, .slice none 0 0] 27)) w2.heap.size 27 #[.int .i64 A, .int .i64 B, .int .i64 M, .int .i64 D, .int .i64 0, .slice none 0 0] := Blk.new w2 27 #[.int .i64 A, .int .i64 B, .int .i64 M, .int .i64 D, .int .i64 0, .slice none 0 0]
  refine (toCurve_any a0 b0 _).mono ?_; rintro e w3 ⟨rfl, hb3⟩
  replace bx0 := bx0.on (bthen (bal (Below.refl _ _) _) hb3)
  replace t7 := t7.on hb3
  replace hb3 := bthen (bal hb2 _) hb3
  have qbx0_0 : w3.cell? ⟨w.heap.size, 0, none⟩ = some (.int .i64 a0) := bx0.cell 0
  have qbx0_1 : w3.cell? ⟨w.heap.size, 1, none⟩ = some (.int .i64 b0) := bx0.cell 1
  have qbx0_l := bx0.lt
  have qt7_0 : w3.cell? ⟨w2.heap.size, 0, none⟩ = some (.int .i64 A) := t7.cell 0
  have qt7_1 : w3.cell? ⟨w2.heap.size, 1, none⟩ = some (.int .i64 B) := t7.cell 1
  have qt7_2 : w3.cell? ⟨w2.heap.size, 2, none⟩ = some (.int .i64 M) := t7.cell 2
  have qt7_3 : w3.cell? ⟨w2.heap.size, 3, none⟩ = some (.int .i64 D) := t7.cell 3
  have qt7_4 : w3.cell? ⟨w2.heap.size, 4, none⟩ = some (.int .i64 0) := t7.cell 4
  have qt7_5 : w3.cell? ⟨w2.heap.size, 5, none⟩ = some (.slice none 0 0) := t7.cell 5
  have qt7_l := t7.lt
  go_wp2_with fail
  clear qbx0_0 qbx0_1 qbx0_l qt7_0 qt7_1 qt7_2 qt7_3 qt7_4 qt7_5 qt7_l
  refine (implNew_any a0 b0 x1 x2 _).mono ?_; rintro e w4 ⟨⟨A1, B1, M1, D1, k1, rfl, hy1⟩, hb4⟩
  replace bx0 := bx0.on (hb4)
  replace t7 := t7.on (hb4)
  replace hb4 := bthen (hb3) hb4
  obtain ⟨rfl, rfl, rfl, rfl, rfl⟩ : A = A1 ∧ B = B1 ∧ M = M1 ∧ D = D1 ∧ k = k1 := by have := Hy.out.symm.trans hy1; simpa using this
  clear hy1
  have qbx0_0 : w4.cell? ⟨w.heap.size, 0, none⟩ = some (.int .i64 a0) := bx0.cell 0
  have qbx0_1 : w4.cell? ⟨w.heap.size, 1, none⟩ = some (.int .i64 b0) := bx0.cell 1
  have qbx0_l := bx0.lt
  have qt7_0 : w4.cell? ⟨w2.heap.size, 0, none⟩ = some (.int .i64 A) := t7.cell 0
  have qt7_1 : w4.cell? ⟨w2.heap.size, 1, none⟩ = some (.int .i64 B) := t7.cell 1
  have qt7_2 : w4.cell? ⟨w2.heap.size, 2, none⟩ = some (.int .i64 M) := t7.cell 2
  have qt7_3 : w4.cell? ⟨w2.heap.size, 3, none⟩ = some (.int .i64 D) := t7.cell 3
  have qt7_4 : w4.cell? ⟨w2.heap.size, 4, none⟩ = some (.int .i64 0) := t7.cell 4
  have qt7_5 : w4.cell? ⟨w2.heap.size, 5, none⟩ = some (.slice none 0 0) := t7.cell 5
  have qt7_l := t7.lt
  go_wp2_with fail
  clear qbx0_0 qbx0_1 qbx0_l qt7_0 qt7_1 qt7_2 qt7_3 qt7_4 qt7_5 qt7_l
  have t9 : Blk (w4.alloc (Obj.cells #[.int .i64 A, .int .i64 B, .int .i64 M, .int .i64 D, .int .i64 0, .slice none 0 0] 27)) w4.heap.size 27 #[.int .i64 A, .int .i64 B, .int .i64 M, .int .i64 D, .int .i64 0, .slice none 0 0] := Blk.new w4 27 #[.int .i64 A, .int .i64 B, .int .i64 M, .int .i64 D, .int .i64 0, .slice none 0 0]
  refine (eqTask_new A B M D _).mono ?_; rintro e w5 ⟨rfl, hb5⟩
  replace bx0 := bx0.on (bthen (bal (Below.refl _ _) _) hb5)
  replace t7 := t7.on (bthen (bal (Below.refl _ _) _) hb5)
  replace t9 := t9.on hb5
  replace hb5 := bthen (bal hb4 _) hb5
  have qbx0_0 : w5.cell? ⟨w.heap.size, 0, none⟩ = some (.int .i64 a0) := bx0.cell 0
  have qbx0_1 : w5.cell? ⟨w.heap.size, 1, none⟩ = some (.int .i64 b0) := bx0.cell 1
  have qbx0_l := bx0.lt
  have qt7_0 : w5.cell? ⟨w2.heap.size, 0, none⟩ = some (.int .i64 A) := t7.cell 0
  have qt7_1 : w5.cell? ⟨w2.heap.size, 1, none⟩ = some (.int .i64 B) := t7.cell 1
  have qt7_2 : w5.cell? ⟨w2.heap.size, 2, none⟩ = some (.int .i64 M) := t7.cell 2
  have qt7_3 : w5.cell? ⟨w2.heap.size, 3, none⟩ = some (.int .i64 D) := t7.cell 3
  have qt7_4 : w5.cell? ⟨w2.heap.size, 4, none⟩ = some (.int .i64 0) := t7.cell 4
  have qt7_5 : w5.cell? ⟨w2.heap.size, 5, none⟩ = some (.slice none 0 0) := t7.cell 5
  have qt7_l := t7.lt
  have qt9_0 : w5.cell? ⟨w4.heap.size, 0, none⟩ = some (.int .i64 A) := t9.cell 0
  have qt9_1 : w5.cell? ⟨w4.heap.size, 1, none⟩ = some (.int .i64 B) := t9.cell 1
  have qt9_2 : w5.cell? ⟨w4.heap.size, 2, none⟩ = some (.int .i64 M) := t9.cell 2
  have qt9_3 : w5.cell? ⟨w4.heap.size, 3, none⟩ = some (.int .i64 D) := t9.cell 3
  have qt9_4 : w5.cell? ⟨w4.heap.size, 4, none⟩ = some (.int .i64 0) := t9.cell 4
  have qt9_5 : w5.cell? ⟨w4.heap.size, 5, none⟩ = some (.slice none 0 0) := t9.cell 5
  have qt9_l := t9.lt
  go_wp2_with fail
  clear qbx0_0 qbx0_1 qbx0_l qt7_0 qt7_1 qt7_2 qt7_3 qt7_4 qt7_5 qt7_l qt9_0 qt9_1 qt9_2 qt9_3 qt9_4 qt9_5 qt9_l
  refine (markTask_new A B M D 1 _).mono ?_; rintro e w6 ⟨rfl, hb6⟩
  replace bx0 := bx0.on (hb6)
  replace t7 := t7.on (hb6)
  replace t9 := t9.on (hb6)
  replace hb6 := bthen (hb5) hb6
  have qbx0_0 : w6.cell? ⟨w.heap.size, 0, none⟩ = some (.int .i64 a0) := bx0.cell 0
  have qbx0_1 : w6.cell? ⟨w.heap.size, 1, none⟩ = some (.int .i64 b0) := bx0.cell 1
  have qbx0_l := bx0.lt
  have qt7_0 : w6.cell? ⟨w2.heap.size, 0, none⟩ = some (.int .i64 A) := t7.cell 0
  have qt7_1 : w6.cell? ⟨w2.heap.size, 1, none⟩ = some (.int .i64 B) := t7.cell 1
  have qt7_2 : w6.cell? ⟨w2.heap.size, 2, none⟩ = some (.int .i64 M) := t7.cell 2
  have qt7_3 : w6.cell? ⟨w2.heap.size, 3, none⟩ = some (.int .i64 D) := t7.cell 3
  have qt7_4 : w6.cell? ⟨w2.heap.size, 4, none⟩ = some (.int .i64 0) := t7.cell 4
  have qt7_5 : w6.cell? ⟨w2.heap.size, 5, none⟩ = some (.slice none 0 0) := t7.cell 5
  have qt7_l := t7.lt
  have qt9_0 : w6.cell? ⟨w4.heap.size, 0, none⟩ = some (.int .i64 A) := t9.cell 0
  have qt9_1 : w6.cell? ⟨w4.heap.size, 1, none⟩ = some (.int .i64 B) := t9.cell 1
  have qt9_2 : w6.cell? ⟨w4.heap.size, 2, none⟩ = some (.int .i64 M) := t9.cell 2
  have qt9_3 : w6.cell? ⟨w4.heap.size, 3, none⟩ = some (.int .i64 D) := t9.cell 3
  have qt9_4 : w6.cell? ⟨w4.heap.size, 4, none⟩ = some (.int .i64 0) := t9.cell 4
  have qt9_5 : w6.cell? ⟨w4.heap.size, 5, none⟩ = some (.slice none 0 0) := t9.cell 5
  have qt9_l := t9.lt
  go_wp2_with fail
  clear qbx0_0 qbx0_1 qbx0_l qt7_0 qt7_1 qt7_2 qt7_3 qt7_4 qt7_5 qt7_l qt9_0 qt9_1 qt9_2 qt9_3 qt9_4 qt9_5 qt9_l
  refine (heldTask_new A B M D _).mono ?_; rintro e w7 ⟨rfl, hb7⟩
  replace bx0 := bx0.on (hb7)
  replace t7 := t7.on (hb7)
  replace t9 := t9.on (hb7)
  replace hb7 := bthen (hb6) hb7
  have qbx0_0 : w7.cell? ⟨w.heap.size, 0, none⟩ = some (.int .i64 a0) := bx0.cell 0
  have qbx0_1 : w7.cell? ⟨w.heap.size, 1, none⟩ = some (.int .i64 b0) := bx0.cell 1
  have qbx0_l := bx0.lt
  have qt7_0 : w7.cell? ⟨w2.heap.size, 0, none⟩ = some (.int .i64 A) := t7.cell 0
  have qt7_1 : w7.cell? ⟨w2.heap.size, 1, none⟩ = some (.int .i64 B) := t7.cell 1
  have qt7_2 : w7.cell? ⟨w2.heap.size, 2, none⟩ = some (.int .i64 M) := t7.cell 2
  have qt7_3 : w7.cell? ⟨w2.heap.size, 3, none⟩ = some (.int .i64 D) := t7.cell 3
  have qt7_4 : w7.cell? ⟨w2.heap.size, 4, none⟩ = some (.int .i64 0) := t7.cell 4
  have qt7_5 : w7.cell? ⟨w2.heap.size, 5, none⟩ = some (.slice none 0 0) := t7.cell 5
  have qt7_l := t7.lt
  have qt9_0 : w7.cell? ⟨w4.heap.size, 0, none⟩ = some (.int .i64 A) := t9.cell 0
  have qt9_1 : w7.cell? ⟨w4.heap.size, 1, none⟩ = some (.int .i64 B) := t9.cell 1
  have qt9_2 : w7.cell? ⟨w4.heap.size, 2, none⟩ = some (.int .i64 M) := t9.cell 2
  have qt9_3 : w7.cell? ⟨w4.heap.size, 3, none⟩ = some (.int .i64 D) := t9.cell 3
  have qt9_4 : w7.cell? ⟨w4.heap.size, 4, none⟩ = some (.int .i64 0) := t9.cell 4
  have qt9_5 : w7.cell? ⟨w4.heap.size, 5, none⟩ = some (.slice none 0 0) := t9.cell 5
  have qt9_l := t9.lt
  go_wp2_with fail
  clear qbx0_0 qbx0_1 qbx0_l qt7_0 qt7_1 qt7_2 qt7_3 qt7_4 qt7_5 qt7_l qt9_0 qt9_1 qt9_2 qt9_3 qt9_4 qt9_5 qt9_l
  refine (toCurve_any a0 b0 _).mono ?_; rintro e w8 ⟨rfl, hb8⟩
  replace bx0 := bx0.on (hb8)
  replace t7 := t7.on (hb8)
  replace t9 := t9.on (hb8)
  replace hb8 := bthen (hb7) hb8
  have qbx0_0 : w8.cell? ⟨w.heap.size, 0, none⟩ = some (.int .i64 a0) := bx0.cell 0
  have qbx0_1 : w8.cell? ⟨w.heap.size, 1, none⟩ = some (.int .i64 b0) := bx0.cell 1
  have qbx0_l := bx0.lt
  have qt7_0 : w8.cell? ⟨w2.heap.size, 0, none⟩ = some (.int .i64 A) := t7.cell 0
  have qt7_1 : w8.cell? ⟨w2.heap.size, 1, none⟩ = some (.int .i64 B) := t7.cell 1
  have qt7_2 : w8.cell? ⟨w2.heap.size, 2, none⟩ = some (.int .i64 M) := t7.cell 2
  have qt7_3 : w8.cell? ⟨w2.heap.size, 3, none⟩ = some (.int .i64 D) := t7.cell 3
  have qt7_4 : w8.cell? ⟨w2.heap.size, 4, none⟩ = some (.int .i64 0) := t7.cell 4
  have qt7_5 : w8.cell? ⟨w2.heap.size, 5, none⟩ = some (.slice none 0 0) := t7.cell 5
  have qt7_l := t7.lt
  have qt9_0 : w8.cell? ⟨w4.heap.size, 0, none⟩ = some (.int .i64 A) := t9.cell 0
  have qt9_1 : w8.cell? ⟨w4.heap.size, 1, none⟩ = some (.int .i64 B) := t9.cell 1
  have qt9_2 : w8.cell? ⟨w4.heap.size, 2, none⟩ = some (.int .i64 M) := t9.cell 2
  have qt9_3 : w8.cell? ⟨w4.heap.size, 3, none⟩ = some (.int .i64 D) := t9.cell 3
  have qt9_4 : w8.cell? ⟨w4.heap.size, 4, none⟩ = some (.int .i64 0) := t9.cell 4
  have qt9_5 : w8.cell? ⟨w4.heap.size, 5, none⟩ = some (.slice none 0 0) := t9.cell 5
  have qt9_l := t9.lt
  go_wp2_with fail
  clear qbx0_0 qbx0_1 qbx0_l qt7_0 qt7_1 qt7_2 qt7_3 qt7_4 qt7_5 qt7_l qt9_0 qt9_1 qt9_2 qt9_3 qt9_4 qt9_5 qt9_l
  refine (implNew_any a0 b0 x1 x2 _).mono ?_; rintro e w9 ⟨⟨A1, B1, M1, D1, k1, rfl, hy1⟩, hb9⟩
  replace bx0 := bx0.on (hb9)
  replace t7 := t7.on (hb9)
  replace t9 := t9.on (hb9)
  replace hb9 := bthen (hb8) hb9
  obtain ⟨rfl, rfl, rfl, rfl, rfl⟩ : A = A1 ∧ B = B1 ∧ M = M1 ∧ D = D1 ∧ k = k1 := by have := Hy.out.symm.trans hy1; simpa using this
  clear hy1
  have qbx0_0 : w9.cell? ⟨w.heap.size, 0, none⟩ = some (.int .i64 a0) := bx0.cell 0
  have qbx0_1 : w9.cell? ⟨w.heap.size, 1, none⟩ = some (.int .i64 b0) := bx0.cell 1
  have qbx0_l := bx0.lt
  have qt7_0 : w9.cell? ⟨w2.heap.size, 0, none⟩ = some (.int .i64 A) := t7.cell 0
  have qt7_1 : w9.cell? ⟨w2.heap.size, 1, none⟩ = some (.int .i64 B) := t7.cell 1
  have qt7_2 : w9.cell? ⟨w2.heap.size, 2, none⟩ = some (.int .i64 M) := t7.cell 2
  have qt7_3 : w9.cell? ⟨w2.heap.size, 3, none⟩ = some (.int .i64 D) := t7.cell 3
  have qt7_4 : w9.cell? ⟨w2.heap.size, 4, none⟩ = some (.int .i64 0) := t7.cell 4
  have qt7_5 : w9.cell? ⟨w2.heap.size, 5, none⟩ = some (.slice none 0 0) := t7.cell 5
  have qt7_l := t7.lt
  have qt9_0 : w9.cell? ⟨w4.heap.size, 0, none⟩ = some (.int .i64 A) := t9.cell 0
  have qt9_1 : w9.cell? ⟨w4.heap.size, 1, none⟩ = some (.int .i64 B) := t9.cell 1
  have qt9_2 : w9.cell? ⟨w4.heap.size, 2, none⟩ = some (.int .i64 M) := t9.cell 2
  have qt9_3 : w9.cell? ⟨w4.heap.size, 3, none⟩ = some (.int .i64 D) := t9.cell 3
  have qt9_4 : w9.cell? ⟨w4.heap.size, 4, none⟩ = some (.int .i64 0) := t9.cell 4
  have qt9_5 : w9.cell? ⟨w4.heap.size, 5, none⟩ = some (.slice none 0 0) := t9.cell 5
  have qt9_l := t9.lt
  go_wp2_with fail
  clear qbx0_0 qbx0_1 qbx0_l qt7_0 qt7_1 qt7_2 qt7_3 qt7_4 qt7_5 qt7_l qt9_0 qt9_1 qt9_2 qt9_3 qt9_4 qt9_5 qt9_l
  have t13 : Blk (w9.alloc (Obj.cells #[.int .i64 A, .int .i64 B, .int .i64 M, .int .i64 D, .int .i64 0, .slice none 0 0] 27)) w9.heap.size 27 #[.int .i64 A, .int .i64 B, .int .i64 M, .int .i64 D, .int .i64 0, .slice none 0 0] := Blk.new w9 27 #[.int .i64 A, .int .i64 B, .int .i64 M, .int .i64 D, .int .i64 0, .slice none 0 0]
  refine (eqTask_new A B M D _).mono ?_; rintro e w10 ⟨rfl, hb10⟩
  replace bx0 := bx0.on (bthen (bal (Below.refl _ _) _) hb10)
  replace t7 := t7.on (bthen (bal (Below.refl _ _) _) hb10)
  replace t9 := t9.on (bthen (bal (Below.refl _ _) _) hb10)
  replace t13 := t13.on hb10
  replace hb10 := bthen (bal hb9 _) hb10
  have qbx0_0 : w10.cell? ⟨w.heap.size, 0, none⟩ = some (.int .i64 a0) := bx0.cell 0
  have qbx0_1 : w10.cell? ⟨w.heap.size, 1, none⟩ = some (.int .i64 b0) := bx0.cell 1
  have qbx0_l := bx0.lt
  have qt7_0 : w10.cell? ⟨w2.heap.size, 0, none⟩ = some (.int .i64 A) := t7.cell 0
  have qt7_1 : w10.cell? ⟨w2.heap.size, 1, none⟩ = some (.int .i64 B) := t7.cell 1
  have qt7_2 : w10.cell? ⟨w2.heap.size, 2, none⟩ = some (.int .i64 M) := t7.cell 2
  have qt7_3 : w10.cell? ⟨w2.heap.size, 3, none⟩ = some (.int .i64 D) := t7.cell 3
  have qt7_4 : w10.cell? ⟨w2.heap.size, 4, none⟩ = some (.int .i64 0) := t7.cell 4
  have qt7_5 : w10.cell? ⟨w2.heap.size, 5, none⟩ = some (.slice none 0 0) := t7.cell 5
  have qt7_l := t7.lt
  have qt9_0 : w10.cell? ⟨w4.heap.size, 0, none⟩ = some (.int .i64 A) := t9.cell 0
  have qt9_1 : w10.cell? ⟨w4.heap.size, 1, none⟩ = some (.int .i64 B) := t9.cell 1
  have qt9_2 : w10.cell? ⟨w4.heap.size, 2, none⟩ = some (.int .i64 M) := t9.cell 2
  have qt9_3 : w10.cell? ⟨w4.heap.size, 3, none⟩ = some (.int .i64 D) := t9.cell 3
  have qt9_4 : w10.cell? ⟨w4.heap.size, 4, none⟩ = some (.int .i64 0) := t9.cell 4
  have qt9_5 : w10.cell? ⟨w4.heap.size, 5, none⟩ = some (.slice none 0 0) := t9.cell 5
  have qt9_l := t9.lt
  have qt13_0 : w10.cell? ⟨w9.heap.size, 0, none⟩ = some (.int .i64 A) := t13.cell 0
  have qt13_1 : w10.cell? ⟨w9.heap.size, 1, none⟩ = some (.int .i64 B) := t13.cell 1
  have qt13_2 : w10.cell? ⟨w9.heap.size, 2, none⟩ = some (.int .i64 M) := t13.cell 2
  have qt13_3 : w10.cell? ⟨w9.heap.size, 3, none⟩ = some (.int .i64 D) := t13.cell 3
  have qt13_4 : w10.cell? ⟨w9.heap.size, 4, none⟩ = some (.int .i64 0) := t13.cell 4
  have qt13_5 : w10.cell? ⟨w9.heap.size, 5, none⟩ = some (.slice none 0 0) := t13.cell 5
  have qt13_l := t13.lt
  go_wp2_with fail
  clear qbx0_0 qbx0_1 qbx0_l qt7_0 qt7_1 qt7_2 qt7_3 qt7_4 qt7_5 qt7_l qt9_0 qt9_1 qt9_2 qt9_3 qt9_4 qt9_5 qt9_l qt13_0 qt13_1 qt13_2 qt13_3 qt13_4 qt13_5 qt13_l
  refine (heldTask_new A B M D _).mono ?_; rintro e w11 ⟨rfl, hb11⟩
  replace bx0 := bx0.on (hb11)
  replace t7 := t7.on (hb11)
  replace t9 := t9.on (hb11)
  replace t13 := t13.on (hb11)
  replace hb11 := bthen (hb10) hb11
  go_wp2
  go_ret
  exact ⟨rfl, hb11⟩

set_option maxRecDepth 100000 in
theorem fnExactNewTask_lifted (os : Os) (started : os.Started) (H : Type) (enc : TypeId × Value → H) :
    ReturnsInHanded {} Try.checked os 3 .any (Rows.fnExactNewTaskSpec.pre6 enc Try.prog Try.f3 Rows.fnExactNewTaskRow.domain false) (Rows.fnExactNewTaskSpec.post enc Try.prog Try.f3 false true false false) := by
  refine returnsInHanded_of_change (C := Try.checked) own_knob started (by kernel_rfl) Try.func3
    (ChangeSpec.witness6 (enc := enc) (C := Try.checked) false ⟨#[], #[.agg #[.int .i64 0, .int .i64 0], .int .i64 0, .int .i64 0], []⟩ 8 (by kernel_rfl) (by kernel_rfl) (by kernel_rfl) (by kernel_rfl)) ?_
  intro W base args ds gs before hval0 hW _ _
  have hval : ∀ (j : Nat) t v, Try.f3.params[j]? = some t → args[j]? = some v → Value.okWide Try.prog W .any base t v := hval0
  have hW' := hW
  obtain ⟨p, q, hA0, hV, rfl, hfz, hnd⟩ := hW
  have hA : DataW.TrodAll enc Try.prog W 0 (fun _ => true) true Try.f3.params.toList args.toList ds p := hA0
  rw [Try.params3] at hA hval
  obtain ⟨v0, v1, v2, d0, d1, d2, p0, p1, p2, rfl, rfl, rfl, h0, h1, h2⟩ := trodAll_three hA
  obtain ⟨rfl, rfl⟩ := trodVars_none hV
  simp only [List.append_nil] at hW'
  have hlt := hW'.lt
  have hlt0 : ∀ x ∈ p0, x.block < W.heap.size := fun x hx => hlt x (by simp [hx])
  have hlt1 : ∀ x ∈ p1, x.block < W.heap.size := fun x hx => hlt x (by simp [hx])
  have hlt2 : ∀ x ∈ p2, x.block < W.heap.size := fun x hx => hlt x (by simp [hx])
  have k0 := h0
  obtain ⟨ns0, hn0, rfl, hwf0⟩ := open_ints_agg Try.underlying23 5 (by kernel_rfl) (hval 0 23 v0 rfl rfl) h0
  obtain ⟨x0a, x0b, rfl⟩ := list2 (hn0.trans (by kernel_rfl : Try.prog.cellsOf 23 = 2))
  have k1 := h1
  obtain ⟨x1, rfl, hd1, hp1, w1⟩ := open_int Try.underlying3 (hval 1 3 v1 rfl rfl) h1
  have b1 := bounds_i64 w1
  have k2 := h2
  obtain ⟨x2, rfl, hd2, hp2, w2⟩ := open_int Try.underlying3 (hval 2 3 v2 rfl rfl) h2
  have b2 := bounds_i64 w2
  refine (fnExactNewTask_walk x0a x0b x1 x2 W b1 b2).mono fun e W' ⟨he, hb⟩ => ?_
  subst he
  exact ⟨_, rfl, post_below hW' (trodAll_mk1 (shut_bool Try.underlying4 true)) (trodAll_mk3 (WideElems.Trod_stays laid_out (by kernel_rfl) (of_decide_eq_true (by kernel_rfl)) k0 (fun x hx => hb.same (hlt0 x hx)) (fun x hx => by simpa using hlt0 x hx)) (WideElems.Trod_stays laid_out (by kernel_rfl) (of_decide_eq_true (by kernel_rfl)) k1 (fun x hx => hb.same (hlt1 x hx)) (fun x hx => by simpa using hlt1 x hx)) (WideElems.Trod_stays laid_out (by kernel_rfl) (of_decide_eq_true (by kernel_rfl)) k2 (fun x hx => hb.same (hlt2 x hx)) (fun x hx => by simpa using hlt2 x hx))) rfl (List.append_assoc _ _ _) hb⟩

theorem fnExactNewTask_holds : Rows.FnExactNewTaskSaid :=
  OpenClaim.holds_of_wide 3 Try.f3 rfl rfl rfl rfl rfl rfl rfl ⟨rfl, rfl, rfl, rfl, rfl⟩ rfl rfl rfl rfl rfl (by kernel_rfl) Try.func3 (by kernel_rfl)
    (of_decide_eq_true (by kernel_rfl)) (by unfold Func.isWrapper; rw [if_neg (of_decide_eq_false (by kernel_rfl))]; exact ⟨rfl, rfl⟩)
    (fun os started H enc _ => fnExactNewTask_lifted os started H enc)

end Go.Proofs.Ytbgifnamionjgaa
