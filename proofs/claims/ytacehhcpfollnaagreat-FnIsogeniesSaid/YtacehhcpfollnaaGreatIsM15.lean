/- Own texts put together: The reference's source of drawn curves with neighbours; What the drawing of points calls: some number comes back, whatever was given; Slopes, sums, multiples of points, fractions made: some answer comes back, within bounds. Conditions: those of each theorem. -/
import Derived.Test.YtacehhcpfollnaaGreatIsM14
import Derived.Test.YtacehhcpfollnaaGreatIsM8
import Derived.Test.YtacehhcpfollnaaGreatIsM4
import Derived.Test.YtacehhcpfollnaaGreatIsM11
namespace Go.Proofs.YtacehhcpfollnaaGreat
section
open Go Go.RowKit

set_option linter.unusedSimpArgs false in
set_option maxRecDepth 8000 in
set_option maxHeartbeats 8000000 in
theorem linked_any (g k : Nat) (w : World) (hc : Cur w g k) (hk : k ≤ 600000) :
    Calls Tryz.prog 42 #[.pointer (some ⟨g, 0, none⟩)] w fun e w' => (∃ a b : Int, e = .returned (.agg #[.int .i64 a, .int .i64 b])) ∧ Cur w' g (k + 50) ∧ Dg g w w' := by
  have Hgl := Lib.hid hc.lt
  have Hc := Lib.hid hc; have Hk := Lib.hid hk; have Hd := Lib.hid (Dg.refl g w); clear hc hk
  go_enter Tryz.func42, Tryz.ntmps42
  go_wp2_with fail
  refine (pick_any g k (5) _ (Hc.out.alloc _) (by have := Hk.out; omega)).mono ?_; rintro e w1 ⟨⟨x, lx, ux, rfl⟩, hc1, hd1⟩
  have S1 := Lib.hid (show w.heap.size + 1 ≤ w1.heap.size by have h9 := hd1.size; (try simp only [World.size_alloc, World.size_setCell] at h9); omega)
  have NR := Lib.hid ((Blk.new w 25 #[.int .i64 0, .int .i64 0]).dg hd1 (show w.heap.size ≠ g by have := Hgl.out; have := S1.out; omega))
  have R := NR; clear NR
  have Hc1 := Lib.hid (hc1.mono (j := k + 2) (by omega))
  have Hd1 := Lib.hid ((Hd.out.alloc _).trans hd1)
  clear hc1 hd1
  by_cases ex0 : x = 0
  · have zx0 : (x == 0) = true := by rw [ex0]; rfl
    clear ex0
    go_wp2_with fail
    refine (anyCurve_any g (k + 2) _ Hc1.out (by have := Hk.out; omega)).mono ?_; rintro e w2 ⟨⟨a, b, rfl⟩, hc2, hd2⟩
    have S2 := Lib.hid (show w1.heap.size + 0 ≤ w2.heap.size by have h9 := hd2.size; (try simp only [World.size_alloc, World.size_setCell] at h9); omega)
    have NR := Lib.hid (R.out.dg hd2 (show w.heap.size ≠ g by have := Hgl.out; have := S1.out; have := S2.out; omega))
    have R := NR; clear NR
    have Hc2 := Lib.hid (hc2.mono (j := k + 42) (by omega))
    have Hd2 := Lib.hid (Hd1.out.trans hd2)
    clear hc2 hd2
    have qR0 := R.out.cell 0
    have qR1 := R.out.cell 1
    simp at qR0 qR1
    have qRl := R.out.lt
    have qRf := R.out.frozen
    go_wp2
    clear qR0 qR1 qRl qRf
    have HR9 := (show Blk (World.setCell (World.setCell w2 ⟨w.heap.size, 0, none⟩ (.int .i64 a)) ⟨w.heap.size, 1, none⟩ (.int .i64 b)) (w.heap.size) 25 #[.int .i64 a, .int .i64 b] by have h9 := ((R.out.set 0 (.int .i64 a)).set 1 (.int .i64 b)); simpa using h9)
    have k0 := HR9.cell 0
    have k1 := HR9.cell 1
    simp at k0 k1
    exact bodyPost_ret (v := .agg #[.int .i64 a, .int .i64 b]) (by simp [results, Tryz.results42, go_sem, k0, k1]) rfl ⟨⟨_, _, rfl⟩, ((Hc2.out.st (p := ⟨w.heap.size, 0, none⟩) (show g < w.heap.size by have := Hgl.out; have := S1.out; have := S2.out; omega) (.int .i64 a)).st (p := ⟨w.heap.size, 1, none⟩) (show g < w.heap.size by have := Hgl.out; have := S1.out; have := S2.out; omega) (.int .i64 b)).mono (by omega), ((Hd2.out.st (p := ⟨w.heap.size, 0, none⟩) (show w.heap.size ≤ w.heap.size by have := Hgl.out; have := S1.out; have := S2.out; omega) (.int .i64 a)).st (p := ⟨w.heap.size, 1, none⟩) (show w.heap.size ≤ w.heap.size by have := Hgl.out; have := S1.out; have := S2.out; omega) (.int .i64 b))⟩
  · by_cases ex1 : x = 1
    · have zx1 : (x == 1) = true := by rw [ex1]; rfl
      have zx0 : (x == 0) = false := by rw [ex1]; rfl
      clear ex0 ex1
      go_wp2_with fail
      refine (pick_any g (k + 2) (7) _ (Hc1.out.alloc _) (by have := Hk.out; omega)).mono ?_; rintro e w3 ⟨⟨y, ly, uy, rfl⟩, hc3, hd3⟩
      have S3 := Lib.hid (show w1.heap.size + 1 ≤ w3.heap.size by have h9 := hd3.size; (try simp only [World.size_alloc, World.size_setCell] at h9); omega)
      have NR := Lib.hid ((R.out.alloc _).dg hd3 (show w.heap.size ≠ g by have := Hgl.out; have := S1.out; have := S3.out; omega))
      have NT7 := Lib.hid ((Blk.new w1 25 #[.int .i64 (-1), .int .i64 0, .int .i64 4, .int .i64 0, .int .i64 (-11), .int .i64 14, .int .i64 (-7), .int .i64 6, .int .i64 (-25), .int .i64 0, .int .i64 (-12), .int .i64 11, .int .i64 1, .int .i64 0]).dg hd3 (show w1.heap.size ≠ g by have := Hgl.out; have := S1.out; have := S3.out; omega))
      have R := NR; clear NR
      have T7 := NT7; clear NT7
      have Hc3 := Lib.hid (hc3.mono (j := k + 4) (by omega))
      have Hd3 := Lib.hid ((Hd1.out.alloc _).trans hd3)
      clear hc3 hd3
      have hy7 : y = 0 ∨ y = 1 ∨ y = 2 ∨ y = 3 ∨ y = 4 ∨ y = 5 ∨ y = 6 := by omega
      clear ly uy
      rcases hy7 with rfl | rfl | rfl | rfl | rfl | rfl | rfl
      · have qT70 := T7.out.cell 0
        have qT71 := T7.out.cell 1
        have qT72 := T7.out.cell 2
        have qT73 := T7.out.cell 3
        have qT74 := T7.out.cell 4
        have qT75 := T7.out.cell 5
        have qT76 := T7.out.cell 6
        have qT77 := T7.out.cell 7
        have qT78 := T7.out.cell 8
        have qT79 := T7.out.cell 9
        have qT710 := T7.out.cell 10
        have qT711 := T7.out.cell 11
        have qT712 := T7.out.cell 12
        have qT713 := T7.out.cell 13
        simp at qT70 qT71 qT72 qT73 qT74 qT75 qT76 qT77 qT78 qT79 qT710 qT711 qT712 qT713
        have qT7l := T7.out.lt
        have qR0 := R.out.cell 0
        have qR1 := R.out.cell 1
        simp at qR0 qR1
        have qRl := R.out.lt
        have qRf := R.out.frozen
        have nRT7 : w.heap.size ≠ w1.heap.size := by have := Hgl.out; have := S1.out; have := S3.out; omega
        have nT7R : w1.heap.size ≠ w.heap.size := fun e => nRT7 e.symm
        go_wp2
        clear qT70 qT71 qT72 qT73 qT74 qT75 qT76 qT77 qT78 qT79 qT710 qT711 qT712 qT713 qT7l qR0 qR1 qRl qRf nRT7 nT7R
        have HR9 := (show Blk (World.setCell (World.setCell w3 ⟨w.heap.size, 0, none⟩ (.int .i64 (-1))) ⟨w.heap.size, 1, none⟩ (.int .i64 0)) (w.heap.size) 25 #[.int .i64 (-1), .int .i64 0] by have h9 := ((R.out.set 0 (.int .i64 (-1))).set 1 (.int .i64 0)); simpa using h9)
        have k0 := HR9.cell 0
        have k1 := HR9.cell 1
        simp at k0 k1
        exact bodyPost_ret (v := .agg #[.int .i64 (-1), .int .i64 0]) (by simp [results, Tryz.results42, go_sem, k0, k1]) rfl ⟨⟨_, _, rfl⟩, ((Hc3.out.st (p := ⟨w.heap.size, 0, none⟩) (show g < w.heap.size by have := Hgl.out; have := S1.out; have := S3.out; omega) (.int .i64 (-1))).st (p := ⟨w.heap.size, 1, none⟩) (show g < w.heap.size by have := Hgl.out; have := S1.out; have := S3.out; omega) (.int .i64 0)).mono (by omega), ((Hd3.out.st (p := ⟨w.heap.size, 0, none⟩) (show w.heap.size ≤ w.heap.size by have := Hgl.out; have := S1.out; have := S3.out; omega) (.int .i64 (-1))).st (p := ⟨w.heap.size, 1, none⟩) (show w.heap.size ≤ w.heap.size by have := Hgl.out; have := S1.out; have := S3.out; omega) (.int .i64 0))⟩
      · have qT70 := T7.out.cell 0
        have qT71 := T7.out.cell 1
        have qT72 := T7.out.cell 2
        have qT73 := T7.out.cell 3
        have qT74 := T7.out.cell 4
        have qT75 := T7.out.cell 5
        have qT76 := T7.out.cell 6
        have qT77 := T7.out.cell 7
        have qT78 := T7.out.cell 8
        have qT79 := T7.out.cell 9
        have qT710 := T7.out.cell 10
        have qT711 := T7.out.cell 11
        have qT712 := T7.out.cell 12
        have qT713 := T7.out.cell 13
        simp at qT70 qT71 qT72 qT73 qT74 qT75 qT76 qT77 qT78 qT79 qT710 qT711 qT712 qT713
        have qT7l := T7.out.lt
        have qR0 := R.out.cell 0
        have qR1 := R.out.cell 1
        simp at qR0 qR1
        have qRl := R.out.lt
        have qRf := R.out.frozen
        have nRT7 : w.heap.size ≠ w1.heap.size := by have := Hgl.out; have := S1.out; have := S3.out; omega
        have nT7R : w1.heap.size ≠ w.heap.size := fun e => nRT7 e.symm
        go_wp2
        clear qT70 qT71 qT72 qT73 qT74 qT75 qT76 qT77 qT78 qT79 qT710 qT711 qT712 qT713 qT7l qR0 qR1 qRl qRf nRT7 nT7R
        have HR9 := (show Blk (World.setCell (World.setCell w3 ⟨w.heap.size, 0, none⟩ (.int .i64 4)) ⟨w.heap.size, 1, none⟩ (.int .i64 0)) (w.heap.size) 25 #[.int .i64 4, .int .i64 0] by have h9 := ((R.out.set 0 (.int .i64 4)).set 1 (.int .i64 0)); simpa using h9)
        have k0 := HR9.cell 0
        have k1 := HR9.cell 1
        simp at k0 k1
        exact bodyPost_ret (v := .agg #[.int .i64 4, .int .i64 0]) (by simp [results, Tryz.results42, go_sem, k0, k1]) rfl ⟨⟨_, _, rfl⟩, ((Hc3.out.st (p := ⟨w.heap.size, 0, none⟩) (show g < w.heap.size by have := Hgl.out; have := S1.out; have := S3.out; omega) (.int .i64 4)).st (p := ⟨w.heap.size, 1, none⟩) (show g < w.heap.size by have := Hgl.out; have := S1.out; have := S3.out; omega) (.int .i64 0)).mono (by omega), ((Hd3.out.st (p := ⟨w.heap.size, 0, none⟩) (show w.heap.size ≤ w.heap.size by have := Hgl.out; have := S1.out; have := S3.out; omega) (.int .i64 4)).st (p := ⟨w.heap.size, 1, none⟩) (show w.heap.size ≤ w.heap.size by have := Hgl.out; have := S1.out; have := S3.out; omega) (.int .i64 0))⟩
      · have qT70 := T7.out.cell 0
        have qT71 := T7.out.cell 1
        have qT72 := T7.out.cell 2
        have qT73 := T7.out.cell 3
        have qT74 := T7.out.cell 4
        have qT75 := T7.out.cell 5
        have qT76 := T7.out.cell 6
        have qT77 := T7.out.cell 7
        have qT78 := T7.out.cell 8
        have qT79 := T7.out.cell 9
        have qT710 := T7.out.cell 10
        have qT711 := T7.out.cell 11
        have qT712 := T7.out.cell 12
        have qT713 := T7.out.cell 13
        simp at qT70 qT71 qT72 qT73 qT74 qT75 qT76 qT77 qT78 qT79 qT710 qT711 qT712 qT713
        have qT7l := T7.out.lt
        have qR0 := R.out.cell 0
        have qR1 := R.out.cell 1
        simp at qR0 qR1
        have qRl := R.out.lt
        have qRf := R.out.frozen
        have nRT7 : w.heap.size ≠ w1.heap.size := by have := Hgl.out; have := S1.out; have := S3.out; omega
        have nT7R : w1.heap.size ≠ w.heap.size := fun e => nRT7 e.symm
        go_wp2
        clear qT70 qT71 qT72 qT73 qT74 qT75 qT76 qT77 qT78 qT79 qT710 qT711 qT712 qT713 qT7l qR0 qR1 qRl qRf nRT7 nT7R
        have HR9 := (show Blk (World.setCell (World.setCell w3 ⟨w.heap.size, 0, none⟩ (.int .i64 (-11))) ⟨w.heap.size, 1, none⟩ (.int .i64 14)) (w.heap.size) 25 #[.int .i64 (-11), .int .i64 14] by have h9 := ((R.out.set 0 (.int .i64 (-11))).set 1 (.int .i64 14)); simpa using h9)
        have k0 := HR9.cell 0
        have k1 := HR9.cell 1
        simp at k0 k1
        exact bodyPost_ret (v := .agg #[.int .i64 (-11), .int .i64 14]) (by simp [results, Tryz.results42, go_sem, k0, k1]) rfl ⟨⟨_, _, rfl⟩, ((Hc3.out.st (p := ⟨w.heap.size, 0, none⟩) (show g < w.heap.size by have := Hgl.out; have := S1.out; have := S3.out; omega) (.int .i64 (-11))).st (p := ⟨w.heap.size, 1, none⟩) (show g < w.heap.size by have := Hgl.out; have := S1.out; have := S3.out; omega) (.int .i64 14)).mono (by omega), ((Hd3.out.st (p := ⟨w.heap.size, 0, none⟩) (show w.heap.size ≤ w.heap.size by have := Hgl.out; have := S1.out; have := S3.out; omega) (.int .i64 (-11))).st (p := ⟨w.heap.size, 1, none⟩) (show w.heap.size ≤ w.heap.size by have := Hgl.out; have := S1.out; have := S3.out; omega) (.int .i64 14))⟩
      · have qT70 := T7.out.cell 0
        have qT71 := T7.out.cell 1
        have qT72 := T7.out.cell 2
        have qT73 := T7.out.cell 3
        have qT74 := T7.out.cell 4
        have qT75 := T7.out.cell 5
        have qT76 := T7.out.cell 6
        have qT77 := T7.out.cell 7
        have qT78 := T7.out.cell 8
        have qT79 := T7.out.cell 9
        have qT710 := T7.out.cell 10
        have qT711 := T7.out.cell 11
        have qT712 := T7.out.cell 12
        have qT713 := T7.out.cell 13
        simp at qT70 qT71 qT72 qT73 qT74 qT75 qT76 qT77 qT78 qT79 qT710 qT711 qT712 qT713
        have qT7l := T7.out.lt
        have qR0 := R.out.cell 0
        have qR1 := R.out.cell 1
        simp at qR0 qR1
        have qRl := R.out.lt
        have qRf := R.out.frozen
        have nRT7 : w.heap.size ≠ w1.heap.size := by have := Hgl.out; have := S1.out; have := S3.out; omega
        have nT7R : w1.heap.size ≠ w.heap.size := fun e => nRT7 e.symm
        go_wp2
        clear qT70 qT71 qT72 qT73 qT74 qT75 qT76 qT77 qT78 qT79 qT710 qT711 qT712 qT713 qT7l qR0 qR1 qRl qRf nRT7 nT7R
        have HR9 := (show Blk (World.setCell (World.setCell w3 ⟨w.heap.size, 0, none⟩ (.int .i64 (-7))) ⟨w.heap.size, 1, none⟩ (.int .i64 6)) (w.heap.size) 25 #[.int .i64 (-7), .int .i64 6] by have h9 := ((R.out.set 0 (.int .i64 (-7))).set 1 (.int .i64 6)); simpa using h9)
        have k0 := HR9.cell 0
        have k1 := HR9.cell 1
        simp at k0 k1
        exact bodyPost_ret (v := .agg #[.int .i64 (-7), .int .i64 6]) (by simp [results, Tryz.results42, go_sem, k0, k1]) rfl ⟨⟨_, _, rfl⟩, ((Hc3.out.st (p := ⟨w.heap.size, 0, none⟩) (show g < w.heap.size by have := Hgl.out; have := S1.out; have := S3.out; omega) (.int .i64 (-7))).st (p := ⟨w.heap.size, 1, none⟩) (show g < w.heap.size by have := Hgl.out; have := S1.out; have := S3.out; omega) (.int .i64 6)).mono (by omega), ((Hd3.out.st (p := ⟨w.heap.size, 0, none⟩) (show w.heap.size ≤ w.heap.size by have := Hgl.out; have := S1.out; have := S3.out; omega) (.int .i64 (-7))).st (p := ⟨w.heap.size, 1, none⟩) (show w.heap.size ≤ w.heap.size by have := Hgl.out; have := S1.out; have := S3.out; omega) (.int .i64 6))⟩
      · have qT70 := T7.out.cell 0
        have qT71 := T7.out.cell 1
        have qT72 := T7.out.cell 2
        have qT73 := T7.out.cell 3
        have qT74 := T7.out.cell 4
        have qT75 := T7.out.cell 5
        have qT76 := T7.out.cell 6
        have qT77 := T7.out.cell 7
        have qT78 := T7.out.cell 8
        have qT79 := T7.out.cell 9
        have qT710 := T7.out.cell 10
        have qT711 := T7.out.cell 11
        have qT712 := T7.out.cell 12
        have qT713 := T7.out.cell 13
        simp at qT70 qT71 qT72 qT73 qT74 qT75 qT76 qT77 qT78 qT79 qT710 qT711 qT712 qT713
        have qT7l := T7.out.lt
        have qR0 := R.out.cell 0
        have qR1 := R.out.cell 1
        simp at qR0 qR1
        have qRl := R.out.lt
        have qRf := R.out.frozen
        have nRT7 : w.heap.size ≠ w1.heap.size := by have := Hgl.out; have := S1.out; have := S3.out; omega
        have nT7R : w1.heap.size ≠ w.heap.size := fun e => nRT7 e.symm
        go_wp2
        clear qT70 qT71 qT72 qT73 qT74 qT75 qT76 qT77 qT78 qT79 qT710 qT711 qT712 qT713 qT7l qR0 qR1 qRl qRf nRT7 nT7R
        have HR9 := (show Blk (World.setCell (World.setCell w3 ⟨w.heap.size, 0, none⟩ (.int .i64 (-25))) ⟨w.heap.size, 1, none⟩ (.int .i64 0)) (w.heap.size) 25 #[.int .i64 (-25), .int .i64 0] by have h9 := ((R.out.set 0 (.int .i64 (-25))).set 1 (.int .i64 0)); simpa using h9)
        have k0 := HR9.cell 0
        have k1 := HR9.cell 1
        simp at k0 k1
        exact bodyPost_ret (v := .agg #[.int .i64 (-25), .int .i64 0]) (by simp [results, Tryz.results42, go_sem, k0, k1]) rfl ⟨⟨_, _, rfl⟩, ((Hc3.out.st (p := ⟨w.heap.size, 0, none⟩) (show g < w.heap.size by have := Hgl.out; have := S1.out; have := S3.out; omega) (.int .i64 (-25))).st (p := ⟨w.heap.size, 1, none⟩) (show g < w.heap.size by have := Hgl.out; have := S1.out; have := S3.out; omega) (.int .i64 0)).mono (by omega), ((Hd3.out.st (p := ⟨w.heap.size, 0, none⟩) (show w.heap.size ≤ w.heap.size by have := Hgl.out; have := S1.out; have := S3.out; omega) (.int .i64 (-25))).st (p := ⟨w.heap.size, 1, none⟩) (show w.heap.size ≤ w.heap.size by have := Hgl.out; have := S1.out; have := S3.out; omega) (.int .i64 0))⟩
      · have qT70 := T7.out.cell 0
        have qT71 := T7.out.cell 1
        have qT72 := T7.out.cell 2
        have qT73 := T7.out.cell 3
        have qT74 := T7.out.cell 4
        have qT75 := T7.out.cell 5
        have qT76 := T7.out.cell 6
        have qT77 := T7.out.cell 7
        have qT78 := T7.out.cell 8
        have qT79 := T7.out.cell 9
        have qT710 := T7.out.cell 10
        have qT711 := T7.out.cell 11
        have qT712 := T7.out.cell 12
        have qT713 := T7.out.cell 13
        simp at qT70 qT71 qT72 qT73 qT74 qT75 qT76 qT77 qT78 qT79 qT710 qT711 qT712 qT713
        have qT7l := T7.out.lt
        have qR0 := R.out.cell 0
        have qR1 := R.out.cell 1
        simp at qR0 qR1
        have qRl := R.out.lt
        have qRf := R.out.frozen
        have nRT7 : w.heap.size ≠ w1.heap.size := by have := Hgl.out; have := S1.out; have := S3.out; omega
        have nT7R : w1.heap.size ≠ w.heap.size := fun e => nRT7 e.symm
        go_wp2
        clear qT70 qT71 qT72 qT73 qT74 qT75 qT76 qT77 qT78 qT79 qT710 qT711 qT712 qT713 qT7l qR0 qR1 qRl qRf nRT7 nT7R
        have HR9 := (show Blk (World.setCell (World.setCell w3 ⟨w.heap.size, 0, none⟩ (.int .i64 (-12))) ⟨w.heap.size, 1, none⟩ (.int .i64 11)) (w.heap.size) 25 #[.int .i64 (-12), .int .i64 11] by have h9 := ((R.out.set 0 (.int .i64 (-12))).set 1 (.int .i64 11)); simpa using h9)
        have k0 := HR9.cell 0
        have k1 := HR9.cell 1
        simp at k0 k1
        exact bodyPost_ret (v := .agg #[.int .i64 (-12), .int .i64 11]) (by simp [results, Tryz.results42, go_sem, k0, k1]) rfl ⟨⟨_, _, rfl⟩, ((Hc3.out.st (p := ⟨w.heap.size, 0, none⟩) (show g < w.heap.size by have := Hgl.out; have := S1.out; have := S3.out; omega) (.int .i64 (-12))).st (p := ⟨w.heap.size, 1, none⟩) (show g < w.heap.size by have := Hgl.out; have := S1.out; have := S3.out; omega) (.int .i64 11)).mono (by omega), ((Hd3.out.st (p := ⟨w.heap.size, 0, none⟩) (show w.heap.size ≤ w.heap.size by have := Hgl.out; have := S1.out; have := S3.out; omega) (.int .i64 (-12))).st (p := ⟨w.heap.size, 1, none⟩) (show w.heap.size ≤ w.heap.size by have := Hgl.out; have := S1.out; have := S3.out; omega) (.int .i64 11))⟩
      · have qT70 := T7.out.cell 0
        have qT71 := T7.out.cell 1
        have qT72 := T7.out.cell 2
        have qT73 := T7.out.cell 3
        have qT74 := T7.out.cell 4
        have qT75 := T7.out.cell 5
        have qT76 := T7.out.cell 6
        have qT77 := T7.out.cell 7
        have qT78 := T7.out.cell 8
        have qT79 := T7.out.cell 9
        have qT710 := T7.out.cell 10
        have qT711 := T7.out.cell 11
        have qT712 := T7.out.cell 12
        have qT713 := T7.out.cell 13
        simp at qT70 qT71 qT72 qT73 qT74 qT75 qT76 qT77 qT78 qT79 qT710 qT711 qT712 qT713
        have qT7l := T7.out.lt
        have qR0 := R.out.cell 0
        have qR1 := R.out.cell 1
        simp at qR0 qR1
        have qRl := R.out.lt
        have qRf := R.out.frozen
        have nRT7 : w.heap.size ≠ w1.heap.size := by have := Hgl.out; have := S1.out; have := S3.out; omega
        have nT7R : w1.heap.size ≠ w.heap.size := fun e => nRT7 e.symm
        go_wp2
        clear qT70 qT71 qT72 qT73 qT74 qT75 qT76 qT77 qT78 qT79 qT710 qT711 qT712 qT713 qT7l qR0 qR1 qRl qRf nRT7 nT7R
        have HR9 := (show Blk (World.setCell (World.setCell w3 ⟨w.heap.size, 0, none⟩ (.int .i64 1)) ⟨w.heap.size, 1, none⟩ (.int .i64 0)) (w.heap.size) 25 #[.int .i64 1, .int .i64 0] by have h9 := ((R.out.set 0 (.int .i64 1)).set 1 (.int .i64 0)); simpa using h9)
        have k0 := HR9.cell 0
        have k1 := HR9.cell 1
        simp at k0 k1
        exact bodyPost_ret (v := .agg #[.int .i64 1, .int .i64 0]) (by simp [results, Tryz.results42, go_sem, k0, k1]) rfl ⟨⟨_, _, rfl⟩, ((Hc3.out.st (p := ⟨w.heap.size, 0, none⟩) (show g < w.heap.size by have := Hgl.out; have := S1.out; have := S3.out; omega) (.int .i64 1)).st (p := ⟨w.heap.size, 1, none⟩) (show g < w.heap.size by have := Hgl.out; have := S1.out; have := S3.out; omega) (.int .i64 0)).mono (by omega), ((Hd3.out.st (p := ⟨w.heap.size, 0, none⟩) (show w.heap.size ≤ w.heap.size by have := Hgl.out; have := S1.out; have := S3.out; omega) (.int .i64 1)).st (p := ⟨w.heap.size, 1, none⟩) (show w.heap.size ≤ w.heap.size by have := Hgl.out; have := S1.out; have := S3.out; omega) (.int .i64 0))⟩
    · have zx0 : (x == 0) = false := beq_eq_false_iff_ne.2 ex0
      have zx1 : (x == 1) = false := beq_eq_false_iff_ne.2 ex1
      clear ex0 ex1
      go_wp2_with fail
      refine (pick_any g (k + 2) (11) _ Hc1.out (by have := Hk.out; omega)).mono ?_; rintro e w4 ⟨⟨p, lp, up, rfl⟩, hc4, hd4⟩
      have S4 := Lib.hid (show w1.heap.size + 0 ≤ w4.heap.size by have h9 := hd4.size; (try simp only [World.size_alloc, World.size_setCell] at h9); omega)
      have NR := Lib.hid (R.out.dg hd4 (show w.heap.size ≠ g by have := Hgl.out; have := S1.out; have := S4.out; omega))
      have R := NR; clear NR
      have Hc4 := Lib.hid (hc4.mono (j := k + 4) (by omega))
      have Hd4 := Lib.hid (Hd1.out.trans hd4)
      clear hc4 hd4
      have up2 : p ≤ 10 := by omega
      go_wp2_with fail
      refine (pick_any g (k + 4) (21) _ Hc4.out (by have := Hk.out; omega)).mono ?_; rintro e w5 ⟨⟨q, lq, uq, rfl⟩, hc5, hd5⟩
      have S5 := Lib.hid (show w4.heap.size + 0 ≤ w5.heap.size by have h9 := hd5.size; (try simp only [World.size_alloc, World.size_setCell] at h9); omega)
      have NR := Lib.hid (R.out.dg hd5 (show w.heap.size ≠ g by have := Hgl.out; have := S1.out; have := S4.out; have := S5.out; omega))
      have R := NR; clear NR
      have Hc5 := Lib.hid (hc5.mono (j := k + 6) (by omega))
      have Hd5 := Lib.hid (Hd4.out.trans hd5)
      clear hc5 hd5
      have uq2 : q ≤ 20 := by omega
      obtain ⟨x0, hx0⟩ : ∃ x0, p - 5 = x0 := ⟨_, rfl⟩
      have hx1 : -5 ≤ x0 ∧ x0 ≤ 5 := by omega
      obtain ⟨hx2, hx3⟩ := hx1
      rw [hx0]
      clear hx0 lp up up2
      go_wp2_with fail
      generalize hbb : wrap64 (wrap64 (wrap64 (-x0 * x0) * x0) - wrap64 ((q - 10) * x0)) = bb
      generalize haa : q - 10 = a0
      clear hbb haa
      go_wp2_with fail
      refine (one_any g (k + 6) (3) _ (Hc5.out.alloc _) (by have := Hk.out; omega)).mono ?_; rintro e w6 ⟨⟨c, rfl⟩, hc6, hd6⟩
      have S6 := Lib.hid (show w5.heap.size + 1 ≤ w6.heap.size by have h9 := hd6.size; (try simp only [World.size_alloc, World.size_setCell] at h9); omega)
      have NR := Lib.hid ((R.out.alloc _).dg hd6 (show w.heap.size ≠ g by have := Hgl.out; have := S1.out; have := S4.out; have := S5.out; have := S6.out; omega))
      have NE := Lib.hid ((Blk.new w5 25 #[.int .i64 a0, .int .i64 bb]).dg hd6 (show w5.heap.size ≠ g by have := Hgl.out; have := S1.out; have := S4.out; have := S5.out; have := S6.out; omega))
      have R := NR; clear NR
      have E := NE; clear NE
      have Hc6 := Lib.hid (hc6.mono (j := k + 8) (by omega))
      have Hd6 := Lib.hid ((Hd5.out.alloc _).trans hd6)
      clear hc6 hd6
      cases c
      · have qE0 := E.out.cell 0
        have qE1 := E.out.cell 1
        simp at qE0 qE1
        have qEl := E.out.lt
        go_wp2_with fail
        refine (ecGood_any a0 bb _).mono ?_; rintro e w7 ⟨rfl, hd7⟩
        clear qE0 qE1 qEl
        have S7 := Lib.hid (show w6.heap.size + 0 ≤ w7.heap.size by have h9 := hd7.size; (try simp only [World.size_alloc, World.size_setCell] at h9); omega)
        have NR := Lib.hid (R.out.dg (Dg.of_below (g := g) hd7) (show w.heap.size ≠ g by have := Hgl.out; have := S1.out; have := S4.out; have := S5.out; have := S6.out; have := S7.out; omega))
        have NE := Lib.hid (E.out.dg (Dg.of_below (g := g) hd7) (show w5.heap.size ≠ g by have := Hgl.out; have := S1.out; have := S4.out; have := S5.out; have := S6.out; have := S7.out; omega))
        have R := NR; clear NR
        have E := NE; clear NE
        have Hc7 := Lib.hid (Hc6.out.on hd7)
        have Hd7 := Lib.hid (Hd6.out.trans (Dg.of_below (g := g) hd7))
        clear hd7
        cases hg : curveB a0 bb
        · clear hg
          have qE0 := E.out.cell 0
          have qE1 := E.out.cell 1
          simp at qE0 qE1
          have qEl := E.out.lt
          have qR0 := R.out.cell 0
          have qR1 := R.out.cell 1
          simp at qR0 qR1
          have qRl := R.out.lt
          have qRf := R.out.frozen
          have nER : w5.heap.size ≠ w.heap.size := by have := Hgl.out; have := S1.out; have := S4.out; have := S5.out; have := S6.out; have := S7.out; omega
          have nRE : w.heap.size ≠ w5.heap.size := fun e => nER e.symm
          go_wp2
          clear qE0 qE1 qEl qR0 qR1 qRl qRf nER nRE
          have HR9 := (show Blk (World.setCell (World.setCell w7 ⟨w.heap.size, 0, none⟩ (.int .i64 (-1))) ⟨w.heap.size, 1, none⟩ (.int .i64 0)) (w.heap.size) 25 #[.int .i64 (-1), .int .i64 0] by have h9 := ((R.out.set 0 (.int .i64 (-1))).set 1 (.int .i64 0)); simpa using h9)
          have k0 := HR9.cell 0
          have k1 := HR9.cell 1
          simp at k0 k1
          exact bodyPost_ret (v := .agg #[.int .i64 (-1), .int .i64 0]) (by simp [results, Tryz.results42, go_sem, k0, k1]) rfl ⟨⟨_, _, rfl⟩, ((Hc7.out.st (p := ⟨w.heap.size, 0, none⟩) (show g < w.heap.size by have := Hgl.out; have := S1.out; have := S4.out; have := S5.out; have := S6.out; have := S7.out; omega) (.int .i64 (-1))).st (p := ⟨w.heap.size, 1, none⟩) (show g < w.heap.size by have := Hgl.out; have := S1.out; have := S4.out; have := S5.out; have := S6.out; have := S7.out; omega) (.int .i64 0)).mono (by omega), ((Hd7.out.st (p := ⟨w.heap.size, 0, none⟩) (show w.heap.size ≤ w.heap.size by have := Hgl.out; have := S1.out; have := S4.out; have := S5.out; have := S6.out; have := S7.out; omega) (.int .i64 (-1))).st (p := ⟨w.heap.size, 1, none⟩) (show w.heap.size ≤ w.heap.size by have := Hgl.out; have := S1.out; have := S4.out; have := S5.out; have := S6.out; have := S7.out; omega) (.int .i64 0))⟩
        · clear hg
          have qE0 := E.out.cell 0
          have qE1 := E.out.cell 1
          simp at qE0 qE1
          have qEl := E.out.lt
          have qR0 := R.out.cell 0
          have qR1 := R.out.cell 1
          simp at qR0 qR1
          have qRl := R.out.lt
          have qRf := R.out.frozen
          have nER : w5.heap.size ≠ w.heap.size := by have := Hgl.out; have := S1.out; have := S4.out; have := S5.out; have := S6.out; have := S7.out; omega
          have nRE : w.heap.size ≠ w5.heap.size := fun e => nER e.symm
          go_wp2
          clear qE0 qE1 qEl qR0 qR1 qRl qRf nER nRE
          have HR9 := (show Blk (World.setCell (World.setCell w7 ⟨w.heap.size, 0, none⟩ (.int .i64 a0)) ⟨w.heap.size, 1, none⟩ (.int .i64 bb)) (w.heap.size) 25 #[.int .i64 a0, .int .i64 bb] by have h9 := ((R.out.set 0 (.int .i64 a0)).set 1 (.int .i64 bb)); simpa using h9)
          have k0 := HR9.cell 0
          have k1 := HR9.cell 1
          simp at k0 k1
          exact bodyPost_ret (v := .agg #[.int .i64 a0, .int .i64 bb]) (by simp [results, Tryz.results42, go_sem, k0, k1]) rfl ⟨⟨_, _, rfl⟩, ((Hc7.out.st (p := ⟨w.heap.size, 0, none⟩) (show g < w.heap.size by have := Hgl.out; have := S1.out; have := S4.out; have := S5.out; have := S6.out; have := S7.out; omega) (.int .i64 a0)).st (p := ⟨w.heap.size, 1, none⟩) (show g < w.heap.size by have := Hgl.out; have := S1.out; have := S4.out; have := S5.out; have := S6.out; have := S7.out; omega) (.int .i64 bb)).mono (by omega), ((Hd7.out.st (p := ⟨w.heap.size, 0, none⟩) (show w.heap.size ≤ w.heap.size by have := Hgl.out; have := S1.out; have := S4.out; have := S5.out; have := S6.out; have := S7.out; omega) (.int .i64 a0)).st (p := ⟨w.heap.size, 1, none⟩) (show w.heap.size ≤ w.heap.size by have := Hgl.out; have := S1.out; have := S4.out; have := S5.out; have := S6.out; have := S7.out; omega) (.int .i64 bb))⟩
      · go_wp2_with fail
        refine (pick_any g (k + 8) (9) _ Hc6.out (by have := Hk.out; omega)).mono ?_; rintro e w8 ⟨⟨z, lz, uz, rfl⟩, hc8, hd8⟩
        have S8 := Lib.hid (show w6.heap.size + 0 ≤ w8.heap.size by have h9 := hd8.size; (try simp only [World.size_alloc, World.size_setCell] at h9); omega)
        have NR := Lib.hid (R.out.dg hd8 (show w.heap.size ≠ g by have := Hgl.out; have := S1.out; have := S4.out; have := S5.out; have := S6.out; have := S8.out; omega))
        have NE := Lib.hid (E.out.dg hd8 (show w5.heap.size ≠ g by have := Hgl.out; have := S1.out; have := S4.out; have := S5.out; have := S6.out; have := S8.out; omega))
        have R := NR; clear NR
        have E := NE; clear NE
        have Hc8 := Lib.hid (hc8.mono (j := k + 10) (by omega))
        have Hd8 := Lib.hid (Hd6.out.trans hd8)
        clear hc8 hd8
        have uz2 : z ≤ 8 := by omega
        obtain ⟨y0, hy0⟩ : ∃ y0, z - 4 = y0 := ⟨_, rfl⟩
        have qE0 := E.out.cell 0
        have qE1 := E.out.cell 1
        simp at qE0 qE1
        have qEl := E.out.lt
        have qEf := E.out.frozen
        go_wp2_with fail
        clear qE0 qE1 qEl qEf
        generalize hbb : wrap64 (wrap64 (x0 * y0) * (x0 + y0)) = b1
        generalize haa : wrap64 (wrap64 (x0 * y0) - wrap64 ((x0 + y0) * (x0 + y0))) = a1
        clear hbb haa hy0
        have qE0 := E.out.cell 0
        have qE1 := E.out.cell 1
        simp at qE0 qE1
        have qEl := E.out.lt
        have qEf := E.out.frozen
        go_wp2_with fail
        refine (ecGood_any a1 b1 _).mono ?_; rintro e w9 ⟨rfl, hd9⟩
        clear qE0 qE1 qEl qEf
        have S9 := Lib.hid (show w8.heap.size + 0 ≤ w9.heap.size by have h9 := hd9.size; (try simp only [World.size_alloc, World.size_setCell] at h9); omega)
        have NR := Lib.hid (((R.out.far (p := ⟨w5.heap.size, 0, none⟩) (show w.heap.size ≠ w5.heap.size by have := Hgl.out; have := S1.out; have := S4.out; have := S5.out; have := S6.out; have := S8.out; have := S9.out; omega) (.int .i64 a1)).far (p := ⟨w5.heap.size, 1, none⟩) (show w.heap.size ≠ w5.heap.size by have := Hgl.out; have := S1.out; have := S4.out; have := S5.out; have := S6.out; have := S8.out; have := S9.out; omega) (.int .i64 b1)).dg (Dg.of_below (g := g) hd9) (show w.heap.size ≠ g by have := Hgl.out; have := S1.out; have := S4.out; have := S5.out; have := S6.out; have := S8.out; have := S9.out; omega))
        have NE := Lib.hid ((show Blk (World.setCell (World.setCell w8 ⟨w5.heap.size, 0, none⟩ (.int .i64 a1)) ⟨w5.heap.size, 1, none⟩ (.int .i64 b1)) (w5.heap.size) 25 #[.int .i64 a1, .int .i64 b1] by have h9 := ((E.out.set 0 (.int .i64 a1)).set 1 (.int .i64 b1)); simpa using h9).dg (Dg.of_below (g := g) hd9) (show w5.heap.size ≠ g by have := Hgl.out; have := S1.out; have := S4.out; have := S5.out; have := S6.out; have := S8.out; have := S9.out; omega))
        have R := NR; clear NR
        have E := NE; clear NE
        have Hc9 := Lib.hid (((Hc8.out.st (p := ⟨w5.heap.size, 0, none⟩) (show g < w5.heap.size by have := Hgl.out; have := S1.out; have := S4.out; have := S5.out; have := S6.out; have := S8.out; have := S9.out; omega) (.int .i64 a1)).st (p := ⟨w5.heap.size, 1, none⟩) (show g < w5.heap.size by have := Hgl.out; have := S1.out; have := S4.out; have := S5.out; have := S6.out; have := S8.out; have := S9.out; omega) (.int .i64 b1)).on hd9)
        have Hd9 := Lib.hid (((Hd8.out.st (p := ⟨w5.heap.size, 0, none⟩) (show w.heap.size ≤ w5.heap.size by have := Hgl.out; have := S1.out; have := S4.out; have := S5.out; have := S6.out; have := S8.out; have := S9.out; omega) (.int .i64 a1)).st (p := ⟨w5.heap.size, 1, none⟩) (show w.heap.size ≤ w5.heap.size by have := Hgl.out; have := S1.out; have := S4.out; have := S5.out; have := S6.out; have := S8.out; have := S9.out; omega) (.int .i64 b1)).trans (Dg.of_below (g := g) hd9))
        clear hd9
        cases hg : curveB a1 b1
        · clear hg
          have qE0 := E.out.cell 0
          have qE1 := E.out.cell 1
          simp at qE0 qE1
          have qEl := E.out.lt
          have qR0 := R.out.cell 0
          have qR1 := R.out.cell 1
          simp at qR0 qR1
          have qRl := R.out.lt
          have qRf := R.out.frozen
          have nER : w5.heap.size ≠ w.heap.size := by have := Hgl.out; have := S1.out; have := S4.out; have := S5.out; have := S6.out; have := S8.out; have := S9.out; omega
          have nRE : w.heap.size ≠ w5.heap.size := fun e => nER e.symm
          go_wp2
          clear qE0 qE1 qEl qR0 qR1 qRl qRf nER nRE
          have HR9 := (show Blk (World.setCell (World.setCell w9 ⟨w.heap.size, 0, none⟩ (.int .i64 (-1))) ⟨w.heap.size, 1, none⟩ (.int .i64 0)) (w.heap.size) 25 #[.int .i64 (-1), .int .i64 0] by have h9 := ((R.out.set 0 (.int .i64 (-1))).set 1 (.int .i64 0)); simpa using h9)
          have k0 := HR9.cell 0
          have k1 := HR9.cell 1
          simp at k0 k1
          exact bodyPost_ret (v := .agg #[.int .i64 (-1), .int .i64 0]) (by simp [results, Tryz.results42, go_sem, k0, k1]) rfl ⟨⟨_, _, rfl⟩, ((Hc9.out.st (p := ⟨w.heap.size, 0, none⟩) (show g < w.heap.size by have := Hgl.out; have := S1.out; have := S4.out; have := S5.out; have := S6.out; have := S8.out; have := S9.out; omega) (.int .i64 (-1))).st (p := ⟨w.heap.size, 1, none⟩) (show g < w.heap.size by have := Hgl.out; have := S1.out; have := S4.out; have := S5.out; have := S6.out; have := S8.out; have := S9.out; omega) (.int .i64 0)).mono (by omega), ((Hd9.out.st (p := ⟨w.heap.size, 0, none⟩) (show w.heap.size ≤ w.heap.size by have := Hgl.out; have := S1.out; have := S4.out; have := S5.out; have := S6.out; have := S8.out; have := S9.out; omega) (.int .i64 (-1))).st (p := ⟨w.heap.size, 1, none⟩) (show w.heap.size ≤ w.heap.size by have := Hgl.out; have := S1.out; have := S4.out; have := S5.out; have := S6.out; have := S8.out; have := S9.out; omega) (.int .i64 0))⟩
        · clear hg
          have qE0 := E.out.cell 0
          have qE1 := E.out.cell 1
          simp at qE0 qE1
          have qEl := E.out.lt
          have qR0 := R.out.cell 0
          have qR1 := R.out.cell 1
          simp at qR0 qR1
          have qRl := R.out.lt
          have qRf := R.out.frozen
          have nER : w5.heap.size ≠ w.heap.size := by have := Hgl.out; have := S1.out; have := S4.out; have := S5.out; have := S6.out; have := S8.out; have := S9.out; omega
          have nRE : w.heap.size ≠ w5.heap.size := fun e => nER e.symm
          go_wp2
          clear qE0 qE1 qEl qR0 qR1 qRl qRf nER nRE
          have HR9 := (show Blk (World.setCell (World.setCell w9 ⟨w.heap.size, 0, none⟩ (.int .i64 a1)) ⟨w.heap.size, 1, none⟩ (.int .i64 b1)) (w.heap.size) 25 #[.int .i64 a1, .int .i64 b1] by have h9 := ((R.out.set 0 (.int .i64 a1)).set 1 (.int .i64 b1)); simpa using h9)
          have k0 := HR9.cell 0
          have k1 := HR9.cell 1
          simp at k0 k1
          exact bodyPost_ret (v := .agg #[.int .i64 a1, .int .i64 b1]) (by simp [results, Tryz.results42, go_sem, k0, k1]) rfl ⟨⟨_, _, rfl⟩, ((Hc9.out.st (p := ⟨w.heap.size, 0, none⟩) (show g < w.heap.size by have := Hgl.out; have := S1.out; have := S4.out; have := S5.out; have := S6.out; have := S8.out; have := S9.out; omega) (.int .i64 a1)).st (p := ⟨w.heap.size, 1, none⟩) (show g < w.heap.size by have := Hgl.out; have := S1.out; have := S4.out; have := S5.out; have := S6.out; have := S8.out; have := S9.out; omega) (.int .i64 b1)).mono (by omega), ((Hd9.out.st (p := ⟨w.heap.size, 0, none⟩) (show w.heap.size ≤ w.heap.size by have := Hgl.out; have := S1.out; have := S4.out; have := S5.out; have := S6.out; have := S8.out; have := S9.out; omega) (.int .i64 a1)).st (p := ⟨w.heap.size, 1, none⟩) (show w.heap.size ≤ w.heap.size by have := Hgl.out; have := S1.out; have := S4.out; have := S5.out; have := S6.out; have := S8.out; have := S9.out; omega) (.int .i64 b1))⟩
set_option linter.unusedSimpArgs false in
set_option maxRecDepth 8000 in
set_option maxHeartbeats 8000000 in
theorem rootOf_any (g k : Nat) (a b : Int) (w : World) (hc : Cur w g k) (hk : k ≤ 700000) :
    Calls Tryz.prog 43 #[.pointer (some ⟨g, 0, none⟩), .agg #[.int .i64 a, .int .i64 b]] w fun e w' => (∃ y : Int, e = .returned (.int .i64 y)) ∧ Cur w' g (k + 10) ∧ Dg g w w' := by
  have Hgl := Lib.hid hc.lt
  have Hc := Lib.hid hc; have Hk := Lib.hid hk; have Hd := Lib.hid (Dg.refl g w); clear hc hk
  go_enter Tryz.func43, Tryz.ntmps43
  cases hcv : curveB a b
  · go_wp2_with fail
    refine (cvS_lit hcv _).mono ?_; rintro e w1 ⟨rfl, hd1⟩
    have S1 := Lib.hid (show w.heap.size + 1 ≤ w1.heap.size by have h9 := hd1.size; (try simp only [World.size_alloc, World.size_setCell] at h9); omega)
    have NE := Lib.hid ((Blk.new w 25 #[.int .i64 a, .int .i64 b]).dg (Dg.of_below (g := g) hd1) (show w.heap.size ≠ g by have := Hgl.out; have := S1.out; omega))
    have E := NE; clear NE
    have Hc1 := Lib.hid ((Hc.out.alloc _).on hd1)
    have Hd1 := Lib.hid ((Hd.out.alloc _).trans (Dg.of_below (g := g) hd1))
    clear hd1
    clear hcv
    go_wp2_with fail
    refine (among_lit g k (w1.heap.size) [0, 1, -1, 100, -9223372036854775808] w1 (by simp) Hc1.out (by simp) (by simp) (by have := Hk.out; omega)).mono ?_; rintro e w2 ⟨⟨y, hy, rfl⟩, hc2, hd2⟩
    have S2 := Lib.hid (show w1.heap.size + 1 ≤ w2.heap.size by have h9 := hd2.size; (try simp only [World.size_alloc, World.size_setCell] at h9); omega)
    have NE := Lib.hid ((E.out.alloc _).dg hd2 (show w.heap.size ≠ g by have := Hgl.out; have := S1.out; have := S2.out; omega))
    have E := NE; clear NE
    have Hc2 := Lib.hid (hc2.mono (j := k + 2) (by omega))
    have Hd2 := Lib.hid ((Hd1.out.alloc _).trans hd2)
    clear hc2 hd2
    go_wp2
    go_ret
    exact ⟨⟨y, rfl⟩, Hc2.out.mono (by omega), Hd2.out⟩
  · go_wp2_with fail
    refine (cvS_lit hcv _).mono ?_; rintro e w3 ⟨rfl, hd3⟩
    have S3 := Lib.hid (show w.heap.size + 1 ≤ w3.heap.size by have h9 := hd3.size; (try simp only [World.size_alloc, World.size_setCell] at h9); omega)
    have NE := Lib.hid ((Blk.new w 25 #[.int .i64 a, .int .i64 b]).dg (Dg.of_below (g := g) hd3) (show w.heap.size ≠ g by have := Hgl.out; have := S3.out; omega))
    have E := NE; clear NE
    have Hc3 := Lib.hid ((Hc.out.alloc _).on hd3)
    have Hd3 := Lib.hid ((Hd.out.alloc _).trans (Dg.of_below (g := g) hd3))
    clear hd3
    have Hcv := Lib.hid hcv; clear hcv
    go_wp2_with fail
    refine (one_any g k (8) _ Hc3.out (by have := Hk.out; omega)).mono ?_; rintro e w4 ⟨⟨c, rfl⟩, hc4, hd4⟩
    have S4 := Lib.hid (show w3.heap.size + 0 ≤ w4.heap.size by have h9 := hd4.size; (try simp only [World.size_alloc, World.size_setCell] at h9); omega)
    have NE := Lib.hid (E.out.dg hd4 (show w.heap.size ≠ g by have := Hgl.out; have := S3.out; have := S4.out; omega))
    have E := NE; clear NE
    have Hc4 := Lib.hid (hc4.mono (j := k + 2) (by omega))
    have Hd4 := Lib.hid (Hd3.out.trans hd4)
    clear hc4 hd4
    cases c
    · have qE0 := E.out.cell 0
      have qE1 := E.out.cell 1
      simp at qE0 qE1
      have qEl := E.out.lt
      go_wp2_with fail
      refine (ecRoots_any a b _ Hcv.out).mono ?_; rintro e w5 ⟨⟨v, rfl, hown⟩, hd5⟩
      clear qE0 qE1 qEl
      have S5 := Lib.hid (show w4.heap.size + 0 ≤ w5.heap.size by have h9 := hd5.size; (try simp only [World.size_alloc, World.size_setCell] at h9); omega)
      have NE := Lib.hid (E.out.dg (Dg.of_below (g := g) hd5) (show w.heap.size ≠ g by have := Hgl.out; have := S3.out; have := S4.out; have := S5.out; omega))
      have E := NE; clear NE
      have Hc5 := Lib.hid (Hc4.out.on hd5)
      have Hd5 := Lib.hid (Hd4.out.trans (Dg.of_below (g := g) hd5))
      clear hd5
      obtain ⟨A9, c9, rfl⟩ := own_formI hown
      have Ho9 := Lib.hid (show IR _ _ 3 1 _ _ from ⟨_, hown, fun u9 h9 => by obtain ⟨i9, -, rfl⟩ := List.mem_map.1 h9; exact ⟨i9, rfl⟩⟩); clear hown
      have Hl9 := Lib.hid (roots_three a b)
      generalize (rootsV a b).length = n9 at Ho9 Hl9 ⊢
      by_cases hl9 : 0 < n9
      · have RO := Lib.hid Ho9.out; have GRO := Lib.hid (IR.lt Ho9.out)
        have hl3 := Hl9.out
        have hd0 : decide ((0 : Int) < (n9 : Int)) = true := decide_eq_true (by omega)
        go_wp2_with fail
        refine (pick_any g (k + 2) ((n9 : Nat) : Int) _ Hc5.out (by have := Hk.out; omega)).mono ?_; rintro e w6 ⟨⟨y, ly, uy, rfl⟩, hc6, hd6⟩
        have S6 := Lib.hid (show w5.heap.size + 0 ≤ w6.heap.size by have h9 := hd6.size; (try simp only [World.size_alloc, World.size_setCell] at h9); omega)
        have NE := Lib.hid (E.out.dg hd6 (show w.heap.size ≠ g by have := Hgl.out; have := S3.out; have := S4.out; have := S5.out; have := S6.out; omega))
        have E := NE; clear NE
        have RO := Lib.hid (RO.out.dg hd6 (show g < w4.heap.size by have := Hgl.out; have := S3.out; have := S4.out; have := S5.out; have := S6.out; omega))
        have Hc6 := Lib.hid (hc6.mono (j := k + 4) (by omega))
        have Hd6 := Lib.hid (Hd5.out.trans hd6)
        clear hc6 hd6
        have hyl : y < (n9 : Int) := by omega
        obtain ⟨j, rfl⟩ : ∃ j : Nat, y = (j : Int) := ⟨y.toNat, by omega⟩
        obtain ⟨xs9, ho9, ha9⟩ := RO.out.ex
        obtain ⟨g9, hA9, hgb9, hgl9, f9, -⟩ := own_slI ho9 (by have := ho9.1; omega) j (by omega)
        subst hA9
        obtain ⟨y9, hy9⟩ : ∃ y9, vat xs9 j = .int .i64 y9 := by
          have hj9 : j < xs9.length := by have := ho9.1; omega
          refine ha9 (vat xs9 j) ?_
          unfold vat
          rw [List.getD_eq_getElem?_getD, List.getElem?_eq_getElem hj9]
          exact List.getElem_mem hj9
        rw [hy9] at f9
        clear hy9 ho9 ha9
        go_wp2
        clear f9
        go_ret
        exact ⟨⟨y9, rfl⟩, Hc6.out.mono (by omega), Hd6.out⟩
      · have hd0 : decide ((0 : Int) < (n9 : Int)) = false := decide_eq_false (by omega)
        go_wp2_with fail
        refine (among_lit g (k + 2) (w5.heap.size) [0, 1, -1, 100, -9223372036854775808] w5 (by simp) Hc5.out (by simp) (by simp) (by have := Hk.out; omega)).mono ?_; rintro e w7 ⟨⟨y, hy, rfl⟩, hc7, hd7⟩
        have S7 := Lib.hid (show w5.heap.size + 1 ≤ w7.heap.size by have h9 := hd7.size; (try simp only [World.size_alloc, World.size_setCell] at h9); omega)
        have NE := Lib.hid ((E.out.alloc _).dg hd7 (show w.heap.size ≠ g by have := Hgl.out; have := S3.out; have := S4.out; have := S5.out; have := S7.out; omega))
        have E := NE; clear NE
        have Hc7 := Lib.hid (hc7.mono (j := k + 4) (by omega))
        have Hd7 := Lib.hid ((Hd5.out.alloc _).trans hd7)
        clear hc7 hd7
        go_wp2
        go_ret
        exact ⟨⟨y, rfl⟩, Hc7.out.mono (by omega), Hd7.out⟩
    · go_wp2_with fail
      refine (among_lit g (k + 2) (w4.heap.size) [0, 1, -1, 100, -9223372036854775808] w4 (by simp) Hc4.out (by simp) (by simp) (by have := Hk.out; omega)).mono ?_; rintro e w8 ⟨⟨y, hy, rfl⟩, hc8, hd8⟩
      have S8 := Lib.hid (show w4.heap.size + 1 ≤ w8.heap.size by have h9 := hd8.size; (try simp only [World.size_alloc, World.size_setCell] at h9); omega)
      have NE := Lib.hid ((E.out.alloc _).dg hd8 (show w.heap.size ≠ g by have := Hgl.out; have := S3.out; have := S4.out; have := S8.out; omega))
      have E := NE; clear NE
      have Hc8 := Lib.hid (hc8.mono (j := k + 4) (by omega))
      have Hd8 := Lib.hid ((Hd4.out.alloc _).trans hd8)
      clear hc8 hd8
      go_wp2
      go_ret
      exact ⟨⟨y, rfl⟩, Hc8.out.mono (by omega), Hd8.out⟩
end
section
open Go Go.RowKit

theorem tmx {x y : Int} (h : 0 < y) : -y < x.tmod y ∧ x.tmod y < y := by
  have h2 : (x.tmod y).natAbs < y.natAbs := by rw [Int.natAbs_tmod]; exact Nat.mod_lt _ (by omega)
  omega
set_option maxHeartbeats 800000 in
theorem absX (a : Int) (w : World) : Calls Tryz.prog 123 #[.int .i64 a] w fun e w' => (∃ m : Int, e = .returned (.int .i64 m)) ∧ Below w.heap.size w w' := by
  go_enter Tryz.func123, Tryz.ntmps123
  go_wp2_with (go_at_call 152; refine (l1MostG_any _ _ _).mono ?_; rintro e w' ⟨rfl, rfl⟩)
  go_ret
  exact ⟨⟨_, rfl⟩, Below.refl _ _⟩
set_option maxHeartbeats 1600000 in
theorem comX (a b B : Int) (w : World) (hb : 1 ≤ b) (hB : b ≤ B) :
    Calls Tryz.prog 122 #[.int .i64 a, .int .i64 b] w fun e w' => (∃ g : Int, e = .returned (.int .i64 g) ∧ 1 ≤ g ∧ g ≤ B) ∧ Below w.heap.size w w' := by
  go_enter Tryz.func122, Tryz.ntmps122
  go_wp2
  go_loopw [0, 1] (fun s t wr => ∃ x y : Int, s = .int .i64 x ∧ t = .int .i64 y ∧ Hid ((1 ≤ y ∧ y ≤ B) ∨ (y ≤ 0 ∧ 1 ≤ x ∧ x ≤ B)) ∧ Hid (Below w.heap.size w wr)) (fun _ t _ => (intOf t).toNat)
  case atStart => exact ⟨a, b, rfl, rfl, Lib.hid (Or.inl ⟨hb, hB⟩), Lib.hid (Below.refl _ _)⟩
  case round =>
    obtain ⟨x, y, rfl, rfl, Hr, Hb⟩ := hrel
    clear hb hB
    by_cases hy : 0 < y
    · have hd : decide (0 < y) = true := decide_eq_true hy
      have hy0 : ¬ y = 0 := by omega
      obtain ⟨t1, t2⟩ := tmx (x := x) hy
      have Hn := Lib.hid (show (1 ≤ x.tmod y ∧ x.tmod y ≤ B) ∨ (x.tmod y ≤ 0 ∧ 1 ≤ y ∧ y ≤ B) by have h := Hr.out; omega)
      obtain ⟨z, hz⟩ : ∃ z, x.tmod y = z := ⟨_, rfl⟩
      rw [hz] at t1 t2 Hn
      go_wp2
      go_roundw
      case rel => exact ⟨y, z, rfl, rfl, Hn, Hb⟩
      case measure => simp only [intOf]; omega
    · have hd : decide (0 < y) = false := decide_eq_false hy
      have Hx := Lib.hid (show 1 ≤ x ∧ x ≤ B by have h := Hr.out; omega)
      go_wp2
      go_ret
      exact ⟨⟨x, rfl, Hx.out⟩, Hb.out⟩
theorem quo_bd {b g : Int} (hg : 1 ≤ g) (hb : g ≤ b) : 1 ≤ b.tdiv g ∧ b.tdiv g ≤ b := by
  have h1 : b.tdiv g = b / g := Int.tdiv_eq_ediv_of_nonneg (by omega)
  rw [h1]
  exact ⟨Int.le_ediv_of_mul_le (by omega) (by omega), Int.ediv_le_self _ (by omega)⟩
set_option linter.unusedSimpArgs false in
set_option maxHeartbeats 1600000 in
theorem ecPartX (a b : Int) (w : World) (hb : 1 ≤ b) (hB : b ≤ 4000000000000000000) :
    Calls Tryz.prog 207 #[.int .i64 a, .int .i64 b] w fun e w' => (∃ n d : Int, e = .returned (.tuple #[.int .i64 n, .int .i64 d]) ∧ 1 ≤ d ∧ d ≤ b) ∧ Below w.heap.size w w' := by
  have hmx : max b (-b) = b := by omega
  have hneg : decide (b < 0) = false := decide_eq_false (by omega)
  go_enter Tryz.func207, Tryz.ntmps207
  go_wp2_with fail
  refine (absX a _).mono ?_; rintro e w1 ⟨⟨m, rfl⟩, hb1⟩
  go_wp2_with fail
  refine (l1AbsB_any b _ (by omega)).mono ?_; rw [hmx]; rintro e w2 ⟨rfl, rfl⟩
  go_wp2_with fail
  refine (comX m b b _ hb (Int.le_refl _)).mono ?_; rintro e w3 ⟨⟨g, rfl, hg1, hg2⟩, hb3⟩
  have HB := Lib.hid (bthen hb1 hb3); clear hb1 hb3
  obtain ⟨q1, q2⟩ := quo_bd hg1 hg2
  have hg0 : ¬ g = 0 := by omega
  obtain ⟨y, hy⟩ : ∃ y, b.tdiv g = y := ⟨_, rfl⟩
  have Hy := Lib.hid (show 1 ≤ y ∧ y ≤ b by omega)
  have hb0 : 0 ≤ b := by omega
  have hwr : IntKind.i64.wrap (b.tdiv g) = y := by rw [hy, IntKind.wrap_i64]; omega
  have hyd : b / g = y := by rw [← Int.tdiv_eq_ediv_of_nonneg hb0]; exact hy
  go_wp2
  go_region
  go_wp2
  go_ret2
  exact ⟨⟨_, _, rfl, by first | exact Hy.out | (rw [hwr]; exact Hy.out) | (rw [hy]; exact Hy.out) | (rw [hyd]; exact Hy.out)⟩, Below.drew HB.out⟩
set_option linter.unusedSimpArgs false in
set_option maxHeartbeats 1600000 in
theorem ecPartN (a b : Int) (w : World) (hb : b ≤ -1) (hB : -4000000000000000000 ≤ b) :
    Calls Tryz.prog 207 #[.int .i64 a, .int .i64 b] w fun e w' => (∃ n d : Int, e = .returned (.tuple #[.int .i64 n, .int .i64 d]) ∧ 1 ≤ d ∧ d ≤ -b) ∧ Below w.heap.size w w' := by
  have hmx : max b (-b) = -b := by omega
  have hneg : decide (b < 0) = true := decide_eq_true (by omega)
  go_enter Tryz.func207, Tryz.ntmps207
  go_wp2_with fail
  refine (absX a _).mono ?_; rintro e w1 ⟨⟨m, rfl⟩, hb1⟩
  go_wp2_with fail
  refine (l1AbsB_any b _ (by omega)).mono ?_; rw [hmx]; rintro e w2 ⟨rfl, rfl⟩
  go_wp2_with fail
  refine (comX m (-b) (-b) _ (by omega) (Int.le_refl _)).mono ?_; rintro e w3 ⟨⟨g, rfl, hg1, hg2⟩, hb3⟩
  have HB := Lib.hid (bthen hb1 hb3); clear hb1 hb3
  obtain ⟨q1, q2⟩ := quo_bd hg1 hg2
  have hg0 : ¬ -g = 0 := by omega
  have hw0 : wrap64 (-g) = -g := IntWalk.wrap64_in _ (by omega)
  obtain ⟨y, hy⟩ : ∃ y, b.tdiv (-g) = y := ⟨_, rfl⟩
  have hyy : (-b).tdiv g = y := by rw [← hy, Int.tdiv_neg, Int.neg_tdiv]
  have Hy := Lib.hid (show 1 ≤ y ∧ y ≤ -b by omega)
  have hwr : IntKind.i64.wrap (b.tdiv (-g)) = y := by rw [hy, IntKind.wrap_i64]; omega
  go_wp2
  go_region
  go_wp2
  go_ret2
  exact ⟨⟨_, _, rfl, by first | exact Hy.out | (rw [hwr]; exact Hy.out) | (rw [hy]; exact Hy.out)⟩, Below.drew HB.out⟩
set_option maxHeartbeats 1600000 in
theorem frRootX (n : Int) (w : World) (hn : 0 ≤ n) :
    Calls Tryz.prog 167 #[.int .i64 n] w fun e w' => (∃ r : Int, e = .returned (.int .i64 r) ∧ 0 ≤ r ∧ r ≤ 2000000000 ∧ r * r ≤ n) ∧ Below w.heap.size w w' := by
  go_enter Tryz.func167, Tryz.ntmps167
  go_wp2
  go_loopw [3, 4] (fun s t wr => ∃ x y : Int, s = .int .i64 x ∧ t = .int .i64 y ∧ Hid (x * x ≤ n) ∧ 0 ≤ x ∧ x < y ∧ y ≤ 2000000001 ∧ Hid (Below w.heap.size w wr)) (fun s t _ => (intOf t - intOf s).toNat)
  case atStart => exact ⟨0, 2000000001, rfl, rfl, Lib.hid (by omega), by omega, by omega, by omega, Lib.hid (Below.refl _ _)⟩
  case round =>
    obtain ⟨x, y, rfl, rfl, Hx, hx0, hxy, hy1, Hb⟩ := hrel
    clear hn
    by_cases hd : 1 < y - x
    · have hd0 : decide (1 < y - x) = true := decide_eq_true hd
      obtain ⟨m, hm⟩ : ∃ m, (x + y) / 2 = m := ⟨_, rfl⟩
      have hm2 : x < m ∧ m < y := by omega
      obtain ⟨m1, m2⟩ := hm2
      obtain ⟨p1, p2⟩ := mul_bd m m 2000000001 2000000001 (by omega) (by omega) (by omega) (by omega)
      by_cases hc : m * m ≤ n
      · have hc0 : decide (m * m ≤ n) = true := decide_eq_true hc
        have Hc := Lib.hid hc; clear hc
        go_wp2
        go_roundw
        case rel => exact ⟨m, y, by first | rfl | rw [hm], rfl, Hc, by omega, m2, hy1, Hb⟩
        case measure => simp [intOf]; omega
      · have hc0 : decide (m * m ≤ n) = false := decide_eq_false hc
        clear hc
        go_wp2
        go_roundw
        case rel => exact ⟨x, m, rfl, by first | rfl | rw [hm], Hx, hx0, m1, by omega, Hb⟩
        case measure => simp [intOf]; omega
    · have hd0 : decide (1 < y - x) = false := decide_eq_false hd
      go_wp2
      go_ret
      exact ⟨⟨x, rfl, hx0, by omega, Hx.out⟩, Hb.out⟩
set_option maxHeartbeats 1600000 in
theorem frSquareX (n : Int) (w : World) (hn : 0 ≤ n) :
    Calls Tryz.prog 166 #[.int .i64 n] w fun e w' => (∃ b : Bool, e = .returned (.bool b)) ∧ Below w.heap.size w w' := by
  go_enter Tryz.func166, Tryz.ntmps166
  go_wp2_with fail
  refine (frRootX n _ hn).mono ?_; rintro e w1 ⟨⟨r, rfl, -, -, -⟩, hb1⟩
  go_wp2_with fail
  refine (frRootX n _ hn).mono ?_; rintro e w2 ⟨⟨r, rfl, -, -, -⟩, hb2⟩
  have HB := Lib.hid (bthen hb1 hb2); clear hb1 hb2
  go_wp2
  go_ret
  exact ⟨⟨_, rfl⟩, HB.out⟩
end
section
open Go Go.RowKit

set_option linter.unusedSimpArgs false in
set_option linter.unusedVariables false in
set_option maxRecDepth 8000 in
set_option maxHeartbeats 8000000 in
theorem frMakeX (n d : Int) (w : World) (hd : 1 ≤ d) (hD : d ≤ 4000000000000000000) :
    Calls Tryz.prog 61 #[.int .i64 n, .int .i64 d] w fun e w' => (∃ (x y : Int) (ok : Bool), e = .returned (.tuple #[.agg #[.int .i64 x, .int .i64 y], .bool ok])) ∧ Below w.heap.size w w' := by
  have hmx : max d (-d) = d := by omega
  have hd0 : ¬ d = 0 := by omega
  have hneg : decide (d < 0) = false := decide_eq_false (by omega)
  go_enter Tryz.func61, Tryz.ntmps61
  go_wp2_with fail
  refine (absX n _).mono ?_; rintro e w1 ⟨⟨m, rfl⟩, hb1⟩
  have S1 := Lib.hid (show w.heap.size + 1 ≤ w1.heap.size by have h9 := hb1.size; (try simp only [World.size_alloc, World.size_setCell, World.size_drew] at h9); omega)
  have NR := Lib.hid ((Blk.new w 42 #[.int .i64 0, .int .i64 0]).on hb1)
  have R := NR; clear NR
  have Hb1 := Lib.hid (bthen (bal (Below.refl w.heap.size w) (Obj.cells #[.int .i64 0, .int .i64 0] 42)) hb1)
  clear hb1
  go_wp2_with fail
  refine (l1AbsB_any d _ (by omega)).mono ?_; rw [hmx]; rintro e w9 ⟨rfl, rfl⟩
  go_wp2_with fail
  refine (comX m d d _ hd (Int.le_refl _)).mono ?_; rintro e w2 ⟨⟨g, rfl, hg1, hg2⟩, hb2⟩
  have S2 := Lib.hid (show w1.heap.size + 0 ≤ w2.heap.size by have h9 := hb2.size; (try simp only [World.size_alloc, World.size_setCell, World.size_drew] at h9); omega)
  have NR := Lib.hid (R.out.on hb2)
  have R := NR; clear NR
  have Hb2 := Lib.hid (bthen Hb1.out hb2)
  clear hb2
  have hg0 : ¬ g = 0 := by omega
  obtain ⟨X0, hX0⟩ : ∃ z, n.tdiv g = z := ⟨_, rfl⟩
  obtain ⟨X, hX⟩ : ∃ z, IntKind.i64.wrap X0 = z := ⟨_, rfl⟩
  obtain ⟨q1, q2⟩ := quo_bd hg1 hg2
  obtain ⟨Y, hY⟩ : ∃ z, d.tdiv g = z := ⟨_, rfl⟩
  rw [hY] at q1 q2
  have hwY : IntKind.i64.wrap Y = Y := by rw [IntKind.wrap_i64]; omega
  go_wp2_with fail
  go_region
  go_wp2_with fail
  refine (frGood_any X Y _).mono ?_; rintro e w3 ⟨rfl, hb3⟩
  have S3 := Lib.hid (show w2.heap.size + 1 ≤ w3.heap.size by have h9 := hb3.size; (try simp only [World.size_alloc, World.size_setCell, World.size_drew] at h9); omega)
  have NR := Lib.hid ((Blk.drew (R.out.alloc (Obj.cells #[.int .i64 X, .int .i64 Y] 42))).on hb3)
  have NF1 := Lib.hid ((Blk.drew (Blk.new w2 42 #[.int .i64 X, .int .i64 Y])).on hb3)
  have R := NR; clear NR
  have F1 := NF1; clear NF1
  have Hb3 := Lib.hid (bthen (Below.drew (bal Hb2.out (Obj.cells #[.int .i64 X, .int .i64 Y] 42))) hb3)
  clear hb3
  cases hk : frB 1000000000 X Y
  · clear hk
    have qF10 : w3.cell? ⟨w2.heap.size, 0, none⟩ = some (.int .i64 X) := F1.out.cell 0
    have qF11 : w3.cell? ⟨w2.heap.size, 1, none⟩ = some (.int .i64 Y) := F1.out.cell 1
    have qF1l := F1.out.lt
    have qR0 : w3.cell? ⟨w.heap.size, 0, none⟩ = some (.int .i64 0) := R.out.cell 0
    have qR1 : w3.cell? ⟨w.heap.size, 1, none⟩ = some (.int .i64 0) := R.out.cell 1
    have qRl := R.out.lt
    have qRf0 := R.out.frozen 0
    have qRf1 := R.out.frozen 1
    have nF1R : w2.heap.size ≠ w.heap.size := by have := S1.out; have := S2.out; have := S3.out; (try simp only [World.size_alloc, World.size_setCell, World.size_drew]); omega
    have nRF1 : w.heap.size ≠ w2.heap.size := fun e => nF1R e.symm
    go_wp2
    clear qF10 qF11 qF1l qR0 qR1 qRl qRf0 qRf1 nF1R nRF1
    have R9R := (show Blk (World.setCell (World.setCell w3 ⟨w.heap.size, 0, none⟩ (.int .i64 0)) ⟨w.heap.size, 1, none⟩ (.int .i64 0)) (w.heap.size) 42 #[.int .i64 0, .int .i64 0] by have h9 := ((R.out.set 0 (.int .i64 0)).set 1 (.int .i64 0)); simpa using h9)
    have kR0 := R9R.cell 0
    have kR1 := R9R.cell 1
    simp at kR0 kR1
    exact bodyPost_ret (v := .tuple #[.agg #[.int .i64 0, .int .i64 0], .bool false]) (by simp [results, Tryz.results61, go_sem, kR0, kR1]) rfl ⟨⟨_, _, _, rfl⟩, (bst (bst Hb3.out (p := ⟨w.heap.size, 0, none⟩) (show w.heap.size ≤ w.heap.size by have := S1.out; have := S2.out; have := S3.out; (try simp only [World.size_alloc, World.size_setCell, World.size_drew]); omega) (.int .i64 0)) (p := ⟨w.heap.size, 1, none⟩) (show w.heap.size ≤ w.heap.size by have := S1.out; have := S2.out; have := S3.out; (try simp only [World.size_alloc, World.size_setCell, World.size_drew]); omega) (.int .i64 0))⟩
  · clear hk
    have qF10 : w3.cell? ⟨w2.heap.size, 0, none⟩ = some (.int .i64 X) := F1.out.cell 0
    have qF11 : w3.cell? ⟨w2.heap.size, 1, none⟩ = some (.int .i64 Y) := F1.out.cell 1
    have qF1l := F1.out.lt
    have qR0 : w3.cell? ⟨w.heap.size, 0, none⟩ = some (.int .i64 0) := R.out.cell 0
    have qR1 : w3.cell? ⟨w.heap.size, 1, none⟩ = some (.int .i64 0) := R.out.cell 1
    have qRl := R.out.lt
    have qRf0 := R.out.frozen 0
    have qRf1 := R.out.frozen 1
    have nF1R : w2.heap.size ≠ w.heap.size := by have := S1.out; have := S2.out; have := S3.out; (try simp only [World.size_alloc, World.size_setCell, World.size_drew]); omega
    have nRF1 : w.heap.size ≠ w2.heap.size := fun e => nF1R e.symm
    go_wp2
    clear qF10 qF11 qF1l qR0 qR1 qRl qRf0 qRf1 nF1R nRF1
    have R9R := (show Blk (World.setCell (World.setCell w3 ⟨w.heap.size, 0, none⟩ (.int .i64 X)) ⟨w.heap.size, 1, none⟩ (.int .i64 Y)) (w.heap.size) 42 #[.int .i64 X, .int .i64 Y] by have h9 := ((R.out.set 0 (.int .i64 X)).set 1 (.int .i64 Y)); simpa using h9)
    have kR0 := R9R.cell 0
    have kR1 := R9R.cell 1
    simp at kR0 kR1
    exact bodyPost_ret (v := .tuple #[.agg #[.int .i64 X, .int .i64 Y], .bool true]) (by simp [results, Tryz.results61, go_sem, kR0, kR1]) rfl ⟨⟨_, _, _, rfl⟩, (bst (bst Hb3.out (p := ⟨w.heap.size, 0, none⟩) (show w.heap.size ≤ w.heap.size by have := S1.out; have := S2.out; have := S3.out; (try simp only [World.size_alloc, World.size_setCell, World.size_drew]); omega) (.int .i64 X)) (p := ⟨w.heap.size, 1, none⟩) (show w.heap.size ≤ w.heap.size by have := S1.out; have := S2.out; have := S3.out; (try simp only [World.size_alloc, World.size_setCell, World.size_drew]); omega) (.int .i64 Y))⟩
set_option linter.unusedSimpArgs false in
set_option linter.unusedVariables false in
set_option maxRecDepth 8000 in
set_option maxHeartbeats 8000000 in
theorem ptSlopeD (a b x y e : Int) (w : World) (he : 0 ≤ e ∧ e ≤ 20) (hy : -1000000 ≤ y ∧ y ≤ 1000000) :
    Calls Tryz.prog 206 #[.agg #[.int .i64 a, .int .i64 b], .agg #[.int .i64 x, .int .i64 y, .int .i64 e], .agg #[.int .i64 x, .int .i64 y, .int .i64 e]] w fun e w' => (∃ n d : Int, e = .returned (.tuple #[.int .i64 n, .int .i64 d]) ∧ (d = 0 ∨ 1 ≤ d ∧ d ≤ 4000000000000000000)) ∧ Below w.heap.size w w' := by
  obtain ⟨m1, m2⟩ := mul_bd (2 * y) e 2000000 20 (by omega) (by omega) (by omega) (by omega)
  obtain ⟨F1, hF⟩ : ∃ z, 2 * y * e = z := ⟨_, rfl⟩
  rw [hF] at m1 m2
  by_cases hF0 : F1 = 0
  · have z0 : (F1 == 0) = true := by rw [hF0]; rfl
    go_enter Tryz.func206, Tryz.ntmps206
    go_wp2
    go_ret2
    exact ⟨⟨1, 0, rfl, Or.inl rfl⟩, (bal (bal (bal (Below.refl w.heap.size w) (Obj.cells #[.int .i64 a, .int .i64 b] 25)) (Obj.cells #[.int .i64 x, .int .i64 y, .int .i64 e] 83)) (Obj.cells #[.int .i64 x, .int .i64 y, .int .i64 e] 83))⟩
  · have z0 : (F1 == 0) = false := beq_eq_false_iff_ne.2 hF0
    rcases Int.lt_or_gt_of_ne hF0 with hF1 | hF1
    · go_enter Tryz.func206, Tryz.ntmps206
      go_wp2_with fail
      refine (ecPartN _ F1 _ (by omega) (by omega)).mono ?_; rintro e w1 ⟨⟨n, d, rfl, h1, h2⟩, hb1⟩
      have S1 := Lib.hid (show w.heap.size + 3 ≤ w1.heap.size by have h9 := hb1.size; (try simp only [World.size_alloc, World.size_setCell, World.size_drew] at h9); omega)
      have NC := Lib.hid ((((Blk.new w 25 #[.int .i64 a, .int .i64 b]).alloc (Obj.cells #[.int .i64 x, .int .i64 y, .int .i64 e] 83)).alloc (Obj.cells #[.int .i64 x, .int .i64 y, .int .i64 e] 83)).on hb1)
      have NP1 := Lib.hid (((show Blk (World.alloc (World.alloc w (Obj.cells #[.int .i64 a, .int .i64 b] 25)) (Obj.cells #[.int .i64 x, .int .i64 y, .int .i64 e] 83)) (w.heap.size + 1) 83 #[.int .i64 x, .int .i64 y, .int .i64 e] by have h9 := (Blk.new (World.alloc w (Obj.cells #[.int .i64 a, .int .i64 b] 25)) 83 #[.int .i64 x, .int .i64 y, .int .i64 e]); (try simp only [World.size_alloc, World.size_setCell] at h9); exact h9).alloc (Obj.cells #[.int .i64 x, .int .i64 y, .int .i64 e] 83)).on hb1)
      have NQ1 := Lib.hid ((show Blk (World.alloc (World.alloc (World.alloc w (Obj.cells #[.int .i64 a, .int .i64 b] 25)) (Obj.cells #[.int .i64 x, .int .i64 y, .int .i64 e] 83)) (Obj.cells #[.int .i64 x, .int .i64 y, .int .i64 e] 83)) (w.heap.size + 1 + 1) 83 #[.int .i64 x, .int .i64 y, .int .i64 e] by have h9 := (Blk.new (World.alloc (World.alloc w (Obj.cells #[.int .i64 a, .int .i64 b] 25)) (Obj.cells #[.int .i64 x, .int .i64 y, .int .i64 e] 83)) 83 #[.int .i64 x, .int .i64 y, .int .i64 e]); (try simp only [World.size_alloc, World.size_setCell] at h9); exact h9).on hb1)
      have C := NC; clear NC
      have P1 := NP1; clear NP1
      have Q1 := NQ1; clear NQ1
      have Hb1 := Lib.hid (bthen (bal (bal (bal (Below.refl w.heap.size w) (Obj.cells #[.int .i64 a, .int .i64 b] 25)) (Obj.cells #[.int .i64 x, .int .i64 y, .int .i64 e] 83)) (Obj.cells #[.int .i64 x, .int .i64 y, .int .i64 e] 83)) hb1)
      clear hb1
      have H9 := Lib.hid (show d = 0 ∨ 1 ≤ d ∧ d ≤ 4000000000000000000 by omega)
      clear h1 h2
      go_wp2
      go_ret2
      exact ⟨⟨n, d, rfl, H9.out⟩, Hb1.out⟩
    · go_enter Tryz.func206, Tryz.ntmps206
      go_wp2_with fail
      refine (ecPartX _ F1 _ (by omega) (by omega)).mono ?_; rintro e w2 ⟨⟨n, d, rfl, h1, h2⟩, hb2⟩
      have S2 := Lib.hid (show w.heap.size + 3 ≤ w2.heap.size by have h9 := hb2.size; (try simp only [World.size_alloc, World.size_setCell, World.size_drew] at h9); omega)
      have NC := Lib.hid ((((Blk.new w 25 #[.int .i64 a, .int .i64 b]).alloc (Obj.cells #[.int .i64 x, .int .i64 y, .int .i64 e] 83)).alloc (Obj.cells #[.int .i64 x, .int .i64 y, .int .i64 e] 83)).on hb2)
      have NP1 := Lib.hid (((show Blk (World.alloc (World.alloc w (Obj.cells #[.int .i64 a, .int .i64 b] 25)) (Obj.cells #[.int .i64 x, .int .i64 y, .int .i64 e] 83)) (w.heap.size + 1) 83 #[.int .i64 x, .int .i64 y, .int .i64 e] by have h9 := (Blk.new (World.alloc w (Obj.cells #[.int .i64 a, .int .i64 b] 25)) 83 #[.int .i64 x, .int .i64 y, .int .i64 e]); (try simp only [World.size_alloc, World.size_setCell] at h9); exact h9).alloc (Obj.cells #[.int .i64 x, .int .i64 y, .int .i64 e] 83)).on hb2)
      have NQ1 := Lib.hid ((show Blk (World.alloc (World.alloc (World.alloc w (Obj.cells #[.int .i64 a, .int .i64 b] 25)) (Obj.cells #[.int .i64 x, .int .i64 y, .int .i64 e] 83)) (Obj.cells #[.int .i64 x, .int .i64 y, .int .i64 e] 83)) (w.heap.size + 1 + 1) 83 #[.int .i64 x, .int .i64 y, .int .i64 e] by have h9 := (Blk.new (World.alloc (World.alloc w (Obj.cells #[.int .i64 a, .int .i64 b] 25)) (Obj.cells #[.int .i64 x, .int .i64 y, .int .i64 e] 83)) 83 #[.int .i64 x, .int .i64 y, .int .i64 e]); (try simp only [World.size_alloc, World.size_setCell] at h9); exact h9).on hb2)
      have C := NC; clear NC
      have P1 := NP1; clear NP1
      have Q1 := NQ1; clear NQ1
      have Hb2 := Lib.hid (bthen (bal (bal (bal (Below.refl w.heap.size w) (Obj.cells #[.int .i64 a, .int .i64 b] 25)) (Obj.cells #[.int .i64 x, .int .i64 y, .int .i64 e] 83)) (Obj.cells #[.int .i64 x, .int .i64 y, .int .i64 e] 83)) hb2)
      clear hb2
      have H9 := Lib.hid (show d = 0 ∨ 1 ≤ d ∧ d ≤ 4000000000000000000 by omega)
      clear h1 h2
      go_wp2
      go_ret2
      exact ⟨⟨n, d, rfl, H9.out⟩, Hb2.out⟩
set_option linter.unusedSimpArgs false in
set_option linter.unusedVariables false in
set_option maxRecDepth 8000 in
set_option maxHeartbeats 8000000 in
theorem ptSlopeG (a b x1 y1 e1 x2 y2 e2 : Int) (w : World) (hx1 : -10000 ≤ x1 ∧ x1 ≤ 10000) (hx2 : -10000 ≤ x2 ∧ x2 ≤ 10000) (he1 : 0 ≤ e1 ∧ e1 ≤ 20) (he2 : 0 ≤ e2 ∧ e2 ≤ 20) (hne : ¬ (x1 = x2 ∧ y1 = y2 ∧ e1 = e2)) :
    Calls Tryz.prog 206 #[.agg #[.int .i64 a, .int .i64 b], .agg #[.int .i64 x1, .int .i64 y1, .int .i64 e1], .agg #[.int .i64 x2, .int .i64 y2, .int .i64 e2]] w fun e w' => (∃ n d : Int, e = .returned (.tuple #[.int .i64 n, .int .i64 d]) ∧ (d = 0 ∨ 1 ≤ d ∧ d ≤ 4000000000000000000)) ∧ Below w.heap.size w w' := by
  obtain ⟨m1, m2⟩ := mul_bd e1 e2 20 20 (by omega) (by omega) (by omega) (by omega)
  obtain ⟨m3, m4⟩ := mul_bd x2 e1 10000 20 (by omega) (by omega) (by omega) (by omega)
  obtain ⟨m5, m6⟩ := mul_bd (x2 * e1) e1 200000 20 (by omega) (by omega) (by omega) (by omega)
  obtain ⟨m7, m8⟩ := mul_bd x1 e2 10000 20 (by omega) (by omega) (by omega) (by omega)
  obtain ⟨m9, m10⟩ := mul_bd (x1 * e2) e2 200000 20 (by omega) (by omega) (by omega) (by omega)
  obtain ⟨m11, m12⟩ := mul_bd (e1 * e2) (x2 * e1 * e1 - x1 * e2 * e2) 400 8000000 (by omega) (by omega) (by omega) (by omega)
  obtain ⟨F1, hF⟩ : ∃ z, e1 * e2 * (x2 * e1 * e1 - x1 * e2 * e2) = z := ⟨_, rfl⟩
  rw [hF] at m11 m12
  by_cases hx : x1 = x2
  · by_cases hy : y1 = y2
    · have he : ¬ e1 = e2 := fun h => hne ⟨hx, hy, h⟩
      have zx1x2 : (x1 == x2) = true := by rw [hx]; simp
      have vx1x2 : decide (x1 = x2) = true := decide_eq_true hx
      have zy1y2 : (y1 == y2) = true := by rw [hy]; simp
      have vy1y2 : decide (y1 = y2) = true := decide_eq_true hy
      have ze1e2 : (e1 == e2) = false := beq_eq_false_iff_ne.2 he
      have ve1e2 : decide (e1 = e2) = false := decide_eq_false he
      clear hx hy hne
      by_cases hF0 : F1 = 0
      · have z0 : (F1 == 0) = true := by rw [hF0]; rfl
        go_enter Tryz.func206, Tryz.ntmps206
        go_wp2
        go_ret2
        exact ⟨⟨1, 0, rfl, Or.inl rfl⟩, (bal (bal (bal (Below.refl w.heap.size w) (Obj.cells #[.int .i64 a, .int .i64 b] 25)) (Obj.cells #[.int .i64 x1, .int .i64 y1, .int .i64 e1] 83)) (Obj.cells #[.int .i64 x2, .int .i64 y2, .int .i64 e2] 83))⟩
      · have z0 : (F1 == 0) = false := beq_eq_false_iff_ne.2 hF0
        rcases Int.lt_or_gt_of_ne hF0 with hF1 | hF1
        · go_enter Tryz.func206, Tryz.ntmps206
          go_wp2_with fail
          refine (ecPartN _ F1 _ (by omega) (by omega)).mono ?_; rintro e w1 ⟨⟨n, d, rfl, h1, h2⟩, hb1⟩
          have S1 := Lib.hid (show w.heap.size + 3 ≤ w1.heap.size by have h9 := hb1.size; (try simp only [World.size_alloc, World.size_setCell, World.size_drew] at h9); omega)
          have NC := Lib.hid ((((Blk.new w 25 #[.int .i64 a, .int .i64 b]).alloc (Obj.cells #[.int .i64 x1, .int .i64 y1, .int .i64 e1] 83)).alloc (Obj.cells #[.int .i64 x2, .int .i64 y2, .int .i64 e2] 83)).on hb1)
          have NP1 := Lib.hid (((show Blk (World.alloc (World.alloc w (Obj.cells #[.int .i64 a, .int .i64 b] 25)) (Obj.cells #[.int .i64 x1, .int .i64 y1, .int .i64 e1] 83)) (w.heap.size + 1) 83 #[.int .i64 x1, .int .i64 y1, .int .i64 e1] by have h9 := (Blk.new (World.alloc w (Obj.cells #[.int .i64 a, .int .i64 b] 25)) 83 #[.int .i64 x1, .int .i64 y1, .int .i64 e1]); (try simp only [World.size_alloc, World.size_setCell] at h9); exact h9).alloc (Obj.cells #[.int .i64 x2, .int .i64 y2, .int .i64 e2] 83)).on hb1)
          have NQ1 := Lib.hid ((show Blk (World.alloc (World.alloc (World.alloc w (Obj.cells #[.int .i64 a, .int .i64 b] 25)) (Obj.cells #[.int .i64 x1, .int .i64 y1, .int .i64 e1] 83)) (Obj.cells #[.int .i64 x2, .int .i64 y2, .int .i64 e2] 83)) (w.heap.size + 1 + 1) 83 #[.int .i64 x2, .int .i64 y2, .int .i64 e2] by have h9 := (Blk.new (World.alloc (World.alloc w (Obj.cells #[.int .i64 a, .int .i64 b] 25)) (Obj.cells #[.int .i64 x1, .int .i64 y1, .int .i64 e1] 83)) 83 #[.int .i64 x2, .int .i64 y2, .int .i64 e2]); (try simp only [World.size_alloc, World.size_setCell] at h9); exact h9).on hb1)
          have C := NC; clear NC
          have P1 := NP1; clear NP1
          have Q1 := NQ1; clear NQ1
          have Hb1 := Lib.hid (bthen (bal (bal (bal (Below.refl w.heap.size w) (Obj.cells #[.int .i64 a, .int .i64 b] 25)) (Obj.cells #[.int .i64 x1, .int .i64 y1, .int .i64 e1] 83)) (Obj.cells #[.int .i64 x2, .int .i64 y2, .int .i64 e2] 83)) hb1)
          clear hb1
          have H9 := Lib.hid (show d = 0 ∨ 1 ≤ d ∧ d ≤ 4000000000000000000 by omega)
          clear h1 h2
          go_wp2
          go_ret2
          exact ⟨⟨n, d, rfl, H9.out⟩, Hb1.out⟩
        · go_enter Tryz.func206, Tryz.ntmps206
          go_wp2_with fail
          refine (ecPartX _ F1 _ (by omega) (by omega)).mono ?_; rintro e w2 ⟨⟨n, d, rfl, h1, h2⟩, hb2⟩
          have S2 := Lib.hid (show w.heap.size + 3 ≤ w2.heap.size by have h9 := hb2.size; (try simp only [World.size_alloc, World.size_setCell, World.size_drew] at h9); omega)
          have NC := Lib.hid ((((Blk.new w 25 #[.int .i64 a, .int .i64 b]).alloc (Obj.cells #[.int .i64 x1, .int .i64 y1, .int .i64 e1] 83)).alloc (Obj.cells #[.int .i64 x2, .int .i64 y2, .int .i64 e2] 83)).on hb2)
          have NP1 := Lib.hid (((show Blk (World.alloc (World.alloc w (Obj.cells #[.int .i64 a, .int .i64 b] 25)) (Obj.cells #[.int .i64 x1, .int .i64 y1, .int .i64 e1] 83)) (w.heap.size + 1) 83 #[.int .i64 x1, .int .i64 y1, .int .i64 e1] by have h9 := (Blk.new (World.alloc w (Obj.cells #[.int .i64 a, .int .i64 b] 25)) 83 #[.int .i64 x1, .int .i64 y1, .int .i64 e1]); (try simp only [World.size_alloc, World.size_setCell] at h9); exact h9).alloc (Obj.cells #[.int .i64 x2, .int .i64 y2, .int .i64 e2] 83)).on hb2)
          have NQ1 := Lib.hid ((show Blk (World.alloc (World.alloc (World.alloc w (Obj.cells #[.int .i64 a, .int .i64 b] 25)) (Obj.cells #[.int .i64 x1, .int .i64 y1, .int .i64 e1] 83)) (Obj.cells #[.int .i64 x2, .int .i64 y2, .int .i64 e2] 83)) (w.heap.size + 1 + 1) 83 #[.int .i64 x2, .int .i64 y2, .int .i64 e2] by have h9 := (Blk.new (World.alloc (World.alloc w (Obj.cells #[.int .i64 a, .int .i64 b] 25)) (Obj.cells #[.int .i64 x1, .int .i64 y1, .int .i64 e1] 83)) 83 #[.int .i64 x2, .int .i64 y2, .int .i64 e2]); (try simp only [World.size_alloc, World.size_setCell] at h9); exact h9).on hb2)
          have C := NC; clear NC
          have P1 := NP1; clear NP1
          have Q1 := NQ1; clear NQ1
          have Hb2 := Lib.hid (bthen (bal (bal (bal (Below.refl w.heap.size w) (Obj.cells #[.int .i64 a, .int .i64 b] 25)) (Obj.cells #[.int .i64 x1, .int .i64 y1, .int .i64 e1] 83)) (Obj.cells #[.int .i64 x2, .int .i64 y2, .int .i64 e2] 83)) hb2)
          clear hb2
          have H9 := Lib.hid (show d = 0 ∨ 1 ≤ d ∧ d ≤ 4000000000000000000 by omega)
          clear h1 h2
          go_wp2
          go_ret2
          exact ⟨⟨n, d, rfl, H9.out⟩, Hb2.out⟩
    · have zx1x2 : (x1 == x2) = true := by rw [hx]; simp
      have vx1x2 : decide (x1 = x2) = true := decide_eq_true hx
      have zy1y2 : (y1 == y2) = false := beq_eq_false_iff_ne.2 hy
      have vy1y2 : decide (y1 = y2) = false := decide_eq_false hy
      clear hx hne
      by_cases hF0 : F1 = 0
      · have z0 : (F1 == 0) = true := by rw [hF0]; rfl
        go_enter Tryz.func206, Tryz.ntmps206
        go_wp2
        go_ret2
        exact ⟨⟨1, 0, rfl, Or.inl rfl⟩, (bal (bal (bal (Below.refl w.heap.size w) (Obj.cells #[.int .i64 a, .int .i64 b] 25)) (Obj.cells #[.int .i64 x1, .int .i64 y1, .int .i64 e1] 83)) (Obj.cells #[.int .i64 x2, .int .i64 y2, .int .i64 e2] 83))⟩
      · have z0 : (F1 == 0) = false := beq_eq_false_iff_ne.2 hF0
        rcases Int.lt_or_gt_of_ne hF0 with hF1 | hF1
        · go_enter Tryz.func206, Tryz.ntmps206
          go_wp2_with fail
          refine (ecPartN _ F1 _ (by omega) (by omega)).mono ?_; rintro e w3 ⟨⟨n, d, rfl, h1, h2⟩, hb3⟩
          have S3 := Lib.hid (show w.heap.size + 3 ≤ w3.heap.size by have h9 := hb3.size; (try simp only [World.size_alloc, World.size_setCell, World.size_drew] at h9); omega)
          have NC := Lib.hid ((((Blk.new w 25 #[.int .i64 a, .int .i64 b]).alloc (Obj.cells #[.int .i64 x1, .int .i64 y1, .int .i64 e1] 83)).alloc (Obj.cells #[.int .i64 x2, .int .i64 y2, .int .i64 e2] 83)).on hb3)
          have NP1 := Lib.hid (((show Blk (World.alloc (World.alloc w (Obj.cells #[.int .i64 a, .int .i64 b] 25)) (Obj.cells #[.int .i64 x1, .int .i64 y1, .int .i64 e1] 83)) (w.heap.size + 1) 83 #[.int .i64 x1, .int .i64 y1, .int .i64 e1] by have h9 := (Blk.new (World.alloc w (Obj.cells #[.int .i64 a, .int .i64 b] 25)) 83 #[.int .i64 x1, .int .i64 y1, .int .i64 e1]); (try simp only [World.size_alloc, World.size_setCell] at h9); exact h9).alloc (Obj.cells #[.int .i64 x2, .int .i64 y2, .int .i64 e2] 83)).on hb3)
          have NQ1 := Lib.hid ((show Blk (World.alloc (World.alloc (World.alloc w (Obj.cells #[.int .i64 a, .int .i64 b] 25)) (Obj.cells #[.int .i64 x1, .int .i64 y1, .int .i64 e1] 83)) (Obj.cells #[.int .i64 x2, .int .i64 y2, .int .i64 e2] 83)) (w.heap.size + 1 + 1) 83 #[.int .i64 x2, .int .i64 y2, .int .i64 e2] by have h9 := (Blk.new (World.alloc (World.alloc w (Obj.cells #[.int .i64 a, .int .i64 b] 25)) (Obj.cells #[.int .i64 x1, .int .i64 y1, .int .i64 e1] 83)) 83 #[.int .i64 x2, .int .i64 y2, .int .i64 e2]); (try simp only [World.size_alloc, World.size_setCell] at h9); exact h9).on hb3)
          have C := NC; clear NC
          have P1 := NP1; clear NP1
          have Q1 := NQ1; clear NQ1
          have Hb3 := Lib.hid (bthen (bal (bal (bal (Below.refl w.heap.size w) (Obj.cells #[.int .i64 a, .int .i64 b] 25)) (Obj.cells #[.int .i64 x1, .int .i64 y1, .int .i64 e1] 83)) (Obj.cells #[.int .i64 x2, .int .i64 y2, .int .i64 e2] 83)) hb3)
          clear hb3
          have H9 := Lib.hid (show d = 0 ∨ 1 ≤ d ∧ d ≤ 4000000000000000000 by omega)
          clear h1 h2
          go_wp2
          go_ret2
          exact ⟨⟨n, d, rfl, H9.out⟩, Hb3.out⟩
        · go_enter Tryz.func206, Tryz.ntmps206
          go_wp2_with fail
          refine (ecPartX _ F1 _ (by omega) (by omega)).mono ?_; rintro e w4 ⟨⟨n, d, rfl, h1, h2⟩, hb4⟩
          have S4 := Lib.hid (show w.heap.size + 3 ≤ w4.heap.size by have h9 := hb4.size; (try simp only [World.size_alloc, World.size_setCell, World.size_drew] at h9); omega)
          have NC := Lib.hid ((((Blk.new w 25 #[.int .i64 a, .int .i64 b]).alloc (Obj.cells #[.int .i64 x1, .int .i64 y1, .int .i64 e1] 83)).alloc (Obj.cells #[.int .i64 x2, .int .i64 y2, .int .i64 e2] 83)).on hb4)
          have NP1 := Lib.hid (((show Blk (World.alloc (World.alloc w (Obj.cells #[.int .i64 a, .int .i64 b] 25)) (Obj.cells #[.int .i64 x1, .int .i64 y1, .int .i64 e1] 83)) (w.heap.size + 1) 83 #[.int .i64 x1, .int .i64 y1, .int .i64 e1] by have h9 := (Blk.new (World.alloc w (Obj.cells #[.int .i64 a, .int .i64 b] 25)) 83 #[.int .i64 x1, .int .i64 y1, .int .i64 e1]); (try simp only [World.size_alloc, World.size_setCell] at h9); exact h9).alloc (Obj.cells #[.int .i64 x2, .int .i64 y2, .int .i64 e2] 83)).on hb4)
          have NQ1 := Lib.hid ((show Blk (World.alloc (World.alloc (World.alloc w (Obj.cells #[.int .i64 a, .int .i64 b] 25)) (Obj.cells #[.int .i64 x1, .int .i64 y1, .int .i64 e1] 83)) (Obj.cells #[.int .i64 x2, .int .i64 y2, .int .i64 e2] 83)) (w.heap.size + 1 + 1) 83 #[.int .i64 x2, .int .i64 y2, .int .i64 e2] by have h9 := (Blk.new (World.alloc (World.alloc w (Obj.cells #[.int .i64 a, .int .i64 b] 25)) (Obj.cells #[.int .i64 x1, .int .i64 y1, .int .i64 e1] 83)) 83 #[.int .i64 x2, .int .i64 y2, .int .i64 e2]); (try simp only [World.size_alloc, World.size_setCell] at h9); exact h9).on hb4)
          have C := NC; clear NC
          have P1 := NP1; clear NP1
          have Q1 := NQ1; clear NQ1
          have Hb4 := Lib.hid (bthen (bal (bal (bal (Below.refl w.heap.size w) (Obj.cells #[.int .i64 a, .int .i64 b] 25)) (Obj.cells #[.int .i64 x1, .int .i64 y1, .int .i64 e1] 83)) (Obj.cells #[.int .i64 x2, .int .i64 y2, .int .i64 e2] 83)) hb4)
          clear hb4
          have H9 := Lib.hid (show d = 0 ∨ 1 ≤ d ∧ d ≤ 4000000000000000000 by omega)
          clear h1 h2
          go_wp2
          go_ret2
          exact ⟨⟨n, d, rfl, H9.out⟩, Hb4.out⟩
  · have zx1x2 : (x1 == x2) = false := beq_eq_false_iff_ne.2 hx
    have vx1x2 : decide (x1 = x2) = false := decide_eq_false hx
    clear hne
    by_cases hF0 : F1 = 0
    · have z0 : (F1 == 0) = true := by rw [hF0]; rfl
      go_enter Tryz.func206, Tryz.ntmps206
      go_wp2
      go_ret2
      exact ⟨⟨1, 0, rfl, Or.inl rfl⟩, (bal (bal (bal (Below.refl w.heap.size w) (Obj.cells #[.int .i64 a, .int .i64 b] 25)) (Obj.cells #[.int .i64 x1, .int .i64 y1, .int .i64 e1] 83)) (Obj.cells #[.int .i64 x2, .int .i64 y2, .int .i64 e2] 83))⟩
    · have z0 : (F1 == 0) = false := beq_eq_false_iff_ne.2 hF0
      rcases Int.lt_or_gt_of_ne hF0 with hF1 | hF1
      · go_enter Tryz.func206, Tryz.ntmps206
        go_wp2_with fail
        refine (ecPartN _ F1 _ (by omega) (by omega)).mono ?_; rintro e w5 ⟨⟨n, d, rfl, h1, h2⟩, hb5⟩
        have S5 := Lib.hid (show w.heap.size + 3 ≤ w5.heap.size by have h9 := hb5.size; (try simp only [World.size_alloc, World.size_setCell, World.size_drew] at h9); omega)
        have NC := Lib.hid ((((Blk.new w 25 #[.int .i64 a, .int .i64 b]).alloc (Obj.cells #[.int .i64 x1, .int .i64 y1, .int .i64 e1] 83)).alloc (Obj.cells #[.int .i64 x2, .int .i64 y2, .int .i64 e2] 83)).on hb5)
        have NP1 := Lib.hid (((show Blk (World.alloc (World.alloc w (Obj.cells #[.int .i64 a, .int .i64 b] 25)) (Obj.cells #[.int .i64 x1, .int .i64 y1, .int .i64 e1] 83)) (w.heap.size + 1) 83 #[.int .i64 x1, .int .i64 y1, .int .i64 e1] by have h9 := (Blk.new (World.alloc w (Obj.cells #[.int .i64 a, .int .i64 b] 25)) 83 #[.int .i64 x1, .int .i64 y1, .int .i64 e1]); (try simp only [World.size_alloc, World.size_setCell] at h9); exact h9).alloc (Obj.cells #[.int .i64 x2, .int .i64 y2, .int .i64 e2] 83)).on hb5)
        have NQ1 := Lib.hid ((show Blk (World.alloc (World.alloc (World.alloc w (Obj.cells #[.int .i64 a, .int .i64 b] 25)) (Obj.cells #[.int .i64 x1, .int .i64 y1, .int .i64 e1] 83)) (Obj.cells #[.int .i64 x2, .int .i64 y2, .int .i64 e2] 83)) (w.heap.size + 1 + 1) 83 #[.int .i64 x2, .int .i64 y2, .int .i64 e2] by have h9 := (Blk.new (World.alloc (World.alloc w (Obj.cells #[.int .i64 a, .int .i64 b] 25)) (Obj.cells #[.int .i64 x1, .int .i64 y1, .int .i64 e1] 83)) 83 #[.int .i64 x2, .int .i64 y2, .int .i64 e2]); (try simp only [World.size_alloc, World.size_setCell] at h9); exact h9).on hb5)
        have C := NC; clear NC
        have P1 := NP1; clear NP1
        have Q1 := NQ1; clear NQ1
        have Hb5 := Lib.hid (bthen (bal (bal (bal (Below.refl w.heap.size w) (Obj.cells #[.int .i64 a, .int .i64 b] 25)) (Obj.cells #[.int .i64 x1, .int .i64 y1, .int .i64 e1] 83)) (Obj.cells #[.int .i64 x2, .int .i64 y2, .int .i64 e2] 83)) hb5)
        clear hb5
        have H9 := Lib.hid (show d = 0 ∨ 1 ≤ d ∧ d ≤ 4000000000000000000 by omega)
        clear h1 h2
        go_wp2
        go_ret2
        exact ⟨⟨n, d, rfl, H9.out⟩, Hb5.out⟩
      · go_enter Tryz.func206, Tryz.ntmps206
        go_wp2_with fail
        refine (ecPartX _ F1 _ (by omega) (by omega)).mono ?_; rintro e w6 ⟨⟨n, d, rfl, h1, h2⟩, hb6⟩
        have S6 := Lib.hid (show w.heap.size + 3 ≤ w6.heap.size by have h9 := hb6.size; (try simp only [World.size_alloc, World.size_setCell, World.size_drew] at h9); omega)
        have NC := Lib.hid ((((Blk.new w 25 #[.int .i64 a, .int .i64 b]).alloc (Obj.cells #[.int .i64 x1, .int .i64 y1, .int .i64 e1] 83)).alloc (Obj.cells #[.int .i64 x2, .int .i64 y2, .int .i64 e2] 83)).on hb6)
        have NP1 := Lib.hid (((show Blk (World.alloc (World.alloc w (Obj.cells #[.int .i64 a, .int .i64 b] 25)) (Obj.cells #[.int .i64 x1, .int .i64 y1, .int .i64 e1] 83)) (w.heap.size + 1) 83 #[.int .i64 x1, .int .i64 y1, .int .i64 e1] by have h9 := (Blk.new (World.alloc w (Obj.cells #[.int .i64 a, .int .i64 b] 25)) 83 #[.int .i64 x1, .int .i64 y1, .int .i64 e1]); (try simp only [World.size_alloc, World.size_setCell] at h9); exact h9).alloc (Obj.cells #[.int .i64 x2, .int .i64 y2, .int .i64 e2] 83)).on hb6)
        have NQ1 := Lib.hid ((show Blk (World.alloc (World.alloc (World.alloc w (Obj.cells #[.int .i64 a, .int .i64 b] 25)) (Obj.cells #[.int .i64 x1, .int .i64 y1, .int .i64 e1] 83)) (Obj.cells #[.int .i64 x2, .int .i64 y2, .int .i64 e2] 83)) (w.heap.size + 1 + 1) 83 #[.int .i64 x2, .int .i64 y2, .int .i64 e2] by have h9 := (Blk.new (World.alloc (World.alloc w (Obj.cells #[.int .i64 a, .int .i64 b] 25)) (Obj.cells #[.int .i64 x1, .int .i64 y1, .int .i64 e1] 83)) 83 #[.int .i64 x2, .int .i64 y2, .int .i64 e2]); (try simp only [World.size_alloc, World.size_setCell] at h9); exact h9).on hb6)
        have C := NC; clear NC
        have P1 := NP1; clear NP1
        have Q1 := NQ1; clear NQ1
        have Hb6 := Lib.hid (bthen (bal (bal (bal (Below.refl w.heap.size w) (Obj.cells #[.int .i64 a, .int .i64 b] 25)) (Obj.cells #[.int .i64 x1, .int .i64 y1, .int .i64 e1] 83)) (Obj.cells #[.int .i64 x2, .int .i64 y2, .int .i64 e2] 83)) hb6)
        clear hb6
        have H9 := Lib.hid (show d = 0 ∨ 1 ≤ d ∧ d ≤ 4000000000000000000 by omega)
        clear h1 h2
        go_wp2
        go_ret2
        exact ⟨⟨n, d, rfl, H9.out⟩, Hb6.out⟩
theorem ptSlopeX (a b x1 y1 e1 x2 y2 e2 : Int) (w : World) (hx1 : -10000 ≤ x1 ∧ x1 ≤ 10000) (hx2 : -10000 ≤ x2 ∧ x2 ≤ 10000) (he1 : 0 ≤ e1 ∧ e1 ≤ 20) (he2 : 0 ≤ e2 ∧ e2 ≤ 20) (hy : -1000000 ≤ y2 ∧ y2 ≤ 1000000) :
    Calls Tryz.prog 206 #[.agg #[.int .i64 a, .int .i64 b], .agg #[.int .i64 x1, .int .i64 y1, .int .i64 e1], .agg #[.int .i64 x2, .int .i64 y2, .int .i64 e2]] w fun e w' => (∃ n d : Int, e = .returned (.tuple #[.int .i64 n, .int .i64 d]) ∧ (d = 0 ∨ 1 ≤ d ∧ d ≤ 4000000000000000000)) ∧ Below w.heap.size w w' := by
  by_cases h : x1 = x2 ∧ y1 = y2 ∧ e1 = e2
  · obtain ⟨rfl, rfl, rfl⟩ := h
    exact ptSlopeD a b _ _ _ w he1 hy
  · exact ptSlopeG a b x1 y1 e1 x2 y2 e2 w hx1 hx2 he1 he2 h
end
end Go.Proofs.YtacehhcpfollnaaGreat
