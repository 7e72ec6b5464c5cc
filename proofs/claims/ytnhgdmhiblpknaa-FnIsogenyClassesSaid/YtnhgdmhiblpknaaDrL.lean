/- The reference's source of drawn curves with neighbours. Conditions: a bound on how far the cursor has come. Printed by gen_drl.py. -/
import Derived.Test.YtnhgdmhiblpknaaDrI
import Derived.Test.YtnhgdmhiblpknaaIcG
import Derived.Test.YtnhgdmhiblpknaaDrN
namespace Go.Proofs.Ytnhgdmhiblpknaa
open Go Go.RowKit

set_option linter.unusedSimpArgs false in
set_option maxRecDepth 8000 in
set_option maxHeartbeats 8000000 in
theorem linked_any (g k : Nat) (w : World) (hc : Cur w g k) (hk : k ≤ 600000) :
    Calls Try.prog 59 #[.pointer (some ⟨g, 0, none⟩)] w fun e w' => (∃ a b : Int, e = .returned (.agg #[.int .i64 a, .int .i64 b])) ∧ Cur w' g (k + 50) ∧ Dg g w w' := by
  have Hgl := Lib.hid hc.lt
  have Hc := Lib.hid hc; have Hk := Lib.hid hk; have Hd := Lib.hid (Dg.refl g w); clear hc hk
  go_enter Try.func59, Try.ntmps59
  go_wp2_with fail
  refine (pick_any g k (5) _ (Hc.out.alloc _) (by have := Hk.out; omega)).mono ?_; rintro e w1 ⟨⟨x, lx, ux, rfl⟩, hc1, hd1⟩
  have S1 := Lib.hid (show w.heap.size + 1 ≤ w1.heap.size by have h9 := hd1.size; (try simp only [World.size_alloc, World.size_setCell] at h9); omega)
  have NR := Lib.hid ((Blk.new w 37 #[.int .i64 0, .int .i64 0]).dg hd1 (show w.heap.size ≠ g by have := Hgl.out; have := S1.out; omega))
  have R := NR; clear NR
  have Hc1 := Lib.hid (hc1.mono (j := k + 2) (by omega))
  have Hd1 := Lib.hid ((Hd.out.alloc _).trans hd1)
  clear hc1 hd1
  by_cases ex0 : x = 0
  · have zx0 : (x == 0) = true := by rw [ex0]; rfl
    clear ex0
    go_wp2_with fail
    refine (anyCurve_any g (k + 2) _ Hc1.out (by have := Hk.out; omega)).mono ?_; rintro e w2 ⟨⟨a, b, rfl⟩, hc2, hd2⟩
    have S2 := Lib.hid (show w1.heap.size + 0 ≤ w2.heap.size by have h9 := hd2.size; (try simp only [World.size_alloc, World.size_setCell] at h9); omega)
    have NR := Lib.hid (R.out.dg hd2 (show w.heap.size ≠ g by have := Hgl.out; have := S1.out; have := S2.out; omega))
    have R := NR; clear NR
    have Hc2 := Lib.hid (hc2.mono (j := k + 42) (by omega))
    have Hd2 := Lib.hid (Hd1.out.trans hd2)
    clear hc2 hd2
    have qR0 := R.out.cell 0
    have qR1 := R.out.cell 1
    simp at qR0 qR1
    have qRl := R.out.lt
    have qRf := R.out.frozen
    go_wp2
    clear qR0 qR1 qRl qRf
    have HR9 := (show Blk (World.setCell (World.setCell w2 ⟨w.heap.size, 0, none⟩ (.int .i64 a)) ⟨w.heap.size, 1, none⟩ (.int .i64 b)) (w.heap.size) 37 #[.int .i64 a, .int .i64 b] by have h9 := ((R.out.set 0 (.int .i64 a)).set 1 (.int .i64 b)); simpa using h9)
    have k0 := HR9.cell 0
    have k1 := HR9.cell 1
    simp at k0 k1
    exact bodyPost_ret (v := .agg #[.int .i64 a, .int .i64 b]) (by simp [results, Try.results59, go_sem, k0, k1]) rfl ⟨⟨_, _, rfl⟩, ((Hc2.out.st (p := ⟨w.heap.size, 0, none⟩) (show g < w.heap.size by have := Hgl.out; have := S1.out; have := S2.out; omega) (.int .i64 a)).st (p := ⟨w.heap.size, 1, none⟩) (show g < w.heap.size by have := Hgl.out; have := S1.out; have := S2.out; omega) (.int .i64 b)).mono (by omega), ((Hd2.out.st (p := ⟨w.heap.size, 0, none⟩) (show w.heap.size ≤ w.heap.size by have := Hgl.out; have := S1.out; have := S2.out; omega) (.int .i64 a)).st (p := ⟨w.heap.size, 1, none⟩) (show w.heap.size ≤ w.heap.size by have := Hgl.out; have := S1.out; have := S2.out; omega) (.int .i64 b))⟩
  · by_cases ex1 : x = 1
    · have zx1 : (x == 1) = true := by rw [ex1]; rfl
      have zx0 : (x == 0) = false := by rw [ex1]; rfl
      clear ex0 ex1
      go_wp2_with fail
      refine (pick_any g (k + 2) (7) _ (Hc1.out.alloc _) (by have := Hk.out; omega)).mono ?_; rintro e w3 ⟨⟨y, ly, uy, rfl⟩, hc3, hd3⟩
      have S3 := Lib.hid (show w1.heap.size + 1 ≤ w3.heap.size by have h9 := hd3.size; (try simp only [World.size_alloc, World.size_setCell] at h9); omega)
      have NR := Lib.hid ((R.out.alloc _).dg hd3 (show w.heap.size ≠ g by have := Hgl.out; have := S1.out; have := S3.out; omega))
      have NT7 := Lib.hid ((Blk.new w1 37 #[.int .i64 (-1), .int .i64 0, .int .i64 4, .int .i64 0, .int .i64 (-11), .int .i64 14, .int .i64 (-7), .int .i64 6, .int .i64 (-25), .int .i64 0, .int .i64 (-12), .int .i64 11, .int .i64 1, .int .i64 0]).dg hd3 (show w1.heap.size ≠ g by have := Hgl.out; have := S1.out; have := S3.out; omega))
      have R := NR; clear NR
      have T7 := NT7; clear NT7
      have Hc3 := Lib.hid (hc3.mono (j := k + 4) (by omega))
      have Hd3 := Lib.hid ((Hd1.out.alloc _).trans hd3)
      clear hc3 hd3
      have hy7 : y = 0 ∨ y = 1 ∨ y = 2 ∨ y = 3 ∨ y = 4 ∨ y = 5 ∨ y = 6 := by omega
      clear ly uy
      rcases hy7 with rfl | rfl | rfl | rfl | rfl | rfl | rfl
      · have qT70 := T7.out.cell 0
        have qT71 := T7.out.cell 1
        have qT72 := T7.out.cell 2
        have qT73 := T7.out.cell 3
        have qT74 := T7.out.cell 4
        have qT75 := T7.out.cell 5
        have qT76 := T7.out.cell 6
        have qT77 := T7.out.cell 7
        have qT78 := T7.out.cell 8
        have qT79 := T7.out.cell 9
        have qT710 := T7.out.cell 10
        have qT711 := T7.out.cell 11
        have qT712 := T7.out.cell 12
        have qT713 := T7.out.cell 13
        simp at qT70 qT71 qT72 qT73 qT74 qT75 qT76 qT77 qT78 qT79 qT710 qT711 qT712 qT713
        have qT7l := T7.out.lt
        have qR0 := R.out.cell 0
        have qR1 := R.out.cell 1
        simp at qR0 qR1
        have qRl := R.out.lt
        have qRf := R.out.frozen
        have nRT7 : w.heap.size ≠ w1.heap.size := by have := Hgl.out; have := S1.out; have := S3.out; omega
        have nT7R : w1.heap.size ≠ w.heap.size := fun e => nRT7 e.symm
        go_wp2
        clear qT70 qT71 qT72 qT73 qT74 qT75 qT76 qT77 qT78 qT79 qT710 qT711 qT712 qT713 qT7l qR0 qR1 qRl qRf nRT7 nT7R
        have HR9 := (show Blk (World.setCell (World.setCell w3 ⟨w.heap.size, 0, none⟩ (.int .i64 (-1))) ⟨w.heap.size, 1, none⟩ (.int .i64 0)) (w.heap.size) 37 #[.int .i64 (-1), .int .i64 0] by have h9 := ((R.out.set 0 (.int .i64 (-1))).set 1 (.int .i64 0)); simpa using h9)
        have k0 := HR9.cell 0
        have k1 := HR9.cell 1
        simp at k0 k1
        exact bodyPost_ret (v := .agg #[.int .i64 (-1), .int .i64 0]) (by simp [results, Try.results59, go_sem, k0, k1]) rfl ⟨⟨_, _, rfl⟩, ((Hc3.out.st (p := ⟨w.heap.size, 0, none⟩) (show g < w.heap.size by have := Hgl.out; have := S1.out; have := S3.out; omega) (.int .i64 (-1))).st (p := ⟨w.heap.size, 1, none⟩) (show g < w.heap.size by have := Hgl.out; have := S1.out; have := S3.out; omega) (.int .i64 0)).mono (by omega), ((Hd3.out.st (p := ⟨w.heap.size, 0, none⟩) (show w.heap.size ≤ w.heap.size by have := Hgl.out; have := S1.out; have := S3.out; omega) (.int .i64 (-1))).st (p := ⟨w.heap.size, 1, none⟩) (show w.heap.size ≤ w.heap.size by have := Hgl.out; have := S1.out; have := S3.out; omega) (.int .i64 0))⟩
      · have qT70 := T7.out.cell 0
        have qT71 := T7.out.cell 1
        have qT72 := T7.out.cell 2
        have qT73 := T7.out.cell 3
        have qT74 := T7.out.cell 4
        have qT75 := T7.out.cell 5
        have qT76 := T7.out.cell 6
        have qT77 := T7.out.cell 7
        have qT78 := T7.out.cell 8
        have qT79 := T7.out.cell 9
        have qT710 := T7.out.cell 10
        have qT711 := T7.out.cell 11
        have qT712 := T7.out.cell 12
        have qT713 := T7.out.cell 13
        simp at qT70 qT71 qT72 qT73 qT74 qT75 qT76 qT77 qT78 qT79 qT710 qT711 qT712 qT713
        have qT7l := T7.out.lt
        have qR0 := R.out.cell 0
        have qR1 := R.out.cell 1
        simp at qR0 qR1
        have qRl := R.out.lt
        have qRf := R.out.frozen
        have nRT7 : w.heap.size ≠ w1.heap.size := by have := Hgl.out; have := S1.out; have := S3.out; omega
        have nT7R : w1.heap.size ≠ w.heap.size := fun e => nRT7 e.symm
        go_wp2
        clear qT70 qT71 qT72 qT73 qT74 qT75 qT76 qT77 qT78 qT79 qT710 qT711 qT712 qT713 qT7l qR0 qR1 qRl qRf nRT7 nT7R
        have HR9 := (show Blk (World.setCell (World.setCell w3 ⟨w.heap.size, 0, none⟩ (.int .i64 4)) ⟨w.heap.size, 1, none⟩ (.int .i64 0)) (w.heap.size) 37 #[.int .i64 4, .int .i64 0] by have h9 := ((R.out.set 0 (.int .i64 4)).set 1 (.int .i64 0)); simpa using h9)
        have k0 := HR9.cell 0
        have k1 := HR9.cell 1
        simp at k0 k1
        exact bodyPost_ret (v := .agg #[.int .i64 4, .int .i64 0]) (by simp [results, Try.results59, go_sem, k0, k1]) rfl ⟨⟨_, _, rfl⟩, ((Hc3.out.st (p := ⟨w.heap.size, 0, none⟩) (show g < w.heap.size by have := Hgl.out; have := S1.out; have := S3.out; omega) (.int .i64 4)).st (p := ⟨w.heap.size, 1, none⟩) (show g < w.heap.size by have := Hgl.out; have := S1.out; have := S3.out; omega) (.int .i64 0)).mono (by omega), ((Hd3.out.st (p := ⟨w.heap.size, 0, none⟩) (show w.heap.size ≤ w.heap.size by have := Hgl.out; have := S1.out; have := S3.out; omega) (.int .i64 4)).st (p := ⟨w.heap.size, 1, none⟩) (show w.heap.size ≤ w.heap.size by have := Hgl.out; have := S1.out; have := S3.out; omega) (.int .i64 0))⟩
      · have qT70 := T7.out.cell 0
        have qT71 := T7.out.cell 1
        have qT72 := T7.out.cell 2
        have qT73 := T7.out.cell 3
        have qT74 := T7.out.cell 4
        have qT75 := T7.out.cell 5
        have qT76 := T7.out.cell 6
        have qT77 := T7.out.cell 7
        have qT78 := T7.out.cell 8
        have qT79 := T7.out.cell 9
        have qT710 := T7.out.cell 10
        have qT711 := T7.out.cell 11
        have qT712 := T7.out.cell 12
        have qT713 := T7.out.cell 13
        simp at qT70 qT71 qT72 qT73 qT74 qT75 qT76 qT77 qT78 qT79 qT710 qT711 qT712 qT713
        have qT7l := T7.out.lt
        have qR0 := R.out.cell 0
        have qR1 := R.out.cell 1
        simp at qR0 qR1
        have qRl := R.out.lt
        have qRf := R.out.frozen
        have nRT7 : w.heap.size ≠ w1.heap.size := by have := Hgl.out; have := S1.out; have := S3.out; omega
        have nT7R : w1.heap.size ≠ w.heap.size := fun e => nRT7 e.symm
        go_wp2
        clear qT70 qT71 qT72 qT73 qT74 qT75 qT76 qT77 qT78 qT79 qT710 qT711 qT712 qT713 qT7l qR0 qR1 qRl qRf nRT7 nT7R
        have HR9 := (show Blk (World.setCell (World.setCell w3 ⟨w.heap.size, 0, none⟩ (.int .i64 (-11))) ⟨w.heap.size, 1, none⟩ (.int .i64 14)) (w.heap.size) 37 #[.int .i64 (-11), .int .i64 14] by have h9 := ((R.out.set 0 (.int .i64 (-11))).set 1 (.int .i64 14)); simpa using h9)
        have k0 := HR9.cell 0
        have k1 := HR9.cell 1
        simp at k0 k1
        exact bodyPost_ret (v := .agg #[.int .i64 (-11), .int .i64 14]) (by simp [results, Try.results59, go_sem, k0, k1]) rfl ⟨⟨_, _, rfl⟩, ((Hc3.out.st (p := ⟨w.heap.size, 0, none⟩) (show g < w.heap.size by have := Hgl.out; have := S1.out; have := S3.out; omega) (.int .i64 (-11))).st (p := ⟨w.heap.size, 1, none⟩) (show g < w.heap.size by have := Hgl.out; have := S1.out; have := S3.out; omega) (.int .i64 14)).mono (by omega), ((Hd3.out.st (p := ⟨w.heap.size, 0, none⟩) (show w.heap.size ≤ w.heap.size by have := Hgl.out; have := S1.out; have := S3.out; omega) (.int .i64 (-11))).st (p := ⟨w.heap.size, 1, none⟩) (show w.heap.size ≤ w.heap.size by have := Hgl.out; have := S1.out; have := S3.out; omega) (.int .i64 14))⟩
      · have qT70 := T7.out.cell 0
        have qT71 := T7.out.cell 1
        have qT72 := T7.out.cell 2
        have qT73 := T7.out.cell 3
        have qT74 := T7.out.cell 4
        have qT75 := T7.out.cell 5
        have qT76 := T7.out.cell 6
        have qT77 := T7.out.cell 7
        have qT78 := T7.out.cell 8
        have qT79 := T7.out.cell 9
        have qT710 := T7.out.cell 10
        have qT711 := T7.out.cell 11
        have qT712 := T7.out.cell 12
        have qT713 := T7.out.cell 13
        simp at qT70 qT71 qT72 qT73 qT74 qT75 qT76 qT77 qT78 qT79 qT710 qT711 qT712 qT713
        have qT7l := T7.out.lt
        have qR0 := R.out.cell 0
        have qR1 := R.out.cell 1
        simp at qR0 qR1
        have qRl := R.out.lt
        have qRf := R.out.frozen
        have nRT7 : w.heap.size ≠ w1.heap.size := by have := Hgl.out; have := S1.out; have := S3.out; omega
        have nT7R : w1.heap.size ≠ w.heap.size := fun e => nRT7 e.symm
        go_wp2
        clear qT70 qT71 qT72 qT73 qT74 qT75 qT76 qT77 qT78 qT79 qT710 qT711 qT712 qT713 qT7l qR0 qR1 qRl qRf nRT7 nT7R
        have HR9 := (show Blk (World.setCell (World.setCell w3 ⟨w.heap.size, 0, none⟩ (.int .i64 (-7))) ⟨w.heap.size, 1, none⟩ (.int .i64 6)) (w.heap.size) 37 #[.int .i64 (-7), .int .i64 6] by have h9 := ((R.out.set 0 (.int .i64 (-7))).set 1 (.int .i64 6)); simpa using h9)
        have k0 := HR9.cell 0
        have k1 := HR9.cell 1
        simp at k0 k1
        exact bodyPost_ret (v := .agg #[.int .i64 (-7), .int .i64 6]) (by simp [results, Try.results59, go_sem, k0, k1]) rfl ⟨⟨_, _, rfl⟩, ((Hc3.out.st (p := ⟨w.heap.size, 0, none⟩) (show g < w.heap.size by have := Hgl.out; have := S1.out; have := S3.out; omega) (.int .i64 (-7))).st (p := ⟨w.heap.size, 1, none⟩) (show g < w.heap.size by have := Hgl.out; have := S1.out; have := S3.out; omega) (.int .i64 6)).mono (by omega), ((Hd3.out.st (p := ⟨w.heap.size, 0, none⟩) (show w.heap.size ≤ w.heap.size by have := Hgl.out; have := S1.out; have := S3.out; omega) (.int .i64 (-7))).st (p := ⟨w.heap.size, 1, none⟩) (show w.heap.size ≤ w.heap.size by have := Hgl.out; have := S1.out; have := S3.out; omega) (.int .i64 6))⟩
      · have qT70 := T7.out.cell 0
        have qT71 := T7.out.cell 1
        have qT72 := T7.out.cell 2
        have qT73 := T7.out.cell 3
        have qT74 := T7.out.cell 4
        have qT75 := T7.out.cell 5
        have qT76 := T7.out.cell 6
        have qT77 := T7.out.cell 7
        have qT78 := T7.out.cell 8
        have qT79 := T7.out.cell 9
        have qT710 := T7.out.cell 10
        have qT711 := T7.out.cell 11
        have qT712 := T7.out.cell 12
        have qT713 := T7.out.cell 13
        simp at qT70 qT71 qT72 qT73 qT74 qT75 qT76 qT77 qT78 qT79 qT710 qT711 qT712 qT713
        have qT7l := T7.out.lt
        have qR0 := R.out.cell 0
        have qR1 := R.out.cell 1
        simp at qR0 qR1
        have qRl := R.out.lt
        have qRf := R.out.frozen
        have nRT7 : w.heap.size ≠ w1.heap.size := by have := Hgl.out; have := S1.out; have := S3.out; omega
        have nT7R : w1.heap.size ≠ w.heap.size := fun e => nRT7 e.symm
        go_wp2
        clear qT70 qT71 qT72 qT73 qT74 qT75 qT76 qT77 qT78 qT79 qT710 qT711 qT712 qT713 qT7l qR0 qR1 qRl qRf nRT7 nT7R
        have HR9 := (show Blk (World.setCell (World.setCell w3 ⟨w.heap.size, 0, none⟩ (.int .i64 (-25))) ⟨w.heap.size, 1, none⟩ (.int .i64 0)) (w.heap.size) 37 #[.int .i64 (-25), .int .i64 0] by have h9 := ((R.out.set 0 (.int .i64 (-25))).set 1 (.int .i64 0)); simpa using h9)
        have k0 := HR9.cell 0
        have k1 := HR9.cell 1
        simp at k0 k1
        exact bodyPost_ret (v := .agg #[.int .i64 (-25), .int .i64 0]) (by simp [results, Try.results59, go_sem, k0, k1]) rfl ⟨⟨_, _, rfl⟩, ((Hc3.out.st (p := ⟨w.heap.size, 0, none⟩) (show g < w.heap.size by have := Hgl.out; have := S1.out; have := S3.out; omega) (.int .i64 (-25))).st (p := ⟨w.heap.size, 1, none⟩) (show g < w.heap.size by have := Hgl.out; have := S1.out; have := S3.out; omega) (.int .i64 0)).mono (by omega), ((Hd3.out.st (p := ⟨w.heap.size, 0, none⟩) (show w.heap.size ≤ w.heap.size by have := Hgl.out; have := S1.out; have := S3.out; omega) (.int .i64 (-25))).st (p := ⟨w.heap.size, 1, none⟩) (show w.heap.size ≤ w.heap.size by have := Hgl.out; have := S1.out; have := S3.out; omega) (.int .i64 0))⟩
      · have qT70 := T7.out.cell 0
        have qT71 := T7.out.cell 1
        have qT72 := T7.out.cell 2
        have qT73 := T7.out.cell 3
        have qT74 := T7.out.cell 4
        have qT75 := T7.out.cell 5
        have qT76 := T7.out.cell 6
        have qT77 := T7.out.cell 7
        have qT78 := T7.out.cell 8
        have qT79 := T7.out.cell 9
        have qT710 := T7.out.cell 10
        have qT711 := T7.out.cell 11
        have qT712 := T7.out.cell 12
        have qT713 := T7.out.cell 13
        simp at qT70 qT71 qT72 qT73 qT74 qT75 qT76 qT77 qT78 qT79 qT710 qT711 qT712 qT713
        have qT7l := T7.out.lt
        have qR0 := R.out.cell 0
        have qR1 := R.out.cell 1
        simp at qR0 qR1
        have qRl := R.out.lt
        have qRf := R.out.frozen
        have nRT7 : w.heap.size ≠ w1.heap.size := by have := Hgl.out; have := S1.out; have := S3.out; omega
        have nT7R : w1.heap.size ≠ w.heap.size := fun e => nRT7 e.symm
        go_wp2
        clear qT70 qT71 qT72 qT73 qT74 qT75 qT76 qT77 qT78 qT79 qT710 qT711 qT712 qT713 qT7l qR0 qR1 qRl qRf nRT7 nT7R
        have HR9 := (show Blk (World.setCell (World.setCell w3 ⟨w.heap.size, 0, none⟩ (.int .i64 (-12))) ⟨w.heap.size, 1, none⟩ (.int .i64 11)) (w.heap.size) 37 #[.int .i64 (-12), .int .i64 11] by have h9 := ((R.out.set 0 (.int .i64 (-12))).set 1 (.int .i64 11)); simpa using h9)
        have k0 := HR9.cell 0
        have k1 := HR9.cell 1
        simp at k0 k1
        exact bodyPost_ret (v := .agg #[.int .i64 (-12), .int .i64 11]) (by simp [results, Try.results59, go_sem, k0, k1]) rfl ⟨⟨_, _, rfl⟩, ((Hc3.out.st (p := ⟨w.heap.size, 0, none⟩) (show g < w.heap.size by have := Hgl.out; have := S1.out; have := S3.out; omega) (.int .i64 (-12))).st (p := ⟨w.heap.size, 1, none⟩) (show g < w.heap.size by have := Hgl.out; have := S1.out; have := S3.out; omega) (.int .i64 11)).mono (by omega), ((Hd3.out.st (p := ⟨w.heap.size, 0, none⟩) (show w.heap.size ≤ w.heap.size by have := Hgl.out; have := S1.out; have := S3.out; omega) (.int .i64 (-12))).st (p := ⟨w.heap.size, 1, none⟩) (show w.heap.size ≤ w.heap.size by have := Hgl.out; have := S1.out; have := S3.out; omega) (.int .i64 11))⟩
      · have qT70 := T7.out.cell 0
        have qT71 := T7.out.cell 1
        have qT72 := T7.out.cell 2
        have qT73 := T7.out.cell 3
        have qT74 := T7.out.cell 4
        have qT75 := T7.out.cell 5
        have qT76 := T7.out.cell 6
        have qT77 := T7.out.cell 7
        have qT78 := T7.out.cell 8
        have qT79 := T7.out.cell 9
        have qT710 := T7.out.cell 10
        have qT711 := T7.out.cell 11
        have qT712 := T7.out.cell 12
        have qT713 := T7.out.cell 13
        simp at qT70 qT71 qT72 qT73 qT74 qT75 qT76 qT77 qT78 qT79 qT710 qT711 qT712 qT713
        have qT7l := T7.out.lt
        have qR0 := R.out.cell 0
        have qR1 := R.out.cell 1
        simp at qR0 qR1
        have qRl := R.out.lt
        have qRf := R.out.frozen
        have nRT7 : w.heap.size ≠ w1.heap.size := by have := Hgl.out; have := S1.out; have := S3.out; omega
        have nT7R : w1.heap.size ≠ w.heap.size := fun e => nRT7 e.symm
        go_wp2
        clear qT70 qT71 qT72 qT73 qT74 qT75 qT76 qT77 qT78 qT79 qT710 qT711 qT712 qT713 qT7l qR0 qR1 qRl qRf nRT7 nT7R
        have HR9 := (show Blk (World.setCell (World.setCell w3 ⟨w.heap.size, 0, none⟩ (.int .i64 1)) ⟨w.heap.size, 1, none⟩ (.int .i64 0)) (w.heap.size) 37 #[.int .i64 1, .int .i64 0] by have h9 := ((R.out.set 0 (.int .i64 1)).set 1 (.int .i64 0)); simpa using h9)
        have k0 := HR9.cell 0
        have k1 := HR9.cell 1
        simp at k0 k1
        exact bodyPost_ret (v := .agg #[.int .i64 1, .int .i64 0]) (by simp [results, Try.results59, go_sem, k0, k1]) rfl ⟨⟨_, _, rfl⟩, ((Hc3.out.st (p := ⟨w.heap.size, 0, none⟩) (show g < w.heap.size by have := Hgl.out; have := S1.out; have := S3.out; omega) (.int .i64 1)).st (p := ⟨w.heap.size, 1, none⟩) (show g < w.heap.size by have := Hgl.out; have := S1.out; have := S3.out; omega) (.int .i64 0)).mono (by omega), ((Hd3.out.st (p := ⟨w.heap.size, 0, none⟩) (show w.heap.size ≤ w.heap.size by have := Hgl.out; have := S1.out; have := S3.out; omega) (.int .i64 1)).st (p := ⟨w.heap.size, 1, none⟩) (show w.heap.size ≤ w.heap.size by have := Hgl.out; have := S1.out; have := S3.out; omega) (.int .i64 0))⟩
    · have zx0 : (x == 0) = false := beq_eq_false_iff_ne.2 ex0
      have zx1 : (x == 1) = false := beq_eq_false_iff_ne.2 ex1
      clear ex0 ex1
      go_wp2_with fail
      refine (pick_any g (k + 2) (11) _ Hc1.out (by have := Hk.out; omega)).mono ?_; rintro e w4 ⟨⟨p, lp, up, rfl⟩, hc4, hd4⟩
      have S4 := Lib.hid (show w1.heap.size + 0 ≤ w4.heap.size by have h9 := hd4.size; (try simp only [World.size_alloc, World.size_setCell] at h9); omega)
      have NR := Lib.hid (R.out.dg hd4 (show w.heap.size ≠ g by have := Hgl.out; have := S1.out; have := S4.out; omega))
      have R := NR; clear NR
      have Hc4 := Lib.hid (hc4.mono (j := k + 4) (by omega))
      have Hd4 := Lib.hid (Hd1.out.trans hd4)
      clear hc4 hd4
      have up2 : p ≤ 10 := by omega
      go_wp2_with fail
      refine (pick_any g (k + 4) (21) _ Hc4.out (by have := Hk.out; omega)).mono ?_; rintro e w5 ⟨⟨q, lq, uq, rfl⟩, hc5, hd5⟩
      have S5 := Lib.hid (show w4.heap.size + 0 ≤ w5.heap.size by have h9 := hd5.size; (try simp only [World.size_alloc, World.size_setCell] at h9); omega)
      have NR := Lib.hid (R.out.dg hd5 (show w.heap.size ≠ g by have := Hgl.out; have := S1.out; have := S4.out; have := S5.out; omega))
      have R := NR; clear NR
      have Hc5 := Lib.hid (hc5.mono (j := k + 6) (by omega))
      have Hd5 := Lib.hid (Hd4.out.trans hd5)
      clear hc5 hd5
      have uq2 : q ≤ 20 := by omega
      obtain ⟨x0, hx0⟩ : ∃ x0, p - 5 = x0 := ⟨_, rfl⟩
      have hx1 : -5 ≤ x0 ∧ x0 ≤ 5 := by omega
      obtain ⟨hx2, hx3⟩ := hx1
      rw [hx0]
      clear hx0 lp up up2
      go_wp2_with fail
      generalize hbb : wrap64 (wrap64 (wrap64 (-x0 * x0) * x0) - wrap64 ((q - 10) * x0)) = bb
      generalize haa : q - 10 = a0
      clear hbb haa
      go_wp2_with fail
      refine (one_any g (k + 6) (3) _ (Hc5.out.alloc _) (by have := Hk.out; omega)).mono ?_; rintro e w6 ⟨⟨c, rfl⟩, hc6, hd6⟩
      have S6 := Lib.hid (show w5.heap.size + 1 ≤ w6.heap.size by have h9 := hd6.size; (try simp only [World.size_alloc, World.size_setCell] at h9); omega)
      have NR := Lib.hid ((R.out.alloc _).dg hd6 (show w.heap.size ≠ g by have := Hgl.out; have := S1.out; have := S4.out; have := S5.out; have := S6.out; omega))
      have NE := Lib.hid ((Blk.new w5 37 #[.int .i64 a0, .int .i64 bb]).dg hd6 (show w5.heap.size ≠ g by have := Hgl.out; have := S1.out; have := S4.out; have := S5.out; have := S6.out; omega))
      have R := NR; clear NR
      have E := NE; clear NE
      have Hc6 := Lib.hid (hc6.mono (j := k + 8) (by omega))
      have Hd6 := Lib.hid ((Hd5.out.alloc _).trans hd6)
      clear hc6 hd6
      cases c
      · have qE0 := E.out.cell 0
        have qE1 := E.out.cell 1
        simp at qE0 qE1
        have qEl := E.out.lt
        go_wp2_with fail
        refine (ecGood_any a0 bb _).mono ?_; rintro e w7 ⟨rfl, hd7⟩
        clear qE0 qE1 qEl
        have S7 := Lib.hid (show w6.heap.size + 0 ≤ w7.heap.size by have h9 := hd7.size; (try simp only [World.size_alloc, World.size_setCell] at h9); omega)
        have NR := Lib.hid (R.out.dg (Dg.of_below (g := g) hd7) (show w.heap.size ≠ g by have := Hgl.out; have := S1.out; have := S4.out; have := S5.out; have := S6.out; have := S7.out; omega))
        have NE := Lib.hid (E.out.dg (Dg.of_below (g := g) hd7) (show w5.heap.size ≠ g by have := Hgl.out; have := S1.out; have := S4.out; have := S5.out; have := S6.out; have := S7.out; omega))
        have R := NR; clear NR
        have E := NE; clear NE
        have Hc7 := Lib.hid (Hc6.out.on hd7)
        have Hd7 := Lib.hid (Hd6.out.trans (Dg.of_below (g := g) hd7))
        clear hd7
        cases hg : curveB a0 bb
        · clear hg
          have qE0 := E.out.cell 0
          have qE1 := E.out.cell 1
          simp at qE0 qE1
          have qEl := E.out.lt
          have qR0 := R.out.cell 0
          have qR1 := R.out.cell 1
          simp at qR0 qR1
          have qRl := R.out.lt
          have qRf := R.out.frozen
          have nER : w5.heap.size ≠ w.heap.size := by have := Hgl.out; have := S1.out; have := S4.out; have := S5.out; have := S6.out; have := S7.out; omega
          have nRE : w.heap.size ≠ w5.heap.size := fun e => nER e.symm
          go_wp2
          clear qE0 qE1 qEl qR0 qR1 qRl qRf nER nRE
          have HR9 := (show Blk (World.setCell (World.setCell w7 ⟨w.heap.size, 0, none⟩ (.int .i64 (-1))) ⟨w.heap.size, 1, none⟩ (.int .i64 0)) (w.heap.size) 37 #[.int .i64 (-1), .int .i64 0] by have h9 := ((R.out.set 0 (.int .i64 (-1))).set 1 (.int .i64 0)); simpa using h9)
          have k0 := HR9.cell 0
          have k1 := HR9.cell 1
          simp at k0 k1
          exact bodyPost_ret (v := .agg #[.int .i64 (-1), .int .i64 0]) (by simp [results, Try.results59, go_sem, k0, k1]) rfl ⟨⟨_, _, rfl⟩, ((Hc7.out.st (p := ⟨w.heap.size, 0, none⟩) (show g < w.heap.size by have := Hgl.out; have := S1.out; have := S4.out; have := S5.out; have := S6.out; have := S7.out; omega) (.int .i64 (-1))).st (p := ⟨w.heap.size, 1, none⟩) (show g < w.heap.size by have := Hgl.out; have := S1.out; have := S4.out; have := S5.out; have := S6.out; have := S7.out; omega) (.int .i64 0)).mono (by omega), ((Hd7.out.st (p := ⟨w.heap.size, 0, none⟩) (show w.heap.size ≤ w.heap.size by have := Hgl.out; have := S1.out; have := S4.out; have := S5.out; have := S6.out; have := S7.out; omega) (.int .i64 (-1))).st (p := ⟨w.heap.size, 1, none⟩) (show w.heap.size ≤ w.heap.size by have := Hgl.out; have := S1.out; have := S4.out; have := S5.out; have := S6.out; have := S7.out; omega) (.int .i64 0))⟩
        · clear hg
          have qE0 := E.out.cell 0
          have qE1 := E.out.cell 1
          simp at qE0 qE1
          have qEl := E.out.lt
          have qR0 := R.out.cell 0
          have qR1 := R.out.cell 1
          simp at qR0 qR1
          have qRl := R.out.lt
          have qRf := R.out.frozen
          have nER : w5.heap.size ≠ w.heap.size := by have := Hgl.out; have := S1.out; have := S4.out; have := S5.out; have := S6.out; have := S7.out; omega
          have nRE : w.heap.size ≠ w5.heap.size := fun e => nER e.symm
          go_wp2
          clear qE0 qE1 qEl qR0 qR1 qRl qRf nER nRE
          have HR9 := (show Blk (World.setCell (World.setCell w7 ⟨w.heap.size, 0, none⟩ (.int .i64 a0)) ⟨w.heap.size, 1, none⟩ (.int .i64 bb)) (w.heap.size) 37 #[.int .i64 a0, .int .i64 bb] by have h9 := ((R.out.set 0 (.int .i64 a0)).set 1 (.int .i64 bb)); simpa using h9)
          have k0 := HR9.cell 0
          have k1 := HR9.cell 1
          simp at k0 k1
          exact bodyPost_ret (v := .agg #[.int .i64 a0, .int .i64 bb]) (by simp [results, Try.results59, go_sem, k0, k1]) rfl ⟨⟨_, _, rfl⟩, ((Hc7.out.st (p := ⟨w.heap.size, 0, none⟩) (show g < w.heap.size by have := Hgl.out; have := S1.out; have := S4.out; have := S5.out; have := S6.out; have := S7.out; omega) (.int .i64 a0)).st (p := ⟨w.heap.size, 1, none⟩) (show g < w.heap.size by have := Hgl.out; have := S1.out; have := S4.out; have := S5.out; have := S6.out; have := S7.out; omega) (.int .i64 bb)).mono (by omega), ((Hd7.out.st (p := ⟨w.heap.size, 0, none⟩) (show w.heap.size ≤ w.heap.size by have := Hgl.out; have := S1.out; have := S4.out; have := S5.out; have := S6.out; have := S7.out; omega) (.int .i64 a0)).st (p := ⟨w.heap.size, 1, none⟩) (show w.heap.size ≤ w.heap.size by have := Hgl.out; have := S1.out; have := S4.out; have := S5.out; have := S6.out; have := S7.out; omega) (.int .i64 bb))⟩
      · go_wp2_with fail
        refine (pick_any g (k + 8) (9) _ Hc6.out (by have := Hk.out; omega)).mono ?_; rintro e w8 ⟨⟨z, lz, uz, rfl⟩, hc8, hd8⟩
        have S8 := Lib.hid (show w6.heap.size + 0 ≤ w8.heap.size by have h9 := hd8.size; (try simp only [World.size_alloc, World.size_setCell] at h9); omega)
        have NR := Lib.hid (R.out.dg hd8 (show w.heap.size ≠ g by have := Hgl.out; have := S1.out; have := S4.out; have := S5.out; have := S6.out; have := S8.out; omega))
        have NE := Lib.hid (E.out.dg hd8 (show w5.heap.size ≠ g by have := Hgl.out; have := S1.out; have := S4.out; have := S5.out; have := S6.out; have := S8.out; omega))
        have R := NR; clear NR
        have E := NE; clear NE
        have Hc8 := Lib.hid (hc8.mono (j := k + 10) (by omega))
        have Hd8 := Lib.hid (Hd6.out.trans hd8)
        clear hc8 hd8
        have uz2 : z ≤ 8 := by omega
        obtain ⟨y0, hy0⟩ : ∃ y0, z - 4 = y0 := ⟨_, rfl⟩
        have qE0 := E.out.cell 0
        have qE1 := E.out.cell 1
        simp at qE0 qE1
        have qEl := E.out.lt
        have qEf := E.out.frozen
        go_wp2_with fail
        clear qE0 qE1 qEl qEf
        generalize hbb : wrap64 (wrap64 (x0 * y0) * (x0 + y0)) = b1
        generalize haa : wrap64 (wrap64 (x0 * y0) - wrap64 ((x0 + y0) * (x0 + y0))) = a1
        clear hbb haa hy0
        have qE0 := E.out.cell 0
        have qE1 := E.out.cell 1
        simp at qE0 qE1
        have qEl := E.out.lt
        have qEf := E.out.frozen
        go_wp2_with fail
        refine (ecGood_any a1 b1 _).mono ?_; rintro e w9 ⟨rfl, hd9⟩
        clear qE0 qE1 qEl qEf
        have S9 := Lib.hid (show w8.heap.size + 0 ≤ w9.heap.size by have h9 := hd9.size; (try simp only [World.size_alloc, World.size_setCell] at h9); omega)
        have NR := Lib.hid (((R.out.far (p := ⟨w5.heap.size, 0, none⟩) (show w.heap.size ≠ w5.heap.size by have := Hgl.out; have := S1.out; have := S4.out; have := S5.out; have := S6.out; have := S8.out; have := S9.out; omega) (.int .i64 a1)).far (p := ⟨w5.heap.size, 1, none⟩) (show w.heap.size ≠ w5.heap.size by have := Hgl.out; have := S1.out; have := S4.out; have := S5.out; have := S6.out; have := S8.out; have := S9.out; omega) (.int .i64 b1)).dg (Dg.of_below (g := g) hd9) (show w.heap.size ≠ g by have := Hgl.out; have := S1.out; have := S4.out; have := S5.out; have := S6.out; have := S8.out; have := S9.out; omega))
        have NE := Lib.hid ((show Blk (World.setCell (World.setCell w8 ⟨w5.heap.size, 0, none⟩ (.int .i64 a1)) ⟨w5.heap.size, 1, none⟩ (.int .i64 b1)) (w5.heap.size) 37 #[.int .i64 a1, .int .i64 b1] by have h9 := ((E.out.set 0 (.int .i64 a1)).set 1 (.int .i64 b1)); simpa using h9).dg (Dg.of_below (g := g) hd9) (show w5.heap.size ≠ g by have := Hgl.out; have := S1.out; have := S4.out; have := S5.out; have := S6.out; have := S8.out; have := S9.out; omega))
        have R := NR; clear NR
        have E := NE; clear NE
        have Hc9 := Lib.hid (((Hc8.out.st (p := ⟨w5.heap.size, 0, none⟩) (show g < w5.heap.size by have := Hgl.out; have := S1.out; have := S4.out; have := S5.out; have := S6.out; have := S8.out; have := S9.out; omega) (.int .i64 a1)).st (p := ⟨w5.heap.size, 1, none⟩) (show g < w5.heap.size by have := Hgl.out; have := S1.out; have := S4.out; have := S5.out; have := S6.out; have := S8.out; have := S9.out; omega) (.int .i64 b1)).on hd9)
        have Hd9 := Lib.hid (((Hd8.out.st (p := ⟨w5.heap.size, 0, none⟩) (show w.heap.size ≤ w5.heap.size by have := Hgl.out; have := S1.out; have := S4.out; have := S5.out; have := S6.out; have := S8.out; have := S9.out; omega) (.int .i64 a1)).st (p := ⟨w5.heap.size, 1, none⟩) (show w.heap.size ≤ w5.heap.size by have := Hgl.out; have := S1.out; have := S4.out; have := S5.out; have := S6.out; have := S8.out; have := S9.out; omega) (.int .i64 b1)).trans (Dg.of_below (g := g) hd9))
        clear hd9
        cases hg : curveB a1 b1
        · clear hg
          have qE0 := E.out.cell 0
          have qE1 := E.out.cell 1
          simp at qE0 qE1
          have qEl := E.out.lt
          have qR0 := R.out.cell 0
          have qR1 := R.out.cell 1
          simp at qR0 qR1
          have qRl := R.out.lt
          have qRf := R.out.frozen
          have nER : w5.heap.size ≠ w.heap.size := by have := Hgl.out; have := S1.out; have := S4.out; have := S5.out; have := S6.out; have := S8.out; have := S9.out; omega
          have nRE : w.heap.size ≠ w5.heap.size := fun e => nER e.symm
          go_wp2
          clear qE0 qE1 qEl qR0 qR1 qRl qRf nER nRE
          have HR9 := (show Blk (World.setCell (World.setCell w9 ⟨w.heap.size, 0, none⟩ (.int .i64 (-1))) ⟨w.heap.size, 1, none⟩ (.int .i64 0)) (w.heap.size) 37 #[.int .i64 (-1), .int .i64 0] by have h9 := ((R.out.set 0 (.int .i64 (-1))).set 1 (.int .i64 0)); simpa using h9)
          have k0 := HR9.cell 0
          have k1 := HR9.cell 1
          simp at k0 k1
          exact bodyPost_ret (v := .agg #[.int .i64 (-1), .int .i64 0]) (by simp [results, Try.results59, go_sem, k0, k1]) rfl ⟨⟨_, _, rfl⟩, ((Hc9.out.st (p := ⟨w.heap.size, 0, none⟩) (show g < w.heap.size by have := Hgl.out; have := S1.out; have := S4.out; have := S5.out; have := S6.out; have := S8.out; have := S9.out; omega) (.int .i64 (-1))).st (p := ⟨w.heap.size, 1, none⟩) (show g < w.heap.size by have := Hgl.out; have := S1.out; have := S4.out; have := S5.out; have := S6.out; have := S8.out; have := S9.out; omega) (.int .i64 0)).mono (by omega), ((Hd9.out.st (p := ⟨w.heap.size, 0, none⟩) (show w.heap.size ≤ w.heap.size by have := Hgl.out; have := S1.out; have := S4.out; have := S5.out; have := S6.out; have := S8.out; have := S9.out; omega) (.int .i64 (-1))).st (p := ⟨w.heap.size, 1, none⟩) (show w.heap.size ≤ w.heap.size by have := Hgl.out; have := S1.out; have := S4.out; have := S5.out; have := S6.out; have := S8.out; have := S9.out; omega) (.int .i64 0))⟩
        · clear hg
          have qE0 := E.out.cell 0
          have qE1 := E.out.cell 1
          simp at qE0 qE1
          have qEl := E.out.lt
          have qR0 := R.out.cell 0
          have qR1 := R.out.cell 1
          simp at qR0 qR1
          have qRl := R.out.lt
          have qRf := R.out.frozen
          have nER : w5.heap.size ≠ w.heap.size := by have := Hgl.out; have := S1.out; have := S4.out; have := S5.out; have := S6.out; have := S8.out; have := S9.out; omega
          have nRE : w.heap.size ≠ w5.heap.size := fun e => nER e.symm
          go_wp2
          clear qE0 qE1 qEl qR0 qR1 qRl qRf nER nRE
          have HR9 := (show Blk (World.setCell (World.setCell w9 ⟨w.heap.size, 0, none⟩ (.int .i64 a1)) ⟨w.heap.size, 1, none⟩ (.int .i64 b1)) (w.heap.size) 37 #[.int .i64 a1, .int .i64 b1] by have h9 := ((R.out.set 0 (.int .i64 a1)).set 1 (.int .i64 b1)); simpa using h9)
          have k0 := HR9.cell 0
          have k1 := HR9.cell 1
          simp at k0 k1
          exact bodyPost_ret (v := .agg #[.int .i64 a1, .int .i64 b1]) (by simp [results, Try.results59, go_sem, k0, k1]) rfl ⟨⟨_, _, rfl⟩, ((Hc9.out.st (p := ⟨w.heap.size, 0, none⟩) (show g < w.heap.size by have := Hgl.out; have := S1.out; have := S4.out; have := S5.out; have := S6.out; have := S8.out; have := S9.out; omega) (.int .i64 a1)).st (p := ⟨w.heap.size, 1, none⟩) (show g < w.heap.size by have := Hgl.out; have := S1.out; have := S4.out; have := S5.out; have := S6.out; have := S8.out; have := S9.out; omega) (.int .i64 b1)).mono (by omega), ((Hd9.out.st (p := ⟨w.heap.size, 0, none⟩) (show w.heap.size ≤ w.heap.size by have := Hgl.out; have := S1.out; have := S4.out; have := S5.out; have := S6.out; have := S8.out; have := S9.out; omega) (.int .i64 a1)).st (p := ⟨w.heap.size, 1, none⟩) (show w.heap.size ≤ w.heap.size by have := Hgl.out; have := S1.out; have := S4.out; have := S5.out; have := S6.out; have := S8.out; have := S9.out; omega) (.int .i64 b1))⟩
set_option linter.unusedSimpArgs false in
set_option maxRecDepth 8000 in
set_option maxHeartbeats 8000000 in
theorem scalable_any (g k : Nat) (w : World) (hc : Cur w g k) (hk : k ≤ 600000) :
    Calls Try.prog 54 #[.pointer (some ⟨g, 0, none⟩)] w fun e w' => (∃ a b : Int, e = .returned (.agg #[.int .i64 a, .int .i64 b])) ∧ Cur w' g (k + 50) ∧ Dg g w w' := by
  have Hgl := Lib.hid hc.lt
  have Hc := Lib.hid hc; have Hk := Lib.hid hk; have Hd := Lib.hid (Dg.refl g w); clear hc hk
  go_enter Try.func54, Try.ntmps54
  go_wp2_with fail
  refine (one_any g k (3) _ (Hc.out.alloc _) (by have := Hk.out; omega)).mono ?_; rintro e w1 ⟨⟨c, rfl⟩, hc1, hd1⟩
  have S1 := Lib.hid (show w.heap.size + 1 ≤ w1.heap.size by have h9 := hd1.size; (try simp only [World.size_alloc, World.size_setCell] at h9); omega)
  have NR := Lib.hid ((Blk.new w 37 #[.int .i64 0, .int .i64 0]).dg hd1 (show w.heap.size ≠ g by have := Hgl.out; have := S1.out; omega))
  have R := NR; clear NR
  have Hc1 := Lib.hid (hc1.mono (j := k + 2) (by omega))
  have Hd1 := Lib.hid ((Hd.out.alloc _).trans hd1)
  clear hc1 hd1
  cases c
  · go_wp2_with fail
    refine (pick_any g (k + 2) (7) _ Hc1.out (by have := Hk.out; omega)).mono ?_; rintro e w2 ⟨⟨p1, lp1, up1, rfl⟩, hc2, hd2⟩
    have S2 := Lib.hid (show w1.heap.size + 0 ≤ w2.heap.size by have h9 := hd2.size; (try simp only [World.size_alloc, World.size_setCell] at h9); omega)
    have NR := Lib.hid (R.out.dg hd2 (show w.heap.size ≠ g by have := Hgl.out; have := S1.out; have := S2.out; omega))
    have R := NR; clear NR
    have Hc2 := Lib.hid (hc2.mono (j := k + 4) (by omega))
    have Hd2 := Lib.hid (Hd1.out.trans hd2)
    clear hc2 hd2
    have u1 : p1 ≤ 6 := by omega
    go_wp2_with fail
    refine (pick_any g (k + 4) (61) _ Hc2.out (by have := Hk.out; omega)).mono ?_; rintro e w3 ⟨⟨p2, lp2, up2, rfl⟩, hc3, hd3⟩
    have S3 := Lib.hid (show w2.heap.size + 0 ≤ w3.heap.size by have h9 := hd3.size; (try simp only [World.size_alloc, World.size_setCell] at h9); omega)
    have NR := Lib.hid (R.out.dg hd3 (show w.heap.size ≠ g by have := Hgl.out; have := S1.out; have := S2.out; have := S3.out; omega))
    have R := NR; clear NR
    have Hc3 := Lib.hid (hc3.mono (j := k + 6) (by omega))
    have Hd3 := Lib.hid (Hd2.out.trans hd3)
    clear hc3 hd3
    have u2 : p2 ≤ 60 := by omega
    go_wp2_with fail
    refine (among_lit g (k + 6) (w3.heap.size) [1, -1, 0, (p1 - 3), (p2 - 30)] w3 (by simp) Hc3.out (by simp) (by simp) (by have := Hk.out; omega)).mono ?_; rintro e w4 ⟨⟨a, ha, rfl⟩, hc4, hd4⟩
    have S4 := Lib.hid (show w3.heap.size + 1 ≤ w4.heap.size by have h9 := hd4.size; (try simp only [World.size_alloc, World.size_setCell] at h9); omega)
    have NR := Lib.hid ((R.out.alloc _).dg hd4 (show w.heap.size ≠ g by have := Hgl.out; have := S1.out; have := S2.out; have := S3.out; have := S4.out; omega))
    have R := NR; clear NR
    have Hc4 := Lib.hid (hc4.mono (j := k + 8) (by omega))
    have Hd4 := Lib.hid ((Hd3.out.alloc _).trans hd4)
    clear hc4 hd4
    clear lp1 up1 lp2 up2 u1 u2 ha
    go_wp2_with fail
    refine (pick_any g (k + 8) (9) _ Hc4.out (by have := Hk.out; omega)).mono ?_; rintro e w5 ⟨⟨p3, lp3, up3, rfl⟩, hc5, hd5⟩
    have S5 := Lib.hid (show w4.heap.size + 0 ≤ w5.heap.size by have h9 := hd5.size; (try simp only [World.size_alloc, World.size_setCell] at h9); omega)
    have NR := Lib.hid (R.out.dg hd5 (show w.heap.size ≠ g by have := Hgl.out; have := S1.out; have := S2.out; have := S3.out; have := S4.out; have := S5.out; omega))
    have R := NR; clear NR
    have Hc5 := Lib.hid (hc5.mono (j := k + 10) (by omega))
    have Hd5 := Lib.hid (Hd4.out.trans hd5)
    clear hc5 hd5
    have u3 : p3 ≤ 8 := by omega
    go_wp2_with fail
    refine (pick_any g (k + 10) (301) _ Hc5.out (by have := Hk.out; omega)).mono ?_; rintro e w6 ⟨⟨p4, lp4, up4, rfl⟩, hc6, hd6⟩
    have S6 := Lib.hid (show w5.heap.size + 0 ≤ w6.heap.size by have h9 := hd6.size; (try simp only [World.size_alloc, World.size_setCell] at h9); omega)
    have NR := Lib.hid (R.out.dg hd6 (show w.heap.size ≠ g by have := Hgl.out; have := S1.out; have := S2.out; have := S3.out; have := S4.out; have := S5.out; have := S6.out; omega))
    have R := NR; clear NR
    have Hc6 := Lib.hid (hc6.mono (j := k + 12) (by omega))
    have Hd6 := Lib.hid (Hd5.out.trans hd6)
    clear hc6 hd6
    have u4 : p4 ≤ 300 := by omega
    go_wp2_with fail
    refine (among_lit g (k + 12) (w6.heap.size) [0, 0, 1, -2, (p3 - 4), (p4 - 150)] w6 (by simp) Hc6.out (by simp) (by simp) (by have := Hk.out; omega)).mono ?_; rintro e w7 ⟨⟨b, hb, rfl⟩, hc7, hd7⟩
    have S7 := Lib.hid (show w6.heap.size + 1 ≤ w7.heap.size by have h9 := hd7.size; (try simp only [World.size_alloc, World.size_setCell] at h9); omega)
    have NR := Lib.hid ((R.out.alloc _).dg hd7 (show w.heap.size ≠ g by have := Hgl.out; have := S1.out; have := S2.out; have := S3.out; have := S4.out; have := S5.out; have := S6.out; have := S7.out; omega))
    have R := NR; clear NR
    have Hc7 := Lib.hid (hc7.mono (j := k + 14) (by omega))
    have Hd7 := Lib.hid ((Hd6.out.alloc _).trans hd7)
    clear hc7 hd7
    clear lp3 up3 lp4 up4 u3 u4 hb
    have qR0 := R.out.cell 0
    have qR1 := R.out.cell 1
    simp at qR0 qR1
    have qRl := R.out.lt
    have qRf := R.out.frozen
    go_wp2
    clear qR0 qR1 qRl qRf
    have HR9 := (show Blk (World.setCell (World.setCell w7 ⟨w.heap.size, 0, none⟩ (.int .i64 a)) ⟨w.heap.size, 1, none⟩ (.int .i64 b)) (w.heap.size) 37 #[.int .i64 a, .int .i64 b] by have h9 := ((R.out.set 0 (.int .i64 a)).set 1 (.int .i64 b)); simpa using h9)
    have k0 := HR9.cell 0
    have k1 := HR9.cell 1
    simp at k0 k1
    exact bodyPost_ret (v := .agg #[.int .i64 a, .int .i64 b]) (by simp [results, Try.results54, go_sem, k0, k1]) rfl ⟨⟨_, _, rfl⟩, ((Hc7.out.st (p := ⟨w.heap.size, 0, none⟩) (show g < w.heap.size by have := Hgl.out; have := S1.out; have := S2.out; have := S3.out; have := S4.out; have := S5.out; have := S6.out; have := S7.out; omega) (.int .i64 a)).st (p := ⟨w.heap.size, 1, none⟩) (show g < w.heap.size by have := Hgl.out; have := S1.out; have := S2.out; have := S3.out; have := S4.out; have := S5.out; have := S6.out; have := S7.out; omega) (.int .i64 b)).mono (by omega), ((Hd7.out.st (p := ⟨w.heap.size, 0, none⟩) (show w.heap.size ≤ w.heap.size by have := Hgl.out; have := S1.out; have := S2.out; have := S3.out; have := S4.out; have := S5.out; have := S6.out; have := S7.out; omega) (.int .i64 a)).st (p := ⟨w.heap.size, 1, none⟩) (show w.heap.size ≤ w.heap.size by have := Hgl.out; have := S1.out; have := S2.out; have := S3.out; have := S4.out; have := S5.out; have := S6.out; have := S7.out; omega) (.int .i64 b))⟩
  · go_wp2_with fail
    refine (anyCurve_any g (k + 2) _ Hc1.out (by have := Hk.out; omega)).mono ?_; rintro e w8 ⟨⟨a, b, rfl⟩, hc8, hd8⟩
    have S8 := Lib.hid (show w1.heap.size + 0 ≤ w8.heap.size by have h9 := hd8.size; (try simp only [World.size_alloc, World.size_setCell] at h9); omega)
    have NR := Lib.hid (R.out.dg hd8 (show w.heap.size ≠ g by have := Hgl.out; have := S1.out; have := S8.out; omega))
    have R := NR; clear NR
    have Hc8 := Lib.hid (hc8.mono (j := k + 42) (by omega))
    have Hd8 := Lib.hid (Hd1.out.trans hd8)
    clear hc8 hd8
    have qR0 := R.out.cell 0
    have qR1 := R.out.cell 1
    simp at qR0 qR1
    have qRl := R.out.lt
    have qRf := R.out.frozen
    go_wp2
    clear qR0 qR1 qRl qRf
    have HR9 := (show Blk (World.setCell (World.setCell w8 ⟨w.heap.size, 0, none⟩ (.int .i64 a)) ⟨w.heap.size, 1, none⟩ (.int .i64 b)) (w.heap.size) 37 #[.int .i64 a, .int .i64 b] by have h9 := ((R.out.set 0 (.int .i64 a)).set 1 (.int .i64 b)); simpa using h9)
    have k0 := HR9.cell 0
    have k1 := HR9.cell 1
    simp at k0 k1
    exact bodyPost_ret (v := .agg #[.int .i64 a, .int .i64 b]) (by simp [results, Try.results54, go_sem, k0, k1]) rfl ⟨⟨_, _, rfl⟩, ((Hc8.out.st (p := ⟨w.heap.size, 0, none⟩) (show g < w.heap.size by have := Hgl.out; have := S1.out; have := S8.out; omega) (.int .i64 a)).st (p := ⟨w.heap.size, 1, none⟩) (show g < w.heap.size by have := Hgl.out; have := S1.out; have := S8.out; omega) (.int .i64 b)).mono (by omega), ((Hd8.out.st (p := ⟨w.heap.size, 0, none⟩) (show w.heap.size ≤ w.heap.size by have := Hgl.out; have := S1.out; have := S8.out; omega) (.int .i64 a)).st (p := ⟨w.heap.size, 1, none⟩) (show w.heap.size ≤ w.heap.size by have := Hgl.out; have := S1.out; have := S8.out; omega) (.int .i64 b))⟩
set_option linter.unusedSimpArgs false in
set_option maxRecDepth 8000 in
set_option maxHeartbeats 8000000 in
theorem rootOf_any (g k : Nat) (a b : Int) (w : World) (hc : Cur w g k) (hk : k ≤ 700000) :
    Calls Try.prog 61 #[.pointer (some ⟨g, 0, none⟩), .agg #[.int .i64 a, .int .i64 b]] w fun e w' => (∃ y : Int, e = .returned (.int .i64 y)) ∧ Cur w' g (k + 10) ∧ Dg g w w' := by
  have Hgl := Lib.hid hc.lt
  have Hc := Lib.hid hc; have Hk := Lib.hid hk; have Hd := Lib.hid (Dg.refl g w); clear hc hk
  go_enter Try.func61, Try.ntmps61
  cases hcv : curveB a b
  · go_wp2_with fail
    refine (cvS_lit hcv _).mono ?_; rintro e w1 ⟨rfl, hd1⟩
    have S1 := Lib.hid (show w.heap.size + 1 ≤ w1.heap.size by have h9 := hd1.size; (try simp only [World.size_alloc, World.size_setCell] at h9); omega)
    have NE := Lib.hid ((Blk.new w 37 #[.int .i64 a, .int .i64 b]).dg (Dg.of_below (g := g) hd1) (show w.heap.size ≠ g by have := Hgl.out; have := S1.out; omega))
    have E := NE; clear NE
    have Hc1 := Lib.hid ((Hc.out.alloc _).on hd1)
    have Hd1 := Lib.hid ((Hd.out.alloc _).trans (Dg.of_below (g := g) hd1))
    clear hd1
    clear hcv
    go_wp2_with fail
    refine (among_lit g k (w1.heap.size) [0, 1, -1, 100, -9223372036854775808] w1 (by simp) Hc1.out (by simp) (by simp) (by have := Hk.out; omega)).mono ?_; rintro e w2 ⟨⟨y, hy, rfl⟩, hc2, hd2⟩
    have S2 := Lib.hid (show w1.heap.size + 1 ≤ w2.heap.size by have h9 := hd2.size; (try simp only [World.size_alloc, World.size_setCell] at h9); omega)
    have NE := Lib.hid ((E.out.alloc _).dg hd2 (show w.heap.size ≠ g by have := Hgl.out; have := S1.out; have := S2.out; omega))
    have E := NE; clear NE
    have Hc2 := Lib.hid (hc2.mono (j := k + 2) (by omega))
    have Hd2 := Lib.hid ((Hd1.out.alloc _).trans hd2)
    clear hc2 hd2
    go_wp2
    go_ret
    exact ⟨⟨y, rfl⟩, Hc2.out.mono (by omega), Hd2.out⟩
  · go_wp2_with fail
    refine (cvS_lit hcv _).mono ?_; rintro e w3 ⟨rfl, hd3⟩
    have S3 := Lib.hid (show w.heap.size + 1 ≤ w3.heap.size by have h9 := hd3.size; (try simp only [World.size_alloc, World.size_setCell] at h9); omega)
    have NE := Lib.hid ((Blk.new w 37 #[.int .i64 a, .int .i64 b]).dg (Dg.of_below (g := g) hd3) (show w.heap.size ≠ g by have := Hgl.out; have := S3.out; omega))
    have E := NE; clear NE
    have Hc3 := Lib.hid ((Hc.out.alloc _).on hd3)
    have Hd3 := Lib.hid ((Hd.out.alloc _).trans (Dg.of_below (g := g) hd3))
    clear hd3
    have Hcv := Lib.hid hcv; clear hcv
    go_wp2_with fail
    refine (one_any g k (8) _ Hc3.out (by have := Hk.out; omega)).mono ?_; rintro e w4 ⟨⟨c, rfl⟩, hc4, hd4⟩
    have S4 := Lib.hid (show w3.heap.size + 0 ≤ w4.heap.size by have h9 := hd4.size; (try simp only [World.size_alloc, World.size_setCell] at h9); omega)
    have NE := Lib.hid (E.out.dg hd4 (show w.heap.size ≠ g by have := Hgl.out; have := S3.out; have := S4.out; omega))
    have E := NE; clear NE
    have Hc4 := Lib.hid (hc4.mono (j := k + 2) (by omega))
    have Hd4 := Lib.hid (Hd3.out.trans hd4)
    clear hc4 hd4
    cases c
    · have qE0 := E.out.cell 0
      have qE1 := E.out.cell 1
      simp at qE0 qE1
      have qEl := E.out.lt
      go_wp2_with fail
      refine (ecRoots_any a b _ Hcv.out).mono ?_; rintro e w5 ⟨⟨v, rfl, hown⟩, hd5⟩
      clear qE0 qE1 qEl
      have S5 := Lib.hid (show w4.heap.size + 0 ≤ w5.heap.size by have h9 := hd5.size; (try simp only [World.size_alloc, World.size_setCell] at h9); omega)
      have NE := Lib.hid (E.out.dg (Dg.of_below (g := g) hd5) (show w.heap.size ≠ g by have := Hgl.out; have := S3.out; have := S4.out; have := S5.out; omega))
      have E := NE; clear NE
      have Hc5 := Lib.hid (Hc4.out.on hd5)
      have Hd5 := Lib.hid (Hd4.out.trans (Dg.of_below (g := g) hd5))
      clear hd5
      obtain ⟨A9, c9, rfl⟩ := own_formI hown
      have Ho9 := Lib.hid (show IR _ _ 3 1 _ _ from ⟨_, hown, fun u9 h9 => by obtain ⟨i9, -, rfl⟩ := List.mem_map.1 h9; exact ⟨i9, rfl⟩⟩); clear hown
      have Hl9 := Lib.hid (roots_three a b)
      generalize (rootsV a b).length = n9 at Ho9 Hl9 ⊢
      by_cases hl9 : 0 < n9
      · have RO := Lib.hid Ho9.out; have GRO := Lib.hid (IR.lt Ho9.out)
        have hl3 := Hl9.out
        have hd0 : decide ((0 : Int) < (n9 : Int)) = true := decide_eq_true (by omega)
        go_wp2_with fail
        refine (pick_any g (k + 2) ((n9 : Nat) : Int) _ Hc5.out (by have := Hk.out; omega)).mono ?_; rintro e w6 ⟨⟨y, ly, uy, rfl⟩, hc6, hd6⟩
        have S6 := Lib.hid (show w5.heap.size + 0 ≤ w6.heap.size by have h9 := hd6.size; (try simp only [World.size_alloc, World.size_setCell] at h9); omega)
        have NE := Lib.hid (E.out.dg hd6 (show w.heap.size ≠ g by have := Hgl.out; have := S3.out; have := S4.out; have := S5.out; have := S6.out; omega))
        have E := NE; clear NE
        have RO := Lib.hid (RO.out.dg hd6 (show g < w4.heap.size by have := Hgl.out; have := S3.out; have := S4.out; have := S5.out; have := S6.out; omega))
        have Hc6 := Lib.hid (hc6.mono (j := k + 4) (by omega))
        have Hd6 := Lib.hid (Hd5.out.trans hd6)
        clear hc6 hd6
        have hyl : y < (n9 : Int) := by omega
        obtain ⟨j, rfl⟩ : ∃ j : Nat, y = (j : Int) := ⟨y.toNat, by omega⟩
        obtain ⟨xs9, ho9, ha9⟩ := RO.out.ex
        obtain ⟨g9, hA9, hgb9, hgl9, f9, -⟩ := own_slI ho9 (by have := ho9.1; omega) j (by omega)
        subst hA9
        obtain ⟨y9, hy9⟩ : ∃ y9, vat xs9 j = .int .i64 y9 := by
          have hj9 : j < xs9.length := by have := ho9.1; omega
          refine ha9 (vat xs9 j) ?_
          unfold vat
          rw [List.getD_eq_getElem?_getD, List.getElem?_eq_getElem hj9]
          exact List.getElem_mem hj9
        rw [hy9] at f9
        clear hy9 ho9 ha9
        go_wp2
        clear f9
        go_ret
        exact ⟨⟨y9, rfl⟩, Hc6.out.mono (by omega), Hd6.out⟩
      · have hd0 : decide ((0 : Int) < (n9 : Int)) = false := decide_eq_false (by omega)
        go_wp2_with fail
        refine (among_lit g (k + 2) (w5.heap.size) [0, 1, -1, 100, -9223372036854775808] w5 (by simp) Hc5.out (by simp) (by simp) (by have := Hk.out; omega)).mono ?_; rintro e w7 ⟨⟨y, hy, rfl⟩, hc7, hd7⟩
        have S7 := Lib.hid (show w5.heap.size + 1 ≤ w7.heap.size by have h9 := hd7.size; (try simp only [World.size_alloc, World.size_setCell] at h9); omega)
        have NE := Lib.hid ((E.out.alloc _).dg hd7 (show w.heap.size ≠ g by have := Hgl.out; have := S3.out; have := S4.out; have := S5.out; have := S7.out; omega))
        have E := NE; clear NE
        have Hc7 := Lib.hid (hc7.mono (j := k + 4) (by omega))
        have Hd7 := Lib.hid ((Hd5.out.alloc _).trans hd7)
        clear hc7 hd7
        go_wp2
        go_ret
        exact ⟨⟨y, rfl⟩, Hc7.out.mono (by omega), Hd7.out⟩
    · go_wp2_with fail
      refine (among_lit g (k + 2) (w4.heap.size) [0, 1, -1, 100, -9223372036854775808] w4 (by simp) Hc4.out (by simp) (by simp) (by have := Hk.out; omega)).mono ?_; rintro e w8 ⟨⟨y, hy, rfl⟩, hc8, hd8⟩
      have S8 := Lib.hid (show w4.heap.size + 1 ≤ w8.heap.size by have h9 := hd8.size; (try simp only [World.size_alloc, World.size_setCell] at h9); omega)
      have NE := Lib.hid ((E.out.alloc _).dg hd8 (show w.heap.size ≠ g by have := Hgl.out; have := S3.out; have := S4.out; have := S8.out; omega))
      have E := NE; clear NE
      have Hc8 := Lib.hid (hc8.mono (j := k + 4) (by omega))
      have Hd8 := Lib.hid ((Hd4.out.alloc _).trans hd8)
      clear hc8 hd8
      go_wp2
      go_ret
      exact ⟨⟨y, rfl⟩, Hc8.out.mono (by omega), Hd8.out⟩
end Go.Proofs.Ytnhgdmhiblpknaa
