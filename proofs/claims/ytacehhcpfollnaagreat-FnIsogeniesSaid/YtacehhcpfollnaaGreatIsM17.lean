/- Own texts put together: The reference's source of drawn fractions and points; The code's bytes, the fresh cursor, a row's cells as a source. Conditions: those of each theorem. -/
import Derived.Test.YtacehhcpfollnaaGreatIsM15
import Derived.Test.YtacehhcpfollnaaGreatIsM16
import Derived.Test.YtacehhcpfollnaaGreatIsM14
namespace Go.Proofs.YtacehhcpfollnaaGreat
section
open Go Go.RowKit
theorem Cur.drewP {w : World} {g k : Nat} (h : Cur w g k) : Cur w.drew g k := h.on (Below.drew (Below.refl _ _))

set_option linter.unusedSimpArgs false in
set_option linter.unusedVariables false in
set_option maxRecDepth 8000 in
set_option maxHeartbeats 16000000 in
theorem fraction_any (g k : Nat) (w : World) (hc : Cur w g k) (hk : k ≤ 600000) :
    Calls Tryz.prog 125 #[.pointer (some ⟨g, 0, none⟩)] w fun e w' => (∃ x y : Int, e = .returned (.agg #[.int .i64 x, .int .i64 y])) ∧ Cur w' g (k + 20) ∧ Dg g w w' := by
  have Hgl := Lib.hid hc.lt
  have Hc := Lib.hid hc; have Hk := Lib.hid hk; have Hd := Lib.hid (Dg.refl g w); clear hc hk
  go_enter Tryz.func125, Tryz.ntmps125
  go_wp2_with fail
  refine (pick_any g k (41) _ (Hc.out.alloc _) (by have := Hk.out; omega)).mono ?_; rintro e w1 ⟨⟨p1, lp1, up1, rfl⟩, hc1, hd1⟩
  have S1 := Lib.hid (show w.heap.size + 1 ≤ w1.heap.size by have h9 := hd1.size; (try simp only [World.size_alloc, World.size_setCell] at h9); omega)
  have NR := Lib.hid ((Blk.new w 42 #[.int .i64 0, .int .i64 0]).dg hd1 (show w.heap.size ≠ g by have := Hgl.out; have := S1.out; omega))
  have R := NR; clear NR
  have Hc1 := Lib.hid (hc1.mono (j := k + 2) (by omega))
  have Hd1 := Lib.hid ((Hd.out.alloc _).trans hd1)
  clear hc1 hd1
  have u1 : p1 ≤ 40 := by omega
  go_wp2_with fail
  refine (pick_any g (k + 2) (2001) _ Hc1.out (by have := Hk.out; omega)).mono ?_; rintro e w2 ⟨⟨p2, lp2, up2, rfl⟩, hc2, hd2⟩
  have S2 := Lib.hid (show w1.heap.size + 0 ≤ w2.heap.size by have h9 := hd2.size; (try simp only [World.size_alloc, World.size_setCell] at h9); omega)
  have NR := Lib.hid (R.out.dg hd2 (show w.heap.size ≠ g by have := Hgl.out; have := S1.out; have := S2.out; omega))
  have R := NR; clear NR
  have Hc2 := Lib.hid (hc2.mono (j := k + 4) (by omega))
  have Hd2 := Lib.hid (Hd1.out.trans hd2)
  clear hc2 hd2
  have u2 : p2 ≤ 2000 := by omega
  go_wp2_with fail
  refine (among_lit g (k + 4) (w2.heap.size) [0, 1, -1, 2, 3, -5, (p1 - 20), (p2 - 1000), 1000000000, -1000000000] w2 (by simp) Hc2.out (by simp) (by simp) (by have := Hk.out; omega)).mono ?_; rintro e w3 ⟨⟨n, hn, rfl⟩, hc3, hd3⟩
  have S3 := Lib.hid (show w2.heap.size + 1 ≤ w3.heap.size by have h9 := hd3.size; (try simp only [World.size_alloc, World.size_setCell] at h9); omega)
  have NR := Lib.hid ((R.out.alloc _).dg hd3 (show w.heap.size ≠ g by have := Hgl.out; have := S1.out; have := S2.out; have := S3.out; omega))
  have R := NR; clear NR
  have Hc3 := Lib.hid (hc3.mono (j := k + 6) (by omega))
  have Hd3 := Lib.hid ((Hd2.out.alloc _).trans hd3)
  clear hc3 hd3
  clear lp1 up1 lp2 up2 u1 u2 hn
  go_wp2_with fail
  refine (pick_any g (k + 6) (20) _ Hc3.out (by have := Hk.out; omega)).mono ?_; rintro e w4 ⟨⟨p3, lp3, up3, rfl⟩, hc4, hd4⟩
  have S4 := Lib.hid (show w3.heap.size + 0 ≤ w4.heap.size by have h9 := hd4.size; (try simp only [World.size_alloc, World.size_setCell] at h9); omega)
  have NR := Lib.hid (R.out.dg hd4 (show w.heap.size ≠ g by have := Hgl.out; have := S1.out; have := S2.out; have := S3.out; have := S4.out; omega))
  have R := NR; clear NR
  have Hc4 := Lib.hid (hc4.mono (j := k + 8) (by omega))
  have Hd4 := Lib.hid (Hd3.out.trans hd4)
  clear hc4 hd4
  have u3 : p3 ≤ 19 := by omega
  go_wp2_with fail
  refine (pick_any g (k + 8) (1000) _ Hc4.out (by have := Hk.out; omega)).mono ?_; rintro e w5 ⟨⟨p4, lp4, up4, rfl⟩, hc5, hd5⟩
  have S5 := Lib.hid (show w4.heap.size + 0 ≤ w5.heap.size by have h9 := hd5.size; (try simp only [World.size_alloc, World.size_setCell] at h9); omega)
  have NR := Lib.hid (R.out.dg hd5 (show w.heap.size ≠ g by have := Hgl.out; have := S1.out; have := S2.out; have := S3.out; have := S4.out; have := S5.out; omega))
  have R := NR; clear NR
  have Hc5 := Lib.hid (hc5.mono (j := k + 10) (by omega))
  have Hd5 := Lib.hid (Hd4.out.trans hd5)
  clear hc5 hd5
  have u4 : p4 ≤ 999 := by omega
  go_wp2_with fail
  refine (among_lit g (k + 10) (w5.heap.size) [1, 1, 2, 3, 4, 9, (1 + p3), (1 + p4), 1000000000, 999999999] w5 (by simp) Hc5.out (by simp) (by simp) (by have := Hk.out; omega)).mono ?_; rintro e w6 ⟨⟨m, hm, rfl⟩, hc6, hd6⟩
  have S6 := Lib.hid (show w5.heap.size + 1 ≤ w6.heap.size by have h9 := hd6.size; (try simp only [World.size_alloc, World.size_setCell] at h9); omega)
  have NR := Lib.hid ((R.out.alloc _).dg hd6 (show w.heap.size ≠ g by have := Hgl.out; have := S1.out; have := S2.out; have := S3.out; have := S4.out; have := S5.out; have := S6.out; omega))
  have R := NR; clear NR
  have Hc6 := Lib.hid (hc6.mono (j := k + 12) (by omega))
  have Hd6 := Lib.hid ((Hd5.out.alloc _).trans hd6)
  clear hc6 hd6
  have hm2 : 1 ≤ m ∧ m ≤ 1000000000 := by simp at hm; omega
  obtain ⟨m1, m2⟩ := hm2
  clear lp3 up3 lp4 up4 u3 u4 hm
  go_wp2_with fail
  refine (frMakeX n m _ (by omega) (by omega)).mono ?_; rintro e w7 ⟨⟨x, y, ok, rfl⟩, hd7⟩
  have S7 := Lib.hid (show w6.heap.size + 0 ≤ w7.heap.size by have h9 := hd7.size; (try simp only [World.size_alloc, World.size_setCell] at h9); omega)
  have NR := Lib.hid (R.out.dg (Dg.of_below (g := g) hd7) (show w.heap.size ≠ g by have := Hgl.out; have := S1.out; have := S2.out; have := S3.out; have := S4.out; have := S5.out; have := S6.out; have := S7.out; omega))
  have R := NR; clear NR
  have Hc7 := Lib.hid (Hc6.out.on hd7)
  have Hd7 := Lib.hid (Hd6.out.trans (Dg.of_below (g := g) hd7))
  clear hd7
  cases ok
  · go_wp2_with fail
    refine (frInt_any 1 _).mono ?_; rintro e w8 ⟨rfl, hd8⟩
    have S8 := Lib.hid (show w7.heap.size + 1 ≤ w8.heap.size by have h9 := hd8.size; (try simp only [World.size_alloc, World.size_setCell] at h9); omega)
    have NR := Lib.hid ((R.out.alloc _).dg (Dg.of_below (g := g) hd8) (show w.heap.size ≠ g by have := Hgl.out; have := S1.out; have := S2.out; have := S3.out; have := S4.out; have := S5.out; have := S6.out; have := S7.out; have := S8.out; omega))
    have NF1 := Lib.hid ((Blk.new w7 42 #[.int .i64 x, .int .i64 y]).dg (Dg.of_below (g := g) hd8) (show w7.heap.size ≠ g by have := Hgl.out; have := S1.out; have := S2.out; have := S3.out; have := S4.out; have := S5.out; have := S6.out; have := S7.out; have := S8.out; omega))
    have R := NR; clear NR
    have F1 := NF1; clear NF1
    have Hc8 := Lib.hid ((Hc7.out.alloc _).on hd8)
    have Hd8 := Lib.hid ((Hd7.out.alloc _).trans (Dg.of_below (g := g) hd8))
    clear hd8
    have qR0 := R.out.cell 0
    have qR1 := R.out.cell 1
    simp at qR0 qR1
    have qRl := R.out.lt
    have qRf := R.out.frozen
    go_wp2
    clear qR0 qR1 qRl qRf
    have HR9 := (show Blk (World.setCell (World.setCell w8 ⟨w.heap.size, 0, none⟩ (.int .i64 1)) ⟨w.heap.size, 1, none⟩ (.int .i64 1)) (w.heap.size) 42 #[.int .i64 1, .int .i64 1] by have h9 := ((R.out.set 0 (.int .i64 1)).set 1 (.int .i64 1)); simpa using h9)
    have k0 := HR9.cell 0
    have k1 := HR9.cell 1
    simp at k0 k1
    exact bodyPost_ret (v := .agg #[.int .i64 1, .int .i64 1]) (by simp [results, Tryz.results125, go_sem, k0, k1]) rfl ⟨⟨_, _, rfl⟩, ((Hc8.out.st (p := ⟨w.heap.size, 0, none⟩) (show g < w.heap.size by have := Hgl.out; have := S1.out; have := S2.out; have := S3.out; have := S4.out; have := S5.out; have := S6.out; have := S7.out; have := S8.out; omega) (.int .i64 1)).st (p := ⟨w.heap.size, 1, none⟩) (show g < w.heap.size by have := Hgl.out; have := S1.out; have := S2.out; have := S3.out; have := S4.out; have := S5.out; have := S6.out; have := S7.out; have := S8.out; omega) (.int .i64 1)).mono (by omega), ((Hd8.out.st (p := ⟨w.heap.size, 0, none⟩) (show w.heap.size ≤ w.heap.size by have := Hgl.out; have := S1.out; have := S2.out; have := S3.out; have := S4.out; have := S5.out; have := S6.out; have := S7.out; have := S8.out; omega) (.int .i64 1)).st (p := ⟨w.heap.size, 1, none⟩) (show w.heap.size ≤ w.heap.size by have := Hgl.out; have := S1.out; have := S2.out; have := S3.out; have := S4.out; have := S5.out; have := S6.out; have := S7.out; have := S8.out; omega) (.int .i64 1))⟩
  · have qR0 := R.out.cell 0
    have qR1 := R.out.cell 1
    simp at qR0 qR1
    have qRl := R.out.lt
    have qRf := R.out.frozen
    go_wp2
    clear qR0 qR1 qRl qRf
    have HR9 := (show Blk (World.alloc (World.setCell (World.setCell w7 ⟨w.heap.size, 0, none⟩ (.int .i64 x)) ⟨w.heap.size, 1, none⟩ (.int .i64 y)) (Obj.cells #[.int .i64 x, .int .i64 y] 42)) (w.heap.size) 42 #[.int .i64 x, .int .i64 y] by have h9 := (((R.out.set 0 (.int .i64 x)).set 1 (.int .i64 y)).alloc (Obj.cells #[.int .i64 x, .int .i64 y] 42)); simpa using h9)
    have k0 := HR9.cell 0
    have k1 := HR9.cell 1
    simp at k0 k1
    exact bodyPost_ret (v := .agg #[.int .i64 x, .int .i64 y]) (by simp [results, Tryz.results125, go_sem, k0, k1]) rfl ⟨⟨_, _, rfl⟩, (((Hc7.out.st (p := ⟨w.heap.size, 0, none⟩) (show g < w.heap.size by have := Hgl.out; have := S1.out; have := S2.out; have := S3.out; have := S4.out; have := S5.out; have := S6.out; have := S7.out; omega) (.int .i64 x)).st (p := ⟨w.heap.size, 1, none⟩) (show g < w.heap.size by have := Hgl.out; have := S1.out; have := S2.out; have := S3.out; have := S4.out; have := S5.out; have := S6.out; have := S7.out; omega) (.int .i64 y)).alloc (Obj.cells #[.int .i64 x, .int .i64 y] 42)).mono (by omega), (((Hd7.out.st (p := ⟨w.heap.size, 0, none⟩) (show w.heap.size ≤ w.heap.size by have := Hgl.out; have := S1.out; have := S2.out; have := S3.out; have := S4.out; have := S5.out; have := S6.out; have := S7.out; omega) (.int .i64 x)).st (p := ⟨w.heap.size, 1, none⟩) (show w.heap.size ≤ w.heap.size by have := Hgl.out; have := S1.out; have := S2.out; have := S3.out; have := S4.out; have := S5.out; have := S6.out; have := S7.out; omega) (.int .i64 y)).alloc (Obj.cells #[.int .i64 x, .int .i64 y] 42))⟩
set_option linter.unusedSimpArgs false in
set_option linter.unusedVariables false in
set_option maxRecDepth 8000 in
set_option maxHeartbeats 16000000 in
theorem anyFraction_any (g k : Nat) (w : World) (hc : Cur w g k) (hk : k ≤ 500000) :
    Calls Tryz.prog 62 #[.pointer (some ⟨g, 0, none⟩)] w fun e w' => (∃ x y : Int, e = .returned (.agg #[.int .i64 x, .int .i64 y])) ∧ Cur w' g (k + 40) ∧ Dg g w w' := by
  have Hgl := Lib.hid hc.lt
  have Hc := Lib.hid hc; have Hk := Lib.hid hk; have Hd := Lib.hid (Dg.refl g w); clear hc hk
  go_enter Tryz.func62, Tryz.ntmps62
  go_wp2_with fail
  refine (fraction_any g k _ (Hc.out.alloc _) (by have := Hk.out; omega)).mono ?_; rintro e w1 ⟨⟨x, y, rfl⟩, hc1, hd1⟩
  have S1 := Lib.hid (show w.heap.size + 1 ≤ w1.heap.size by have h9 := hd1.size; (try simp only [World.size_alloc, World.size_setCell] at h9); omega)
  have NR := Lib.hid ((Blk.new w 42 #[.int .i64 0, .int .i64 0]).dg hd1 (show w.heap.size ≠ g by have := Hgl.out; have := S1.out; omega))
  have R := NR; clear NR
  have Hc1 := Lib.hid (hc1.mono (j := k + 20) (by omega))
  have Hd1 := Lib.hid ((Hd.out.alloc _).trans hd1)
  clear hc1 hd1
  go_wp2_with fail
  refine (pick_any g (k + 20) (36) _ (Hc1.out.alloc _) (by have := Hk.out; omega)).mono ?_; rintro e w2 ⟨⟨o, lo, uo, rfl⟩, hc2, hd2⟩
  have S2 := Lib.hid (show w1.heap.size + 1 ≤ w2.heap.size by have h9 := hd2.size; (try simp only [World.size_alloc, World.size_setCell] at h9); omega)
  have NR := Lib.hid ((R.out.alloc _).dg hd2 (show w.heap.size ≠ g by have := Hgl.out; have := S1.out; have := S2.out; omega))
  have NF1 := Lib.hid ((Blk.new w1 42 #[.int .i64 x, .int .i64 y]).dg hd2 (show w1.heap.size ≠ g by have := Hgl.out; have := S1.out; have := S2.out; omega))
  have R := NR; clear NR
  have F1 := NF1; clear NF1
  have Hc2 := Lib.hid (hc2.mono (j := k + 22) (by omega))
  have Hd2 := Lib.hid ((Hd1.out.alloc _).trans hd2)
  clear hc2 hd2
  by_cases eo0 : o = 0
  · have zo0 : (o == 0) = true := by rw [eo0]; rfl
    clear eo0
    go_wp2_with fail
    refine (among_lit g (k + 22) (w2.heap.size) [0, -1, 1000000001] w2 (by simp) Hc2.out (by simp) (by simp) (by have := Hk.out; omega)).mono ?_; rintro e w3 ⟨⟨z, hz, rfl⟩, hc3, hd3⟩
    have S3 := Lib.hid (show w2.heap.size + 1 ≤ w3.heap.size by have h9 := hd3.size; (try simp only [World.size_alloc, World.size_setCell] at h9); omega)
    have NR := Lib.hid ((R.out.alloc _).dg hd3 (show w.heap.size ≠ g by have := Hgl.out; have := S1.out; have := S2.out; have := S3.out; omega))
    have NF1 := Lib.hid ((F1.out.alloc _).dg hd3 (show w1.heap.size ≠ g by have := Hgl.out; have := S1.out; have := S2.out; have := S3.out; omega))
    have R := NR; clear NR
    have F1 := NF1; clear NF1
    have Hc3 := Lib.hid (hc3.mono (j := k + 24) (by omega))
    have Hd3 := Lib.hid ((Hd2.out.alloc _).trans hd3)
    clear hc3 hd3
    clear hz
    have qF10 := F1.out.cell 0
    have qF11 := F1.out.cell 1
    simp at qF10 qF11
    have qF1l := F1.out.lt
    have qF1f := F1.out.frozen
    have qR0 := R.out.cell 0
    have qR1 := R.out.cell 1
    simp at qR0 qR1
    have qRl := R.out.lt
    have qRf := R.out.frozen
    have nF1R : w1.heap.size ≠ w.heap.size := by have := Hgl.out; have := S1.out; have := S2.out; have := S3.out; omega
    have nRF1 : w.heap.size ≠ w1.heap.size := fun e => nF1R e.symm
    go_wp2
    clear qF10 qF11 qF1l qF1f qR0 qR1 qRl qRf nF1R nRF1
    have HR9 := (show Blk (World.setCell (World.setCell (World.setCell w3 ⟨w1.heap.size, 1, none⟩ (.int .i64 z)) ⟨w.heap.size, 0, none⟩ (.int .i64 x)) ⟨w.heap.size, 1, none⟩ (.int .i64 z)) (w.heap.size) 42 #[.int .i64 x, .int .i64 z] by have h9 := (((R.out.far (p := ⟨w1.heap.size, 1, none⟩) (show w.heap.size ≠ w1.heap.size by have := Hgl.out; have := S1.out; have := S2.out; have := S3.out; omega) (.int .i64 z)).set 0 (.int .i64 x)).set 1 (.int .i64 z)); simpa using h9)
    have k0 := HR9.cell 0
    have k1 := HR9.cell 1
    simp at k0 k1
    exact bodyPost_ret (v := .agg #[.int .i64 x, .int .i64 z]) (by simp [results, Tryz.results62, go_sem, k0, k1]) rfl ⟨⟨_, _, rfl⟩, (((Hc3.out.st (p := ⟨w1.heap.size, 1, none⟩) (show g < w1.heap.size by have := Hgl.out; have := S1.out; have := S2.out; have := S3.out; omega) (.int .i64 z)).st (p := ⟨w.heap.size, 0, none⟩) (show g < w.heap.size by have := Hgl.out; have := S1.out; have := S2.out; have := S3.out; omega) (.int .i64 x)).st (p := ⟨w.heap.size, 1, none⟩) (show g < w.heap.size by have := Hgl.out; have := S1.out; have := S2.out; have := S3.out; omega) (.int .i64 z)).mono (by omega), (((Hd3.out.st (p := ⟨w1.heap.size, 1, none⟩) (show w.heap.size ≤ w1.heap.size by have := Hgl.out; have := S1.out; have := S2.out; have := S3.out; omega) (.int .i64 z)).st (p := ⟨w.heap.size, 0, none⟩) (show w.heap.size ≤ w.heap.size by have := Hgl.out; have := S1.out; have := S2.out; have := S3.out; omega) (.int .i64 x)).st (p := ⟨w.heap.size, 1, none⟩) (show w.heap.size ≤ w.heap.size by have := Hgl.out; have := S1.out; have := S2.out; have := S3.out; omega) (.int .i64 z))⟩
  · by_cases eo1 : o = 1
    · have zo1 : (o == 1) = true := by rw [eo1]; rfl
      have zo0 : (o == 0) = false := by rw [eo1]; rfl
      clear eo0 eo1
      go_wp2_with fail
      refine (among_lit g (k + 22) (w2.heap.size) [1000000001, -1000000001, -9223372036854775808] w2 (by simp) Hc2.out (by simp) (by simp) (by have := Hk.out; omega)).mono ?_; rintro e w4 ⟨⟨z, hz, rfl⟩, hc4, hd4⟩
      have S4 := Lib.hid (show w2.heap.size + 1 ≤ w4.heap.size by have h9 := hd4.size; (try simp only [World.size_alloc, World.size_setCell] at h9); omega)
      have NR := Lib.hid ((R.out.alloc _).dg hd4 (show w.heap.size ≠ g by have := Hgl.out; have := S1.out; have := S2.out; have := S4.out; omega))
      have NF1 := Lib.hid ((F1.out.alloc _).dg hd4 (show w1.heap.size ≠ g by have := Hgl.out; have := S1.out; have := S2.out; have := S4.out; omega))
      have R := NR; clear NR
      have F1 := NF1; clear NF1
      have Hc4 := Lib.hid (hc4.mono (j := k + 24) (by omega))
      have Hd4 := Lib.hid ((Hd2.out.alloc _).trans hd4)
      clear hc4 hd4
      clear hz
      have qF10 := F1.out.cell 0
      have qF11 := F1.out.cell 1
      simp at qF10 qF11
      have qF1l := F1.out.lt
      have qF1f := F1.out.frozen
      have qR0 := R.out.cell 0
      have qR1 := R.out.cell 1
      simp at qR0 qR1
      have qRl := R.out.lt
      have qRf := R.out.frozen
      have nF1R : w1.heap.size ≠ w.heap.size := by have := Hgl.out; have := S1.out; have := S2.out; have := S4.out; omega
      have nRF1 : w.heap.size ≠ w1.heap.size := fun e => nF1R e.symm
      go_wp2
      clear qF10 qF11 qF1l qF1f qR0 qR1 qRl qRf nF1R nRF1
      have HR9 := (show Blk (World.setCell (World.setCell (World.setCell w4 ⟨w1.heap.size, 0, none⟩ (.int .i64 z)) ⟨w.heap.size, 0, none⟩ (.int .i64 z)) ⟨w.heap.size, 1, none⟩ (.int .i64 y)) (w.heap.size) 42 #[.int .i64 z, .int .i64 y] by have h9 := (((R.out.far (p := ⟨w1.heap.size, 0, none⟩) (show w.heap.size ≠ w1.heap.size by have := Hgl.out; have := S1.out; have := S2.out; have := S4.out; omega) (.int .i64 z)).set 0 (.int .i64 z)).set 1 (.int .i64 y)); simpa using h9)
      have k0 := HR9.cell 0
      have k1 := HR9.cell 1
      simp at k0 k1
      exact bodyPost_ret (v := .agg #[.int .i64 z, .int .i64 y]) (by simp [results, Tryz.results62, go_sem, k0, k1]) rfl ⟨⟨_, _, rfl⟩, (((Hc4.out.st (p := ⟨w1.heap.size, 0, none⟩) (show g < w1.heap.size by have := Hgl.out; have := S1.out; have := S2.out; have := S4.out; omega) (.int .i64 z)).st (p := ⟨w.heap.size, 0, none⟩) (show g < w.heap.size by have := Hgl.out; have := S1.out; have := S2.out; have := S4.out; omega) (.int .i64 z)).st (p := ⟨w.heap.size, 1, none⟩) (show g < w.heap.size by have := Hgl.out; have := S1.out; have := S2.out; have := S4.out; omega) (.int .i64 y)).mono (by omega), (((Hd4.out.st (p := ⟨w1.heap.size, 0, none⟩) (show w.heap.size ≤ w1.heap.size by have := Hgl.out; have := S1.out; have := S2.out; have := S4.out; omega) (.int .i64 z)).st (p := ⟨w.heap.size, 0, none⟩) (show w.heap.size ≤ w.heap.size by have := Hgl.out; have := S1.out; have := S2.out; have := S4.out; omega) (.int .i64 z)).st (p := ⟨w.heap.size, 1, none⟩) (show w.heap.size ≤ w.heap.size by have := Hgl.out; have := S1.out; have := S2.out; have := S4.out; omega) (.int .i64 y))⟩
    · by_cases eo2 : o = 2
      · have zo2 : (o == 2) = true := by rw [eo2]; rfl
        have zo0 : (o == 0) = false := by rw [eo2]; rfl
        have zo1 : (o == 1) = false := by rw [eo2]; rfl
        clear eo0 eo1 eo2
        go_wp2_with fail
        refine (among_lit g (k + 22) (w2.heap.size) [2, 0, -6] w2 (by simp) Hc2.out (by simp) (by simp) (by have := Hk.out; omega)).mono ?_; rintro e w5 ⟨⟨z, hz, rfl⟩, hc5, hd5⟩
        have S5 := Lib.hid (show w2.heap.size + 1 ≤ w5.heap.size by have h9 := hd5.size; (try simp only [World.size_alloc, World.size_setCell] at h9); omega)
        have NR := Lib.hid ((R.out.alloc _).dg hd5 (show w.heap.size ≠ g by have := Hgl.out; have := S1.out; have := S2.out; have := S5.out; omega))
        have NF1 := Lib.hid ((F1.out.alloc _).dg hd5 (show w1.heap.size ≠ g by have := Hgl.out; have := S1.out; have := S2.out; have := S5.out; omega))
        have R := NR; clear NR
        have F1 := NF1; clear NF1
        have Hc5 := Lib.hid (hc5.mono (j := k + 24) (by omega))
        have Hd5 := Lib.hid ((Hd2.out.alloc _).trans hd5)
        clear hc5 hd5
        clear hz
        go_wp2_with fail
        refine (among_lit g (k + 24) (w5.heap.size) [2, 4, 9] w5 (by simp) Hc5.out (by simp) (by simp) (by have := Hk.out; omega)).mono ?_; rintro e w6 ⟨⟨v, hv, rfl⟩, hc6, hd6⟩
        have S6 := Lib.hid (show w5.heap.size + 1 ≤ w6.heap.size by have h9 := hd6.size; (try simp only [World.size_alloc, World.size_setCell] at h9); omega)
        have NR := Lib.hid ((R.out.alloc _).dg hd6 (show w.heap.size ≠ g by have := Hgl.out; have := S1.out; have := S2.out; have := S5.out; have := S6.out; omega))
        have NF1 := Lib.hid ((F1.out.alloc _).dg hd6 (show w1.heap.size ≠ g by have := Hgl.out; have := S1.out; have := S2.out; have := S5.out; have := S6.out; omega))
        have R := NR; clear NR
        have F1 := NF1; clear NF1
        have Hc6 := Lib.hid (hc6.mono (j := k + 26) (by omega))
        have Hd6 := Lib.hid ((Hd5.out.alloc _).trans hd6)
        clear hc6 hd6
        clear hv
        have qF10 := F1.out.cell 0
        have qF11 := F1.out.cell 1
        simp at qF10 qF11
        have qF1l := F1.out.lt
        have qF1f := F1.out.frozen
        have qR0 := R.out.cell 0
        have qR1 := R.out.cell 1
        simp at qR0 qR1
        have qRl := R.out.lt
        have qRf := R.out.frozen
        have nF1R : w1.heap.size ≠ w.heap.size := by have := Hgl.out; have := S1.out; have := S2.out; have := S5.out; have := S6.out; omega
        have nRF1 : w.heap.size ≠ w1.heap.size := fun e => nF1R e.symm
        go_wp2
        clear qF10 qF11 qF1l qF1f qR0 qR1 qRl qRf nF1R nRF1
        have HR9 := (show Blk (World.setCell (World.setCell (World.setCell (World.setCell w6 ⟨w1.heap.size, 0, none⟩ (.int .i64 z)) ⟨w1.heap.size, 1, none⟩ (.int .i64 v)) ⟨w.heap.size, 0, none⟩ (.int .i64 z)) ⟨w.heap.size, 1, none⟩ (.int .i64 v)) (w.heap.size) 42 #[.int .i64 z, .int .i64 v] by have h9 := ((((R.out.far (p := ⟨w1.heap.size, 0, none⟩) (show w.heap.size ≠ w1.heap.size by have := Hgl.out; have := S1.out; have := S2.out; have := S5.out; have := S6.out; omega) (.int .i64 z)).far (p := ⟨w1.heap.size, 1, none⟩) (show w.heap.size ≠ w1.heap.size by have := Hgl.out; have := S1.out; have := S2.out; have := S5.out; have := S6.out; omega) (.int .i64 v)).set 0 (.int .i64 z)).set 1 (.int .i64 v)); simpa using h9)
        have k0 := HR9.cell 0
        have k1 := HR9.cell 1
        simp at k0 k1
        exact bodyPost_ret (v := .agg #[.int .i64 z, .int .i64 v]) (by simp [results, Tryz.results62, go_sem, k0, k1]) rfl ⟨⟨_, _, rfl⟩, ((((Hc6.out.st (p := ⟨w1.heap.size, 0, none⟩) (show g < w1.heap.size by have := Hgl.out; have := S1.out; have := S2.out; have := S5.out; have := S6.out; omega) (.int .i64 z)).st (p := ⟨w1.heap.size, 1, none⟩) (show g < w1.heap.size by have := Hgl.out; have := S1.out; have := S2.out; have := S5.out; have := S6.out; omega) (.int .i64 v)).st (p := ⟨w.heap.size, 0, none⟩) (show g < w.heap.size by have := Hgl.out; have := S1.out; have := S2.out; have := S5.out; have := S6.out; omega) (.int .i64 z)).st (p := ⟨w.heap.size, 1, none⟩) (show g < w.heap.size by have := Hgl.out; have := S1.out; have := S2.out; have := S5.out; have := S6.out; omega) (.int .i64 v)).mono (by omega), ((((Hd6.out.st (p := ⟨w1.heap.size, 0, none⟩) (show w.heap.size ≤ w1.heap.size by have := Hgl.out; have := S1.out; have := S2.out; have := S5.out; have := S6.out; omega) (.int .i64 z)).st (p := ⟨w1.heap.size, 1, none⟩) (show w.heap.size ≤ w1.heap.size by have := Hgl.out; have := S1.out; have := S2.out; have := S5.out; have := S6.out; omega) (.int .i64 v)).st (p := ⟨w.heap.size, 0, none⟩) (show w.heap.size ≤ w.heap.size by have := Hgl.out; have := S1.out; have := S2.out; have := S5.out; have := S6.out; omega) (.int .i64 z)).st (p := ⟨w.heap.size, 1, none⟩) (show w.heap.size ≤ w.heap.size by have := Hgl.out; have := S1.out; have := S2.out; have := S5.out; have := S6.out; omega) (.int .i64 v))⟩
      · have zo0 : (o == 0) = false := beq_eq_false_iff_ne.2 eo0
        have zo1 : (o == 1) = false := beq_eq_false_iff_ne.2 eo1
        have zo2 : (o == 2) = false := beq_eq_false_iff_ne.2 eo2
        clear eo0 eo1 eo2
        have qF10 := F1.out.cell 0
        have qF11 := F1.out.cell 1
        simp at qF10 qF11
        have qF1l := F1.out.lt
        have qR0 := R.out.cell 0
        have qR1 := R.out.cell 1
        simp at qR0 qR1
        have qRl := R.out.lt
        have qRf := R.out.frozen
        have nF1R : w1.heap.size ≠ w.heap.size := by have := Hgl.out; have := S1.out; have := S2.out; omega
        have nRF1 : w.heap.size ≠ w1.heap.size := fun e => nF1R e.symm
        go_wp2
        clear qF10 qF11 qF1l qR0 qR1 qRl qRf nF1R nRF1
        have HR9 := (show Blk (World.setCell (World.setCell w2 ⟨w.heap.size, 0, none⟩ (.int .i64 x)) ⟨w.heap.size, 1, none⟩ (.int .i64 y)) (w.heap.size) 42 #[.int .i64 x, .int .i64 y] by have h9 := ((R.out.set 0 (.int .i64 x)).set 1 (.int .i64 y)); simpa using h9)
        have k0 := HR9.cell 0
        have k1 := HR9.cell 1
        simp at k0 k1
        exact bodyPost_ret (v := .agg #[.int .i64 x, .int .i64 y]) (by simp [results, Tryz.results62, go_sem, k0, k1]) rfl ⟨⟨_, _, rfl⟩, ((Hc2.out.st (p := ⟨w.heap.size, 0, none⟩) (show g < w.heap.size by have := Hgl.out; have := S1.out; have := S2.out; omega) (.int .i64 x)).st (p := ⟨w.heap.size, 1, none⟩) (show g < w.heap.size by have := Hgl.out; have := S1.out; have := S2.out; omega) (.int .i64 y)).mono (by omega), ((Hd2.out.st (p := ⟨w.heap.size, 0, none⟩) (show w.heap.size ≤ w.heap.size by have := Hgl.out; have := S1.out; have := S2.out; omega) (.int .i64 x)).st (p := ⟨w.heap.size, 1, none⟩) (show w.heap.size ≤ w.heap.size by have := Hgl.out; have := S1.out; have := S2.out; omega) (.int .i64 y))⟩
set_option linter.unusedSimpArgs false in
set_option linter.unusedVariables false in
set_option maxRecDepth 8000 in
set_option maxHeartbeats 16000000 in
theorem pointOn_any (g k : Nat) (a b : Int) (w : World) (hc : Cur w g k) (hk : k ≤ 600000) :
    Calls Tryz.prog 60 #[.pointer (some ⟨g, 0, none⟩), .agg #[.int .i64 a, .int .i64 b]] w fun e w' => (∃ x y q : Int, e = .returned (.agg #[.int .i64 x, .int .i64 y, .int .i64 q]) ∧ 0 ≤ q ∧ q ≤ 20) ∧ Cur w' g (k + 10) ∧ Dg g w w' := by
  have Hgl := Lib.hid hc.lt
  have Hc := Lib.hid hc; have Hk := Lib.hid hk; have Hd := Lib.hid (Dg.refl g w); clear hc hk
  go_enter Tryz.func60, Tryz.ntmps60
  go_wp2_with fail
  refine (one_any g k (8) _ ((Hc.out.alloc (Obj.cells #[.int .i64 a, .int .i64 b] 25)).alloc (Obj.cells #[.int .i64 0, .int .i64 0, .int .i64 0] 83)) (by have := Hk.out; omega)).mono ?_; rintro e w1 ⟨⟨c1, rfl⟩, hc1, hd1⟩
  have S1 := Lib.hid (show w.heap.size + 2 ≤ w1.heap.size by have h9 := hd1.size; (try simp only [World.size_alloc, World.size_setCell] at h9); omega)
  have NE := Lib.hid (((Blk.new w 25 #[.int .i64 a, .int .i64 b]).alloc (Obj.cells #[.int .i64 0, .int .i64 0, .int .i64 0] 83)).dg hd1 (show w.heap.size ≠ g by have := Hgl.out; have := S1.out; omega))
  have NR := Lib.hid ((show Blk (World.alloc (World.alloc w (Obj.cells #[.int .i64 a, .int .i64 b] 25)) (Obj.cells #[.int .i64 0, .int .i64 0, .int .i64 0] 83)) (w.heap.size + 1) 83 #[.int .i64 0, .int .i64 0, .int .i64 0] by have h9 := (Blk.new (World.alloc w (Obj.cells #[.int .i64 a, .int .i64 b] 25)) 83 #[.int .i64 0, .int .i64 0, .int .i64 0]); (try simp only [World.size_alloc, World.size_setCell] at h9); exact h9).dg hd1 (show w.heap.size + 1 ≠ g by have := Hgl.out; have := S1.out; omega))
  have E := NE; clear NE
  have R := NR; clear NR
  have Hc1 := Lib.hid (hc1.mono (j := k + 2) (by omega))
  have Hd1 := Lib.hid (((Hd.out.alloc (Obj.cells #[.int .i64 a, .int .i64 b] 25)).alloc (Obj.cells #[.int .i64 0, .int .i64 0, .int .i64 0] 83)).trans hd1)
  clear hc1 hd1
  cases hcv : curveB a b
  · have Hcv := Lib.hid hcv; clear hcv
    cases c1
    · have qE0 := E.out.cell 0
      have qE1 := E.out.cell 1
      simp at qE0 qE1
      have qEl := E.out.lt
      go_wp2_with fail
      refine (cvS_lit Hcv.out _).mono ?_; rintro e w2 ⟨rfl, hd2⟩
      clear qE0 qE1 qEl
      have S2 := Lib.hid (show w1.heap.size + 0 ≤ w2.heap.size by have h9 := hd2.size; (try simp only [World.size_alloc, World.size_setCell] at h9); omega)
      have NE := Lib.hid (E.out.dg (Dg.of_below (g := g) hd2) (show w.heap.size ≠ g by have := Hgl.out; have := S1.out; have := S2.out; omega))
      have NR := Lib.hid (R.out.dg (Dg.of_below (g := g) hd2) (show w.heap.size + 1 ≠ g by have := Hgl.out; have := S1.out; have := S2.out; omega))
      have E := NE; clear NE
      have R := NR; clear NR
      have Hc2 := Lib.hid (Hc1.out.on hd2)
      have Hd2 := Lib.hid (Hd1.out.trans (Dg.of_below (g := g) hd2))
      clear hd2
      have qR0 := R.out.cell 0
      have qR1 := R.out.cell 1
      have qR2 := R.out.cell 2
      simp at qR0 qR1 qR2
      have qRl := R.out.lt
      have qRf := R.out.frozen
      go_wp2
      clear qR0 qR1 qR2 qRl qRf
      have HR9 := (show Blk (World.setCell (World.setCell (World.setCell w2 ⟨w.heap.size + 1, 0, none⟩ (.int .i64 0)) ⟨w.heap.size + 1, 1, none⟩ (.int .i64 0)) ⟨w.heap.size + 1, 2, none⟩ (.int .i64 0)) (w.heap.size + 1) 83 #[.int .i64 0, .int .i64 0, .int .i64 0] by have h9 := (((R.out.set 0 (.int .i64 0)).set 1 (.int .i64 0)).set 2 (.int .i64 0)); simpa using h9)
      have k0 := HR9.cell 0
      have k1 := HR9.cell 1
      have k2 := HR9.cell 2
      simp at k0 k1 k2
      exact bodyPost_ret (v := .agg #[.int .i64 0, .int .i64 0, .int .i64 0]) (by simp [results, Tryz.results60, go_sem, k0, k1, k2]) rfl ⟨⟨0, 0, 0, rfl, by omega, by omega⟩, (((Hc2.out.st (p := ⟨w.heap.size + 1, 0, none⟩) (show g < w.heap.size + 1 by have := Hgl.out; have := S1.out; have := S2.out; omega) (.int .i64 0)).st (p := ⟨w.heap.size + 1, 1, none⟩) (show g < w.heap.size + 1 by have := Hgl.out; have := S1.out; have := S2.out; omega) (.int .i64 0)).st (p := ⟨w.heap.size + 1, 2, none⟩) (show g < w.heap.size + 1 by have := Hgl.out; have := S1.out; have := S2.out; omega) (.int .i64 0)).mono (by omega), (((Hd2.out.st (p := ⟨w.heap.size + 1, 0, none⟩) (show w.heap.size ≤ w.heap.size + 1 by have := Hgl.out; have := S1.out; have := S2.out; omega) (.int .i64 0)).st (p := ⟨w.heap.size + 1, 1, none⟩) (show w.heap.size ≤ w.heap.size + 1 by have := Hgl.out; have := S1.out; have := S2.out; omega) (.int .i64 0)).st (p := ⟨w.heap.size + 1, 2, none⟩) (show w.heap.size ≤ w.heap.size + 1 by have := Hgl.out; have := S1.out; have := S2.out; omega) (.int .i64 0))⟩
    · have qR0 := R.out.cell 0
      have qR1 := R.out.cell 1
      have qR2 := R.out.cell 2
      simp at qR0 qR1 qR2
      have qRl := R.out.lt
      have qRf := R.out.frozen
      go_wp2
      clear qR0 qR1 qR2 qRl qRf
      have HR9 := (show Blk (World.setCell (World.setCell (World.setCell w1 ⟨w.heap.size + 1, 0, none⟩ (.int .i64 0)) ⟨w.heap.size + 1, 1, none⟩ (.int .i64 0)) ⟨w.heap.size + 1, 2, none⟩ (.int .i64 0)) (w.heap.size + 1) 83 #[.int .i64 0, .int .i64 0, .int .i64 0] by have h9 := (((R.out.set 0 (.int .i64 0)).set 1 (.int .i64 0)).set 2 (.int .i64 0)); simpa using h9)
      have k0 := HR9.cell 0
      have k1 := HR9.cell 1
      have k2 := HR9.cell 2
      simp at k0 k1 k2
      exact bodyPost_ret (v := .agg #[.int .i64 0, .int .i64 0, .int .i64 0]) (by simp [results, Tryz.results60, go_sem, k0, k1, k2]) rfl ⟨⟨0, 0, 0, rfl, by omega, by omega⟩, (((Hc1.out.st (p := ⟨w.heap.size + 1, 0, none⟩) (show g < w.heap.size + 1 by have := Hgl.out; have := S1.out; omega) (.int .i64 0)).st (p := ⟨w.heap.size + 1, 1, none⟩) (show g < w.heap.size + 1 by have := Hgl.out; have := S1.out; omega) (.int .i64 0)).st (p := ⟨w.heap.size + 1, 2, none⟩) (show g < w.heap.size + 1 by have := Hgl.out; have := S1.out; omega) (.int .i64 0)).mono (by omega), (((Hd1.out.st (p := ⟨w.heap.size + 1, 0, none⟩) (show w.heap.size ≤ w.heap.size + 1 by have := Hgl.out; have := S1.out; omega) (.int .i64 0)).st (p := ⟨w.heap.size + 1, 1, none⟩) (show w.heap.size ≤ w.heap.size + 1 by have := Hgl.out; have := S1.out; omega) (.int .i64 0)).st (p := ⟨w.heap.size + 1, 2, none⟩) (show w.heap.size ≤ w.heap.size + 1 by have := Hgl.out; have := S1.out; omega) (.int .i64 0))⟩
  · obtain ⟨ha, hb⟩ := curveB_bd hcv
    have Hcv := Lib.hid hcv; clear hcv
    cases c1
    · have qE0 := E.out.cell 0
      have qE1 := E.out.cell 1
      simp at qE0 qE1
      have qEl := E.out.lt
      go_wp2_with fail
      refine (cvS_lit Hcv.out _).mono ?_; rintro e w3 ⟨rfl, hd3⟩
      clear qE0 qE1 qEl
      have S3 := Lib.hid (show w1.heap.size + 0 ≤ w3.heap.size by have h9 := hd3.size; (try simp only [World.size_alloc, World.size_setCell] at h9); omega)
      have NE := Lib.hid (E.out.dg (Dg.of_below (g := g) hd3) (show w.heap.size ≠ g by have := Hgl.out; have := S1.out; have := S3.out; omega))
      have NR := Lib.hid (R.out.dg (Dg.of_below (g := g) hd3) (show w.heap.size + 1 ≠ g by have := Hgl.out; have := S1.out; have := S3.out; omega))
      have E := NE; clear NE
      have R := NR; clear NR
      have Hc3 := Lib.hid (Hc1.out.on hd3)
      have Hd3 := Lib.hid (Hd1.out.trans (Dg.of_below (g := g) hd3))
      clear hd3
      go_wp2_with fail
      refine (pick_any g (k + 2) (60) _ Hc3.out (by have := Hk.out; omega)).mono ?_; rintro e w4 ⟨⟨f, lf, uf, rfl⟩, hc4, hd4⟩
      have S4 := Lib.hid (show w3.heap.size + 0 ≤ w4.heap.size by have h9 := hd4.size; (try simp only [World.size_alloc, World.size_setCell] at h9); omega)
      have NE := Lib.hid (E.out.dg hd4 (show w.heap.size ≠ g by have := Hgl.out; have := S1.out; have := S3.out; have := S4.out; omega))
      have NR := Lib.hid (R.out.dg hd4 (show w.heap.size + 1 ≠ g by have := Hgl.out; have := S1.out; have := S3.out; have := S4.out; omega))
      have E := NE; clear NE
      have R := NR; clear NR
      have Hc4 := Lib.hid (hc4.mono (j := k + 4) (by omega))
      have Hd4 := Lib.hid (Hd3.out.trans hd4)
      clear hc4 hd4
      have uf2 : f ≤ 59 := by omega
      go_wp2
      clear uf
      go_loopw [6] (fun t wr => ∃ j : Nat, t = .int .i64 (j : Int) ∧ j ≤ 60 ∧ Hid (Blk wr (w.heap.size) 25 #[.int .i64 a, .int .i64 b]) ∧ Hid (Blk wr (w.heap.size + 1) 83 #[.int .i64 0, .int .i64 0, .int .i64 0]) ∧ Hid (Cur wr g (k + 4)) ∧ Hid (Dg g w wr)) (fun t _ => 60 - (intOf t).toNat)
      case atStart => exact ⟨0, rfl, by omega, Lib.hid E.out, Lib.hid R.out, Lib.hid (Hc4.out.mono (by omega)), Lib.hid Hd4.out⟩
      case round =>
        skip
        obtain ⟨j, rfl, hj, E, R, HcR, HdR⟩ := hrel
        have SR := Lib.hid (show w.heap.size + 1 < wr.heap.size from R.out.lt)
        rcases Nat.lt_or_ge j 60 with hj6 | hj6
        · have hd0 : decide ((j : Int) < 60) = true := decide_eq_true (by omega)
          have qE0 := E.out.cell 0
          have qE1 := E.out.cell 1
          simp at qE0 qE1
          have qEl := E.out.lt
          go_wp2_with fail
          refine (ptAtXX a b (f - 30 + (j : Int)) _ ha hb (by omega)).mono ?_; rintro e w5 ⟨⟨v, rfl, hv⟩, hd5⟩
          clear qE0 qE1 qEl
          have S5 := Lib.hid (show wr.heap.size + 0 ≤ w5.heap.size by have h9 := hd5.size; (try simp only [World.size_alloc, World.size_setCell] at h9); omega)
          have NE := Lib.hid (E.out.dg (Dg.of_below (g := g) hd5) (show w.heap.size ≠ g by have := Hgl.out; have := SR.out; have := S5.out; omega))
          have NR := Lib.hid (R.out.dg (Dg.of_below (g := g) hd5) (show w.heap.size + 1 ≠ g by have := Hgl.out; have := SR.out; have := S5.out; omega))
          have E := NE; clear NE
          have R := NR; clear NR
          have Hc5 := Lib.hid (HcR.out.on hd5)
          have Hd5 := Lib.hid (HdR.out.trans (Dg.of_below (g := g) hd5))
          clear hd5
          rcases hv with rfl | ⟨g1, rfl, hg1, hL⟩ | ⟨g1, y1, rfl, hg1, ⟨hy0, hy1⟩, hL⟩
          · go_wp2
            go_roundw
            case rel => exact ⟨j + 1, by go_num, by omega, E, R, Lib.hid (Hc5.out.mono (by omega)), Hd5⟩
            case measure => simp [intOf]; omega
          · obtain ⟨xx, hxx⟩ : ∃ z, f - 30 + (j : Int) = z := ⟨_, rfl⟩
            have hxb : -90 ≤ xx ∧ xx ≤ 90 := by omega
            rw [hxx] at hL
            have L := Lib.hid hL; have Lg := Lib.hid hg1; clear hL hg1
            go_wp2_with fail
            refine (pick_any g (k + 4) 1 _ Hc5.out (by have := Hk.out; omega)).mono ?_; rintro e w6 ⟨⟨i, li, ui, rfl⟩, hc6, hd6⟩
            have S6 := Lib.hid (show w5.heap.size + 0 ≤ w6.heap.size by have h9 := hd6.size; (try simp only [World.size_alloc, World.size_setCell] at h9); omega)
            have NE := Lib.hid (E.out.dg hd6 (show w.heap.size ≠ g by have := Hgl.out; have := SR.out; have := S5.out; have := Lg.out; have := S6.out; omega))
            have NR := Lib.hid (R.out.dg hd6 (show w.heap.size + 1 ≠ g by have := Hgl.out; have := SR.out; have := S5.out; have := Lg.out; have := S6.out; omega))
            have NL := Lib.hid (L.out.dg hd6 (show g1 ≠ g by have := Hgl.out; have := SR.out; have := S5.out; have := Lg.out; have := S6.out; omega))
            have E := NE; clear NE
            have R := NR; clear NR
            have L := NL; clear NL
            have Hc6 := Lib.hid (hc6.mono (j := k + 6) (by omega))
            have Hd6 := Lib.hid (Hd5.out.trans hd6)
            clear hc6 hd6
            obtain rfl : i = 0 := by omega
            clear li ui
            have qL0 := L.out.cell 0
            have qL1 := L.out.cell 1
            have qL2 := L.out.cell 2
            simp at qL0 qL1 qL2
            have qLl := L.out.lt
            go_wp2_with fail
            obtain ⟨wt, hw9⟩ : ∃ x, x = (World.alloc w6 (Obj.cells #[.int .i64 xx, .int .i64 0, .int .i64 1] 83)) := ⟨_, rfl⟩
            rw [← hw9]
            have hd7 : Dg g (World.alloc w6 (Obj.cells #[.int .i64 xx, .int .i64 0, .int .i64 1] 83)) wt := by rw [hw9]; exact Dg.refl _ _
            have hc7 : Cur wt g (k + 6) := by rw [hw9]; exact (Hc6.out.alloc _)
            have S7 := Lib.hid (show w6.heap.size + 1 ≤ wt.heap.size by have h9 := hd7.size; (try simp only [World.size_alloc, World.size_setCell] at h9); omega)
            have NE := Lib.hid ((E.out.alloc _).dg hd7 (show w.heap.size ≠ g by have := Hgl.out; have := SR.out; have := S5.out; have := Lg.out; have := S6.out; have := S7.out; omega))
            have NR := Lib.hid ((R.out.alloc _).dg hd7 (show w.heap.size + 1 ≠ g by have := Hgl.out; have := SR.out; have := S5.out; have := Lg.out; have := S6.out; have := S7.out; omega))
            have NL := Lib.hid ((L.out.alloc _).dg hd7 (show g1 ≠ g by have := Hgl.out; have := SR.out; have := S5.out; have := Lg.out; have := S6.out; have := S7.out; omega))
            have NA8 := Lib.hid ((Blk.new w6 83 #[.int .i64 xx, .int .i64 0, .int .i64 1]).dg hd7 (show w6.heap.size ≠ g by have := Hgl.out; have := SR.out; have := S5.out; have := Lg.out; have := S6.out; have := S7.out; omega))
            have E := NE; clear NE
            have R := NR; clear NR
            have L := NL; clear NL
            have A8 := NA8; clear NA8
            have Hc7 := Lib.hid (hc7.mono (j := k + 6) (by omega))
            have Hd7 := Lib.hid ((Hd6.out.alloc _).trans hd7)
            clear hc7 hd7
            clear hw9
            have qE0 : wt.cell? ⟨w.heap.size, 0, none⟩ = some (.int .i64 a) := E.out.cell 0
            have qE1 : wt.cell? ⟨w.heap.size, 1, none⟩ = some (.int .i64 b) := E.out.cell 1
            have qEl := E.out.lt; have qEg : w.heap.size ≠ g := by have := Hgl.out; have := SR.out; have := S5.out; have := Lg.out; have := S6.out; have := S7.out; omega
            have qA80 : wt.cell? ⟨w6.heap.size, 0, none⟩ = some (.int .i64 xx) := A8.out.cell 0
            have qA81 : wt.cell? ⟨w6.heap.size, 1, none⟩ = some (.int .i64 0) := A8.out.cell 1
            have qA82 : wt.cell? ⟨w6.heap.size, 2, none⟩ = some (.int .i64 1) := A8.out.cell 2
            have qA8l := A8.out.lt; have qA8g : w6.heap.size ≠ g := by have := Hgl.out; have := SR.out; have := S5.out; have := Lg.out; have := S6.out; have := S7.out; omega
            have HS : Hid (∀ w', Dg g wt w' → (w'.cell? ⟨w.heap.size, 0, none⟩ = some (.int .i64 a) ∧ w'.cell? ⟨w.heap.size, 1, none⟩ = some (.int .i64 b) ∧ w'.cell? ⟨w6.heap.size, 0, none⟩ = some (.int .i64 xx) ∧ w'.cell? ⟨w6.heap.size, 1, none⟩ = some (.int .i64 0) ∧ w'.cell? ⟨w6.heap.size, 2, none⟩ = some (.int .i64 1) ∧ Dg g wt w')) := Lib.hid (fun w' hw => ⟨(dcell (p := ⟨w.heap.size, 0, none⟩) hw qEl qEg).trans qE0, (dcell (p := ⟨w.heap.size, 1, none⟩) hw qEl qEg).trans qE1, (dcell (p := ⟨w6.heap.size, 0, none⟩) hw qA8l qA8g).trans qA80, (dcell (p := ⟨w6.heap.size, 1, none⟩) hw qA8l qA8g).trans qA81, (dcell (p := ⟨w6.heap.size, 2, none⟩) hw qA8l qA8g).trans qA82, hw⟩)
            have hdt := Dg.refl g wt
            have hgt : g < wt.heap.size := by have := Hgl.out; have := SR.out; have := S5.out; have := Lg.out; have := S6.out; have := S7.out; omega
            have hcK := Hc7.out
            go_cut [9, 10] (fun p0 p1 wx => ∃ (q : Nat) (u v z : Int) (ok : Bool), p0 = .pointer (some ⟨q, 0, none⟩) ∧ p1 = .bool ok ∧ Blk wx q 83 #[.int .i64 u, .int .i64 v, .int .i64 z] ∧ (0 ≤ z ∧ z ≤ 20) ∧ wt.heap.size ≤ q ∧ Cur wx g (k + 8) ∧ Dg g wt wx)
            case first =>
              go_region_held3 (fun w' => w'.cell? ⟨w.heap.size, 0, none⟩ = some (.int .i64 a) ∧ w'.cell? ⟨w.heap.size, 1, none⟩ = some (.int .i64 b) ∧ w'.cell? ⟨w6.heap.size, 0, none⟩ = some (.int .i64 xx) ∧ w'.cell? ⟨w6.heap.size, 1, none⟩ = some (.int .i64 0) ∧ w'.cell? ⟨w6.heap.size, 2, none⟩ = some (.int .i64 1) ∧ Dg g wt w') ((go_split_ands; refine HS.out _ ?_; repeat (first | (with_reducible assumption) | (with_reducible refine Dg.drew ?_) | (with_reducible refine Dg.alloc ?_ _) | (with_reducible refine Dg.st ?_ (by dsimp only; omega) _) | (with_reducible refine Dg.trans ?_ (by with_reducible assumption))))) ((first | (go_at_call 102; with_reducible refine Calls.mono (pick_any g (k + 6) 4 _ (by repeat (first | with_reducible exact hcK | (with_reducible refine Cur.drewP ?_) | (with_reducible refine Cur.alloc ?_ _))) (by have := Hk.out; omega)) ?_; rintro e fw1 ⟨⟨i2, li2, ui2, rfl⟩, hc1, hd1⟩; have sfw1 : wt.heap.size ≤ fw1.heap.size := (by have h9 := hd1.size; (try simp only [World.size_alloc, World.size_drew] at h9); omega); obtain ⟨m, hm, hm4⟩ : ∃ m : Nat, 1 + i2 = (m : Int) ∧ m ≤ 12 := ⟨(1 + i2).toNat, by omega, by omega⟩; have hwm : IntKind.i64.wrap (1 + i2) = (m : Int) := (by rw [hm, IntKind.wrap_i64]; omega); clear hm li2 ui2 hcK; first | (have hne : wt.heap.size ≠ g := (by (try simp only [World.size_alloc, World.size_drew]); omega); have hz : Blk fw1 wt.heap.size 83 #[.int .i64 0, .int .i64 0, .int .i64 0] := (by with_reducible exact Blk.dg (Blk.new wt 83 #[.int .i64 0, .int .i64 0, .int .i64 0]) hd1 hne); have hz : Blk fw1 wt.heap.size 83 #[.int .i64 0, .int .i64 0, .int .i64 0] := hz; clear hne; have Hz := Lib.hid hz; clear hz) | (have hne : wt.heap.size ≠ g := (by (try simp only [World.size_alloc, World.size_drew]); omega); have hz : Blk fw1 wt.heap.size 83 #[.int .i64 0, .int .i64 0, .int .i64 0] := (by with_reducible exact Blk.dg (Blk.drew (Blk.new wt 83 #[.int .i64 0, .int .i64 0, .int .i64 0])) hd1 hne); have hz : Blk fw1 wt.heap.size 83 #[.int .i64 0, .int .i64 0, .int .i64 0] := hz; clear hne; have Hz := Lib.hid hz; clear hz) | (have hne : (World.drew wt).heap.size ≠ g := (by (try simp only [World.size_alloc, World.size_drew]); omega); have hz : Blk fw1 (World.drew wt).heap.size 83 #[.int .i64 0, .int .i64 0, .int .i64 0] := (by with_reducible exact Blk.dg (Blk.new (World.drew wt) 83 #[.int .i64 0, .int .i64 0, .int .i64 0]) hd1 hne); have hz : Blk fw1 wt.heap.size 83 #[.int .i64 0, .int .i64 0, .int .i64 0] := hz; clear hne; have Hz := Lib.hid hz; clear hz) | skip) | (go_at_call 121; with_reducible refine Calls.mono (ptTimesX a b (xx) (0) 1 m _ (by omega) (by omega) (by omega) hm4) ?_; rintro e fw2 ⟨⟨u, v, z, ok, rfl, hu9, hz9⟩, hb2⟩; have hc2 : Cur fw2 g (k + 8) := Cur.on (by repeat (first | with_reducible exact (hc1.mono (j := k + 8) (by omega)) | (with_reducible refine Cur.drewP ?_) | (with_reducible refine Cur.alloc ?_ _))) hb2; have hd2 := Dg.of_below (g := g) hb2; have sfw2 : wt.heap.size ≤ fw2.heap.size := (by have h9 := hb2.size; (try simp only [World.size_alloc, World.size_drew] at h9); omega); clear hb2; first | (have hz := Blk.dg Hz.out hd2 (by omega); clear Hz; have zc0 := hz.cell 0; have zf0 := hz.frozen 0; have zc1 := hz.cell 1; have zf1 := hz.frozen 1; have zc2 := hz.cell 2; have zf2 := hz.frozen 2; have zl := hz.lt; simp at zc0 zc1 zc2; have Hz := Lib.hid hz; clear hz) | (have hne : fw1.heap.size ≠ g := (by (try simp only [World.size_alloc, World.size_drew]); omega); have hz : Blk fw2 fw1.heap.size 83 #[.int .i64 0, .int .i64 0, .int .i64 0] := (by with_reducible exact Blk.dg (Blk.new fw1 83 #[.int .i64 0, .int .i64 0, .int .i64 0]) hd2 hne); have hz : Blk fw2 fw1.heap.size 83 #[.int .i64 0, .int .i64 0, .int .i64 0] := hz; clear hne; have zc0 := hz.cell 0; have zf0 := hz.frozen 0; have zc1 := hz.cell 1; have zf1 := hz.frozen 1; have zc2 := hz.cell 2; have zf2 := hz.frozen 2; have zl := hz.lt; simp at zc0 zc1 zc2; have Hz := Lib.hid hz; clear hz) | skip)))
              all_goals go_wp2_with fail
              all_goals go_meet
              all_goals first
                | with_reducible exact ⟨_, _, _, _, _, rfl, rfl, Blk.new _ _ _, hz9, (by (try simp only [World.size_alloc, World.size_drew, World.size_setCell]); omega), (by repeat (first | with_reducible exact hc2 | (with_reducible refine Cur.drewP ?_) | (with_reducible refine Cur.alloc ?_ _) | (with_reducible refine Cur.st ?_ (by dsimp only; (try simp only [World.size_alloc, World.size_drew, World.size_setCell]); omega) _))), (by repeat (first | (with_reducible assumption) | (with_reducible refine Dg.drew ?_) | (with_reducible refine Dg.alloc ?_ _) | (with_reducible refine Dg.st ?_ (by dsimp only; (try simp only [World.size_alloc, World.size_drew, World.size_setCell]); omega) _) | (with_reducible refine Dg.trans ?_ (by with_reducible assumption))))⟩
                | exact ⟨_, _, _, _, _, rfl, rfl, Blk.set3 Hz.out, hz9, (by (try simp only [World.size_alloc, World.size_drew, World.size_setCell]); omega), (by repeat (first | with_reducible exact hc2 | (with_reducible refine Cur.drewP ?_) | (with_reducible refine Cur.alloc ?_ _) | (with_reducible refine Cur.st ?_ (by dsimp only; (try simp only [World.size_alloc, World.size_drew, World.size_setCell]); omega) _))), (by repeat (first | (with_reducible assumption) | (with_reducible refine Dg.drew ?_) | (with_reducible refine Dg.alloc ?_ _) | (with_reducible refine Dg.st ?_ (by dsimp only; (try simp only [World.size_alloc, World.size_drew, World.size_setCell]); omega) _) | (with_reducible refine Dg.trans ?_ (by with_reducible assumption))))⟩
            obtain ⟨q, u, v, z, ok, rfl, rfl, hBq, hz, hq, hcc, hdc⟩ := hcut
            clear HS hdt hcK qE0 qE1 qEl qEg qA80 qA81 qA82 qA8l qA8g
            obtain ⟨w5, hw5⟩ : ∃ x, x = wc := ⟨_, rfl⟩; subst hw5
            have hc8 := hcc; have hd8 := hdc; clear hcc hdc
            have S8 := Lib.hid (show wt.heap.size + 0 ≤ w5.heap.size by have h9 := hd8.size; (try simp only [World.size_alloc, World.size_setCell] at h9); omega)
            have NE := Lib.hid (E.out.dg hd8 (show w.heap.size ≠ g by have := Hgl.out; have := SR.out; have := S5.out; have := Lg.out; have := S6.out; have := S7.out; have := S8.out; omega))
            have NR := Lib.hid (R.out.dg hd8 (show w.heap.size + 1 ≠ g by have := Hgl.out; have := SR.out; have := S5.out; have := Lg.out; have := S6.out; have := S7.out; have := S8.out; omega))
            have NL := Lib.hid (L.out.dg hd8 (show g1 ≠ g by have := Hgl.out; have := SR.out; have := S5.out; have := Lg.out; have := S6.out; have := S7.out; have := S8.out; omega))
            have NA8 := Lib.hid (A8.out.dg hd8 (show w6.heap.size ≠ g by have := Hgl.out; have := SR.out; have := S5.out; have := Lg.out; have := S6.out; have := S7.out; have := S8.out; omega))
            have E := NE; clear NE
            have R := NR; clear NR
            have L := NL; clear NL
            have A8 := NA8; clear NA8
            have Hc8 := Lib.hid (hc8.mono (j := k + 8) (by omega))
            have Hd8 := Lib.hid (Hd7.out.trans hd8)
            clear hc8 hd8
            have Qq := Lib.hid hq; have Q := Lib.hid hBq; have Qw := Lib.hid hBq.lt; clear hq hBq
            cases ok
            · have qA80 := A8.out.cell 0
              have qA81 := A8.out.cell 1
              have qA82 := A8.out.cell 2
              simp at qA80 qA81 qA82
              have qA8l := A8.out.lt
              have qR0 := R.out.cell 0
              have qR1 := R.out.cell 1
              have qR2 := R.out.cell 2
              simp at qR0 qR1 qR2
              have qRl := R.out.lt
              have qRf := R.out.frozen
              have nA8R : w6.heap.size ≠ w.heap.size + 1 := by have := Hgl.out; have := SR.out; have := S5.out; have := Lg.out; have := S6.out; have := S7.out; have := S8.out; have := Qq.out; have := Qw.out; omega
              have nRA8 : w.heap.size + 1 ≠ w6.heap.size := fun e => nA8R e.symm
              go_wp2
              clear qA80 qA81 qA82 qA8l qR0 qR1 qR2 qRl qRf nA8R nRA8
              have HR9 := (show Blk (World.setCell (World.setCell (World.setCell w5 ⟨w.heap.size + 1, 0, none⟩ (.int .i64 xx)) ⟨w.heap.size + 1, 1, none⟩ (.int .i64 0)) ⟨w.heap.size + 1, 2, none⟩ (.int .i64 1)) (w.heap.size + 1) 83 #[.int .i64 xx, .int .i64 0, .int .i64 1] by have h9 := (((R.out.set 0 (.int .i64 xx)).set 1 (.int .i64 0)).set 2 (.int .i64 1)); simpa using h9)
              have k0 := HR9.cell 0
              have k1 := HR9.cell 1
              have k2 := HR9.cell 2
              simp at k0 k1 k2
              exact bodyPost_ret (v := .agg #[.int .i64 xx, .int .i64 0, .int .i64 1]) (by simp [results, Tryz.results60, go_sem, k0, k1, k2]) rfl ⟨⟨_, _, _, rfl, by omega, by omega⟩, (((Hc8.out.st (p := ⟨w.heap.size + 1, 0, none⟩) (show g < w.heap.size + 1 by have := Hgl.out; have := SR.out; have := S5.out; have := Lg.out; have := S6.out; have := S7.out; have := S8.out; have := Qq.out; have := Qw.out; omega) (.int .i64 xx)).st (p := ⟨w.heap.size + 1, 1, none⟩) (show g < w.heap.size + 1 by have := Hgl.out; have := SR.out; have := S5.out; have := Lg.out; have := S6.out; have := S7.out; have := S8.out; have := Qq.out; have := Qw.out; omega) (.int .i64 0)).st (p := ⟨w.heap.size + 1, 2, none⟩) (show g < w.heap.size + 1 by have := Hgl.out; have := SR.out; have := S5.out; have := Lg.out; have := S6.out; have := S7.out; have := S8.out; have := Qq.out; have := Qw.out; omega) (.int .i64 1)).mono (by omega), (((Hd8.out.st (p := ⟨w.heap.size + 1, 0, none⟩) (show w.heap.size ≤ w.heap.size + 1 by have := Hgl.out; have := SR.out; have := S5.out; have := Lg.out; have := S6.out; have := S7.out; have := S8.out; have := Qq.out; have := Qw.out; omega) (.int .i64 xx)).st (p := ⟨w.heap.size + 1, 1, none⟩) (show w.heap.size ≤ w.heap.size + 1 by have := Hgl.out; have := SR.out; have := S5.out; have := Lg.out; have := S6.out; have := S7.out; have := S8.out; have := Qq.out; have := Qw.out; omega) (.int .i64 0)).st (p := ⟨w.heap.size + 1, 2, none⟩) (show w.heap.size ≤ w.heap.size + 1 by have := Hgl.out; have := SR.out; have := S5.out; have := Lg.out; have := S6.out; have := S7.out; have := S8.out; have := Qq.out; have := Qw.out; omega) (.int .i64 1))⟩
            · have qQ0 := Q.out.cell 0
              have qQ1 := Q.out.cell 1
              have qQ2 := Q.out.cell 2
              simp at qQ0 qQ1 qQ2
              have qQl := Q.out.lt
              have qR0 := R.out.cell 0
              have qR1 := R.out.cell 1
              have qR2 := R.out.cell 2
              simp at qR0 qR1 qR2
              have qRl := R.out.lt
              have qRf := R.out.frozen
              have nQR : q ≠ w.heap.size + 1 := by have := Hgl.out; have := SR.out; have := S5.out; have := Lg.out; have := S6.out; have := S7.out; have := S8.out; have := Qq.out; have := Qw.out; omega
              have nRQ : w.heap.size + 1 ≠ q := fun e => nQR e.symm
              go_wp2
              clear qQ0 qQ1 qQ2 qQl qR0 qR1 qR2 qRl qRf nQR nRQ
              have HR9 := (show Blk (World.setCell (World.setCell (World.setCell w5 ⟨w.heap.size + 1, 0, none⟩ (.int .i64 u)) ⟨w.heap.size + 1, 1, none⟩ (.int .i64 v)) ⟨w.heap.size + 1, 2, none⟩ (.int .i64 z)) (w.heap.size + 1) 83 #[.int .i64 u, .int .i64 v, .int .i64 z] by have h9 := (((R.out.set 0 (.int .i64 u)).set 1 (.int .i64 v)).set 2 (.int .i64 z)); simpa using h9)
              have k0 := HR9.cell 0
              have k1 := HR9.cell 1
              have k2 := HR9.cell 2
              simp at k0 k1 k2
              exact bodyPost_ret (v := .agg #[.int .i64 u, .int .i64 v, .int .i64 z]) (by simp [results, Tryz.results60, go_sem, k0, k1, k2]) rfl ⟨⟨_, _, _, rfl, hz.1, hz.2⟩, (((Hc8.out.st (p := ⟨w.heap.size + 1, 0, none⟩) (show g < w.heap.size + 1 by have := Hgl.out; have := SR.out; have := S5.out; have := Lg.out; have := S6.out; have := S7.out; have := S8.out; have := Qq.out; have := Qw.out; omega) (.int .i64 u)).st (p := ⟨w.heap.size + 1, 1, none⟩) (show g < w.heap.size + 1 by have := Hgl.out; have := SR.out; have := S5.out; have := Lg.out; have := S6.out; have := S7.out; have := S8.out; have := Qq.out; have := Qw.out; omega) (.int .i64 v)).st (p := ⟨w.heap.size + 1, 2, none⟩) (show g < w.heap.size + 1 by have := Hgl.out; have := SR.out; have := S5.out; have := Lg.out; have := S6.out; have := S7.out; have := S8.out; have := Qq.out; have := Qw.out; omega) (.int .i64 z)).mono (by omega), (((Hd8.out.st (p := ⟨w.heap.size + 1, 0, none⟩) (show w.heap.size ≤ w.heap.size + 1 by have := Hgl.out; have := SR.out; have := S5.out; have := Lg.out; have := S6.out; have := S7.out; have := S8.out; have := Qq.out; have := Qw.out; omega) (.int .i64 u)).st (p := ⟨w.heap.size + 1, 1, none⟩) (show w.heap.size ≤ w.heap.size + 1 by have := Hgl.out; have := SR.out; have := S5.out; have := Lg.out; have := S6.out; have := S7.out; have := S8.out; have := Qq.out; have := Qw.out; omega) (.int .i64 v)).st (p := ⟨w.heap.size + 1, 2, none⟩) (show w.heap.size ≤ w.heap.size + 1 by have := Hgl.out; have := SR.out; have := S5.out; have := Lg.out; have := S6.out; have := S7.out; have := S8.out; have := Qq.out; have := Qw.out; omega) (.int .i64 z))⟩
          · obtain ⟨xx, hxx⟩ : ∃ z, f - 30 + (j : Int) = z := ⟨_, rfl⟩
            have hxb : -90 ≤ xx ∧ xx ≤ 90 := by omega
            rw [hxx] at hL
            have L := Lib.hid hL; have Lg := Lib.hid hg1; clear hL hg1
            go_wp2_with fail
            refine (pick_any g (k + 4) 2 _ Hc5.out (by have := Hk.out; omega)).mono ?_; rintro e w9 ⟨⟨i, li, ui, rfl⟩, hc9, hd9⟩
            have S9 := Lib.hid (show w5.heap.size + 0 ≤ w9.heap.size by have h9 := hd9.size; (try simp only [World.size_alloc, World.size_setCell] at h9); omega)
            have NE := Lib.hid (E.out.dg hd9 (show w.heap.size ≠ g by have := Hgl.out; have := SR.out; have := S5.out; have := Lg.out; have := S9.out; omega))
            have NR := Lib.hid (R.out.dg hd9 (show w.heap.size + 1 ≠ g by have := Hgl.out; have := SR.out; have := S5.out; have := Lg.out; have := S9.out; omega))
            have NL := Lib.hid (L.out.dg hd9 (show g1 ≠ g by have := Hgl.out; have := SR.out; have := S5.out; have := Lg.out; have := S9.out; omega))
            have E := NE; clear NE
            have R := NR; clear NR
            have L := NL; clear NL
            have Hc9 := Lib.hid (hc9.mono (j := k + 6) (by omega))
            have Hd9 := Lib.hid (Hd5.out.trans hd9)
            clear hc9 hd9
            rcases (show i = 0 ∨ i = 1 by omega) with rfl | rfl
            · clear li ui
              have qL0 := L.out.cell 0
              have qL1 := L.out.cell 1
              have qL2 := L.out.cell 2
              have qL3 := L.out.cell 3
              have qL4 := L.out.cell 4
              have qL5 := L.out.cell 5
              simp at qL0 qL1 qL2 qL3 qL4 qL5
              have qLl := L.out.lt
              go_wp2_with fail
              obtain ⟨wt, hw9⟩ : ∃ x, x = (World.alloc w9 (Obj.cells #[.int .i64 xx, .int .i64 (-y1), .int .i64 1] 83)) := ⟨_, rfl⟩
              rw [← hw9]
              have hd10 : Dg g (World.alloc w9 (Obj.cells #[.int .i64 xx, .int .i64 (-y1), .int .i64 1] 83)) wt := by rw [hw9]; exact Dg.refl _ _
              have hc10 : Cur wt g (k + 6) := by rw [hw9]; exact (Hc9.out.alloc _)
              have S10 := Lib.hid (show w9.heap.size + 1 ≤ wt.heap.size by have h9 := hd10.size; (try simp only [World.size_alloc, World.size_setCell] at h9); omega)
              have NE := Lib.hid ((E.out.alloc _).dg hd10 (show w.heap.size ≠ g by have := Hgl.out; have := SR.out; have := S5.out; have := Lg.out; have := S9.out; have := S10.out; omega))
              have NR := Lib.hid ((R.out.alloc _).dg hd10 (show w.heap.size + 1 ≠ g by have := Hgl.out; have := SR.out; have := S5.out; have := Lg.out; have := S9.out; have := S10.out; omega))
              have NL := Lib.hid ((L.out.alloc _).dg hd10 (show g1 ≠ g by have := Hgl.out; have := SR.out; have := S5.out; have := Lg.out; have := S9.out; have := S10.out; omega))
              have NA8 := Lib.hid ((Blk.new w9 83 #[.int .i64 xx, .int .i64 (-y1), .int .i64 1]).dg hd10 (show w9.heap.size ≠ g by have := Hgl.out; have := SR.out; have := S5.out; have := Lg.out; have := S9.out; have := S10.out; omega))
              have E := NE; clear NE
              have R := NR; clear NR
              have L := NL; clear NL
              have A8 := NA8; clear NA8
              have Hc10 := Lib.hid (hc10.mono (j := k + 6) (by omega))
              have Hd10 := Lib.hid ((Hd9.out.alloc _).trans hd10)
              clear hc10 hd10
              clear hw9
              have qE0 : wt.cell? ⟨w.heap.size, 0, none⟩ = some (.int .i64 a) := E.out.cell 0
              have qE1 : wt.cell? ⟨w.heap.size, 1, none⟩ = some (.int .i64 b) := E.out.cell 1
              have qEl := E.out.lt; have qEg : w.heap.size ≠ g := by have := Hgl.out; have := SR.out; have := S5.out; have := Lg.out; have := S9.out; have := S10.out; omega
              have qA80 : wt.cell? ⟨w9.heap.size, 0, none⟩ = some (.int .i64 xx) := A8.out.cell 0
              have qA81 : wt.cell? ⟨w9.heap.size, 1, none⟩ = some (.int .i64 (-y1)) := A8.out.cell 1
              have qA82 : wt.cell? ⟨w9.heap.size, 2, none⟩ = some (.int .i64 1) := A8.out.cell 2
              have qA8l := A8.out.lt; have qA8g : w9.heap.size ≠ g := by have := Hgl.out; have := SR.out; have := S5.out; have := Lg.out; have := S9.out; have := S10.out; omega
              have HS : Hid (∀ w', Dg g wt w' → (w'.cell? ⟨w.heap.size, 0, none⟩ = some (.int .i64 a) ∧ w'.cell? ⟨w.heap.size, 1, none⟩ = some (.int .i64 b) ∧ w'.cell? ⟨w9.heap.size, 0, none⟩ = some (.int .i64 xx) ∧ w'.cell? ⟨w9.heap.size, 1, none⟩ = some (.int .i64 (-y1)) ∧ w'.cell? ⟨w9.heap.size, 2, none⟩ = some (.int .i64 1) ∧ Dg g wt w')) := Lib.hid (fun w' hw => ⟨(dcell (p := ⟨w.heap.size, 0, none⟩) hw qEl qEg).trans qE0, (dcell (p := ⟨w.heap.size, 1, none⟩) hw qEl qEg).trans qE1, (dcell (p := ⟨w9.heap.size, 0, none⟩) hw qA8l qA8g).trans qA80, (dcell (p := ⟨w9.heap.size, 1, none⟩) hw qA8l qA8g).trans qA81, (dcell (p := ⟨w9.heap.size, 2, none⟩) hw qA8l qA8g).trans qA82, hw⟩)
              have hdt := Dg.refl g wt
              have hgt : g < wt.heap.size := by have := Hgl.out; have := SR.out; have := S5.out; have := Lg.out; have := S9.out; have := S10.out; omega
              have hcK := Hc10.out
              go_cut [9, 10] (fun p0 p1 wx => ∃ (q : Nat) (u v z : Int) (ok : Bool), p0 = .pointer (some ⟨q, 0, none⟩) ∧ p1 = .bool ok ∧ Blk wx q 83 #[.int .i64 u, .int .i64 v, .int .i64 z] ∧ (0 ≤ z ∧ z ≤ 20) ∧ wt.heap.size ≤ q ∧ Cur wx g (k + 8) ∧ Dg g wt wx)
              case first =>
                go_region_held3 (fun w' => w'.cell? ⟨w.heap.size, 0, none⟩ = some (.int .i64 a) ∧ w'.cell? ⟨w.heap.size, 1, none⟩ = some (.int .i64 b) ∧ w'.cell? ⟨w9.heap.size, 0, none⟩ = some (.int .i64 xx) ∧ w'.cell? ⟨w9.heap.size, 1, none⟩ = some (.int .i64 (-y1)) ∧ w'.cell? ⟨w9.heap.size, 2, none⟩ = some (.int .i64 1) ∧ Dg g wt w') ((go_split_ands; refine HS.out _ ?_; repeat (first | (with_reducible assumption) | (with_reducible refine Dg.drew ?_) | (with_reducible refine Dg.alloc ?_ _) | (with_reducible refine Dg.st ?_ (by dsimp only; omega) _) | (with_reducible refine Dg.trans ?_ (by with_reducible assumption))))) ((first | (go_at_call 102; with_reducible refine Calls.mono (pick_any g (k + 6) 4 _ (by repeat (first | with_reducible exact hcK | (with_reducible refine Cur.drewP ?_) | (with_reducible refine Cur.alloc ?_ _))) (by have := Hk.out; omega)) ?_; rintro e fw1 ⟨⟨i2, li2, ui2, rfl⟩, hc1, hd1⟩; have sfw1 : wt.heap.size ≤ fw1.heap.size := (by have h9 := hd1.size; (try simp only [World.size_alloc, World.size_drew] at h9); omega); obtain ⟨m, hm, hm4⟩ : ∃ m : Nat, 1 + i2 = (m : Int) ∧ m ≤ 12 := ⟨(1 + i2).toNat, by omega, by omega⟩; have hwm : IntKind.i64.wrap (1 + i2) = (m : Int) := (by rw [hm, IntKind.wrap_i64]; omega); clear hm li2 ui2 hcK; first | (have hne : wt.heap.size ≠ g := (by (try simp only [World.size_alloc, World.size_drew]); omega); have hz : Blk fw1 wt.heap.size 83 #[.int .i64 0, .int .i64 0, .int .i64 0] := (by with_reducible exact Blk.dg (Blk.new wt 83 #[.int .i64 0, .int .i64 0, .int .i64 0]) hd1 hne); have hz : Blk fw1 wt.heap.size 83 #[.int .i64 0, .int .i64 0, .int .i64 0] := hz; clear hne; have Hz := Lib.hid hz; clear hz) | (have hne : wt.heap.size ≠ g := (by (try simp only [World.size_alloc, World.size_drew]); omega); have hz : Blk fw1 wt.heap.size 83 #[.int .i64 0, .int .i64 0, .int .i64 0] := (by with_reducible exact Blk.dg (Blk.drew (Blk.new wt 83 #[.int .i64 0, .int .i64 0, .int .i64 0])) hd1 hne); have hz : Blk fw1 wt.heap.size 83 #[.int .i64 0, .int .i64 0, .int .i64 0] := hz; clear hne; have Hz := Lib.hid hz; clear hz) | (have hne : (World.drew wt).heap.size ≠ g := (by (try simp only [World.size_alloc, World.size_drew]); omega); have hz : Blk fw1 (World.drew wt).heap.size 83 #[.int .i64 0, .int .i64 0, .int .i64 0] := (by with_reducible exact Blk.dg (Blk.new (World.drew wt) 83 #[.int .i64 0, .int .i64 0, .int .i64 0]) hd1 hne); have hz : Blk fw1 wt.heap.size 83 #[.int .i64 0, .int .i64 0, .int .i64 0] := hz; clear hne; have Hz := Lib.hid hz; clear hz) | skip) | (go_at_call 121; with_reducible refine Calls.mono (ptTimesX a b (xx) (-y1) 1 m _ (by omega) (by omega) (by omega) hm4) ?_; rintro e fw2 ⟨⟨u, v, z, ok, rfl, hu9, hz9⟩, hb2⟩; have hc2 : Cur fw2 g (k + 8) := Cur.on (by repeat (first | with_reducible exact (hc1.mono (j := k + 8) (by omega)) | (with_reducible refine Cur.drewP ?_) | (with_reducible refine Cur.alloc ?_ _))) hb2; have hd2 := Dg.of_below (g := g) hb2; have sfw2 : wt.heap.size ≤ fw2.heap.size := (by have h9 := hb2.size; (try simp only [World.size_alloc, World.size_drew] at h9); omega); clear hb2; first | (have hz := Blk.dg Hz.out hd2 (by omega); clear Hz; have zc0 := hz.cell 0; have zf0 := hz.frozen 0; have zc1 := hz.cell 1; have zf1 := hz.frozen 1; have zc2 := hz.cell 2; have zf2 := hz.frozen 2; have zl := hz.lt; simp at zc0 zc1 zc2; have Hz := Lib.hid hz; clear hz) | (have hne : fw1.heap.size ≠ g := (by (try simp only [World.size_alloc, World.size_drew]); omega); have hz : Blk fw2 fw1.heap.size 83 #[.int .i64 0, .int .i64 0, .int .i64 0] := (by with_reducible exact Blk.dg (Blk.new fw1 83 #[.int .i64 0, .int .i64 0, .int .i64 0]) hd2 hne); have hz : Blk fw2 fw1.heap.size 83 #[.int .i64 0, .int .i64 0, .int .i64 0] := hz; clear hne; have zc0 := hz.cell 0; have zf0 := hz.frozen 0; have zc1 := hz.cell 1; have zf1 := hz.frozen 1; have zc2 := hz.cell 2; have zf2 := hz.frozen 2; have zl := hz.lt; simp at zc0 zc1 zc2; have Hz := Lib.hid hz; clear hz) | skip)))
                all_goals go_wp2_with fail
                all_goals go_meet
                all_goals first
                  | with_reducible exact ⟨_, _, _, _, _, rfl, rfl, Blk.new _ _ _, hz9, (by (try simp only [World.size_alloc, World.size_drew, World.size_setCell]); omega), (by repeat (first | with_reducible exact hc2 | (with_reducible refine Cur.drewP ?_) | (with_reducible refine Cur.alloc ?_ _) | (with_reducible refine Cur.st ?_ (by dsimp only; (try simp only [World.size_alloc, World.size_drew, World.size_setCell]); omega) _))), (by repeat (first | (with_reducible assumption) | (with_reducible refine Dg.drew ?_) | (with_reducible refine Dg.alloc ?_ _) | (with_reducible refine Dg.st ?_ (by dsimp only; (try simp only [World.size_alloc, World.size_drew, World.size_setCell]); omega) _) | (with_reducible refine Dg.trans ?_ (by with_reducible assumption))))⟩
                  | exact ⟨_, _, _, _, _, rfl, rfl, Blk.set3 Hz.out, hz9, (by (try simp only [World.size_alloc, World.size_drew, World.size_setCell]); omega), (by repeat (first | with_reducible exact hc2 | (with_reducible refine Cur.drewP ?_) | (with_reducible refine Cur.alloc ?_ _) | (with_reducible refine Cur.st ?_ (by dsimp only; (try simp only [World.size_alloc, World.size_drew, World.size_setCell]); omega) _))), (by repeat (first | (with_reducible assumption) | (with_reducible refine Dg.drew ?_) | (with_reducible refine Dg.alloc ?_ _) | (with_reducible refine Dg.st ?_ (by dsimp only; (try simp only [World.size_alloc, World.size_drew, World.size_setCell]); omega) _) | (with_reducible refine Dg.trans ?_ (by with_reducible assumption))))⟩
              obtain ⟨q, u, v, z, ok, rfl, rfl, hBq, hz, hq, hcc, hdc⟩ := hcut
              clear HS hdt hcK qE0 qE1 qEl qEg qA80 qA81 qA82 qA8l qA8g
              obtain ⟨w5, hw5⟩ : ∃ x, x = wc := ⟨_, rfl⟩; subst hw5
              have hc11 := hcc; have hd11 := hdc; clear hcc hdc
              have S11 := Lib.hid (show wt.heap.size + 0 ≤ w5.heap.size by have h9 := hd11.size; (try simp only [World.size_alloc, World.size_setCell] at h9); omega)
              have NE := Lib.hid (E.out.dg hd11 (show w.heap.size ≠ g by have := Hgl.out; have := SR.out; have := S5.out; have := Lg.out; have := S9.out; have := S10.out; have := S11.out; omega))
              have NR := Lib.hid (R.out.dg hd11 (show w.heap.size + 1 ≠ g by have := Hgl.out; have := SR.out; have := S5.out; have := Lg.out; have := S9.out; have := S10.out; have := S11.out; omega))
              have NL := Lib.hid (L.out.dg hd11 (show g1 ≠ g by have := Hgl.out; have := SR.out; have := S5.out; have := Lg.out; have := S9.out; have := S10.out; have := S11.out; omega))
              have NA8 := Lib.hid (A8.out.dg hd11 (show w9.heap.size ≠ g by have := Hgl.out; have := SR.out; have := S5.out; have := Lg.out; have := S9.out; have := S10.out; have := S11.out; omega))
              have E := NE; clear NE
              have R := NR; clear NR
              have L := NL; clear NL
              have A8 := NA8; clear NA8
              have Hc11 := Lib.hid (hc11.mono (j := k + 8) (by omega))
              have Hd11 := Lib.hid (Hd10.out.trans hd11)
              clear hc11 hd11
              have Qq := Lib.hid hq; have Q := Lib.hid hBq; have Qw := Lib.hid hBq.lt; clear hq hBq
              cases ok
              · have qA80 := A8.out.cell 0
                have qA81 := A8.out.cell 1
                have qA82 := A8.out.cell 2
                simp at qA80 qA81 qA82
                have qA8l := A8.out.lt
                have qR0 := R.out.cell 0
                have qR1 := R.out.cell 1
                have qR2 := R.out.cell 2
                simp at qR0 qR1 qR2
                have qRl := R.out.lt
                have qRf := R.out.frozen
                have nA8R : w9.heap.size ≠ w.heap.size + 1 := by have := Hgl.out; have := SR.out; have := S5.out; have := Lg.out; have := S9.out; have := S10.out; have := S11.out; have := Qq.out; have := Qw.out; omega
                have nRA8 : w.heap.size + 1 ≠ w9.heap.size := fun e => nA8R e.symm
                go_wp2
                clear qA80 qA81 qA82 qA8l qR0 qR1 qR2 qRl qRf nA8R nRA8
                have HR9 := (show Blk (World.setCell (World.setCell (World.setCell w5 ⟨w.heap.size + 1, 0, none⟩ (.int .i64 xx)) ⟨w.heap.size + 1, 1, none⟩ (.int .i64 (-y1))) ⟨w.heap.size + 1, 2, none⟩ (.int .i64 1)) (w.heap.size + 1) 83 #[.int .i64 xx, .int .i64 (-y1), .int .i64 1] by have h9 := (((R.out.set 0 (.int .i64 xx)).set 1 (.int .i64 (-y1))).set 2 (.int .i64 1)); simpa using h9)
                have k0 := HR9.cell 0
                have k1 := HR9.cell 1
                have k2 := HR9.cell 2
                simp at k0 k1 k2
                exact bodyPost_ret (v := .agg #[.int .i64 xx, .int .i64 (-y1), .int .i64 1]) (by simp [results, Tryz.results60, go_sem, k0, k1, k2]) rfl ⟨⟨_, _, _, rfl, by omega, by omega⟩, (((Hc11.out.st (p := ⟨w.heap.size + 1, 0, none⟩) (show g < w.heap.size + 1 by have := Hgl.out; have := SR.out; have := S5.out; have := Lg.out; have := S9.out; have := S10.out; have := S11.out; have := Qq.out; have := Qw.out; omega) (.int .i64 xx)).st (p := ⟨w.heap.size + 1, 1, none⟩) (show g < w.heap.size + 1 by have := Hgl.out; have := SR.out; have := S5.out; have := Lg.out; have := S9.out; have := S10.out; have := S11.out; have := Qq.out; have := Qw.out; omega) (.int .i64 (-y1))).st (p := ⟨w.heap.size + 1, 2, none⟩) (show g < w.heap.size + 1 by have := Hgl.out; have := SR.out; have := S5.out; have := Lg.out; have := S9.out; have := S10.out; have := S11.out; have := Qq.out; have := Qw.out; omega) (.int .i64 1)).mono (by omega), (((Hd11.out.st (p := ⟨w.heap.size + 1, 0, none⟩) (show w.heap.size ≤ w.heap.size + 1 by have := Hgl.out; have := SR.out; have := S5.out; have := Lg.out; have := S9.out; have := S10.out; have := S11.out; have := Qq.out; have := Qw.out; omega) (.int .i64 xx)).st (p := ⟨w.heap.size + 1, 1, none⟩) (show w.heap.size ≤ w.heap.size + 1 by have := Hgl.out; have := SR.out; have := S5.out; have := Lg.out; have := S9.out; have := S10.out; have := S11.out; have := Qq.out; have := Qw.out; omega) (.int .i64 (-y1))).st (p := ⟨w.heap.size + 1, 2, none⟩) (show w.heap.size ≤ w.heap.size + 1 by have := Hgl.out; have := SR.out; have := S5.out; have := Lg.out; have := S9.out; have := S10.out; have := S11.out; have := Qq.out; have := Qw.out; omega) (.int .i64 1))⟩
              · have qQ0 := Q.out.cell 0
                have qQ1 := Q.out.cell 1
                have qQ2 := Q.out.cell 2
                simp at qQ0 qQ1 qQ2
                have qQl := Q.out.lt
                have qR0 := R.out.cell 0
                have qR1 := R.out.cell 1
                have qR2 := R.out.cell 2
                simp at qR0 qR1 qR2
                have qRl := R.out.lt
                have qRf := R.out.frozen
                have nQR : q ≠ w.heap.size + 1 := by have := Hgl.out; have := SR.out; have := S5.out; have := Lg.out; have := S9.out; have := S10.out; have := S11.out; have := Qq.out; have := Qw.out; omega
                have nRQ : w.heap.size + 1 ≠ q := fun e => nQR e.symm
                go_wp2
                clear qQ0 qQ1 qQ2 qQl qR0 qR1 qR2 qRl qRf nQR nRQ
                have HR9 := (show Blk (World.setCell (World.setCell (World.setCell w5 ⟨w.heap.size + 1, 0, none⟩ (.int .i64 u)) ⟨w.heap.size + 1, 1, none⟩ (.int .i64 v)) ⟨w.heap.size + 1, 2, none⟩ (.int .i64 z)) (w.heap.size + 1) 83 #[.int .i64 u, .int .i64 v, .int .i64 z] by have h9 := (((R.out.set 0 (.int .i64 u)).set 1 (.int .i64 v)).set 2 (.int .i64 z)); simpa using h9)
                have k0 := HR9.cell 0
                have k1 := HR9.cell 1
                have k2 := HR9.cell 2
                simp at k0 k1 k2
                exact bodyPost_ret (v := .agg #[.int .i64 u, .int .i64 v, .int .i64 z]) (by simp [results, Tryz.results60, go_sem, k0, k1, k2]) rfl ⟨⟨_, _, _, rfl, hz.1, hz.2⟩, (((Hc11.out.st (p := ⟨w.heap.size + 1, 0, none⟩) (show g < w.heap.size + 1 by have := Hgl.out; have := SR.out; have := S5.out; have := Lg.out; have := S9.out; have := S10.out; have := S11.out; have := Qq.out; have := Qw.out; omega) (.int .i64 u)).st (p := ⟨w.heap.size + 1, 1, none⟩) (show g < w.heap.size + 1 by have := Hgl.out; have := SR.out; have := S5.out; have := Lg.out; have := S9.out; have := S10.out; have := S11.out; have := Qq.out; have := Qw.out; omega) (.int .i64 v)).st (p := ⟨w.heap.size + 1, 2, none⟩) (show g < w.heap.size + 1 by have := Hgl.out; have := SR.out; have := S5.out; have := Lg.out; have := S9.out; have := S10.out; have := S11.out; have := Qq.out; have := Qw.out; omega) (.int .i64 z)).mono (by omega), (((Hd11.out.st (p := ⟨w.heap.size + 1, 0, none⟩) (show w.heap.size ≤ w.heap.size + 1 by have := Hgl.out; have := SR.out; have := S5.out; have := Lg.out; have := S9.out; have := S10.out; have := S11.out; have := Qq.out; have := Qw.out; omega) (.int .i64 u)).st (p := ⟨w.heap.size + 1, 1, none⟩) (show w.heap.size ≤ w.heap.size + 1 by have := Hgl.out; have := SR.out; have := S5.out; have := Lg.out; have := S9.out; have := S10.out; have := S11.out; have := Qq.out; have := Qw.out; omega) (.int .i64 v)).st (p := ⟨w.heap.size + 1, 2, none⟩) (show w.heap.size ≤ w.heap.size + 1 by have := Hgl.out; have := SR.out; have := S5.out; have := Lg.out; have := S9.out; have := S10.out; have := S11.out; have := Qq.out; have := Qw.out; omega) (.int .i64 z))⟩
            · clear li ui
              have qL0 := L.out.cell 0
              have qL1 := L.out.cell 1
              have qL2 := L.out.cell 2
              have qL3 := L.out.cell 3
              have qL4 := L.out.cell 4
              have qL5 := L.out.cell 5
              simp at qL0 qL1 qL2 qL3 qL4 qL5
              have qLl := L.out.lt
              go_wp2_with fail
              obtain ⟨wt, hw9⟩ : ∃ x, x = (World.alloc w9 (Obj.cells #[.int .i64 xx, .int .i64 y1, .int .i64 1] 83)) := ⟨_, rfl⟩
              rw [← hw9]
              have hd12 : Dg g (World.alloc w9 (Obj.cells #[.int .i64 xx, .int .i64 y1, .int .i64 1] 83)) wt := by rw [hw9]; exact Dg.refl _ _
              have hc12 : Cur wt g (k + 6) := by rw [hw9]; exact (Hc9.out.alloc _)
              have S12 := Lib.hid (show w9.heap.size + 1 ≤ wt.heap.size by have h9 := hd12.size; (try simp only [World.size_alloc, World.size_setCell] at h9); omega)
              have NE := Lib.hid ((E.out.alloc _).dg hd12 (show w.heap.size ≠ g by have := Hgl.out; have := SR.out; have := S5.out; have := Lg.out; have := S9.out; have := S12.out; omega))
              have NR := Lib.hid ((R.out.alloc _).dg hd12 (show w.heap.size + 1 ≠ g by have := Hgl.out; have := SR.out; have := S5.out; have := Lg.out; have := S9.out; have := S12.out; omega))
              have NL := Lib.hid ((L.out.alloc _).dg hd12 (show g1 ≠ g by have := Hgl.out; have := SR.out; have := S5.out; have := Lg.out; have := S9.out; have := S12.out; omega))
              have NA8 := Lib.hid ((Blk.new w9 83 #[.int .i64 xx, .int .i64 y1, .int .i64 1]).dg hd12 (show w9.heap.size ≠ g by have := Hgl.out; have := SR.out; have := S5.out; have := Lg.out; have := S9.out; have := S12.out; omega))
              have E := NE; clear NE
              have R := NR; clear NR
              have L := NL; clear NL
              have A8 := NA8; clear NA8
              have Hc12 := Lib.hid (hc12.mono (j := k + 6) (by omega))
              have Hd12 := Lib.hid ((Hd9.out.alloc _).trans hd12)
              clear hc12 hd12
              clear hw9
              have qE0 : wt.cell? ⟨w.heap.size, 0, none⟩ = some (.int .i64 a) := E.out.cell 0
              have qE1 : wt.cell? ⟨w.heap.size, 1, none⟩ = some (.int .i64 b) := E.out.cell 1
              have qEl := E.out.lt; have qEg : w.heap.size ≠ g := by have := Hgl.out; have := SR.out; have := S5.out; have := Lg.out; have := S9.out; have := S12.out; omega
              have qA80 : wt.cell? ⟨w9.heap.size, 0, none⟩ = some (.int .i64 xx) := A8.out.cell 0
              have qA81 : wt.cell? ⟨w9.heap.size, 1, none⟩ = some (.int .i64 y1) := A8.out.cell 1
              have qA82 : wt.cell? ⟨w9.heap.size, 2, none⟩ = some (.int .i64 1) := A8.out.cell 2
              have qA8l := A8.out.lt; have qA8g : w9.heap.size ≠ g := by have := Hgl.out; have := SR.out; have := S5.out; have := Lg.out; have := S9.out; have := S12.out; omega
              have HS : Hid (∀ w', Dg g wt w' → (w'.cell? ⟨w.heap.size, 0, none⟩ = some (.int .i64 a) ∧ w'.cell? ⟨w.heap.size, 1, none⟩ = some (.int .i64 b) ∧ w'.cell? ⟨w9.heap.size, 0, none⟩ = some (.int .i64 xx) ∧ w'.cell? ⟨w9.heap.size, 1, none⟩ = some (.int .i64 y1) ∧ w'.cell? ⟨w9.heap.size, 2, none⟩ = some (.int .i64 1) ∧ Dg g wt w')) := Lib.hid (fun w' hw => ⟨(dcell (p := ⟨w.heap.size, 0, none⟩) hw qEl qEg).trans qE0, (dcell (p := ⟨w.heap.size, 1, none⟩) hw qEl qEg).trans qE1, (dcell (p := ⟨w9.heap.size, 0, none⟩) hw qA8l qA8g).trans qA80, (dcell (p := ⟨w9.heap.size, 1, none⟩) hw qA8l qA8g).trans qA81, (dcell (p := ⟨w9.heap.size, 2, none⟩) hw qA8l qA8g).trans qA82, hw⟩)
              have hdt := Dg.refl g wt
              have hgt : g < wt.heap.size := by have := Hgl.out; have := SR.out; have := S5.out; have := Lg.out; have := S9.out; have := S12.out; omega
              have hcK := Hc12.out
              go_cut [9, 10] (fun p0 p1 wx => ∃ (q : Nat) (u v z : Int) (ok : Bool), p0 = .pointer (some ⟨q, 0, none⟩) ∧ p1 = .bool ok ∧ Blk wx q 83 #[.int .i64 u, .int .i64 v, .int .i64 z] ∧ (0 ≤ z ∧ z ≤ 20) ∧ wt.heap.size ≤ q ∧ Cur wx g (k + 8) ∧ Dg g wt wx)
              case first =>
                go_region_held3 (fun w' => w'.cell? ⟨w.heap.size, 0, none⟩ = some (.int .i64 a) ∧ w'.cell? ⟨w.heap.size, 1, none⟩ = some (.int .i64 b) ∧ w'.cell? ⟨w9.heap.size, 0, none⟩ = some (.int .i64 xx) ∧ w'.cell? ⟨w9.heap.size, 1, none⟩ = some (.int .i64 y1) ∧ w'.cell? ⟨w9.heap.size, 2, none⟩ = some (.int .i64 1) ∧ Dg g wt w') ((go_split_ands; refine HS.out _ ?_; repeat (first | (with_reducible assumption) | (with_reducible refine Dg.drew ?_) | (with_reducible refine Dg.alloc ?_ _) | (with_reducible refine Dg.st ?_ (by dsimp only; omega) _) | (with_reducible refine Dg.trans ?_ (by with_reducible assumption))))) ((first | (go_at_call 102; with_reducible refine Calls.mono (pick_any g (k + 6) 4 _ (by repeat (first | with_reducible exact hcK | (with_reducible refine Cur.drewP ?_) | (with_reducible refine Cur.alloc ?_ _))) (by have := Hk.out; omega)) ?_; rintro e fw1 ⟨⟨i2, li2, ui2, rfl⟩, hc1, hd1⟩; have sfw1 : wt.heap.size ≤ fw1.heap.size := (by have h9 := hd1.size; (try simp only [World.size_alloc, World.size_drew] at h9); omega); obtain ⟨m, hm, hm4⟩ : ∃ m : Nat, 1 + i2 = (m : Int) ∧ m ≤ 12 := ⟨(1 + i2).toNat, by omega, by omega⟩; have hwm : IntKind.i64.wrap (1 + i2) = (m : Int) := (by rw [hm, IntKind.wrap_i64]; omega); clear hm li2 ui2 hcK; first | (have hne : wt.heap.size ≠ g := (by (try simp only [World.size_alloc, World.size_drew]); omega); have hz : Blk fw1 wt.heap.size 83 #[.int .i64 0, .int .i64 0, .int .i64 0] := (by with_reducible exact Blk.dg (Blk.new wt 83 #[.int .i64 0, .int .i64 0, .int .i64 0]) hd1 hne); have hz : Blk fw1 wt.heap.size 83 #[.int .i64 0, .int .i64 0, .int .i64 0] := hz; clear hne; have Hz := Lib.hid hz; clear hz) | (have hne : wt.heap.size ≠ g := (by (try simp only [World.size_alloc, World.size_drew]); omega); have hz : Blk fw1 wt.heap.size 83 #[.int .i64 0, .int .i64 0, .int .i64 0] := (by with_reducible exact Blk.dg (Blk.drew (Blk.new wt 83 #[.int .i64 0, .int .i64 0, .int .i64 0])) hd1 hne); have hz : Blk fw1 wt.heap.size 83 #[.int .i64 0, .int .i64 0, .int .i64 0] := hz; clear hne; have Hz := Lib.hid hz; clear hz) | (have hne : (World.drew wt).heap.size ≠ g := (by (try simp only [World.size_alloc, World.size_drew]); omega); have hz : Blk fw1 (World.drew wt).heap.size 83 #[.int .i64 0, .int .i64 0, .int .i64 0] := (by with_reducible exact Blk.dg (Blk.new (World.drew wt) 83 #[.int .i64 0, .int .i64 0, .int .i64 0]) hd1 hne); have hz : Blk fw1 wt.heap.size 83 #[.int .i64 0, .int .i64 0, .int .i64 0] := hz; clear hne; have Hz := Lib.hid hz; clear hz) | skip) | (go_at_call 121; with_reducible refine Calls.mono (ptTimesX a b (xx) (y1) 1 m _ (by omega) (by omega) (by omega) hm4) ?_; rintro e fw2 ⟨⟨u, v, z, ok, rfl, hu9, hz9⟩, hb2⟩; have hc2 : Cur fw2 g (k + 8) := Cur.on (by repeat (first | with_reducible exact (hc1.mono (j := k + 8) (by omega)) | (with_reducible refine Cur.drewP ?_) | (with_reducible refine Cur.alloc ?_ _))) hb2; have hd2 := Dg.of_below (g := g) hb2; have sfw2 : wt.heap.size ≤ fw2.heap.size := (by have h9 := hb2.size; (try simp only [World.size_alloc, World.size_drew] at h9); omega); clear hb2; first | (have hz := Blk.dg Hz.out hd2 (by omega); clear Hz; have zc0 := hz.cell 0; have zf0 := hz.frozen 0; have zc1 := hz.cell 1; have zf1 := hz.frozen 1; have zc2 := hz.cell 2; have zf2 := hz.frozen 2; have zl := hz.lt; simp at zc0 zc1 zc2; have Hz := Lib.hid hz; clear hz) | (have hne : fw1.heap.size ≠ g := (by (try simp only [World.size_alloc, World.size_drew]); omega); have hz : Blk fw2 fw1.heap.size 83 #[.int .i64 0, .int .i64 0, .int .i64 0] := (by with_reducible exact Blk.dg (Blk.new fw1 83 #[.int .i64 0, .int .i64 0, .int .i64 0]) hd2 hne); have hz : Blk fw2 fw1.heap.size 83 #[.int .i64 0, .int .i64 0, .int .i64 0] := hz; clear hne; have zc0 := hz.cell 0; have zf0 := hz.frozen 0; have zc1 := hz.cell 1; have zf1 := hz.frozen 1; have zc2 := hz.cell 2; have zf2 := hz.frozen 2; have zl := hz.lt; simp at zc0 zc1 zc2; have Hz := Lib.hid hz; clear hz) | skip)))
                all_goals go_wp2_with fail
                all_goals go_meet
                all_goals first
                  | with_reducible exact ⟨_, _, _, _, _, rfl, rfl, Blk.new _ _ _, hz9, (by (try simp only [World.size_alloc, World.size_drew, World.size_setCell]); omega), (by repeat (first | with_reducible exact hc2 | (with_reducible refine Cur.drewP ?_) | (with_reducible refine Cur.alloc ?_ _) | (with_reducible refine Cur.st ?_ (by dsimp only; (try simp only [World.size_alloc, World.size_drew, World.size_setCell]); omega) _))), (by repeat (first | (with_reducible assumption) | (with_reducible refine Dg.drew ?_) | (with_reducible refine Dg.alloc ?_ _) | (with_reducible refine Dg.st ?_ (by dsimp only; (try simp only [World.size_alloc, World.size_drew, World.size_setCell]); omega) _) | (with_reducible refine Dg.trans ?_ (by with_reducible assumption))))⟩
                  | exact ⟨_, _, _, _, _, rfl, rfl, Blk.set3 Hz.out, hz9, (by (try simp only [World.size_alloc, World.size_drew, World.size_setCell]); omega), (by repeat (first | with_reducible exact hc2 | (with_reducible refine Cur.drewP ?_) | (with_reducible refine Cur.alloc ?_ _) | (with_reducible refine Cur.st ?_ (by dsimp only; (try simp only [World.size_alloc, World.size_drew, World.size_setCell]); omega) _))), (by repeat (first | (with_reducible assumption) | (with_reducible refine Dg.drew ?_) | (with_reducible refine Dg.alloc ?_ _) | (with_reducible refine Dg.st ?_ (by dsimp only; (try simp only [World.size_alloc, World.size_drew, World.size_setCell]); omega) _) | (with_reducible refine Dg.trans ?_ (by with_reducible assumption))))⟩
              obtain ⟨q, u, v, z, ok, rfl, rfl, hBq, hz, hq, hcc, hdc⟩ := hcut
              clear HS hdt hcK qE0 qE1 qEl qEg qA80 qA81 qA82 qA8l qA8g
              obtain ⟨w5, hw5⟩ : ∃ x, x = wc := ⟨_, rfl⟩; subst hw5
              have hc13 := hcc; have hd13 := hdc; clear hcc hdc
              have S13 := Lib.hid (show wt.heap.size + 0 ≤ w5.heap.size by have h9 := hd13.size; (try simp only [World.size_alloc, World.size_setCell] at h9); omega)
              have NE := Lib.hid (E.out.dg hd13 (show w.heap.size ≠ g by have := Hgl.out; have := SR.out; have := S5.out; have := Lg.out; have := S9.out; have := S12.out; have := S13.out; omega))
              have NR := Lib.hid (R.out.dg hd13 (show w.heap.size + 1 ≠ g by have := Hgl.out; have := SR.out; have := S5.out; have := Lg.out; have := S9.out; have := S12.out; have := S13.out; omega))
              have NL := Lib.hid (L.out.dg hd13 (show g1 ≠ g by have := Hgl.out; have := SR.out; have := S5.out; have := Lg.out; have := S9.out; have := S12.out; have := S13.out; omega))
              have NA8 := Lib.hid (A8.out.dg hd13 (show w9.heap.size ≠ g by have := Hgl.out; have := SR.out; have := S5.out; have := Lg.out; have := S9.out; have := S12.out; have := S13.out; omega))
              have E := NE; clear NE
              have R := NR; clear NR
              have L := NL; clear NL
              have A8 := NA8; clear NA8
              have Hc13 := Lib.hid (hc13.mono (j := k + 8) (by omega))
              have Hd13 := Lib.hid (Hd12.out.trans hd13)
              clear hc13 hd13
              have Qq := Lib.hid hq; have Q := Lib.hid hBq; have Qw := Lib.hid hBq.lt; clear hq hBq
              cases ok
              · have qA80 := A8.out.cell 0
                have qA81 := A8.out.cell 1
                have qA82 := A8.out.cell 2
                simp at qA80 qA81 qA82
                have qA8l := A8.out.lt
                have qR0 := R.out.cell 0
                have qR1 := R.out.cell 1
                have qR2 := R.out.cell 2
                simp at qR0 qR1 qR2
                have qRl := R.out.lt
                have qRf := R.out.frozen
                have nA8R : w9.heap.size ≠ w.heap.size + 1 := by have := Hgl.out; have := SR.out; have := S5.out; have := Lg.out; have := S9.out; have := S12.out; have := S13.out; have := Qq.out; have := Qw.out; omega
                have nRA8 : w.heap.size + 1 ≠ w9.heap.size := fun e => nA8R e.symm
                go_wp2
                clear qA80 qA81 qA82 qA8l qR0 qR1 qR2 qRl qRf nA8R nRA8
                have HR9 := (show Blk (World.setCell (World.setCell (World.setCell w5 ⟨w.heap.size + 1, 0, none⟩ (.int .i64 xx)) ⟨w.heap.size + 1, 1, none⟩ (.int .i64 y1)) ⟨w.heap.size + 1, 2, none⟩ (.int .i64 1)) (w.heap.size + 1) 83 #[.int .i64 xx, .int .i64 y1, .int .i64 1] by have h9 := (((R.out.set 0 (.int .i64 xx)).set 1 (.int .i64 y1)).set 2 (.int .i64 1)); simpa using h9)
                have k0 := HR9.cell 0
                have k1 := HR9.cell 1
                have k2 := HR9.cell 2
                simp at k0 k1 k2
                exact bodyPost_ret (v := .agg #[.int .i64 xx, .int .i64 y1, .int .i64 1]) (by simp [results, Tryz.results60, go_sem, k0, k1, k2]) rfl ⟨⟨_, _, _, rfl, by omega, by omega⟩, (((Hc13.out.st (p := ⟨w.heap.size + 1, 0, none⟩) (show g < w.heap.size + 1 by have := Hgl.out; have := SR.out; have := S5.out; have := Lg.out; have := S9.out; have := S12.out; have := S13.out; have := Qq.out; have := Qw.out; omega) (.int .i64 xx)).st (p := ⟨w.heap.size + 1, 1, none⟩) (show g < w.heap.size + 1 by have := Hgl.out; have := SR.out; have := S5.out; have := Lg.out; have := S9.out; have := S12.out; have := S13.out; have := Qq.out; have := Qw.out; omega) (.int .i64 y1)).st (p := ⟨w.heap.size + 1, 2, none⟩) (show g < w.heap.size + 1 by have := Hgl.out; have := SR.out; have := S5.out; have := Lg.out; have := S9.out; have := S12.out; have := S13.out; have := Qq.out; have := Qw.out; omega) (.int .i64 1)).mono (by omega), (((Hd13.out.st (p := ⟨w.heap.size + 1, 0, none⟩) (show w.heap.size ≤ w.heap.size + 1 by have := Hgl.out; have := SR.out; have := S5.out; have := Lg.out; have := S9.out; have := S12.out; have := S13.out; have := Qq.out; have := Qw.out; omega) (.int .i64 xx)).st (p := ⟨w.heap.size + 1, 1, none⟩) (show w.heap.size ≤ w.heap.size + 1 by have := Hgl.out; have := SR.out; have := S5.out; have := Lg.out; have := S9.out; have := S12.out; have := S13.out; have := Qq.out; have := Qw.out; omega) (.int .i64 y1)).st (p := ⟨w.heap.size + 1, 2, none⟩) (show w.heap.size ≤ w.heap.size + 1 by have := Hgl.out; have := SR.out; have := S5.out; have := Lg.out; have := S9.out; have := S12.out; have := S13.out; have := Qq.out; have := Qw.out; omega) (.int .i64 1))⟩
              · have qQ0 := Q.out.cell 0
                have qQ1 := Q.out.cell 1
                have qQ2 := Q.out.cell 2
                simp at qQ0 qQ1 qQ2
                have qQl := Q.out.lt
                have qR0 := R.out.cell 0
                have qR1 := R.out.cell 1
                have qR2 := R.out.cell 2
                simp at qR0 qR1 qR2
                have qRl := R.out.lt
                have qRf := R.out.frozen
                have nQR : q ≠ w.heap.size + 1 := by have := Hgl.out; have := SR.out; have := S5.out; have := Lg.out; have := S9.out; have := S12.out; have := S13.out; have := Qq.out; have := Qw.out; omega
                have nRQ : w.heap.size + 1 ≠ q := fun e => nQR e.symm
                go_wp2
                clear qQ0 qQ1 qQ2 qQl qR0 qR1 qR2 qRl qRf nQR nRQ
                have HR9 := (show Blk (World.setCell (World.setCell (World.setCell w5 ⟨w.heap.size + 1, 0, none⟩ (.int .i64 u)) ⟨w.heap.size + 1, 1, none⟩ (.int .i64 v)) ⟨w.heap.size + 1, 2, none⟩ (.int .i64 z)) (w.heap.size + 1) 83 #[.int .i64 u, .int .i64 v, .int .i64 z] by have h9 := (((R.out.set 0 (.int .i64 u)).set 1 (.int .i64 v)).set 2 (.int .i64 z)); simpa using h9)
                have k0 := HR9.cell 0
                have k1 := HR9.cell 1
                have k2 := HR9.cell 2
                simp at k0 k1 k2
                exact bodyPost_ret (v := .agg #[.int .i64 u, .int .i64 v, .int .i64 z]) (by simp [results, Tryz.results60, go_sem, k0, k1, k2]) rfl ⟨⟨_, _, _, rfl, hz.1, hz.2⟩, (((Hc13.out.st (p := ⟨w.heap.size + 1, 0, none⟩) (show g < w.heap.size + 1 by have := Hgl.out; have := SR.out; have := S5.out; have := Lg.out; have := S9.out; have := S12.out; have := S13.out; have := Qq.out; have := Qw.out; omega) (.int .i64 u)).st (p := ⟨w.heap.size + 1, 1, none⟩) (show g < w.heap.size + 1 by have := Hgl.out; have := SR.out; have := S5.out; have := Lg.out; have := S9.out; have := S12.out; have := S13.out; have := Qq.out; have := Qw.out; omega) (.int .i64 v)).st (p := ⟨w.heap.size + 1, 2, none⟩) (show g < w.heap.size + 1 by have := Hgl.out; have := SR.out; have := S5.out; have := Lg.out; have := S9.out; have := S12.out; have := S13.out; have := Qq.out; have := Qw.out; omega) (.int .i64 z)).mono (by omega), (((Hd13.out.st (p := ⟨w.heap.size + 1, 0, none⟩) (show w.heap.size ≤ w.heap.size + 1 by have := Hgl.out; have := SR.out; have := S5.out; have := Lg.out; have := S9.out; have := S12.out; have := S13.out; have := Qq.out; have := Qw.out; omega) (.int .i64 u)).st (p := ⟨w.heap.size + 1, 1, none⟩) (show w.heap.size ≤ w.heap.size + 1 by have := Hgl.out; have := SR.out; have := S5.out; have := Lg.out; have := S9.out; have := S12.out; have := S13.out; have := Qq.out; have := Qw.out; omega) (.int .i64 v)).st (p := ⟨w.heap.size + 1, 2, none⟩) (show w.heap.size ≤ w.heap.size + 1 by have := Hgl.out; have := SR.out; have := S5.out; have := Lg.out; have := S9.out; have := S12.out; have := S13.out; have := Qq.out; have := Qw.out; omega) (.int .i64 z))⟩
        · obtain rfl : j = 60 := by omega
          have hd0 : decide (((60 : Nat) : Int) < 60) = false := by decide
          have qR0 := R.out.cell 0
          have qR1 := R.out.cell 1
          have qR2 := R.out.cell 2
          simp at qR0 qR1 qR2
          have qRl := R.out.lt
          have qRf := R.out.frozen
          go_wp2
          clear qR0 qR1 qR2 qRl qRf
          have HR9 := (show Blk (World.setCell (World.setCell (World.setCell wr ⟨w.heap.size + 1, 0, none⟩ (.int .i64 0)) ⟨w.heap.size + 1, 1, none⟩ (.int .i64 0)) ⟨w.heap.size + 1, 2, none⟩ (.int .i64 0)) (w.heap.size + 1) 83 #[.int .i64 0, .int .i64 0, .int .i64 0] by have h9 := (((R.out.set 0 (.int .i64 0)).set 1 (.int .i64 0)).set 2 (.int .i64 0)); simpa using h9)
          have k0 := HR9.cell 0
          have k1 := HR9.cell 1
          have k2 := HR9.cell 2
          simp at k0 k1 k2
          exact bodyPost_ret (v := .agg #[.int .i64 0, .int .i64 0, .int .i64 0]) (by simp [results, Tryz.results60, go_sem, k0, k1, k2]) rfl ⟨⟨0, 0, 0, rfl, by omega, by omega⟩, (((HcR.out.st (p := ⟨w.heap.size + 1, 0, none⟩) (show g < w.heap.size + 1 by have := Hgl.out; have := SR.out; omega) (.int .i64 0)).st (p := ⟨w.heap.size + 1, 1, none⟩) (show g < w.heap.size + 1 by have := Hgl.out; have := SR.out; omega) (.int .i64 0)).st (p := ⟨w.heap.size + 1, 2, none⟩) (show g < w.heap.size + 1 by have := Hgl.out; have := SR.out; omega) (.int .i64 0)).mono (by omega), (((HdR.out.st (p := ⟨w.heap.size + 1, 0, none⟩) (show w.heap.size ≤ w.heap.size + 1 by have := Hgl.out; have := SR.out; omega) (.int .i64 0)).st (p := ⟨w.heap.size + 1, 1, none⟩) (show w.heap.size ≤ w.heap.size + 1 by have := Hgl.out; have := SR.out; omega) (.int .i64 0)).st (p := ⟨w.heap.size + 1, 2, none⟩) (show w.heap.size ≤ w.heap.size + 1 by have := Hgl.out; have := SR.out; omega) (.int .i64 0))⟩
    · have qR0 := R.out.cell 0
      have qR1 := R.out.cell 1
      have qR2 := R.out.cell 2
      simp at qR0 qR1 qR2
      have qRl := R.out.lt
      have qRf := R.out.frozen
      go_wp2
      clear qR0 qR1 qR2 qRl qRf
      have HR9 := (show Blk (World.setCell (World.setCell (World.setCell w1 ⟨w.heap.size + 1, 0, none⟩ (.int .i64 0)) ⟨w.heap.size + 1, 1, none⟩ (.int .i64 0)) ⟨w.heap.size + 1, 2, none⟩ (.int .i64 0)) (w.heap.size + 1) 83 #[.int .i64 0, .int .i64 0, .int .i64 0] by have h9 := (((R.out.set 0 (.int .i64 0)).set 1 (.int .i64 0)).set 2 (.int .i64 0)); simpa using h9)
      have k0 := HR9.cell 0
      have k1 := HR9.cell 1
      have k2 := HR9.cell 2
      simp at k0 k1 k2
      exact bodyPost_ret (v := .agg #[.int .i64 0, .int .i64 0, .int .i64 0]) (by simp [results, Tryz.results60, go_sem, k0, k1, k2]) rfl ⟨⟨0, 0, 0, rfl, by omega, by omega⟩, (((Hc1.out.st (p := ⟨w.heap.size + 1, 0, none⟩) (show g < w.heap.size + 1 by have := Hgl.out; have := S1.out; omega) (.int .i64 0)).st (p := ⟨w.heap.size + 1, 1, none⟩) (show g < w.heap.size + 1 by have := Hgl.out; have := S1.out; omega) (.int .i64 0)).st (p := ⟨w.heap.size + 1, 2, none⟩) (show g < w.heap.size + 1 by have := Hgl.out; have := S1.out; omega) (.int .i64 0)).mono (by omega), (((Hd1.out.st (p := ⟨w.heap.size + 1, 0, none⟩) (show w.heap.size ≤ w.heap.size + 1 by have := Hgl.out; have := S1.out; omega) (.int .i64 0)).st (p := ⟨w.heap.size + 1, 1, none⟩) (show w.heap.size ≤ w.heap.size + 1 by have := Hgl.out; have := S1.out; omega) (.int .i64 0)).st (p := ⟨w.heap.size + 1, 2, none⟩) (show w.heap.size ≤ w.heap.size + 1 by have := Hgl.out; have := S1.out; omega) (.int .i64 0))⟩
end
section
open Go Go.RowKit

theorem BytesAt.mono {w : World} {g g' : Nat} {A : Option Addr} {n : Nat} (h : BytesAt w g A n) (hg : g ≤ g') : BytesAt w g' A n :=
  ⟨h.1, fun h0 => let ⟨gc, off, hA, h1, h2, hc⟩ := h.2 h0; ⟨gc, off, hA, Nat.lt_of_lt_of_le h1 hg, h2, hc⟩⟩
theorem BytesAt.on {w w' : World} {A : Option Addr} {n : Nat} (h : BytesAt w w.heap.size A n) (hb : Below w.heap.size w w') : BytesAt w' w'.heap.size A n :=
  (h.dg (Dg.of_below hb)).mono hb.size
theorem BytesAt.al {w : World} {A : Option Addr} {n : Nat} (h : BytesAt w w.heap.size A n) (o : Obj) : BytesAt (w.alloc o) (w.alloc o).heap.size A n := h.on (bal (Below.refl _ _) o)
theorem Cur.new0 {w : World} {A : Option Addr} {n : Nat} (h : BytesAt w w.heap.size A n) (c : Nat) : Cur (w.alloc (.cells #[.slice A n c, .int .i64 0, .int .u64 0] 72)) w.heap.size 0 :=
  ⟨A, n, c, 0, 0, Blk.new w _ _, Nat.le_refl _, h.dg (Dg.of_below (bal (Below.refl _ _) _))⟩
theorem Cur.new1 {w : World} {A : Option Addr} {n : Nat} (h : BytesAt w w.heap.size A n) (c : Nat) (o : Obj) : Cur ((w.alloc o).alloc (.cells #[.slice A n c, .int .i64 0, .int .u64 0] 72)) (w.heap.size + 1) 0 := by
  have := Cur.new0 (h.al o) c
  rwa [World.size_alloc] at this
/-- The cells of a row as a source. -/
theorem IR.src {w : World} {B : Nat} {t : TypeId} {z n : Nat} {A : Option Addr} {c : Nat} (h : IR w B t z (.slice A n c) n) :
    ∃ xs, AllI xs ∧ xs.length = n * z ∧ (A = none → n = 0) ∧ ∀ a, A = some a → ∀ j u, xs[j]? = some u → w.cell? (a.add j) = some u := by
  obtain ⟨xs, h1, h2⟩ := h.ex
  refine ⟨xs, h2, h1.1, fun e => ?_, fun a e j u hu => ?_⟩
  · by_cases h0 : 0 < n
    · obtain ⟨g, c', h3, -⟩ := h.pos h0
      rw [e] at h3; cases h3
    · omega
  · have hj : j < xs.length := (List.getElem?_eq_some_iff.1 hu).1
    have h0 : 0 < n := by rcases Nat.eq_zero_or_pos n with h9 | h9; · rw [h1.1, h9] at hj; simp at hj
                          · exact h9
    obtain ⟨g, c', h3, -⟩ := h.pos h0
    rw [e] at h3
    injection h3 with h4 h5 h6
    injection h4 with h4
    subst h4
    rw [e] at h1
    have h7 := h1.cellAt j (by rw [← h1.1]; exact hj)
    rw [hu] at h7
    by_cases h8 : j = 0
    · subst h8; simpa [Addr.add] using h7
    · simpa [Addr.add, h8] using h7
end
end Go.Proofs.YtacehhcpfollnaaGreat
