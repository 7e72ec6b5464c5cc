/- Own texts put together: The reference's source of drawn two-curves; Squares modulo prime powers pass the test; A rational point of a quartic: it is possible at every level, and real; Squares in the p-adic numbers, Newton's steps, and the sum of two points of quartics; A pair that lifts gives a point at the prime; such classes have pairs at every level; Points give classes of the Selmer group; squarefree divisors are all listed; Told Selmer classes are a group; Drawn two-curves have few divisors; The found groups lie in the Selmer groups; ranks of lists that hold some classes; Both Selmer groups together have rank at least two; Both Selmer groups together have rank at least two: the cases; Both Selmer groups together have rank at least two: the other cases; The program's entry is the reference's: the plain law of RankEntry; The plain law of FnRankClaims; Rows of ints of a call's own, whatever the ints: kept, written, read, appended to; they are the cells of some list; The code's bytes, the fresh cursor, a row's cells as a source; The reference's draws of a two-curve and of what is asked of it; Own lemmas that know no program: arguments that are ints, structs of ints, slices of structs of ints, opened to values and cells; a law's last step; An argument that is a slice of bytes, opened to its cells; What the frames of the laws share. Conditions: those of each theorem. -/
import Derived.Test.YthdfpfhkmfmnbaaGreatRcM21
import Derived.Test.YthdfpfhkmfmnbaaGreatRcM4
import Derived.Test.YthdfpfhkmfmnbaaGreatRcM15
import Derived.Test.YthdfpfhkmfmnbaaGreatRcM16
import Derived.Test.YthdfpfhkmfmnbaaGreatRcM18
import Derived.Test.YthdfpfhkmfmnbaaGreatRcM20
import Derived.Deep.RegionHeld3
import Derived.Test.YthdfpfhkmfmnbaaGreatRcM1
import Derived.ProofKit
import Derived.Deep.Slices
import Derived.Test.YthdfpfhkmfmnbaaGreatRows
namespace Go.Proofs.YthdfpfhkmfmnbaaGreat
section
open Go Go.RowKit

/-- The bounds of a drawn two-curve. -/
def TcB (a b : Int) : Prop := ((-20 ≤ a ∧ a ≤ 20) ∧ (-100 ≤ b ∧ b ≤ 100)) ∨ ((a = 300 ∨ a = -300 ∨ a = 7) ∧ (b = 300 ∨ b = -300 ∨ b = 1))
/-- What is drawn fits, or is no two-curve. -/
def TcD (a b : Int) : Prop := twB a b = true → TcB a b
theorem TcB.small {a b : Int} (h : -20 ≤ a ∧ a ≤ 20) (k : -100 ≤ b ∧ b ≤ 100) : TcB a b := .inl ⟨h, k⟩
theorem TcB.big {a b : Int} (h : a ∈ [(300 : Int), -300, 7]) (k : b ∈ [(300 : Int), -300, 1]) : TcB a b := by
  simp at h k
  exact .inr ⟨h, k⟩
theorem TcD.offA {a b : Int} (h : a ∈ [(301 : Int), -301, -9223372036854775808]) : TcD a b := fun ht => by
  simp at h
  have := (twB_bd ht).1
  omega
theorem TcD.offB {a b : Int} (h : b ∈ [(0 : Int), 301, -301, -9223372036854775808]) : TcD a b := fun ht => by
  simp at h
  have := (twB_bd ht).2.1
  have := (twB_bd ht).2.2.1
  omega

set_option linter.unusedSimpArgs false in
set_option linter.unusedVariables false in
set_option maxRecDepth 8000 in
set_option maxHeartbeats 16000000 in
theorem searchMost_any (g k : Nat) (w : World) (hc : Cur w g k) (hk : k ≤ 800000) :
    Calls Tryz.prog 38 #[.pointer (some ⟨g, 0, none⟩)] w fun e w' => (∃ n : Int, e = .returned (.int .i64 n)) ∧ Cur w' g (k + 4) ∧ Dg g w w' := by
  have Hgl := Lib.hid hc.lt
  have Hc := Lib.hid hc; have Hk := Lib.hid hk; have Hd := Lib.hid (Dg.refl g w); clear hc hk
  go_enter Tryz.func38, Tryz.ntmps38
  go_wp2_with fail
  refine (among_lit g k (w.heap.size) [0, 61] w (by simp) Hc.out (by simp) (by simp) (by have := Hk.out; omega)).mono ?_; rintro e w1 ⟨⟨y, hy, rfl⟩, hc1, hd1⟩
  have S1 := Lib.hid (show w.heap.size + 1 ≤ w1.heap.size by have h9 := hd1.size; (try simp only [World.size_alloc, World.size_setCell] at h9); omega)
  have Hc1 := Lib.hid (hc1.mono (j := k + 2) (by omega))
  have Hd1 := Lib.hid ((Hd.out.alloc _).trans hd1)
  clear hc1 hd1
  go_wp2_with fail
  refine (among_lit g (k + 2) (w1.heap.size) [1, 2, 4, 5, 12, 60, y] w1 (by simp) Hc1.out (by simp) (by simp) (by have := Hk.out; omega)).mono ?_; rintro e w2 ⟨⟨n, hn, rfl⟩, hc2, hd2⟩
  have S2 := Lib.hid (show w1.heap.size + 1 ≤ w2.heap.size by have h9 := hd2.size; (try simp only [World.size_alloc, World.size_setCell] at h9); omega)
  have Hc2 := Lib.hid (hc2.mono (j := k + 4) (by omega))
  have Hd2 := Lib.hid ((Hd1.out.alloc _).trans hd2)
  clear hc2 hd2
  go_wp2
  exact bodyPost_ret (v := .int .i64 n) (by simp [results, Tryz.results38, go_sem]) rfl ⟨⟨n, rfl⟩, Hc2.out.mono (by omega), Hd2.out⟩
set_option linter.unusedSimpArgs false in
set_option linter.unusedVariables false in
set_option maxRecDepth 8000 in
set_option maxHeartbeats 16000000 in
theorem twoCurve_any (g k : Nat) (w : World) (hc : Cur w g k) (hk : k ≤ 800000) :
    Calls Tryz.prog 113 #[.pointer (some ⟨g, 0, none⟩)] w fun e w' => (∃ a b : Int, TcB a b ∧ e = .returned (.agg #[.int .i64 a, .int .i64 b])) ∧ Cur w' g (k + 20) ∧ Dg g w w' := by
  have Hgl := Lib.hid hc.lt
  have Hc := Lib.hid hc; have Hk := Lib.hid hk; have Hd := Lib.hid (Dg.refl g w); clear hc hk
  go_enter Tryz.func113, Tryz.ntmps113
  go_wp2_with fail
  refine (pick_any g k (41) _ (Hc.out.alloc _) (by have := Hk.out; omega)).mono ?_; rintro e w1 ⟨⟨p1, lp1, up1, rfl⟩, hc1, hd1⟩
  have S1 := Lib.hid (show w.heap.size + 1 ≤ w1.heap.size by have h9 := hd1.size; (try simp only [World.size_alloc, World.size_setCell] at h9); omega)
  have NR := Lib.hid ((Blk.new w 24 #[.int .i64 0, .int .i64 0]).dg hd1 (show w.heap.size ≠ g by have := Hgl.out; have := S1.out; omega))
  have R := NR; clear NR
  have Hc1 := Lib.hid (hc1.mono (j := k + 2) (by omega))
  have Hd1 := Lib.hid ((Hd.out.alloc _).trans hd1)
  clear hc1 hd1
  have v1 : -20 ≤ p1 - 20 ∧ p1 - 20 ≤ 20 := by omega
  go_wp2_with fail
  refine (among_lit g (k + 2) (w1.heap.size) [0, 0, 3, -6, 1, 5, (p1 - 20)] w1 (by simp) Hc1.out (by simp) (by simp) (by have := Hk.out; omega)).mono ?_; rintro e w2 ⟨⟨a, ha, rfl⟩, hc2, hd2⟩
  have S2 := Lib.hid (show w1.heap.size + 1 ≤ w2.heap.size by have h9 := hd2.size; (try simp only [World.size_alloc, World.size_setCell] at h9); omega)
  have NR := Lib.hid ((R.out.alloc _).dg hd2 (show w.heap.size ≠ g by have := Hgl.out; have := S1.out; have := S2.out; omega))
  have R := NR; clear NR
  have Hc2 := Lib.hid (hc2.mono (j := k + 4) (by omega))
  have Hd2 := Lib.hid ((Hd1.out.alloc _).trans hd2)
  clear hc2 hd2
  have Ba := Lib.hid (ag2 ha (lo := -20) (hi := 20) (by simp; omega))
  clear lp1 up1 v1 ha
  go_wp2_with fail
  refine (pick_any g (k + 4) (61) _ Hc2.out (by have := Hk.out; omega)).mono ?_; rintro e w3 ⟨⟨p2, lp2, up2, rfl⟩, hc3, hd3⟩
  have S3 := Lib.hid (show w2.heap.size + 0 ≤ w3.heap.size by have h9 := hd3.size; (try simp only [World.size_alloc, World.size_setCell] at h9); omega)
  have NR := Lib.hid (R.out.dg hd3 (show w.heap.size ≠ g by have := Hgl.out; have := S1.out; have := S2.out; have := S3.out; omega))
  have R := NR; clear NR
  have Hc3 := Lib.hid (hc3.mono (j := k + 6) (by omega))
  have Hd3 := Lib.hid (Hd2.out.trans hd3)
  clear hc3 hd3
  have v2 : -30 ≤ p2 - 30 ∧ p2 - 30 ≤ 30 := by omega
  go_wp2_with fail
  refine (among_lit g (k + 6) (w3.heap.size) [-25, -1, 4, 17, -36, 5, (p2 - 30)] w3 (by simp) Hc3.out (by simp) (by simp) (by have := Hk.out; omega)).mono ?_; rintro e w4 ⟨⟨b, hb, rfl⟩, hc4, hd4⟩
  have S4 := Lib.hid (show w3.heap.size + 1 ≤ w4.heap.size by have h9 := hd4.size; (try simp only [World.size_alloc, World.size_setCell] at h9); omega)
  have NR := Lib.hid ((R.out.alloc _).dg hd4 (show w.heap.size ≠ g by have := Hgl.out; have := S1.out; have := S2.out; have := S3.out; have := S4.out; omega))
  have R := NR; clear NR
  have Hc4 := Lib.hid (hc4.mono (j := k + 8) (by omega))
  have Hd4 := Lib.hid ((Hd3.out.alloc _).trans hd4)
  clear hc4 hd4
  have Bb := Lib.hid (ag2 hb (lo := -100) (hi := 100) (by simp; omega))
  clear lp2 up2 v2 hb
  have Ft := Lib.hid (TcB.small Ba.out Bb.out)
  go_wp2_with fail
  refine (one_any g (k + 8) (12) _ (Hc4.out.alloc _) (by have := Hk.out; omega)).mono ?_; rintro e w5 ⟨⟨c1, rfl⟩, hc5, hd5⟩
  have S5 := Lib.hid (show w4.heap.size + 1 ≤ w5.heap.size by have h9 := hd5.size; (try simp only [World.size_alloc, World.size_setCell] at h9); omega)
  have NR := Lib.hid ((R.out.alloc _).dg hd5 (show w.heap.size ≠ g by have := Hgl.out; have := S1.out; have := S2.out; have := S3.out; have := S4.out; have := S5.out; omega))
  have NE := Lib.hid ((Blk.new w4 24 #[.int .i64 a, .int .i64 b]).dg hd5 (show w4.heap.size ≠ g by have := Hgl.out; have := S1.out; have := S2.out; have := S3.out; have := S4.out; have := S5.out; omega))
  have R := NR; clear NR
  have E := NE; clear NE
  have Hc5 := Lib.hid (hc5.mono (j := k + 10) (by omega))
  have Hd5 := Lib.hid ((Hd4.out.alloc _).trans hd5)
  clear hc5 hd5
  cases c1
  · have qE0 := E.out.cell 0
    have qE1 := E.out.cell 1
    simp at qE0 qE1
    have qEl := E.out.lt
    go_wp2_with fail
    refine (tcGood_any a b _).mono ?_; rintro e w6 ⟨rfl, hd6⟩
    clear qE0 qE1 qEl
    have S6 := Lib.hid (show w5.heap.size + 0 ≤ w6.heap.size by have h9 := hd6.size; (try simp only [World.size_alloc, World.size_setCell] at h9); omega)
    have NR := Lib.hid (R.out.dg (Dg.of_below (g := g) hd6) (show w.heap.size ≠ g by have := Hgl.out; have := S1.out; have := S2.out; have := S3.out; have := S4.out; have := S5.out; have := S6.out; omega))
    have NE := Lib.hid (E.out.dg (Dg.of_below (g := g) hd6) (show w4.heap.size ≠ g by have := Hgl.out; have := S1.out; have := S2.out; have := S3.out; have := S4.out; have := S5.out; have := S6.out; omega))
    have R := NR; clear NR
    have E := NE; clear NE
    have Hc6 := Lib.hid (Hc5.out.on hd6)
    have Hd6 := Lib.hid (Hd5.out.trans (Dg.of_below (g := g) hd6))
    clear hd6
    cases hg : twB a b
    · clear hg
      have qE0 := E.out.cell 0
      have qE1 := E.out.cell 1
      simp at qE0 qE1
      have qEl := E.out.lt
      have qR0 := R.out.cell 0
      have qR1 := R.out.cell 1
      simp at qR0 qR1
      have qRl := R.out.lt
      have qRf := R.out.frozen
      have nER : w4.heap.size ≠ w.heap.size := by have := Hgl.out; have := S1.out; have := S2.out; have := S3.out; have := S4.out; have := S5.out; have := S6.out; omega
      have nRE : w.heap.size ≠ w4.heap.size := fun e => nER e.symm
      go_wp2
      clear qE0 qE1 qEl qR0 qR1 qRl qRf nER nRE
      have HR9 := (show Blk (World.setCell (World.setCell w6 ⟨w.heap.size, 0, none⟩ (.int .i64 0)) ⟨w.heap.size, 1, none⟩ (.int .i64 (-25))) (w.heap.size) 24 #[.int .i64 0, .int .i64 (-25)] by have h9 := ((R.out.set 0 (.int .i64 0)).set 1 (.int .i64 (-25))); simpa using h9)
      have k0 := HR9.cell 0
      have k1 := HR9.cell 1
      simp at k0 k1
      exact bodyPost_ret (v := .agg #[.int .i64 0, .int .i64 (-25)]) (by simp [results, Tryz.results113, go_sem, k0, k1]) rfl ⟨⟨0, -25, TcB.small (by omega) (by omega), rfl⟩, ((Hc6.out.st (p := ⟨w.heap.size, 0, none⟩) (show g < w.heap.size by have := Hgl.out; have := S1.out; have := S2.out; have := S3.out; have := S4.out; have := S5.out; have := S6.out; omega) (.int .i64 0)).st (p := ⟨w.heap.size, 1, none⟩) (show g < w.heap.size by have := Hgl.out; have := S1.out; have := S2.out; have := S3.out; have := S4.out; have := S5.out; have := S6.out; omega) (.int .i64 (-25))).mono (by omega), ((Hd6.out.st (p := ⟨w.heap.size, 0, none⟩) (show w.heap.size ≤ w.heap.size by have := Hgl.out; have := S1.out; have := S2.out; have := S3.out; have := S4.out; have := S5.out; have := S6.out; omega) (.int .i64 0)).st (p := ⟨w.heap.size, 1, none⟩) (show w.heap.size ≤ w.heap.size by have := Hgl.out; have := S1.out; have := S2.out; have := S3.out; have := S4.out; have := S5.out; have := S6.out; omega) (.int .i64 (-25)))⟩
    · clear hg
      have qE0 := E.out.cell 0
      have qE1 := E.out.cell 1
      simp at qE0 qE1
      have qEl := E.out.lt
      have qR0 := R.out.cell 0
      have qR1 := R.out.cell 1
      simp at qR0 qR1
      have qRl := R.out.lt
      have qRf := R.out.frozen
      have nER : w4.heap.size ≠ w.heap.size := by have := Hgl.out; have := S1.out; have := S2.out; have := S3.out; have := S4.out; have := S5.out; have := S6.out; omega
      have nRE : w.heap.size ≠ w4.heap.size := fun e => nER e.symm
      go_wp2
      clear qE0 qE1 qEl qR0 qR1 qRl qRf nER nRE
      have HR9 := (show Blk (World.setCell (World.setCell w6 ⟨w.heap.size, 0, none⟩ (.int .i64 a)) ⟨w.heap.size, 1, none⟩ (.int .i64 b)) (w.heap.size) 24 #[.int .i64 a, .int .i64 b] by have h9 := ((R.out.set 0 (.int .i64 a)).set 1 (.int .i64 b)); simpa using h9)
      have k0 := HR9.cell 0
      have k1 := HR9.cell 1
      simp at k0 k1
      exact bodyPost_ret (v := .agg #[.int .i64 a, .int .i64 b]) (by simp [results, Tryz.results113, go_sem, k0, k1]) rfl ⟨⟨_, _, Ft.out, rfl⟩, ((Hc6.out.st (p := ⟨w.heap.size, 0, none⟩) (show g < w.heap.size by have := Hgl.out; have := S1.out; have := S2.out; have := S3.out; have := S4.out; have := S5.out; have := S6.out; omega) (.int .i64 a)).st (p := ⟨w.heap.size, 1, none⟩) (show g < w.heap.size by have := Hgl.out; have := S1.out; have := S2.out; have := S3.out; have := S4.out; have := S5.out; have := S6.out; omega) (.int .i64 b)).mono (by omega), ((Hd6.out.st (p := ⟨w.heap.size, 0, none⟩) (show w.heap.size ≤ w.heap.size by have := Hgl.out; have := S1.out; have := S2.out; have := S3.out; have := S4.out; have := S5.out; have := S6.out; omega) (.int .i64 a)).st (p := ⟨w.heap.size, 1, none⟩) (show w.heap.size ≤ w.heap.size by have := Hgl.out; have := S1.out; have := S2.out; have := S3.out; have := S4.out; have := S5.out; have := S6.out; omega) (.int .i64 b))⟩
  · go_wp2_with fail
    refine (among_lit g (k + 10) (w5.heap.size) [300, -300, 7] w5 (by simp) Hc5.out (by simp) (by simp) (by have := Hk.out; omega)).mono ?_; rintro e w7 ⟨⟨a2, ha2, rfl⟩, hc7, hd7⟩
    have S7 := Lib.hid (show w5.heap.size + 1 ≤ w7.heap.size by have h9 := hd7.size; (try simp only [World.size_alloc, World.size_setCell] at h9); omega)
    have NR := Lib.hid ((R.out.alloc _).dg hd7 (show w.heap.size ≠ g by have := Hgl.out; have := S1.out; have := S2.out; have := S3.out; have := S4.out; have := S5.out; have := S7.out; omega))
    have NE := Lib.hid ((E.out.alloc _).dg hd7 (show w4.heap.size ≠ g by have := Hgl.out; have := S1.out; have := S2.out; have := S3.out; have := S4.out; have := S5.out; have := S7.out; omega))
    have R := NR; clear NR
    have E := NE; clear NE
    have Hc7 := Lib.hid (hc7.mono (j := k + 12) (by omega))
    have Hd7 := Lib.hid ((Hd5.out.alloc _).trans hd7)
    clear hc7 hd7
    go_wp2_with fail
    refine (among_lit g (k + 12) (w7.heap.size) [300, -300, 1] w7 (by simp) Hc7.out (by simp) (by simp) (by have := Hk.out; omega)).mono ?_; rintro e w8 ⟨⟨b2, hb2, rfl⟩, hc8, hd8⟩
    have S8 := Lib.hid (show w7.heap.size + 1 ≤ w8.heap.size by have h9 := hd8.size; (try simp only [World.size_alloc, World.size_setCell] at h9); omega)
    have NR := Lib.hid ((R.out.alloc _).dg hd8 (show w.heap.size ≠ g by have := Hgl.out; have := S1.out; have := S2.out; have := S3.out; have := S4.out; have := S5.out; have := S7.out; have := S8.out; omega))
    have NE := Lib.hid ((E.out.alloc _).dg hd8 (show w4.heap.size ≠ g by have := Hgl.out; have := S1.out; have := S2.out; have := S3.out; have := S4.out; have := S5.out; have := S7.out; have := S8.out; omega))
    have R := NR; clear NR
    have E := NE; clear NE
    have Hc8 := Lib.hid (hc8.mono (j := k + 14) (by omega))
    have Hd8 := Lib.hid ((Hd7.out.alloc _).trans hd8)
    clear hc8 hd8
    have Ft2 := Lib.hid (TcB.big ha2 hb2)
    clear ha2 hb2
    have qE0 := E.out.cell 0
    have qE1 := E.out.cell 1
    simp at qE0 qE1
    have qEl := E.out.lt
    have qEf := E.out.frozen
    go_wp2_with fail
    refine (tcGood_any a2 b2 _).mono ?_; rintro e w9 ⟨rfl, hd9⟩
    clear qE0 qE1 qEl qEf
    have S9 := Lib.hid (show w8.heap.size + 0 ≤ w9.heap.size by have h9 := hd9.size; (try simp only [World.size_alloc, World.size_setCell] at h9); omega)
    have NR := Lib.hid (((R.out.far (p := ⟨w4.heap.size, 0, none⟩) (show w.heap.size ≠ w4.heap.size by have := Hgl.out; have := S1.out; have := S2.out; have := S3.out; have := S4.out; have := S5.out; have := S7.out; have := S8.out; have := S9.out; omega) (.int .i64 a2)).far (p := ⟨w4.heap.size, 1, none⟩) (show w.heap.size ≠ w4.heap.size by have := Hgl.out; have := S1.out; have := S2.out; have := S3.out; have := S4.out; have := S5.out; have := S7.out; have := S8.out; have := S9.out; omega) (.int .i64 b2)).dg (Dg.of_below (g := g) hd9) (show w.heap.size ≠ g by have := Hgl.out; have := S1.out; have := S2.out; have := S3.out; have := S4.out; have := S5.out; have := S7.out; have := S8.out; have := S9.out; omega))
    have NE := Lib.hid ((show Blk (World.setCell (World.setCell w8 ⟨w4.heap.size, 0, none⟩ (.int .i64 a2)) ⟨w4.heap.size, 1, none⟩ (.int .i64 b2)) (w4.heap.size) 24 #[.int .i64 a2, .int .i64 b2] by have h9 := ((E.out.set 0 (.int .i64 a2)).set 1 (.int .i64 b2)); simpa using h9).dg (Dg.of_below (g := g) hd9) (show w4.heap.size ≠ g by have := Hgl.out; have := S1.out; have := S2.out; have := S3.out; have := S4.out; have := S5.out; have := S7.out; have := S8.out; have := S9.out; omega))
    have R := NR; clear NR
    have E := NE; clear NE
    have Hc9 := Lib.hid (((Hc8.out.st (p := ⟨w4.heap.size, 0, none⟩) (show g < w4.heap.size by have := Hgl.out; have := S1.out; have := S2.out; have := S3.out; have := S4.out; have := S5.out; have := S7.out; have := S8.out; have := S9.out; omega) (.int .i64 a2)).st (p := ⟨w4.heap.size, 1, none⟩) (show g < w4.heap.size by have := Hgl.out; have := S1.out; have := S2.out; have := S3.out; have := S4.out; have := S5.out; have := S7.out; have := S8.out; have := S9.out; omega) (.int .i64 b2)).on hd9)
    have Hd9 := Lib.hid (((Hd8.out.st (p := ⟨w4.heap.size, 0, none⟩) (show w.heap.size ≤ w4.heap.size by have := Hgl.out; have := S1.out; have := S2.out; have := S3.out; have := S4.out; have := S5.out; have := S7.out; have := S8.out; have := S9.out; omega) (.int .i64 a2)).st (p := ⟨w4.heap.size, 1, none⟩) (show w.heap.size ≤ w4.heap.size by have := Hgl.out; have := S1.out; have := S2.out; have := S3.out; have := S4.out; have := S5.out; have := S7.out; have := S8.out; have := S9.out; omega) (.int .i64 b2)).trans (Dg.of_below (g := g) hd9))
    clear hd9
    cases hg : twB a2 b2
    · clear hg
      have qE0 := E.out.cell 0
      have qE1 := E.out.cell 1
      simp at qE0 qE1
      have qEl := E.out.lt
      have qR0 := R.out.cell 0
      have qR1 := R.out.cell 1
      simp at qR0 qR1
      have qRl := R.out.lt
      have qRf := R.out.frozen
      have nER : w4.heap.size ≠ w.heap.size := by have := Hgl.out; have := S1.out; have := S2.out; have := S3.out; have := S4.out; have := S5.out; have := S7.out; have := S8.out; have := S9.out; omega
      have nRE : w.heap.size ≠ w4.heap.size := fun e => nER e.symm
      go_wp2
      clear qE0 qE1 qEl qR0 qR1 qRl qRf nER nRE
      have HR9 := (show Blk (World.setCell (World.setCell w9 ⟨w.heap.size, 0, none⟩ (.int .i64 0)) ⟨w.heap.size, 1, none⟩ (.int .i64 (-25))) (w.heap.size) 24 #[.int .i64 0, .int .i64 (-25)] by have h9 := ((R.out.set 0 (.int .i64 0)).set 1 (.int .i64 (-25))); simpa using h9)
      have k0 := HR9.cell 0
      have k1 := HR9.cell 1
      simp at k0 k1
      exact bodyPost_ret (v := .agg #[.int .i64 0, .int .i64 (-25)]) (by simp [results, Tryz.results113, go_sem, k0, k1]) rfl ⟨⟨0, -25, TcB.small (by omega) (by omega), rfl⟩, ((Hc9.out.st (p := ⟨w.heap.size, 0, none⟩) (show g < w.heap.size by have := Hgl.out; have := S1.out; have := S2.out; have := S3.out; have := S4.out; have := S5.out; have := S7.out; have := S8.out; have := S9.out; omega) (.int .i64 0)).st (p := ⟨w.heap.size, 1, none⟩) (show g < w.heap.size by have := Hgl.out; have := S1.out; have := S2.out; have := S3.out; have := S4.out; have := S5.out; have := S7.out; have := S8.out; have := S9.out; omega) (.int .i64 (-25))).mono (by omega), ((Hd9.out.st (p := ⟨w.heap.size, 0, none⟩) (show w.heap.size ≤ w.heap.size by have := Hgl.out; have := S1.out; have := S2.out; have := S3.out; have := S4.out; have := S5.out; have := S7.out; have := S8.out; have := S9.out; omega) (.int .i64 0)).st (p := ⟨w.heap.size, 1, none⟩) (show w.heap.size ≤ w.heap.size by have := Hgl.out; have := S1.out; have := S2.out; have := S3.out; have := S4.out; have := S5.out; have := S7.out; have := S8.out; have := S9.out; omega) (.int .i64 (-25)))⟩
    · clear hg
      have qE0 := E.out.cell 0
      have qE1 := E.out.cell 1
      simp at qE0 qE1
      have qEl := E.out.lt
      have qR0 := R.out.cell 0
      have qR1 := R.out.cell 1
      simp at qR0 qR1
      have qRl := R.out.lt
      have qRf := R.out.frozen
      have nER : w4.heap.size ≠ w.heap.size := by have := Hgl.out; have := S1.out; have := S2.out; have := S3.out; have := S4.out; have := S5.out; have := S7.out; have := S8.out; have := S9.out; omega
      have nRE : w.heap.size ≠ w4.heap.size := fun e => nER e.symm
      go_wp2
      clear qE0 qE1 qEl qR0 qR1 qRl qRf nER nRE
      have HR9 := (show Blk (World.setCell (World.setCell w9 ⟨w.heap.size, 0, none⟩ (.int .i64 a2)) ⟨w.heap.size, 1, none⟩ (.int .i64 b2)) (w.heap.size) 24 #[.int .i64 a2, .int .i64 b2] by have h9 := ((R.out.set 0 (.int .i64 a2)).set 1 (.int .i64 b2)); simpa using h9)
      have k0 := HR9.cell 0
      have k1 := HR9.cell 1
      simp at k0 k1
      exact bodyPost_ret (v := .agg #[.int .i64 a2, .int .i64 b2]) (by simp [results, Tryz.results113, go_sem, k0, k1]) rfl ⟨⟨_, _, Ft2.out, rfl⟩, ((Hc9.out.st (p := ⟨w.heap.size, 0, none⟩) (show g < w.heap.size by have := Hgl.out; have := S1.out; have := S2.out; have := S3.out; have := S4.out; have := S5.out; have := S7.out; have := S8.out; have := S9.out; omega) (.int .i64 a2)).st (p := ⟨w.heap.size, 1, none⟩) (show g < w.heap.size by have := Hgl.out; have := S1.out; have := S2.out; have := S3.out; have := S4.out; have := S5.out; have := S7.out; have := S8.out; have := S9.out; omega) (.int .i64 b2)).mono (by omega), ((Hd9.out.st (p := ⟨w.heap.size, 0, none⟩) (show w.heap.size ≤ w.heap.size by have := Hgl.out; have := S1.out; have := S2.out; have := S3.out; have := S4.out; have := S5.out; have := S7.out; have := S8.out; have := S9.out; omega) (.int .i64 a2)).st (p := ⟨w.heap.size, 1, none⟩) (show w.heap.size ≤ w.heap.size by have := Hgl.out; have := S1.out; have := S2.out; have := S3.out; have := S4.out; have := S5.out; have := S7.out; have := S8.out; have := S9.out; omega) (.int .i64 b2))⟩
set_option linter.unusedSimpArgs false in
set_option linter.unusedVariables false in
set_option maxRecDepth 8000 in
set_option maxHeartbeats 16000000 in
theorem anyTwoCurve_any (g k : Nat) (w : World) (hc : Cur w g k) (hk : k ≤ 700000) :
    Calls Tryz.prog 95 #[.pointer (some ⟨g, 0, none⟩)] w fun e w' => (∃ a b : Int, TcD a b ∧ e = .returned (.agg #[.int .i64 a, .int .i64 b])) ∧ Cur w' g (k + 30) ∧ Dg g w w' := by
  have Hgl := Lib.hid hc.lt
  have Hc := Lib.hid hc; have Hk := Lib.hid hk; have Hd := Lib.hid (Dg.refl g w); clear hc hk
  go_enter Tryz.func95, Tryz.ntmps95
  go_wp2_with fail
  refine (twoCurve_any g k _ (Hc.out.alloc _) (by have := Hk.out; omega)).mono ?_; rintro e w1 ⟨⟨a, b, ft, rfl⟩, hc1, hd1⟩
  have S1 := Lib.hid (show w.heap.size + 1 ≤ w1.heap.size by have h9 := hd1.size; (try simp only [World.size_alloc, World.size_setCell] at h9); omega)
  have NR := Lib.hid ((Blk.new w 24 #[.int .i64 0, .int .i64 0]).dg hd1 (show w.heap.size ≠ g by have := Hgl.out; have := S1.out; omega))
  have R := NR; clear NR
  have Hc1 := Lib.hid (hc1.mono (j := k + 20) (by omega))
  have Hd1 := Lib.hid ((Hd.out.alloc _).trans hd1)
  clear hc1 hd1
  have Ft := Lib.hid (show TcD a b from fun _ => ft)
  clear ft
  go_wp2_with fail
  refine (pick_any g (k + 20) (30) _ (Hc1.out.alloc _) (by have := Hk.out; omega)).mono ?_; rintro e w2 ⟨⟨x, lx, ux, rfl⟩, hc2, hd2⟩
  have S2 := Lib.hid (show w1.heap.size + 1 ≤ w2.heap.size by have h9 := hd2.size; (try simp only [World.size_alloc, World.size_setCell] at h9); omega)
  have NR := Lib.hid ((R.out.alloc _).dg hd2 (show w.heap.size ≠ g by have := Hgl.out; have := S1.out; have := S2.out; omega))
  have NE := Lib.hid ((Blk.new w1 24 #[.int .i64 a, .int .i64 b]).dg hd2 (show w1.heap.size ≠ g by have := Hgl.out; have := S1.out; have := S2.out; omega))
  have R := NR; clear NR
  have E := NE; clear NE
  have Hc2 := Lib.hid (hc2.mono (j := k + 22) (by omega))
  have Hd2 := Lib.hid ((Hd1.out.alloc _).trans hd2)
  clear hc2 hd2
  by_cases ex0 : x = 0
  · have zx0 : (x == 0) = true := by rw [ex0]; rfl
    clear ex0
    go_wp2_with fail
    refine (among_lit g (k + 22) (w2.heap.size) [301, -301, -9223372036854775808] w2 (by simp) Hc2.out (by simp) (by simp) (by have := Hk.out; omega)).mono ?_; rintro e w3 ⟨⟨a2, ha2, rfl⟩, hc3, hd3⟩
    have S3 := Lib.hid (show w2.heap.size + 1 ≤ w3.heap.size by have h9 := hd3.size; (try simp only [World.size_alloc, World.size_setCell] at h9); omega)
    have NR := Lib.hid ((R.out.alloc _).dg hd3 (show w.heap.size ≠ g by have := Hgl.out; have := S1.out; have := S2.out; have := S3.out; omega))
    have NE := Lib.hid ((E.out.alloc _).dg hd3 (show w1.heap.size ≠ g by have := Hgl.out; have := S1.out; have := S2.out; have := S3.out; omega))
    have R := NR; clear NR
    have E := NE; clear NE
    have Hc3 := Lib.hid (hc3.mono (j := k + 24) (by omega))
    have Hd3 := Lib.hid ((Hd2.out.alloc _).trans hd3)
    clear hc3 hd3
    have F2 := Lib.hid (TcD.offA (b := b) ha2)
    clear ha2
    have qE0 := E.out.cell 0
    have qE1 := E.out.cell 1
    simp at qE0 qE1
    have qEl := E.out.lt
    have qEf := E.out.frozen
    have qR0 := R.out.cell 0
    have qR1 := R.out.cell 1
    simp at qR0 qR1
    have qRl := R.out.lt
    have qRf := R.out.frozen
    have nER : w1.heap.size ≠ w.heap.size := by have := Hgl.out; have := S1.out; have := S2.out; have := S3.out; omega
    have nRE : w.heap.size ≠ w1.heap.size := fun e => nER e.symm
    go_wp2
    clear qE0 qE1 qEl qEf qR0 qR1 qRl qRf nER nRE
    have HR9 := (show Blk (World.setCell (World.setCell (World.setCell w3 ⟨w1.heap.size, 0, none⟩ (.int .i64 a2)) ⟨w.heap.size, 0, none⟩ (.int .i64 a2)) ⟨w.heap.size, 1, none⟩ (.int .i64 b)) (w.heap.size) 24 #[.int .i64 a2, .int .i64 b] by have h9 := (((R.out.far (p := ⟨w1.heap.size, 0, none⟩) (show w.heap.size ≠ w1.heap.size by have := Hgl.out; have := S1.out; have := S2.out; have := S3.out; omega) (.int .i64 a2)).set 0 (.int .i64 a2)).set 1 (.int .i64 b)); simpa using h9)
    have k0 := HR9.cell 0
    have k1 := HR9.cell 1
    simp at k0 k1
    exact bodyPost_ret (v := .agg #[.int .i64 a2, .int .i64 b]) (by simp [results, Tryz.results95, go_sem, k0, k1]) rfl ⟨⟨_, _, F2.out, rfl⟩, (((Hc3.out.st (p := ⟨w1.heap.size, 0, none⟩) (show g < w1.heap.size by have := Hgl.out; have := S1.out; have := S2.out; have := S3.out; omega) (.int .i64 a2)).st (p := ⟨w.heap.size, 0, none⟩) (show g < w.heap.size by have := Hgl.out; have := S1.out; have := S2.out; have := S3.out; omega) (.int .i64 a2)).st (p := ⟨w.heap.size, 1, none⟩) (show g < w.heap.size by have := Hgl.out; have := S1.out; have := S2.out; have := S3.out; omega) (.int .i64 b)).mono (by omega), (((Hd3.out.st (p := ⟨w1.heap.size, 0, none⟩) (show w.heap.size ≤ w1.heap.size by have := Hgl.out; have := S1.out; have := S2.out; have := S3.out; omega) (.int .i64 a2)).st (p := ⟨w.heap.size, 0, none⟩) (show w.heap.size ≤ w.heap.size by have := Hgl.out; have := S1.out; have := S2.out; have := S3.out; omega) (.int .i64 a2)).st (p := ⟨w.heap.size, 1, none⟩) (show w.heap.size ≤ w.heap.size by have := Hgl.out; have := S1.out; have := S2.out; have := S3.out; omega) (.int .i64 b))⟩
  · by_cases ex1 : x = 1
    · have zx1 : (x == 1) = true := by rw [ex1]; rfl
      have zx0 : (x == 0) = false := by rw [ex1]; rfl
      clear ex0 ex1
      go_wp2_with fail
      refine (among_lit g (k + 22) (w2.heap.size) [0, 301, -301, -9223372036854775808] w2 (by simp) Hc2.out (by simp) (by simp) (by have := Hk.out; omega)).mono ?_; rintro e w4 ⟨⟨b2, hb2, rfl⟩, hc4, hd4⟩
      have S4 := Lib.hid (show w2.heap.size + 1 ≤ w4.heap.size by have h9 := hd4.size; (try simp only [World.size_alloc, World.size_setCell] at h9); omega)
      have NR := Lib.hid ((R.out.alloc _).dg hd4 (show w.heap.size ≠ g by have := Hgl.out; have := S1.out; have := S2.out; have := S4.out; omega))
      have NE := Lib.hid ((E.out.alloc _).dg hd4 (show w1.heap.size ≠ g by have := Hgl.out; have := S1.out; have := S2.out; have := S4.out; omega))
      have R := NR; clear NR
      have E := NE; clear NE
      have Hc4 := Lib.hid (hc4.mono (j := k + 24) (by omega))
      have Hd4 := Lib.hid ((Hd2.out.alloc _).trans hd4)
      clear hc4 hd4
      have F2 := Lib.hid (TcD.offB (a := a) hb2)
      clear hb2
      have qE0 := E.out.cell 0
      have qE1 := E.out.cell 1
      simp at qE0 qE1
      have qEl := E.out.lt
      have qEf := E.out.frozen
      have qR0 := R.out.cell 0
      have qR1 := R.out.cell 1
      simp at qR0 qR1
      have qRl := R.out.lt
      have qRf := R.out.frozen
      have nER : w1.heap.size ≠ w.heap.size := by have := Hgl.out; have := S1.out; have := S2.out; have := S4.out; omega
      have nRE : w.heap.size ≠ w1.heap.size := fun e => nER e.symm
      go_wp2
      clear qE0 qE1 qEl qEf qR0 qR1 qRl qRf nER nRE
      have HR9 := (show Blk (World.setCell (World.setCell (World.setCell w4 ⟨w1.heap.size, 1, none⟩ (.int .i64 b2)) ⟨w.heap.size, 0, none⟩ (.int .i64 a)) ⟨w.heap.size, 1, none⟩ (.int .i64 b2)) (w.heap.size) 24 #[.int .i64 a, .int .i64 b2] by have h9 := (((R.out.far (p := ⟨w1.heap.size, 1, none⟩) (show w.heap.size ≠ w1.heap.size by have := Hgl.out; have := S1.out; have := S2.out; have := S4.out; omega) (.int .i64 b2)).set 0 (.int .i64 a)).set 1 (.int .i64 b2)); simpa using h9)
      have k0 := HR9.cell 0
      have k1 := HR9.cell 1
      simp at k0 k1
      exact bodyPost_ret (v := .agg #[.int .i64 a, .int .i64 b2]) (by simp [results, Tryz.results95, go_sem, k0, k1]) rfl ⟨⟨_, _, F2.out, rfl⟩, (((Hc4.out.st (p := ⟨w1.heap.size, 1, none⟩) (show g < w1.heap.size by have := Hgl.out; have := S1.out; have := S2.out; have := S4.out; omega) (.int .i64 b2)).st (p := ⟨w.heap.size, 0, none⟩) (show g < w.heap.size by have := Hgl.out; have := S1.out; have := S2.out; have := S4.out; omega) (.int .i64 a)).st (p := ⟨w.heap.size, 1, none⟩) (show g < w.heap.size by have := Hgl.out; have := S1.out; have := S2.out; have := S4.out; omega) (.int .i64 b2)).mono (by omega), (((Hd4.out.st (p := ⟨w1.heap.size, 1, none⟩) (show w.heap.size ≤ w1.heap.size by have := Hgl.out; have := S1.out; have := S2.out; have := S4.out; omega) (.int .i64 b2)).st (p := ⟨w.heap.size, 0, none⟩) (show w.heap.size ≤ w.heap.size by have := Hgl.out; have := S1.out; have := S2.out; have := S4.out; omega) (.int .i64 a)).st (p := ⟨w.heap.size, 1, none⟩) (show w.heap.size ≤ w.heap.size by have := Hgl.out; have := S1.out; have := S2.out; have := S4.out; omega) (.int .i64 b2))⟩
    · by_cases ex2 : x = 2
      · have zx2 : (x == 2) = true := by rw [ex2]; rfl
        have zx0 : (x == 0) = false := by rw [ex2]; rfl
        have zx1 : (x == 1) = false := by rw [ex2]; rfl
        clear ex0 ex1 ex2
        have qE0 := E.out.cell 0
        have qE1 := E.out.cell 1
        simp at qE0 qE1
        have qEl := E.out.lt
        have qEf := E.out.frozen
        have qR0 := R.out.cell 0
        have qR1 := R.out.cell 1
        simp at qR0 qR1
        have qRl := R.out.lt
        have qRf := R.out.frozen
        have nER : w1.heap.size ≠ w.heap.size := by have := Hgl.out; have := S1.out; have := S2.out; omega
        have nRE : w.heap.size ≠ w1.heap.size := fun e => nER e.symm
        go_wp2
        clear qE0 qE1 qEl qEf qR0 qR1 qRl qRf nER nRE
        have HR9 := (show Blk (World.setCell (World.setCell (World.setCell (World.setCell w2 ⟨w1.heap.size, 0, none⟩ (.int .i64 4)) ⟨w1.heap.size, 1, none⟩ (.int .i64 4)) ⟨w.heap.size, 0, none⟩ (.int .i64 4)) ⟨w.heap.size, 1, none⟩ (.int .i64 4)) (w.heap.size) 24 #[.int .i64 4, .int .i64 4] by have h9 := ((((R.out.far (p := ⟨w1.heap.size, 0, none⟩) (show w.heap.size ≠ w1.heap.size by have := Hgl.out; have := S1.out; have := S2.out; omega) (.int .i64 4)).far (p := ⟨w1.heap.size, 1, none⟩) (show w.heap.size ≠ w1.heap.size by have := Hgl.out; have := S1.out; have := S2.out; omega) (.int .i64 4)).set 0 (.int .i64 4)).set 1 (.int .i64 4)); simpa using h9)
        have k0 := HR9.cell 0
        have k1 := HR9.cell 1
        simp at k0 k1
        exact bodyPost_ret (v := .agg #[.int .i64 4, .int .i64 4]) (by simp [results, Tryz.results95, go_sem, k0, k1]) rfl ⟨⟨4, 4, fun _ => TcB.small (by omega) (by omega), rfl⟩, ((((Hc2.out.st (p := ⟨w1.heap.size, 0, none⟩) (show g < w1.heap.size by have := Hgl.out; have := S1.out; have := S2.out; omega) (.int .i64 4)).st (p := ⟨w1.heap.size, 1, none⟩) (show g < w1.heap.size by have := Hgl.out; have := S1.out; have := S2.out; omega) (.int .i64 4)).st (p := ⟨w.heap.size, 0, none⟩) (show g < w.heap.size by have := Hgl.out; have := S1.out; have := S2.out; omega) (.int .i64 4)).st (p := ⟨w.heap.size, 1, none⟩) (show g < w.heap.size by have := Hgl.out; have := S1.out; have := S2.out; omega) (.int .i64 4)).mono (by omega), ((((Hd2.out.st (p := ⟨w1.heap.size, 0, none⟩) (show w.heap.size ≤ w1.heap.size by have := Hgl.out; have := S1.out; have := S2.out; omega) (.int .i64 4)).st (p := ⟨w1.heap.size, 1, none⟩) (show w.heap.size ≤ w1.heap.size by have := Hgl.out; have := S1.out; have := S2.out; omega) (.int .i64 4)).st (p := ⟨w.heap.size, 0, none⟩) (show w.heap.size ≤ w.heap.size by have := Hgl.out; have := S1.out; have := S2.out; omega) (.int .i64 4)).st (p := ⟨w.heap.size, 1, none⟩) (show w.heap.size ≤ w.heap.size by have := Hgl.out; have := S1.out; have := S2.out; omega) (.int .i64 4))⟩
      · have zx0 : (x == 0) = false := beq_eq_false_iff_ne.2 ex0
        have zx1 : (x == 1) = false := beq_eq_false_iff_ne.2 ex1
        have zx2 : (x == 2) = false := beq_eq_false_iff_ne.2 ex2
        clear ex0 ex1 ex2
        have qE0 := E.out.cell 0
        have qE1 := E.out.cell 1
        simp at qE0 qE1
        have qEl := E.out.lt
        have qR0 := R.out.cell 0
        have qR1 := R.out.cell 1
        simp at qR0 qR1
        have qRl := R.out.lt
        have qRf := R.out.frozen
        have nER : w1.heap.size ≠ w.heap.size := by have := Hgl.out; have := S1.out; have := S2.out; omega
        have nRE : w.heap.size ≠ w1.heap.size := fun e => nER e.symm
        go_wp2
        clear qE0 qE1 qEl qR0 qR1 qRl qRf nER nRE
        have HR9 := (show Blk (World.setCell (World.setCell w2 ⟨w.heap.size, 0, none⟩ (.int .i64 a)) ⟨w.heap.size, 1, none⟩ (.int .i64 b)) (w.heap.size) 24 #[.int .i64 a, .int .i64 b] by have h9 := ((R.out.set 0 (.int .i64 a)).set 1 (.int .i64 b)); simpa using h9)
        have k0 := HR9.cell 0
        have k1 := HR9.cell 1
        simp at k0 k1
        exact bodyPost_ret (v := .agg #[.int .i64 a, .int .i64 b]) (by simp [results, Tryz.results95, go_sem, k0, k1]) rfl ⟨⟨_, _, Ft.out, rfl⟩, ((Hc2.out.st (p := ⟨w.heap.size, 0, none⟩) (show g < w.heap.size by have := Hgl.out; have := S1.out; have := S2.out; omega) (.int .i64 a)).st (p := ⟨w.heap.size, 1, none⟩) (show g < w.heap.size by have := Hgl.out; have := S1.out; have := S2.out; omega) (.int .i64 b)).mono (by omega), ((Hd2.out.st (p := ⟨w.heap.size, 0, none⟩) (show w.heap.size ≤ w.heap.size by have := Hgl.out; have := S1.out; have := S2.out; omega) (.int .i64 a)).st (p := ⟨w.heap.size, 1, none⟩) (show w.heap.size ≤ w.heap.size by have := Hgl.out; have := S1.out; have := S2.out; omega) (.int .i64 b))⟩
set_option linter.unusedSimpArgs false in
set_option linter.unusedVariables false in
set_option maxRecDepth 8000 in
set_option maxHeartbeats 16000000 in
theorem sided_any (g k : Nat) (w : World) (hc : Cur w g k) (hk : k ≤ 600000) :
    Calls Tryz.prog 65 #[.pointer (some ⟨g, 0, none⟩)] w fun e w' => (∃ (a b : Int) (du : Bool), TcD a b ∧ e = .returned (.tuple #[.agg #[.int .i64 a, .int .i64 b], .bool du])) ∧ Cur w' g (k + 40) ∧ Dg g w w' := by
  have Hgl := Lib.hid hc.lt
  have Hc := Lib.hid hc; have Hk := Lib.hid hk; have Hd := Lib.hid (Dg.refl g w); clear hc hk
  go_enter Tryz.func65, Tryz.ntmps65
  go_wp2_with fail
  refine (one_any g k (2) _ (Hc.out.alloc _) (by have := Hk.out; omega)).mono ?_; rintro e w1 ⟨⟨du, rfl⟩, hc1, hd1⟩
  have S1 := Lib.hid (show w.heap.size + 1 ≤ w1.heap.size by have h9 := hd1.size; (try simp only [World.size_alloc, World.size_setCell] at h9); omega)
  have NR := Lib.hid ((Blk.new w 24 #[.int .i64 0, .int .i64 0]).dg hd1 (show w.heap.size ≠ g by have := Hgl.out; have := S1.out; omega))
  have R := NR; clear NR
  have Hc1 := Lib.hid (hc1.mono (j := k + 2) (by omega))
  have Hd1 := Lib.hid ((Hd.out.alloc _).trans hd1)
  clear hc1 hd1
  go_wp2_with fail
  refine (one_any g (k + 2) (5) _ Hc1.out (by have := Hk.out; omega)).mono ?_; rintro e w2 ⟨⟨c1, rfl⟩, hc2, hd2⟩
  have S2 := Lib.hid (show w1.heap.size + 0 ≤ w2.heap.size by have h9 := hd2.size; (try simp only [World.size_alloc, World.size_setCell] at h9); omega)
  have NR := Lib.hid (R.out.dg hd2 (show w.heap.size ≠ g by have := Hgl.out; have := S1.out; have := S2.out; omega))
  have R := NR; clear NR
  have Hc2 := Lib.hid (hc2.mono (j := k + 4) (by omega))
  have Hd2 := Lib.hid (Hd1.out.trans hd2)
  clear hc2 hd2
  cases c1
  · go_wp2_with fail
    refine (pick_any g (k + 4) (21) _ Hc2.out (by have := Hk.out; omega)).mono ?_; rintro e w3 ⟨⟨p1, lp1, up1, rfl⟩, hc3, hd3⟩
    have S3 := Lib.hid (show w2.heap.size + 0 ≤ w3.heap.size by have h9 := hd3.size; (try simp only [World.size_alloc, World.size_setCell] at h9); omega)
    have NR := Lib.hid (R.out.dg hd3 (show w.heap.size ≠ g by have := Hgl.out; have := S1.out; have := S2.out; have := S3.out; omega))
    have R := NR; clear NR
    have Hc3 := Lib.hid (hc3.mono (j := k + 6) (by omega))
    have Hd3 := Lib.hid (Hd2.out.trans hd3)
    clear hc3 hd3
    have v1 : -10 ≤ p1 - 10 ∧ p1 - 10 ≤ 10 := by omega
    go_wp2_with fail
    refine (among_lit g (k + 6) (w3.heap.size) [0, 0, 0, 1, -2, 3, (p1 - 10)] w3 (by simp) Hc3.out (by simp) (by simp) (by have := Hk.out; omega)).mono ?_; rintro e w4 ⟨⟨a, ha, rfl⟩, hc4, hd4⟩
    have S4 := Lib.hid (show w3.heap.size + 1 ≤ w4.heap.size by have h9 := hd4.size; (try simp only [World.size_alloc, World.size_setCell] at h9); omega)
    have NR := Lib.hid ((R.out.alloc _).dg hd4 (show w.heap.size ≠ g by have := Hgl.out; have := S1.out; have := S2.out; have := S3.out; have := S4.out; omega))
    have R := NR; clear NR
    have Hc4 := Lib.hid (hc4.mono (j := k + 8) (by omega))
    have Hd4 := Lib.hid ((Hd3.out.alloc _).trans hd4)
    clear hc4 hd4
    have Ba := Lib.hid (ag2 ha (lo := -20) (hi := 20) (by simp; omega))
    clear lp1 up1 v1 ha
    go_wp2_with fail
    refine (pick_any g (k + 8) (41) _ Hc4.out (by have := Hk.out; omega)).mono ?_; rintro e w5 ⟨⟨p2, lp2, up2, rfl⟩, hc5, hd5⟩
    have S5 := Lib.hid (show w4.heap.size + 0 ≤ w5.heap.size by have h9 := hd5.size; (try simp only [World.size_alloc, World.size_setCell] at h9); omega)
    have NR := Lib.hid (R.out.dg hd5 (show w.heap.size ≠ g by have := Hgl.out; have := S1.out; have := S2.out; have := S3.out; have := S4.out; have := S5.out; omega))
    have R := NR; clear NR
    have Hc5 := Lib.hid (hc5.mono (j := k + 10) (by omega))
    have Hd5 := Lib.hid (Hd4.out.trans hd5)
    clear hc5 hd5
    have v2 : -20 ≤ p2 - 20 ∧ p2 - 20 ≤ 20 := by omega
    go_wp2_with fail
    refine (among_lit g (k + 10) (w5.heap.size) [-25, -1, 4, 17, -36, 5, -49, (p2 - 20)] w5 (by simp) Hc5.out (by simp) (by simp) (by have := Hk.out; omega)).mono ?_; rintro e w6 ⟨⟨b, hb, rfl⟩, hc6, hd6⟩
    have S6 := Lib.hid (show w5.heap.size + 1 ≤ w6.heap.size by have h9 := hd6.size; (try simp only [World.size_alloc, World.size_setCell] at h9); omega)
    have NR := Lib.hid ((R.out.alloc _).dg hd6 (show w.heap.size ≠ g by have := Hgl.out; have := S1.out; have := S2.out; have := S3.out; have := S4.out; have := S5.out; have := S6.out; omega))
    have R := NR; clear NR
    have Hc6 := Lib.hid (hc6.mono (j := k + 12) (by omega))
    have Hd6 := Lib.hid ((Hd5.out.alloc _).trans hd6)
    clear hc6 hd6
    have Bb := Lib.hid (ag2 hb (lo := -100) (hi := 100) (by simp; omega))
    clear lp2 up2 v2 hb
    have Ft := Lib.hid (TcB.small Ba.out Bb.out)
    go_wp2_with fail
    refine (tcGood_any a b _).mono ?_; rintro e w7 ⟨rfl, hd7⟩
    have S7 := Lib.hid (show w6.heap.size + 1 ≤ w7.heap.size by have h9 := hd7.size; (try simp only [World.size_alloc, World.size_setCell] at h9); omega)
    have NR := Lib.hid ((R.out.alloc _).dg (Dg.of_below (g := g) hd7) (show w.heap.size ≠ g by have := Hgl.out; have := S1.out; have := S2.out; have := S3.out; have := S4.out; have := S5.out; have := S6.out; have := S7.out; omega))
    have NE := Lib.hid ((Blk.new w6 24 #[.int .i64 a, .int .i64 b]).dg (Dg.of_below (g := g) hd7) (show w6.heap.size ≠ g by have := Hgl.out; have := S1.out; have := S2.out; have := S3.out; have := S4.out; have := S5.out; have := S6.out; have := S7.out; omega))
    have R := NR; clear NR
    have E := NE; clear NE
    have Hc7 := Lib.hid ((Hc6.out.alloc _).on hd7)
    have Hd7 := Lib.hid ((Hd6.out.alloc _).trans (Dg.of_below (g := g) hd7))
    clear hd7
    cases hg : twB a b
    · clear hg
      have qE0 := E.out.cell 0
      have qE1 := E.out.cell 1
      simp at qE0 qE1
      have qEl := E.out.lt
      have qR0 := R.out.cell 0
      have qR1 := R.out.cell 1
      simp at qR0 qR1
      have qRl := R.out.lt
      have qRf := R.out.frozen
      have nER : w6.heap.size ≠ w.heap.size := by have := Hgl.out; have := S1.out; have := S2.out; have := S3.out; have := S4.out; have := S5.out; have := S6.out; have := S7.out; omega
      have nRE : w.heap.size ≠ w6.heap.size := fun e => nER e.symm
      go_wp2
      clear qE0 qE1 qEl qR0 qR1 qRl qRf nER nRE
      have HR9 := (show Blk (World.setCell (World.setCell w7 ⟨w.heap.size, 0, none⟩ (.int .i64 0)) ⟨w.heap.size, 1, none⟩ (.int .i64 (-25))) (w.heap.size) 24 #[.int .i64 0, .int .i64 (-25)] by have h9 := ((R.out.set 0 (.int .i64 0)).set 1 (.int .i64 (-25))); simpa using h9)
      have k0 := HR9.cell 0
      have k1 := HR9.cell 1
      simp at k0 k1
      exact bodyPost_ret (v := .tuple #[.agg #[.int .i64 0, .int .i64 (-25)], .bool du]) (by simp [results, Tryz.results65, go_sem, k0, k1]) rfl ⟨⟨0, -25, du, fun _ => TcB.small (by omega) (by omega), rfl⟩, ((Hc7.out.st (p := ⟨w.heap.size, 0, none⟩) (show g < w.heap.size by have := Hgl.out; have := S1.out; have := S2.out; have := S3.out; have := S4.out; have := S5.out; have := S6.out; have := S7.out; omega) (.int .i64 0)).st (p := ⟨w.heap.size, 1, none⟩) (show g < w.heap.size by have := Hgl.out; have := S1.out; have := S2.out; have := S3.out; have := S4.out; have := S5.out; have := S6.out; have := S7.out; omega) (.int .i64 (-25))).mono (by omega), ((Hd7.out.st (p := ⟨w.heap.size, 0, none⟩) (show w.heap.size ≤ w.heap.size by have := Hgl.out; have := S1.out; have := S2.out; have := S3.out; have := S4.out; have := S5.out; have := S6.out; have := S7.out; omega) (.int .i64 0)).st (p := ⟨w.heap.size, 1, none⟩) (show w.heap.size ≤ w.heap.size by have := Hgl.out; have := S1.out; have := S2.out; have := S3.out; have := S4.out; have := S5.out; have := S6.out; have := S7.out; omega) (.int .i64 (-25)))⟩
    · clear hg
      have qE0 := E.out.cell 0
      have qE1 := E.out.cell 1
      simp at qE0 qE1
      have qEl := E.out.lt
      have qR0 := R.out.cell 0
      have qR1 := R.out.cell 1
      simp at qR0 qR1
      have qRl := R.out.lt
      have qRf := R.out.frozen
      have nER : w6.heap.size ≠ w.heap.size := by have := Hgl.out; have := S1.out; have := S2.out; have := S3.out; have := S4.out; have := S5.out; have := S6.out; have := S7.out; omega
      have nRE : w.heap.size ≠ w6.heap.size := fun e => nER e.symm
      go_wp2
      clear qE0 qE1 qEl qR0 qR1 qRl qRf nER nRE
      have HR9 := (show Blk (World.setCell (World.setCell w7 ⟨w.heap.size, 0, none⟩ (.int .i64 a)) ⟨w.heap.size, 1, none⟩ (.int .i64 b)) (w.heap.size) 24 #[.int .i64 a, .int .i64 b] by have h9 := ((R.out.set 0 (.int .i64 a)).set 1 (.int .i64 b)); simpa using h9)
      have k0 := HR9.cell 0
      have k1 := HR9.cell 1
      simp at k0 k1
      exact bodyPost_ret (v := .tuple #[.agg #[.int .i64 a, .int .i64 b], .bool du]) (by simp [results, Tryz.results65, go_sem, k0, k1]) rfl ⟨⟨_, _, du, fun _ => Ft.out, rfl⟩, ((Hc7.out.st (p := ⟨w.heap.size, 0, none⟩) (show g < w.heap.size by have := Hgl.out; have := S1.out; have := S2.out; have := S3.out; have := S4.out; have := S5.out; have := S6.out; have := S7.out; omega) (.int .i64 a)).st (p := ⟨w.heap.size, 1, none⟩) (show g < w.heap.size by have := Hgl.out; have := S1.out; have := S2.out; have := S3.out; have := S4.out; have := S5.out; have := S6.out; have := S7.out; omega) (.int .i64 b)).mono (by omega), ((Hd7.out.st (p := ⟨w.heap.size, 0, none⟩) (show w.heap.size ≤ w.heap.size by have := Hgl.out; have := S1.out; have := S2.out; have := S3.out; have := S4.out; have := S5.out; have := S6.out; have := S7.out; omega) (.int .i64 a)).st (p := ⟨w.heap.size, 1, none⟩) (show w.heap.size ≤ w.heap.size by have := Hgl.out; have := S1.out; have := S2.out; have := S3.out; have := S4.out; have := S5.out; have := S6.out; have := S7.out; omega) (.int .i64 b))⟩
  · go_wp2_with fail
    refine (anyTwoCurve_any g (k + 4) _ Hc2.out (by have := Hk.out; omega)).mono ?_; rintro e w8 ⟨⟨a, b, ft, rfl⟩, hc8, hd8⟩
    have S8 := Lib.hid (show w2.heap.size + 0 ≤ w8.heap.size by have h9 := hd8.size; (try simp only [World.size_alloc, World.size_setCell] at h9); omega)
    have NR := Lib.hid (R.out.dg hd8 (show w.heap.size ≠ g by have := Hgl.out; have := S1.out; have := S2.out; have := S8.out; omega))
    have R := NR; clear NR
    have Hc8 := Lib.hid (hc8.mono (j := k + 34) (by omega))
    have Hd8 := Lib.hid (Hd2.out.trans hd8)
    clear hc8 hd8
    have Ft := Lib.hid ft
    clear ft
    have qR0 := R.out.cell 0
    have qR1 := R.out.cell 1
    simp at qR0 qR1
    have qRl := R.out.lt
    have qRf := R.out.frozen
    go_wp2
    clear qR0 qR1 qRl qRf
    have HR9 := (show Blk (World.setCell (World.setCell w8 ⟨w.heap.size, 0, none⟩ (.int .i64 a)) ⟨w.heap.size, 1, none⟩ (.int .i64 b)) (w.heap.size) 24 #[.int .i64 a, .int .i64 b] by have h9 := ((R.out.set 0 (.int .i64 a)).set 1 (.int .i64 b)); simpa using h9)
    have k0 := HR9.cell 0
    have k1 := HR9.cell 1
    simp at k0 k1
    exact bodyPost_ret (v := .tuple #[.agg #[.int .i64 a, .int .i64 b], .bool du]) (by simp [results, Tryz.results65, go_sem, k0, k1]) rfl ⟨⟨_, _, du, Ft.out, rfl⟩, ((Hc8.out.st (p := ⟨w.heap.size, 0, none⟩) (show g < w.heap.size by have := Hgl.out; have := S1.out; have := S2.out; have := S8.out; omega) (.int .i64 a)).st (p := ⟨w.heap.size, 1, none⟩) (show g < w.heap.size by have := Hgl.out; have := S1.out; have := S2.out; have := S8.out; omega) (.int .i64 b)).mono (by omega), ((Hd8.out.st (p := ⟨w.heap.size, 0, none⟩) (show w.heap.size ≤ w.heap.size by have := Hgl.out; have := S1.out; have := S2.out; have := S8.out; omega) (.int .i64 a)).st (p := ⟨w.heap.size, 1, none⟩) (show w.heap.size ≤ w.heap.size by have := Hgl.out; have := S1.out; have := S2.out; have := S8.out; omega) (.int .i64 b))⟩
set_option linter.unusedSimpArgs false in
set_option linter.unusedVariables false in
set_option maxRecDepth 8000 in
set_option maxHeartbeats 16000000 in
theorem descended_any (g k : Nat) (w : World) (hc : Cur w g k) (hk : k ≤ 500000) :
    Calls Tryz.prog 37 #[.pointer (some ⟨g, 0, none⟩)] w fun e w' => (∃ a b : Int, TcD a b ∧ e = .returned (.agg #[.int .i64 a, .int .i64 b])) ∧ Cur w' g (k + 50) ∧ Dg g w w' := by
  have Hgl := Lib.hid hc.lt
  have Hc := Lib.hid hc; have Hk := Lib.hid hk; have Hd := Lib.hid (Dg.refl g w); clear hc hk
  go_enter Tryz.func37, Tryz.ntmps37
  go_wp2_with fail
  refine (one_any g k (4) _ (Hc.out.alloc _) (by have := Hk.out; omega)).mono ?_; rintro e w1 ⟨⟨c1, rfl⟩, hc1, hd1⟩
  have S1 := Lib.hid (show w.heap.size + 1 ≤ w1.heap.size by have h9 := hd1.size; (try simp only [World.size_alloc, World.size_setCell] at h9); omega)
  have NR := Lib.hid ((Blk.new w 24 #[.int .i64 0, .int .i64 0]).dg hd1 (show w.heap.size ≠ g by have := Hgl.out; have := S1.out; omega))
  have R := NR; clear NR
  have Hc1 := Lib.hid (hc1.mono (j := k + 2) (by omega))
  have Hd1 := Lib.hid ((Hd.out.alloc _).trans hd1)
  clear hc1 hd1
  cases c1
  · go_wp2_with fail
    refine (among_lit g (k + 2) (w1.heap.size) [0, 0, 0, 1, -3, 6] w1 (by simp) Hc1.out (by simp) (by simp) (by have := Hk.out; omega)).mono ?_; rintro e w2 ⟨⟨a, ha, rfl⟩, hc2, hd2⟩
    have S2 := Lib.hid (show w1.heap.size + 1 ≤ w2.heap.size by have h9 := hd2.size; (try simp only [World.size_alloc, World.size_setCell] at h9); omega)
    have NR := Lib.hid ((R.out.alloc _).dg hd2 (show w.heap.size ≠ g by have := Hgl.out; have := S1.out; have := S2.out; omega))
    have R := NR; clear NR
    have Hc2 := Lib.hid (hc2.mono (j := k + 4) (by omega))
    have Hd2 := Lib.hid ((Hd1.out.alloc _).trans hd2)
    clear hc2 hd2
    have Ba := Lib.hid (ag2 ha (lo := -20) (hi := 20) (by simp))
    clear ha
    go_wp2_with fail
    refine (among_lit g (k + 4) (w2.heap.size) [-25, -1, 1, 4, 17, -36, 5, -49, -5, 7, -17, -82] w2 (by simp) Hc2.out (by simp) (by simp) (by have := Hk.out; omega)).mono ?_; rintro e w3 ⟨⟨b, hb, rfl⟩, hc3, hd3⟩
    have S3 := Lib.hid (show w2.heap.size + 1 ≤ w3.heap.size by have h9 := hd3.size; (try simp only [World.size_alloc, World.size_setCell] at h9); omega)
    have NR := Lib.hid ((R.out.alloc _).dg hd3 (show w.heap.size ≠ g by have := Hgl.out; have := S1.out; have := S2.out; have := S3.out; omega))
    have R := NR; clear NR
    have Hc3 := Lib.hid (hc3.mono (j := k + 6) (by omega))
    have Hd3 := Lib.hid ((Hd2.out.alloc _).trans hd3)
    clear hc3 hd3
    have Bb := Lib.hid (ag2 hb (lo := -100) (hi := 100) (by simp))
    clear hb
    have Ft := Lib.hid (TcB.small Ba.out Bb.out)
    have qR0 := R.out.cell 0
    have qR1 := R.out.cell 1
    simp at qR0 qR1
    have qRl := R.out.lt
    have qRf := R.out.frozen
    go_wp2
    clear qR0 qR1 qRl qRf
    have HR9 := (show Blk (World.setCell (World.setCell w3 ⟨w.heap.size, 0, none⟩ (.int .i64 a)) ⟨w.heap.size, 1, none⟩ (.int .i64 b)) (w.heap.size) 24 #[.int .i64 a, .int .i64 b] by have h9 := ((R.out.set 0 (.int .i64 a)).set 1 (.int .i64 b)); simpa using h9)
    have k0 := HR9.cell 0
    have k1 := HR9.cell 1
    simp at k0 k1
    exact bodyPost_ret (v := .agg #[.int .i64 a, .int .i64 b]) (by simp [results, Tryz.results37, go_sem, k0, k1]) rfl ⟨⟨_, _, fun _ => Ft.out, rfl⟩, ((Hc3.out.st (p := ⟨w.heap.size, 0, none⟩) (show g < w.heap.size by have := Hgl.out; have := S1.out; have := S2.out; have := S3.out; omega) (.int .i64 a)).st (p := ⟨w.heap.size, 1, none⟩) (show g < w.heap.size by have := Hgl.out; have := S1.out; have := S2.out; have := S3.out; omega) (.int .i64 b)).mono (by omega), ((Hd3.out.st (p := ⟨w.heap.size, 0, none⟩) (show w.heap.size ≤ w.heap.size by have := Hgl.out; have := S1.out; have := S2.out; have := S3.out; omega) (.int .i64 a)).st (p := ⟨w.heap.size, 1, none⟩) (show w.heap.size ≤ w.heap.size by have := Hgl.out; have := S1.out; have := S2.out; have := S3.out; omega) (.int .i64 b))⟩
  · go_wp2_with fail
    refine (sided_any g (k + 2) _ Hc1.out (by have := Hk.out; omega)).mono ?_; rintro e w4 ⟨⟨a, b, du, ft, rfl⟩, hc4, hd4⟩
    have S4 := Lib.hid (show w1.heap.size + 0 ≤ w4.heap.size by have h9 := hd4.size; (try simp only [World.size_alloc, World.size_setCell] at h9); omega)
    have NR := Lib.hid (R.out.dg hd4 (show w.heap.size ≠ g by have := Hgl.out; have := S1.out; have := S4.out; omega))
    have R := NR; clear NR
    have Hc4 := Lib.hid (hc4.mono (j := k + 42) (by omega))
    have Hd4 := Lib.hid (Hd1.out.trans hd4)
    clear hc4 hd4
    have Ft := Lib.hid ft
    clear ft
    have qR0 := R.out.cell 0
    have qR1 := R.out.cell 1
    simp at qR0 qR1
    have qRl := R.out.lt
    have qRf := R.out.frozen
    go_wp2
    clear qR0 qR1 qRl qRf
    have HR9 := (show Blk (World.alloc (World.setCell (World.setCell w4 ⟨w.heap.size, 0, none⟩ (.int .i64 a)) ⟨w.heap.size, 1, none⟩ (.int .i64 b)) (Obj.cells #[.int .i64 a, .int .i64 b] 24)) (w.heap.size) 24 #[.int .i64 a, .int .i64 b] by have h9 := (((R.out.set 0 (.int .i64 a)).set 1 (.int .i64 b)).alloc (Obj.cells #[.int .i64 a, .int .i64 b] 24)); simpa using h9)
    have k0 := HR9.cell 0
    have k1 := HR9.cell 1
    simp at k0 k1
    exact bodyPost_ret (v := .agg #[.int .i64 a, .int .i64 b]) (by simp [results, Tryz.results37, go_sem, k0, k1]) rfl ⟨⟨_, _, Ft.out, rfl⟩, (((Hc4.out.st (p := ⟨w.heap.size, 0, none⟩) (show g < w.heap.size by have := Hgl.out; have := S1.out; have := S4.out; omega) (.int .i64 a)).st (p := ⟨w.heap.size, 1, none⟩) (show g < w.heap.size by have := Hgl.out; have := S1.out; have := S4.out; omega) (.int .i64 b)).alloc (Obj.cells #[.int .i64 a, .int .i64 b] 24)).mono (by omega), (((Hd4.out.st (p := ⟨w.heap.size, 0, none⟩) (show w.heap.size ≤ w.heap.size by have := Hgl.out; have := S1.out; have := S4.out; omega) (.int .i64 a)).st (p := ⟨w.heap.size, 1, none⟩) (show w.heap.size ≤ w.heap.size by have := Hgl.out; have := S1.out; have := S4.out; omega) (.int .i64 b)).alloc (Obj.cells #[.int .i64 a, .int .i64 b] 24))⟩
end
section
open Go Go.RowKit Go.Lib

theorem PrN.euclid {p a b : Nat} (hp : PrN p) (h : p ∣ a * b) : p ∣ a ∨ p ∣ b := by
  rcases hp.dvd_cases (Nat.gcd_dvd_left p a) with h1 | h1
  · exact .inr ((show Nat.Coprime p a from h1).dvd_of_dvd_mul_left h)
  · exact .inl (by rw [← h1]; exact Nat.gcd_dvd_right _ _)
theorem PrN.euclidI {p : Nat} {a b : Int} (hp : PrN p) (h : (p : Int) ∣ a * b) : (p : Int) ∣ a ∨ (p : Int) ∣ b := by
  have h1 := Int.natAbs_dvd_natAbs.2 h
  rw [Int.natAbs_mul, Int.natAbs_natCast] at h1
  rcases hp.euclid h1 with h2 | h2
  · exact .inl (Int.natAbs_dvd_natAbs.1 (by rw [Int.natAbs_natCast]; exact h2))
  · exact .inr (Int.natAbs_dvd_natAbs.1 (by rw [Int.natAbs_natCast]; exact h2))
theorem nodup_map {f : Nat → Int} {l : List Nat} (hl : l.Pairwise (· < ·)) (h : ∀ x ∈ l, ∀ y ∈ l, x < y → f x ≠ f y) : (l.map f).Nodup := by
  rw [List.nodup_iff_pairwise_ne, List.pairwise_map]
  exact hl.imp_of_mem (fun hx hy hlt => h _ hx _ hy hlt)
theorem inv_ex {e N : Nat} (hN : 0 < N) (hc : Nat.Coprime e N) : ∃ x, x < N ∧ (e * x) % N = 1 % N := by
  have h1 : ((List.range N).map (fun x => ((e * x % N : Nat) : Int))).Nodup := nodup_map List.pairwise_lt_range (fun x hx y hy hlt he => by
    rw [List.mem_range] at hx hy
    have h2 : e * y % N = e * x % N := by omega
    have h3 := Nat.sub_mod_eq_zero_of_mod_eq h2
    rw [← Nat.mul_sub] at h3
    have h4 : N ∣ y - x := hc.symm.dvd_of_dvd_mul_left (Nat.dvd_of_mod_eq_zero h3)
    have := Nat.le_of_dvd (by omega) h4
    omega)
  have h2 := mem_of_len (m := (List.range N).map (fun x => ((x : Nat) : Int))) h1 (fun z hz => by
    obtain ⟨x, -, rfl⟩ := List.mem_map.1 hz
    exact List.mem_map.2 ⟨e * x % N, List.mem_range.2 (Nat.mod_lt _ hN), rfl⟩) (by simp) ((1 % N : Nat) : Int) (List.mem_map.2 ⟨1 % N, List.mem_range.2 (Nat.mod_lt _ hN), rfl⟩)
  obtain ⟨x, hx, he⟩ := List.mem_map.1 h2
  exact ⟨x, List.mem_range.1 hx, by omega⟩
theorem prodI_perm {l m : List Int} (h : l.Perm m) : prodI l = prodI m := by
  induction h with
  | nil => rfl
  | cons x _ ih => rw [prodI, prodI, ih]
  | swap x y l => rw [prodI, prodI, prodI, prodI]; grind
  | trans _ _ ih1 ih2 => rw [ih1, ih2]
theorem prodI_same {l m : List Int} (hl : l.Nodup) (hm : m.Nodup) (h : ∀ x, x ∈ l ↔ x ∈ m) : prodI l = prodI m := by
  have h1 : srI l = srI m := inc_eq (srI_inc hl) (srI_inc hm) (fun x => by rw [mem_srI, mem_srI, h])
  have e1 : prodI (srI l) = prodI l := prodI_perm (List.mergeSort_perm l _)
  have e2 : prodI (srI m) = prodI m := prodI_perm (List.mergeSort_perm m _)
  rw [← e1, ← e2, h1]
theorem prodI_mul (u P : Int) : ∀ l : List Int, prodI (l.map (fun x => u * x % P)) % P = u ^ l.length * prodI l % P
  | [] => by simp [prodI]
  | x :: l => by
    rw [List.map_cons, prodI, prodI, List.length_cons, Int.pow_succ, Int.mul_emod, prodI_mul u P l, Int.emod_emod_of_dvd _ (Int.dvd_refl P), ← Int.mul_emod]
    congr 1
    grind
theorem prodI_cop {p : Nat} (hp : PrN p) : ∀ {l : List Int}, (∀ x ∈ l, ¬ (p : Int) ∣ x) → ¬ (p : Int) ∣ prodI l
  | [], _, h => by
    rw [prodI] at h
    have := Int.le_of_dvd (by omega) h
    have := hp.1
    omega
  | x :: l, hl, h => by
    rw [prodI] at h
    rcases hp.euclidI h with h1 | h1
    · exact hl x (List.mem_cons_self ..) h1
    · exact prodI_cop hp (fun y hy => hl y (List.mem_cons_of_mem _ hy)) h1
theorem fermat {p : Nat} {u : Int} (hp : PrN p) (hu : ¬ (p : Int) ∣ u) : u ^ (p - 1) % (p : Int) = 1 := by
  have hp2 := hp.1
  have hL : ∀ z : Int, z ∈ (List.range (p - 1)).map (fun i => ((i : Nat) : Int) + 1) ↔ 1 ≤ z ∧ z < p := by
    intro z
    rw [List.mem_map]
    constructor
    · rintro ⟨i, hi, rfl⟩; rw [List.mem_range] at hi; omega
    · rintro ⟨h1, h2⟩; exact ⟨(z - 1).toNat, List.mem_range.2 (by omega), by omega⟩
  have hLn : ((List.range (p - 1)).map (fun i => ((i : Nat) : Int) + 1)).Nodup := nodup_map List.pairwise_lt_range (fun x _ y _ h => by omega)
  have hnd : ∀ z : Int, 1 ≤ z → z < p → ¬ (p : Int) ∣ z := fun z h1 h2 h3 => by have := Int.le_of_dvd (by omega) h3; omega
  have hMn : (((List.range (p - 1)).map (fun i => ((i : Nat) : Int) + 1)).map (fun x => u * x % (p : Int))).Nodup := by
    rw [List.map_map]
    refine nodup_map List.pairwise_lt_range (fun x hx y hy hlt he => ?_)
    rw [List.mem_range] at hx hy
    have he : u * ((x : Int) + 1) % (p : Int) = u * ((y : Int) + 1) % (p : Int) := he
    have h2 : (p : Int) ∣ u * ((y : Int) + 1) - u * ((x : Int) + 1) := Int.dvd_of_emod_eq_zero (Int.emod_eq_emod_iff_emod_sub_eq_zero.1 he.symm)
    rw [← Int.mul_sub] at h2
    rcases hp.euclidI h2 with h3 | h3
    · exact hu h3
    · have := Int.le_of_dvd (by omega) h3; omega
  have hMs : ∀ z ∈ ((List.range (p - 1)).map (fun i => ((i : Nat) : Int) + 1)).map (fun x => u * x % (p : Int)), z ∈ (List.range (p - 1)).map (fun i => ((i : Nat) : Int) + 1) := by
    intro z hz
    obtain ⟨x, hx, rfl⟩ := List.mem_map.1 hz
    obtain ⟨h1, h2⟩ := (hL x).1 hx
    have h3 := Int.emod_nonneg (u * x) (show (p : Int) ≠ 0 by omega)
    have h4 := Int.emod_lt_of_pos (u * x) (show (0 : Int) < p by omega)
    refine (hL _).2 ⟨?_, h4⟩
    rcases Int.lt_or_le 0 (u * x % (p : Int)) with h5 | h5
    · omega
    · rcases hp.euclidI (Int.dvd_of_emod_eq_zero (show u * x % (p : Int) = 0 by omega)) with h6 | h6
      · exact absurd h6 hu
      · exact absurd h6 (hnd x h1 h2)
  have hsame := prodI_same hMn hLn (fun z => ⟨hMs z, mem_of_len hMn hMs (by simp) z⟩)
  have h1 := prodI_mul u p ((List.range (p - 1)).map (fun i => ((i : Nat) : Int) + 1))
  rw [hsame, List.length_map, List.length_range] at h1
  generalize hP : prodI ((List.range (p - 1)).map (fun i => ((i : Nat) : Int) + 1)) = P at *
  have hPc : ¬ (p : Int) ∣ P := by rw [← hP]; exact prodI_cop hp (fun z hz => by obtain ⟨a, b⟩ := (hL z).1 hz; exact hnd z a b)
  have h2 : (p : Int) ∣ u ^ (p - 1) * P - P := Int.dvd_of_emod_eq_zero (Int.emod_eq_emod_iff_emod_sub_eq_zero.1 h1.symm)
  rw [show u ^ (p - 1) * P - P = (u ^ (p - 1) - 1) * P by grind] at h2
  rcases hp.euclidI h2 with h3 | h3
  · have h4 := Int.emod_eq_emod_iff_emod_sub_eq_zero.2 (Int.emod_eq_zero_of_dvd h3)
    rw [h4]
    exact Int.emod_eq_of_lt (by omega) (by omega)
  · exact absurd h3 hPc
theorem pwN_pow {p : Int} : ∀ (n : Nat) (o b : Int), o % p = o → pwN p o b n = o * b ^ n % p := by
  intro n
  induction n using Nat.strongRecOn with
  | ind n ih =>
    intro o b ho
    rcases Nat.eq_zero_or_pos n with h0 | h0
    · subst h0; rw [pwN_zero, Int.pow_zero, Int.mul_one, ho]
    · have e : b ^ n = (b * b) ^ (n / 2) * b ^ (n % 2) := by
        rw [show b * b = b ^ 2 by rw [Int.pow_succ, Int.pow_succ, Int.pow_zero, Int.one_mul], ← Int.pow_mul, ← Int.pow_add]
        congr 1; omega
      have hb : ∀ k : Nat, (b * b % p) ^ k % p = (b * b) ^ k % p := by
        intro k
        induction k with
        | zero => rw [Int.pow_zero, Int.pow_zero]
        | succ k ik => rw [Int.pow_succ, Int.mul_emod, ik, Int.emod_emod_of_dvd _ (Int.dvd_refl p), ← Int.mul_emod, ← Int.pow_succ]
      by_cases h1 : n % 2 = 1
      · rw [pwN_odd h1, ih _ (by omega) _ _ (Int.emod_emod_of_dvd _ (Int.dvd_refl p)), Int.mul_emod, hb, Int.emod_emod_of_dvd _ (Int.dvd_refl p), ← Int.mul_emod, e, h1, Int.pow_succ, Int.pow_zero, Int.one_mul]
        congr 1; grind
      · rw [pwN_even h0 h1, ih _ (by omega) _ _ ho, Int.mul_emod, hb, ← Int.mul_emod, e, show n % 2 = 0 by omega, Int.pow_zero, Int.mul_one]
theorem pwV_pow {a p : Int} (n : Nat) (hp : 1 < p) : pwV a n p = a ^ n % p := by
  unfold pwV
  rw [pwN_pow _ _ _ (Int.emod_eq_of_lt (by omega) hp), Int.one_mul]
  induction n with
  | zero => rw [Int.pow_zero, Int.pow_zero]
  | succ n ih => rw [Int.pow_succ, Int.mul_emod, ih, Int.emod_emod_of_dvd _ (Int.dvd_refl p), ← Int.mul_emod, ← Int.pow_succ]
theorem val_uniq {p : Nat} (hp : 2 ≤ p) : ∀ {v w r s : Nat}, r % p ≠ 0 → s % p ≠ 0 → p ^ v * r = p ^ w * s → v = w ∧ r = s
  | 0, 0, r, s, _, _, h => ⟨rfl, by simpa using h⟩
  | 0, w + 1, r, s, hr, _, h => by
    rw [Nat.pow_zero, Nat.one_mul, Nat.pow_succ, Nat.mul_comm (p ^ w) p, Nat.mul_assoc] at h
    rw [h, Nat.mul_mod_right] at hr
    exact absurd rfl hr
  | v + 1, 0, r, s, _, hs, h => by
    rw [Nat.pow_zero, Nat.one_mul, Nat.pow_succ, Nat.mul_comm (p ^ v) p, Nat.mul_assoc] at h
    rw [← h, Nat.mul_mod_right] at hs
    exact absurd rfl hs
  | v + 1, w + 1, r, s, hr, hs, h => by
    rw [Nat.pow_succ, Nat.pow_succ, Nat.mul_comm (p ^ v) p, Nat.mul_comm (p ^ w) p, Nat.mul_assoc, Nat.mul_assoc] at h
    obtain ⟨h1, h2⟩ := val_uniq hp hr hs (Nat.eq_of_mul_eq_mul_left (by omega) h)
    exact ⟨by omega, h2⟩
/-- A square modulo p ^ k passes the test. -/
theorem sq_ok {p k n : Nat} (hp : PrN p) (hn : n < p ^ k) {Y : Nat} (hy : Y * Y % p ^ k = n) : sqV n p k = true := by
  have hp2 := hp.1
  unfold sqV
  by_cases h0 : n = 0
  · rw [if_pos h0]
  rw [if_neg h0]
  obtain ⟨hn1, hn2, hn3, -⟩ := rsN_spec hp2 (n := n) (by omega)
  have hY0 : 0 < Y := by
    rcases Nat.eq_zero_or_pos Y with h | h
    · subst h; simp at hy; omega
    · exact h
  obtain ⟨u, hu1, hu2, hu3⟩ := vlN_spec hp2 Y hY0
  generalize vlN Y p = s at *
  have hYY : Y * Y = p ^ (2 * s) * (u * u) := by
    rw [hu1, show 2 * s = s + s by omega, Nat.pow_add]; grind
  rcases Nat.lt_or_ge (2 * s) k with hs | hs
  · have hk : p ^ k = p ^ (2 * s) * p ^ (k - 2 * s) := by rw [← Nat.pow_add]; congr 1; omega
    have hw : n = p ^ (2 * s) * (u * u % p ^ (k - 2 * s)) := by rw [← hy, hYY, hk, Nat.mul_mod_mul_left]
    have hpd : p ∣ p ^ (k - 2 * s) := Nat.dvd_trans (by rw [Nat.pow_one]; exact Nat.dvd_refl p) (Nat.pow_dvd_pow p (show 1 ≤ k - 2 * s by omega))
    have hwp : u * u % p ^ (k - 2 * s) % p = u * u % p := Nat.mod_mod_of_dvd _ hpd
    have huu : u * u % p ≠ 0 := fun h => by
      rcases hp.euclid (Nat.dvd_of_mod_eq_zero h) with h1 | h1
      · exact hu2 (Nat.mod_eq_zero_of_dvd h1)
      · exact hu2 (Nat.mod_eq_zero_of_dvd h1)
    obtain ⟨hv, hr⟩ := val_uniq hp2 hn2 (show (u * u % p ^ (k - 2 * s)) % p ≠ 0 by rw [hwp]; exact huu) (hn1.symm.trans hw)
    rw [if_neg (by omega)]
    unfold uqV
    rw [hv, hr]
    have hrp := hwp
    by_cases h3 : 2 < p
    · rw [if_pos h3]
      have hodd : p % 2 = 1 := by
        rcases Nat.mod_two_eq_zero_or_one p with h | h
        · exact absurd (Nat.dvd_of_mod_eq_zero h) (hp.2 2 (by omega) h3)
        · exact h
      refine decide_eq_true ?_
      rw [pwV_pow _ (by omega), show (((p : Int) - 1) / 2).toNat = (p - 1) / 2 by omega]
      have hf := fermat (u := (u : Int)) hp (fun h => hu2 (Nat.mod_eq_zero_of_dvd (Int.ofNat_dvd.1 h)))
      rw [show p - 1 = 2 * ((p - 1) / 2) by omega, Int.pow_mul] at hf
      have hm : ∀ (x y : Int) (m : Nat), x % (p : Int) = y % (p : Int) → x ^ m % (p : Int) = y ^ m % (p : Int) := by
        intro x y m hxy
        induction m with
        | zero => rw [Int.pow_zero, Int.pow_zero]
        | succ m ih => rw [Int.pow_succ, Int.pow_succ, Int.mul_emod, ih, hxy, ← Int.mul_emod]
      rw [hm _ ((u : Int) ^ 2) _ ?_]
      · exact hf
      · rw [Int.pow_succ, Int.pow_succ, Int.pow_zero, Int.one_mul]
        have := congrArg (fun x : Nat => (x : Int)) hrp
        simpa using this
    · rw [if_neg h3]
      obtain rfl : p = 2 := by omega
      have hodd : u % 2 = 1 := by omega
      have h8 : u * u % 8 = 1 := by
        have : u % 8 = 1 ∨ u % 8 = 3 ∨ u % 8 = 5 ∨ u % 8 = 7 := by omega
        rw [Nat.mul_mod]
        rcases this with h | h | h | h <;> rw [h]
      refine decide_eq_true ?_
      have h9 : (u * u % 2 ^ (k - 2 * s)) % 2 ^ (min 3 (k - 2 * s)) = 1 := by
        rw [Nat.mod_mod_of_dvd _ (Nat.pow_dvd_pow 2 (Nat.min_le_right _ _)), ← Nat.mod_mod_of_dvd (u * u) (show 2 ^ min 3 (k - 2 * s) ∣ 8 from Nat.pow_dvd_pow 2 (n := 3) (Nat.min_le_left _ _)), h8]
        refine Nat.mod_eq_of_lt ?_
        have : 2 ^ 1 ≤ 2 ^ min 3 (k - 2 * s) := Nat.pow_le_pow_right (by omega) (by omega)
        omega
      have := congrArg (fun x : Nat => (x : Int)) h9
      simpa using this
  · exfalso
    have : p ^ k ∣ Y * Y := Nat.dvd_trans (Nat.pow_dvd_pow p hs) ⟨u * u, hYY⟩
    rw [Nat.mod_eq_zero_of_dvd this] at hy
    omega
end
section
open Go Go.RowKit Go.Lib

theorem sq_pos0 (x : Int) : 0 ≤ x * x := by
  rcases Int.le_total 0 x with h | h
  · exact Int.mul_nonneg h h
  · have := Int.mul_nonneg (show 0 ≤ -x by omega) (show 0 ≤ -x by omega)
    rwa [Int.neg_mul_neg] at this
theorem md_mul {x x' y y' N : Int} (h : x % N = x' % N) (k : y % N = y' % N) : x * y % N = x' * y' % N := by rw [Int.mul_emod, h, k, ← Int.mul_emod]
theorem md_add {x x' y y' N : Int} (h : x % N = x' % N) (k : y % N = y' % N) : (x + y) % N = (x' + y') % N := by rw [Int.add_emod, h, k, ← Int.add_emod]
theorem qv_cong {d a c m m' e e' N : Int} (h : m % N = m' % N) (k : e % N = e' % N) : qvV d a c m e % N = qvV d a c m' e' % N := by
  unfold qvV
  have hm := md_mul h h
  have he := md_mul k k
  exact md_add (md_add (md_mul (md_mul rfl hm) hm) (md_mul (md_mul rfl hm) he)) (md_mul (md_mul rfl he) he)
theorem qv_scale (d a c m e F : Int) : qvV d a c (m * F) (e * F) = qvV d a c m e * (F * F * (F * F)) := by unfold qvV; grind
theorem sq_at {p j : Nat} {V z : Int} (hp : PrN p) (h : V % ((p ^ j : Nat) : Int) = z * z % ((p ^ j : Nat) : Int)) : sqV (V % ((p ^ j : Nat) : Int)).toNat p j = true := by
  have hN : 0 < p ^ j := Nat.pow_pos (by have := hp.1; omega)
  have e : z * z = ((z.natAbs * z.natAbs : Nat) : Int) := by rw [Int.natCast_mul]; exact (Int.natAbs_mul_self' z).symm
  rw [h, e]
  have e2 : (((z.natAbs * z.natAbs : Nat) : Int) % ((p ^ j : Nat) : Int)).toNat = z.natAbs * z.natAbs % p ^ j := by rw [← Int.natCast_emod]; rfl
  rw [e2]
  exact sq_ok hp (Nat.mod_lt _ hN) rfl
theorem inv_I {p k : Nat} {e : Int} (hp : PrN p) (h : ¬ p ∣ e.natAbs) : ∃ F : Int, e * F % ((p ^ k : Nat) : Int) = 1 % ((p ^ k : Nat) : Int) := by
  have hN : 0 < p ^ k := Nat.pow_pos (by have := hp.1; omega)
  have hc : Nat.Coprime e.natAbs (p ^ k) := by
    refine Nat.Coprime.pow_right k ?_
    rcases hp.dvd_cases (Nat.gcd_dvd_left p e.natAbs) with h1 | h1
    · exact (show Nat.Coprime p e.natAbs from h1).symm
    · exact absurd (by rw [← h1]; exact Nat.gcd_dvd_right _ _) h
  obtain ⟨f, -, hf⟩ := inv_ex hN hc
  have hf2 : ((e.natAbs : Int) * (f : Int)) % ((p ^ k : Nat) : Int) = 1 % ((p ^ k : Nat) : Int) := by
    have := congrArg (fun x : Nat => (x : Int)) hf
    simpa using this
  rcases Int.le_total 0 e with h0 | h0
  · exact ⟨f, by rw [← hf2, show (e.natAbs : Int) = e by omega]⟩
  · exact ⟨-(f : Int), by rw [← hf2, show (e.natAbs : Int) = -e by omega]; congr 1; grind⟩
theorem pt_one {d a c m e n : Int} {p k : Nat} (hp : PrN p) (he : ¬ p ∣ e.natAbs) (hq : qvV d a c m e = n * n) : ∃ x : Nat, (∃ F : Int, (x : Int) = m * F % ((p ^ k : Nat) : Int)) ∧ Pth (fun x i => lpB d a c x 1 p i) p k x := by
  have hp2 := hp.1
  obtain ⟨F, hF⟩ := inv_I (k := k) hp he
  have hN : (0 : Int) < ((p ^ k : Nat) : Int) := by have := Nat.pow_pos (n := k) (show 0 < p by omega); omega
  have h1 := Int.emod_nonneg (m * F) (show ((p ^ k : Nat) : Int) ≠ 0 by omega)
  have h2 := Int.emod_lt_of_pos (m * F) hN
  have hx : (((m * F % ((p ^ k : Nat) : Int)).toNat : Nat) : Int) = m * F % ((p ^ k : Nat) : Int) := by omega
  generalize hX : (m * F % ((p ^ k : Nat) : Int)).toNat = x at *
  refine ⟨x, ⟨F, hx⟩, by omega, fun j hj1 hjk => ?_⟩
  have hdv : ((p ^ j : Nat) : Int) ∣ ((p ^ k : Nat) : Int) := Int.natCast_dvd_natCast.2 (Nat.pow_dvd_pow p hjk)
  have c1 : ((x % p ^ j : Nat) : Int) % ((p ^ j : Nat) : Int) = m * F % ((p ^ j : Nat) : Int) := by
    rw [Int.natCast_emod, Int.emod_emod_of_dvd _ (Int.dvd_refl _), hx, Int.emod_emod_of_dvd _ hdv]
  have c2 : ((1 : Nat) : Int) % ((p ^ j : Nat) : Int) = e * F % ((p ^ j : Nat) : Int) := by
    have := congrArg (fun z => z % ((p ^ j : Nat) : Int)) hF
    skip
    rw [Int.emod_emod_of_dvd _ hdv, Int.emod_emod_of_dvd _ hdv] at this
    exact this.symm
  show lpB d a c (x % p ^ j) 1 p j = true
  unfold lpB vqN vqV
  refine sq_at (z := n * (F * F)) hp ?_
  rw [qv_cong c1 c2, qv_scale, hq]
  congr 1; grind
theorem qv_swap (d a c m e : Int) : qvV d a c m e = qvV c a d e m := by unfold qvV; grind
theorem pt_two {d a c m e n : Int} {p k : Nat} (hp : PrN p) (hm : ¬ p ∣ m.natAbs) (hq : qvV d a c m e = n * n) : ∃ x : Nat, (∃ F : Int, (x : Int) = e * F % ((p ^ k : Nat) : Int)) ∧ Pth (fun x i => lpB d a c 1 x p i) p k x := by
  obtain ⟨x, h1, h2⟩ := pt_one (k := k) hp hm (by rw [qv_swap] at hq; exact hq)
  refine ⟨x, h1, h2.1, fun j hj hk => ?_⟩
  have := h2.2 j hj hk
  show lpB d a c 1 (x % p ^ j) p j = true
  have h3 : lpB c a d (x % p ^ j) 1 p j = true := this
  unfold lpB vqN vqV at h3 ⊢
  rw [qv_swap]; exact h3
theorem pos_of {d a c m e n : Int} {p k : Nat} (hp : PrN p) (hk : 1 ≤ k) (hc : Nat.gcd m.natAbs e.natAbs = 1) (hq : qvV d a c m e = n * n) : posB d a c p k = true := by
  have hp2 := hp.1
  unfold posB
  rw [Bool.or_eq_true, bsE_root hp2, bsE_iff hp2 _ _ _ (pw_pos hp2 1), Nat.pow_one, show 1 + (k - 1) = k by omega]
  by_cases he : p ∣ e.natAbs
  · have hm : ¬ p ∣ m.natAbs := fun h => by
      have := Nat.dvd_gcd h he
      rw [hc] at this
      have := Nat.le_of_dvd (by omega) this
      omega
    obtain ⟨x, ⟨F, hF⟩, hx⟩ := pt_two (k := k) hp hm hq
    refine .inr ⟨x, hx.1, ?_, fun j h7 _ h8 => hx.2 j h7 h8, rfl⟩
    have h1 : (p : Int) ∣ ((p ^ k : Nat) : Int) := Int.natCast_dvd_natCast.2 (Nat.dvd_trans (by rw [Nat.pow_one]; exact Nat.dvd_refl p) (Nat.pow_dvd_pow p hk))
    have h2 : (p : Int) ∣ e := Int.ofNat_dvd_left.2 he
    have h3 : (x : Int) % (p : Int) = 0 := by
      rw [hF, Int.emod_emod_of_dvd _ h1]
      exact Int.emod_eq_zero_of_dvd (Int.dvd_trans h2 (Int.dvd_mul_right _ _))
    omega
  · obtain ⟨x, -, hx⟩ := pt_one (k := k) hp he hq
    exact .inl ⟨x, hx, rfl⟩
theorem fdS_pos {pos lif : Nat → Bool} : ∀ (n k : Nat), (∀ j, k ≤ j → pos j = true) → (fdS pos lif n k).2 = true
  | 0, _, _ => rfl
  | n + 1, k, h => by
    cases hl : lif k
    · rw [fdS_on hl (h k (Nat.le_refl _))]; exact fdS_pos n (k + 1) (fun j hj => h j (by omega))
    · rw [fdS_yes hl]
theorem sol_of {d a c m e n : Int} {p : Nat} (hp : PrN p) (hc : Nat.gcd m.natAbs e.natAbs = 1) (hq : qvV d a c m e = n * n) (ht : (slV d a c p).2 = true) : (slV d a c p).1 = true := by
  have h := fdS_pos (pos := posB d a c p) (lif := lifB d a c p) (dpV p) 1 (fun j hj => pos_of hp hj hc hq)
  unfold slV at *
  dsimp only at *
  rw [show (fdV d a c p).2 = true from h] at ht
  simpa using ht
theorem real_of {d a c m e n : Int} (hd : d ≠ 0) (hcc : c ≠ 0) (hc : Nat.gcd m.natAbs e.natAbs = 1) (hq : qvV d a c m e = n * n) : rlV d a c = true := by
  have hX : 0 ≤ m * m := sq_pos0 m
  have hY : 0 ≤ e * e := sq_pos0 e
  have hZ : 0 ≤ n * n := sq_pos0 n
  have hXY : 0 < m * m ∨ 0 < e * e := by
    rcases Int.lt_or_le 0 (m * m) with h | h
    · exact .inl h
    · right
      have hm : m = 0 := by have h1 : m * m = 0 := by omega
                            rcases Int.mul_eq_zero.1 h1 with h | h <;> exact h
      subst hm
      have he : e.natAbs = 1 := by simpa using hc
      have := Int.natAbs_mul_self' e
      rw [he] at this
      omega
  unfold qvV at hq
  generalize m * m = X at *
  generalize e * e = Y at *
  generalize n * n = Z at *
  unfold rlV
  rw [Bool.or_eq_true, Bool.or_eq_true, Bool.and_eq_true, decide_eq_true_eq, decide_eq_true_eq, decide_eq_true_eq, decide_eq_true_eq]
  rcases Int.lt_or_le 0 d with h | h
  · exact .inl (.inl h)
  rcases Int.lt_or_le 0 c with h1 | h1
  · exact .inl (.inr h1)
  right
  have hdn : 0 < -d := by omega
  have hcn : 0 < -c := by omega
  have key : 0 < (-d) * X * X + (-c) * Y * Y := by
    rcases hXY with hx | hy
    · have h2 := Int.mul_pos (Int.mul_pos hdn hx) hx
      have h3 := Int.mul_nonneg (Int.mul_nonneg (Int.le_of_lt hcn) hY) hY
      omega
    · have h2 := Int.mul_nonneg (Int.mul_nonneg (Int.le_of_lt hdn) hX) hX
      have h3 := Int.mul_pos (Int.mul_pos hcn hy) hy
      omega
  have hsum : a * X * Y = Z + ((-d) * X * X + (-c) * Y * Y) := by grind
  have hXYn := Int.mul_nonneg hX hY
  have ha : 0 < a := by
    rcases Int.lt_or_le 0 a with h2 | h2
    · exact h2
    · have := Int.mul_nonneg (show 0 ≤ -a by omega) hXYn
      have e1 : -a * (X * Y) = -(a * X * Y) := by grind
      omega
  refine ⟨ha, ?_⟩
  rcases Int.lt_or_le (a * a) (4 * d * c) with h2 | h2
  · exfalso
    have hy : 0 < Y := by
      rcases Int.lt_or_le 0 Y with h3 | h3
      · exact h3
      · have : Y = 0 := by omega
        subst this
        simp at hsum key
        omega
    have h4 := Int.mul_pos (Int.mul_pos (show 0 < 4 * d * c - a * a by omega) hy) hy
    have h5 : 0 ≤ (2 * d * X + a * Y) * (2 * d * X + a * Y) := sq_pos0 _
    have h6 : (2 * d * X + a * Y) * (2 * d * X + a * Y) + (4 * d * c - a * a) * Y * Y = -(4 * (-d) * Z) := by grind
    have h7 := Int.mul_nonneg (show 0 ≤ 4 * (-d) by omega) hZ
    omega
  · exact h2
end
section
open Go Go.RowKit Go.Lib

/-! ### squares in the p-adic numbers -/
theorem inv_p {p : Nat} {e : Int} (L : Nat) (hp : PrN p) (h : ¬ (p : Int) ∣ e) : ∃ F : Int, (p : Int) ^ L ∣ e * F - 1 := by
  obtain ⟨F, hF⟩ := inv_I (k := L) hp (e := e) (fun h1 => h (Int.ofNat_dvd_left.2 h1))
  refine ⟨F, ?_⟩
  have h1 := Int.dvd_of_emod_eq_zero (Int.emod_eq_emod_iff_emod_sub_eq_zero.1 hF)
  rwa [Int.natCast_pow] at h1
theorem pw_dvd {p : Int} {i j : Nat} (h : i ≤ j) : p ^ i ∣ p ^ j := ⟨p ^ (j - i), by rw [← Int.pow_add]; congr 1; omega⟩
theorem pw_ne {p : Nat} (hp : PrN p) (k : Nat) : (p : Int) ^ k ≠ 0 := Int.pow_ne_zero (by have := hp.1; omega)
/-- p ^ v takes all that p divides of x. -/
theorem val_ex {p : Nat} (hp : PrN p) {x : Int} (hx : x ≠ 0) : ∃ (v : Nat) (s : Int), x = (p : Int) ^ v * s ∧ ¬ (p : Int) ∣ s := by
  have hp2 := hp.1
  suffices H : ∀ (n : Nat) (x : Int), x ≠ 0 → x.natAbs ≤ n → ∃ (v : Nat) (s : Int), x = (p : Int) ^ v * s ∧ ¬ (p : Int) ∣ s from H _ x hx (Nat.le_refl _)
  intro n
  induction n with
  | zero => intro x hx h; omega
  | succ n ih =>
    intro x hx h
    by_cases hd : (p : Int) ∣ x
    · obtain ⟨y, rfl⟩ := hd
      have hy : y ≠ 0 := by rintro rfl; simp at hx
      have hl : y.natAbs ≤ n := by
        rw [Int.natAbs_mul, Int.natAbs_natCast] at h
        have := Nat.mul_le_mul_right y.natAbs hp2
        omega
      obtain ⟨v, s, h1, h2⟩ := ih y hy hl
      exact ⟨v + 1, s, by rw [h1, Int.pow_succ]; grind, h2⟩
    · exact ⟨0, x, by rw [Int.pow_zero, Int.one_mul], hd⟩
theorem pw_cancel {p : Nat} (hp : PrN p) {i j : Nat} {x : Int} (h : (p : Int) ^ (i + j) ∣ (p : Int) ^ i * x) : (p : Int) ^ j ∣ x := by
  obtain ⟨t, ht⟩ := h
  rw [Int.pow_add, Int.mul_assoc] at ht
  exact ⟨t, Int.eq_of_mul_eq_mul_left (pw_ne hp i) ht⟩
theorem unit_cancel {p : Nat} (hp : PrN p) {u : Int} (hu : ¬ (p : Int) ∣ u) : ∀ {L : Nat} {x : Int}, (p : Int) ^ L ∣ u * x → (p : Int) ^ L ∣ x := by
  intro L x h
  obtain ⟨F, k, hk⟩ := inv_p L hp hu
  obtain ⟨t, ht⟩ := h
  exact ⟨F * t - k * x, by
    have : x = F * (u * x) - (u * F - 1) * x := by grind
    rw [this, ht, hk]; grind⟩
/-- p ^ v exactly: at most v of the powers of p in a product come from x. -/
theorem val_cancel {p : Nat} (hp : PrN p) {v : Nat} {s x : Int} (hs : ¬ (p : Int) ∣ s) {L : Nat} (h : (p : Int) ^ (v + L) ∣ (p : Int) ^ v * s * x) : (p : Int) ^ L ∣ x := by
  rw [Int.mul_assoc] at h
  exact unit_cancel hp hs (pw_cancel hp h)
theorem pow_sq_dvd {p : Nat} (hp : PrN p) {n : Int} : ∀ {v : Nat}, (p : Int) ^ (2 * v) ∣ n * n → (p : Int) ^ v ∣ n := by
  intro v h
  by_cases hn : n = 0
  · subst hn; exact Int.dvd_zero _
  obtain ⟨w, s, rfl, hs⟩ := val_ex hp hn
  rcases Nat.lt_or_ge w v with hw | hw
  · exfalso
    have h1 : (p : Int) ^ (w + (w + 1)) ∣ (p : Int) ^ w * s * ((p : Int) ^ w * s) := Int.dvd_trans (pw_dvd (by omega)) h
    have h2 : (p : Int) ^ (w + 1) ∣ (p : Int) ^ w * s := val_cancel hp hs h1
    have h3 := pw_cancel hp h2
    rw [Int.pow_succ, Int.pow_zero, Int.one_mul] at h3
    exact hs h3
  · exact Int.dvd_trans (pw_dvd hw) (Int.dvd_mul_right _ _)
/-- A square in the p-adic numbers. -/
def PSq (p : Nat) (F : Int) : Prop := ∀ L : Nat, ∃ n : Int, (p : Int) ^ L ∣ n * n - F
theorem PSq.sq (p : Nat) (n : Int) : PSq p (n * n) := fun _ => ⟨n, by rw [Int.sub_self]; exact Int.dvd_zero _⟩
theorem PSq.mul {p : Nat} {x y : Int} (h : PSq p x) (k : PSq p y) : PSq p (x * y) := fun L => by
  obtain ⟨n, u, hu⟩ := h L
  obtain ⟨m, v, hv⟩ := k L
  refine ⟨n * m, u * (m * m) + x * v, ?_⟩
  have : n * m * (n * m) - x * y = (n * n - x) * (m * m) + x * (m * m - y) := by grind
  rw [this, hu, hv]; grind
theorem PSq.div {p : Nat} (hp : PrN p) {x s : Int} (hs : s ≠ 0) (h : PSq p (x * (s * s))) : PSq p x := fun L => by
  obtain ⟨v, t, rfl, ht⟩ := val_ex hp hs
  obtain ⟨n, hn⟩ := h (2 * v + L)
  have e : x * ((p : Int) ^ v * t * ((p : Int) ^ v * t)) = (p : Int) ^ (2 * v) * (x * (t * t)) := by
    rw [show 2 * v = v + v by omega, Int.pow_add]; grind
  rw [e] at hn
  have h1 : (p : Int) ^ (2 * v) ∣ n * n := by
    have h2 := Int.dvd_trans (pw_dvd (show 2 * v ≤ 2 * v + L by omega)) hn
    have h3 := Int.dvd_add h2 (Int.dvd_mul_right ((p : Int) ^ (2 * v)) (x * (t * t)))
    rwa [Int.sub_add_cancel] at h3
  obtain ⟨m, rfl⟩ := pow_sq_dvd hp h1
  have e2 : (p : Int) ^ v * m * ((p : Int) ^ v * m) - (p : Int) ^ (2 * v) * (x * (t * t)) = (p : Int) ^ (2 * v) * (m * m - x * (t * t)) := by
    rw [show 2 * v = v + v by omega, Int.pow_add]; grind
  rw [e2] at hn
  have h4 := pw_cancel hp hn
  obtain ⟨F, hF⟩ := inv_p L hp ht
  refine ⟨m * F, ?_⟩
  obtain ⟨a, ha⟩ := h4
  obtain ⟨b, hb⟩ := hF
  refine ⟨a * (F * F) + x * b * (t * F + 1), ?_⟩
  have : m * F * (m * F) - x = (m * m - x * (t * t)) * (F * F) + x * ((t * F - 1) * (t * F + 1)) := by grind
  rw [this, ha, hb]; grind
/-! ### Newton's steps -/
/-- A polynomial and its derivative. -/
structure Pol2 (G D : Int → Int) : Prop where
  g : ∀ x h, ∃ r, G (x + h) = G x + D x * h + h * h * r
  d : ∀ x h, ∃ s, D (x + h) = D x + h * s
theorem newton {p : Nat} (hp : PrN p) {G D : Int → Int} (hG : Pol2 G D) {x0 s0 : Int} {w k : Nat} (hk : 2 * w + 1 ≤ k) (h0 : (p : Int) ^ k ∣ G x0) (hD : D x0 = (p : Int) ^ w * s0) (hs : ¬ (p : Int) ∣ s0) :
    ∀ L, k ≤ L → ∃ x, (p : Int) ^ (k - w) ∣ x - x0 ∧ (p : Int) ^ L ∣ G x := by
  intro L hL
  obtain ⟨i, rfl⟩ : ∃ i, L = k + i := ⟨L - k, by omega⟩
  clear hL
  induction i with
  | zero => exact ⟨x0, by rw [Int.sub_self]; exact Int.dvd_zero _, h0⟩
  | succ i ih =>
    have hL : k ≤ k + i := by omega
    rw [show k + (i + 1) = k + i + 1 by omega]
    generalize k + i = L at *
    obtain ⟨x, ⟨y, hy⟩, q, hq⟩ := ih
    have hx : x = x0 + (p : Int) ^ (k - w) * y := by omega
    obtain ⟨s1, hs1⟩ := hG.d x0 ((p : Int) ^ (k - w) * y)
    rw [← hx, hD] at hs1
    have hs2 : D x = (p : Int) ^ w * (s0 + (p : Int) ^ (k - w - w) * (y * s1)) := by
      rw [hs1, show k - w = w + (k - w - w) by omega, Int.pow_add, show w + (k - w - w) - w = k - w - w by omega]; grind
    generalize hs3 : s0 + (p : Int) ^ (k - w - w) * (y * s1) = s at hs2
    have hsn : ¬ (p : Int) ∣ s := fun h => by
      have h1 : (p : Int) ∣ (p : Int) ^ (k - w - w) * (y * s1) := Int.dvd_trans (by have := pw_dvd (p := (p : Int)) (show 1 ≤ k - w - w by omega); rwa [Int.pow_succ, Int.pow_zero, Int.one_mul] at this) (Int.dvd_mul_right _ _)
      have h2 := Int.dvd_sub h h1
      rw [← hs3, Int.add_sub_cancel] at h2
      exact hs h2
    obtain ⟨F, hF⟩ := inv_p 1 hp hsn
    rw [Int.pow_succ, Int.pow_zero, Int.one_mul] at hF
    obtain ⟨r, hr⟩ := hG.g x ((p : Int) ^ (L - w) * (-(F * q)))
    refine ⟨x + (p : Int) ^ (L - w) * (-(F * q)), ?_, ?_⟩
    · have h1 : x + (p : Int) ^ (L - w) * (-(F * q)) - x0 = (x - x0) + (p : Int) ^ (L - w) * (-(F * q)) := by omega
      rw [h1]
      exact Int.dvd_add ⟨y, hy⟩ (Int.dvd_trans (pw_dvd (by omega)) (Int.dvd_mul_right _ _))
    · rw [hr, hq, hs2]
      have e1 : (p : Int) ^ L = (p : Int) ^ w * (p : Int) ^ (L - w) := by rw [← Int.pow_add]; congr 1; omega
      have e2 : (p : Int) ^ (L - w) * (-(F * q)) * ((p : Int) ^ (L - w) * (-(F * q))) * r = (p : Int) ^ (L + 1) * ((p : Int) ^ (L - w - w - 1) * (F * q * (F * q) * r)) := by
        have : (p : Int) ^ (L - w) * (p : Int) ^ (L - w) = (p : Int) ^ (L + 1) * (p : Int) ^ (L - w - w - 1) := by
          rw [← Int.pow_add, ← Int.pow_add]; congr 1; omega
        grind
      rw [e2]
      refine Int.dvd_add ?_ (Int.dvd_mul_right _ _)
      have e3 : (p : Int) ^ L * q + (p : Int) ^ w * s * ((p : Int) ^ (L - w) * (-(F * q))) = (p : Int) ^ L * (-(q * (s * F - 1))) := by rw [e1]; grind
      rw [e3, Int.pow_succ]
      obtain ⟨b, hb⟩ := hF
      exact ⟨-(q * b), by rw [hb]; grind⟩
theorem pol_sq (u : Int) : Pol2 (fun x => x * x - u) (fun x => 2 * x) := ⟨fun x h => ⟨1, by grind⟩, fun x h => ⟨2, by grind⟩⟩
theorem PSq.ext {p : Nat} {u : Int} {k : Nat} (h : ∀ L, k ≤ L → ∃ n : Int, (p : Int) ^ L ∣ n * n - u) : PSq p u := fun L => by
  obtain ⟨n, hn⟩ := h (max k L) (Nat.le_max_left _ _)
  exact ⟨n, Int.dvd_trans (pw_dvd (Nat.le_max_right _ _)) hn⟩
theorem psq_odd {p : Nat} (hp : PrN p) (h2 : 2 < p) {u x : Int} (hu : ¬ (p : Int) ∣ u) (h : (p : Int) ∣ x * x - u) : PSq p u := by
  refine PSq.ext (k := 1) (fun L hL => ?_)
  have hx : ¬ (p : Int) ∣ x := fun h1 => hu (by
    have := Int.dvd_sub (Int.dvd_trans h1 (Int.dvd_mul_right x x)) h
    rwa [show x * x - (x * x - u) = u by omega] at this)
  obtain ⟨y, -, hy⟩ := newton hp (pol_sq u) (x0 := x) (s0 := 2 * x) (w := 0) (k := 1) (by omega) (by rw [Int.pow_succ, Int.pow_zero, Int.one_mul]; exact h) (by rw [Int.pow_zero, Int.one_mul]) (fun h1 => by
    rcases hp.euclidI h1 with h3 | h3
    · have := Int.le_of_dvd (by omega) h3; omega
    · exact hx h3) L hL
  exact ⟨y, hy⟩
theorem psq_two {u : Int} (hp : PrN 2) (h : (8 : Int) ∣ u - 1) : PSq 2 u := by
  refine PSq.ext (k := 3) (fun L hL => ?_)
  obtain ⟨y, -, hy⟩ := newton hp (pol_sq u) (x0 := 1) (s0 := 1) (w := 1) (k := 3) (by omega) (by show (2 : Int) ^ 3 ∣ 1 * 1 - u; omega) (by rfl) (by omega) L hL
  exact ⟨y, hy⟩
/-! ### Euler's criterion -/
def PolF : Nat → (Int → Int) → Prop
  | 0, f => ∀ x, f x = 0
  | n + 1, f => ∀ a, ∃ q, PolF n q ∧ ∀ x, f x = f a + (x - a) * q x
theorem PolF.ext : ∀ {n : Nat} {f g : Int → Int}, PolF n f → (∀ x, f x = g x) → PolF n g
  | 0, _, _, h, e => fun x => by rw [← e]; exact h x
  | n + 1, f, g, h, e => fun a => by
    obtain ⟨q, hq, k⟩ := h a
    exact ⟨q, hq, fun x => by rw [← e, ← e]; exact k x⟩
theorem PolF.zero : ∀ n, PolF n (fun _ => 0)
  | 0 => fun _ => rfl
  | n + 1 => fun a => ⟨fun _ => 0, PolF.zero n, fun x => by rw [Int.mul_zero]; rfl⟩
theorem PolF.add : ∀ {n : Nat} {f g : Int → Int}, PolF n f → PolF n g → PolF n (fun x => f x + g x)
  | 0, _, _, h, k => fun x => by dsimp only; rw [h x, k x]; rfl
  | n + 1, f, g, h, k => fun a => by
    obtain ⟨q, hq, e⟩ := h a
    obtain ⟨r, hr, e'⟩ := k a
    exact ⟨_, PolF.add hq hr, fun x => by dsimp only; rw [e x, e' x]; grind⟩
theorem PolF.smul (c : Int) : ∀ {n : Nat} {f : Int → Int}, PolF n f → PolF n (fun x => c * f x)
  | 0, _, h => fun x => by dsimp only; rw [h x, Int.mul_zero]
  | n + 1, f, h => fun a => by
    obtain ⟨q, hq, e⟩ := h a
    exact ⟨_, PolF.smul c hq, fun x => by dsimp only; rw [e x]; grind⟩
theorem PolF.up : ∀ {n : Nat} {f : Int → Int}, PolF n f → PolF (n + 1) f
  | 0, f, h => fun a => ⟨fun _ => 0, fun _ => rfl, fun x => by rw [h x, h a, Int.mul_zero]; rfl⟩
  | n + 1, f, h => fun a => by
    obtain ⟨q, hq, e⟩ := h a
    exact ⟨q, PolF.up hq, e⟩
theorem PolF.mulX : ∀ {n : Nat} {f : Int → Int}, PolF n f → PolF (n + 1) (fun x => x * f x)
  | 0, f, h => fun a => ⟨fun _ => 0, fun _ => rfl, fun x => by dsimp only; rw [h x, h a, Int.mul_zero, Int.mul_zero, Int.mul_zero]; rfl⟩
  | n + 1, f, h => fun a => by
    obtain ⟨q, hq, e⟩ := h a
    refine ⟨fun x => f x + a * q x, PolF.add h (PolF.up (PolF.smul a hq)), fun x => ?_⟩
    have := e x
    show x * f x = a * f a + (x - a) * (f x + a * q x)
    rw [this]; grind
theorem PolF.pow : ∀ n, PolF (n + 1) (fun x => x ^ n)
  | 0 => fun a => ⟨fun _ => 0, fun _ => rfl, fun x => by dsimp only; rw [Int.pow_zero, Int.pow_zero, Int.mul_zero]; rfl⟩
  | n + 1 => (PolF.mulX (PolF.pow n)).ext (fun x => by rw [Int.pow_succ, Int.mul_comm])
theorem PolF.const (c : Int) : ∀ n, PolF (n + 1) (fun _ => c)
  | n => fun a => ⟨fun _ => 0, PolF.zero n, fun x => by rw [Int.mul_zero, Int.add_zero]⟩
theorem roots {p : Nat} (hp : PrN p) : ∀ {n : Nat} {f : Int → Int} {l : List Int}, PolF n f → l.length = n → l.Pairwise (fun x y => ¬ (p : Int) ∣ y - x) → (∀ x ∈ l, (p : Int) ∣ f x) → ∀ x, (p : Int) ∣ f x
  | 0, f, _, h, _, _, _ => fun x => by rw [h x]; exact Int.dvd_zero _
  | n + 1, f, [], _, hl, _, _ => by simp at hl
  | n + 1, f, a :: l, h, hl, hn, hr => fun x => by
    obtain ⟨q, hq, e⟩ := h a
    obtain ⟨h1, h2⟩ := List.pairwise_cons.1 hn
    have h3 := hr a (List.mem_cons_self ..)
    have h4 := roots hp hq (by simpa using hl) h2 (fun b hb => by
      have h5 := hr b (List.mem_cons_of_mem _ hb)
      rw [e b] at h5
      have h6 := Int.dvd_sub h5 h3
      rw [show f a + (b - a) * q b - f a = (b - a) * q b by omega] at h6
      rcases hp.euclidI h6 with h7 | h7
      · exact absurd h7 (h1 b hb)
      · exact h7)
    rw [e x]
    exact Int.dvd_add h3 (Int.dvd_trans (h4 x) (Int.dvd_mul_left _ _))
theorem euler {p : Nat} (hp : PrN p) (h2 : 2 < p) {u : Int} (hu : ¬ (p : Int) ∣ u) (h : (p : Int) ∣ u ^ ((p - 1) / 2) - 1) : ∃ x : Int, (p : Int) ∣ x * x - u := by
  have hodd : p % 2 = 1 := by
    rcases Nat.mod_two_eq_zero_or_one p with h | h
    · exact absurd (Nat.dvd_of_mod_eq_zero h) (hp.2 2 (by omega) h2)
    · exact h
  refine Classical.byContradiction (fun hno => ?_)
  have hno : ∀ x : Int, ¬ (p : Int) ∣ x * x - u := fun x hx => hno ⟨x, hx⟩
  have hnd : ∀ z : Int, 1 ≤ z → z < p → ¬ (p : Int) ∣ z := fun z h1 h2 h3 => by have := Int.le_of_dvd (by omega) h3; omega
  obtain ⟨n, hn⟩ : ∃ n, (p - 1) / 2 = n := ⟨_, rfl⟩
  rw [hn] at h
  have hf := roots hp (n := n + 1) (f := fun x => x ^ n + -1) (l := u :: (List.range n).map (fun (i : Nat) => ((i : Int) + 1) * ((i : Int) + 1)))
    (PolF.add (PolF.pow n) (PolF.const (-1) n)) (by simp) ?_ ?_ 0
  · have e : ((0 : Int) ^ n + -1) = -1 := by rw [Int.zero_pow (by omega)]; rfl
    have h3 : (p : Int) ∣ -1 := by rw [← e]; exact hf
    have := Int.le_of_dvd (by omega) (Int.dvd_neg.1 h3)
    omega
  · rw [List.pairwise_cons]
    constructor
    · intro y hy
      obtain ⟨i, hi, rfl⟩ := List.mem_map.1 hy
      exact hno _
    · rw [List.pairwise_map]
      refine List.pairwise_lt_range.imp_of_mem (fun {i j} hi hj hij hd => ?_)
      rw [List.mem_range] at hi hj
      rw [show ((j : Int) + 1) * ((j : Int) + 1) - ((i : Int) + 1) * ((i : Int) + 1) = ((j : Int) - i) * ((j : Int) + i + 2) by grind] at hd
      rcases hp.euclidI hd with h3 | h3
      · exact hnd _ (by omega) (by omega) h3
      · exact hnd _ (by omega) (by omega) h3
  · intro x hx
    show (p : Int) ∣ x ^ n + -1
    rcases List.mem_cons.1 hx with rfl | hx
    · exact h
    · obtain ⟨i, hi, rfl⟩ := List.mem_map.1 hx
      rw [List.mem_range] at hi
      have h3 := fermat hp (hnd ((i : Int) + 1) (by omega) (by omega))
      rw [show p - 1 = 2 * n by omega, Int.pow_mul, Int.pow_succ, Int.pow_succ, Int.pow_zero, Int.one_mul] at h3
      have h4 := Int.dvd_of_emod_eq_zero (Int.emod_eq_emod_iff_emod_sub_eq_zero.1 (h3.trans (Int.emod_eq_of_lt (show (0 : Int) ≤ 1 by omega) (by omega)).symm))
      exact h4
/-! ### the sum of two points of quartics -/
theorem idX (X1 Y1 X2 Y2 A B : Int) : (X1*X1 + A*X1*Y1 + B*Y1*Y1) * (X2*X2+A*X2*Y2+B*Y2*Y2) * ((X1*Y2-X2*Y1)*(X1*Y2-X2*Y1)) + X1*X2*Y1*Y2*((A*(X1*Y2+X2*Y1)+2*B*Y1*Y2+2*X1*X2)*(A*(X1*Y2+X2*Y1)+2*B*Y1*Y2+2*X1*X2)) - (X1*Y1*(X2*X2+A*X2*Y2+B*Y2*Y2)+X2*Y2*(X1*X1 + A*X1*Y1 + B*Y1*Y1))*(X1*Y1*(X2*X2+A*X2*Y2+B*Y2*Y2)+X2*Y2*(X1*X1 + A*X1*Y1 + B*Y1*Y1)) - A*(X1*Y1*(X2*X2+A*X2*Y2+B*Y2*Y2)+X2*Y2*(X1*X1 + A*X1*Y1 + B*Y1*Y1))*((X1*Y2-X2*Y1)*(X1*Y2-X2*Y1)) - B*((X1*Y2-X2*Y1)*(X1*Y2-X2*Y1))*((X1*Y2-X2*Y1)*(X1*Y2-X2*Y1)) = 0 := by grind
theorem idK (X1 Y1 X2 Y2 A B : Int) : 2 * ((X1*Y1*(X2*X2+A*X2*Y2+B*Y2*Y2)+X2*Y2*(X1*X1 + A*X1*Y1 + B*Y1*Y1))) - (X1*Y2+X2*Y1) * (A*(X1*Y2+X2*Y1)+2*B*Y1*Y2+2*X1*X2) + A * ((X1*Y2-X2*Y1)*(X1*Y2-X2*Y1)) = 0 := by grind
theorem zz1 (S W E V x1 x2 A B g1 g2 k P t1 t2 : Int) :
    (g1 + P * t1) * (g2 + P * t2) * (S * S) - 2 * k * S * W + V * (W * W) - (x1 * (g2 + P * t2) + x2 * (g1 + P * t1)) * (x1 * (g2 + P * t2) + x2 * (g1 + P * t1)) + 4 * k * (x1 * (g2 + P * t2) + x2 * (g1 + P * t1)) - 4 * (g1 + P * t1) * (g2 + P * t2) * V - A * (x1 * (g2 + P * t2) + x2 * (g1 + P * t1)) * E + 2 * A * k * E - B * E * E
    = (g1 * g2 * (S * S) + V * (W * W) - (x1 * g2 + x2 * g1) * (x1 * g2 + x2 * g1) - 4 * g1 * g2 * V - A * (x1 * g2 + x2 * g1) * E - B * E * E) + 2 * k * (2 * (x1 * g2 + x2 * g1) - S * W + A * E)
      + P * ((t1 * (g2 + P * t2) + g1 * t2) * (S * S) - (x1 * t2 + x2 * t1) * (2 * (x1 * g2 + x2 * g1) + P * (x1 * t2 + x2 * t1)) + 4 * k * (x1 * t2 + x2 * t1) - 4 * (t1 * (g2 + P * t2) + g1 * t2) * V - A * (x1 * t2 + x2 * t1) * E) := by grind
theorem zz2 {d1 d2 m1 m2 e1 e2 n1 n2 a b S W E u : Int} (hu : u = m1 * e1 * n2 - m2 * e2 * n1) :
    d1 * d2 * ((n1 * n2 * S - m1 * m2 * e1 * e2 * W) * (n1 * n2 * S - m1 * m2 * e1 * e2 * W)) - (d1 * d2 * (d1 * d2) * (u * u) * (u * u) + d1 * d2 * a * (u * u) * E + b * E * E)
    = d1 * (n1 * n1) * (d2 * (n2 * n2)) * (S * S) - 2 * (d1 * d2 * (n1 * n2) * (m1 * m2 * e1 * e2)) * S * W + (d1 * (m1 * m1) * (e1 * e1)) * (d2 * (m2 * m2) * (e2 * e2)) * (W * W) - ((d1 * (m1 * m1) * (e1 * e1)) * (d2 * (n2 * n2)) + (d2 * (m2 * m2) * (e2 * e2)) * (d1 * (n1 * n1))) * ((d1 * (m1 * m1) * (e1 * e1)) * (d2 * (n2 * n2)) + (d2 * (m2 * m2) * (e2 * e2)) * (d1 * (n1 * n1))) + 4 * (d1 * d2 * (n1 * n2) * (m1 * m2 * e1 * e2)) * ((d1 * (m1 * m1) * (e1 * e1)) * (d2 * (n2 * n2)) + (d2 * (m2 * m2) * (e2 * e2)) * (d1 * (n1 * n1))) - 4 * (d1 * (n1 * n1)) * (d2 * (n2 * n2)) * ((d1 * (m1 * m1) * (e1 * e1)) * (d2 * (m2 * m2) * (e2 * e2))) - a * ((d1 * (m1 * m1) * (e1 * e1)) * (d2 * (n2 * n2)) + (d2 * (m2 * m2) * (e2 * e2)) * (d1 * (n1 * n1))) * E + 2 * a * (d1 * d2 * (n1 * n2) * (m1 * m2 * e1 * e2)) * E - b * E * E := by subst hu; grind
theorem qv_sum {d1 d2 a b c1 c2 m1 e1 n1 m2 e2 n2 P u E : Int} (h1 : d1 * c1 = b) (h2 : d2 * c2 = b) (k1 : P ∣ n1 * n1 - qvV d1 a c1 m1 e1) (k2 : P ∣ n2 * n2 - qvV d2 a c2 m2 e2)
    (hu : u = m1 * e1 * n2 - m2 * e2 * n1) (hE : E = d1 * (m1 * m1) * (e2 * e2) - d2 * (m2 * m2) * (e1 * e1)) :
    ∃ N : Int, P ∣ d1 * d2 * (N * N) - (d1 * d2 * (d1 * d2) * (u * u) * (u * u) + d1 * d2 * a * (u * u) * (E * E) + b * (E * E) * (E * E)) := by
  obtain ⟨t1, k1⟩ := k1
  obtain ⟨t2, k2⟩ := k2
  have a1 : d1 * (n1 * n1) = (d1 * (m1 * m1)) * (d1 * (m1 * m1)) + a * (d1 * (m1 * m1)) * (e1 * e1) + b * (e1 * e1) * (e1 * e1) + P * (d1 * t1) := by
    have : n1 * n1 = qvV d1 a c1 m1 e1 + P * t1 := by omega
    rw [this, ← h1]; unfold qvV; grind
  have a2 : d2 * (n2 * n2) = (d2 * (m2 * m2)) * (d2 * (m2 * m2)) + a * (d2 * (m2 * m2)) * (e2 * e2) + b * (e2 * e2) * (e2 * e2) + P * (d2 * t2) := by
    have : n2 * n2 = qvV d2 a c2 m2 e2 + P * t2 := by omega
    rw [this, ← h2]; unfold qvV; grind
  refine ⟨n1 * n2 * (d1 * (m1 * m1) * (e2 * e2) + d2 * (m2 * m2) * (e1 * e1)) - m1 * m2 * e1 * e2 * (a * (d1 * (m1 * m1) * (e2 * e2) + d2 * (m2 * m2) * (e1 * e1)) + 2 * b * (e1 * e1) * (e2 * e2) + 2 * (d1 * (m1 * m1)) * (d2 * (m2 * m2))), ?_⟩
  rw [zz2 hu, a1, a2]
  generalize hk : d1 * d2 * (n1 * n2) * (m1 * m2 * e1 * e2) = k
  clear hk a1 a2 h1 h2 hu
  generalize d1 * (m1 * m1) = X1 at *
  generalize d2 * (m2 * m2) = X2 at *
  generalize e1 * e1 = Y1 at *
  generalize e2 * e2 = Y2 at *
  rw [zz1]
  have i1 := idX X1 Y1 X2 Y2 a b
  have i2 := idK X1 Y1 X2 Y2 a b
  rw [← hE] at i1 i2
  rw [i2, Int.mul_zero, Int.add_zero]
  refine Int.dvd_add ?_ (Int.dvd_mul_right _ _)
  refine ⟨0, ?_⟩
  rw [Int.mul_zero, ← i1]
  have e0 : (X1 * Y2 + X2 * Y1) * (X1 * Y2 + X2 * Y1) = E * E + 4 * (X1 * Y1 * (X2 * Y2)) := by rw [hE]; grind
  generalize X1 * X1 + a * X1 * Y1 + b * Y1 * Y1 = G1 at *
  generalize X2 * X2 + a * X2 * Y2 + b * Y2 * Y2 = G2 at *
  rw [e0]
  generalize (a * (X1 * Y2 + X2 * Y1) + 2 * b * Y1 * Y2 + 2 * X1 * X2) = W at *
  grind
theorem low_terms {p : Nat} (hp : PrN p) : ∀ (ε : Nat) (M E : Int), ¬ (p : Int) ^ (ε + 1) ∣ E → ∃ (v : Nat) (m e : Int), v ≤ ε ∧ M = (p : Int) ^ v * m ∧ E = (p : Int) ^ v * e ∧ ¬ ((p : Int) ∣ m ∧ (p : Int) ∣ e)
  | 0, M, E, h => ⟨0, M, E, Nat.le_refl _, by rw [Int.pow_zero, Int.one_mul], by rw [Int.pow_zero, Int.one_mul], fun h1 => h (by rw [Int.pow_succ, Int.pow_zero, Int.one_mul]; exact h1.2)⟩
  | ε + 1, M, E, h => by
    by_cases h1 : (p : Int) ∣ M ∧ (p : Int) ∣ E
    · obtain ⟨⟨m, rfl⟩, ⟨e, rfl⟩⟩ := h1
      obtain ⟨v, m', e', h2, h3, h4, h5⟩ := low_terms hp ε m e (fun h2 => h (by
        rw [Int.pow_succ, Int.mul_comm]; exact Int.mul_dvd_mul_left _ h2))
      exact ⟨v + 1, m', e', by omega, by rw [h3, Int.pow_succ]; grind, by rw [h4, Int.pow_succ]; grind, h5⟩
    · exact ⟨0, M, E, Nat.zero_le _, by rw [Int.pow_zero, Int.one_mul], by rw [Int.pow_zero, Int.one_mul], h1⟩
theorem val_not {p : Nat} (hp : PrN p) {v : Nat} {s : Int} (hs : ¬ (p : Int) ∣ s) : ¬ (p : Int) ^ (v + 1) ∣ (p : Int) ^ v * s := fun h => by
  have := pw_cancel hp h
  rw [Int.pow_succ, Int.pow_zero, Int.one_mul] at this
  exact hs this
/-- What is wanted of a class at a prime: a pair that is possible modulo every power. -/
def Loc (p : Nat) (d a c : Int) : Prop := ∀ K : Nat, ∃ m e n : Int, ¬ ((p : Int) ∣ m ∧ (p : Int) ∣ e) ∧ (p : Int) ^ K ∣ n * n - qvV d a c m e
theorem Loc.one {p : Nat} (hp : PrN p) {d a c : Int} (h : PSq p d) : Loc p d a c := fun K => by
  obtain ⟨n, hn⟩ := h K
  refine ⟨1, 0, n, fun h1 => ?_, by unfold qvV; simpa using hn⟩
  have := Int.le_of_dvd (by omega) h1.1
  have := hp.1
  omega
theorem loc_ne {p : Nat} (hp : PrN p) {d1 d2 d3 g a b c1 c2 c3 m1 e1 m2 e2 : Int} (hd1 : d1 ≠ 0) (hd2 : d2 ≠ 0) (h1 : d1 * c1 = b) (h2 : d2 * c2 = b) (h3 : d3 * c3 = b) (hg : d3 * (g * g) = d1 * d2)
    (s1 : PSq p (qvV d1 a c1 m1 e1)) (s2 : PSq p (qvV d2 a c2 m2 e2)) (hE : d1 * (m1 * m1) * (e2 * e2) - d2 * (m2 * m2) * (e1 * e1) ≠ 0) : Loc p d3 a c3 := by
  intro K
  obtain ⟨ε, sE, hEv, hsE⟩ := val_ex hp hE
  obtain ⟨δ, sd, hdv, hsd⟩ := val_ex hp (Int.mul_ne_zero hd1 hd2)
  obtain ⟨n1, k1⟩ := s1 (δ + (4 * ε + K))
  obtain ⟨n2, k2⟩ := s2 (δ + (4 * ε + K))
  obtain ⟨N, hN⟩ := qv_sum h1 h2 k1 k2 rfl rfl
  generalize m1 * e1 * n2 - m2 * e2 * n1 = u at hN
  generalize d1 * (m1 * m1) * (e2 * e2) - d2 * (m2 * m2) * (e1 * e1) = E at *
  have hN2 : (p : Int) ^ (δ + (4 * ε + K)) ∣ (p : Int) ^ δ * sd * (g * N * (g * N) - qvV d3 a c3 (g * u) E) := by
    rw [← hdv]
    have e : d1 * d2 * (g * N * (g * N) - qvV d3 a c3 (g * u) E) = (d1 * d2 * (N * N) - (d1 * d2 * (d1 * d2) * (u * u) * (u * u) + d1 * d2 * a * (u * u) * (E * E) + b * (E * E) * (E * E))) * (g * g) := by
      unfold qvV
      rw [← h3, ← hg]; grind
    rw [e]
    exact Int.dvd_trans hN (Int.dvd_mul_right _ _)
  have hN3 := val_cancel hp hsd hN2
  obtain ⟨v, m, e, hv, hm, he, hme⟩ := low_terms hp ε (g * u) E (by rw [hEv]; exact val_not hp hsE)
  generalize g * N = Z at hN3
  rw [hm, he] at hN3
  have e1 : qvV d3 a c3 ((p : Int) ^ v * m) ((p : Int) ^ v * e) = (p : Int) ^ (2 * (2 * v)) * qvV d3 a c3 m e := by
    rw [show 2 * (2 * v) = v + v + (v + v) by omega, Int.pow_add, Int.pow_add]; unfold qvV; grind
  rw [e1] at hN3
  have h4 : (p : Int) ^ (2 * (2 * v)) ∣ Z * Z := by
    have h5 := Int.dvd_trans (pw_dvd (show 2 * (2 * v) ≤ 4 * ε + K by omega)) hN3
    have h6 := Int.dvd_add h5 (Int.dvd_mul_right ((p : Int) ^ (2 * (2 * v))) (qvV d3 a c3 m e))
    rwa [Int.sub_add_cancel] at h6
  obtain ⟨n, rfl⟩ := pow_sq_dvd hp h4
  refine ⟨m, e, n, hme, ?_⟩
  have e2 : (p : Int) ^ (2 * v) * n * ((p : Int) ^ (2 * v) * n) - (p : Int) ^ (2 * (2 * v)) * qvV d3 a c3 m e = (p : Int) ^ (2 * (2 * v)) * (n * n - qvV d3 a c3 m e) := by
    rw [show 2 * (2 * v) = 2 * v + 2 * v by omega, Int.pow_add]; grind
  rw [e2] at hN3
  exact pw_cancel hp (Int.dvd_trans (pw_dvd (show 2 * (2 * v) + K ≤ 4 * ε + K by omega)) hN3)
/-- Two classes with points at p: their product has one. -/
theorem loc_sum {p : Nat} (hp : PrN p) {d1 d2 d3 g a b c1 c2 c3 m1 e1 m2 e2 : Int} (hb : b ≠ 0) (h1 : d1 * c1 = b) (h2 : d2 * c2 = b) (h3 : d3 * c3 = b) (hg : d3 * (g * g) = d1 * d2)
    (z1 : m1 ≠ 0 ∨ e1 ≠ 0) (z2 : m2 ≠ 0 ∨ e2 ≠ 0) (s1 : PSq p (qvV d1 a c1 m1 e1)) (s2 : PSq p (qvV d2 a c2 m2 e2)) : Loc p d3 a c3 := by
  have hd1 : d1 ≠ 0 := by rintro rfl; rw [Int.zero_mul] at h1; exact hb h1.symm
  have hd2 : d2 ≠ 0 := by rintro rfl; rw [Int.zero_mul] at h2; exact hb h2.symm
  have hd3 : d3 ≠ 0 := by rintro rfl; rw [Int.zero_mul] at h3; exact hb h3.symm
  have hc3 : c3 ≠ 0 := by rintro rfl; rw [Int.mul_zero] at h3; exact hb h3.symm
  have hg0 : g ≠ 0 := by
    rintro rfl
    rw [Int.mul_zero, Int.mul_zero] at hg
    exact Int.mul_ne_zero hd1 hd2 hg.symm
  by_cases hE : d1 * (m1 * m1) * (e2 * e2) - d2 * (m2 * m2) * (e1 * e1) = 0
  · refine Loc.one hp ?_
    by_cases hme : m1 = 0 ∨ e2 = 0
    · have hme2 : m2 = 0 ∨ e1 = 0 := by
        have h5 : d2 * (m2 * m2) * (e1 * e1) = 0 := by
          rcases hme with rfl | rfl <;> simp at hE <;> grind
        rcases Int.mul_eq_zero.1 h5 with h6 | h6
        · rcases Int.mul_eq_zero.1 h6 with h7 | h7
          · exact absurd h7 hd2
          · rcases Int.mul_eq_zero.1 h7 with h | h <;> exact .inl h
        · rcases Int.mul_eq_zero.1 h6 with h | h <;> exact .inr h
      by_cases hm1 : m1 = 0
      · have he1 : e1 ≠ 0 := by rcases z1 with h | h; exact absurd hm1 h; exact h
        have hm2 : m2 = 0 := by rcases hme2 with h | h; exact h; exact absurd h he1
        have he2 : e2 ≠ 0 := by rcases z2 with h | h; exact absurd hm2 h; exact h
        subst hm1 hm2
        refine PSq.div hp (s := c3 * (e1 * e1) * (e2 * e2)) (Int.mul_ne_zero (Int.mul_ne_zero hc3 (Int.mul_ne_zero he1 he1)) (Int.mul_ne_zero he2 he2)) ?_
        have e : d3 * (c3 * (e1 * e1) * (e2 * e2) * (c3 * (e1 * e1) * (e2 * e2))) = qvV d1 a c1 0 e1 * qvV d2 a c2 0 e2 * (g * g) := by
          have : c1 * c2 * (g * g) = d3 * (c3 * c3) := by
            refine Int.eq_of_mul_eq_mul_left (a := d3) hd3 ?_
            have : d3 * (c1 * c2 * (g * g)) = (d1 * c1) * (d2 * c2) := by
              rw [show d3 * (c1 * c2 * (g * g)) = d3 * (g * g) * (c1 * c2) by grind, hg]; grind
            rw [this, h1, h2, show d3 * (d3 * (c3 * c3)) = (d3 * c3) * (d3 * c3) by grind, h3]
          unfold qvV
          rw [show (d1 * (0 * 0) * (0 * 0) + a * (0 * 0) * (e1 * e1) + c1 * (e1 * e1) * (e1 * e1)) * (d2 * (0 * 0) * (0 * 0) + a * (0 * 0) * (e2 * e2) + c2 * (e2 * e2) * (e2 * e2)) * (g * g) = c1 * c2 * (g * g) * ((e1 * e1) * (e1 * e1) * ((e2 * e2) * (e2 * e2))) by grind, this]; grind
        rw [e]
        exact (s1.mul s2).mul (PSq.sq p g)
      · have he2 : e2 = 0 := by rcases hme with h | h; exact absurd h hm1; exact h
        have hm2 : m2 ≠ 0 := by rcases z2 with h | h; exact h; exact absurd he2 h
        have he1 : e1 = 0 := by rcases hme2 with h | h; exact absurd h hm2; exact h
        subst he1 he2
        refine PSq.div hp (s := g * (m1 * m1) * (m2 * m2)) (Int.mul_ne_zero (Int.mul_ne_zero hg0 (Int.mul_ne_zero hm1 hm1)) (Int.mul_ne_zero hm2 hm2)) ?_
        have e : d3 * (g * (m1 * m1) * (m2 * m2) * (g * (m1 * m1) * (m2 * m2))) = qvV d1 a c1 m1 0 * qvV d2 a c2 m2 0 := by
          rw [show d3 * (g * (m1 * m1) * (m2 * m2) * (g * (m1 * m1) * (m2 * m2))) = d3 * (g * g) * ((m1 * m1) * (m1 * m1) * ((m2 * m2) * (m2 * m2))) by grind, hg]
          unfold qvV; grind
        rw [e]
        exact s1.mul s2
    · have hm1 : m1 ≠ 0 := fun h => hme (.inl h)
      have he2 : e2 ≠ 0 := fun h => hme (.inr h)
      refine PSq.div hp (s := g * (m1 * e2)) (Int.mul_ne_zero hg0 (Int.mul_ne_zero hm1 he2)) ?_
      have e : d3 * (g * (m1 * e2) * (g * (m1 * e2))) = (d2 * m2 * e1) * (d2 * m2 * e1) := by
        rw [show d3 * (g * (m1 * e2) * (g * (m1 * e2))) = d3 * (g * g) * (m1 * m1 * (e2 * e2)) by grind, hg]
        rw [show d1 * d2 * (m1 * m1 * (e2 * e2)) = d2 * (d1 * (m1 * m1) * (e2 * e2)) by grind, show d1 * (m1 * m1) * (e2 * e2) = d2 * (m2 * m2) * (e1 * e1) by omega]; grind
      rw [e]
      exact PSq.sq p _
  · exact loc_ne hp hd1 hd2 h1 h2 h3 hg s1 s2 hE
end
section
open Go Go.RowKit Go.Lib

theorem pw_cast (p k : Nat) : ((p ^ k : Nat) : Int) = (p : Int) ^ k := Int.natCast_pow p k
theorem prn_two {p : Nat} (hp : PrN p) (h : ¬ 2 < p) : p = 2 := by have := hp.1; omega
structure UqS (n p k : Nat) : Prop where
  odd : 2 < p → ∃ x : Int, (p : Int) ∣ x * x - (rsN n p : Int)
  two : p = 2 → rsN n p % 2 ^ min 3 (k - vlN n p) = 1
theorem uq_s {p n k : Nat} (hp : PrN p) (hn : 0 < n) (h : uqV n p k = true) : UqS n p k := by
  obtain ⟨-, h2, -, -⟩ := rsN_spec hp.1 hn
  unfold uqV at h
  constructor
  · intro h3
    rw [if_pos h3, decide_eq_true_eq, pwV_pow _ (by omega), show (((p : Int) - 1) / 2).toNat = (p - 1) / 2 by omega] at h
    refine euler hp h3 (fun h4 => h2 (Nat.mod_eq_zero_of_dvd (Int.ofNat_dvd.1 h4))) ?_
    exact Int.dvd_of_emod_eq_zero (Int.emod_eq_emod_iff_emod_sub_eq_zero.1 (h.trans (Int.emod_eq_of_lt (show (0 : Int) ≤ 1 by omega) (by omega)).symm))
  · intro h3
    rw [if_neg (by omega), decide_eq_true_eq] at h
    rw [← Int.natCast_emod] at h
    omega
/-- A unit that is near a square of a unit is a square. -/
theorem near_sq {p : Nat} (hp : PrN p) {x u : Int} (hx : ¬ (p : Int) ∣ x) (h : (p : Int) ^ 3 ∣ x * x - u) : PSq p u := by
  by_cases h2 : 2 < p
  · have h1 : (p : Int) ∣ x * x - u := Int.dvd_trans (by have := pw_dvd (p := (p : Int)) (show 1 ≤ 3 by omega); rwa [Int.pow_succ, Int.pow_zero, Int.one_mul] at this) h
    refine psq_odd hp h2 (fun hu => ?_) h1
    have := Int.dvd_add h1 hu
    rw [Int.sub_add_cancel] at this
    rcases hp.euclidI this with h3 | h3 <;> exact hx h3
  · obtain rfl := prn_two hp h2
    refine psq_two hp ?_
    have h8 : (8 : Int) ∣ x * x - u := h
    have hodd : x % 2 = 1 := by omega
    have : x * x % 8 = 1 := by
      have h5 : x % 8 = 1 ∨ x % 8 = 3 ∨ x % 8 = 5 ∨ x % 8 = 7 := by omega
      rw [Int.mul_emod]
      rcases h5 with h | h | h | h <;> rw [h] <;> rfl
    omega
theorem unit_sq {p : Nat} (_hp : PrN p) {u : Int} (hu : ¬ (p : Int) ∣ u) (h : PSq p u) (L : Nat) : ∃ n : Int, n ≠ 0 ∧ (p : Int) ^ L ∣ n * n - u := by
  obtain ⟨n, hn⟩ := h (L + 1)
  refine ⟨n, ?_, Int.dvd_trans (pw_dvd (by omega)) hn⟩
  rintro rfl
  have h1 := Int.dvd_trans (pw_dvd (show 1 ≤ L + 1 by omega)) hn
  rw [Int.pow_succ, Int.pow_zero, Int.one_mul] at h1
  exact hu (by rw [show (0 : Int) * 0 - u = -u by omega] at h1; exact Int.dvd_neg.1 h1)
theorem sq_ex {p k V : Nat} (hp : PrN p) (hV : V < p ^ k) (h : sqV V p k = true) : ∃ n : Int, n ≠ 0 ∧ (p : Int) ^ k ∣ n * n - (V : Int) := by
  have hp2 := hp.1
  unfold sqV at h
  by_cases h0 : V = 0
  · subst h0
    exact ⟨(p : Int) ^ k, pw_ne hp k, by rw [show (p : Int) ^ k * (p : Int) ^ k - ((0 : Nat) : Int) = (p : Int) ^ k * (p : Int) ^ k by omega]; exact Int.dvd_mul_right _ _⟩
  rw [if_neg h0] at h
  by_cases hev : vlN V p % 2 = 1
  · rw [if_pos hev] at h; exact Bool.noConfusion h
  rw [if_neg hev] at h
  have hvk := vl_lt hp2 (by omega) hV
  obtain ⟨h1, h2, h3, -⟩ := rsN_spec hp2 (n := V) (by omega)
  have U := uq_s hp (by omega) h
  obtain ⟨s, hs⟩ : ∃ s, vlN V p = 2 * s := ⟨vlN V p / 2, by omega⟩
  obtain ⟨U1, U2⟩ := U
  generalize rsN V p = r at *
  generalize vlN V p = v at *
  subst hs
  have hru : ¬ (p : Int) ∣ (r : Int) := fun h4 => h2 (Nat.mod_eq_zero_of_dvd (Int.ofNat_dvd.1 h4))
  suffices H : ∃ n0 : Int, n0 ≠ 0 ∧ (p : Int) ^ (k - 2 * s) ∣ n0 * n0 - (r : Int) by
    obtain ⟨n0, h4, t, ht⟩ := H
    refine ⟨(p : Int) ^ s * n0, Int.mul_ne_zero (pw_ne hp s) h4, t, ?_⟩
    rw [h1, Int.natCast_mul, pw_cast, show k = s + s + (k - 2 * s) by omega, Int.pow_add, Int.pow_add, show s + s + (k - 2 * s) - 2 * s = k - 2 * s by omega, show 2 * s = s + s by omega, Int.pow_add] at *
    have : n0 * n0 = (p : Int) ^ (k - (s + s)) * t + r := by omega
    grind
  by_cases h3p : 2 < p
  · obtain ⟨x, hx⟩ := U1 h3p
    exact unit_sq hp hru (psq_odd hp h3p hru hx) _
  · obtain rfl := prn_two hp h3p
    have U3 := U2 rfl
    by_cases h4 : 3 ≤ k - 2 * s
    · rw [show min 3 (k - 2 * s) = 3 by omega] at U3
      exact unit_sq hp hru (psq_two hp (by omega)) _
    · refine ⟨1, by decide, ?_⟩
      rw [show min 3 (k - 2 * s) = k - 2 * s by omega] at U3
      have h5 : k - 2 * s = 1 ∨ k - 2 * s = 2 := by omega
      rcases h5 with h5 | h5 <;> rw [h5] at U3 ⊢
      · show (2 : Int) ^ 1 ∣ _; omega
      · show (2 : Int) ^ 2 ∣ _; omega
theorem psq_val {p k V : Nat} {q : Int} (hp : PrN p) (hV : V < p ^ k) (h : sqV V p k = true) (hq : q % ((p ^ k : Nat) : Int) = (V : Int)) (h0 : V ≠ 0) (hk : vlN V p + 2 * (if p = 2 then 1 else 0) + 1 ≤ k) : PSq p q := by
  have hp2 := hp.1
  unfold sqV at h
  rw [if_neg h0] at h
  by_cases hev : vlN V p % 2 = 1
  · rw [if_pos hev] at h; exact Bool.noConfusion h
  rw [if_neg hev] at h
  obtain ⟨h1, h2, h3, -⟩ := rsN_spec hp2 (n := V) (by omega)
  have U := uq_s hp (by omega) h
  obtain ⟨s, hs⟩ : ∃ s, vlN V p = 2 * s := ⟨vlN V p / 2, by omega⟩
  obtain ⟨U1, U2⟩ := U
  generalize rsN V p = r at *
  generalize vlN V p = v at *
  subst hs
  have hru : ¬ (p : Int) ∣ (r : Int) := fun h4 => h2 (Nat.mod_eq_zero_of_dvd (Int.ofNat_dvd.1 h4))
  have hdm := Int.mul_ediv_add_emod q ((p ^ k : Nat) : Int)
  rw [hq] at hdm
  generalize q / ((p ^ k : Nat) : Int) = t at hdm
  have hqe : q = (p : Int) ^ s * (p : Int) ^ s * ((r : Int) + (p : Int) ^ (k - 2 * s) * t) := by
    rw [← hdm, pw_cast]
    have e1 : (p : Int) ^ k = (p : Int) ^ s * (p : Int) ^ s * (p : Int) ^ (k - 2 * s) := by rw [← Int.pow_add, ← Int.pow_add]; congr 1; omega
    have e2 : (V : Int) = (p : Int) ^ s * (p : Int) ^ s * (r : Int) := by
      rw [← Int.pow_add, show s + s = 2 * s by omega, ← pw_cast, ← Int.natCast_mul, ← h1]
    rw [e1, e2]; grind
  rw [hqe]
  refine (PSq.sq p _).mul ?_
  have hpp : (p : Int) ∣ (p : Int) ^ (k - 2 * s) * t := Int.dvd_trans (by have := pw_dvd (p := (p : Int)) (show 1 ≤ k - 2 * s by omega); rwa [Int.pow_succ, Int.pow_zero, Int.one_mul] at this) (Int.dvd_mul_right _ _)
  by_cases h3p : 2 < p
  · obtain ⟨x, hx⟩ := U1 h3p
    refine psq_odd hp h3p (x := x) (fun h5 => hru ?_) ?_
    · have := Int.dvd_sub h5 hpp
      rwa [Int.add_sub_cancel] at this
    · have := Int.dvd_sub hx hpp
      rwa [Int.sub_sub] at this
  · obtain rfl := prn_two hp h3p
    have U3 := U2 rfl
    rw [if_pos rfl] at hk
    rw [show min 3 (k - 2 * s) = 3 by omega] at U3
    refine psq_two hp ?_
    have h8 : (8 : Int) ∣ ((2 : Nat) : Int) ^ (k - 2 * s) * t := Int.dvd_trans (pw_dvd (p := ((2 : Nat) : Int)) (show 3 ≤ k - 2 * s by omega)) (Int.dvd_mul_right _ _)
    generalize ((2 : Nat) : Int) ^ (k - 2 * s) * t = z at *
    omega
theorem pol_q (d a c e n : Int) : Pol2 (fun x => qvV d a c x e - n * n) (fun x => 4 * (d * x * x * x) + 2 * (a * x * e * e)) :=
  ⟨fun x h => ⟨d * (6 * (x * x) + 4 * x * h + h * h) + a * (e * e), by unfold qvV; grind⟩, fun x h => ⟨4 * d * (3 * (x * x) + 3 * x * h + h * h) + 2 * a * e * e, by grind⟩⟩
theorem newt {p : Nat} (hp : PrN p) {d a c m e n s : Int} {w k : Nat} (hn : n ≠ 0) (hq : (p : Int) ^ k ∣ n * n - qvV d a c m e) (hD : 4 * (d * m * m * m) + 2 * (a * m * e * e) = (p : Int) ^ w * s) (hs : ¬ (p : Int) ∣ s) (hk : 2 * w + 1 ≤ k) (hnz : ¬ ((p : Int) ∣ m ∧ (p : Int) ∣ e)) :
    ∃ M : Int, (M ≠ 0 ∨ e ≠ 0) ∧ PSq p (qvV d a c M e) := by
  obtain ⟨v, n', rfl, hn'⟩ := val_ex hp hn
  have h0 : (p : Int) ^ k ∣ qvV d a c m e - (p : Int) ^ v * n' * ((p : Int) ^ v * n') := by
    have := Int.dvd_neg.2 hq
    rwa [Int.neg_sub] at this
  obtain ⟨x, hx, t, ht⟩ := newton hp (pol_q d a c e ((p : Int) ^ v * n')) (x0 := m) hk h0 hD hs (k + (2 * v + 3)) (by omega)
  refine ⟨x, ?_, ?_⟩
  · by_cases he : e = 0
    · left
      rintro rfl
      refine hnz ⟨?_, by rw [he]; exact Int.dvd_zero _⟩
      have h1 := Int.dvd_trans (pw_dvd (show 1 ≤ k - w by omega)) hx
      rw [Int.pow_succ, Int.pow_zero, Int.one_mul, show (0 : Int) - m = -m by omega] at h1
      exact Int.dvd_neg.1 h1
    · exact .inr he
  · have e1 : qvV d a c x e = (p : Int) ^ v * (p : Int) ^ v * (n' * n' + (p : Int) ^ 3 * ((p : Int) ^ k * t)) := by
      have : qvV d a c x e = (p : Int) ^ v * n' * ((p : Int) ^ v * n') + (p : Int) ^ (k + (2 * v + 3)) * t := by omega
      rw [this, show k + (2 * v + 3) = v + v + 3 + k by omega, Int.pow_add, Int.pow_add, Int.pow_add]; grind
    rw [e1]
    refine (PSq.sq p _).mul (near_sq hp hn' ⟨-((p : Int) ^ k * t), by grind⟩)
/-- The power of p in a number, read off its residue. -/
theorem val_res {p k M : Nat} {D : Int} (hp : PrN p) (_hM : M < p ^ k) (h : D % ((p ^ k : Nat) : Int) = (M : Int)) {w : Nat} (hw : ofV M p k = w) (hk : w < k) : ∃ s : Int, D = (p : Int) ^ w * s ∧ ¬ (p : Int) ∣ s := by
  have hp2 := hp.1
  unfold ofV at hw
  by_cases h0 : M = 0
  · rw [if_pos h0] at hw; omega
  rw [if_neg h0] at hw
  obtain ⟨h1, h2, h3, -⟩ := rsN_spec hp2 (n := M) (by omega)
  rw [hw] at h1
  generalize rsN M p = r at *
  have hdm := Int.mul_ediv_add_emod D ((p ^ k : Nat) : Int)
  rw [h] at hdm
  generalize D / ((p ^ k : Nat) : Int) = t at hdm
  refine ⟨(r : Int) + (p : Int) ^ (k - w) * t, ?_, fun h5 => h2 (Nat.mod_eq_zero_of_dvd (Int.ofNat_dvd.1 ?_))⟩
  · rw [← hdm, h1, pw_cast, Int.natCast_mul, pw_cast, show k = w + (k - w) by omega, Int.pow_add, show w + (k - w) - w = k - w by omega]; grind
  · have hpp : (p : Int) ∣ (p : Int) ^ (k - w) * t := Int.dvd_trans (by have := pw_dvd (p := (p : Int)) (show 1 ≤ k - w by omega); rwa [Int.pow_succ, Int.pow_zero, Int.one_mul] at this) (Int.dvd_mul_right _ _)
    have := Int.dvd_sub h5 hpp
    rwa [Int.add_sub_cancel] at this
theorem cong_dvd {p k V : Nat} {q n : Int} (hq : q % ((p ^ k : Nat) : Int) = (V : Int)) (h : (p : Int) ^ k ∣ n * n - (V : Int)) : (p : Int) ^ k ∣ n * n - q := by
  have hdm := Int.mul_ediv_add_emod q ((p ^ k : Nat) : Int)
  rw [hq, pw_cast] at hdm
  obtain ⟨t, ht⟩ := h
  exact ⟨t - q / (p : Int) ^ k, by rw [Int.mul_sub, ← ht]; omega⟩
/-- A pair that lifts gives a point. -/
theorem lift_ex {p : Nat} (hp : PrN p) {d a c : Int} {m e k : Nat} (hnz : ¬ ((p : Int) ∣ (m : Int) ∧ (p : Int) ∣ (e : Int))) (h1 : lpB d a c m e p k = true) (h2 : llB d a c m e p k = true) :
    ∃ M E : Int, (M ≠ 0 ∨ E ≠ 0) ∧ PSq p (qvV d a c M E) := by
  have hp2 := hp.1
  obtain ⟨f1, f2, f3, f4, f5, f6⟩ := LF.of d a c m e k hp2
  unfold lpB at h1
  unfold llB at h2
  rw [decide_eq_true_eq] at h2
  generalize vqN d a c m e p k = V at *
  generalize bmN d a m e p k = X at *
  generalize beN a c m e p k = Y at *
  unfold vqV at f1
  unfold bmV at f2
  unfold beV at f3
  have hself : ((m : Int) ≠ 0 ∨ (e : Int) ≠ 0) := by
    by_cases h3 : (m : Int) = 0
    · right; intro h4; exact hnz ⟨by rw [h3]; exact Int.dvd_zero _, by rw [h4]; exact Int.dvd_zero _⟩
    · exact .inl h3
  have hby : ∀ w, 2 * w + 1 ≤ k → (w = ofV X p k ∨ w = ofV Y p k) → ∃ M E : Int, (M ≠ 0 ∨ E ≠ 0) ∧ PSq p (qvV d a c M E) := by
    intro w hw hxy
    obtain ⟨n, hn0, hn⟩ := sq_ex hp f4 h1
    have hn := cong_dvd f1 hn
    rcases hxy with hx | hy
    · obtain ⟨s, hs1, hs2⟩ := val_res hp f5 f2 hx.symm (by omega)
      obtain ⟨M, h5, h6⟩ := newt hp hn0 hn hs1 hs2 hw hnz
      exact ⟨M, e, h5, h6⟩
    · obtain ⟨s, hs1, hs2⟩ := val_res hp f6 f3 hy.symm (by omega)
      rw [qv_swap] at hn
      obtain ⟨M, h5, h6⟩ := newt hp hn0 hn (by rw [← hs1]; grind) hs2 hw (fun h => hnz ⟨h.2, h.1⟩)
      exact ⟨m, M, h5.symm, by rw [qv_swap]; exact h6⟩
  unfold lwV at h2
  by_cases hj : ofV V p k < k
  · rw [if_pos hj] at h2
    by_cases hjj : ofV V p k / 2 + (if p = 2 then 1 else 0) ≤ min (ofV X p k) (ofV Y p k)
    · have h0 : V ≠ 0 := fun h => by unfold ofV at hj; rw [if_pos h] at hj; omega
      rw [Nat.min_eq_right hjj] at h2
      have hv : ofV V p k = vlN V p := by unfold ofV; rw [if_neg h0]
      rw [hv] at h2
      have hev : vlN V p % 2 = 0 := by
        unfold sqV at h1
        rw [if_neg h0] at h1
        by_cases h5 : vlN V p % 2 = 1
        · rw [if_pos h5] at h1; exact Bool.noConfusion h1
        · omega
      exact ⟨m, e, hself, psq_val hp f4 h1 f1 h0 (by omega)⟩
    · rcases Nat.le_total (ofV X p k) (ofV Y p k) with h5 | h5
      · exact hby (ofV X p k) (by omega) (.inl rfl)
      · exact hby (ofV Y p k) (by omega) (.inr rfl)
  · rw [if_neg hj] at h2
    rcases Nat.le_total (ofV X p k) (ofV Y p k) with h5 | h5
    · exact hby (ofV X p k) (by omega) (.inl rfl)
    · exact hby (ofV Y p k) (by omega) (.inr rfl)
theorem lif_ex {p : Nat} (hp : PrN p) {d a c : Int} {k : Nat} (hk : 1 ≤ k) (h : lifB d a c p k = true) : ∃ M E : Int, (M ≠ 0 ∨ E ≠ 0) ∧ PSq p (qvV d a c M E) := by
  have hp2 := hp.1
  have h1n : ¬ (p : Int) ∣ ((1 : Nat) : Int) := fun h => by have := Int.le_of_dvd (by omega) h; omega
  unfold lifB at h
  rw [Bool.or_eq_true, bsE_root hp2, bsE_iff hp2 _ _ _ (pw_pos hp2 1), show 1 + (k - 1) = k by omega] at h
  rcases h with ⟨y, ⟨h1, h2⟩, h3⟩ | ⟨y, h1, -, h2, h3⟩
  · have := h2 k hk (Nat.le_refl _)
    rw [Nat.mod_eq_of_lt h1] at this
    exact lift_ex hp (fun h => h1n h.2) this h3
  · have := h2 k hk hk (Nat.le_refl _)
    rw [Nat.mod_eq_of_lt h1] at this
    exact lift_ex hp (fun h => h1n h.1) this h3
theorem fdS_ex {pos lif : Nat → Bool} : ∀ (n k : Nat), (fdS pos lif n k).1 = true → ∃ j, k ≤ j ∧ lif j = true
  | 0, _, h => Bool.noConfusion h
  | n + 1, k, h => by
    cases hl : lif k
    · cases hq : pos k
      · rw [fdS_no hl hq] at h; exact Bool.noConfusion h
      · rw [fdS_on hl hq] at h
        obtain ⟨j, h1, h2⟩ := fdS_ex n (k + 1) h
        exact ⟨j, by omega, h2⟩
    · exact ⟨k, Nat.le_refl _, hl⟩
/-- What is told as soluble has a point. -/
theorem sol_pt {p : Nat} (hp : PrN p) {d a c : Int} (h : (slV d a c p).1 = true) : ∃ M E : Int, (M ≠ 0 ∨ E ≠ 0) ∧ PSq p (qvV d a c M E) := by
  obtain ⟨k, h1, h2⟩ := fdS_ex _ _ (show (fdS (posB d a c p) (lifB d a c p) (dpV p) 1).1 = true from h)
  exact lif_ex hp h1 h2
/-! ### a pair modulo every power is possible at every level -/
theorem pt_oneL {d a c m e n : Int} {p k : Nat} (hp : PrN p) (he : ¬ (p : Int) ∣ e) (hq : (p : Int) ^ k ∣ n * n - qvV d a c m e) : ∃ x : Nat, (∃ F : Int, (x : Int) = m * F % ((p ^ k : Nat) : Int)) ∧ Pth (fun x i => lpB d a c x 1 p i) p k x := by
  have hp2 := hp.1
  obtain ⟨F, hF⟩ := inv_I (k := k) hp (e := e) (fun h1 => he (Int.ofNat_dvd_left.2 h1))
  have hN : (0 : Int) < ((p ^ k : Nat) : Int) := by have := Nat.pow_pos (n := k) (show 0 < p by omega); omega
  have h1 := Int.emod_nonneg (m * F) (show ((p ^ k : Nat) : Int) ≠ 0 by omega)
  have h2 := Int.emod_lt_of_pos (m * F) hN
  have hx : (((m * F % ((p ^ k : Nat) : Int)).toNat : Nat) : Int) = m * F % ((p ^ k : Nat) : Int) := by omega
  generalize hX : (m * F % ((p ^ k : Nat) : Int)).toNat = x at *
  refine ⟨x, ⟨F, hx⟩, by omega, fun j hj1 hjk => ?_⟩
  have hdv : ((p ^ j : Nat) : Int) ∣ ((p ^ k : Nat) : Int) := Int.natCast_dvd_natCast.2 (Nat.pow_dvd_pow p hjk)
  have c1 : ((x % p ^ j : Nat) : Int) % ((p ^ j : Nat) : Int) = m * F % ((p ^ j : Nat) : Int) := by
    rw [Int.natCast_emod, Int.emod_emod_of_dvd _ (Int.dvd_refl _), hx, Int.emod_emod_of_dvd _ hdv]
  have c2 : ((1 : Nat) : Int) % ((p ^ j : Nat) : Int) = e * F % ((p ^ j : Nat) : Int) := by
    have := congrArg (fun z => z % ((p ^ j : Nat) : Int)) hF
    skip
    rw [Int.emod_emod_of_dvd _ hdv, Int.emod_emod_of_dvd _ hdv] at this
    exact this.symm
  show lpB d a c (x % p ^ j) 1 p j = true
  unfold lpB vqN vqV
  refine sq_at (z := n * (F * F)) hp ?_
  rw [qv_cong c1 c2, qv_scale]
  have h5 : ((p ^ j : Nat) : Int) ∣ n * n - qvV d a c m e := by rw [pw_cast]; exact Int.dvd_trans (pw_dvd hjk) hq
  have h6 : n * n % ((p ^ j : Nat) : Int) = qvV d a c m e % ((p ^ j : Nat) : Int) := Int.emod_eq_emod_iff_emod_sub_eq_zero.2 (Int.emod_eq_zero_of_dvd h5)
  rw [show n * (F * F) * (n * (F * F)) = n * n * (F * F * (F * F)) by grind]
  exact md_mul h6.symm rfl
theorem pt_twoL {d a c m e n : Int} {p k : Nat} (hp : PrN p) (hm : ¬ (p : Int) ∣ m) (hq : (p : Int) ^ k ∣ n * n - qvV d a c m e) : ∃ x : Nat, (∃ F : Int, (x : Int) = e * F % ((p ^ k : Nat) : Int)) ∧ Pth (fun x i => lpB d a c 1 x p i) p k x := by
  obtain ⟨x, h1, h2⟩ := pt_oneL (k := k) hp hm (by rw [qv_swap] at hq; exact hq)
  refine ⟨x, h1, h2.1, fun j hj hk => ?_⟩
  have := h2.2 j hj hk
  show lpB d a c 1 (x % p ^ j) p j = true
  have h3 : lpB c a d (x % p ^ j) 1 p j = true := this
  unfold lpB vqN vqV at h3 ⊢
  rw [qv_swap]; exact h3
theorem pos_ofL {d a c : Int} {p k : Nat} (hp : PrN p) (hk : 1 ≤ k) (h : Loc p d a c) : posB d a c p k = true := by
  have hp2 := hp.1
  obtain ⟨m, e, n, hnz, hq⟩ := h k
  unfold posB
  rw [Bool.or_eq_true, bsE_root hp2, bsE_iff hp2 _ _ _ (pw_pos hp2 1), Nat.pow_one, show 1 + (k - 1) = k by omega]
  by_cases he : (p : Int) ∣ e
  · have hm : ¬ (p : Int) ∣ m := fun h => hnz ⟨h, he⟩
    obtain ⟨x, ⟨F, hF⟩, hx⟩ := pt_twoL (k := k) hp hm hq
    refine .inr ⟨x, hx.1, ?_, fun j h7 _ h8 => hx.2 j h7 h8, rfl⟩
    have h1 : (p : Int) ∣ ((p ^ k : Nat) : Int) := Int.natCast_dvd_natCast.2 (Nat.dvd_trans (by rw [Nat.pow_one]; exact Nat.dvd_refl p) (Nat.pow_dvd_pow p hk))
    have h3 : (x : Int) % (p : Int) = 0 := by
      rw [hF, Int.emod_emod_of_dvd _ h1]
      exact Int.emod_eq_zero_of_dvd (Int.dvd_trans he (Int.dvd_mul_right _ _))
    omega
  · obtain ⟨x, -, hx⟩ := pt_oneL (k := k) hp he hq
    exact .inl ⟨x, hx, rfl⟩
theorem sol_ofL {d a c : Int} {p : Nat} (hp : PrN p) (h : Loc p d a c) (ht : (slV d a c p).2 = true) : (slV d a c p).1 = true := by
  have h := fdS_pos (pos := posB d a c p) (lif := lifB d a c p) (dpV p) 1 (fun j hj => pos_ofL hp hj h)
  unfold slV at *
  dsimp only at *
  rw [show (fdV d a c p).2 = true from h] at ht
  simpa using ht
end
section
open Go Go.RowKit Go.Lib

theorem sqf_nat : ∀ (n b : Nat), 0 < n → (∀ q, 2 ≤ q → ¬ q * q ∣ n) → (∀ p, PrN p → p ∣ n → p ∣ b) → n ∣ b := by
  intro n
  induction n using Nat.strongRecOn with
  | ind n ih =>
    intro b h0 hs hp
    rcases Nat.lt_or_ge n 2 with h1 | h1
    · rw [show n = 1 by omega]; exact Nat.one_dvd b
    · obtain ⟨p, hpr, m, rfl⟩ := prn_ex n h1
      have hp2 := hpr.1
      have hm0 : 0 < m := Nat.pos_of_ne_zero (by rintro rfl; simp at h0)
      have hpm : ¬ p ∣ m := fun ⟨t, ht⟩ => hs p hp2 ⟨t, by rw [ht]; grind⟩
      have h2 := ih m (by have := Nat.mul_le_mul_right m hp2; omega) b hm0 (fun q hq hd => hs q hq (Nat.dvd_trans hd (Nat.dvd_mul_left _ _))) (fun q hq hd => hp q hq (Nat.dvd_trans hd (Nat.dvd_mul_left _ _)))
      have hc : Nat.Coprime p m := by
        rcases hpr.dvd_cases (Nat.gcd_dvd_left p m) with h3 | h3
        · exact h3
        · exact absurd (by rw [← h3]; exact Nat.gcd_dvd_right _ _) hpm
      exact hc.mul_dvd_of_dvd_of_dvd (hp p hpr (Nat.dvd_mul_right _ _)) h2
theorem clF_out : ∀ (l : List (Nat × Nat)) (o : Int), clF o l = o * clF 1 l
  | [], o => by show o = o * 1; omega
  | x :: l, o => by
    show clF (clS o x) l = o * clF (clS 1 x) l
    rw [clF_out l (clS o x), clF_out l (clS 1 x)]
    unfold clS
    split <;> grind
theorem clF_pos : ∀ (l : List (Nat × Nat)), (∀ x ∈ l, 0 < x.1) → 0 < clF 1 l
  | [], _ => by show (0 : Int) < 1; omega
  | x :: l, h => by
    show 0 < clF (clS 1 x) l
    rw [clF_out]
    refine Int.mul_pos ?_ (clF_pos l (fun y hy => h y (List.mem_cons_of_mem _ hy)))
    have := h x (List.mem_cons_self ..)
    unfold clS
    split <;> omega
theorem clF_prime {p : Nat} (hp : PrN p) : ∀ (l : List (Nat × Nat)) (o : Int), (p : Int) ∣ clF o l → (p : Int) ∣ o ∨ ∃ x ∈ l, x.2 % 2 = 1 ∧ p ∣ x.1
  | [], o, h => .inl h
  | x :: l, o, h => by
    rcases clF_prime hp l (clS o x) h with h1 | ⟨y, h1, h2⟩
    · unfold clS at h1
      split at h1
      · rename_i h3
        rcases hp.euclidI h1 with h2 | h2
        · exact .inl h2
        · exact .inr ⟨x, List.mem_cons_self .., h3, Int.natCast_dvd_natCast.1 h2⟩
      · exact .inl h1
    · exact .inr ⟨y, List.mem_cons_of_mem _ h1, h2⟩
theorem clF_has : ∀ (l : List (Nat × Nat)) (o : Int) (x : Nat × Nat), x ∈ l → x.2 % 2 = 1 → (x.1 : Int) ∣ clF o l
  | y :: l, o, x, hx, h => by
    show (x.1 : Int) ∣ clF (clS o y) l
    rcases List.mem_cons.1 hx with rfl | hx
    · rw [clF_out]
      unfold clS
      rw [if_pos h]
      exact Int.dvd_trans (Int.dvd_mul_left _ _) (Int.dvd_mul_right _ _)
    · exact clF_has l _ x hx h
theorem prL_prime {p : Nat} (hp : PrN p) : ∀ (l : List (Nat × Nat)), p ∣ prL l → ∃ x ∈ l, p ∣ x.1
  | [], h => by
    have := Nat.le_of_dvd (by decide) (show p ∣ 1 from h)
    have := hp.1
    omega
  | x :: l, h => by
    rw [prL_cons] at h
    rcases hp.euclid h with h1 | h1
    · have pw : ∀ k : Nat, p ∣ x.1 ^ k → p ∣ x.1 := by
        intro k
        induction k with
        | zero => intro h2; have := Nat.le_of_dvd (by decide) (show p ∣ 1 from h2); have := hp.1; omega
        | succ k ih => intro h2; rw [Nat.pow_succ] at h2; rcases hp.euclid h2 with h3 | h3; exact ih h3; exact h3
      exact ⟨x, List.mem_cons_self .., pw _ h1⟩
    · obtain ⟨y, h2, h3⟩ := prL_prime hp l h1
      exact ⟨y, List.mem_cons_of_mem _ h2, h3⟩
/-- Every squarefree divisor is listed. -/
theorem dv_of {n d : Int} (hn : n ≠ 0) (hd : Sqf d) (h : d ∣ n) : d ∈ dvV n := by
  have hf := facF_two (n := n.natAbs) (by omega)
  have hpl := prL_fac 2 n.natAbs (by omega) (by omega)
  have hdn : d.natAbs ∣ n.natAbs := Int.natAbs_dvd_natAbs.2 h
  have hmem : clF (sgI d) ((facF 2 n.natAbs).map (fun x => (x.1, if x.1 ∣ d.natAbs then 1 else 0))) ∈ dvV n := by
    unfold dvV
    rw [mem_srI]
    have h1 := dvL_cl ((facF 2 n.natAbs).map (fun x => (x.1, if x.1 ∣ d.natAbs then 1 else 0))) [-1, 1] (sgI d) (by unfold sgI; split <;> simp)
    rw [List.map_map] at h1
    exact h1
  have hx := dv_sqf hn hmem
  generalize hL : (facF 2 n.natAbs).map (fun x => (x.1, if x.1 ∣ d.natAbs then 1 else 0)) = L at *
  have hL1 : ∀ y ∈ L, 0 < y.1 ∧ (y.2 % 2 = 1 → y.1 ∣ d.natAbs) := by
    intro y hy
    rw [← hL] at hy
    obtain ⟨x, hx, rfl⟩ := List.mem_map.1 hy
    refine ⟨by have := (hf.1 x hx).1; show 0 < x.1; omega, fun h2 => ?_⟩
    dsimp only at h2 ⊢
    split at h2
    · assumption
    · omega
  have hsg : sgI d = 1 ∨ sgI d = -1 := by unfold sgI; split <;> simp
  have d1 : (clF (sgI d) L).natAbs ∣ d.natAbs := sqf_nat _ _ (by have := hx.1; omega) hx.2 (fun p hp h1 => by
    rcases clF_prime hp L (sgI d) (Int.ofNat_dvd_left.2 h1) with h2 | ⟨y, h2, h3, h4⟩
    · exfalso
      have h5 := Int.ofNat_dvd_left.1 h2
      have h6 : (sgI d).natAbs = 1 := by rcases hsg with e | e <;> rw [e] <;> rfl
      rw [h6] at h5
      have := Nat.le_of_dvd (by decide) h5
      have := hp.1
      omega
    · exact Nat.dvd_trans h4 ((hL1 y h2).2 h3))
  have d2 : d.natAbs ∣ (clF (sgI d) L).natAbs := sqf_nat _ _ (by have := hd.1; omega) hd.2 (fun p hp h1 => by
    obtain ⟨x, hx1, hx2⟩ := prL_prime hp (facF 2 n.natAbs) (by rw [hpl]; exact Nat.dvd_trans h1 hdn)
    have hxp := (hf.1 x hx1).2.2.1
    have e : p = x.1 := by
      rcases hxp.dvd_cases hx2 with h3 | h3
      · have := hp.1; omega
      · exact h3
    have hin : (x.1, 1) ∈ L := by
      rw [← hL]
      exact List.mem_map.2 ⟨x, hx1, by rw [if_pos (by rw [← e]; exact h1)]⟩
    rw [e]
    exact Int.ofNat_dvd_left.1 (clF_has L (sgI d) (x.1, 1) hin rfl))
  have he := Nat.dvd_antisymm d1 d2
  have hp := clF_pos L (fun y hy => (hL1 y hy).1)
  have ho := clF_out L (sgI d)
  have : clF (sgI d) L = d := by
    have hd0 := hd.1
    unfold sgI at ho he ⊢
    split at ho <;> rename_i hneg
    · rw [if_pos hneg] at he ⊢; omega
    · rw [if_neg hneg] at he ⊢; omega
  rw [← this]
  exact hmem
theorem sqf_dvd_sq {d c : Int} (hd : Sqf d) (h : d ∣ c * c) : d ∣ c := by
  have h1 : d.natAbs ∣ c.natAbs := sqf_nat _ _ (by have := hd.1; omega) hd.2 (fun p hp h2 => by
    have h3 := Int.natAbs_dvd_natAbs.2 h
    rw [Int.natAbs_mul] at h3
    rcases hp.euclid (Nat.dvd_trans h2 h3) with h4 | h4 <;> exact h4)
  exact Int.natAbs_dvd_natAbs.1 h1
theorem fl_none {d a c m e n : Int} (hb : BQ d a c) (hc : Nat.gcd m.natAbs e.natAbs = 1) (hq : qvV d a c m e = n * n) (ht : (flV d a c).2 = true) : (flV d a c).1 = [] := by
  unfold flV at ht ⊢
  by_cases h1 : (bdV d a c).2 = true
  · rw [if_pos h1] at ht ⊢
    by_cases h2 : (bdV d a c).1.all (okQ d a c) = true
    · rw [if_pos h2]
      show (bdV d a c).1.filter (noQ d a c) = []
      rw [List.filter_eq_nil_iff]
      intro q hq1
      have hok := List.all_eq_true.1 h2 q hq1
      have hx : a * a - 4 * d * c ≠ 0 := fun hx => by unfold bdV at h1; rw [if_pos hx] at h1; exact Bool.noConfusion h1
      unfold bdV at hq1
      rw [if_neg hx] at hq1
      obtain ⟨p, rfl, hp, -⟩ := bd_two hb hx 3 q hq1
      unfold okQ at hok
      rw [Bool.and_eq_true, Int.toNat_natCast] at hok
      have := sol_of hp hc hq hok.2
      unfold noQ
      rw [Int.toNat_natCast, this]
      decide
    · rw [if_neg h2] at ht; exact Bool.noConfusion ht
  · rw [if_neg h1] at ht; exact Bool.noConfusion ht
/-- A class with a rational point lies in the Selmer group. -/
theorem in_sm {a b d m e n : Int} {s : Bool} (h : twB a b = true) (told : (smV a b s).2 = true) (hd : d ∈ dvV (sdB a b s)) (hc : Nat.gcd m.natAbs e.natAbs = 1) (hq : qvV d (sdA a b s) ((sdB a b s).tdiv d) m e = n * n) : d ∈ (smV a b s).1 := by
  unfold smV at told ⊢
  by_cases h1 : (dvV (sdB a b s)).all (smO a b s) = true
  · rw [if_pos h1]
    show d ∈ (dvV (sdB a b s)).filter (smZ a b s)
    rw [List.mem_filter]
    refine ⟨hd, ?_⟩
    have h2 := List.all_eq_true.1 h1 d hd
    have hb := bq_of h hd
    unfold smO rsV at h2
    unfold smZ rsV
    have h3 : (flV d (sdA a b s) ((sdB a b s).tdiv d)).2 = true := by
      cases h4 : (flV d (sdA a b s) ((sdB a b s).tdiv d)).2
      · rw [rs_no h4] at h2; exact Bool.noConfusion h2
      · rfl
    rw [rs_nil h3 (real_of hb.d0 hb.c0 hc hq) (fl_none hb hc hq h3)]
    rfl
  · rw [if_neg h1] at told; exact Bool.noConfusion told
theorem x_in_sm {a b x y : Int} {s : Bool} (h : twB a b = true) (told : (smV a b s).2 = true) (h0 : x ≠ 0) (hx : x ∣ sdB a b s) (hy : x * (x * x + sdA a b s * x + sdB a b s) = y * y) : clV x ∈ (smV a b s).1 := by
  have hB0 := (sd_bd h s).2.2
  have hd := cl_sqf h0
  obtain ⟨c, hc⟩ := cl_sq h0
  obtain ⟨z, rfl⟩ := sqf_dvd_sq hd ⟨x, hc.symm⟩
  have hdx : x = clV x * (z * z) := by
    have : clV x * x = clV x * (clV x * (z * z)) := by rw [hc]; grind
    exact Int.eq_of_mul_eq_mul_left hd.1 this
  have hdB : clV x ∣ sdB a b s := Int.dvd_trans ⟨z * z, hdx⟩ hx
  obtain ⟨C, hC⟩ := hdB
  have hCt : (sdB a b s).tdiv (clV x) = C := by rw [hC, Int.mul_tdiv_cancel_left _ hd.1]
  have hz : clV x * z ≠ 0 := by
    refine Int.mul_ne_zero hd.1 ?_
    rintro rfl
    rw [hdx] at h0
    simp at h0
  generalize hcl : clV x = d at *
  have hqy : (d * z * (d * z)) * qvV d (sdA a b s) C z 1 = y * y := by
    rw [← hy, hC]
    unfold qvV
    generalize sdA a b s = A at *
    subst hdx
    grind
  obtain ⟨n, rfl⟩ := int_sq_dvd (y := d * z) (z := y) ⟨_, hqy.symm⟩
  have hq : qvV d (sdA a b s) C z 1 = n * n := by
    have h5 : (d * z * (d * z)) * qvV d (sdA a b s) C z 1 = (d * z * (d * z)) * (n * n) := by rw [hqy]; grind
    exact Int.eq_of_mul_eq_mul_left (Int.mul_ne_zero hz hz) h5
  exact in_sm (m := z) (e := 1) (n := n) h told (dv_of hB0 hd ⟨C, hC⟩) (by simp) (by rw [hCt]; exact hq)
theorem b_in_sm {a b : Int} {s : Bool} (h : twB a b = true) (told : (smV a b s).2 = true) : clV (sdB a b s) ∈ (smV a b s).1 := by
  have hB0 := (sd_bd h s).2.2
  have hd := cl_sqf hB0
  obtain ⟨z, hz⟩ := cl_sq hB0
  obtain ⟨C, hC⟩ := dv_dvd hB0 (cl_mem (n := sdB a b s))
  have hCt : (sdB a b s).tdiv (clV (sdB a b s)) = C := by
    generalize clV (sdB a b s) = d at *
    rw [hC, Int.mul_tdiv_cancel_left _ hd.1]
  have h1 : clV (sdB a b s) * clV (sdB a b s) * C = z * z := by rw [← hz, Int.mul_assoc, ← hC]
  obtain ⟨n, rfl⟩ := int_sq_dvd (y := clV (sdB a b s)) (z := z) ⟨C, h1.symm⟩
  have hq : C = n * n := by
    have h5 : clV (sdB a b s) * clV (sdB a b s) * C = clV (sdB a b s) * clV (sdB a b s) * (n * n) := by rw [h1]; grind
    exact Int.eq_of_mul_eq_mul_left (Int.mul_ne_zero hd.1 hd.1) h5
  exact in_sm (m := 0) (e := 1) (n := n) h told cl_mem (by simp) (by rw [hCt]; unfold qvV; rw [hq]; grind)
end
section
open Go Go.RowKit Go.Lib

theorem pr_mem {p n : Nat} (hp : PrN p) (hn : 0 < n) (h : p ∣ n) : (p : Int) ∈ prV n := by
  obtain ⟨x, hx, hd⟩ := prL_prime hp (facF 2 n) (by rw [prL_fac 2 n (by omega) hn]; exact h)
  have hxp := ((facF_two hn).1 x hx).2.2.1
  have e : p = x.1 := by
    rcases hxp.dvd_cases hd with h3 | h3
    · have := hp.1; omega
    · exact h3
  unfold prV pfL
  exact List.mem_map.2 ⟨x, hx, by rw [e]⟩
theorem mem_bdK {d a c : Int} {p : Nat} (hp : PrN p) : ∀ k, (∀ i, i < k → nnV d a c i ≠ 0) → ((p : Int) ∈ bdK d a c k ↔ p = 2 ∨ ∃ i, i < k ∧ (p : Int) ∣ nnV d a c i)
  | 0, _ => by
    unfold bdK
    rw [List.mem_singleton]
    constructor
    · intro h; exact .inl (by omega)
    · rintro (h | ⟨i, h, -⟩)
      · omega
      · omega
  | k + 1, h0 => by
    unfold bdK
    have hk := h0 k (by omega)
    rw [mem_putL, mem_bdK hp k (fun i hi => h0 i (by omega))]
    constructor
    · rintro ((h | ⟨i, h1, h2⟩) | h)
      · exact .inl h
      · exact .inr ⟨i, by omega, h2⟩
      · obtain ⟨q, h1, h2, h3⟩ := prV_pr (by omega) h
        have : p = q := by omega
        subst this
        exact .inr ⟨k, by omega, Int.ofNat_dvd_left.2 h3⟩
    · rintro (h | ⟨i, h1, h2⟩)
      · exact .inl (.inl h)
      · by_cases hi : i = k
        · subst hi
          exact .inr (pr_mem hp (by omega) (Int.ofNat_dvd_left.1 h2))
        · exact .inl (.inr ⟨i, by omega, h2⟩)
theorem nn_0 (d a c : Int) : nnV d a c 0 = d := rfl
theorem nn_1 (d a c : Int) : nnV d a c 1 = c := rfl
theorem nn_2 (d a c : Int) : nnV d a c 2 = a * a - 4 * d * c := rfl
/-- The bad primes of all classes of a side are the same. -/
theorem bd_same {d1 d2 a b c1 c2 : Int} {p : Nat} (hp : PrN p) (hb : b ≠ 0) (h1 : d1 * c1 = b) (h2 : d2 * c2 = b) (hx : a * a - 4 * b ≠ 0) (h : (p : Int) ∈ bdK d2 a c2 3) : (p : Int) ∈ bdK d1 a c1 3 := by
  have nz : ∀ d c : Int, d * c = b → ∀ i, i < 3 → nnV d a c i ≠ 0 := by
    intro d c hdc i hi
    have hd : d ≠ 0 := by rintro rfl; rw [Int.zero_mul] at hdc; exact hb hdc.symm
    have hc : c ≠ 0 := by rintro rfl; rw [Int.mul_zero] at hdc; exact hb hdc.symm
    have h3 : i = 0 ∨ i = 1 ∨ i = 2 := by omega
    rcases h3 with rfl | rfl | rfl
    · exact hd
    · exact hc
    · rw [nn_2, Int.mul_assoc, hdc]; exact hx
  rw [mem_bdK hp 3 (nz d2 c2 h2)] at h
  rw [mem_bdK hp 3 (nz d1 c1 h1)]
  rcases h with h | ⟨i, hi, h⟩
  · exact .inl h
  right
  have hbp : (p : Int) ∣ b → ∃ i, i < 3 ∧ (p : Int) ∣ nnV d1 a c1 i := by
    intro h3
    rw [← h1] at h3
    rcases hp.euclidI h3 with h4 | h4
    · exact ⟨0, by omega, h4⟩
    · exact ⟨1, by omega, h4⟩
  have h3 : i = 0 ∨ i = 1 ∨ i = 2 := by omega
  rcases h3 with rfl | rfl | rfl
  · exact hbp (by rw [← h2]; exact Int.dvd_trans h (Int.dvd_mul_right _ _))
  · exact hbp (by rw [← h2]; exact Int.dvd_trans h (Int.dvd_mul_left _ _))
  · refine ⟨2, by omega, ?_⟩
    rw [nn_2, Int.mul_assoc, h2] at h
    rw [nn_2, Int.mul_assoc, h1]
    exact h
structure SmD (a b : Int) (s : Bool) (d c : Int) : Prop where
  mem : d ∈ dvV (sdB a b s)
  tc : (sdB a b s).tdiv d = c
  dc : d * c = sdB a b s
  real : rlV d (sdA a b s) c = true
  loc : ∀ p : Nat, PrN p → (p : Int) ∈ bdK d (sdA a b s) c 3 → (slV d (sdA a b s) c p).1 = true
theorem tdiv_dc {n d : Int} (hn : n ≠ 0) (h : d ∈ dvV n) : d * n.tdiv d = n := by
  obtain ⟨c, hc⟩ := dv_dvd hn h
  have d0 := (dv_le hn h).1
  rw [hc, Int.mul_tdiv_cancel_left _ d0]
/-- What is told of a class of the Selmer group. -/
theorem sm_d {a b d : Int} {s : Bool} (h : twB a b = true) (told : (smV a b s).2 = true) (hd : d ∈ (smV a b s).1) : SmD a b s d ((sdB a b s).tdiv d) := by
  have hB0 := (sd_bd h s).2.2
  unfold smV at told hd
  by_cases h1 : (dvV (sdB a b s)).all (smO a b s) = true
  · rw [if_pos h1] at hd
    obtain ⟨hm, hz⟩ := List.mem_filter.1 hd
    have ho := List.all_eq_true.1 h1 d hm
    have hb := bq_of h hm
    refine ⟨hm, rfl, tdiv_dc hB0 hm, ?_, ?_⟩
    all_goals
      unfold smO rsV at ho
      unfold smZ rsV at hz
      rw [beq_iff_eq] at hz
      generalize (sdB a b s).tdiv d = c at *
      generalize sdA a b s = A at *
      have hfl : (flV d A c).2 = true := by
        cases h4 : (flV d A c).2
        · rw [rs_no h4] at ho; exact Bool.noConfusion ho
        · rfl
    · cases hr : rlV d A c
      · rw [rs_real hfl hr] at hz
        exact absurd hz (by decide)
      · rfl
    · intro p hp hbad
      have hx : a * a - 4 * b ≠ 0 := by
        have := (twB_bd h).2.2.2
        omega
      have hr : rlV d A c = true := by
        cases hr : rlV d A c
        · rw [rs_real hfl hr] at hz
          exact absurd hz (by decide)
        · rfl
      have hfl0 := hfl
      unfold flV at hfl
      by_cases h5 : (bdV d A c).2 = true
      · rw [if_pos h5] at hfl
        by_cases h6 : (bdV d A c).1.all (okQ d A c) = true
        · have hx : A * A - 4 * d * c ≠ 0 := fun hx => by unfold bdV at h5; rw [if_pos hx] at h5; exact Bool.noConfusion h5
          have hbv : (bdV d A c).1 = bdK d A c 3 := by unfold bdV; rw [if_neg hx]
          have hfe : flV d A c = ((bdV d A c).1.filter (noQ d A c), true) := by unfold flV; rw [if_pos h5, if_pos h6]
          cases hs : (slV d A c p).1
          · exfalso
            have hin : (p : Int) ∈ (bdV d A c).1.filter (noQ d A c) := by
              rw [List.mem_filter, hbv]
              refine ⟨hbad, ?_⟩
              unfold noQ
              rw [Int.toNat_natCast, hs]
              rfl
            cases hl : (bdV d A c).1.filter (noQ d A c) with
            | nil => rw [hl] at hin; exact absurd hin (List.not_mem_nil)
            | cons q l =>
              have hfe2 : flV d A c = (q :: l, true) := by rw [hfe, hl]
              have hq : rsW d A c = (q, true) := rs_cons (by rw [hfe2]) hr (by rw [hfe2])
              rw [hq] at hz
              have hqb : q ∈ bdK d A c 3 := by
                have : q ∈ (bdV d A c).1.filter (noQ d A c) := by rw [hl]; exact List.mem_cons_self ..
                rw [← hbv]
                exact (List.mem_filter.1 this).1
              obtain ⟨p', h7, h8, -⟩ := bd_two hb hx 3 q hqb
              have := h8.1
              have : q = 0 := hz
              omega
          · rfl
        · rw [if_neg h6] at hfl; exact Bool.noConfusion hfl
      · rw [if_neg h5] at hfl; exact Bool.noConfusion hfl
  · rw [if_neg h1] at told; exact Bool.noConfusion told
theorem sm_of {a b d : Int} {s : Bool} (h : twB a b = true) (told : (smV a b s).2 = true) (hm : d ∈ dvV (sdB a b s)) (hr : rlV d (sdA a b s) ((sdB a b s).tdiv d) = true)
    (hl : ∀ p : Nat, PrN p → (p : Int) ∈ bdK d (sdA a b s) ((sdB a b s).tdiv d) 3 → Loc p d (sdA a b s) ((sdB a b s).tdiv d)) : d ∈ (smV a b s).1 := by
  unfold smV at told ⊢
  by_cases h1 : (dvV (sdB a b s)).all (smO a b s) = true
  · rw [if_pos h1]
    show d ∈ (dvV (sdB a b s)).filter (smZ a b s)
    rw [List.mem_filter]
    refine ⟨hm, ?_⟩
    have h2 := List.all_eq_true.1 h1 d hm
    have hb := bq_of h hm
    unfold smO rsV at h2
    unfold smZ rsV
    generalize (sdB a b s).tdiv d = c at *
    generalize sdA a b s = A at *
    have h3 : (flV d A c).2 = true := by
      cases h4 : (flV d A c).2
      · rw [rs_no h4] at h2; exact Bool.noConfusion h2
      · rfl
    have h4 : (flV d A c).1 = [] := by
      unfold flV at h3 ⊢
      by_cases h5 : (bdV d A c).2 = true
      · rw [if_pos h5] at h3 ⊢
        by_cases h6 : (bdV d A c).1.all (okQ d A c) = true
        · rw [if_pos h6]
          show (bdV d A c).1.filter (noQ d A c) = []
          rw [List.filter_eq_nil_iff]
          intro q hq1
          have hok := List.all_eq_true.1 h6 q hq1
          have hx : A * A - 4 * d * c ≠ 0 := fun hx => by unfold bdV at h5; rw [if_pos hx] at h5; exact Bool.noConfusion h5
          unfold bdV at hq1
          rw [if_neg hx] at hq1
          obtain ⟨p, rfl, hp, -⟩ := bd_two hb hx 3 q hq1
          unfold okQ at hok
          rw [Bool.and_eq_true, Int.toNat_natCast] at hok
          have := sol_ofL hp (hl p hp hq1) hok.2
          unfold noQ
          rw [Int.toNat_natCast, this]
          decide
        · rw [if_neg h6] at h3; exact Bool.noConfusion h3
      · rw [if_neg h5] at h3; exact Bool.noConfusion h3
    rw [rs_nil h3 hr h4]
    rfl
  · rw [if_neg h1] at told; exact Bool.noConfusion told
theorem real_mul {d1 d2 d3 g a b c1 c2 c3 : Int} (hb : b ≠ 0) (h1 : d1 * c1 = b) (h2 : d2 * c2 = b) (h3 : d3 * c3 = b) (hg : d3 * (g * g) = d1 * d2) (r1 : rlV d1 a c1 = true) (r2 : rlV d2 a c2 = true) : rlV d3 a c3 = true := by
  have nz : ∀ d c : Int, d * c = b → d ≠ 0 ∧ c ≠ 0 := by
    intro d c hdc
    exact ⟨by rintro rfl; rw [Int.zero_mul] at hdc; exact hb hdc.symm, by rintro rfl; rw [Int.mul_zero] at hdc; exact hb hdc.symm⟩
  obtain ⟨n1, m1⟩ := nz d1 c1 h1
  obtain ⟨n2, m2⟩ := nz d2 c2 h2
  obtain ⟨n3, m3⟩ := nz d3 c3 h3
  have key : ∀ d c : Int, d * c = b → (rlV d a c = true ↔ (0 < d ∨ 0 < c ∨ (0 < a ∧ 4 * b ≤ a * a))) := by
    intro d c hdc
    unfold rlV
    rw [Bool.or_eq_true, Bool.or_eq_true, Bool.and_eq_true, decide_eq_true_eq, decide_eq_true_eq, decide_eq_true_eq, decide_eq_true_eq, Int.mul_assoc, hdc, or_assoc]
  rw [key _ _ h1] at r1
  rw [key _ _ h2] at r2
  rw [key _ _ h3]
  by_cases hA : 0 < a ∧ 4 * b ≤ a * a
  · exact .inr (.inr hA)
  have sg : ∀ d c : Int, d * c = b → (0 < d ∨ 0 < c ∨ (0 < a ∧ 4 * b ≤ a * a)) → 0 < d ∨ b < 0 := by
    intro d c hdc hh
    rcases hh with hh | hh | hh
    · exact .inl hh
    · rcases Int.lt_or_le 0 d with h | h
      · exact .inl h
      · right
        have hd := (nz d c hdc).1
        rw [← hdc]
        exact Int.mul_neg_of_neg_of_pos (by omega) hh
    · exact absurd hh hA
  by_cases hbn : b < 0
  · rcases Int.lt_or_le 0 d3 with h | h
    · exact .inl h
    · right; left
      rcases Int.lt_or_le 0 c3 with h5 | h5
      · exact h5
      · have := Int.mul_pos_of_neg_of_neg (show d3 < 0 by omega) (show c3 < 0 by omega)
        omega
  · have p1 : 0 < d1 := by rcases sg d1 c1 h1 r1 with h | h; exact h; omega
    have p2 : 0 < d2 := by rcases sg d2 c2 h2 r2 with h | h; exact h; omega
    left
    have h5 := Int.mul_pos p1 p2
    rw [← hg] at h5
    rcases Int.lt_or_le 0 d3 with h | h
    · exact h
    · exfalso
      have h6 := Int.mul_nonneg (show 0 ≤ -d3 by omega) (sq_pos0 g)
      rw [Int.neg_mul] at h6
      omega
theorem pd_dvd {d e n : Int} (hd : Sqf d) (he : Sqf e) (h1 : d ∣ n) (h2 : e ∣ n) : pdV d e ∣ n := by
  have hs := pd_sqf hd he
  obtain ⟨h0, k1, k2, k3, k4, k5⟩ := pd_s (e := e) hd.1
  have h3 : (pdV d e).natAbs ∣ n.natAbs := sqf_nat _ _ (by have := hs.1; omega) hs.2 (fun p hp hpd => by
    have h4 : (p : Int) ∣ pdV d e := Int.ofNat_dvd_left.2 hpd
    refine Int.ofNat_dvd_left.1 ?_
    unfold pdV at h4
    rcases hp.euclidI h4 with h5 | h5
    · exact Int.dvd_trans h5 (Int.dvd_trans ⟨_, k1⟩ h1)
    · exact Int.dvd_trans h5 (Int.dvd_trans ⟨_, k2⟩ h2))
  exact Int.natAbs_dvd_natAbs.1 h3
theorem pd_gg {d e : Int} (hd : d ≠ 0) : pdV d e * (gcdI d e * gcdI d e) = d * e := by
  obtain ⟨h0, h1, h2, h3, h4, h5⟩ := pd_s (e := e) hd
  unfold pdV
  generalize gcdI d e = g at *
  generalize d.tdiv g = d' at *
  generalize e.tdiv g = e' at *
  rw [h1, h2]; grind
/-- The product of two told classes of a Selmer group lies in it. -/
theorem sm_mul {a b d e : Int} {s : Bool} (h : twB a b = true) (told : (smV a b s).2 = true) (hd : d ∈ (smV a b s).1) (he : e ∈ (smV a b s).1) : pdV d e ∈ (smV a b s).1 := by
  obtain ⟨hA, hB, hB0⟩ := sd_bd h s
  obtain ⟨m1, -, c1, r1, l1⟩ := sm_d h told hd
  obtain ⟨m2, -, c2, r2, l2⟩ := sm_d h told he
  have s1 := dv_sqf hB0 m1
  have s2 := dv_sqf hB0 m2
  have m3 : pdV d e ∈ dvV (sdB a b s) := dv_of hB0 (pd_sqf s1 s2) (pd_dvd s1 s2 (dv_dvd hB0 m1) (dv_dvd hB0 m2))
  have c3 := tdiv_dc hB0 m3
  have gg := pd_gg (e := e) s1.1
  have hx : sdA a b s * sdA a b s - 4 * sdB a b s ≠ 0 := by
    obtain ⟨-, -, h1, h2⟩ := twB_bd h
    unfold sdA sdB
    cases s
    · simp only [Bool.false_eq_true, if_false]; omega
    · simp only [if_true]
      intro h3
      have : 16 * b = 0 := by grind
      omega
  refine sm_of h told m3 (real_mul hB0 c1 c2 c3 gg r1 r2) (fun p hp hbad => ?_)
  have b1 := bd_same hp hB0 c1 c3 hx hbad
  have b2 := bd_same hp hB0 c2 c3 hx hbad
  obtain ⟨M1, E1, z1, q1⟩ := sol_pt hp (l1 p hp b1)
  obtain ⟨M2, E2, z2, q2⟩ := sol_pt hp (l2 p hp b2)
  exact loc_sum hp hB0 c1 c2 c3 gg z1 z2 q1 q2
/-- A told Selmer group is a group, if there are at most 64 divisors. -/
theorem sm_gr {a b : Int} {s : Bool} (h : twB a b = true) (told : (smV a b s).2 = true) (hlen : (dvV (sdB a b s)).length ≤ 64) : grB (smV a b s).1 = true := by
  obtain ⟨hA, hB, hB0⟩ := sd_bd h s
  have hsub : ∀ d ∈ (smV a b s).1, d ∈ dvV (sdB a b s) := fun d hd => (sm_d h told hd).mem
  have hone : (1 : Int) ∈ (smV a b s).1 := by
    have hd1 : (1 : Int) ∈ dvV (sdB a b s) := dv_of hB0 sqf_one (Int.one_dvd _)
    exact in_sm (m := 1) (e := 0) (n := 1) h told hd1 (by decide) (by unfold qvV; simp)
  have hle : (smV a b s).1.length ≤ 64 ∧ Inc (smV a b s).1 := by
    have h5 : smV a b s = ((dvV (sdB a b s)).filter (smZ a b s), true) := by
      unfold smV at told ⊢
      by_cases h1 : (dvV (sdB a b s)).all (smO a b s) = true
      · rw [if_pos h1]
      · rw [if_neg h1] at told; exact Bool.noConfusion told
    rw [h5]
    exact ⟨Nat.le_trans (List.length_filter_le _ _) hlen, (dv_inc hB0).filter _⟩
  refine gr_iff.2 ⟨⟨List.length_pos_of_mem hone, hle.1⟩, hone, fun d hd => ?_, hle.2, fun d hd e he => sm_mul h told hd he⟩
  have hm := hsub d hd
  have := (dv_le hB0 hm).2
  exact clB_sqf (dv_sqf hB0 hm) (by omega)
end
section
open Go Go.RowKit Go.Lib

theorem dv_count (n : Int) : (dvV n).length = 2 * 2 ^ (prV n.natAbs).length := by
  unfold dvV
  rw [length_srI, length_dvL]; rfl
def ascP : Nat → Nat → Nat
  | _, 0 => 1
  | s, k + 1 => s * ascP (s + 1) k
theorem ascP_pos : ∀ (k s : Nat), 0 < s → 0 < ascP s k
  | 0, _, _ => by unfold ascP; omega
  | k + 1, s, h => by unfold ascP; exact Nat.mul_pos h (ascP_pos k (s + 1) (by omega))
theorem ascP_up : ∀ (k s : Nat), 0 < s → ascP s k ≤ ascP s (k + 1)
  | 0, s, h => by simp [ascP]; omega
  | k + 1, s, h => by
    rw [ascP, show ascP s (k + 1 + 1) = s * ascP (s + 1) (k + 1) from rfl]
    exact Nat.mul_le_mul_left s (ascP_up k (s + 1) (by omega))
theorem ascP_mono {s : Nat} (h : 0 < s) {i : Nat} : ∀ {j : Nat}, i ≤ j → ascP s i ≤ ascP s j
  | 0, hij => by rw [show i = 0 by omega]; exact Nat.le_refl _
  | j + 1, hij => by
    rcases Nat.lt_or_ge i (j + 1) with h1 | h1
    · exact Nat.le_trans (ascP_mono h (show i ≤ j by omega)) (ascP_up j s h)
    · rw [show i = j + 1 by omega]; exact Nat.le_refl _
theorem asc_prod : ∀ (l : List Int) (s : Nat), 0 < s → Inc l → (∀ x ∈ l, (s : Int) ≤ x) → ((ascP s l.length : Nat) : Int) ≤ prodI l
  | [], _, _, _, _ => by show (1 : Int) ≤ 1; omega
  | x :: l, s, h, hi, hx => by
    obtain ⟨h1, h2⟩ := List.pairwise_cons.1 hi
    have h3 := hx x (List.mem_cons_self ..)
    have h4 := asc_prod l (s + 1) (by omega) h2 (fun y hy => by have := h1 y hy; omega)
    have h5 := ascP_pos l.length (s + 1) (by omega)
    rw [List.length_cons, ascP, prodI, Int.natCast_mul]
    exact Int.mul_le_mul h3 h4 (by omega) (by omega)
theorem dv_small {n : Int} (h0 : n ≠ 0) (h : n.natAbs < 5040) : (dvV n).length ≤ 64 := by
  have hn : 0 < n.natAbs := by omega
  rw [dv_count]
  rcases Nat.lt_or_ge (prV n.natAbs).length 6 with h1 | h1
  · have := Nat.pow_le_pow_right (n := 2) (by omega) (show (prV n.natAbs).length ≤ 5 by omega)
    omega
  · exfalso
    have h2 := asc_prod (prV n.natAbs) 2 (by omega) (prV_prs hn).inc (fun x hx => prV_two hn x hx)
    have h3 := ascP_mono (s := 2) (by omega) h1
    have e : ascP 2 6 = 5040 := rfl
    have h4 := Int.natAbs_dvd_natAbs.2 (pr_dvd h0)
    have h5 := Nat.le_of_dvd hn h4
    omega
theorem dv_by {n : Int} (h0 : n ≠ 0) (L : List Int) (hL : L.length ≤ 5) (h : ∀ p : Nat, PrN p → p ∣ n.natAbs → (p : Int) ∈ L) : (dvV n).length ≤ 64 := by
  have hn : 0 < n.natAbs := by omega
  rw [dv_count]
  have h1 := len_sub (m := L) (prV_prs hn).inc.nodup (fun x hx => by
    obtain ⟨p, rfl, h2, h3⟩ := prV_pr hn hx
    exact h p h2 h3)
  have := Nat.pow_le_pow_right (n := 2) (by omega) (show (prV n.natAbs).length ≤ 5 by omega)
  omega
theorem PrN.eq_of {p q : Nat} (hp : PrN p) (hq : PrN q) (h : p ∣ q) : p = q := by
  rcases hq.dvd_cases h with h1 | h1
  · have := hp.1; omega
  · exact h1
theorem PrN.pow_dvd {p q : Nat} (hp : PrN p) (hq : PrN q) : ∀ {k : Nat}, p ∣ q ^ k → p = q
  | 0, h => by
    have := Nat.le_of_dvd (by decide) (show p ∣ 1 from h)
    have := hp.1
    omega
  | k + 1, h => by
    rw [Nat.pow_succ] at h
    rcases hp.euclid h with h1 | h1
    · exact PrN.pow_dvd hp hq h1
    · exact hp.eq_of hq h1
theorem prN_dec {q : Nat} (h : 2 ≤ q ∧ ∀ d, d < q → 2 ≤ d → ¬ d ∣ q) : PrN q := ⟨h.1, fun d h1 h2 => h.2 d h2 h1⟩
theorem pr2 : PrN 2 := prN_dec (by decide)
theorem pr3 : PrN 3 := prN_dec (by decide)
theorem pr5 : PrN 5 := prN_dec (by decide)
theorem pr19 : PrN 19 := prN_dec (by decide)
theorem pr37 : PrN 37 := prN_dec (by decide)
theorem pr149 : PrN 149 := prN_dec (by decide +kernel)
theorem pr151 : PrN 151 := prN_dec (by decide +kernel)
theorem dv_91200 : (dvV 91200).length ≤ 64 := dv_by (by decide) [2, 3, 5, 19] (by decide) (fun p hp h => by
  have h : p ∣ 2 ^ 6 * (3 * (5 ^ 2 * 19)) := h
  rcases hp.euclid h with h | h
  · have := hp.pow_dvd pr2 h; subst this; simp
  rcases hp.euclid h with h | h
  · have := hp.eq_of pr3 h; subst this; simp
  rcases hp.euclid h with h | h
  · have := hp.pow_dvd pr5 h; subst this; simp
  · have := hp.eq_of pr19 h; subst this; simp)
theorem dv_88800 : (dvV 88800).length ≤ 64 := dv_by (by decide) [2, 3, 5, 37] (by decide) (fun p hp h => by
  have h : p ∣ 2 ^ 5 * (3 * (5 ^ 2 * 37)) := h
  rcases hp.euclid h with h | h
  · have := hp.pow_dvd pr2 h; subst this; simp
  rcases hp.euclid h with h | h
  · have := hp.eq_of pr3 h; subst this; simp
  rcases hp.euclid h with h | h
  · have := hp.pow_dvd pr5 h; subst this; simp
  · have := hp.eq_of pr37 h; subst this; simp)
theorem dv_89996 : (dvV 89996).length ≤ 64 := dv_by (by decide) [2, 149, 151] (by decide) (fun p hp h => by
  have h : p ∣ 2 ^ 2 * (149 * 151) := h
  rcases hp.euclid h with h | h
  · have := hp.pow_dvd pr2 h; subst this; simp
  rcases hp.euclid h with h | h
  · have := hp.eq_of pr149 h; subst this; simp
  · have := hp.eq_of pr151 h; subst this; simp)
/-- At most 64 squarefree divisors, on both sides. -/
theorem dv_drawn {a b : Int} (h : twB a b = true) (hd : TcD a b) (s : Bool) : (dvV (sdB a b s)).length ≤ 64 := by
  obtain ⟨⟨a1, a2⟩, ⟨b1, b2⟩, b0, hab⟩ := twB_bd h
  have hB0 := (sd_bd h s).2.2
  cases s
  · exact dv_small hB0 (by show b.natAbs < 5040; omega)
  · have hB : sdB a b true = a * a - 4 * b := rfl
    rcases hd h with ⟨⟨h1, h2⟩, h3, h4⟩ | ⟨h1, h2⟩
    · refine dv_small hB0 ?_
      rw [hB]
      have := (mul_bd a a 20 20 h1 h2 h1 h2)
      omega
    · have hc : a * a - 4 * b = 91200 ∨ a * a - 4 * b = 88800 ∨ a * a - 4 * b = 89996 ∨ (a * a - 4 * b).natAbs < 5040 := by
        rcases h1 with rfl | rfl | rfl <;> rcases h2 with rfl | rfl | rfl <;> decide
      rw [hB] at hB0 ⊢
      rcases hc with e | e | e | e
      · rw [e]; exact dv_91200
      · rw [e]; exact dv_88800
      · rw [e]; exact dv_89996
      · exact dv_small hB0 e
end
section
open Go Go.RowKit Go.Lib

theorem ctI_pt {d a c : Int} {m : Nat} : ∀ (k : Nat), 0 < ctI d a c m k → ∃ e : Nat, qpB d a c m e = true
  | 0, h => absurd h (by unfold ctI; omega)
  | k + 1, h => by
    unfold ctI at h
    by_cases h1 : qpB d a c m k = true
    · exact ⟨k, h1⟩
    · rw [if_neg h1] at h
      exact ctI_pt k (by omega)
theorem ctO_pt {d a c : Int} {M : Nat} : ∀ (k : Nat), 0 < ctO d a c M k → ∃ m e : Nat, qpB d a c m e = true
  | 0, h => absurd h (by unfold ctO; omega)
  | k + 1, h => by
    unfold ctO at h
    rcases Nat.eq_zero_or_pos (ctI d a c k (M + 1)) with h1 | h1
    · exact ctO_pt (M := M) k (by omega)
    · obtain ⟨e, he⟩ := ctI_pt _ h1
      exact ⟨k, e, he⟩
theorem root_sq {n : Int} (h : rootK n = true) : ∃ r : Int, n = r * r := by
  unfold rootK at h
  rw [Bool.and_eq_true, decide_eq_true_eq, decide_eq_true_eq] at h
  refine ⟨(fsq n.toNat : Nat), ?_⟩
  rw [← Int.natCast_mul, h.2]
  omega
theorem fd_in_sm {a b d : Int} {s : Bool} {M : Nat} (h : twB a b = true) (told : (smV a b s).2 = true) (hd : d ∈ fdL a b s M) : d ∈ (smV a b s).1 := by
  unfold fdL at hd
  rw [List.mem_filter] at hd
  obtain ⟨h1, h2⟩ := hd
  unfold fdZ at h2
  rw [decide_eq_true_eq] at h2
  obtain ⟨m, e, hq⟩ := ctO_pt _ h2
  unfold qpB at hq
  rw [Bool.and_eq_true, decide_eq_true_eq] at hq
  obtain ⟨r, hr⟩ := root_sq hq.2
  have hg := hq.1
  unfold gcdI at hg
  exact in_sm (n := r) h told h1 (by omega) hr
theorem fg_sub {a b : Int} {s : Bool} {M : Nat} (h : twB a b = true) (told : (smV a b s).2 = true) (hg : grB (smV a b s).1 = true) (hok : (fgV a b s M).2 = true) : ∀ z ∈ (fgV a b s M).1, z ∈ (smV a b s).1 := by
  have hG := gr_iff.1 hg
  unfold fgV at *
  cases hX : gpV (fgL a b s M) with
  | none => rw [hX] at hok; exact Bool.noConfusion hok
  | some X =>
    refine (gp_good (fun d hd => fg_sqf h hd) hX).sub (· ∈ (smV a b s).1) (fun x y hx hy => hG.cl x hx y hy) (fun d hd => ?_) hG.one
    rcases List.mem_cons.1 hd with rfl | hd
    · exact b_in_sm h told
    · exact fd_in_sm h told hd
theorem fg_le {a b : Int} {s : Bool} {M : Nat} (h : twB a b = true) (told : (smV a b s).2 = true) (hg : grB (smV a b s).1 = true) (hok : (fgV a b s M).2 = true) : lgI (fgV a b s M) ≤ (rkV (smV a b s).1).1 := by
  rw [rk_yes hg]
  have h1 := len_sub (gr_iff.1 (fg_gr h hok)).inc.nodup (fg_sub h told hg hok)
  have h2 := lg_mono _ _ h1
  unfold lgI
  show ((lgV (fgV a b s M).1.length : Nat) : Int) ≤ ((lgV (smV a b s).1.length : Nat) : Int)
  omega
theorem lg_two {n : Nat} (h : 2 ≤ n) : 1 ≤ lgV n := by
  have h1 := lg_mono 2 n h
  have e : lgV 2 = 1 := by rw [lg_step (by omega)]; show 1 + lgV 1 = 1; rw [lg_one]
  omega
theorem lg_four {n : Nat} (h : 4 ≤ n) : 2 ≤ lgV n := by
  have h1 := lg_mono 4 n h
  have e : lgV 4 = 2 := by rw [lg_step (by omega)]; show 1 + lgV 2 = 2; rw [lg_step (by omega)]; show 1 + (1 + lgV 1) = 2; rw [lg_one]
  omega
theorem cl_sq1 {x : Int} (h0 : x ≠ 0) (h : clV x = 1) : IsSq x := by
  have := cl_sq h0
  rwa [h, Int.one_mul] at this
theorem cl_eq {x y : Int} (hx : x ≠ 0) (hy : y ≠ 0) (h : clV x = clV y) : IsSq (x * y) := by
  have h1 := (cl_sq hx).mul (cl_sq hy)
  rw [h] at h1
  refine IsSq.cancel (y := clV y) ?_ (cl_sqf hy).1
  rwa [show x * y * (clV y * clV y) = clV y * x * (clV y * y) by grind]
/-- A group with a class that is not 1. -/
theorem gr_two {X : List Int} {x : Int} (hg : GrG X) (h0 : x ≠ 0) (hx : clV x ∈ X) (hn : ¬ IsSq x) : 1 ≤ lgV X.length := by
  refine lg_two ?_
  have h1 := len_sub (l := [1, clV x]) (m := X) (by
    rw [List.nodup_cons]
    exact ⟨fun h => hn (cl_sq1 h0 (List.mem_singleton.1 h).symm), by simp⟩) (fun z hz => by
    rcases List.mem_cons.1 hz with rfl | hz
    · exact hg.one
    · rw [List.mem_singleton.1 hz]; exact hx)
  exact h1
/-- A group with three more classes. -/
theorem gr_four {X : List Int} {x y z : Int} (hg : GrG X) (x0 : x ≠ 0) (y0 : y ≠ 0) (z0 : z ≠ 0) (hx : clV x ∈ X) (hy : clV y ∈ X) (hz : clV z ∈ X)
    (nx : ¬ IsSq x) (ny : ¬ IsSq y) (nz : ¬ IsSq z) (nxy : ¬ IsSq (x * y)) (nxz : ¬ IsSq (x * z)) (nyz : ¬ IsSq (y * z)) : 2 ≤ lgV X.length := by
  refine lg_four ?_
  have h1 := len_sub (l := [1, clV x, clV y, clV z]) (m := X) (by
    rw [List.nodup_cons, List.nodup_cons, List.nodup_cons]
    refine ⟨fun h => ?_, fun h => ?_, fun h => ?_, by simp⟩
    · simp only [List.mem_cons, List.not_mem_nil, or_false] at h
      rcases h with h | h | h
      · exact nx (cl_sq1 x0 h.symm)
      · exact ny (cl_sq1 y0 h.symm)
      · exact nz (cl_sq1 z0 h.symm)
    · simp only [List.mem_cons, List.not_mem_nil, or_false] at h
      rcases h with h | h
      · exact nxy (cl_eq x0 y0 h)
      · exact nxz (cl_eq x0 z0 h)
    · exact nyz (cl_eq y0 z0 (List.mem_singleton.1 h))) (fun u hu => by
    simp only [List.mem_cons, List.not_mem_nil, or_false] at hu
    rcases hu with rfl | rfl | rfl | rfl
    · exact hg.one
    · exact hx
    · exact hy
    · exact hz)
  exact h1
end
section
open Go Go.RowKit Go.Lib

structure Sel (a b : Int) (X Y : List Int) : Prop where
  gx : GrG X
  gy : GrG Y
  fb : clV b ∈ X
  fc : clV (a * a - 4 * b) ∈ Y
  f0 : ∀ x y : Int, x ≠ 0 → x ∣ b → x * (x * x + a * x + b) = y * y → clV x ∈ X
  f1 : ∀ x y : Int, x ≠ 0 → x ∣ a * a - 4 * b → x * (x * x - 2 * a * x + (a * a - 4 * b)) = y * y → clV x ∈ Y
  a1 : -300 ≤ a
  a2 : a ≤ 300
  b1 : -300 ≤ b
  b2 : b ≤ 300
  b0 : b ≠ 0
  c0 : a * a - 4 * b ≠ 0
theorem nsq_neg {x : Int} (h : x < 0) : ¬ IsSq x := by
  rintro ⟨c, rfl⟩
  have := sq_pos0 c
  omega
theorem sq_bnd {s m : Int} (hm : 0 ≤ m) (h : s * s < (m + 1) * (m + 1)) : -m ≤ s ∧ s ≤ m := by
  constructor
  · rcases Int.lt_or_le s (-m) with h1 | h1
    · have := Int.mul_le_mul (show m + 1 ≤ -s by omega) (show m + 1 ≤ -s by omega) (by omega) (by omega)
      rw [Int.neg_mul_neg] at this
      omega
    · exact h1
  · rcases Int.lt_or_le m s with h1 | h1
    · have := Int.mul_le_mul (show m + 1 ≤ s by omega) (show m + 1 ≤ s by omega) (by omega) (by omega)
      omega
    · exact h1
theorem nsq_btw {x m : Int} (hm : 0 ≤ m) (h1 : m * m < x) (h2 : x < (m + 1) * (m + 1)) : ¬ IsSq x := by
  rintro ⟨c, rfl⟩
  obtain ⟨h3, h4⟩ := sq_bnd hm h2
  have h5 : c.natAbs * c.natAbs ≤ m.natAbs * m.natAbs := Nat.mul_le_mul (by omega) (by omega)
  have h6 := Int.natAbs_mul_self' c
  have h7 := Int.natAbs_mul_self' m
  have h8 : ((c.natAbs * c.natAbs : Nat) : Int) ≤ ((m.natAbs * m.natAbs : Nat) : Int) := Int.ofNat_le.2 h5
  rw [Int.natCast_mul, Int.natCast_mul, h6, h7] at h8
  omega
theorem nsq_mul {x y : Int} (hx : x ≠ 0) (hy : ¬ IsSq y) : ¬ IsSq (x * (x * y)) := fun h => hy (IsSq.cancel (y := x) (by rwa [show y * (x * x) = x * (x * y) by grind]) hx)
/-- -1 comes of x and -x. -/
theorem gr_neg {X : List Int} {x : Int} (hg : GrG X) (h0 : x ≠ 0) (h1 : clV x ∈ X) (h2 : clV (-x) ∈ X) : clV (-1) ∈ X := by
  have hn : Sqf (-1) := ⟨by decide, fun q hq hd => by
    have h3 : q * q ∣ 1 := hd
    have := Nat.le_of_dvd (by decide) h3
    have := Nat.mul_le_mul hq hq
    omega⟩
  have e : pdV (clV x) (clV (-x)) = -1 := by
    refine pd_of hn (cl_sqf h0) (cl_sqf (by omega)) ?_
    have h3 := (cl_sq h0).mul (cl_sq (n := -x) (by omega))
    refine IsSq.cancel (y := x) ?_ h0
    rwa [show -1 * (clV x * clV (-x)) * (x * x) = clV x * x * (clV (-x) * -x) by grind]
  rw [cl_id hn, ← e]
  exact hg.cl _ h1 _ h2
theorem split_two {a b w : Int} (h : a * a - 4 * b = w * w) : ∃ e g : Int, a = -(e + g) ∧ b = e * g ∧ w = e - g := by
  have hp : (a + w) % 2 = 0 := by
    rcases (show a % 2 = 0 ∨ a % 2 = 1 by omega) with h1 | h1 <;> rcases (show w % 2 = 0 ∨ w % 2 = 1 by omega) with h2 | h2
    · omega
    · exfalso
      obtain ⟨i, rfl⟩ : ∃ i, a = 2 * i := ⟨a / 2, by omega⟩
      obtain ⟨j, rfl⟩ : ∃ j, w = 2 * j + 1 := ⟨w / 2, by omega⟩
      have e1 : 2 * i * (2 * i) = 4 * (i * i) := by grind
      have e2 : (2 * j + 1) * (2 * j + 1) = 4 * (j * j) + 4 * j + 1 := by grind
      omega
    · exfalso
      obtain ⟨i, rfl⟩ : ∃ i, a = 2 * i + 1 := ⟨a / 2, by omega⟩
      obtain ⟨j, rfl⟩ : ∃ j, w = 2 * j := ⟨w / 2, by omega⟩
      have e1 : 2 * j * (2 * j) = 4 * (j * j) := by grind
      have e2 : (2 * i + 1) * (2 * i + 1) = 4 * (i * i) + 4 * i + 1 := by grind
      omega
    · omega
  obtain ⟨k, hk⟩ : ∃ k, a = 2 * k - w := ⟨(a + w) / 2, by omega⟩
  refine ⟨w - k, -k, by omega, ?_, by omega⟩
  subst hk
  have : 4 * b = 4 * ((w - k) * -k) := by grind
  omega
def fin2 : Bool := (List.range 9).all fun i => (List.range 37).all fun j => (List.range 23).all fun k =>
  let u : Int := (i : Int) - 4; let s : Int := (j : Int) - 18; let w : Int := k
  decide (s * (s + 2 * u) ≠ w * w) || decide (u = 0) || decide (s = 0) || decide (s + 2 * u = 0) || decide (u * u = 9 ∧ (s * s = 4 ∨ s * s = 64)) || decide (u * u = 16 ∧ (s * s = 1 ∨ s * s = 81))
theorem fin2_ok : fin2 = true := by decide +kernel
def fin3 : Bool := (List.range 35).all fun i => (List.range 59).all fun j => (List.range 29).all fun k =>
  let f : Int := (i : Int) - 17; let h : Int := (j : Int) - 29; let w : Int := k
  decide (f * (f + h) ≠ w * w) || decide (f = 0) || decide (h = 0) || decide (f + h = 0) || decide (300 < f * f * (f * f - h * h)) || decide (f * f * (f * f - h * h) < -300) || decide (f * f * (f * f - h * h) = 0) || decide (300 < h * h - 2 * (f * f)) || decide (h * h - 2 * (f * f) < -300) ||
  decide ((h * h - 2 * (f * f) = -23 ∧ f * f * (f * f - h * h) = 112) ∨ (h * h - 2 * (f * f) = -7 ∧ f * f * (f * f - h * h) = -144) ∨ (h * h - 2 * (f * f) = 7 ∧ f * f * (f * f - h * h) = -8) ∨ (h * h - 2 * (f * f) = 28 ∧ f * f * (f * f - h * h) = -128) ∨ (h * h - 2 * (f * f) = 62 ∧ f * f * (f * f - h * h) = -63) ∨ (h * h - 2 * (f * f) = 223 ∧ f * f * (f * f - h * h) = -224))
theorem fin3_ok : fin3 = true := by decide +kernel
end
section
open Go Go.RowKit Go.Lib

theorem fin2_at {u s w : Int} (hu : -4 ≤ u ∧ u ≤ 4) (hs : -18 ≤ s ∧ s ≤ 18) (hw : 0 ≤ w ∧ w ≤ 22) (h : s * (s + 2 * u) = w * w) (u0 : u ≠ 0) (s0 : s ≠ 0) (z0 : s + 2 * u ≠ 0) : (u * u = 9 ∧ (s * s = 4 ∨ s * s = 64)) ∨ (u * u = 16 ∧ (s * s = 1 ∨ s * s = 81)) := by
  have h1 := List.all_eq_true.1 (List.all_eq_true.1 (List.all_eq_true.1 fin2_ok (u + 4).toNat (List.mem_range.2 (by omega))) (s + 18).toNat (List.mem_range.2 (by omega))) w.toNat (List.mem_range.2 (by omega))
  dsimp only at h1
  rw [show (((u + 4).toNat : Nat) : Int) - 4 = u by omega, show (((s + 18).toNat : Nat) : Int) - 18 = s by omega, show ((w.toNat : Nat) : Int) = w by omega] at h1
  simp only [Bool.or_eq_true, decide_eq_true_eq] at h1
  rcases h1 with ((((h1 | h1) | h1) | h1) | h1) | h1
  · exact absurd h h1
  · exact absurd h1 u0
  · exact absurd h1 s0
  · exact absurd h1 z0
  · exact .inl h1
  · exact .inr h1
theorem fin3_at {f h w : Int} (hf : -17 ≤ f ∧ f ≤ 17) (hh : -29 ≤ h ∧ h ≤ 29) (hw : 0 ≤ w ∧ w ≤ 28) (e : f * (f + h) = w * w) (f0 : f ≠ 0) (h0 : h ≠ 0) (z0 : f + h ≠ 0)
    (b1 : f * f * (f * f - h * h) ≤ 300) (b2 : -300 ≤ f * f * (f * f - h * h)) (b0 : f * f * (f * f - h * h) ≠ 0) (a1 : h * h - 2 * (f * f) ≤ 300) (a2 : -300 ≤ h * h - 2 * (f * f)) :
    (h * h - 2 * (f * f) = -23 ∧ f * f * (f * f - h * h) = 112) ∨ (h * h - 2 * (f * f) = -7 ∧ f * f * (f * f - h * h) = -144) ∨ (h * h - 2 * (f * f) = 7 ∧ f * f * (f * f - h * h) = -8) ∨ (h * h - 2 * (f * f) = 28 ∧ f * f * (f * f - h * h) = -128) ∨ (h * h - 2 * (f * f) = 62 ∧ f * f * (f * f - h * h) = -63) ∨ (h * h - 2 * (f * f) = 223 ∧ f * f * (f * f - h * h) = -224) := by
  have h1 := List.all_eq_true.1 (List.all_eq_true.1 (List.all_eq_true.1 fin3_ok (f + 17).toNat (List.mem_range.2 (by omega))) (h + 29).toNat (List.mem_range.2 (by omega))) w.toNat (List.mem_range.2 (by omega))
  dsimp only at h1
  rw [show (((f + 17).toNat : Nat) : Int) - 17 = f by omega, show (((h + 29).toNat : Nat) : Int) - 29 = h by omega, show ((w.toNat : Nat) : Int) = w by omega] at h1
  simp only [Bool.or_eq_true, decide_eq_true_eq] at h1
  generalize f * f * (f * f - h * h) = B at *
  generalize h * h - 2 * (f * f) = A at *
  rcases h1 with ((((((((h1 | h1) | h1) | h1) | h1) | h1) | h1) | h1) | h1) | h1
  · exact absurd e h1
  · exact absurd h1 f0
  · exact absurd h1 h0
  · exact absurd h1 z0
  · omega
  · omega
  · omega
  · omega
  · omega
  · exact h1
/-- The root of a square below a bound. -/
theorem root_bnd {z m : Int} (hz : IsSq z) (hm : 0 ≤ m) (h : z < (m + 1) * (m + 1)) : ∃ w, 0 ≤ w ∧ w ≤ m ∧ z = w * w := by
  obtain ⟨c, rfl⟩ := hz
  have h1 := sq_bnd hm h
  rcases Int.le_total 0 c with h2 | h2
  · exact ⟨c, h2, h1.2, rfl⟩
  · exact ⟨-c, by omega, by omega, by rw [Int.neg_mul_neg]⟩
/-! ### The square case: b = t², a + 2 t = s², t = u² -/
theorem sel_u {a b u s : Int} {X Y : List Int} (h : Sel a b X Y) (hb : b = u * u * (u * u)) (ha : a = s * s - 2 * (u * u)) : (¬ IsSq (s * (s + 2 * u)) ∧ ¬ IsSq (s * (s - 2 * u))) ∨ ((u * u = 9 ∧ (s * s = 4 ∨ s * s = 64)) ∨ (u * u = 16 ∧ (s * s = 1 ∨ s * s = 81))) := by
  have hb2 := h.b2
  have ha1 := h.a1; have ha2 := h.a2
  have hc : a * a - 4 * b = s * s * ((s + 2 * u) * (s - 2 * u)) := by rw [ha, hb]; grind
  have hc0 := h.c0
  rw [hc] at hc0
  have s0 : s ≠ 0 := by rintro rfl; simp at hc0
  have p0 : s + 2 * u ≠ 0 := fun e => hc0 (by rw [e]; simp)
  have m0 : s - 2 * u ≠ 0 := fun e => hc0 (by rw [e]; simp)
  have hb0 := h.b0
  have u0 : u ≠ 0 := by rintro rfl; rw [hb] at hb0; simp at hb0
  have huu : u * u ≤ 17 := (sq_bnd (s := u * u) (m := 17) (by omega) (by omega)).2
  have hu := sq_bnd (s := u) (m := 4) (by omega) (by omega)
  have hs := sq_bnd (s := s) (m := 18) (by omega) (by omega)
  have bd : ∀ v : Int, -4 ≤ v → v ≤ 4 → s * (s + 2 * v) < (22 + 1) * (22 + 1) := by
    intro v h1 h2
    have := (mul_bd s (s + 2 * v) 18 26 hs.1 hs.2 (by omega) (by omega)).2
    omega
  by_cases q1 : IsSq (s * (s + 2 * u))
  · obtain ⟨w, w0, w1, hw⟩ := root_bnd q1 (m := 22) (by omega) (bd u hu.1 hu.2)
    exact .inr (fin2_at hu hs ⟨w0, w1⟩ hw u0 s0 p0)
  · by_cases q2 : IsSq (s * (s - 2 * u))
    · have e : s * (s + 2 * -u) = s * (s - 2 * u) := by grind
      obtain ⟨w, w0, w1, hw⟩ := root_bnd q2 (m := 22) (by omega) (by rw [← e]; exact bd (-u) (by omega) (by omega))
      have h3 := fin2_at (u := -u) (s := s) (w := w) (by omega) hs ⟨w0, w1⟩ (by rw [e]; exact hw) (by omega) s0 (by omega)
      rw [Int.neg_mul_neg] at h3
      exact .inr h3
    · exact .inl ⟨q1, q2⟩
theorem sel_z {a b u s : Int} {X Y : List Int} (h : Sel a b X Y) (hb : b = u * u * (u * u)) (ha : a = s * s - 2 * (u * u)) : (s * (s + 2 * u) ≠ 0 ∧ s * (s - 2 * u) ≠ 0) ∧ clV (s * (s + 2 * u)) ∈ Y ∧ clV (s * (s - 2 * u)) ∈ Y ∧ s * (s + 2 * u) * (s * (s - 2 * u)) = a * a - 4 * b := by
  have hc : s * (s + 2 * u) * (s * (s - 2 * u)) = a * a - 4 * b := by rw [ha, hb]; grind
  have hc0 := h.c0
  rw [← hc] at hc0
  have z1 : s * (s + 2 * u) ≠ 0 := fun e => hc0 (by rw [e]; simp)
  have z2 : s * (s - 2 * u) ≠ 0 := fun e => hc0 (by rw [e]; simp)
  refine ⟨⟨z1, z2⟩, h.f1 _ (2 * u * s * (s + 2 * u)) z1 ⟨_, hc.symm⟩ ?_, h.f1 _ (2 * u * s * (s - 2 * u)) z2 ⟨s * (s + 2 * u), by rw [← hc]; grind⟩ ?_, hc⟩
  · rw [ha, hb]; grind
  · rw [ha, hb]; grind
theorem sel_t {a t : Int} {X Y : List Int} (h : Sel a (t * t) X Y) : (t ≠ 0 ∧ a + 2 * t ≠ 0 ∧ a - 2 * t ≠ 0) ∧ (a + 2 * t) * (a - 2 * t) = a * a - 4 * (t * t) ∧ clV (a + 2 * t) ∈ Y ∧ clV (a - 2 * t) ∈ Y ∧ (∀ s, a + 2 * t = s * s → clV t ∈ X) ∧ (∀ r, a - 2 * t = r * r → clV (-t) ∈ X) := by
  have hc : (a + 2 * t) * (a - 2 * t) = a * a - 4 * (t * t) := by grind
  have hc0 := h.c0
  rw [← hc] at hc0
  have x1 : a + 2 * t ≠ 0 := fun e => hc0 (by rw [e]; simp)
  have x2 : a - 2 * t ≠ 0 := fun e => hc0 (by rw [e]; simp)
  have t0 : t ≠ 0 := by rintro rfl; exact h.b0 rfl
  refine ⟨⟨t0, x1, x2⟩, hc, h.f1 _ 0 x1 ⟨_, hc.symm⟩ (by grind), h.f1 _ 0 x2 ⟨a + 2 * t, by rw [← hc]; grind⟩ (by grind), fun s hs => h.f0 t (t * s) t0 ⟨t, rfl⟩ ?_, fun r hr => h.f0 (-t) (t * r) (by omega) ⟨-t, by grind⟩ ?_⟩
  · rw [show t * s * (t * s) = t * t * (s * s) by grind, ← hs]; grind
  · rw [show t * r * (t * r) = t * t * (r * r) by grind, ← hr]; grind
theorem sel_IIa {a t : Int} {X Y : List Int} (h : Sel a (t * t) X Y) (ht : 0 < t) (nc : ¬ IsSq (a * a - 4 * (t * t))) : 2 ≤ lgV X.length + lgV Y.length := by
  obtain ⟨⟨t0, x10, x20⟩, hc, m1, m2, ft, fn⟩ := sel_t h
  have Y1 := gr_two h.gy h.c0 h.fc nc
  by_cases q1 : IsSq (a + 2 * t)
  · obtain ⟨s, hs⟩ := q1
    by_cases qt : IsSq t
    · obtain ⟨u, rfl⟩ := qt
      have ha : a = s * s - 2 * (u * u) := by omega
      obtain ⟨⟨z10, z20⟩, k1, k2, hz⟩ := sel_z h rfl ha
      rcases sel_u h rfl ha with ⟨n1, n2⟩ | hex
      · have := gr_four h.gy z10 z20 h.c0 k1 k2 h.fc n1 n2 nc (by rw [hz]; exact nc) (by rw [← hz]; exact nsq_mul z10 n2) (by rw [← hz, Int.mul_comm (s * (s + 2 * u))]; exact nsq_mul z20 n1)
        omega
      · have fin : ∀ x y, x ≠ 0 → x ∣ u * u * (u * u) → x * (x * x + a * x + u * u * (u * u)) = y * y → ¬ IsSq x → 2 ≤ lgV X.length + lgV Y.length := fun x y h1 h2 h3 h4 => by
          have := gr_two h.gx h1 (h.f0 x y h1 h2 h3) h4
          omega
        rcases hex with ⟨e1, e2 | e2⟩ | ⟨e1, e2 | e2⟩ <;> rw [e1, e2] at ha <;> subst ha <;> rw [e1] at fin
        · exact fin 3 12 (by decide) (by decide) (by decide) (nsq_btw (m := 1) (by decide) (by decide) (by decide))
        · exact fin (-27) 108 (by decide) (by decide) (by decide) (nsq_neg (by decide))
        · exact fin 8 24 (by decide) (by decide) (by decide) (nsq_btw (m := 2) (by decide) (by decide) (by decide))
        · exact fin (-32) 96 (by decide) (by decide) (by decide) (nsq_neg (by decide))
    · have := gr_two h.gx t0 (ft s hs) qt
      omega
  · by_cases q2 : IsSq (a - 2 * t)
    · obtain ⟨r, hr⟩ := q2
      have := gr_two h.gx (x := -t) (by omega) (fn r hr) (nsq_neg (by omega))
      omega
    · have := gr_four h.gy x10 x20 h.c0 m1 m2 h.fc q1 q2 nc (by rw [hc]; exact nc) (by rw [← hc]; exact nsq_mul x10 q2) (by rw [← hc, Int.mul_comm (a + 2 * t)]; exact nsq_mul x20 q1)
      omega
end
section
open Go Go.RowKit Go.Lib

def exL (a b : Int) : Prop := (a = -23 ∧ b = 112) ∨ (a = -7 ∧ b = -144) ∨ (a = 7 ∧ b = -8) ∨ (a = 28 ∧ b = -128) ∨ (a = 62 ∧ b = -63) ∨ (a = 223 ∧ b = -224)
theorem sel_f {a b f h : Int} {X Y : List Int} (S : Sel a b X Y) (hb : b = f * f * (f * f - h * h)) (ha : a = h * h - 2 * (f * f)) (h0 : h ≠ 0) : (¬ IsSq (f * (f + h)) ∧ ¬ IsSq (f * (f - h))) ∨ exL a b := by
  have b1 := S.b1; have b2 := S.b2; have a1 := S.a1; have a2 := S.a2; have b0 := S.b0
  have f0 : f ≠ 0 := by rintro rfl; rw [hb] at b0; simp at b0
  have e0 : f * f - h * h ≠ 0 := fun e => b0 (by rw [hb, e]; simp)
  have p0 : f + h ≠ 0 := fun e => e0 (by rw [show f * f - h * h = (f + h) * (f - h) by grind, e]; simp)
  have m0 : f - h ≠ 0 := fun e => e0 (by rw [show f * f - h * h = (f + h) * (f - h) by grind, e]; simp)
  have hff : f * f ≤ 300 := by
    have h1 : (f * f).natAbs ≤ b.natAbs := by
      rw [hb, Int.natAbs_mul (f * f)]
      exact Nat.le_mul_of_pos_right _ (by omega)
    omega
  have hf := sq_bnd (s := f) (m := 17) (by omega) (by omega)
  have hf289 := (mul_bd f f 17 17 hf.1 hf.2 hf.1 hf.2).2
  have hh := sq_bnd (s := h) (m := 29) (by omega) (by omega)
  have bd : ∀ v : Int, -29 ≤ v → v ≤ 29 → f * (f + v) < (28 + 1) * (28 + 1) := by
    intro v h1 h2
    have := (mul_bd f (f + v) 17 46 hf.1 hf.2 (by omega) (by omega)).2
    omega
  unfold exL
  rw [ha, hb] at *
  by_cases q1 : IsSq (f * (f + h))
  · obtain ⟨w, w0, w1, hw⟩ := root_bnd q1 (m := 28) (by omega) (bd h hh.1 hh.2)
    exact .inr (fin3_at hf hh ⟨w0, w1⟩ hw f0 h0 p0 b2 b1 b0 a2 a1)
  · by_cases q2 : IsSq (f * (f - h))
    · have e : f * (f + -h) = f * (f - h) := by grind
      obtain ⟨w, w0, w1, hw⟩ := root_bnd q2 (m := 28) (by omega) (by rw [← e]; exact bd (-h) (by omega) (by omega))
      have h3 := fin3_at (f := f) (h := -h) (w := w) hf (by omega) ⟨w0, w1⟩ (by rw [e]; exact hw) f0 (by omega) (by omega) (by rw [Int.neg_mul_neg]; exact b2) (by rw [Int.neg_mul_neg]; exact b1) (by rw [Int.neg_mul_neg]; exact b0) (by rw [Int.neg_mul_neg]; exact a2) (by rw [Int.neg_mul_neg]; exact a1)
      rw [Int.neg_mul_neg] at h3
      exact .inr h3
    · exact .inl ⟨q1, q2⟩
theorem sel_fz {a b f h : Int} {X Y : List Int} (S : Sel a b X Y) (hb : b = f * f * (f * f - h * h)) (ha : a = h * h - 2 * (f * f)) : (f * (f + h) ≠ 0 ∧ f * (f - h) ≠ 0) ∧ clV (f * (f + h)) ∈ X ∧ clV (f * (f - h)) ∈ X ∧ f * (f + h) * (f * (f - h)) = b := by
  have hz : f * (f + h) * (f * (f - h)) = b := by rw [hb]; grind
  have b0 := S.b0
  have z1 : f * (f + h) ≠ 0 := fun e => b0 (by rw [← hz, e]; simp)
  have z2 : f * (f - h) ≠ 0 := fun e => b0 (by rw [← hz, e]; simp)
  refine ⟨⟨z1, z2⟩, S.f0 _ (f * h * (f + h)) z1 ⟨_, hz.symm⟩ ?_, S.f0 _ (f * h * (f - h)) z2 ⟨f * (f + h), by rw [← hz]; grind⟩ ?_, hz⟩
  · rw [ha, hb]; grind
  · rw [ha, hb]; grind
theorem sel_III1 {a b f e : Int} {X Y : List Int} (S : Sel a b X Y) (ha : a = -(f * f + e)) (hb : b = f * f * e) (nb : ¬ IsSq b) : 2 ≤ lgV X.length + lgV Y.length := by
  have X1 := gr_two S.gx S.b0 S.fb nb
  have hc : a * a - 4 * b = (f * f - e) * (f * f - e) := by rw [ha, hb]; grind
  have hc0 := S.c0
  rw [hc] at hc0
  have z0 : f * f - e ≠ 0 := fun h => hc0 (by rw [h]; rfl)
  have hz := S.f1 (f * f - e) (2 * f * (f * f - e)) z0 ⟨_, hc⟩ (by rw [ha, hb]; grind)
  by_cases q : IsSq (f * f - e)
  · obtain ⟨h, hh⟩ := q
    obtain rfl : e = f * f - h * h := by omega
    have h0 : h ≠ 0 := by rintro rfl; exact z0 (by omega)
    have ha2 : a = h * h - 2 * (f * f) := by omega
    obtain ⟨⟨z1, z2⟩, k1, k2, hp⟩ := sel_fz S hb ha2
    rcases sel_f S hb ha2 h0 with ⟨n1, n2⟩ | hex
    · have := gr_four S.gx z1 z2 S.b0 k1 k2 S.fb n1 n2 nb (by rw [hp]; exact nb) (by rw [← hp]; exact nsq_mul z1 n2) (by rw [← hp, Int.mul_comm (f * (f + h))]; exact nsq_mul z2 n1)
      omega
    · clear hc hc0 z0 hz hh hb ha ha2 k1 k2 hp nb
      rcases hex with ⟨rfl, rfl⟩ | ⟨rfl, rfl⟩ | ⟨rfl, rfl⟩ | ⟨rfl, rfl⟩ | ⟨rfl, rfl⟩ | ⟨rfl, rfl⟩
      · have := gr_two S.gy (by decide) (S.f1 (-27) 108 (by decide) (by decide) (by decide)) (nsq_neg (by decide)); omega
      · have := gr_two S.gy (by decide) (S.f1 5 60 (by decide) (by decide) (by decide)) (nsq_btw (m := 2) (by decide) (by decide) (by decide)); omega
      · have := gr_two S.gy (by decide) (S.f1 3 12 (by decide) (by decide) (by decide)) (nsq_btw (m := 1) (by decide) (by decide) (by decide)); omega
      · have := gr_two S.gy (by decide) (S.f1 12 96 (by decide) (by decide) (by decide)) (nsq_btw (m := 3) (by decide) (by decide) (by decide)); omega
      · have := gr_two S.gy (by decide) (S.f1 32 192 (by decide) (by decide) (by decide)) (nsq_btw (m := 5) (by decide) (by decide) (by decide)); omega
      · have := gr_two S.gy (by decide) (S.f1 135 1080 (by decide) (by decide) (by decide)) (nsq_btw (m := 11) (by decide) (by decide) (by decide)); omega
  · have := gr_two S.gy z0 hz q
    omega
theorem sel_roots {a b e g : Int} {X Y : List Int} (S : Sel a b X Y) (ha : a = -(e + g)) (hb : b = e * g) : (e ≠ 0 ∧ g ≠ 0) ∧ clV e ∈ X ∧ clV g ∈ X := by
  have b0 := S.b0
  have e0 : e ≠ 0 := by rintro rfl; exact b0 (by rw [hb]; simp)
  have g0 : g ≠ 0 := by rintro rfl; exact b0 (by rw [hb]; simp)
  exact ⟨⟨e0, g0⟩, S.f0 e 0 e0 ⟨g, hb⟩ (by rw [ha, hb]; grind), S.f0 g 0 g0 ⟨e, by rw [hb]; grind⟩ (by rw [ha, hb]; grind)⟩
theorem sel_III {a b : Int} {X Y : List Int} (S : Sel a b X Y) (nb : ¬ IsSq b) (sc : IsSq (a * a - 4 * b)) : 2 ≤ lgV X.length + lgV Y.length := by
  obtain ⟨w, hw⟩ := sc
  obtain ⟨e, g, ha, hb, -⟩ := split_two hw
  obtain ⟨⟨e0, g0⟩, k1, k2⟩ := sel_roots S ha hb
  by_cases q1 : IsSq e
  · obtain ⟨f, rfl⟩ := q1
    exact sel_III1 S ha hb nb
  · by_cases q2 : IsSq g
    · obtain ⟨f, rfl⟩ := q2
      exact sel_III1 (f := f) (e := e) S (by omega) (by rw [hb]; grind) nb
    · have := gr_four S.gx e0 g0 S.b0 k1 k2 S.fb q1 q2 nb (by rw [← hb]; exact nb) (by rw [hb]; exact nsq_mul e0 q2) (by rw [hb, Int.mul_comm e]; exact nsq_mul g0 q1)
      omega
theorem sel_four {X : List Int} {z : Int} (hg : GrG X) (z0 : z ≠ 0) (k1 : clV z ∈ X) (k2 : clV (-z) ∈ X) (n1 : ¬ IsSq z) (n2 : ¬ IsSq (-z)) : 2 ≤ lgV X.length := by
  have hp : 0 < z * z := by
    have h1 := sq_pos0 z
    have h2 := Int.mul_ne_zero z0 z0
    omega
  exact gr_four hg z0 (y := -z) (by omega) (z := -1) (by decide) k1 k2 (gr_neg hg z0 k1 k2) n1 n2 (nsq_neg (by decide)) (nsq_neg (by rw [Int.mul_neg]; omega)) (by rw [show z * -1 = -z by omega]; exact n2) (by rw [show -z * -1 = z by omega]; exact n1)
theorem exL_nsq {a b : Int} (h : exL a b) : ¬ IsSq b := by
  rcases h with ⟨-, rfl⟩ | ⟨-, rfl⟩ | ⟨-, rfl⟩ | ⟨-, rfl⟩ | ⟨-, rfl⟩ | ⟨-, rfl⟩
  · exact nsq_btw (m := 10) (by decide) (by decide) (by decide)
  all_goals exact nsq_neg (by decide)
theorem sel_IIb {a t : Int} {X Y : List Int} (S : Sel a (t * t) X Y) (ht : 0 < t) (sc : IsSq (a * a - 4 * (t * t))) : 2 ≤ lgV X.length + lgV Y.length := by
  obtain ⟨⟨t0, x10, x20⟩, hc, m1, m2, ft, fn⟩ := sel_t S
  obtain ⟨w, hw⟩ := sc
  by_cases q1 : IsSq (a + 2 * t)
  · obtain ⟨s, hs⟩ := q1
    have s0 : s ≠ 0 := by rintro rfl; exact x10 hs
    have q2 : IsSq (a - 2 * t) := IsSq.cancel (y := s) ⟨w, by rw [← hw, ← hc, hs]; grind⟩ s0
    obtain ⟨r, hr⟩ := q2
    have k1 := ft s hs
    have k2 := fn r hr
    by_cases qt : IsSq t
    · obtain ⟨u, rfl⟩ := qt
      have ha : a = s * s - 2 * (u * u) := by omega
      have X1 := gr_two S.gx (x := -1) (by decide) (gr_neg S.gx t0 k1 k2) (nsq_neg (by decide))
      obtain ⟨⟨z10, -⟩, j1, -, -⟩ := sel_z S rfl ha
      rcases sel_u S rfl ha with ⟨n1, -⟩ | hex
      · have := gr_two S.gy z10 j1 n1
        omega
      · exfalso
        have hr2 : s * s - 4 * (u * u) = r * r := by omega
        have hrp := sq_pos0 r
        rcases hex with ⟨e1, e2 | e2⟩ | ⟨e1, e2 | e2⟩
        · omega
        · exact nsq_btw (x := r * r) (m := 5) (by decide) (by omega) (by omega) ⟨r, rfl⟩
        · omega
        · exact nsq_btw (x := r * r) (m := 4) (by decide) (by omega) (by omega) ⟨r, rfl⟩
    · have := sel_four S.gx t0 k1 k2 qt (nsq_neg (by omega))
      omega
  · have Y1 := gr_two S.gy x10 m1 q1
    obtain ⟨e, g, ha, hb, -⟩ := split_two hw
    obtain ⟨⟨e0, g0⟩, k1, k2⟩ := sel_roots S ha hb
    by_cases q2 : IsSq e
    · obtain ⟨f, rfl⟩ := q2
      have f0 : f ≠ 0 := by rintro rfl; exact e0 rfl
      obtain ⟨k, rfl⟩ : IsSq g := IsSq.cancel (y := f) ⟨t, by rw [hb]; grind⟩ f0
      have hcz : a * a - 4 * (t * t) = (f * f - k * k) * (f * f - k * k) := by rw [ha, hb]; grind
      have hc0 := S.c0
      rw [hcz] at hc0
      have z0 : f * f - k * k ≠ 0 := fun h => hc0 (by rw [h]; rfl)
      have j1 := S.f1 (f * f - k * k) (2 * f * (f * f - k * k)) z0 ⟨_, hcz⟩ (by rw [hcz, ha]; grind)
      have j2 := S.f1 (-(f * f - k * k)) (2 * k * (f * f - k * k)) (by omega) ⟨-(f * f - k * k), by rw [hcz]; grind⟩ (by rw [hcz, ha]; grind)
      have fin : ∀ p h : Int, h ≠ 0 → t * t = p * p * (p * p - h * h) → a = h * h - 2 * (p * p) → 2 ≤ lgV X.length + lgV Y.length := fun p h h0 e1 e2 => by
        obtain ⟨⟨z1, -⟩, i1, -, -⟩ := sel_fz S e1 e2
        rcases sel_f S e1 e2 h0 with ⟨n1, -⟩ | hex
        · have := gr_two S.gx z1 i1 n1
          omega
        · exact absurd ⟨t, rfl⟩ (exL_nsq hex)
      by_cases n1 : IsSq (f * f - k * k)
      · obtain ⟨h, hh⟩ := n1
        exact fin f h (by rintro rfl; exact z0 hh) (by rw [hb, show f * f - h * h = k * k by omega]) (by omega)
      · by_cases n2 : IsSq (-(f * f - k * k))
        · obtain ⟨h, hh⟩ := n2
          exact fin k h (by rintro rfl; exact z0 (by omega)) (by rw [hb, show k * k - h * h = f * f by omega, Int.mul_comm]) (by omega)
        · have := sel_four S.gy z0 j1 j2 n1 n2
          omega
    · have := gr_two S.gx e0 k1 q2
      omega
theorem sel_two {a b : Int} {X Y : List Int} (S : Sel a b X Y) : 2 ≤ lgV X.length + lgV Y.length := by
  by_cases qb : IsSq b
  · obtain ⟨t, rfl⟩ := qb
    have t0 : t ≠ 0 := by rintro rfl; exact S.b0 rfl
    have e : t * t = (t.natAbs : Int) * (t.natAbs : Int) := (Int.natAbs_mul_self' t).symm
    rw [e] at S
    by_cases qc : IsSq (a * a - 4 * ((t.natAbs : Int) * (t.natAbs : Int)))
    · exact sel_IIb S (by omega) qc
    · exact sel_IIa S (by omega) qc
  · by_cases qc : IsSq (a * a - 4 * b)
    · exact sel_III S qb qc
    · have h1 := gr_two S.gx S.b0 S.fb qb
      have h2 := gr_two S.gy S.c0 S.fc qc
      omega
end
section
open Go Go.RowKit Go.Lib

theorem sel_of {a b : Int} (h : twB a b = true) (t0 : (smV a b false).2 = true) (t1 : (smV a b true).2 = true) (g0 : grB (smV a b false).1 = true) (g1 : grB (smV a b true).1 = true) : Sel a b (smV a b false).1 (smV a b true).1 := by
  have eA : sdA a b false = a := rfl
  have eB : sdB a b false = b := rfl
  have eA1 : sdA a b true = -2 * a := rfl
  have eB1 : sdB a b true = a * a - 4 * b := rfl
  obtain ⟨⟨a1, a2⟩, ⟨b1, b2⟩, b0, hab⟩ := twB_bd h
  refine ⟨gr_iff.1 g0, gr_iff.1 g1, ?_, ?_, fun x y h0 hx hy => ?_, fun x y h0 hx hy => ?_, a1, a2, b1, b2, b0, by omega⟩
  · have := b_in_sm h t0; rwa [eB] at this
  · have := b_in_sm h t1; rwa [eB1] at this
  · exact x_in_sm h t0 h0 (by rw [eB]; exact hx) (by rw [eA, eB]; exact hy)
  · exact x_in_sm h t1 h0 (by rw [eB1]; exact hx) (y := y) (by rw [eA1, eB1, ← hy]; grind)
structure RbT (a b : Int) (M : Nat) : Prop where
  k0 : (fgV a b false M).2 = true
  k1 : (fgV a b true M).2 = true
  t0 : (smV a b false).2 = true
  t1 : (smV a b true).2 = true
  g0 : grB (smV a b false).1 = true
  g1 : grB (smV a b true).1 = true
  lo : (rbV a b M).1 = max (lgI (fgV a b false M) + lgI (fgV a b true M) - 2) 0
  hi : (rbV a b M).2.1 = (rkV (smV a b false).1).1 + (rkV (smV a b true).1).1 - 2
theorem rk_gr {l : List Int} (h : (rkV l).2 = true) : grB l = true := by
  cases hg : grB l
  · rw [rk_no hg] at h; exact Bool.noConfusion h
  · rfl
theorem rb_told {a b : Int} {M : Nat} (h : (rbV a b M).2.2 = true) : RbT a b M := by
  by_cases hc : (frV a b M).2.2 = true ∧ (srV a b).2.2 = true
  · have hr : rbV a b M = (loV a b M, (srV a b).1 + (srV a b).2.1 - 2, true) := if_pos hc
    obtain ⟨h1, h2⟩ := hc
    by_cases hf : (fgV a b false M).2 = true ∧ (fgV a b true M).2 = true
    · have hfv : frV a b M = (lgI (fgV a b false M), lgI (fgV a b true M), true) := if_pos hf
      by_cases hs : ((smV a b false).2 = true ∧ (smV a b true).2 = true) ∧ ((rkV (smV a b false).1).2 = true ∧ (rkV (smV a b true).1).2 = true)
      · have hsv : srV a b = ((rkV (smV a b false).1).1, (rkV (smV a b true).1).1, true) := if_pos hs
        refine ⟨hf.1, hf.2, hs.1.1, hs.1.2, rk_gr hs.2.1, rk_gr hs.2.2, ?_, ?_⟩
        · rw [hr]; unfold loV; rw [hfv]
        · rw [hr, hsv]
      · rw [show srV a b = (0, 0, false) from if_neg hs] at h2
        exact Bool.noConfusion h2
    · rw [show frV a b M = (0, 0, false) from if_neg hf] at h1
      exact Bool.noConfusion h1
  · rw [show rbV a b M = (0, 0, false) from if_neg hc] at h
    exact Bool.noConfusion h
theorem rb_ok {a b : Int} {M : Nat} (h : twB a b = true) (told : (rbV a b M).2.2 = true) : 0 ≤ (rbV a b M).1 ∧ (rbV a b M).1 ≤ (rbV a b M).2.1 ∧ (rbV a b M).2.1 ≤ 20 := by
  obtain ⟨k0, k1, t0, t1, g0, g1, lo, hi⟩ := rb_told told
  have s2 := sel_two (sel_of h t0 t1 g0 g1)
  have l0 := fg_le h t0 g0 k0
  have l1 := fg_le h t1 g1 k1
  have r0 := rk_bd (smV a b false).1
  have r1 := rk_bd (smV a b true).1
  rw [lo, hi]
  have e0 : (rkV (smV a b false).1).1 = ((lgV (smV a b false).1.length : Nat) : Int) := by rw [rk_yes g0]
  have e1 : (rkV (smV a b true).1).1 = ((lgV (smV a b true).1.length : Nat) : Int) := by rw [rk_yes g1]
  omega
theorem re_eq (a b n : Int) : reI a b n = reS a b n := by
  unfold reI reS
  by_cases hc : askB a b n = true ∧ (curveB (pmA a b) (pmB a b) = true ∧ (rbV a b n.toNat).2.2 = true)
  · have hn := hc.1
    unfold askB at hn
    rw [Bool.and_eq_true] at hn
    have hb := rb_ok hn.1 hc.2.2
    have he : entB (pmA a b) (pmB a b) (rbV a b n.toNat).1 (rbV a b n.toNat).2.1 0 = true := by
      unfold entB
      rw [hc.2.1, Bool.true_and, decide_eq_true_eq]
      omega
    rw [if_pos hc, if_pos ⟨hc.1, hc.2, he⟩]
  · rw [if_neg hc, if_neg (fun h => hc ⟨h.1, h.2.1⟩)]
end
section
open Go Go.RowKit Go.Lib

theorem ok_s (a b : Int) (M : Nat) : (okS a b M 0 = true ∧ okS a b M 1 = true) ↔ (((smV a b false).2 = true ∧ (smV a b true).2 = true) ∧ ((fgV a b false M).2 = true ∧ (fgV a b true M).2 = true)) := by
  unfold okS
  rw [show decide ((0 : Nat) = 1) = false from rfl, show decide ((1 : Nat) = 1) = true from rfl, Bool.and_eq_true, Bool.and_eq_true]
  constructor
  · rintro ⟨⟨a, b⟩, c, d⟩; exact ⟨⟨a, c⟩, b, d⟩
  · rintro ⟨⟨a, c⟩, b, d⟩; exact ⟨⟨a, b⟩, c, d⟩
theorem rk_ok {l : List Int} (h : grB l = true) : (rkV l).2 = true := by rw [rk_yes h]
/-- Bounds are told exactly if all lists are. -/
theorem rb_iff {a b : Int} {M : Nat} (h : twB a b = true) (hd : TcD a b) : (rbV a b M).2.2 = true ↔ (okS a b M 0 = true ∧ okS a b M 1 = true) := by
  rw [ok_s]
  constructor
  · intro h1
    obtain ⟨k0, k1, t0, t1, -, -, -, -⟩ := rb_told h1
    exact ⟨⟨t0, t1⟩, k0, k1⟩
  · rintro ⟨⟨t0, t1⟩, k0, k1⟩
    have g0 := sm_gr h t0 (dv_drawn h hd false)
    have g1 := sm_gr h t1 (dv_drawn h hd true)
    have hf : (frV a b M).2.2 = true := by unfold frV; rw [if_pos ⟨k0, k1⟩]
    have hs : (srV a b).2.2 = true := by unfold srV; rw [if_pos ⟨⟨t0, t1⟩, rk_ok g0, rk_ok g1⟩]
    exact (rb_yes hs hf).1
theorem ask_tw {a b n : Int} (h : askB a b n = true) : twB a b = true := by
  unfold askB at h
  rw [Bool.and_eq_true] at h
  exact h.1
/-- The rank's flag is the count's. -/
theorem ok_one {a b n : Int} (hd : TcD a b) : (knV a b n).2 = (opV a b n).2 := by
  unfold knV opV
  by_cases h : askB a b n = true
  · have hi := rb_iff (M := n.toNat) (ask_tw h) hd
    by_cases h1 : (rbV a b n.toNat).2.2 = true
    · rw [if_pos ⟨h, h1⟩, if_pos ⟨h, hi.1 h1⟩]
    · rw [if_neg (fun h2 => h1 h2.2), if_neg (fun h2 => h1 (hi.2 h2.2))]
  · rw [if_neg (fun h2 => h h2.1), if_neg (fun h2 => h h2.1)]
theorem three_ok {a b n : Int} (h : (reS a b n).2 = true) : askB a b n = true ∧ curveB (pmA a b) (pmB a b) = true ∧ (rbV a b n.toNat).2.2 = true ∧ reS a b n = ((pmA a b, pmB a b, (rbV a b n.toNat).1, (rbV a b n.toNat).2.1), true) := by
  unfold reS at h ⊢
  by_cases hc : askB a b n = true ∧ (curveB (pmA a b) (pmB a b) = true ∧ (rbV a b n.toNat).2.2 = true)
  · rw [if_pos hc]
    exact ⟨hc.1, hc.2.1, hc.2.2, rfl⟩
  · rw [if_neg hc] at h
    exact Bool.noConfusion h
/-- Where the entry is told. -/
theorem entry_facts {a b n x y lo hi : Int} (h : reS a b n = ((x, y, lo, hi), true)) : askB a b n = true ∧ rbV a b n.toNat = (lo, hi, true) ∧ entB x y lo hi 0 = true ∧ (knV a b n).2 = true := by
  obtain ⟨h1, h2, h3, h4⟩ := three_ok (by rw [h])
  rw [h] at h4
  injection h4 with h4 _
  injection h4 with e1 h4
  injection h4 with e2 h4
  injection h4 with e3 e4
  have hb := rb_ok (ask_tw h1) h3
  refine ⟨h1, ?_, ?_, ?_⟩
  · rw [e3, e4, ← h3]
  · rw [e1, e2, e3, e4]
    unfold entB
    rw [h2, Bool.true_and, decide_eq_true_eq]
    omega
  · unfold knV
    rw [if_pos ⟨h1, h3⟩]
theorem claim_facts {a b x y n : Int} {c : Bool} (h : chV a b x y n = (c, true)) : askB a b n = true ∧ ∃ lo hi : Int, rbV a b n.toNat = (lo, hi, true) ∧ c = (decide (x ≤ lo) && decide (hi ≤ y)) := by
  unfold chV at h
  by_cases hc : (askB a b n = true ∧ (insB x 0 20 = true ∧ insB y 0 20 = true)) ∧ (rbV a b n.toNat).2.2 = true
  · rw [if_pos hc] at h
    injection h with h _
    exact ⟨hc.1.1, (rbV a b n.toNat).1, (rbV a b n.toNat).2.1, by rw [← hc.2], h.symm⟩
  · rw [if_neg hc] at h
    injection h with _ h
    exact Bool.noConfusion h
theorem kn_at {a b : Int} {M : Nat} (h : twB a b = true) (h1 : 1 ≤ M) (h2 : M ≤ 60) (h3 : (rbV a b M).2.2 = true) : knV a b (M : Int) = ((rbV a b M).1 == (rbV a b M).2.1, true) := by
  have hask : askB a b (M : Int) = true := by
    unfold askB insB
    rw [h, Bool.true_and]
    exact decide_eq_true (by omega)
  unfold knV
  rw [Int.toNat_natCast, if_pos ⟨hask, h3⟩]
/-- Where the least search is told. -/
theorem ls_facts {a b : Int} (h : twB a b = true) : ∀ (f M : Nat) (s : Int), 1 ≤ M → M + f ≤ 61 → lsF a b f M = (s, true) →
    ∃ m : Nat, s = (m : Int) ∧ M ≤ m ∧ m < M + f ∧ knV a b (m : Int) = (true, true) ∧ (M < m → knV a b ((m : Int) - 1) = (false, true))
  | 0, M, s, _, _, hs => by
    rw [lsF] at hs
    injection hs with _ hs
    exact Bool.noConfusion hs
  | f + 1, M, s, h1, h2, hs => by
    by_cases ht : (rbV a b M).2.2 = true
    · by_cases he : (rbV a b M).1 = (rbV a b M).2.1
      · rw [ls_hit ht he] at hs
        injection hs with hs _
        refine ⟨M, hs.symm, Nat.le_refl _, by omega, ?_, fun h3 => absurd h3 (Nat.lt_irrefl _)⟩
        rw [kn_at h h1 (by omega) ht, he]
        simp
      · rw [ls_on ht he] at hs
        obtain ⟨m, e, h3, h4, h5, h6⟩ := ls_facts h f (M + 1) s (by omega) (by omega) hs
        refine ⟨m, e, by omega, by omega, h5, fun h7 => ?_⟩
        by_cases h8 : M + 1 < m
        · exact h6 h8
        · have h9 : m = M + 1 := by omega
          rw [h9, show ((M + 1 : Nat) : Int) - 1 = (M : Int) by omega, kn_at h h1 (by omega) ht]
          rw [show ((rbV a b M).1 == (rbV a b M).2.1) = false from beq_eq_false_iff_ne.2 he]
    · rw [ls_no (by cases h9 : (rbV a b M).2.2; rfl; exact absurd h9 ht)] at hs
      injection hs with _ hs
      exact Bool.noConfusion hs
theorem least_facts {a b n s : Int} (h : lsV a b n = (s, true)) : (1 ≤ s ∧ s ≤ n) ∧ n ≤ 60 ∧ knV a b s = (true, true) ∧ (1 < s → knV a b (s - 1) = (false, true)) := by
  unfold lsV at h
  by_cases hc : askB a b n = true
  · rw [if_pos hc] at h
    have hh := hc
    unfold askB at hh
    rw [Bool.and_eq_true] at hh
    obtain ⟨htw, hin⟩ := hh
    have hb := insB_true hin
    obtain ⟨m, rfl, h3, h4, h5, h6⟩ := ls_facts htw n.toNat 1 s (by omega) (by omega) h
    exact ⟨⟨by omega, by omega⟩, by omega, h5, fun h7 => h6 (by omega)⟩
  · rw [if_neg hc] at h
    injection h with _ h
    exact Bool.noConfusion h
theorem inc_len_eq {l m : List Int} (hl : l.Nodup) (hs : ∀ x ∈ l, x ∈ m) (h : m.length ≤ l.length) : ∀ x ∈ m, x ∈ l := mem_of_len hl hs h
/-- The open classes of a side: what is missing. -/
theorem op_zero {F S : List Int} (hF : F.Nodup) (hs : ∀ x ∈ F, x ∈ S) (hSn : S.Nodup) : (S.filter (fun d => !hasI F d)).length = 0 ↔ F.length = S.length := by
  rw [List.length_eq_zero_iff, List.filter_eq_nil_iff]
  constructor
  · intro h
    have h1 : ∀ x ∈ S, x ∈ F := fun x hx => by
      have := h x hx
      rw [Bool.not_eq_true', Bool.not_eq_false] at this
      exact has_iff.1 this
    exact Nat.le_antisymm (len_sub hF hs) (len_sub hSn h1)
  · intro h x hx hn
    have h1 := mem_of_len hF hs (by omega) x hx
    rw [Bool.not_eq_true'] at hn
    rw [has_iff.2 h1] at hn
    exact Bool.noConfusion hn
theorem gg_of {F : List Int} (h : GrG F) : GG F := ⟨h.inc.nodup, fun x hx => sqf_clB (h.cls x hx), h.one, h.cl⟩
/-- A part of a group that is a group is the whole or at most half of it. -/
theorem gr_half {F S : List Int} (hF : GrG F) (hS : GrG S) (hs : ∀ x ∈ F, x ∈ S) : F.length = S.length ∨ lgV F.length + 1 ≤ lgV S.length := by
  have hFn := hF.inc.nodup
  have hle := len_sub hFn hs
  by_cases h : ∀ x ∈ S, x ∈ F
  · exact .inl (Nat.le_antisymm hle (len_sub hS.inc.nodup h))
  · right
    obtain ⟨d, hd, hdF⟩ : ∃ d, d ∈ S ∧ d ∉ F := Classical.byContradiction (fun hno => h (fun x hx => Classical.byContradiction (fun hxF => hno ⟨x, hx, hxF⟩)))
    have hstep := (gg_of hF).step (sqf_clB (hS.cls d hd)) hdF
    have h2 := len_sub (m := S) hstep.nd (fun x hx => by
      rcases List.mem_append.1 hx with hx | hx
      · exact hs x hx
      · obtain ⟨y, hy, rfl⟩ := mem_pdL.1 hx
        exact hS.cl d hd y (hs y hy))
    unfold pdL at h2
    rw [List.length_append, List.length_map] at h2
    have h3 := hF.len.1
    have h4 := lg_mono (F.length + F.length) S.length h2
    rw [lg_step (n := F.length + F.length) (by omega), show (F.length + F.length) / 2 = F.length by omega] at h4
    omega
structure KnF (a b : Int) (N : Nat) (k : Bool) (o p q u v : Int) : Prop where
  fr : frV a b N = (p, q, true)
  sr : srV a b = (u, v, true)
  bp : 0 ≤ p ∧ p ≤ 6
  bq : 0 ≤ q ∧ q ≤ 6
  bu : 0 ≤ u ∧ u ≤ 6
  bv : 0 ≤ v ∧ v ≤ 6
  iff : o = 0 ↔ p + q = u + v
  kn : o = 0 → k = true
/-- Where the rank's bounds are told. -/
theorem known_facts {a b n o : Int} {k : Bool} (hk : knV a b n = (k, true)) (ho : opV a b n = (o, true)) : askB a b n = true ∧ ∃ p q u v : Int, KnF a b n.toNat k o p q u v := by
  unfold knV at hk
  by_cases hc : askB a b n = true ∧ (rbV a b n.toNat).2.2 = true
  · rw [if_pos hc] at hk
    injection hk with hk _
    obtain ⟨hask, hrb⟩ := hc
    have h := ask_tw hask
    refine ⟨hask, ?_⟩
    unfold opV at ho
    by_cases hc2 : askB a b n = true ∧ (okS a b n.toNat 0 = true ∧ okS a b n.toNat 1 = true)
    · rw [if_pos hc2] at ho
      injection ho with ho _
      generalize n.toNat = N at *
      obtain ⟨k0, k1, t0, t1, g0, g1, lo, hi⟩ := rb_told hrb
      have hS := sel_two (sel_of h t0 t1 g0 g1)
      have f0 := fg_gr h k0
      have f1 := fg_gr h k1
      have s0 := fg_sub h t0 g0 k0
      have s1 := fg_sub h t1 g1 k1
      have e0 := rk_yes g0
      have e1 := rk_yes g1
      have hfr : frV a b N = (lgI (fgV a b false N), lgI (fgV a b true N), true) := if_pos ⟨k0, k1⟩
      have hsr : srV a b = ((rkV (smV a b false).1).1, (rkV (smV a b true).1).1, true) := if_pos ⟨⟨t0, t1⟩, by rw [e0], by rw [e1]⟩
      have x0 := gr_half (gr_iff.1 f0) (gr_iff.1 g0) s0
      have x1 := gr_half (gr_iff.1 f1) (gr_iff.1 g1) s1
      have z0 := lg_mono _ _ (len_sub (gr_iff.1 f0).inc.nodup s0)
      have z1 := lg_mono _ _ (len_sub (gr_iff.1 f1).inc.nodup s1)
      have o0 := op_zero (gr_iff.1 f0).inc.nodup s0 (gr_iff.1 g0).inc.nodup
      have o1 := op_zero (gr_iff.1 f1).inc.nodup s1 (gr_iff.1 g1).inc.nodup
      have oc : ocS a b N 2 = ((smV a b false).1.filter (fun d => !hasI (fgV a b false N).1 d)).length + ((smV a b true).1.filter (fun d => !hasI (fgV a b true N).1 d)).length := by
        show 0 + (opL a b N 0).length + (opL a b N 1).length = _
        unfold opL
        rw [show decide ((0 : Nat) = 1) = false from rfl, show decide ((1 : Nat) = 1) = true from rfl, Nat.zero_add]
      rw [oc] at ho
      have bp := lgI_bd (s := false) (M := N) h
      have bq := lgI_bd (s := true) (M := N) h
      have bu := rk_bd (smV a b false).1
      have bv := rk_bd (smV a b true).1
      have u0 : (rkV (smV a b false).1).1 = ((lgV (smV a b false).1.length : Nat) : Int) := by rw [e0]
      have u1 : (rkV (smV a b true).1).1 = ((lgV (smV a b true).1.length : Nat) : Int) := by rw [e1]
      have iff9 : o = 0 ↔ lgI (fgV a b false N) + lgI (fgV a b true N) = (rkV (smV a b false).1).1 + (rkV (smV a b true).1).1 := by
        rw [u0, u1]
        unfold lgI
        constructor
        · intro h0
          have h1 := o0.1 (by omega)
          have h2 := o1.1 (by omega)
          rw [h1, h2]
        · intro h0
          have h1 : (fgV a b false N).1.length = (smV a b false).1.length := by
            rcases x0 with h1 | h1
            · exact h1
            · omega
          have h2 : (fgV a b true N).1.length = (smV a b true).1.length := by
            rcases x1 with h2 | h2
            · exact h2
            · omega
          have := o0.2 h1
          have := o1.2 h2
          omega
      refine ⟨_, _, _, _, hfr, hsr, bp, bq, bu, bv, iff9, fun h0 => ?_⟩
      have h1 := iff9.1 h0
      rw [lo, hi] at hk
      rw [← hk, h1, beq_iff_eq, u0, u1]
      omega
    · rw [if_neg hc2] at ho
      injection ho with _ ho
      exact Bool.noConfusion ho
  · rw [if_neg hc] at hk
    injection hk with _ hk
    exact Bool.noConfusion hk
end
section
open Go Go.RowKit

def AllI (xs : List Value) : Prop := ∀ u ∈ xs, ∃ i : Int, u = .int .i64 i
/-- A row of n elements of z ints each. -/
structure IR (w : World) (B : Nat) (t : TypeId) (z : Nat) (v : Value) (n : Nat) : Prop where
  ex : ∃ xs, w.ownsRow B t z v n xs ∧ AllI xs
theorem AllI.app {xs ys : List Value} (h : AllI xs) (k : AllI ys) : AllI (xs ++ ys) := fun u hu => (List.mem_append.1 hu).elim (h u) (k u)
theorem AllI.set {xs : List Value} (h : AllI xs) (j : Nat) (i : Int) : AllI (xs.set j (.int .i64 i)) := fun u hu => by
  rcases List.mem_or_eq_of_mem_set hu with h1 | h1
  · exact h u h1
  · exact ⟨i, h1⟩
theorem AllI.one {xs : List Value} (h : AllI xs) : ∀ u ∈ xs, u.oneCell' = true := fun u hu => by
  obtain ⟨i, rfl⟩ := h u hu
  rfl
section
variable {w w' : World} {B : Nat} {t : TypeId} {z n : Nat} {v : Value}
theorem IR.nil (w : World) (B : Nat) (t : TypeId) (z : Nat) : IR w B t z (.slice none 0 0) 0 := ⟨[], ⟨by simp, Or.inl ⟨rfl, rfl⟩⟩, by intro u hu; cases hu⟩
theorem IR.dg {g : Nat} (h : IR w B t z v n) (hd : Dg g w w') (hb : g < B) : IR w' B t z v n := let ⟨xs, h1, h2⟩ := h.ex; ⟨xs, own_dg h1 hd hb, h2⟩
theorem IR.on (h : IR w B t z v n) (hb : Below w.heap.size w w') : IR w' B t z v n := let ⟨xs, h1, h2⟩ := h.ex; ⟨xs, own_below h1 hb, h2⟩
theorem IR.alloc (h : IR w B t z v n) (o : Obj) : IR (w.alloc o) B t z v n := h.on (bal (Below.refl _ _) o)
theorem IR.mono {B' : Nat} (h : IR w B t z v n) (hb : B' ≤ B) : IR w B' t z v n := let ⟨xs, h1, h2⟩ := h.ex; ⟨xs, own_mono h1 hb, h2⟩
theorem IR.st (h : IR w B t z v n) {p : Addr} (hp : ∀ k, v.ownBlock = some k → k ≠ p.block) (u : Value) : IR (w.setCell p u) B t z v n := let ⟨xs, h1, h2⟩ := h.ex; ⟨xs, own_st h1 hp u, h2⟩
theorem IR.form (h : IR w B t z v n) : ∃ A c, v = .slice A n c ∧ n ≤ c ∧ c ≤ maxLen := by
  obtain ⟨xs, h1, -⟩ := h.ex
  rcases h1.2 with ⟨h', h0⟩ | ⟨g', cap', cur, h', hb, hg, hnc, hcm, -⟩
  · exact ⟨none, 0, by rw [h', h0], by omega, Nat.zero_le _⟩
  · exact ⟨_, _, h', hnc, hcm⟩
theorem IR.pos (h : IR w B t z v n) (h0 : 0 < n) : ∃ g c, v = .slice (some ⟨g, 0, none⟩) n c ∧ B ≤ g ∧ g < w.heap.size ∧ n ≤ c ∧ c ≤ maxLen := by
  obtain ⟨xs, h1, -⟩ := h.ex
  rcases h1.2 with ⟨h', h0'⟩ | ⟨g', cap', cur, h', hb, hg, hnc, hcm, -⟩
  · omega
  · exact ⟨_, _, h', hb, (Array.getElem?_eq_some_iff.1 hg).1, hnc, hcm⟩
theorem IR.lt (h : IR w B t z v n) : ∀ k, v.ownBlock = some k → B ≤ k ∧ k < w.heap.size := let ⟨_, h1, _⟩ := h.ex; World.ownsRow.lt h1
theorem IR.cell {g c : Nat} (h : IR w B t z (.slice (some ⟨g, 0, none⟩) n c) n) {j : Nat} (hj : j < n * z) : ∃ i : Int, w.cell? ⟨g, j, none⟩ = some (.int .i64 i) := by
  obtain ⟨xs, h1, h2⟩ := h.ex
  have hl : j < xs.length := by rw [h1.1]; exact hj
  obtain ⟨i, hi⟩ := h2 xs[j] (List.getElem_mem hl)
  exact ⟨i, by rw [h1.cellAt j hj, List.getElem?_eq_getElem hl, hi]⟩
theorem IR.frozen {g c : Nat} (h : IR w B t z (.slice (some ⟨g, 0, none⟩) n c) n) : ∀ i, w.frozen? ⟨g, i, none⟩ = false := let ⟨_, h1, _⟩ := h.ex; h1.frozenAt
theorem IR.set {g c : Nat} (h : IR w B t z (.slice (some ⟨g, 0, none⟩) n c) n) (j : Nat) (i : Int) : IR (w.setCell ⟨g, j, none⟩ (.int .i64 i)) B t z (.slice (some ⟨g, 0, none⟩) n c) n :=
  let ⟨xs, h1, h2⟩ := h.ex; ⟨xs.set j (.int .i64 i), (h1.stored j _).1, h2.set j i⟩
end
/-- Cells of ints are those of some list. -/
theorem flat_ex {E : Type} (S : Shape E) (mk : (Nat → Int) → E) (hmk : ∀ c j, j < S.size → S.cell (mk c) j = .int .i64 (c j)) : ∀ (n : Nat) (xs : List Value), xs.length = n * S.size → AllI xs → ∃ es : List E, es.length = n ∧ S.flat es = xs
  | 0, xs, hl, _ => ⟨[], rfl, by
      have : xs = [] := List.eq_nil_of_length_eq_zero (by omega)
      rw [this]; rfl⟩
  | n + 1, xs, hl, ha => by
    have hz : S.size ≤ xs.length := by rw [hl, Nat.add_mul]; omega
    obtain ⟨es, h1, h2⟩ := flat_ex S mk hmk n (xs.drop S.size) (by rw [List.length_drop, hl, Nat.add_mul]; omega) (fun u hu => ha u (List.mem_of_mem_drop hu))
    refine ⟨mk (fun j => match xs[j]? with | some (.int _ q) => q | _ => 0) :: es, by rw [List.length_cons, h1], ?_⟩
    have h3 : S.cells (mk (fun j => match xs[j]? with | some (.int _ q) => q | _ => 0)) = xs.take S.size := by
      apply List.ext_getElem
      · rw [Shape.length_cells, List.length_take]; omega
      · intro i h4 h5
        rw [Shape.length_cells] at h4
        have hi : i < xs.length := by omega
        simp only [Shape.cells, List.getElem_map, List.getElem_range, List.getElem_take]
        rw [hmk _ _ h4, List.getElem?_eq_getElem hi]
        obtain ⟨q, hq⟩ := ha xs[i] (List.getElem_mem hi)
        rw [hq]
    show S.cells _ ++ S.flat es = xs
    rw [h3, h2, List.take_append_drop]
def enMk9 (c : Nat → Int) : En := ⟨c 0, c 1, c 2, c 3, c 4⟩
theorem enMk9_cell (c : Nat → Int) (j : Nat) (hj : j < enS.size) : enS.cell (enMk9 c) j = .int .i64 (c j) := by
  match j, hj with
  | 0, _ => rfl
  | 1, _ => rfl
  | 2, _ => rfl
  | 3, _ => rfl
  | 4, _ => rfl
theorem en_allI (es : List En) : AllI (enS.flat es) := by
  intro u hu
  unfold Shape.flat at hu
  obtain ⟨x, -, hx⟩ := List.mem_flatMap.1 hu
  unfold Shape.cells at hx
  obtain ⟨j, hj, rfl⟩ := List.mem_map.1 hx
  have hj := List.mem_range.1 hj
  match j, hj with
  | 0, _ => exact ⟨_, rfl⟩
  | 1, _ => exact ⟨_, rfl⟩
  | 2, _ => exact ⟨_, rfl⟩
  | 3, _ => exact ⟨_, rfl⟩
  | 4, _ => exact ⟨_, rfl⟩
theorem IR.en {w : World} {B : Nat} {t : TypeId} {v : Value} {n : Nat} (h : IR w B t 5 v n) : ∃ es : List En, es.length = n ∧ w.ownsRow B t 5 v es.length (enS.flat es) := by
  obtain ⟨xs, h1, h2⟩ := h.ex
  obtain ⟨es, h3, h4⟩ := flat_ex enS enMk9 enMk9_cell n xs h1.1 h2
  exact ⟨es, h3, by rw [h3, h4]; exact h1⟩
theorem IR.of_en {w : World} {B : Nat} {t : TypeId} {v : Value} {es : List En} (h : w.ownsRow B t 5 v es.length (enS.flat es)) : IR w B t 5 v es.length := ⟨_, h, en_allI es⟩
end
section
open Go Go.RowKit

theorem BytesAt.mono {w : World} {g g' : Nat} {A : Option Addr} {n : Nat} (h : BytesAt w g A n) (hg : g ≤ g') : BytesAt w g' A n :=
  ⟨h.1, fun h0 => let ⟨gc, off, hA, h1, h2, hc⟩ := h.2 h0; ⟨gc, off, hA, Nat.lt_of_lt_of_le h1 hg, h2, hc⟩⟩
theorem BytesAt.on {w w' : World} {A : Option Addr} {n : Nat} (h : BytesAt w w.heap.size A n) (hb : Below w.heap.size w w') : BytesAt w' w'.heap.size A n :=
  (h.dg (Dg.of_below hb)).mono hb.size
theorem BytesAt.al {w : World} {A : Option Addr} {n : Nat} (h : BytesAt w w.heap.size A n) (o : Obj) : BytesAt (w.alloc o) (w.alloc o).heap.size A n := h.on (bal (Below.refl _ _) o)
theorem Cur.new0 {w : World} {A : Option Addr} {n : Nat} (h : BytesAt w w.heap.size A n) (c : Nat) : Cur (w.alloc (.cells #[.slice A n c, .int .i64 0, .int .u64 0] 61)) w.heap.size 0 :=
  ⟨A, n, c, 0, 0, Blk.new w _ _, Nat.le_refl _, h.dg (Dg.of_below (bal (Below.refl _ _) _))⟩
theorem Cur.new1 {w : World} {A : Option Addr} {n : Nat} (h : BytesAt w w.heap.size A n) (c : Nat) (o : Obj) : Cur ((w.alloc o).alloc (.cells #[.slice A n c, .int .i64 0, .int .u64 0] 61)) (w.heap.size + 1) 0 := by
  have := Cur.new0 (h.al o) c
  rwa [World.size_alloc] at this
/-- The cells of a row as a source. -/
theorem IR.src {w : World} {B : Nat} {t : TypeId} {z n : Nat} {A : Option Addr} {c : Nat} (h : IR w B t z (.slice A n c) n) :
    ∃ xs, AllI xs ∧ xs.length = n * z ∧ (A = none → n = 0) ∧ ∀ a, A = some a → ∀ j u, xs[j]? = some u → w.cell? (a.add j) = some u := by
  obtain ⟨xs, h1, h2⟩ := h.ex
  refine ⟨xs, h2, h1.1, fun e => ?_, fun a e j u hu => ?_⟩
  · by_cases h0 : 0 < n
    · obtain ⟨g, c', h3, -⟩ := h.pos h0
      rw [e] at h3; cases h3
    · omega
  · have hj : j < xs.length := (List.getElem?_eq_some_iff.1 hu).1
    have h0 : 0 < n := by rcases Nat.eq_zero_or_pos n with h9 | h9; · rw [h1.1, h9] at hj; simp at hj
                          · exact h9
    obtain ⟨g, c', h3, -⟩ := h.pos h0
    rw [e] at h3
    injection h3 with h4 h5 h6
    injection h4 with h4
    subst h4
    rw [e] at h1
    have h7 := h1.cellAt j (by rw [← h1.1]; exact hj)
    rw [hu] at h7
    by_cases h8 : j = 0
    · subst h8; simpa [Addr.add] using h7
    · simpa [Addr.add, h8] using h7
end
section
open Go Go.RowKit

theorem Cur.drewX {w : World} {g k : Nat} (h : Cur w g k) : Cur w.drew g k := h.on (Below.drew (Below.refl _ _))
/-- All blocks but two are as they were. -/
structure Dr (g r : Nat) (w w' : World) : Prop where
  os : w'.os = w.os
  tape : w'.tape = w.tape
  output : w'.output = w.output
  size : w.heap.size ≤ w'.heap.size
  block : ∀ i, i < w.heap.size → i ≠ g → i ≠ r → w'.heap[i]? = w.heap[i]?
theorem Dr.refl (g r : Nat) (w : World) : Dr g r w w := ⟨rfl, rfl, rfl, Nat.le_refl _, fun _ _ _ _ => rfl⟩
theorem Dr.trans {g r : Nat} {w x y : World} (h : Dr g r w x) (k : Dg g x y) : Dr g r w y :=
  ⟨k.os.trans h.os, k.tape.trans h.tape, k.output.trans h.output, Nat.le_trans h.size k.size, fun i h1 h2 h3 => (k.block i (Nat.lt_of_lt_of_le h1 h.size) h2).trans (h.block i h1 h2 h3)⟩
theorem Dr.alloc {g r : Nat} {w x : World} (h : Dr g r w x) (o : Obj) : Dr g r w (x.alloc o) := h.trans (Dg.alloc (Dg.refl g x) o)
theorem Dr.drew {g r : Nat} {w x : World} (h : Dr g r w x) : Dr g r w x.drew := h.trans (Dg.drew (Dg.refl g x))
theorem Dr.str {g r : Nat} {w x : World} (h : Dr g r w x) (j : Nat) (u : Value) : Dr g r w (x.setCell ⟨r, j, none⟩ u) :=
  ⟨h.os, h.tape, h.output, by rw [World.size_setCell]; exact h.size, fun i h1 h2 h3 => (Below.heap_setCell x ⟨r, j, none⟩ u i h3).trans (h.block i h1 h2 h3)⟩
theorem drcell {g r : Nat} {w w' : World} {p : Addr} (hd : Dr g r w w') (h1 : p.block < w.heap.size) (h2 : p.block ≠ g) (h3 : p.block ≠ r) : w'.cell? p = w.cell? p := by
  unfold World.cell?
  rw [hd.block _ h1 h2 h3]
theorem Dr.below {g r : Nat} {w w' : World} (h : Dr g r w w') {B : Nat} (hB : B ≤ g) (hr : B ≤ r) (hw : B ≤ w.heap.size) : Below B w w' := ⟨h.os, h.tape, h.output, h.size, fun i hi => h.block i (by omega) (by omega) (by omega)⟩
/-- Among the numbers of a block. -/
theorem among_bk (g k b : Nat) (es : List Int) (n : Nat) (cs : Array Value) (hcs : cs = (es.map (Value.int .i64)).toArray) (hn : n = es.length) (w : World) (hB : Blk w b 3 cs) (hc : Cur w g k) (hb : b ≠ g) (hne : es ≠ []) (hl : es.length ≤ 1000) (hk : k ≤ 900000) :
    Calls Tryz.prog 39 #[.pointer (some ⟨g, 0, none⟩), .slice (some ⟨b, 0, none⟩) n n] w fun e w' => (∃ y : Int, e = .returned (.int .i64 y)) ∧ Cur w' g (k + 2) ∧ Dg g w w' := by
  subst hn hcs
  refine (among_any g k _ es _ hc ⟨_, _, rfl, Nat.le_refl _, by unfold maxLen; omega, fun h0 => ⟨b, 0, rfl, hB.lt, fun i hi j hj => ?_⟩⟩ hne (fun A n c e => ?_) hk).mono ?_
  · have h1 := hB.cell i
    have hj0 : j = 0 := by have : inS.size = 1 := rfl; omega
    subst hj0
    have hs : inS.size = 1 := rfl
    rw [hs, Nat.zero_add, Nat.mul_one, Nat.add_zero, h1]
    simp only [List.getElem?_toArray, List.getElem?_map, Shape.get, List.getD_eq_getElem?_getD, List.getElem?_eq_getElem hi]
    rfl
  · injection e with e1 e2 e3
    injection e1 with e1
    subst e1
    exact hb
  · rintro e w1 ⟨⟨y, -, rfl⟩, h2, h3⟩
    exact ⟨⟨y, rfl⟩, h2, h3⟩

set_option linter.unusedSimpArgs false in
set_option linter.unusedVariables false in
set_option maxRecDepth 8000 in
set_option maxHeartbeats 16000000 in
theorem drawFound_any (A : Option Addr) (n c : Nat) (w : World) (hby : BytesAt w w.heap.size A n) :
    Calls Tryz.prog 21 #[.slice A n c] w fun e w' => (∃ a b m : Int, TcD a b ∧ e = .returned (.tuple #[.agg #[.int .i64 a, .int .i64 b], .int .i64 m])) ∧ Below w.heap.size w w' := by
  have Hb := Lib.hid hby; clear hby
  have Hgl := Lib.hid (Nat.le_refl w.heap.size)
  have Hd := Lib.hid (Dg.refl (w.heap.size + 1) w)
  go_enter Tryz.func21, Tryz.ntmps21
  go_wp2_with fail
  refine (descended_any (w.heap.size + 1) 0 _ (Cur.new1 Hb.out c _) (by omega)).mono ?_; rintro e w1 ⟨⟨a, b, ft, rfl⟩, hc1, hd1⟩
  have S1 := Lib.hid (show w.heap.size + 2 ≤ w1.heap.size by have h9 := hd1.size; (try simp only [World.size_alloc, World.size_setCell] at h9); omega)
  have NR := Lib.hid (((Blk.new w 24 #[.int .i64 0, .int .i64 0]).alloc (Obj.cells #[.slice A n c, .int .i64 0, .int .u64 0] 61)).dg hd1 (show w.heap.size ≠ (w.heap.size + 1) by have := Hgl.out; have := S1.out; omega))
  have R := NR; clear NR
  have Hc1 := Lib.hid (hc1.mono (j := 0 + 50) (by omega))
  have Hd1 := Lib.hid (((Hd.out.alloc (Obj.cells #[.int .i64 0, .int .i64 0] 24)).alloc (Obj.cells #[.slice A n c, .int .i64 0, .int .u64 0] 61)).trans hd1)
  clear hc1 hd1
  have Ft := Lib.hid ft
  clear ft
  go_wp2_with fail
  refine (searchMost_any (w.heap.size + 1) (0 + 50) _ Hc1.out (by omega)).mono ?_; rintro e w2 ⟨⟨m, rfl⟩, hc2, hd2⟩
  have S2 := Lib.hid (show w1.heap.size + 0 ≤ w2.heap.size by have h9 := hd2.size; (try simp only [World.size_alloc, World.size_setCell] at h9); omega)
  have NR := Lib.hid (R.out.dg hd2 (show w.heap.size ≠ (w.heap.size + 1) by have := Hgl.out; have := S1.out; have := S2.out; omega))
  have R := NR; clear NR
  have Hc2 := Lib.hid (hc2.mono (j := 0 + 54) (by omega))
  have Hd2 := Lib.hid (Hd1.out.trans hd2)
  clear hc2 hd2
  have qR0 := R.out.cell 0
  have qR1 := R.out.cell 1
  simp at qR0 qR1
  have qRl := R.out.lt
  have qRf := R.out.frozen
  go_wp2
  clear qR0 qR1 qRl qRf
  have HR9 := (show Blk (World.setCell (World.setCell w2 ⟨w.heap.size, 0, none⟩ (.int .i64 a)) ⟨w.heap.size, 1, none⟩ (.int .i64 b)) (w.heap.size) 24 #[.int .i64 a, .int .i64 b] by have h9 := ((R.out.set 0 (.int .i64 a)).set 1 (.int .i64 b)); simpa using h9)
  have k0 := HR9.cell 0
  have k1 := HR9.cell 1
  simp at k0 k1
  exact bodyPost_ret (v := .tuple #[.agg #[.int .i64 a, .int .i64 b], .int .i64 m]) (by simp [results, Tryz.results21, go_sem, k0, k1]) rfl ⟨⟨a, b, m, Ft.out, rfl⟩, ((Hd2.out.st (p := ⟨w.heap.size, 0, none⟩) (show w.heap.size ≤ w.heap.size by have := Hgl.out; have := S1.out; have := S2.out; omega) (.int .i64 a)).st (p := ⟨w.heap.size, 1, none⟩) (show w.heap.size ≤ w.heap.size by have := Hgl.out; have := S1.out; have := S2.out; omega) (.int .i64 b)).below (by have := S1.out; have := S2.out; omega) (Nat.le_refl _)⟩
set_option linter.unusedSimpArgs false in
set_option linter.unusedVariables false in
set_option maxRecDepth 8000 in
set_option maxHeartbeats 16000000 in
theorem drawKnown_any (A : Option Addr) (n c : Nat) (w : World) (hby : BytesAt w w.heap.size A n) :
    Calls Tryz.prog 4 #[.slice A n c] w fun e w' => (∃ a b m : Int, TcD a b ∧ e = .returned (.tuple #[.agg #[.int .i64 a, .int .i64 b], .int .i64 m])) ∧ Below w.heap.size w w' := by
  have Hf := Lib.hid (fun w9 h9 => drawFound_any A n c w9 h9)
  have Hb := Lib.hid (hby.al (Obj.cells #[.int .i64 0, .int .i64 0] 24)); clear hby
  go_enter Tryz.func4, Tryz.ntmps4
  go_wp2_with fail
  refine (Hf.out _ Hb.out).mono ?_; rintro e w1 ⟨⟨a, b, m, ft, rfl⟩, hb1⟩
  have Ft := Lib.hid ft; clear ft
  have HR := Lib.hid ((Blk.new w 24 #[.int .i64 0, .int .i64 0]).on hb1)
  have Hb1 := Lib.hid (bthen (bal (Below.refl w.heap.size w) _) hb1); clear hb1
  have r0 := HR.out.cell 0; have r1 := HR.out.cell 1; have rl := HR.out.lt; have rf := HR.out.frozen
  simp at r0 r1
  go_wp2
  clear r0 r1 rl rf
  have HR9 := (HR.out.set 0 (.int .i64 a)).set 1 (.int .i64 b)
  have k0 := HR9.cell 0
  have k1 := HR9.cell 1
  simp at k0 k1
  exact bodyPost_ret (v := .tuple #[.agg #[.int .i64 a, .int .i64 b], .int .i64 m]) (by simp [results, Tryz.results4, go_sem, k0, k1]) rfl ⟨⟨a, b, m, Ft.out, rfl⟩, bst (bst Hb1.out (p := ⟨w.heap.size, 0, none⟩) (Nat.le_refl _) _) (p := ⟨w.heap.size, 1, none⟩) (Nat.le_refl _) _⟩
set_option linter.unusedSimpArgs false in
set_option linter.unusedVariables false in
set_option maxRecDepth 8000 in
set_option maxHeartbeats 16000000 in
theorem drawLeast_any (A : Option Addr) (n c : Nat) (w : World) (hby : BytesAt w w.heap.size A n) :
    Calls Tryz.prog 14 #[.slice A n c] w fun e w' => (∃ a b m : Int, TcD a b ∧ e = .returned (.tuple #[.agg #[.int .i64 a, .int .i64 b], .int .i64 m])) ∧ Below w.heap.size w w' := by
  have Hb := Lib.hid hby; clear hby
  have Hgl := Lib.hid (Nat.le_refl w.heap.size)
  have Hd := Lib.hid (Dg.refl (w.heap.size + 1) w)
  go_enter Tryz.func14, Tryz.ntmps14
  go_wp2_with fail
  refine (descended_any (w.heap.size + 1) 0 _ (Cur.new1 Hb.out c _) (by omega)).mono ?_; rintro e w1 ⟨⟨a, b, ft, rfl⟩, hc1, hd1⟩
  have S1 := Lib.hid (show w.heap.size + 2 ≤ w1.heap.size by have h9 := hd1.size; (try simp only [World.size_alloc, World.size_setCell] at h9); omega)
  have NR := Lib.hid (((Blk.new w 24 #[.int .i64 0, .int .i64 0]).alloc (Obj.cells #[.slice A n c, .int .i64 0, .int .u64 0] 61)).dg hd1 (show w.heap.size ≠ (w.heap.size + 1) by have := Hgl.out; have := S1.out; omega))
  have R := NR; clear NR
  have Hc1 := Lib.hid (hc1.mono (j := 0 + 50) (by omega))
  have Hd1 := Lib.hid (((Hd.out.alloc (Obj.cells #[.int .i64 0, .int .i64 0] 24)).alloc (Obj.cells #[.slice A n c, .int .i64 0, .int .u64 0] 61)).trans hd1)
  clear hc1 hd1
  have Ft := Lib.hid ft
  clear ft
  go_wp2_with fail
  refine (searchMost_any (w.heap.size + 1) (0 + 50) _ Hc1.out (by omega)).mono ?_; rintro e w2 ⟨⟨m, rfl⟩, hc2, hd2⟩
  have S2 := Lib.hid (show w1.heap.size + 0 ≤ w2.heap.size by have h9 := hd2.size; (try simp only [World.size_alloc, World.size_setCell] at h9); omega)
  have NR := Lib.hid (R.out.dg hd2 (show w.heap.size ≠ (w.heap.size + 1) by have := Hgl.out; have := S1.out; have := S2.out; omega))
  have R := NR; clear NR
  have Hc2 := Lib.hid (hc2.mono (j := 0 + 54) (by omega))
  have Hd2 := Lib.hid (Hd1.out.trans hd2)
  clear hc2 hd2
  go_wp2_with fail
  refine (among_lit (w.heap.size + 1) (0 + 54) (w2.heap.size) [1, 2, 5, 12, m] w2 (by simp) Hc2.out (by simp) (by simp) (by omega)).mono ?_; rintro e w3 ⟨⟨q, hq, rfl⟩, hc3, hd3⟩
  have S3 := Lib.hid (show w2.heap.size + 1 ≤ w3.heap.size by have h9 := hd3.size; (try simp only [World.size_alloc, World.size_setCell] at h9); omega)
  have NR := Lib.hid ((R.out.alloc _).dg hd3 (show w.heap.size ≠ (w.heap.size + 1) by have := Hgl.out; have := S1.out; have := S2.out; have := S3.out; omega))
  have R := NR; clear NR
  have Hc3 := Lib.hid (hc3.mono (j := 0 + 56) (by omega))
  have Hd3 := Lib.hid ((Hd2.out.alloc _).trans hd3)
  clear hc3 hd3
  have qR0 := R.out.cell 0
  have qR1 := R.out.cell 1
  simp at qR0 qR1
  have qRl := R.out.lt
  have qRf := R.out.frozen
  go_wp2
  clear qR0 qR1 qRl qRf
  have HR9 := (show Blk (World.setCell (World.setCell w3 ⟨w.heap.size, 0, none⟩ (.int .i64 a)) ⟨w.heap.size, 1, none⟩ (.int .i64 b)) (w.heap.size) 24 #[.int .i64 a, .int .i64 b] by have h9 := ((R.out.set 0 (.int .i64 a)).set 1 (.int .i64 b)); simpa using h9)
  have k0 := HR9.cell 0
  have k1 := HR9.cell 1
  simp at k0 k1
  exact bodyPost_ret (v := .tuple #[.agg #[.int .i64 a, .int .i64 b], .int .i64 q]) (by simp [results, Tryz.results14, go_sem, k0, k1]) rfl ⟨⟨a, b, q, Ft.out, rfl⟩, ((Hd3.out.st (p := ⟨w.heap.size, 0, none⟩) (show w.heap.size ≤ w.heap.size by have := Hgl.out; have := S1.out; have := S2.out; have := S3.out; omega) (.int .i64 a)).st (p := ⟨w.heap.size, 1, none⟩) (show w.heap.size ≤ w.heap.size by have := Hgl.out; have := S1.out; have := S2.out; have := S3.out; omega) (.int .i64 b)).below (by have := S1.out; have := S2.out; have := S3.out; omega) (Nat.le_refl _)⟩
set_option linter.unusedSimpArgs false in
set_option linter.unusedVariables false in
set_option maxRecDepth 8000 in
set_option maxHeartbeats 16000000 in
theorem drawClaim_any (A : Option Addr) (n c : Nat) (w : World) (hby : BytesAt w w.heap.size A n) :
    Calls Tryz.prog 11 #[.slice A n c] w fun e w' => (∃ a b x y m : Int, TcD a b ∧ e = .returned (.tuple #[.agg #[.int .i64 a, .int .i64 b], .int .i64 x, .int .i64 y, .int .i64 m])) ∧ Below w.heap.size w w' := by
  have Hb := Lib.hid hby; clear hby
  have Hgl := Lib.hid (Nat.le_refl w.heap.size)
  have Hd := Lib.hid (Dg.refl (w.heap.size + 1) w)
  go_enter Tryz.func11, Tryz.ntmps11
  go_wp2_with fail
  refine (descended_any (w.heap.size + 1) 0 _ (Cur.new1 Hb.out c _) (by omega)).mono ?_; rintro e w1 ⟨⟨a, b, ft, rfl⟩, hc1, hd1⟩
  have S1 := Lib.hid (show w.heap.size + 2 ≤ w1.heap.size by have h9 := hd1.size; (try simp only [World.size_alloc, World.size_setCell] at h9); omega)
  have NR := Lib.hid (((Blk.new w 24 #[.int .i64 0, .int .i64 0]).alloc (Obj.cells #[.slice A n c, .int .i64 0, .int .u64 0] 61)).dg hd1 (show w.heap.size ≠ (w.heap.size + 1) by have := Hgl.out; have := S1.out; omega))
  have R := NR; clear NR
  have Hc1 := Lib.hid (hc1.mono (j := 0 + 50) (by omega))
  have Hd1 := Lib.hid (((Hd.out.alloc (Obj.cells #[.int .i64 0, .int .i64 0] 24)).alloc (Obj.cells #[.slice A n c, .int .i64 0, .int .u64 0] 61)).trans hd1)
  clear hc1 hd1
  have Ft := Lib.hid ft
  clear ft
  go_wp2_with fail
  refine (searchMost_any (w.heap.size + 1) (0 + 50) _ Hc1.out (by omega)).mono ?_; rintro e w2 ⟨⟨m, rfl⟩, hc2, hd2⟩
  have S2 := Lib.hid (show w1.heap.size + 0 ≤ w2.heap.size by have h9 := hd2.size; (try simp only [World.size_alloc, World.size_setCell] at h9); omega)
  have NR := Lib.hid (R.out.dg hd2 (show w.heap.size ≠ (w.heap.size + 1) by have := Hgl.out; have := S1.out; have := S2.out; omega))
  have R := NR; clear NR
  have Hc2 := Lib.hid (hc2.mono (j := 0 + 54) (by omega))
  have Hd2 := Lib.hid (Hd1.out.trans hd2)
  clear hc2 hd2
  go_wp2_with fail
  obtain ⟨wt, hw9⟩ : ∃ x, x = (World.alloc w2 (Obj.cells #[.int .i64 a, .int .i64 b] 24)) := ⟨_, rfl⟩
  rw [← hw9]
  have hd3 : Dg (w.heap.size + 1) (World.alloc w2 (Obj.cells #[.int .i64 a, .int .i64 b] 24)) wt := by rw [hw9]; exact Dg.refl _ _
  have hc3 : Cur wt (w.heap.size + 1) (0 + 54) := by rw [hw9]; exact (Hc2.out.alloc _)
  have S3 := Lib.hid (show w2.heap.size + 1 ≤ wt.heap.size by have h9 := hd3.size; (try simp only [World.size_alloc, World.size_setCell] at h9); omega)
  have NR := Lib.hid ((R.out.alloc _).dg hd3 (show w.heap.size ≠ (w.heap.size + 1) by have := Hgl.out; have := S1.out; have := S2.out; have := S3.out; omega))
  have NE := Lib.hid ((Blk.new w2 24 #[.int .i64 a, .int .i64 b]).dg hd3 (show w2.heap.size ≠ (w.heap.size + 1) by have := Hgl.out; have := S1.out; have := S2.out; have := S3.out; omega))
  have R := NR; clear NR
  have E := NE; clear NE
  have Hc3 := Lib.hid (hc3.mono (j := 0 + 54) (by omega))
  have Hd3 := Lib.hid ((Hd2.out.alloc _).trans hd3)
  clear hc3 hd3
  clear hw9
  have hE0 := E.out.cell 0; have hE1 := E.out.cell 1; have hEl := E.out.lt; have hEg : w2.heap.size ≠ (w.heap.size + 1) := by have := Hgl.out; have := S1.out; have := S2.out; have := S3.out; omega
  simp at hE0 hE1
  have hEr : w2.heap.size ≠ w.heap.size := by have := Hgl.out; have := S1.out; have := S2.out; have := S3.out; omega
  have HS : Hid (∀ w', Dr (w.heap.size + 1) w.heap.size wt w' → (w'.cell? ⟨w2.heap.size, 0, none⟩ = some (.int .i64 a) ∧ w'.cell? ⟨w2.heap.size, 1, none⟩ = some (.int .i64 b) ∧ Dr (w.heap.size + 1) w.heap.size wt w')) := Lib.hid (fun w' hw => ⟨(drcell (p := ⟨w2.heap.size, 0, none⟩) hw hEl hEg hEr).trans hE0, (drcell (p := ⟨w2.heap.size, 1, none⟩) hw hEl hEg hEr).trans hE1, hw⟩)
  have hdt := Dg.refl (w.heap.size + 1) wt
  have hrt := Dr.refl (w.heap.size + 1) w.heap.size wt
  have hgt := Lib.hid (show (w.heap.size + 1) < wt.heap.size by have := Hgl.out; have := S1.out; have := S2.out; have := S3.out; omega)
  have hR0 := R.out.cell 0; have hR1 := R.out.cell 1; have hRl := R.out.lt; have hRf0 := R.out.frozen 0; have hRf1 := R.out.frozen 1; have hRg : w.heap.size ≠ (w.heap.size + 1) := by have := Hgl.out; have := S1.out; have := S2.out; have := S3.out; omega
  simp at hR0 hR1
  have Tok1 := trivial
  go_region_held3 (fun w' => w'.cell? ⟨w2.heap.size, 0, none⟩ = some (.int .i64 a) ∧ w'.cell? ⟨w2.heap.size, 1, none⟩ = some (.int .i64 b) ∧ Dr (w.heap.size + 1) w.heap.size wt w') (((go_split_ands; refine HS.out _ ?_; repeat (first | (with_reducible assumption) | (with_reducible refine Dr.drew ?_) | (with_reducible refine Dr.alloc ?_ _) | (with_reducible refine Dr.str ?_ _ _) | (with_reducible refine Dr.trans ?_ (by with_reducible assumption)))))) ((first | (go_at_call 39; have := Tok1; clear Tok1; refine (among_bk (w.heap.size + 1) (0 + 54) _ [-1, 20, 21] 3 #[.int .i64 (-1), .int .i64 20, .int .i64 21] rfl rfl _ (by (repeat (first | with_reducible exact Blk.new _ _ _ | with_reducible exact Blk.new1 _ _ _ _ | with_reducible refine Blk.drew ?_ | with_reducible refine Blk.alloc ?_ _)); first | done | fail) (by repeat (first | with_reducible exact Hc3.out | (with_reducible refine Cur.drewX ?_) | (with_reducible refine Cur.alloc ?_ _))) (by have := hgt.out; (try simp only [World.size_alloc, World.size_drew]); omega) (by simp) (by simp) (by omega)).mono ?_; rintro e v1 ⟨⟨y1, rfl⟩, hc91, hd91⟩; have hs91 := hd91.size; (try simp only [World.size_alloc, World.size_drew] at hs91); have hd81 : Dg (w.heap.size + 1) wt v1 := (Dg.trans (by repeat (first | (with_reducible assumption) | (with_reducible refine Dg.drew ?_) | (with_reducible refine Dg.alloc ?_ _))) hd91); (try (have za : Blk v1 (wt.heap.size) 3 #[.int .i64 (-1), .int .i64 20, .int .i64 21] := Blk.dg (by (repeat (first | with_reducible exact Blk.new _ _ _ | with_reducible exact Blk.new1 _ _ _ _ | with_reducible refine Blk.drew ?_ | with_reducible refine Blk.alloc ?_ _)); first | done | fail) hd91 (by have := hgt.out; (try simp only [World.size_alloc, World.size_drew]); omega)) ); (try (have zb : Blk v1 (wt.heap.size + 1) 3 #[.int .i64 (-1), .int .i64 20, .int .i64 21] := Blk.dg (by (repeat (first | with_reducible exact Blk.new _ _ _ | with_reducible exact Blk.new1 _ _ _ _ | with_reducible refine Blk.drew ?_ | with_reducible refine Blk.alloc ?_ _)); first | done | fail) hd91 (by have := hgt.out; (try simp only [World.size_alloc, World.size_drew]); omega)) ); have Tok2 := trivial) | (go_at_call 39; have := Tok2; clear Tok2; refine (among_bk (w.heap.size + 1) ((0 + 54) + 2) _ [0, 0, 1, 2, y1] 5 #[.int .i64 0, .int .i64 0, .int .i64 1, .int .i64 2, .int .i64 y1] rfl rfl _ (by (repeat (first | with_reducible exact Blk.new _ _ _ | with_reducible exact Blk.new1 _ _ _ _ | with_reducible refine Blk.drew ?_ | with_reducible refine Blk.alloc ?_ _)); first | done | fail) (by repeat (first | with_reducible exact hc91 | (with_reducible refine Cur.drewX ?_) | (with_reducible refine Cur.alloc ?_ _))) (by have := hgt.out; have := hs91; (try simp only [World.size_alloc, World.size_drew]); omega) (by simp) (by simp) (by omega)).mono ?_; rintro e v2 ⟨⟨y2, rfl⟩, hc92, hd92⟩; have hs92 := hd92.size; (try simp only [World.size_alloc, World.size_drew] at hs92); have hd82 : Dg (w.heap.size + 1) wt v2 := (Dg.trans (by repeat (first | (with_reducible assumption) | (with_reducible refine Dg.drew ?_) | (with_reducible refine Dg.alloc ?_ _))) hd92); (try (have za := Blk.dg (show Blk _ (wt.heap.size) 3 #[.int .i64 (-1), .int .i64 20, .int .i64 21] from (by (repeat (first | with_reducible exact za | with_reducible exact Blk.new _ _ _ | with_reducible exact Blk.new1 _ _ _ _ | with_reducible refine Blk.drew ?_ | with_reducible refine Blk.alloc ?_ _)); first | done | fail)) hd92 (by have := hgt.out; have := hs91; (try simp only [World.size_alloc, World.size_drew]); omega))); (try (have zb := Blk.dg (show Blk _ (wt.heap.size + 1) 3 #[.int .i64 (-1), .int .i64 20, .int .i64 21] from (by (repeat (first | with_reducible exact zb | with_reducible exact Blk.new _ _ _ | with_reducible exact Blk.new1 _ _ _ _ | with_reducible refine Blk.drew ?_ | with_reducible refine Blk.alloc ?_ _)); first | done | fail)) hd92 (by have := hgt.out; have := hs91; (try simp only [World.size_alloc, World.size_drew]); omega))); (try (have zc : Blk v2 (v1.heap.size) 3 #[.int .i64 (-1), .int .i64 20, .int .i64 21] := Blk.dg (by (repeat (first | with_reducible exact Blk.new _ _ _ | with_reducible exact Blk.new1 _ _ _ _ | with_reducible refine Blk.drew ?_ | with_reducible refine Blk.alloc ?_ _)); first | done | fail) hd92 (by have := hgt.out; have := hs91; (try simp only [World.size_alloc, World.size_drew]); omega)) ); (try (have zd : Blk v2 (v1.heap.size + 1) 3 #[.int .i64 (-1), .int .i64 20, .int .i64 21] := Blk.dg (by (repeat (first | with_reducible exact Blk.new _ _ _ | with_reducible exact Blk.new1 _ _ _ _ | with_reducible refine Blk.drew ?_ | with_reducible refine Blk.alloc ?_ _)); first | done | fail) hd92 (by have := hgt.out; have := hs91; (try simp only [World.size_alloc, World.size_drew]); omega)) ); have Tok3 := trivial) | (go_at_call 39; have := Tok3; clear Tok3; refine (among_bk (w.heap.size + 1) ((0 + 54) + 4) _ [-1, 20, 21] 3 #[.int .i64 (-1), .int .i64 20, .int .i64 21] rfl rfl _ (by (repeat (first | with_reducible exact za | with_reducible exact zb | with_reducible exact zc | with_reducible exact zd | with_reducible exact Blk.new _ _ _ | with_reducible exact Blk.new1 _ _ _ _ | with_reducible refine Blk.drew ?_ | with_reducible refine Blk.alloc ?_ _)); first | done | fail) (by repeat (first | with_reducible exact hc92 | (with_reducible refine Cur.drewX ?_) | (with_reducible refine Cur.alloc ?_ _))) (by have := hgt.out; have := hs91; have := hs92; (try simp only [World.size_alloc, World.size_drew]); omega) (by simp) (by simp) (by omega)).mono ?_; rintro e v3 ⟨⟨y3, rfl⟩, hc93, hd93⟩; have hs93 := hd93.size; (try simp only [World.size_alloc, World.size_drew] at hs93); have hd83 : Dg (w.heap.size + 1) wt v3 := (Dg.trans (by repeat (first | (with_reducible assumption) | (with_reducible refine Dg.drew ?_) | (with_reducible refine Dg.alloc ?_ _))) hd93); have Tok4 := trivial) | (go_at_call 39; have := Tok4; clear Tok4; refine (among_bk (w.heap.size + 1) ((0 + 54) + 6) _ [0, 1, 1, 2, y3] 5 #[.int .i64 0, .int .i64 1, .int .i64 1, .int .i64 2, .int .i64 y3] rfl rfl _ (by (repeat (first | with_reducible exact Blk.new _ _ _ | with_reducible exact Blk.new1 _ _ _ _ | with_reducible refine Blk.drew ?_ | with_reducible refine Blk.alloc ?_ _)); first | done | fail) (by repeat (first | with_reducible exact hc93 | (with_reducible refine Cur.drewX ?_) | (with_reducible refine Cur.alloc ?_ _))) (by have := hgt.out; have := hs91; have := hs92; have := hs93; (try simp only [World.size_alloc, World.size_drew]); omega) (by simp) (by simp) (by omega)).mono ?_; rintro e v4 ⟨⟨y4, rfl⟩, hc94, hd94⟩; have hs94 := hd94.size; (try simp only [World.size_alloc, World.size_drew] at hs94); have hd84 : Dg (w.heap.size + 1) wt v4 := (Dg.trans (by repeat (first | (with_reducible assumption) | (with_reducible refine Dg.drew ?_) | (with_reducible refine Dg.alloc ?_ _))) hd94); have hR9 := Blk.dg R.out hd84 hRg; have zc0 := hR9.cell 0; have zc1 := hR9.cell 1; have zf0 := hR9.frozen 0; have zf1 := hR9.frozen 1; have zl := hR9.lt; simp at zc0 zc1; have HR9 := Lib.hid hR9; clear hR9; have Tok5 := trivial)))
  all_goals go_wp2
  all_goals (have HRz := (HR9.out.set 0 (.int .i64 a)).set 1 (.int .i64 b); have k0 := HRz.cell 0; have k1 := HRz.cell 1; simp at k0 k1; exact bodyPost_ret (v := .tuple #[.agg #[.int .i64 a, .int .i64 b], .int .i64 y2, .int .i64 y4, .int .i64 m]) (by simp [results, Tryz.results11, go_sem, k0, k1]) rfl ⟨⟨a, b, y2, y4, m, Ft.out, rfl⟩, Dg.below (Dg.st (Dg.st (Hd3.out.trans hd84) (p := ⟨w.heap.size, 0, none⟩) (Nat.le_refl _) _) (p := ⟨w.heap.size, 1, none⟩) (Nat.le_refl _) _) (by omega) (Nat.le_refl _)⟩)
end
section
open Go Go.RowKit Go.ChangeShapes Go.WideShapes Go.Deep

/-- A type all of whose cells are of type int64 (an int, or a struct of such). -/
def intsB (P : Program) : Nat → TypeId → Bool
  | 0, _ => false
  | n + 1, t => match P.underlying t with
    | some (.int k) => k == .i64
    | some (.struct fs) => fs.toList.all (fun f => intsB P n f.type) && (fs.toList.flatMap (fun f => List.range' f.offset (P.cellsOf f.type)) == List.range (P.cellsOf t))
    | _ => false

section
variable {H : Type} {enc : TypeId × Value → H} {P : Program} {w : World} {base : Nat} {spare : Nat → Bool} {held : Bool}

theorem ints_of_trod : ∀ (n : Nat) (t : TypeId) (fuel : Nat) (cs : List Value) (x : DataW H × List MemPlace), intsB P n t = true → DataW.trod enc P w base spare held fuel t cs = some x →
    ∀ c ∈ cs, ∃ m, c = .int .i64 m ∧ (Lit.int .i64 m).wf = true := by
  intro n
  induction n with
  | zero => intro t fuel cs x h; simp [intsB] at h
  | succ n ih =>
    intro t fuel cs x h ht c hc
    unfold intsB at h
    split at h
    · rename_i k hk
      obtain rfl : k = .i64 := by simpa using h
      obtain ⟨fuel, rfl⟩ : ∃ f, fuel = f + 1 := by cases fuel with
        | zero => simp [DataW.trod] at ht
        | succ f => exact ⟨f, rfl⟩
      unfold DataW.trod at ht
      rw [hk] at ht
      split at ht <;> simp_all
    · rename_i fs hk
      simp only [Bool.and_eq_true, beq_iff_eq] at h
      obtain ⟨xs, n', hn', hx, hlen, hxl, hf⟩ := DataW.trod_struct hk ht
      obtain ⟨j, hj, rfl⟩ := List.mem_iff_getElem.1 hc
      have hmem : j ∈ fs.toList.flatMap (fun f => List.range' f.offset (P.cellsOf f.type)) := by
        rw [h.2]; exact List.mem_range.2 (by omega)
      obtain ⟨f, hfm, hjr⟩ := List.mem_flatMap.1 hmem
      obtain ⟨i, hi, hfi⟩ := List.mem_iff_getElem.1 hfm
      have hfs : fs[i]? = some f := by
        have : fs.toList[i]? = some f := by rw [List.getElem?_eq_getElem hi, hfi]
        simpa using this
      have h1 := hf i f hfs
      have hil : i < xs.length := by rw [hxl]; simpa using hi
      rw [List.getElem?_eq_getElem hil] at h1
      refine ih f.type n' _ _ (by have := List.all_eq_true.1 h.1 f hfm; exact this) h1 _ ?_
      obtain ⟨hlo, hhi⟩ := List.mem_range'_1.1 hjr
      rw [List.mem_iff_getElem?]
      refine ⟨j - f.offset, ?_⟩
      rw [List.getElem?_take_of_lt (by omega), List.getElem?_drop]
      have : f.offset + (j - f.offset) = j := by omega
      rw [this, List.getElem?_eq_getElem hj]
    · cases h

/-- A struct of ints by value. -/
theorem open_ints_agg {r : Reach} {b0 : Nat} {t : TypeId} {fs : Array Field} {v : Value} {d : DataW H} {p : List MemPlace} (hs : P.underlying t = some (.struct fs)) (k : Nat) (hi : intsB P k t = true)
    (hv : Value.okWide P w r b0 t v) (h : DataW.Trod enc P w base spare held t v d p) :
    ∃ ns : List Int, ns.length = P.cellsOf t ∧ v = .agg (ns.map (Value.int .i64)).toArray ∧ ∀ n ∈ ns, (Lit.int .i64 n).wf = true := by
  obtain ⟨cs, rfl, hsz⟩ := okWide_struct hs hv
  obtain ⟨fuel, hf⟩ := h
  have hall := ints_of_trod k t fuel _ _ hi hf
  have : ∀ l : List Value, (∀ c ∈ l, ∃ m, c = .int .i64 m ∧ (Lit.int .i64 m).wf = true) → ∃ ns : List Int, l = ns.map (Value.int .i64) ∧ ∀ n ∈ ns, (Lit.int .i64 n).wf = true := by
    intro l
    induction l with
    | nil => exact fun _ => ⟨[], rfl, by simp⟩
    | cons c l ih =>
      intro hl
      obtain ⟨m, rfl, hm⟩ := hl c (by simp)
      obtain ⟨ns, rfl, hns⟩ := ih (fun c hc => hl c (by simp [hc]))
      exact ⟨m :: ns, rfl, by simp [hm]; exact hns⟩
  obtain ⟨ns, hns, hwf⟩ := this cs.toList hall
  refine ⟨ns, ?_, ?_, hwf⟩
  · have : cs.toList.length = ns.length := by rw [hns]; simp
    simp at this
    omega
  · rw [← hns]

theorem choose_list {E : Type} (S : Shape E) (p : Nat → E → Prop) : ∀ n : Nat, (∀ i, i < n → ∃ e, p i e) → ∃ es : List E, es.length = n ∧ ∀ i, i < n → p i (S.get es i)
  | 0, _ => ⟨[], rfl, fun i hi => absurd hi (by omega)⟩
  | n + 1, h => by
    obtain ⟨es, hl, hes⟩ := choose_list S p n (fun i hi => h i (by omega))
    obtain ⟨e, he⟩ := h n (by omega)
    refine ⟨es ++ [e], by simp [hl], fun i hi => ?_⟩
    rcases Nat.lt_or_ge i n with h1 | h1
    · have := hes i h1
      unfold Shape.get at this ⊢
      rw [List.getD_eq_getElem?_getD, List.getElem?_append_left (by omega), ← List.getD_eq_getElem?_getD]
      exact this
    · obtain rfl : i = n := by omega
      unfold Shape.get
      rw [List.getD_eq_getElem?_getD, List.getElem?_append_right (by omega), hl]
      simpa using he

/-- A slice of structs of ints. -/
theorem open_ints_slice {E : Type} (S : Shape E) (mk : (Nat → Int) → E) (hmk : ∀ c j, j < S.size → S.cell (mk c) j = .int .i64 (c j)) {r : Reach} {b0 : Nat} {t e : TypeId} {v : Value} {d : DataW H} {p : List MemPlace}
    (ht : P.underlying t = some (.slice e)) (hpos : 0 < S.size) (hsz : P.cellsOf e = S.size) (k : Nat) (hi : intsB P k e = true)
    (hv : Value.okWide P w r b0 t v) (h : DataW.Trod enc P w base spare held t v d p) :
    ∃ es : List E, Rd S w w.heap.size v es := by
  obtain ⟨A, len, cap, rfl⟩ := okWide_slice ht hv
  obtain ⟨fuel, hf⟩ := h
  rcases open_slice ht hf with ⟨hcs, _⟩ | ⟨a, len', cap', m, n, D, Pl, hcs, hb, hl, hm, hmm, hx, hcell⟩
  · obtain ⟨rfl, rfl, rfl⟩ : A = none ∧ len = 0 ∧ cap = 0 := by simpa [Value.cells] using hcs
    exact ⟨[], Rd.nil _ _⟩
  · obtain ⟨rfl, rfl, rfl⟩ : A = some a ∧ len = len' ∧ cap = cap' := by simpa [Value.cells] using hcs
    have hlm : len ≤ m := by rw [hmm]; split <;> omega
    have key : ∀ i, i < len → ∃ e : E, ∀ j, j < S.size → w.cell? ((a.add (i * S.size)).add j) = some (S.cell e j) := by
      intro i hil
      obtain ⟨cs', hc, ht'⟩ := hcell i (by omega)
      rw [hsz] at hc
      obtain ⟨_, hcl, hat⟩ := World.cells?_some hc
      have hall := ints_of_trod k e n _ _ hi ht'
      refine ⟨mk (fun j => match cs'[j]? with | some (.int _ q) => q | _ => 0), fun j hj => ?_⟩
      rw [hat j hj, hmk _ j hj]
      have hjl : j < cs'.length := by omega
      rw [List.getElem?_eq_getElem hjl]
      obtain ⟨q, hq, _⟩ := hall cs'[j] (List.getElem_mem hjl)
      rw [hq]
    obtain ⟨es, hlen, hes⟩ := choose_list S (fun i e => ∀ j, j < S.size → w.cell? ((a.add (i * S.size)).add j) = some (S.cell e j)) len key
    subst hlen
    refine ⟨es, some a, cap, rfl, hl, hm, fun h0 => ?_⟩
    have h00 := hes 0 h0 0 hpos
    obtain ⟨g, off, spot⟩ := a
    have hspot : spot = none := by
      have := h00
      simp only [Nat.zero_mul] at this
      simpa [Addr.add] using World.cell?_spot this
    subst hspot
    have hadd : ∀ x y : Nat, ((⟨g, off, none⟩ : Addr).add x).add y = ⟨g, off + x + y, none⟩ := by
      intro x y
      unfold Addr.add
      by_cases hx : x = 0 <;> by_cases hy : y = 0 <;> simp [hx, hy]
    refine ⟨g, off, rfl, ?_, fun q hq j hj => ?_⟩
    · rw [hadd] at h00
      exact World.block_lt_of_cell? w _ h00
    · have := hes q hq j hj
      rw [hadd] at this
      exact this

/-- A law's last step: of what was there nothing has turned. -/
theorem post_below {f : Func} {s : ChangeSpec} {W W' : World} {args : Array Value} {v : Value} {ds : List (DataW H)} {before pa : List MemPlace}
    (hW : DataW.Whole enc P f.params.toList s.vars false W args.toList ds [] before)
    (hres : DataW.TrodAll enc P W' W.heap.size (fun _ => false) false f.resultTypes.toList (v.resultList f.resultTypes.size) (s.fn H (ds ++ [])).results [])
    (hargs : DataW.TrodAll enc P W' 0 (fun b => decide (b < W.heap.size)) true f.params.toList args.toList (s.fn H (ds ++ [])).args pa)
    (hvars : DataW.TrodVars enc P W' (fun b => decide (b < W.heap.size)) s.vars (s.fn H (ds ++ [])).vars [])
    (hps : before = pa) (hb : Below W.heap.size W W') :
    s.post enc P f false true false false W args v W' := by
  have hlt : ∀ p ∈ before, p.block < W.heap.size := fun p hp => hW.lt p hp
  refine ⟨ds, [], before, [], pa, [], hW, hres, hargs, hvars, World.keptBut_mono (fun p hp => ⟨hp, ?_⟩) (hb.frame (· ∈ before)), fun h => by cases h⟩
  rw [hps] at hp
  exact Or.inr (by simpa using hp)

theorem list2 {l : List Int} (h : l.length = 2) : ∃ a b, l = [a, b] := by
  match l, h with
  | [a, b], _ => exact ⟨a, b, rfl⟩
theorem list3 {l : List Int} (h : l.length = 3) : ∃ a b c, l = [a, b, c] := by
  match l, h with
  | [a, b, c], _ => exact ⟨a, b, c, rfl⟩
theorem list4 {l : List Int} (h : l.length = 4) : ∃ a b c d, l = [a, b, c, d] := by
  match l, h with
  | [a, b, c, d], _ => exact ⟨a, b, c, d, rfl⟩
theorem list5 {l : List Int} (h : l.length = 5) : ∃ a b c d e, l = [a, b, c, d, e] := by
  match l, h with
  | [a, b, c, d, e], _ => exact ⟨a, b, c, d, e, rfl⟩
theorem list7 {l : List Int} (h : l.length = 7) : ∃ a b c d e f g, l = [a, b, c, d, e, f, g] := by
  match l, h with
  | [a, b, c, d, e, f, g], _ => exact ⟨a, b, c, d, e, f, g, rfl⟩
end
end
section
open Go Go.RowKit Go.ChangeShapes Go.WideShapes Go.Deep

section
variable {H : Type} {enc : TypeId × Value → H} {P : Program} {w : World} {base : Nat} {spare : Nat → Bool} {held : Bool}
theorem bounds_u8 {n : Int} (h : (Lit.int .u8 n).wf = true) : 0 ≤ n ∧ n ≤ 255 := by
  simp [Lit.wf, IntKind.min, IntKind.max, IntKind.signed, IntKind.bits] at h
  omega
theorem open_bytesAt {r : Reach} {b0 : Nat} {t e : TypeId} {v : Value} {d : DataW H} {p : List MemPlace} (ht : P.underlying t = some (.slice e)) (he : P.underlying e = some (.int .u8)) (hc1 : P.cellsOf e = 1)
    (hv : Value.okWide P w r b0 t v) (h : DataW.Trod enc P w base spare held t v d p) : ∃ (A : Option Addr) (n c : Nat), v = .slice A n c ∧ BytesAt w w.heap.size A n := by
  obtain ⟨A, len, cap, rfl⟩ := okWide_slice ht hv
  obtain ⟨fuel, hf⟩ := h
  rcases open_slice ht hf with ⟨hcs, _⟩ | ⟨a, len', cap', m, n, D, Pl, hcs, hb, hl, hm, hmm, hx, hcell⟩
  · obtain ⟨rfl, rfl, rfl⟩ : A = none ∧ len = 0 ∧ cap = 0 := by simpa [Value.cells] using hcs
    exact ⟨none, 0, 0, rfl, by decide, fun h0 => absurd h0 (by decide)⟩
  · obtain ⟨rfl, rfl, rfl⟩ : A = some a ∧ len = len' ∧ cap = cap' := by simpa [Value.cells] using hcs
    have hlm : len ≤ m := by rw [hmm]; split <;> omega
    have key : ∀ i, i < len → ∃ b : Nat, b ≤ 255 ∧ w.cell? (a.add (i * 1)) = some (.int .u8 (b : Int)) := by
      intro i hil
      obtain ⟨cs', hc, ht'⟩ := hcell i (by omega)
      rw [hc1] at hc
      obtain ⟨_, hcl, hat⟩ := World.cells?_some hc
      obtain ⟨q, hq, -, hw⟩ := DataW.trod_int he ht'
      obtain ⟨h1, h2⟩ := bounds_u8 hw
      have h3 := hat 0 (by decide)
      rw [hq] at h3
      refine ⟨q.toNat, by omega, ?_⟩
      rw [show ((q.toNat : Nat) : Int) = q by omega]
      have h4 : (a.add (i * 1)).add 0 = a.add (i * 1) := by simp [Addr.add]
      rw [h4] at h3
      exact h3
    refine ⟨some a, len, cap, rfl, Nat.le_trans hl hm, fun h0 => ?_⟩
    obtain ⟨g, off, spot⟩ := a
    obtain ⟨b0, -, h00⟩ := key 0 h0
    have hspot : spot = none := by
      have := h00
      simp only [Nat.zero_mul] at this
      simpa [Addr.add] using World.cell?_spot this
    subst hspot
    have hadd : ∀ x : Nat, (⟨g, off, none⟩ : Addr).add x = ⟨g, off + x, none⟩ := by
      intro x
      unfold Addr.add
      by_cases hx : x = 0 <;> simp [hx]
    have hlt : g < w.heap.size := by
      rw [hadd] at h00
      exact World.block_lt_of_cell? w _ h00
    refine ⟨g, off, rfl, hlt, hlt, fun j hj => ?_⟩
    obtain ⟨b, hb1, hb2⟩ := key j hj
    rw [hadd, Nat.mul_one] at hb2
    exact ⟨b, hb1, hb2⟩
end
end
section
open Go Go.RowKit Go.ChangeShapes Go.WideShapes
theorem own_knob : ownKnob Tryz.prog.godebug = none := by kernel_rfl
theorem laid_out : laidOutB Tryz.prog = true := by kernel_rfl
theorem bounds_i64 {n : Int} (h : (Lit.int .i64 n).wf = true) : -9223372036854775808 ≤ n ∧ n ≤ 9223372036854775807 := by
  simp [Lit.wf, IntKind.min, IntKind.max, IntKind.signed, IntKind.bits] at h
  omega
def cuMk (c : Nat → Int) : Cu := ⟨c 0, c 1⟩
def enMk (c : Nat → Int) : En := ⟨c 0, c 1, c 2, c 3, c 4⟩
def rpMk (c : Nat → Int) : Rp := ⟨c 0, c 1, c 2, c 3, c 4, c 5, c 6⟩
def ptMk (c : Nat → Int) : Pt := ⟨c 0, c 1, c 2⟩
theorem ptMk_cell (c : Nat → Int) (j : Nat) (hj : j < ptS.size) : ptS.cell (ptMk c) j = .int .i64 (c j) := by
  match j, hj with
  | 0, _ => rfl
  | 1, _ => rfl
  | 2, _ => rfl
theorem cuMk_cell (c : Nat → Int) (j : Nat) (hj : j < cuS.size) : cuS.cell (cuMk c) j = .int .i64 (c j) := by
  match j, hj with
  | 0, _ => rfl
  | 1, _ => rfl
theorem enMk_cell (c : Nat → Int) (j : Nat) (hj : j < enS.size) : enS.cell (enMk c) j = .int .i64 (c j) := by
  match j, hj with
  | 0, _ => rfl
  | 1, _ => rfl
  | 2, _ => rfl
  | 3, _ => rfl
  | 4, _ => rfl
theorem rpMk_cell (c : Nat → Int) (j : Nat) (hj : j < rpS.size) : rpS.cell (rpMk c) j = .int .i64 (c j) := by
  match j, hj with
  | 0, _ => rfl
  | 1, _ => rfl
  | 2, _ => rfl
  | 3, _ => rfl
  | 4, _ => rfl
  | 5, _ => rfl
  | 6, _ => rfl
theorem farC {w : World} {g o b j : Nat} {v : Value} (h : b ≠ g) : (w.setCell ⟨g, o, none⟩ v).cell? ⟨b, j, none⟩ = w.cell? ⟨b, j, none⟩ :=
  World.cell?_setCell_other _ _ _ _ (by intro e; injection e with e1; exact h e1.symm)

theorem new_cell {w : World} {G : Nat} {cs : Array Value} {T : TypeId} {j : Nat} {v : Value} (hG : w.heap.size = G) (hv : cs[j]? = some v) : (w.alloc (.cells cs T)).cell? ⟨G, j, none⟩ = some v := by
  subst hG
  rw [← hv]; exact (Blk.new w T cs).cell j
theorem new_frozen {w : World} {G : Nat} {cs : Array Value} {T : TypeId} {j : Nat} (hG : w.heap.size = G) : (w.alloc (.cells cs T)).frozen? ⟨G, j, none⟩ = false := by
  subst hG
  exact (Blk.new w T cs).frozen j

theorem bfar5 {w : World} {b g : Nat} {T : TypeId} {cs : Array Value} {v0 v1 v2 v3 v4 : Value} (h : Blk w b T cs) (hg : b ≠ g) :
    Blk (((((w.setCell ⟨g, 0, none⟩ v0).setCell ⟨g, 1, none⟩ v1).setCell ⟨g, 2, none⟩ v2).setCell ⟨g, 3, none⟩ v3).setCell ⟨g, 4, none⟩ v4) b T cs :=
  ((((h.far (p := ⟨g, 0, none⟩) hg _).far (p := ⟨g, 1, none⟩) hg _).far (p := ⟨g, 2, none⟩) hg _).far (p := ⟨g, 3, none⟩) hg _).far (p := ⟨g, 4, none⟩) hg _

theorem own_apart {u v : Value} (H : ∀ k, v.ownBlock = some k → u.ownBlock = some k → False) : v.ownBlock = none ∨ v.ownBlock ≠ u.ownBlock := by
  cases h : v.ownBlock with
  | none => exact .inl rfl
  | some k => exact .inr (fun e => H k h e.symm)
end
end Go.Proofs.YthdfpfhkmfmnbaaGreat
