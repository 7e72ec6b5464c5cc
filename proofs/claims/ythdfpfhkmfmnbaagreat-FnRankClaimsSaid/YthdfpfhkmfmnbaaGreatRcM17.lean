/- Own texts put together: The bounds of the rank: the walks of both sides; The plain model of a two-curve: the walks of both sides. Conditions: those of each theorem. -/
import Derived.Test.YthdfpfhkmfmnbaaGreatRcM16
import Derived.Test.YthdfpfhkmfmnbaaGreatRcM1
import Derived.BigRegion
namespace Go.Proofs.YthdfpfhkmfmnbaaGreat
section
open Go Go.RowKit Go.Lib

def upV (a b : Int) : Int × Bool := if (srV a b).2.2 = true then ((srV a b).1 + (srV a b).2.1 - 2, true) else (0, false)
def loV (a b : Int) (M : Nat) : Int := max ((frV a b M).1 + (frV a b M).2.1 - 2) 0
/-- The bounds of the rank, if they are told. -/
def rbV (a b : Int) (M : Nat) : Int × Int × Bool := if (frV a b M).2.2 = true ∧ (srV a b).2.2 = true then (loV a b M, (srV a b).1 + (srV a b).2.1 - 2, true) else (0, 0, false)

set_option linter.unusedSimpArgs false in
set_option linter.unusedVariables false in
set_option maxRecDepth 8000 in
set_option maxHeartbeats 8000000 in
theorem rkUpper_any (a b : Int) (w : World) (h : twB a b = true) :
    Calls Tryz.prog 41 #[.agg #[.int .i64 a, .int .i64 b]] w fun e w' => e = .returned (.tuple #[.int .i64 (upV a b).1, .bool (upV a b).2]) ∧ Below w.heap.size w w' := by
  have Hs := Lib.hid (fun w9 => rkSelmer_any a b w9 h)
  obtain ⟨⟨b1, b2⟩, b3, b4⟩ := sr_bd (a := a) (b := b)
  unfold upV
  clear h
  generalize srV a b = V at *
  obtain ⟨x, y, k⟩ := V
  dsimp only at *
  cases k
  · go_enter Tryz.func41, Tryz.ntmps41
    go_wp2_with fail
    refine (Hs.out _).mono ?_; rintro e w1 ⟨rfl, hb1⟩
    have S1 := Lib.hid (show w.heap.size + 1 ≤ w1.heap.size by have h9 := hb1.size; (try simp only [World.size_alloc, World.size_setCell, World.size_drew] at h9); omega)
    have NTB := Lib.hid ((Blk.new w 24 #[.int .i64 a, .int .i64 b]).on hb1)
    have TB := NTB; clear NTB
    have Hb1 := Lib.hid (bthen (bal (Below.refl w.heap.size w) (Obj.cells #[.int .i64 a, .int .i64 b] 24)) hb1)
    clear hb1
    go_wp2
    exact bodyPost_ret (v := .tuple #[.int .i64 0, .bool false]) (by simp [results, Tryz.results41, go_sem]) rfl ⟨rfl, Hb1.out⟩
  · go_enter Tryz.func41, Tryz.ntmps41
    go_wp2_with fail
    refine (Hs.out _).mono ?_; rintro e w2 ⟨rfl, hb2⟩
    have S2 := Lib.hid (show w.heap.size + 1 ≤ w2.heap.size by have h9 := hb2.size; (try simp only [World.size_alloc, World.size_setCell, World.size_drew] at h9); omega)
    have NTB := Lib.hid ((Blk.new w 24 #[.int .i64 a, .int .i64 b]).on hb2)
    have TB := NTB; clear NTB
    have Hb2 := Lib.hid (bthen (bal (Below.refl w.heap.size w) (Obj.cells #[.int .i64 a, .int .i64 b] 24)) hb2)
    clear hb2
    go_wp2
    exact bodyPost_ret (v := .tuple #[.int .i64 (x + y - 2), .bool true]) (by simp [results, Tryz.results41, go_sem]) rfl ⟨rfl, Hb2.out⟩
set_option linter.unusedSimpArgs false in
set_option linter.unusedVariables false in
set_option maxRecDepth 8000 in
set_option maxHeartbeats 8000000 in
theorem rkLow_any (x y : Int) (w : World) (b1 : 0 ≤ x ∧ x ≤ 6) (b2 : 0 ≤ y ∧ y ≤ 6) :
    Calls Tryz.prog 43 #[.int .i64 x, .int .i64 y] w fun e w' => e = .returned (.int .i64 (max (x + y - 2) 0)) ∧ Below w.heap.size w w' := by
  obtain ⟨b1, b3⟩ := b1
  obtain ⟨b2, b4⟩ := b2
  have Hm := Lib.hid (fun w9 => l1MostG_any 0 (x + y - 2) w9)
  have HV := Lib.hid (show max 0 (x + y - 2) = max (x + y - 2) 0 by omega)
  generalize max 0 (x + y - 2) = m at *
  go_enter Tryz.func43, Tryz.ntmps43
  go_wp2_with (go_at_call 69; refine (Hm.out _).mono ?_; rintro e w1 ⟨rfl, rfl⟩)
  go_ret
  exact ⟨by rw [← HV.out] <;> rfl, Below.refl _ _⟩
set_option linter.unusedSimpArgs false in
set_option linter.unusedVariables false in
set_option maxRecDepth 8000 in
set_option maxHeartbeats 8000000 in
theorem lowerRank_any (a b : Int) (M : Nat) (w : World) (h : twB a b = true) (hM : M ≤ 60) :
    Calls Tryz.prog 46 #[.agg #[.int .i64 a, .int .i64 b], .int .i64 (M : Int)] w fun e w' => e = .returned (.tuple #[.int .i64 (loV a b M), .bool (frV a b M).2.2]) ∧ Below w.heap.size w w' := by
  have Hs := Lib.hid (fun w9 => foundRanks_any a b M w9 h hM)
  obtain ⟨⟨b1, b2⟩, b3, b4⟩ := fr_bd (a := a) (b := b) (M := M) h
  unfold loV
  clear h
  generalize frV a b M = V at *
  obtain ⟨x, y, k⟩ := V
  dsimp only at *
  go_enter Tryz.func46, Tryz.ntmps46
  go_wp2_with fail
  refine (Hs.out _).mono ?_; rintro e w1 ⟨rfl, hb1⟩
  have S1 := Lib.hid (show w.heap.size + 1 ≤ w1.heap.size by have h9 := hb1.size; (try simp only [World.size_alloc, World.size_setCell, World.size_drew] at h9); omega)
  have NTB := Lib.hid ((Blk.new w 24 #[.int .i64 a, .int .i64 b]).on hb1)
  have TB := NTB; clear NTB
  have Hb1 := Lib.hid (bthen (bal (Below.refl w.heap.size w) (Obj.cells #[.int .i64 a, .int .i64 b] 24)) hb1)
  clear hb1
  by_cases hm : 0 ≤ x + y - 2
  · have hmx : max (x + y - 2) 0 = x + y - 2 := by omega
    have g1 : decide (x + y - 2 < 0) = false := decide_eq_false (by omega)
    have g2 : decide (0 < x + y - 2) = true ∨ True := Or.inr trivial
    go_wp2
    exact bodyPost_ret (v := .tuple #[.int .i64 (max (x + y - 2) 0), .bool k]) (by first | (simp [results, Tryz.results46, go_sem]; done) | (simp [results, Tryz.results46, go_sem, hmx]; done) | (simp [results, Tryz.results46, go_sem, hmx]; omega)) rfl ⟨rfl, Hb1.out⟩
  · have hmx : max (x + y - 2) 0 = 0 := by omega
    have g1 : decide (x + y - 2 < 0) = true := decide_eq_true (by omega)
    have g2 : decide (0 < x + y - 2) = false ∨ True := Or.inr trivial
    go_wp2
    exact bodyPost_ret (v := .tuple #[.int .i64 (max (x + y - 2) 0), .bool k]) (by first | (simp [results, Tryz.results46, go_sem]; done) | (simp [results, Tryz.results46, go_sem, hmx]; done) | (simp [results, Tryz.results46, go_sem, hmx]; omega)) rfl ⟨rfl, Hb1.out⟩
set_option linter.unusedSimpArgs false in
set_option linter.unusedVariables false in
set_option maxRecDepth 8000 in
set_option maxHeartbeats 8000000 in
theorem rkBounds_any (a b : Int) (M : Nat) (w : World) (h : twB a b = true) (hM : M ≤ 60) :
    Calls Tryz.prog 26 #[.agg #[.int .i64 a, .int .i64 b], .int .i64 (M : Int)] w fun e w' => e = .returned (.tuple #[.int .i64 (rbV a b M).1, .int .i64 (rbV a b M).2.1, .bool (rbV a b M).2.2]) ∧ Below w.heap.size w w' := by
  have Hf := Lib.hid (fun w9 => rkFound_any a b M w9 h hM)
  have Hu := Lib.hid (fun w9 => rkUpper_any a b w9 h)
  obtain ⟨⟨b1, b2⟩, b3, b4⟩ := fr_bd (a := a) (b := b) (M := M) h
  have Hlo := Lib.hid (fun w9 => rkLow_any (frV a b M).1 (frV a b M).2.1 w9 ⟨b1, b2⟩ ⟨b3, b4⟩)
  have HY := Lib.hid (fun (h1 : (frV a b M).2.2 = true) (h2 : (srV a b).2.2 = true) => show rbV a b M = (loV a b M, (srV a b).1 + (srV a b).2.1 - 2, true) from if_pos ⟨h1, h2⟩)
  have HN := Lib.hid (fun (hx : ¬ ((frV a b M).2.2 = true ∧ (srV a b).2.2 = true)) => show rbV a b M = (0, 0, false) from if_neg hx)
  unfold loV at HY
  unfold upV at Hu
  clear h b1 b2 b3 b4
  generalize rbV a b M = V at *
  generalize frV a b M = F at *
  generalize srV a b = S at *
  obtain ⟨x, y, k⟩ := F
  obtain ⟨u, v, l⟩ := S
  dsimp only at *
  cases k
  · have HV := Lib.hid (HN.out (by simp))
    cases l
    · go_enter Tryz.func26, Tryz.ntmps26
      go_wp2_with fail
      refine (Hf.out _).mono ?_; rintro e w1 ⟨rfl, hb1⟩
      have S1 := Lib.hid (show w.heap.size + 1 ≤ w1.heap.size by have h9 := hb1.size; (try simp only [World.size_alloc, World.size_setCell, World.size_drew] at h9); omega)
      have NTB := Lib.hid ((Blk.new w 24 #[.int .i64 a, .int .i64 b]).on hb1)
      have TB := NTB; clear NTB
      have Hb1 := Lib.hid (bthen (bal (Below.refl w.heap.size w) (Obj.cells #[.int .i64 a, .int .i64 b] 24)) hb1)
      clear hb1
      have qTB0 : w1.cell? ⟨w.heap.size, 0, none⟩ = some (.int .i64 a) := TB.out.cell 0
      have qTB1 : w1.cell? ⟨w.heap.size, 1, none⟩ = some (.int .i64 b) := TB.out.cell 1
      have qTBl := TB.out.lt
      go_wp2_with fail
      clear qTB0 qTB1 qTBl
      refine (Hu.out _).mono ?_; rintro e w2 ⟨rfl, hb2⟩
      have S2 := Lib.hid (show w1.heap.size + 0 ≤ w2.heap.size by have h9 := hb2.size; (try simp only [World.size_alloc, World.size_setCell, World.size_drew] at h9); omega)
      have Z2 := Lib.hid (And.intro S1.out S2.out)
      have NTB := Lib.hid (TB.out.on hb2)
      have TB := NTB; clear NTB
      have Hb2 := Lib.hid (bthen Hb1.out hb2)
      clear hb2
      go_wp2
      exact bodyPost_ret (v := .tuple #[.int .i64 0, .int .i64 0, .bool false]) (by simp [results, Tryz.results26, go_sem]) rfl ⟨by rw [HV.out], Hb2.out⟩
    · go_enter Tryz.func26, Tryz.ntmps26
      go_wp2_with fail
      refine (Hf.out _).mono ?_; rintro e w3 ⟨rfl, hb3⟩
      have S3 := Lib.hid (show w.heap.size + 1 ≤ w3.heap.size by have h9 := hb3.size; (try simp only [World.size_alloc, World.size_setCell, World.size_drew] at h9); omega)
      have NTB := Lib.hid ((Blk.new w 24 #[.int .i64 a, .int .i64 b]).on hb3)
      have TB := NTB; clear NTB
      have Hb3 := Lib.hid (bthen (bal (Below.refl w.heap.size w) (Obj.cells #[.int .i64 a, .int .i64 b] 24)) hb3)
      clear hb3
      have qTB0 : w3.cell? ⟨w.heap.size, 0, none⟩ = some (.int .i64 a) := TB.out.cell 0
      have qTB1 : w3.cell? ⟨w.heap.size, 1, none⟩ = some (.int .i64 b) := TB.out.cell 1
      have qTBl := TB.out.lt
      go_wp2_with fail
      clear qTB0 qTB1 qTBl
      refine (Hu.out _).mono ?_; rintro e w4 ⟨rfl, hb4⟩
      have S4 := Lib.hid (show w3.heap.size + 0 ≤ w4.heap.size by have h9 := hb4.size; (try simp only [World.size_alloc, World.size_setCell, World.size_drew] at h9); omega)
      have Z4 := Lib.hid (And.intro S3.out S4.out)
      have NTB := Lib.hid (TB.out.on hb4)
      have TB := NTB; clear NTB
      have Hb4 := Lib.hid (bthen Hb3.out hb4)
      clear hb4
      go_wp2
      exact bodyPost_ret (v := .tuple #[.int .i64 0, .int .i64 0, .bool false]) (by simp [results, Tryz.results26, go_sem]) rfl ⟨by rw [HV.out], Hb4.out⟩
  cases l
  · have HV := Lib.hid (HN.out (by simp))
    go_enter Tryz.func26, Tryz.ntmps26
    go_wp2_with fail
    refine (Hf.out _).mono ?_; rintro e w5 ⟨rfl, hb5⟩
    have S5 := Lib.hid (show w.heap.size + 1 ≤ w5.heap.size by have h9 := hb5.size; (try simp only [World.size_alloc, World.size_setCell, World.size_drew] at h9); omega)
    have NTB := Lib.hid ((Blk.new w 24 #[.int .i64 a, .int .i64 b]).on hb5)
    have TB := NTB; clear NTB
    have Hb5 := Lib.hid (bthen (bal (Below.refl w.heap.size w) (Obj.cells #[.int .i64 a, .int .i64 b] 24)) hb5)
    clear hb5
    have qTB0 : w5.cell? ⟨w.heap.size, 0, none⟩ = some (.int .i64 a) := TB.out.cell 0
    have qTB1 : w5.cell? ⟨w.heap.size, 1, none⟩ = some (.int .i64 b) := TB.out.cell 1
    have qTBl := TB.out.lt
    go_wp2_with fail
    clear qTB0 qTB1 qTBl
    refine (Hu.out _).mono ?_; rintro e w6 ⟨rfl, hb6⟩
    have S6 := Lib.hid (show w5.heap.size + 0 ≤ w6.heap.size by have h9 := hb6.size; (try simp only [World.size_alloc, World.size_setCell, World.size_drew] at h9); omega)
    have Z6 := Lib.hid (And.intro S5.out S6.out)
    have NTB := Lib.hid (TB.out.on hb6)
    have TB := NTB; clear NTB
    have Hb6 := Lib.hid (bthen Hb5.out hb6)
    clear hb6
    go_wp2
    exact bodyPost_ret (v := .tuple #[.int .i64 0, .int .i64 0, .bool false]) (by simp [results, Tryz.results26, go_sem]) rfl ⟨by rw [HV.out], Hb6.out⟩
  have HV := Lib.hid (HY.out rfl rfl)
  generalize max (x + y - 2) 0 = m at *
  go_enter Tryz.func26, Tryz.ntmps26
  go_wp2_with fail
  refine (Hf.out _).mono ?_; rintro e w7 ⟨rfl, hb7⟩
  have S7 := Lib.hid (show w.heap.size + 1 ≤ w7.heap.size by have h9 := hb7.size; (try simp only [World.size_alloc, World.size_setCell, World.size_drew] at h9); omega)
  have NTB := Lib.hid ((Blk.new w 24 #[.int .i64 a, .int .i64 b]).on hb7)
  have TB := NTB; clear NTB
  have Hb7 := Lib.hid (bthen (bal (Below.refl w.heap.size w) (Obj.cells #[.int .i64 a, .int .i64 b] 24)) hb7)
  clear hb7
  have qTB0 : w7.cell? ⟨w.heap.size, 0, none⟩ = some (.int .i64 a) := TB.out.cell 0
  have qTB1 : w7.cell? ⟨w.heap.size, 1, none⟩ = some (.int .i64 b) := TB.out.cell 1
  have qTBl := TB.out.lt
  go_wp2_with fail
  clear qTB0 qTB1 qTBl
  refine (Hu.out _).mono ?_; rintro e w8 ⟨rfl, hb8⟩
  have S8 := Lib.hid (show w7.heap.size + 0 ≤ w8.heap.size by have h9 := hb8.size; (try simp only [World.size_alloc, World.size_setCell, World.size_drew] at h9); omega)
  have Z8 := Lib.hid (And.intro S7.out S8.out)
  have NTB := Lib.hid (TB.out.on hb8)
  have TB := NTB; clear NTB
  have Hb8 := Lib.hid (bthen Hb7.out hb8)
  clear hb8
  have qTB0 : w8.cell? ⟨w.heap.size, 0, none⟩ = some (.int .i64 a) := TB.out.cell 0
  have qTB1 : w8.cell? ⟨w.heap.size, 1, none⟩ = some (.int .i64 b) := TB.out.cell 1
  have qTBl := TB.out.lt
  go_wp2_with fail
  clear qTB0 qTB1 qTBl
  refine (Hlo.out _).mono ?_; rintro e w9 ⟨rfl, hb9⟩
  have S9 := Lib.hid (show w8.heap.size + 0 ≤ w9.heap.size by have h9 := hb9.size; (try simp only [World.size_alloc, World.size_setCell, World.size_drew] at h9); omega)
  have Z9 := Lib.hid (And.intro Z8.out S9.out)
  have NTB := Lib.hid (TB.out.on hb9)
  have TB := NTB; clear NTB
  have Hb9 := Lib.hid (bthen Hb8.out hb9)
  clear hb9
  go_wp2
  exact bodyPost_ret (v := .tuple #[.int .i64 m, .int .i64 (u + v - 2), .bool true]) (by simp [results, Tryz.results26, go_sem]) rfl ⟨by rw [HV.out], Hb9.out⟩
set_option linter.unusedSimpArgs false in
set_option linter.unusedVariables false in
set_option maxRecDepth 8000 in
set_option maxHeartbeats 8000000 in
theorem rankBounds_any (a b : Int) (M : Nat) (w : World) (h : twB a b = true) (hM : M ≤ 60) :
    Calls Tryz.prog 24 #[.agg #[.int .i64 a, .int .i64 b], .int .i64 (M : Int)] w fun e w' => e = .returned (.tuple #[.int .i64 (rbV a b M).1, .int .i64 (rbV a b M).2.1, .bool (rbV a b M).2.2]) ∧ Below w.heap.size w w' := by
  have Hf := Lib.hid (fun w9 => lowerRank_any a b M w9 h hM)
  have Hu := Lib.hid (fun w9 => selmerRanks_any a b w9 h)
  obtain ⟨⟨b1, b2⟩, b3, b4⟩ := sr_bd (a := a) (b := b)
  have HY := Lib.hid (fun (h1 : (frV a b M).2.2 = true) (h2 : (srV a b).2.2 = true) => show rbV a b M = (loV a b M, (srV a b).1 + (srV a b).2.1 - 2, true) from if_pos ⟨h1, h2⟩)
  have HN := Lib.hid (fun (hx : ¬ ((frV a b M).2.2 = true ∧ (srV a b).2.2 = true)) => show rbV a b M = (0, 0, false) from if_neg hx)
  clear h
  generalize rbV a b M = V at *
  generalize loV a b M = m at *
  generalize frV a b M = F at *
  generalize srV a b = S at *
  obtain ⟨x, y, k⟩ := F
  obtain ⟨u, v, l⟩ := S
  dsimp only at *
  cases k
  · have HV := Lib.hid (HN.out (by simp))
    go_enter Tryz.func24, Tryz.ntmps24
    go_wp2_with fail
    refine (Hf.out _).mono ?_; rintro e w1 ⟨rfl, hb1⟩
    have S1 := Lib.hid (show w.heap.size + 1 ≤ w1.heap.size by have h9 := hb1.size; (try simp only [World.size_alloc, World.size_setCell, World.size_drew] at h9); omega)
    have NTB := Lib.hid ((Blk.new w 24 #[.int .i64 a, .int .i64 b]).on hb1)
    have TB := NTB; clear NTB
    have Hb1 := Lib.hid (bthen (bal (Below.refl w.heap.size w) (Obj.cells #[.int .i64 a, .int .i64 b] 24)) hb1)
    clear hb1
    have qTB0 : w1.cell? ⟨w.heap.size, 0, none⟩ = some (.int .i64 a) := TB.out.cell 0
    have qTB1 : w1.cell? ⟨w.heap.size, 1, none⟩ = some (.int .i64 b) := TB.out.cell 1
    have qTBl := TB.out.lt
    go_wp2_with fail
    clear qTB0 qTB1 qTBl
    refine (Hu.out _).mono ?_; rintro e w2 ⟨rfl, hb2⟩
    have S2 := Lib.hid (show w1.heap.size + 0 ≤ w2.heap.size by have h9 := hb2.size; (try simp only [World.size_alloc, World.size_setCell, World.size_drew] at h9); omega)
    have Z2 := Lib.hid (And.intro S1.out S2.out)
    have NTB := Lib.hid (TB.out.on hb2)
    have TB := NTB; clear NTB
    have Hb2 := Lib.hid (bthen Hb1.out hb2)
    clear hb2
    go_wp2
    exact bodyPost_ret (v := .tuple #[.int .i64 0, .int .i64 0, .bool false]) (by simp [results, Tryz.results24, go_sem]) rfl ⟨by rw [HV.out], Hb2.out⟩
  cases l
  · have HV := Lib.hid (HN.out (by simp))
    go_enter Tryz.func24, Tryz.ntmps24
    go_wp2_with fail
    refine (Hf.out _).mono ?_; rintro e w3 ⟨rfl, hb3⟩
    have S3 := Lib.hid (show w.heap.size + 1 ≤ w3.heap.size by have h9 := hb3.size; (try simp only [World.size_alloc, World.size_setCell, World.size_drew] at h9); omega)
    have NTB := Lib.hid ((Blk.new w 24 #[.int .i64 a, .int .i64 b]).on hb3)
    have TB := NTB; clear NTB
    have Hb3 := Lib.hid (bthen (bal (Below.refl w.heap.size w) (Obj.cells #[.int .i64 a, .int .i64 b] 24)) hb3)
    clear hb3
    have qTB0 : w3.cell? ⟨w.heap.size, 0, none⟩ = some (.int .i64 a) := TB.out.cell 0
    have qTB1 : w3.cell? ⟨w.heap.size, 1, none⟩ = some (.int .i64 b) := TB.out.cell 1
    have qTBl := TB.out.lt
    go_wp2_with fail
    clear qTB0 qTB1 qTBl
    refine (Hu.out _).mono ?_; rintro e w4 ⟨rfl, hb4⟩
    have S4 := Lib.hid (show w3.heap.size + 0 ≤ w4.heap.size by have h9 := hb4.size; (try simp only [World.size_alloc, World.size_setCell, World.size_drew] at h9); omega)
    have Z4 := Lib.hid (And.intro S3.out S4.out)
    have NTB := Lib.hid (TB.out.on hb4)
    have TB := NTB; clear NTB
    have Hb4 := Lib.hid (bthen Hb3.out hb4)
    clear hb4
    go_wp2
    exact bodyPost_ret (v := .tuple #[.int .i64 0, .int .i64 0, .bool false]) (by simp [results, Tryz.results24, go_sem]) rfl ⟨by rw [HV.out], Hb4.out⟩
  have HV := Lib.hid (HY.out rfl rfl)
  go_enter Tryz.func24, Tryz.ntmps24
  go_wp2_with fail
  refine (Hf.out _).mono ?_; rintro e w5 ⟨rfl, hb5⟩
  have S5 := Lib.hid (show w.heap.size + 1 ≤ w5.heap.size by have h9 := hb5.size; (try simp only [World.size_alloc, World.size_setCell, World.size_drew] at h9); omega)
  have NTB := Lib.hid ((Blk.new w 24 #[.int .i64 a, .int .i64 b]).on hb5)
  have TB := NTB; clear NTB
  have Hb5 := Lib.hid (bthen (bal (Below.refl w.heap.size w) (Obj.cells #[.int .i64 a, .int .i64 b] 24)) hb5)
  clear hb5
  have qTB0 : w5.cell? ⟨w.heap.size, 0, none⟩ = some (.int .i64 a) := TB.out.cell 0
  have qTB1 : w5.cell? ⟨w.heap.size, 1, none⟩ = some (.int .i64 b) := TB.out.cell 1
  have qTBl := TB.out.lt
  go_wp2_with fail
  clear qTB0 qTB1 qTBl
  refine (Hu.out _).mono ?_; rintro e w6 ⟨rfl, hb6⟩
  have S6 := Lib.hid (show w5.heap.size + 0 ≤ w6.heap.size by have h9 := hb6.size; (try simp only [World.size_alloc, World.size_setCell, World.size_drew] at h9); omega)
  have Z6 := Lib.hid (And.intro S5.out S6.out)
  have NTB := Lib.hid (TB.out.on hb6)
  have TB := NTB; clear NTB
  have Hb6 := Lib.hid (bthen Hb5.out hb6)
  clear hb6
  go_wp2
  exact bodyPost_ret (v := .tuple #[.int .i64 m, .int .i64 (u + v - 2), .bool true]) (by simp [results, Tryz.results24, go_sem]) rfl ⟨by rw [HV.out], Hb6.out⟩
end
section
open Go Go.RowKit Go.Lib

/-- The plain model: a, b, scale, shift. -/
def pmA (a b : Int) : Int := if a.tmod 3 = 0 then b - 3 * a.tdiv 3 * a.tdiv 3 else 81 * b - 27 * a * a
def pmB (a b : Int) : Int := if a.tmod 3 = 0 then 2 * a.tdiv 3 * a.tdiv 3 * a.tdiv 3 - a.tdiv 3 * b else 54 * a * a * a - 243 * a * b
structure PmW (a b : Int) : Prop where
  x1 : -8100 ≤ 27 * a ∧ 27 * a ≤ 8100
  x2 : 0 ≤ 27 * a * a ∧ 27 * a * a ≤ 2430000
  x3 : -16200 ≤ 54 * a ∧ 54 * a ≤ 16200
  x4 : -4860000 ≤ 54 * a * a ∧ 54 * a * a ≤ 4860000
  x5 : -1458000000 ≤ 54 * a * a * a ∧ 54 * a * a * a ≤ 1458000000
  x6 : -72900 ≤ 243 * a ∧ 243 * a ≤ 72900
  x7 : -21870000 ≤ 243 * a * b ∧ 243 * a * b ≤ 21870000
structure PmE (e b : Int) : Prop where
  x1 : -300 ≤ 3 * e ∧ 3 * e ≤ 300
  x2 : -30000 ≤ 3 * e * e ∧ 3 * e * e ≤ 30000
  x3 : -200 ≤ 2 * e ∧ 2 * e ≤ 200
  x4 : -20000 ≤ 2 * e * e ∧ 2 * e * e ≤ 20000
  x5 : -2000000 ≤ 2 * e * e * e ∧ 2 * e * e * e ≤ 2000000
  x6 : -30000 ≤ e * b ∧ e * b ≤ 30000
theorem pm_w {a b : Int} (ha : -300 ≤ a ∧ a ≤ 300) (hb : -300 ≤ b ∧ b ≤ 300) : PmW a b := by
  have h2 := mul_bd (27 * a) a 8100 300 (by omega) (by omega) ha.1 ha.2
  have h4 := mul_bd (54 * a) a 16200 300 (by omega) (by omega) ha.1 ha.2
  have h5 := mul_bd (54 * a * a) a 4860000 300 h4.1 h4.2 ha.1 ha.2
  have h7 := mul_bd (243 * a) b 72900 300 (by omega) (by omega) hb.1 hb.2
  have hs := sq_bd ha
  have h9 : 27 * a * a = 27 * (a * a) := by rw [Int.mul_assoc]
  exact ⟨by omega, ⟨by rw [h9]; omega, by omega⟩, by omega, by omega, by omega, by omega, by omega⟩
theorem pm_e {e b : Int} (he : -100 ≤ e ∧ e ≤ 100) (hb : -300 ≤ b ∧ b ≤ 300) : PmE e b := by
  have h2 := mul_bd (3 * e) e 300 100 (by omega) (by omega) he.1 he.2
  have h4 := mul_bd (2 * e) e 200 100 (by omega) (by omega) he.1 he.2
  have h5 := mul_bd (2 * e * e) e 20000 100 h4.1 h4.2 he.1 he.2
  have h7 := mul_bd e b 100 300 he.1 he.2 hb.1 hb.2
  exact ⟨by omega, by omega, by omega, by omega, by omega, by omega⟩
set_option linter.unusedSimpArgs false in
set_option linter.unusedVariables false in
set_option maxRecDepth 8000 in
set_option maxHeartbeats 8000000 in
theorem tcPlain_any (a b : Int) (w : World) (ha : -300 ≤ a ∧ a ≤ 300) (hb : -300 ≤ b ∧ b ≤ 300) :
    Calls Tryz.prog 35 #[.agg #[.int .i64 a, .int .i64 b]] w fun e w' => (∃ x y : Int, e = .returned (.tuple #[.agg #[.int .i64 (pmA a b), .int .i64 (pmB a b)], .int .i64 x, .int .i64 y])) ∧ Below w.heap.size w w' := by
  by_cases h3 : a.tmod 3 = 0
  · have hpA := Lib.hid (show pmA a b = b - 3 * a.tdiv 3 * a.tdiv 3 by unfold pmA; rw [if_pos h3])
    have hpB := Lib.hid (show pmB a b = 2 * a.tdiv 3 * a.tdiv 3 * a.tdiv 3 - a.tdiv 3 * b by unfold pmB; rw [if_pos h3])
    have he : -100 ≤ a.tdiv 3 ∧ a.tdiv 3 ≤ 100 := by have h := Int.mul_tdiv_add_tmod a 3; omega
    obtain ⟨⟨m1, m2⟩, ⟨m3, m4⟩, ⟨m5, m6⟩, ⟨m7, m8⟩, ⟨m9, m10⟩, m11, m12⟩ := pm_e he hb
    have g1 : (a.tmod 3 == 0) = true := beq_iff_eq.2 h3
    have g2 : decide (a.tmod 3 = 0) = true := decide_eq_true h3
    generalize pmA a b = PA at *
    generalize pmB a b = PB at *
    generalize hm : a.tmod 3 = r at *
    generalize hq : a.tdiv 3 = q at *
    subst h3
    obtain ⟨he1, he2⟩ := he
    obtain ⟨hb1, hb2⟩ := hb
    go_enter Tryz.func35, Tryz.ntmps35
    go_wp2
    have R9RC := (show Blk (World.alloc (World.alloc w (Obj.cells #[.int .i64 a, .int .i64 b] 24)) (Obj.cells #[.int .i64 (b - 3 * q * q), .int .i64 (2 * q * q * q - q * b)] 31)) (w.heap.size + 1) 31 #[.int .i64 (b - 3 * q * q), .int .i64 (2 * q * q * q - q * b)] by have h9 := (Blk.new (World.alloc w (Obj.cells #[.int .i64 a, .int .i64 b] 24)) 31 #[.int .i64 (b - 3 * q * q), .int .i64 (2 * q * q * q - q * b)]); (try simp only [World.size_alloc, World.size_setCell] at h9); exact h9)
    have kRC0 := R9RC.cell 0
    have kRC1 := R9RC.cell 1
    simp at kRC0 kRC1
    exact bodyPost_ret (v := .tuple #[.agg #[.int .i64 (b - 3 * q * q), .int .i64 (2 * q * q * q - q * b)], .int .i64 1, .int .i64 q]) (by simp [results, Tryz.results35, go_sem, kRC0, kRC1]) rfl ⟨⟨_, _, by rw [hpA.out, hpB.out]⟩, (bal (bal (Below.refl w.heap.size w) (Obj.cells #[.int .i64 a, .int .i64 b] 24)) (Obj.cells #[.int .i64 (b - 3 * q * q), .int .i64 (2 * q * q * q - q * b)] 31))⟩
  · have hpA := Lib.hid (show pmA a b = 81 * b - 27 * a * a by unfold pmA; rw [if_neg h3])
    have hpB := Lib.hid (show pmB a b = 54 * a * a * a - 243 * a * b by unfold pmB; rw [if_neg h3])
    obtain ⟨⟨m1, m2⟩, ⟨m3, m4⟩, ⟨m5, m6⟩, ⟨m7, m8⟩, ⟨m9, m10⟩, ⟨m11, m12⟩, m13, m14⟩ := pm_w ha hb
    have g1 : (a.tmod 3 == 0) = false := beq_eq_false_iff_ne.2 h3
    have g2 : decide (a.tmod 3 = 0) = false := decide_eq_false h3
    generalize pmA a b = PA at *
    generalize pmB a b = PB at *
    generalize hm : a.tmod 3 = r at *
    obtain ⟨ha1, ha2⟩ := ha
    obtain ⟨hb1, hb2⟩ := hb
    go_enter Tryz.func35, Tryz.ntmps35
    go_upto_region 4 with fail
    obtain ⟨w1, hw9⟩ : ∃ x, x = (World.alloc (World.alloc w (Obj.cells #[.int .i64 a, .int .i64 b] 24)) (Obj.cells #[.int .i64 0, .int .i64 0] 31)) := ⟨_, rfl⟩
    rw [← hw9]
    have hb1 : Below ((World.alloc (World.alloc w (Obj.cells #[.int .i64 a, .int .i64 b] 24)) (Obj.cells #[.int .i64 0, .int .i64 0] 31))).heap.size (World.alloc (World.alloc w (Obj.cells #[.int .i64 a, .int .i64 b] 24)) (Obj.cells #[.int .i64 0, .int .i64 0] 31)) w1 := by rw [hw9]; exact Below.refl _ _
    have S1 := Lib.hid (show w.heap.size + 2 ≤ w1.heap.size by have h9 := hb1.size; (try simp only [World.size_alloc, World.size_setCell, World.size_drew] at h9); omega)
    have NTB := Lib.hid (((Blk.new w 24 #[.int .i64 a, .int .i64 b]).alloc (Obj.cells #[.int .i64 0, .int .i64 0] 31)).on hb1)
    have NRC := Lib.hid ((show Blk (World.alloc (World.alloc w (Obj.cells #[.int .i64 a, .int .i64 b] 24)) (Obj.cells #[.int .i64 0, .int .i64 0] 31)) (w.heap.size + 1) 31 #[.int .i64 0, .int .i64 0] by have h9 := (Blk.new (World.alloc w (Obj.cells #[.int .i64 a, .int .i64 b] 24)) 31 #[.int .i64 0, .int .i64 0]); (try simp only [World.size_alloc, World.size_setCell] at h9); exact h9).on hb1)
    have TB := NTB; clear NTB
    have RC := NRC; clear NRC
    have Hb1 := Lib.hid (bthen (bal (bal (Below.refl w.heap.size w) (Obj.cells #[.int .i64 a, .int .i64 b] 24)) (Obj.cells #[.int .i64 0, .int .i64 0] 31)) hb1)
    clear hb1
    clear hw9
    have qTB0 : w1.cell? ⟨w.heap.size, 0, none⟩ = some (.int .i64 a) := TB.out.cell 0
    have qTB1 : w1.cell? ⟨w.heap.size, 1, none⟩ = some (.int .i64 b) := TB.out.cell 1
    have qTBl := TB.out.lt
    have qRC0 : w1.cell? ⟨w.heap.size + 1, 0, none⟩ = some (.int .i64 0) := RC.out.cell 0
    have qRC1 : w1.cell? ⟨w.heap.size + 1, 1, none⟩ = some (.int .i64 0) := RC.out.cell 1
    have qRCl := RC.out.lt
    have qRCf0 := RC.out.frozen 0
    have qRCf1 := RC.out.frozen 1
    have nn : w.heap.size ≠ w.heap.size + 1 := by have := S1.out; (try simp only [World.size_alloc, World.size_setCell, World.size_drew]); omega
    have nn2 : w.heap.size + 1 ≠ w.heap.size := fun e => nn e.symm
    have HS : Hid (∀ w', Below (w.heap.size + 1) w1 w' → (w'.cell? ⟨w.heap.size, 0, none⟩ = some (.int .i64 a) ∧ w'.cell? ⟨w.heap.size, 1, none⟩ = some (.int .i64 b) ∧ Below (w.heap.size + 1) w1 w')) := Lib.hid (fun w' hw => ⟨(hw.cell (p := ⟨w.heap.size, 0, none⟩) (by show w.heap.size < w.heap.size + 1; omega)).trans qTB0, (hw.cell (p := ⟨w.heap.size, 1, none⟩) (by show w.heap.size < w.heap.size + 1; omega)).trans qTB1, hw⟩)
    have hdt : Below (w.heap.size + 1) w1 w1 := Below.refl _ _
    have hwA := Lib.hid (show IntKind.i64.wrap (IntKind.i64.wrap (81 * b) - IntKind.i64.wrap (IntKind.i64.wrap (27 * a) * a)) = 81 * b - 27 * a * a by rw [wrap_in (x := 81 * b) (by omega) (by omega), wrap_in (x := 27 * a) (by omega) (by omega), wrap_in (x := 27 * a * a) (by omega) (by omega), wrap_in (by omega) (by omega)])
    have hwB := Lib.hid (show IntKind.i64.wrap (IntKind.i64.wrap (IntKind.i64.wrap (IntKind.i64.wrap (54 * a) * a) * a) - IntKind.i64.wrap (IntKind.i64.wrap (243 * a) * b)) = 54 * a * a * a - 243 * a * b by rw [wrap_in (x := 54 * a) (by omega) (by omega), wrap_in (x := 54 * a * a) (by omega) (by omega), wrap_in (x := 54 * a * a * a) (by omega) (by omega), wrap_in (x := 243 * a) (by omega) (by omega), wrap_in (x := 243 * a * b) (by omega) (by omega), wrap_in (by omega) (by omega)])
    go_region_held3 (fun w' => w'.cell? ⟨w.heap.size, 0, none⟩ = some (.int .i64 a) ∧ w'.cell? ⟨w.heap.size, 1, none⟩ = some (.int .i64 b) ∧ Below (w.heap.size + 1) w1 w') ((go_split_ands; refine HS.out _ ?_; repeat (first | (with_reducible assumption) | (with_reducible refine Below.drew ?_) | (with_reducible refine Below.setCell ?_ (by dsimp only; omega) _)))) (fail)
    go_wp2
    have R9 := (show Blk (World.drew (World.setCell (World.setCell w1 ⟨w.heap.size + 1, 0, none⟩ (.int .i64 (IntKind.i64.wrap (IntKind.i64.wrap (81 * b) - IntKind.i64.wrap (IntKind.i64.wrap (27 * a) * a))))) ⟨w.heap.size + 1, 1, none⟩ (.int .i64 (IntKind.i64.wrap (IntKind.i64.wrap (IntKind.i64.wrap (IntKind.i64.wrap (54 * a) * a) * a) - IntKind.i64.wrap (IntKind.i64.wrap (243 * a) * b)))))) (w.heap.size + 1) 31 #[.int .i64 (IntKind.i64.wrap (IntKind.i64.wrap (81 * b) - IntKind.i64.wrap (IntKind.i64.wrap (27 * a) * a))), .int .i64 (IntKind.i64.wrap (IntKind.i64.wrap (IntKind.i64.wrap (IntKind.i64.wrap (54 * a) * a) * a) - IntKind.i64.wrap (IntKind.i64.wrap (243 * a) * b)))] by have h9 := (Blk.drew ((RC.out.set 0 (.int .i64 (IntKind.i64.wrap (IntKind.i64.wrap (81 * b) - IntKind.i64.wrap (IntKind.i64.wrap (27 * a) * a))))).set 1 (.int .i64 (IntKind.i64.wrap (IntKind.i64.wrap (IntKind.i64.wrap (IntKind.i64.wrap (54 * a) * a) * a) - IntKind.i64.wrap (IntKind.i64.wrap (243 * a) * b)))))); simpa using h9)
    have k0 := R9.cell 0
    have k1 := R9.cell 1
    simp at k0 k1
    exact bodyPost_ret (v := .tuple #[.agg #[.int .i64 (IntKind.i64.wrap (IntKind.i64.wrap (81 * b) - IntKind.i64.wrap (IntKind.i64.wrap (27 * a) * a))), .int .i64 (IntKind.i64.wrap (IntKind.i64.wrap (IntKind.i64.wrap (IntKind.i64.wrap (54 * a) * a) * a) - IntKind.i64.wrap (IntKind.i64.wrap (243 * a) * b)))], .int .i64 3, .int .i64 (IntKind.i64.wrap (3 * a))]) (by simp [results, Tryz.results35, go_sem, k0, k1]) rfl ⟨⟨_, _, by rw [hpA.out, hpB.out, hwA.out, hwB.out]⟩, (Below.drew (bst (bst Hb1.out (p := ⟨w.heap.size + 1, 0, none⟩) (show w.heap.size ≤ w.heap.size + 1 by have := S1.out; (try simp only [World.size_alloc, World.size_setCell, World.size_drew]); omega) (.int .i64 (IntKind.i64.wrap (IntKind.i64.wrap (81 * b) - IntKind.i64.wrap (IntKind.i64.wrap (27 * a) * a))))) (p := ⟨w.heap.size + 1, 1, none⟩) (show w.heap.size ≤ w.heap.size + 1 by have := S1.out; (try simp only [World.size_alloc, World.size_setCell, World.size_drew]); omega) (.int .i64 (IntKind.i64.wrap (IntKind.i64.wrap (IntKind.i64.wrap (IntKind.i64.wrap (54 * a) * a) * a) - IntKind.i64.wrap (IntKind.i64.wrap (243 * a) * b))))))⟩

set_option linter.unusedSimpArgs false in
set_option linter.unusedVariables false in
set_option maxRecDepth 8000 in
set_option maxHeartbeats 8000000 in
theorem plainModel_any (a b : Int) (w : World) (ha : -300 ≤ a ∧ a ≤ 300) (hb : -300 ≤ b ∧ b ≤ 300) :
    Calls Tryz.prog 33 #[.agg #[.int .i64 a, .int .i64 b]] w fun e w' => (∃ z : Int, e = .returned (.tuple #[.agg #[.int .i64 (if curveB (pmA a b) (pmB a b) = true then pmA a b else 0), .int .i64 (if curveB (pmA a b) (pmB a b) = true then pmB a b else 0)], .int .i64 z, .bool (curveB (pmA a b) (pmB a b))])) ∧ Below w.heap.size w w' := by
  obtain ⟨⟨m1, m2⟩, ⟨m3, m4⟩, ⟨m5, m6⟩, ⟨m7, m8⟩, ⟨m9, m10⟩, ⟨m11, m12⟩, m13, m14⟩ := pm_w ha hb
  have Hc := Lib.hid (fun w9 => isCurve_any (pmA a b) (pmB a b) w9)
  obtain ⟨k, hk⟩ : ∃ k, curveB (pmA a b) (pmB a b) = k := ⟨_, rfl⟩
  rw [hk]
  rw [hk] at Hc
  clear hk
  by_cases h3 : a.tmod 3 = 0
  · have hpA := Lib.hid (show pmA a b = b - 3 * a.tdiv 3 * a.tdiv 3 by unfold pmA; rw [if_pos h3])
    have hpB := Lib.hid (show pmB a b = 2 * a.tdiv 3 * a.tdiv 3 * a.tdiv 3 - a.tdiv 3 * b by unfold pmB; rw [if_pos h3])
    have he : -100 ≤ a.tdiv 3 ∧ a.tdiv 3 ≤ 100 := by have h := Int.mul_tdiv_add_tmod a 3; omega
    obtain ⟨⟨n1, n2⟩, ⟨n3, n4⟩, ⟨n5, n6⟩, ⟨n7, n8⟩, ⟨n9, n10⟩, n11, n12⟩ := pm_e he hb
    rw [hpA.out, hpB.out]
    rw [hpA.out, hpB.out] at Hc
    clear hpA hpB
    generalize hm : a.tmod 3 = r at *
    generalize hq : a.tdiv 3 = q at *
    subst h3
    obtain ⟨he1, he2⟩ := he
    obtain ⟨ha1, ha2⟩ := ha
    obtain ⟨hb1, hb2⟩ := hb
    cases k
    · go_enter Tryz.func33, Tryz.ntmps33
      go_wp2_with fail
      refine (Hc.out _).mono ?_; rintro e w1 ⟨rfl, hb1⟩
      have S1 := Lib.hid (show w.heap.size + 3 ≤ w1.heap.size by have h9 := hb1.size; (try simp only [World.size_alloc, World.size_setCell, World.size_drew] at h9); omega)
      have NTB := Lib.hid ((((Blk.new w 24 #[.int .i64 a, .int .i64 b]).alloc (Obj.cells #[.int .i64 0, .int .i64 0] 31)).alloc (Obj.cells #[.int .i64 (b - 3 * q * q), .int .i64 (2 * q * q * q - q * b)] 31)).on hb1)
      have NRC := Lib.hid (((show Blk (World.alloc (World.alloc w (Obj.cells #[.int .i64 a, .int .i64 b] 24)) (Obj.cells #[.int .i64 0, .int .i64 0] 31)) (w.heap.size + 1) 31 #[.int .i64 0, .int .i64 0] by have h9 := (Blk.new (World.alloc w (Obj.cells #[.int .i64 a, .int .i64 b] 24)) 31 #[.int .i64 0, .int .i64 0]); (try simp only [World.size_alloc, World.size_setCell] at h9); exact h9).alloc (Obj.cells #[.int .i64 (b - 3 * q * q), .int .i64 (2 * q * q * q - q * b)] 31)).on hb1)
      have NBL := Lib.hid ((show Blk (World.alloc (World.alloc (World.alloc w (Obj.cells #[.int .i64 a, .int .i64 b] 24)) (Obj.cells #[.int .i64 0, .int .i64 0] 31)) (Obj.cells #[.int .i64 (b - 3 * q * q), .int .i64 (2 * q * q * q - q * b)] 31)) (w.heap.size + 1 + 1) 31 #[.int .i64 (b - 3 * q * q), .int .i64 (2 * q * q * q - q * b)] by have h9 := (Blk.new (World.alloc (World.alloc w (Obj.cells #[.int .i64 a, .int .i64 b] 24)) (Obj.cells #[.int .i64 0, .int .i64 0] 31)) 31 #[.int .i64 (b - 3 * q * q), .int .i64 (2 * q * q * q - q * b)]); (try simp only [World.size_alloc, World.size_setCell] at h9); exact h9).on hb1)
      have TB := NTB; clear NTB
      have RC := NRC; clear NRC
      have BL := NBL; clear NBL
      have Hb1 := Lib.hid (bthen (bal (bal (bal (Below.refl w.heap.size w) (Obj.cells #[.int .i64 a, .int .i64 b] 24)) (Obj.cells #[.int .i64 0, .int .i64 0] 31)) (Obj.cells #[.int .i64 (b - 3 * q * q), .int .i64 (2 * q * q * q - q * b)] 31)) hb1)
      clear hb1
      have qBL0 : w1.cell? ⟨w.heap.size + 1 + 1, 0, none⟩ = some (.int .i64 (b - 3 * q * q)) := BL.out.cell 0
      have qBL1 : w1.cell? ⟨w.heap.size + 1 + 1, 1, none⟩ = some (.int .i64 (2 * q * q * q - q * b)) := BL.out.cell 1
      have qBLl := BL.out.lt
      have qRC0 : w1.cell? ⟨w.heap.size + 1, 0, none⟩ = some (.int .i64 0) := RC.out.cell 0
      have qRC1 : w1.cell? ⟨w.heap.size + 1, 1, none⟩ = some (.int .i64 0) := RC.out.cell 1
      have qRCl := RC.out.lt
      have qRCf0 := RC.out.frozen 0
      have qRCf1 := RC.out.frozen 1
      have nBLRC : w.heap.size + 1 + 1 ≠ w.heap.size + 1 := by have := S1.out; (try simp only [World.size_alloc, World.size_setCell, World.size_drew]); omega
      have nRCBL : w.heap.size + 1 ≠ w.heap.size + 1 + 1 := fun e => nBLRC e.symm
      go_wp2
      clear qBL0 qBL1 qBLl qRC0 qRC1 qRCl qRCf0 qRCf1 nBLRC nRCBL
      have R9RC := (show Blk (World.setCell (World.setCell w1 ⟨w.heap.size + 1, 0, none⟩ (.int .i64 0)) ⟨w.heap.size + 1, 1, none⟩ (.int .i64 0)) (w.heap.size + 1) 31 #[.int .i64 0, .int .i64 0] by have h9 := ((RC.out.set 0 (.int .i64 0)).set 1 (.int .i64 0)); simpa using h9)
      have kRC0 := R9RC.cell 0
      have kRC1 := R9RC.cell 1
      simp at kRC0 kRC1
      exact bodyPost_ret (v := .tuple #[.agg #[.int .i64 0, .int .i64 0], .int .i64 0, .bool false]) (by simp [results, Tryz.results33, go_sem, kRC0, kRC1]) rfl ⟨⟨_, rfl⟩, (bst (bst Hb1.out (p := ⟨w.heap.size + 1, 0, none⟩) (show w.heap.size ≤ w.heap.size + 1 by have := S1.out; (try simp only [World.size_alloc, World.size_setCell, World.size_drew]); omega) (.int .i64 0)) (p := ⟨w.heap.size + 1, 1, none⟩) (show w.heap.size ≤ w.heap.size + 1 by have := S1.out; (try simp only [World.size_alloc, World.size_setCell, World.size_drew]); omega) (.int .i64 0))⟩
    · go_enter Tryz.func33, Tryz.ntmps33
      go_wp2_with fail
      refine (Hc.out _).mono ?_; rintro e w2 ⟨rfl, hb2⟩
      have S2 := Lib.hid (show w.heap.size + 3 ≤ w2.heap.size by have h9 := hb2.size; (try simp only [World.size_alloc, World.size_setCell, World.size_drew] at h9); omega)
      have NTB := Lib.hid ((((Blk.new w 24 #[.int .i64 a, .int .i64 b]).alloc (Obj.cells #[.int .i64 0, .int .i64 0] 31)).alloc (Obj.cells #[.int .i64 (b - 3 * q * q), .int .i64 (2 * q * q * q - q * b)] 31)).on hb2)
      have NRC := Lib.hid (((show Blk (World.alloc (World.alloc w (Obj.cells #[.int .i64 a, .int .i64 b] 24)) (Obj.cells #[.int .i64 0, .int .i64 0] 31)) (w.heap.size + 1) 31 #[.int .i64 0, .int .i64 0] by have h9 := (Blk.new (World.alloc w (Obj.cells #[.int .i64 a, .int .i64 b] 24)) 31 #[.int .i64 0, .int .i64 0]); (try simp only [World.size_alloc, World.size_setCell] at h9); exact h9).alloc (Obj.cells #[.int .i64 (b - 3 * q * q), .int .i64 (2 * q * q * q - q * b)] 31)).on hb2)
      have NBL := Lib.hid ((show Blk (World.alloc (World.alloc (World.alloc w (Obj.cells #[.int .i64 a, .int .i64 b] 24)) (Obj.cells #[.int .i64 0, .int .i64 0] 31)) (Obj.cells #[.int .i64 (b - 3 * q * q), .int .i64 (2 * q * q * q - q * b)] 31)) (w.heap.size + 1 + 1) 31 #[.int .i64 (b - 3 * q * q), .int .i64 (2 * q * q * q - q * b)] by have h9 := (Blk.new (World.alloc (World.alloc w (Obj.cells #[.int .i64 a, .int .i64 b] 24)) (Obj.cells #[.int .i64 0, .int .i64 0] 31)) 31 #[.int .i64 (b - 3 * q * q), .int .i64 (2 * q * q * q - q * b)]); (try simp only [World.size_alloc, World.size_setCell] at h9); exact h9).on hb2)
      have TB := NTB; clear NTB
      have RC := NRC; clear NRC
      have BL := NBL; clear NBL
      have Hb2 := Lib.hid (bthen (bal (bal (bal (Below.refl w.heap.size w) (Obj.cells #[.int .i64 a, .int .i64 b] 24)) (Obj.cells #[.int .i64 0, .int .i64 0] 31)) (Obj.cells #[.int .i64 (b - 3 * q * q), .int .i64 (2 * q * q * q - q * b)] 31)) hb2)
      clear hb2
      have qBL0 : w2.cell? ⟨w.heap.size + 1 + 1, 0, none⟩ = some (.int .i64 (b - 3 * q * q)) := BL.out.cell 0
      have qBL1 : w2.cell? ⟨w.heap.size + 1 + 1, 1, none⟩ = some (.int .i64 (2 * q * q * q - q * b)) := BL.out.cell 1
      have qBLl := BL.out.lt
      have qRC0 : w2.cell? ⟨w.heap.size + 1, 0, none⟩ = some (.int .i64 0) := RC.out.cell 0
      have qRC1 : w2.cell? ⟨w.heap.size + 1, 1, none⟩ = some (.int .i64 0) := RC.out.cell 1
      have qRCl := RC.out.lt
      have qRCf0 := RC.out.frozen 0
      have qRCf1 := RC.out.frozen 1
      have nBLRC : w.heap.size + 1 + 1 ≠ w.heap.size + 1 := by have := S2.out; (try simp only [World.size_alloc, World.size_setCell, World.size_drew]); omega
      have nRCBL : w.heap.size + 1 ≠ w.heap.size + 1 + 1 := fun e => nBLRC e.symm
      go_wp2
      clear qBL0 qBL1 qBLl qRC0 qRC1 qRCl qRCf0 qRCf1 nBLRC nRCBL
      have R9RC := (show Blk (World.setCell (World.setCell w2 ⟨w.heap.size + 1, 0, none⟩ (.int .i64 (b - 3 * q * q))) ⟨w.heap.size + 1, 1, none⟩ (.int .i64 (2 * q * q * q - q * b))) (w.heap.size + 1) 31 #[.int .i64 (b - 3 * q * q), .int .i64 (2 * q * q * q - q * b)] by have h9 := ((RC.out.set 0 (.int .i64 (b - 3 * q * q))).set 1 (.int .i64 (2 * q * q * q - q * b))); simpa using h9)
      have kRC0 := R9RC.cell 0
      have kRC1 := R9RC.cell 1
      simp at kRC0 kRC1
      exact bodyPost_ret (v := .tuple #[.agg #[.int .i64 (b - 3 * q * q), .int .i64 (2 * q * q * q - q * b)], .int .i64 (q), .bool true]) (by simp [results, Tryz.results33, go_sem, kRC0, kRC1]) rfl ⟨⟨_, rfl⟩, (bst (bst Hb2.out (p := ⟨w.heap.size + 1, 0, none⟩) (show w.heap.size ≤ w.heap.size + 1 by have := S2.out; (try simp only [World.size_alloc, World.size_setCell, World.size_drew]); omega) (.int .i64 (b - 3 * q * q))) (p := ⟨w.heap.size + 1, 1, none⟩) (show w.heap.size ≤ w.heap.size + 1 by have := S2.out; (try simp only [World.size_alloc, World.size_setCell, World.size_drew]); omega) (.int .i64 (2 * q * q * q - q * b)))⟩
  · have hpA := Lib.hid (show pmA a b = 81 * b - 27 * a * a by unfold pmA; rw [if_neg h3])
    have hpB := Lib.hid (show pmB a b = 54 * a * a * a - 243 * a * b by unfold pmB; rw [if_neg h3])
    have g1 : (a.tmod 3 == 0) = false := beq_eq_false_iff_ne.2 h3
    have g2 : decide (a.tmod 3 = 0) = false := decide_eq_false h3
    rw [hpA.out, hpB.out]
    rw [hpA.out, hpB.out] at Hc
    clear hpA hpB
    generalize hm : a.tmod 3 = r at *
    obtain ⟨ha1, ha2⟩ := ha
    obtain ⟨hb1, hb2⟩ := hb
    cases k
    · go_enter Tryz.func33, Tryz.ntmps33
      go_wp2_with fail
      refine (Hc.out _).mono ?_; rintro e w1 ⟨rfl, hb1⟩
      have S1 := Lib.hid (show w.heap.size + 3 ≤ w1.heap.size by have h9 := hb1.size; (try simp only [World.size_alloc, World.size_setCell, World.size_drew] at h9); omega)
      have NTB := Lib.hid ((((Blk.new w 24 #[.int .i64 a, .int .i64 b]).alloc (Obj.cells #[.int .i64 0, .int .i64 0] 31)).alloc (Obj.cells #[.int .i64 (81 * b - 27 * a * a), .int .i64 (54 * a * a * a - 243 * a * b)] 31)).on hb1)
      have NRC := Lib.hid (((show Blk (World.alloc (World.alloc w (Obj.cells #[.int .i64 a, .int .i64 b] 24)) (Obj.cells #[.int .i64 0, .int .i64 0] 31)) (w.heap.size + 1) 31 #[.int .i64 0, .int .i64 0] by have h9 := (Blk.new (World.alloc w (Obj.cells #[.int .i64 a, .int .i64 b] 24)) 31 #[.int .i64 0, .int .i64 0]); (try simp only [World.size_alloc, World.size_setCell] at h9); exact h9).alloc (Obj.cells #[.int .i64 (81 * b - 27 * a * a), .int .i64 (54 * a * a * a - 243 * a * b)] 31)).on hb1)
      have NBL := Lib.hid ((show Blk (World.alloc (World.alloc (World.alloc w (Obj.cells #[.int .i64 a, .int .i64 b] 24)) (Obj.cells #[.int .i64 0, .int .i64 0] 31)) (Obj.cells #[.int .i64 (81 * b - 27 * a * a), .int .i64 (54 * a * a * a - 243 * a * b)] 31)) (w.heap.size + 1 + 1) 31 #[.int .i64 (81 * b - 27 * a * a), .int .i64 (54 * a * a * a - 243 * a * b)] by have h9 := (Blk.new (World.alloc (World.alloc w (Obj.cells #[.int .i64 a, .int .i64 b] 24)) (Obj.cells #[.int .i64 0, .int .i64 0] 31)) 31 #[.int .i64 (81 * b - 27 * a * a), .int .i64 (54 * a * a * a - 243 * a * b)]); (try simp only [World.size_alloc, World.size_setCell] at h9); exact h9).on hb1)
      have TB := NTB; clear NTB
      have RC := NRC; clear NRC
      have BL := NBL; clear NBL
      have Hb1 := Lib.hid (bthen (bal (bal (bal (Below.refl w.heap.size w) (Obj.cells #[.int .i64 a, .int .i64 b] 24)) (Obj.cells #[.int .i64 0, .int .i64 0] 31)) (Obj.cells #[.int .i64 (81 * b - 27 * a * a), .int .i64 (54 * a * a * a - 243 * a * b)] 31)) hb1)
      clear hb1
      have qBL0 : w1.cell? ⟨w.heap.size + 1 + 1, 0, none⟩ = some (.int .i64 (81 * b - 27 * a * a)) := BL.out.cell 0
      have qBL1 : w1.cell? ⟨w.heap.size + 1 + 1, 1, none⟩ = some (.int .i64 (54 * a * a * a - 243 * a * b)) := BL.out.cell 1
      have qBLl := BL.out.lt
      have qRC0 : w1.cell? ⟨w.heap.size + 1, 0, none⟩ = some (.int .i64 0) := RC.out.cell 0
      have qRC1 : w1.cell? ⟨w.heap.size + 1, 1, none⟩ = some (.int .i64 0) := RC.out.cell 1
      have qRCl := RC.out.lt
      have qRCf0 := RC.out.frozen 0
      have qRCf1 := RC.out.frozen 1
      have nBLRC : w.heap.size + 1 + 1 ≠ w.heap.size + 1 := by have := S1.out; (try simp only [World.size_alloc, World.size_setCell, World.size_drew]); omega
      have nRCBL : w.heap.size + 1 ≠ w.heap.size + 1 + 1 := fun e => nBLRC e.symm
      go_wp2
      clear qBL0 qBL1 qBLl qRC0 qRC1 qRCl qRCf0 qRCf1 nBLRC nRCBL
      have R9RC := (show Blk (World.setCell (World.setCell w1 ⟨w.heap.size + 1, 0, none⟩ (.int .i64 0)) ⟨w.heap.size + 1, 1, none⟩ (.int .i64 0)) (w.heap.size + 1) 31 #[.int .i64 0, .int .i64 0] by have h9 := ((RC.out.set 0 (.int .i64 0)).set 1 (.int .i64 0)); simpa using h9)
      have kRC0 := R9RC.cell 0
      have kRC1 := R9RC.cell 1
      simp at kRC0 kRC1
      exact bodyPost_ret (v := .tuple #[.agg #[.int .i64 0, .int .i64 0], .int .i64 0, .bool false]) (by simp [results, Tryz.results33, go_sem, kRC0, kRC1]) rfl ⟨⟨_, rfl⟩, (bst (bst Hb1.out (p := ⟨w.heap.size + 1, 0, none⟩) (show w.heap.size ≤ w.heap.size + 1 by have := S1.out; (try simp only [World.size_alloc, World.size_setCell, World.size_drew]); omega) (.int .i64 0)) (p := ⟨w.heap.size + 1, 1, none⟩) (show w.heap.size ≤ w.heap.size + 1 by have := S1.out; (try simp only [World.size_alloc, World.size_setCell, World.size_drew]); omega) (.int .i64 0))⟩
    · go_enter Tryz.func33, Tryz.ntmps33
      go_wp2_with fail
      refine (Hc.out _).mono ?_; rintro e w2 ⟨rfl, hb2⟩
      have S2 := Lib.hid (show w.heap.size + 3 ≤ w2.heap.size by have h9 := hb2.size; (try simp only [World.size_alloc, World.size_setCell, World.size_drew] at h9); omega)
      have NTB := Lib.hid ((((Blk.new w 24 #[.int .i64 a, .int .i64 b]).alloc (Obj.cells #[.int .i64 0, .int .i64 0] 31)).alloc (Obj.cells #[.int .i64 (81 * b - 27 * a * a), .int .i64 (54 * a * a * a - 243 * a * b)] 31)).on hb2)
      have NRC := Lib.hid (((show Blk (World.alloc (World.alloc w (Obj.cells #[.int .i64 a, .int .i64 b] 24)) (Obj.cells #[.int .i64 0, .int .i64 0] 31)) (w.heap.size + 1) 31 #[.int .i64 0, .int .i64 0] by have h9 := (Blk.new (World.alloc w (Obj.cells #[.int .i64 a, .int .i64 b] 24)) 31 #[.int .i64 0, .int .i64 0]); (try simp only [World.size_alloc, World.size_setCell] at h9); exact h9).alloc (Obj.cells #[.int .i64 (81 * b - 27 * a * a), .int .i64 (54 * a * a * a - 243 * a * b)] 31)).on hb2)
      have NBL := Lib.hid ((show Blk (World.alloc (World.alloc (World.alloc w (Obj.cells #[.int .i64 a, .int .i64 b] 24)) (Obj.cells #[.int .i64 0, .int .i64 0] 31)) (Obj.cells #[.int .i64 (81 * b - 27 * a * a), .int .i64 (54 * a * a * a - 243 * a * b)] 31)) (w.heap.size + 1 + 1) 31 #[.int .i64 (81 * b - 27 * a * a), .int .i64 (54 * a * a * a - 243 * a * b)] by have h9 := (Blk.new (World.alloc (World.alloc w (Obj.cells #[.int .i64 a, .int .i64 b] 24)) (Obj.cells #[.int .i64 0, .int .i64 0] 31)) 31 #[.int .i64 (81 * b - 27 * a * a), .int .i64 (54 * a * a * a - 243 * a * b)]); (try simp only [World.size_alloc, World.size_setCell] at h9); exact h9).on hb2)
      have TB := NTB; clear NTB
      have RC := NRC; clear NRC
      have BL := NBL; clear NBL
      have Hb2 := Lib.hid (bthen (bal (bal (bal (Below.refl w.heap.size w) (Obj.cells #[.int .i64 a, .int .i64 b] 24)) (Obj.cells #[.int .i64 0, .int .i64 0] 31)) (Obj.cells #[.int .i64 (81 * b - 27 * a * a), .int .i64 (54 * a * a * a - 243 * a * b)] 31)) hb2)
      clear hb2
      have qBL0 : w2.cell? ⟨w.heap.size + 1 + 1, 0, none⟩ = some (.int .i64 (81 * b - 27 * a * a)) := BL.out.cell 0
      have qBL1 : w2.cell? ⟨w.heap.size + 1 + 1, 1, none⟩ = some (.int .i64 (54 * a * a * a - 243 * a * b)) := BL.out.cell 1
      have qBLl := BL.out.lt
      have qRC0 : w2.cell? ⟨w.heap.size + 1, 0, none⟩ = some (.int .i64 0) := RC.out.cell 0
      have qRC1 : w2.cell? ⟨w.heap.size + 1, 1, none⟩ = some (.int .i64 0) := RC.out.cell 1
      have qRCl := RC.out.lt
      have qRCf0 := RC.out.frozen 0
      have qRCf1 := RC.out.frozen 1
      have nBLRC : w.heap.size + 1 + 1 ≠ w.heap.size + 1 := by have := S2.out; (try simp only [World.size_alloc, World.size_setCell, World.size_drew]); omega
      have nRCBL : w.heap.size + 1 ≠ w.heap.size + 1 + 1 := fun e => nBLRC e.symm
      go_wp2
      clear qBL0 qBL1 qBLl qRC0 qRC1 qRCl qRCf0 qRCf1 nBLRC nRCBL
      have R9RC := (show Blk (World.setCell (World.setCell w2 ⟨w.heap.size + 1, 0, none⟩ (.int .i64 (81 * b - 27 * a * a))) ⟨w.heap.size + 1, 1, none⟩ (.int .i64 (54 * a * a * a - 243 * a * b))) (w.heap.size + 1) 31 #[.int .i64 (81 * b - 27 * a * a), .int .i64 (54 * a * a * a - 243 * a * b)] by have h9 := ((RC.out.set 0 (.int .i64 (81 * b - 27 * a * a))).set 1 (.int .i64 (54 * a * a * a - 243 * a * b))); simpa using h9)
      have kRC0 := R9RC.cell 0
      have kRC1 := R9RC.cell 1
      simp at kRC0 kRC1
      exact bodyPost_ret (v := .tuple #[.agg #[.int .i64 (81 * b - 27 * a * a), .int .i64 (54 * a * a * a - 243 * a * b)], .int .i64 (3 * a), .bool true]) (by simp [results, Tryz.results33, go_sem, kRC0, kRC1]) rfl ⟨⟨_, rfl⟩, (bst (bst Hb2.out (p := ⟨w.heap.size + 1, 0, none⟩) (show w.heap.size ≤ w.heap.size + 1 by have := S2.out; (try simp only [World.size_alloc, World.size_setCell, World.size_drew]); omega) (.int .i64 (81 * b - 27 * a * a))) (p := ⟨w.heap.size + 1, 1, none⟩) (show w.heap.size ≤ w.heap.size + 1 by have := S2.out; (try simp only [World.size_alloc, World.size_setCell, World.size_drew]); omega) (.int .i64 (54 * a * a * a - 243 * a * b)))⟩
end
end Go.Proofs.YthdfpfhkmfmnbaaGreat
