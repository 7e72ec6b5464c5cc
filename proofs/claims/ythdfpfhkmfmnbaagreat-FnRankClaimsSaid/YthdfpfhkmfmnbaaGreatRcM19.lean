/- Own texts put together: IsRankKnown, ClaimHolds, and what the law asks besides: the walks. Conditions: those of each theorem. -/
import Derived.Test.YthdfpfhkmfmnbaaGreatRcM18
namespace Go.Proofs.YthdfpfhkmfmnbaaGreat
section
open Go Go.RowKit Go.Lib

/-- Is the rank known, and is it told? -/
def knV (a b n : Int) : Bool × Bool := if askB a b n = true ∧ (rbV a b n.toNat).2.2 = true then ((rbV a b n.toNat).1 == (rbV a b n.toNat).2.1, true) else (false, false)
/-- Does a claim hold, and is it told? -/
def chV (a b x y n : Int) : Bool × Bool := if (askB a b n = true ∧ (insB x 0 20 = true ∧ insB y 0 20 = true)) ∧ (rbV a b n.toNat).2.2 = true then (decide (x ≤ (rbV a b n.toNat).1) && decide ((rbV a b n.toNat).2.1 ≤ y), true) else (false, false)

set_option linter.unusedSimpArgs false in
set_option linter.unusedVariables false in
set_option maxRecDepth 8000 in
set_option maxHeartbeats 8000000 in
theorem knownS_any (a b n : Int) (w : World) :
    Calls Tryz.prog 6 #[.agg #[.int .i64 a, .int .i64 b], .int .i64 n] w fun e w' => e = .returned (.tuple #[.bool (knV a b n).1, .bool (knV a b n).2]) ∧ Below w.heap.size w w' := by
  have Ha := Lib.hid (fun w9 => rkAsked_any a b n w9)
  obtain ⟨ask, hask⟩ : ∃ ask, askB a b n = ask := ⟨_, rfl⟩
  cases ask
  · have HV := Lib.hid (show knV a b n = (false, false) from if_neg (by rw [hask]; simp))
    rw [hask] at Ha
    clear hask
    generalize knV a b n = V at *
    go_enter Tryz.func6, Tryz.ntmps6
    go_wp2_with fail
    refine (Ha.out _).mono ?_; rintro e w1 ⟨rfl, hb1⟩
    have S1 := Lib.hid (show w.heap.size + 1 ≤ w1.heap.size by have h9 := hb1.size; (try simp only [World.size_alloc, World.size_setCell, World.size_drew] at h9); omega)
    have NTB := Lib.hid ((Blk.new w 24 #[.int .i64 a, .int .i64 b]).on hb1)
    have TB := NTB; clear NTB
    have Hb1 := Lib.hid (bthen (bal (Below.refl w.heap.size w) (Obj.cells #[.int .i64 a, .int .i64 b] 24)) hb1)
    clear hb1
    go_wp2
    exact bodyPost_ret (v := .tuple #[.bool false, .bool false]) (by simp [results, Tryz.results6, go_sem]) rfl ⟨by rw [HV.out] <;> rfl, Hb1.out⟩
  have hh := hask
  unfold askB at hh
  rw [Bool.and_eq_true] at hh
  obtain ⟨htw, hin⟩ := hh
  obtain ⟨hn1, hn2⟩ := ins60 hin
  have h9 := fun w9 => rkBounds_any a b n.toNat w9 htw hn2
  rw [← hn1] at h9
  have Hr := Lib.hid h9
  have HY := Lib.hid (fun (h2 : (rbV a b n.toNat).2.2 = true) => show knV a b n = ((rbV a b n.toNat).1 == (rbV a b n.toNat).2.1, true) from if_pos ⟨hask, h2⟩)
  have HN := Lib.hid (fun (hx : ¬ (rbV a b n.toNat).2.2 = true) => show knV a b n = (false, false) from if_neg (fun h => hx h.2))
  rw [hask] at Ha
  clear hask htw hin hn2 h9 hn1
  generalize knV a b n = V at *
  generalize rbV a b n.toNat = B at *
  obtain ⟨lo, hi, told⟩ := B
  dsimp only at *
  cases told
  · have HV := Lib.hid (HN.out (by simp))
    go_enter Tryz.func6, Tryz.ntmps6
    go_wp2_with fail
    refine (Ha.out _).mono ?_; rintro e w2 ⟨rfl, hb2⟩
    have S2 := Lib.hid (show w.heap.size + 1 ≤ w2.heap.size by have h9 := hb2.size; (try simp only [World.size_alloc, World.size_setCell, World.size_drew] at h9); omega)
    have NTB := Lib.hid ((Blk.new w 24 #[.int .i64 a, .int .i64 b]).on hb2)
    have TB := NTB; clear NTB
    have Hb2 := Lib.hid (bthen (bal (Below.refl w.heap.size w) (Obj.cells #[.int .i64 a, .int .i64 b] 24)) hb2)
    clear hb2
    have qTB0 : w2.cell? ⟨w.heap.size, 0, none⟩ = some (.int .i64 a) := TB.out.cell 0
    have qTB1 : w2.cell? ⟨w.heap.size, 1, none⟩ = some (.int .i64 b) := TB.out.cell 1
    have qTBl := TB.out.lt
    go_wp2_with fail
    clear qTB0 qTB1 qTBl
    refine (Hr.out _).mono ?_; rintro e w3 ⟨rfl, hb3⟩
    have S3 := Lib.hid (show w2.heap.size + 0 ≤ w3.heap.size by have h9 := hb3.size; (try simp only [World.size_alloc, World.size_setCell, World.size_drew] at h9); omega)
    have Z3 := Lib.hid (And.intro S2.out S3.out)
    have NTB := Lib.hid (TB.out.on hb3)
    have TB := NTB; clear NTB
    have Hb3 := Lib.hid (bthen Hb2.out hb3)
    clear hb3
    go_wp2
    exact bodyPost_ret (v := .tuple #[.bool false, .bool false]) (by simp [results, Tryz.results6, go_sem]) rfl ⟨by rw [HV.out], Hb3.out⟩
  have HV := Lib.hid (HY.out rfl)
  go_enter Tryz.func6, Tryz.ntmps6
  go_wp2_with fail
  refine (Ha.out _).mono ?_; rintro e w4 ⟨rfl, hb4⟩
  have S4 := Lib.hid (show w.heap.size + 1 ≤ w4.heap.size by have h9 := hb4.size; (try simp only [World.size_alloc, World.size_setCell, World.size_drew] at h9); omega)
  have NTB := Lib.hid ((Blk.new w 24 #[.int .i64 a, .int .i64 b]).on hb4)
  have TB := NTB; clear NTB
  have Hb4 := Lib.hid (bthen (bal (Below.refl w.heap.size w) (Obj.cells #[.int .i64 a, .int .i64 b] 24)) hb4)
  clear hb4
  have qTB0 : w4.cell? ⟨w.heap.size, 0, none⟩ = some (.int .i64 a) := TB.out.cell 0
  have qTB1 : w4.cell? ⟨w.heap.size, 1, none⟩ = some (.int .i64 b) := TB.out.cell 1
  have qTBl := TB.out.lt
  go_wp2_with fail
  clear qTB0 qTB1 qTBl
  refine (Hr.out _).mono ?_; rintro e w5 ⟨rfl, hb5⟩
  have S5 := Lib.hid (show w4.heap.size + 0 ≤ w5.heap.size by have h9 := hb5.size; (try simp only [World.size_alloc, World.size_setCell, World.size_drew] at h9); omega)
  have Z5 := Lib.hid (And.intro S4.out S5.out)
  have NTB := Lib.hid (TB.out.on hb5)
  have TB := NTB; clear NTB
  have Hb5 := Lib.hid (bthen Hb4.out hb5)
  clear hb5
  go_wp2
  exact bodyPost_ret (v := .tuple #[.bool (lo == hi), .bool true]) (by simp [results, Tryz.results6, go_sem]) rfl ⟨by rw [HV.out], Hb5.out⟩
set_option linter.unusedSimpArgs false in
set_option linter.unusedVariables false in
set_option maxRecDepth 8000 in
set_option maxHeartbeats 8000000 in
theorem knownI_any (a b n : Int) (w : World) :
    Calls Tryz.prog 5 #[.agg #[.int .i64 a, .int .i64 b], .int .i64 n] w fun e w' => e = .returned (.tuple #[.bool (knV a b n).1, .bool (knV a b n).2]) ∧ Below w.heap.size w w' := by
  have Ht := Lib.hid (fun w9 => isTwoCurve_any a b w9)
  have Hi := Lib.hid (fun w9 => inside_lit (n := n) (lo := 1) (hi := 60) (k := insB n 1 60) rfl w9)
  obtain ⟨t, htw⟩ : ∃ t, twB a b = t := ⟨_, rfl⟩
  cases t
  · have HV := Lib.hid (show knV a b n = (false, false) from if_neg (by unfold askB; rw [htw]; simp))
    rw [htw] at Ht
    clear htw
    generalize knV a b n = V at *
    go_enter Tryz.func5, Tryz.ntmps5
    go_wp2_with fail
    refine (Ht.out _).mono ?_; rintro e w1 ⟨rfl, hb1⟩
    have S1 := Lib.hid (show w.heap.size + 1 ≤ w1.heap.size by have h9 := hb1.size; (try simp only [World.size_alloc, World.size_setCell, World.size_drew] at h9); omega)
    have NTB := Lib.hid ((Blk.new w 24 #[.int .i64 a, .int .i64 b]).on hb1)
    have TB := NTB; clear NTB
    have Hb1 := Lib.hid (bthen (bal (Below.refl w.heap.size w) (Obj.cells #[.int .i64 a, .int .i64 b] 24)) hb1)
    clear hb1
    go_wp2
    exact bodyPost_ret (v := .tuple #[.bool false, .bool false]) (by simp [results, Tryz.results5, go_sem]) rfl ⟨by rw [HV.out] <;> rfl, Hb1.out⟩
  obtain ⟨i, hin⟩ : ∃ i, insB n 1 60 = i := ⟨_, rfl⟩
  cases i
  · have HV := Lib.hid (show knV a b n = (false, false) from if_neg (by unfold askB; rw [hin]; simp))
    rw [htw] at Ht
    rw [hin] at Hi
    clear htw hin
    generalize knV a b n = V at *
    go_enter Tryz.func5, Tryz.ntmps5
    go_wp2_with fail
    refine (Ht.out _).mono ?_; rintro e w2 ⟨rfl, hb2⟩
    have S2 := Lib.hid (show w.heap.size + 1 ≤ w2.heap.size by have h9 := hb2.size; (try simp only [World.size_alloc, World.size_setCell, World.size_drew] at h9); omega)
    have NTB := Lib.hid ((Blk.new w 24 #[.int .i64 a, .int .i64 b]).on hb2)
    have TB := NTB; clear NTB
    have Hb2 := Lib.hid (bthen (bal (Below.refl w.heap.size w) (Obj.cells #[.int .i64 a, .int .i64 b] 24)) hb2)
    clear hb2
    have qTB0 : w2.cell? ⟨w.heap.size, 0, none⟩ = some (.int .i64 a) := TB.out.cell 0
    have qTB1 : w2.cell? ⟨w.heap.size, 1, none⟩ = some (.int .i64 b) := TB.out.cell 1
    have qTBl := TB.out.lt
    go_wp2_with fail
    clear qTB0 qTB1 qTBl
    refine (Hi.out _).mono ?_; rintro e w3 ⟨rfl, hb3⟩
    have S3 := Lib.hid (show w2.heap.size + 0 ≤ w3.heap.size by have h9 := hb3.size; (try simp only [World.size_alloc, World.size_setCell, World.size_drew] at h9); omega)
    have Z3 := Lib.hid (And.intro S2.out S3.out)
    have NTB := Lib.hid (TB.out.on hb3)
    have TB := NTB; clear NTB
    have Hb3 := Lib.hid (bthen Hb2.out hb3)
    clear hb3
    go_wp2
    exact bodyPost_ret (v := .tuple #[.bool false, .bool false]) (by simp [results, Tryz.results5, go_sem]) rfl ⟨by rw [HV.out] <;> rfl, Hb3.out⟩
  have hask : askB a b n = true := by unfold askB; rw [htw, hin]; rfl
  obtain ⟨hn1, hn2⟩ := ins60 hin
  have h9 := fun w9 => rankBounds_any a b n.toNat w9 htw hn2
  rw [← hn1] at h9
  have Hr := Lib.hid h9
  have HY := Lib.hid (fun (h2 : (rbV a b n.toNat).2.2 = true) => show knV a b n = ((rbV a b n.toNat).1 == (rbV a b n.toNat).2.1, true) from if_pos ⟨hask, h2⟩)
  have HN := Lib.hid (fun (hx : ¬ (rbV a b n.toNat).2.2 = true) => show knV a b n = (false, false) from if_neg (fun h => hx h.2))
  rw [htw] at Ht
  rw [hin] at Hi
  clear hask htw hin hn2 h9 hn1
  generalize knV a b n = V at *
  generalize rbV a b n.toNat = B at *
  obtain ⟨lo, hi, told⟩ := B
  dsimp only at *
  cases told
  · have HV := Lib.hid (HN.out (by simp))
    go_enter Tryz.func5, Tryz.ntmps5
    go_wp2_with fail
    refine (Ht.out _).mono ?_; rintro e w4 ⟨rfl, hb4⟩
    have S4 := Lib.hid (show w.heap.size + 1 ≤ w4.heap.size by have h9 := hb4.size; (try simp only [World.size_alloc, World.size_setCell, World.size_drew] at h9); omega)
    have NTB := Lib.hid ((Blk.new w 24 #[.int .i64 a, .int .i64 b]).on hb4)
    have TB := NTB; clear NTB
    have Hb4 := Lib.hid (bthen (bal (Below.refl w.heap.size w) (Obj.cells #[.int .i64 a, .int .i64 b] 24)) hb4)
    clear hb4
    have qTB0 : w4.cell? ⟨w.heap.size, 0, none⟩ = some (.int .i64 a) := TB.out.cell 0
    have qTB1 : w4.cell? ⟨w.heap.size, 1, none⟩ = some (.int .i64 b) := TB.out.cell 1
    have qTBl := TB.out.lt
    go_wp2_with fail
    clear qTB0 qTB1 qTBl
    refine (Hi.out _).mono ?_; rintro e w5 ⟨rfl, hb5⟩
    have S5 := Lib.hid (show w4.heap.size + 0 ≤ w5.heap.size by have h9 := hb5.size; (try simp only [World.size_alloc, World.size_setCell, World.size_drew] at h9); omega)
    have Z5 := Lib.hid (And.intro S4.out S5.out)
    have NTB := Lib.hid (TB.out.on hb5)
    have TB := NTB; clear NTB
    have Hb5 := Lib.hid (bthen Hb4.out hb5)
    clear hb5
    have qTB0 : w5.cell? ⟨w.heap.size, 0, none⟩ = some (.int .i64 a) := TB.out.cell 0
    have qTB1 : w5.cell? ⟨w.heap.size, 1, none⟩ = some (.int .i64 b) := TB.out.cell 1
    have qTBl := TB.out.lt
    go_wp2_with fail
    clear qTB0 qTB1 qTBl
    refine (Hr.out _).mono ?_; rintro e w6 ⟨rfl, hb6⟩
    have S6 := Lib.hid (show w5.heap.size + 0 ≤ w6.heap.size by have h9 := hb6.size; (try simp only [World.size_alloc, World.size_setCell, World.size_drew] at h9); omega)
    have Z6 := Lib.hid (And.intro Z5.out S6.out)
    have NTB := Lib.hid (TB.out.on hb6)
    have TB := NTB; clear NTB
    have Hb6 := Lib.hid (bthen Hb5.out hb6)
    clear hb6
    go_wp2
    exact bodyPost_ret (v := .tuple #[.bool false, .bool false]) (by simp [results, Tryz.results5, go_sem]) rfl ⟨by rw [HV.out], Hb6.out⟩
  have HV := Lib.hid (HY.out rfl)
  go_enter Tryz.func5, Tryz.ntmps5
  go_wp2_with fail
  refine (Ht.out _).mono ?_; rintro e w7 ⟨rfl, hb7⟩
  have S7 := Lib.hid (show w.heap.size + 1 ≤ w7.heap.size by have h9 := hb7.size; (try simp only [World.size_alloc, World.size_setCell, World.size_drew] at h9); omega)
  have NTB := Lib.hid ((Blk.new w 24 #[.int .i64 a, .int .i64 b]).on hb7)
  have TB := NTB; clear NTB
  have Hb7 := Lib.hid (bthen (bal (Below.refl w.heap.size w) (Obj.cells #[.int .i64 a, .int .i64 b] 24)) hb7)
  clear hb7
  have qTB0 : w7.cell? ⟨w.heap.size, 0, none⟩ = some (.int .i64 a) := TB.out.cell 0
  have qTB1 : w7.cell? ⟨w.heap.size, 1, none⟩ = some (.int .i64 b) := TB.out.cell 1
  have qTBl := TB.out.lt
  go_wp2_with fail
  clear qTB0 qTB1 qTBl
  refine (Hi.out _).mono ?_; rintro e w8 ⟨rfl, hb8⟩
  have S8 := Lib.hid (show w7.heap.size + 0 ≤ w8.heap.size by have h9 := hb8.size; (try simp only [World.size_alloc, World.size_setCell, World.size_drew] at h9); omega)
  have Z8 := Lib.hid (And.intro S7.out S8.out)
  have NTB := Lib.hid (TB.out.on hb8)
  have TB := NTB; clear NTB
  have Hb8 := Lib.hid (bthen Hb7.out hb8)
  clear hb8
  have qTB0 : w8.cell? ⟨w.heap.size, 0, none⟩ = some (.int .i64 a) := TB.out.cell 0
  have qTB1 : w8.cell? ⟨w.heap.size, 1, none⟩ = some (.int .i64 b) := TB.out.cell 1
  have qTBl := TB.out.lt
  go_wp2_with fail
  clear qTB0 qTB1 qTBl
  refine (Hr.out _).mono ?_; rintro e w9 ⟨rfl, hb9⟩
  have S9 := Lib.hid (show w8.heap.size + 0 ≤ w9.heap.size by have h9 := hb9.size; (try simp only [World.size_alloc, World.size_setCell, World.size_drew] at h9); omega)
  have Z9 := Lib.hid (And.intro Z8.out S9.out)
  have NTB := Lib.hid (TB.out.on hb9)
  have TB := NTB; clear NTB
  have Hb9 := Lib.hid (bthen Hb8.out hb9)
  clear hb9
  go_wp2
  exact bodyPost_ret (v := .tuple #[.bool (lo == hi), .bool true]) (by simp [results, Tryz.results5, go_sem]) rfl ⟨by rw [HV.out], Hb9.out⟩
set_option linter.unusedSimpArgs false in
set_option linter.unusedVariables false in
set_option maxRecDepth 8000 in
set_option maxHeartbeats 8000000 in
theorem claimS_any (a b x y n : Int) (w : World) :
    Calls Tryz.prog 13 #[.agg #[.int .i64 a, .int .i64 b], .int .i64 x, .int .i64 y, .int .i64 n] w fun e w' => e = .returned (.tuple #[.bool (chV a b x y n).1, .bool (chV a b x y n).2]) ∧ Below w.heap.size w w' := by
  have Hx := Lib.hid (fun w9 => l1In_lit (n := x) (lo := 0) (hi := 20) (k := insB x 0 20) rfl w9)
  have Hy := Lib.hid (fun w9 => l1In_lit (n := y) (lo := 0) (hi := 20) (k := insB y 0 20) rfl w9)
  have Ha := Lib.hid (fun w9 => rkAsked_any a b n w9)
  obtain ⟨ask, hask⟩ : ∃ ask, askB a b n = ask := ⟨_, rfl⟩
  cases ask
  · have HV := Lib.hid (show chV a b x y n = (false, false) from if_neg (by rw [hask]; simp))
    rw [hask] at Ha
    clear hask
    generalize chV a b x y n = V at *
    go_enter Tryz.func13, Tryz.ntmps13
    go_wp2_with fail
    refine (Ha.out _).mono ?_; rintro e w1 ⟨rfl, hb1⟩
    have S1 := Lib.hid (show w.heap.size + 1 ≤ w1.heap.size by have h9 := hb1.size; (try simp only [World.size_alloc, World.size_setCell, World.size_drew] at h9); omega)
    have NTB := Lib.hid ((Blk.new w 24 #[.int .i64 a, .int .i64 b]).on hb1)
    have TB := NTB; clear NTB
    have Hb1 := Lib.hid (bthen (bal (Below.refl w.heap.size w) (Obj.cells #[.int .i64 a, .int .i64 b] 24)) hb1)
    clear hb1
    go_wp2
    exact bodyPost_ret (v := .tuple #[.bool false, .bool false]) (by simp [results, Tryz.results13, go_sem]) rfl ⟨by rw [HV.out] <;> rfl, Hb1.out⟩
  have hh := hask
  unfold askB at hh
  rw [Bool.and_eq_true] at hh
  obtain ⟨htw, hin⟩ := hh
  obtain ⟨hn1, hn2⟩ := ins60 hin
  obtain ⟨j, hix⟩ : ∃ j, insB x 0 20 = j := ⟨_, rfl⟩
  cases j
  · have HV := Lib.hid (show chV a b x y n = (false, false) from if_neg (by rw [hix]; simp))
    rw [hix] at Hx
    rw [hask] at Ha
    clear hask htw hin hn1 hn2 hix
    generalize chV a b x y n = V at *
    go_enter Tryz.func13, Tryz.ntmps13
    go_wp2_with fail
    refine (Ha.out _).mono ?_; rintro e w2 ⟨rfl, hb2⟩
    have S2 := Lib.hid (show w.heap.size + 1 ≤ w2.heap.size by have h9 := hb2.size; (try simp only [World.size_alloc, World.size_setCell, World.size_drew] at h9); omega)
    have NTB := Lib.hid ((Blk.new w 24 #[.int .i64 a, .int .i64 b]).on hb2)
    have TB := NTB; clear NTB
    have Hb2 := Lib.hid (bthen (bal (Below.refl w.heap.size w) (Obj.cells #[.int .i64 a, .int .i64 b] 24)) hb2)
    clear hb2
    have qTB0 : w2.cell? ⟨w.heap.size, 0, none⟩ = some (.int .i64 a) := TB.out.cell 0
    have qTB1 : w2.cell? ⟨w.heap.size, 1, none⟩ = some (.int .i64 b) := TB.out.cell 1
    have qTBl := TB.out.lt
    go_wp2_with fail
    clear qTB0 qTB1 qTBl
    refine (Hx.out _).mono ?_; rintro e w3 ⟨rfl, hb3⟩
    have S3 := Lib.hid (show w2.heap.size + 0 ≤ w3.heap.size by have h9 := hb3.size; (try simp only [World.size_alloc, World.size_setCell, World.size_drew] at h9); omega)
    have Z3 := Lib.hid (And.intro S2.out S3.out)
    have NTB := Lib.hid (TB.out.on hb3)
    have TB := NTB; clear NTB
    have Hb3 := Lib.hid (bthen Hb2.out hb3)
    clear hb3
    go_wp2
    exact bodyPost_ret (v := .tuple #[.bool false, .bool false]) (by simp [results, Tryz.results13, go_sem]) rfl ⟨by rw [HV.out] <;> rfl, Hb3.out⟩
  obtain ⟨j, hiy⟩ : ∃ j, insB y 0 20 = j := ⟨_, rfl⟩
  cases j
  · have HV := Lib.hid (show chV a b x y n = (false, false) from if_neg (by rw [hiy]; simp))
    rw [hix] at Hx
    rw [hiy] at Hy
    rw [hask] at Ha
    clear hask htw hin hn1 hn2 hix hiy
    generalize chV a b x y n = V at *
    go_enter Tryz.func13, Tryz.ntmps13
    go_wp2_with fail
    refine (Ha.out _).mono ?_; rintro e w4 ⟨rfl, hb4⟩
    have S4 := Lib.hid (show w.heap.size + 1 ≤ w4.heap.size by have h9 := hb4.size; (try simp only [World.size_alloc, World.size_setCell, World.size_drew] at h9); omega)
    have NTB := Lib.hid ((Blk.new w 24 #[.int .i64 a, .int .i64 b]).on hb4)
    have TB := NTB; clear NTB
    have Hb4 := Lib.hid (bthen (bal (Below.refl w.heap.size w) (Obj.cells #[.int .i64 a, .int .i64 b] 24)) hb4)
    clear hb4
    have qTB0 : w4.cell? ⟨w.heap.size, 0, none⟩ = some (.int .i64 a) := TB.out.cell 0
    have qTB1 : w4.cell? ⟨w.heap.size, 1, none⟩ = some (.int .i64 b) := TB.out.cell 1
    have qTBl := TB.out.lt
    go_wp2_with fail
    clear qTB0 qTB1 qTBl
    refine (Hx.out _).mono ?_; rintro e w5 ⟨rfl, hb5⟩
    have S5 := Lib.hid (show w4.heap.size + 0 ≤ w5.heap.size by have h9 := hb5.size; (try simp only [World.size_alloc, World.size_setCell, World.size_drew] at h9); omega)
    have Z5 := Lib.hid (And.intro S4.out S5.out)
    have NTB := Lib.hid (TB.out.on hb5)
    have TB := NTB; clear NTB
    have Hb5 := Lib.hid (bthen Hb4.out hb5)
    clear hb5
    have qTB0 : w5.cell? ⟨w.heap.size, 0, none⟩ = some (.int .i64 a) := TB.out.cell 0
    have qTB1 : w5.cell? ⟨w.heap.size, 1, none⟩ = some (.int .i64 b) := TB.out.cell 1
    have qTBl := TB.out.lt
    go_wp2_with fail
    clear qTB0 qTB1 qTBl
    refine (Hy.out _).mono ?_; rintro e w6 ⟨rfl, hb6⟩
    have S6 := Lib.hid (show w5.heap.size + 0 ≤ w6.heap.size by have h9 := hb6.size; (try simp only [World.size_alloc, World.size_setCell, World.size_drew] at h9); omega)
    have Z6 := Lib.hid (And.intro Z5.out S6.out)
    have NTB := Lib.hid (TB.out.on hb6)
    have TB := NTB; clear NTB
    have Hb6 := Lib.hid (bthen Hb5.out hb6)
    clear hb6
    go_wp2
    exact bodyPost_ret (v := .tuple #[.bool false, .bool false]) (by simp [results, Tryz.results13, go_sem]) rfl ⟨by rw [HV.out] <;> rfl, Hb6.out⟩
  have h9 := fun w9 => rkBounds_any a b n.toNat w9 htw hn2
  rw [← hn1] at h9
  have Hr := Lib.hid h9
  have HY := Lib.hid (fun (h2 : (rbV a b n.toNat).2.2 = true) => show chV a b x y n = (decide (x ≤ (rbV a b n.toNat).1) && decide ((rbV a b n.toNat).2.1 ≤ y), true) from if_pos ⟨⟨hask, hix, hiy⟩, h2⟩)
  have HN := Lib.hid (fun (hx : ¬ (rbV a b n.toNat).2.2 = true) => show chV a b x y n = (false, false) from if_neg (fun h => hx h.2))
  rw [hask] at Ha
  rw [hix] at Hx
  rw [hiy] at Hy
  clear hask htw hin hn2 h9 hn1 hix hiy
  generalize chV a b x y n = V at *
  generalize rbV a b n.toNat = B at *
  obtain ⟨lo, hi, told⟩ := B
  dsimp only at *
  cases told
  · have HV := Lib.hid (HN.out (by simp))
    go_enter Tryz.func13, Tryz.ntmps13
    go_wp2_with fail
    refine (Ha.out _).mono ?_; rintro e w7 ⟨rfl, hb7⟩
    have S7 := Lib.hid (show w.heap.size + 1 ≤ w7.heap.size by have h9 := hb7.size; (try simp only [World.size_alloc, World.size_setCell, World.size_drew] at h9); omega)
    have NTB := Lib.hid ((Blk.new w 24 #[.int .i64 a, .int .i64 b]).on hb7)
    have TB := NTB; clear NTB
    have Hb7 := Lib.hid (bthen (bal (Below.refl w.heap.size w) (Obj.cells #[.int .i64 a, .int .i64 b] 24)) hb7)
    clear hb7
    have qTB0 : w7.cell? ⟨w.heap.size, 0, none⟩ = some (.int .i64 a) := TB.out.cell 0
    have qTB1 : w7.cell? ⟨w.heap.size, 1, none⟩ = some (.int .i64 b) := TB.out.cell 1
    have qTBl := TB.out.lt
    go_wp2_with fail
    clear qTB0 qTB1 qTBl
    refine (Hx.out _).mono ?_; rintro e w8 ⟨rfl, hb8⟩
    have S8 := Lib.hid (show w7.heap.size + 0 ≤ w8.heap.size by have h9 := hb8.size; (try simp only [World.size_alloc, World.size_setCell, World.size_drew] at h9); omega)
    have Z8 := Lib.hid (And.intro S7.out S8.out)
    have NTB := Lib.hid (TB.out.on hb8)
    have TB := NTB; clear NTB
    have Hb8 := Lib.hid (bthen Hb7.out hb8)
    clear hb8
    have qTB0 : w8.cell? ⟨w.heap.size, 0, none⟩ = some (.int .i64 a) := TB.out.cell 0
    have qTB1 : w8.cell? ⟨w.heap.size, 1, none⟩ = some (.int .i64 b) := TB.out.cell 1
    have qTBl := TB.out.lt
    go_wp2_with fail
    clear qTB0 qTB1 qTBl
    refine (Hy.out _).mono ?_; rintro e w9 ⟨rfl, hb9⟩
    have S9 := Lib.hid (show w8.heap.size + 0 ≤ w9.heap.size by have h9 := hb9.size; (try simp only [World.size_alloc, World.size_setCell, World.size_drew] at h9); omega)
    have Z9 := Lib.hid (And.intro Z8.out S9.out)
    have NTB := Lib.hid (TB.out.on hb9)
    have TB := NTB; clear NTB
    have Hb9 := Lib.hid (bthen Hb8.out hb9)
    clear hb9
    have qTB0 : w9.cell? ⟨w.heap.size, 0, none⟩ = some (.int .i64 a) := TB.out.cell 0
    have qTB1 : w9.cell? ⟨w.heap.size, 1, none⟩ = some (.int .i64 b) := TB.out.cell 1
    have qTBl := TB.out.lt
    go_wp2_with fail
    clear qTB0 qTB1 qTBl
    refine (Hr.out _).mono ?_; rintro e w10 ⟨rfl, hb10⟩
    have S10 := Lib.hid (show w9.heap.size + 0 ≤ w10.heap.size by have h9 := hb10.size; (try simp only [World.size_alloc, World.size_setCell, World.size_drew] at h9); omega)
    have Z10 := Lib.hid (And.intro Z9.out S10.out)
    have NTB := Lib.hid (TB.out.on hb10)
    have TB := NTB; clear NTB
    have Hb10 := Lib.hid (bthen Hb9.out hb10)
    clear hb10
    go_wp2
    exact bodyPost_ret (v := .tuple #[.bool false, .bool false]) (by simp [results, Tryz.results13, go_sem]) rfl ⟨by rw [HV.out], Hb10.out⟩
  have HV := Lib.hid (HY.out rfl)
  obtain ⟨k1, hk1⟩ : ∃ k, decide (x ≤ lo) = k := ⟨_, rfl⟩
  rw [hk1] at HV
  have hk1b : decide (lo ≥ x) = k1 := hk1
  cases k1
  · rw [Bool.false_and] at HV
    go_enter Tryz.func13, Tryz.ntmps13
    go_wp2_with fail
    refine (Ha.out _).mono ?_; rintro e w11 ⟨rfl, hb11⟩
    have S11 := Lib.hid (show w.heap.size + 1 ≤ w11.heap.size by have h9 := hb11.size; (try simp only [World.size_alloc, World.size_setCell, World.size_drew] at h9); omega)
    have NTB := Lib.hid ((Blk.new w 24 #[.int .i64 a, .int .i64 b]).on hb11)
    have TB := NTB; clear NTB
    have Hb11 := Lib.hid (bthen (bal (Below.refl w.heap.size w) (Obj.cells #[.int .i64 a, .int .i64 b] 24)) hb11)
    clear hb11
    have qTB0 : w11.cell? ⟨w.heap.size, 0, none⟩ = some (.int .i64 a) := TB.out.cell 0
    have qTB1 : w11.cell? ⟨w.heap.size, 1, none⟩ = some (.int .i64 b) := TB.out.cell 1
    have qTBl := TB.out.lt
    go_wp2_with fail
    clear qTB0 qTB1 qTBl
    refine (Hx.out _).mono ?_; rintro e w12 ⟨rfl, hb12⟩
    have S12 := Lib.hid (show w11.heap.size + 0 ≤ w12.heap.size by have h9 := hb12.size; (try simp only [World.size_alloc, World.size_setCell, World.size_drew] at h9); omega)
    have Z12 := Lib.hid (And.intro S11.out S12.out)
    have NTB := Lib.hid (TB.out.on hb12)
    have TB := NTB; clear NTB
    have Hb12 := Lib.hid (bthen Hb11.out hb12)
    clear hb12
    have qTB0 : w12.cell? ⟨w.heap.size, 0, none⟩ = some (.int .i64 a) := TB.out.cell 0
    have qTB1 : w12.cell? ⟨w.heap.size, 1, none⟩ = some (.int .i64 b) := TB.out.cell 1
    have qTBl := TB.out.lt
    go_wp2_with fail
    clear qTB0 qTB1 qTBl
    refine (Hy.out _).mono ?_; rintro e w13 ⟨rfl, hb13⟩
    have S13 := Lib.hid (show w12.heap.size + 0 ≤ w13.heap.size by have h9 := hb13.size; (try simp only [World.size_alloc, World.size_setCell, World.size_drew] at h9); omega)
    have Z13 := Lib.hid (And.intro Z12.out S13.out)
    have NTB := Lib.hid (TB.out.on hb13)
    have TB := NTB; clear NTB
    have Hb13 := Lib.hid (bthen Hb12.out hb13)
    clear hb13
    have qTB0 : w13.cell? ⟨w.heap.size, 0, none⟩ = some (.int .i64 a) := TB.out.cell 0
    have qTB1 : w13.cell? ⟨w.heap.size, 1, none⟩ = some (.int .i64 b) := TB.out.cell 1
    have qTBl := TB.out.lt
    go_wp2_with fail
    clear qTB0 qTB1 qTBl
    refine (Hr.out _).mono ?_; rintro e w14 ⟨rfl, hb14⟩
    have S14 := Lib.hid (show w13.heap.size + 0 ≤ w14.heap.size by have h9 := hb14.size; (try simp only [World.size_alloc, World.size_setCell, World.size_drew] at h9); omega)
    have Z14 := Lib.hid (And.intro Z13.out S14.out)
    have NTB := Lib.hid (TB.out.on hb14)
    have TB := NTB; clear NTB
    have Hb14 := Lib.hid (bthen Hb13.out hb14)
    clear hb14
    go_wp2
    exact bodyPost_ret (v := .tuple #[.bool false, .bool true]) (by simp [results, Tryz.results13, go_sem]) rfl ⟨by rw [HV.out], Hb14.out⟩
  rw [Bool.true_and] at HV
  obtain ⟨k2, hk2⟩ : ∃ k, decide (hi ≤ y) = k := ⟨_, rfl⟩
  rw [hk2] at HV
  go_enter Tryz.func13, Tryz.ntmps13
  go_wp2_with fail
  refine (Ha.out _).mono ?_; rintro e w15 ⟨rfl, hb15⟩
  have S15 := Lib.hid (show w.heap.size + 1 ≤ w15.heap.size by have h9 := hb15.size; (try simp only [World.size_alloc, World.size_setCell, World.size_drew] at h9); omega)
  have NTB := Lib.hid ((Blk.new w 24 #[.int .i64 a, .int .i64 b]).on hb15)
  have TB := NTB; clear NTB
  have Hb15 := Lib.hid (bthen (bal (Below.refl w.heap.size w) (Obj.cells #[.int .i64 a, .int .i64 b] 24)) hb15)
  clear hb15
  have qTB0 : w15.cell? ⟨w.heap.size, 0, none⟩ = some (.int .i64 a) := TB.out.cell 0
  have qTB1 : w15.cell? ⟨w.heap.size, 1, none⟩ = some (.int .i64 b) := TB.out.cell 1
  have qTBl := TB.out.lt
  go_wp2_with fail
  clear qTB0 qTB1 qTBl
  refine (Hx.out _).mono ?_; rintro e w16 ⟨rfl, hb16⟩
  have S16 := Lib.hid (show w15.heap.size + 0 ≤ w16.heap.size by have h9 := hb16.size; (try simp only [World.size_alloc, World.size_setCell, World.size_drew] at h9); omega)
  have Z16 := Lib.hid (And.intro S15.out S16.out)
  have NTB := Lib.hid (TB.out.on hb16)
  have TB := NTB; clear NTB
  have Hb16 := Lib.hid (bthen Hb15.out hb16)
  clear hb16
  have qTB0 : w16.cell? ⟨w.heap.size, 0, none⟩ = some (.int .i64 a) := TB.out.cell 0
  have qTB1 : w16.cell? ⟨w.heap.size, 1, none⟩ = some (.int .i64 b) := TB.out.cell 1
  have qTBl := TB.out.lt
  go_wp2_with fail
  clear qTB0 qTB1 qTBl
  refine (Hy.out _).mono ?_; rintro e w17 ⟨rfl, hb17⟩
  have S17 := Lib.hid (show w16.heap.size + 0 ≤ w17.heap.size by have h9 := hb17.size; (try simp only [World.size_alloc, World.size_setCell, World.size_drew] at h9); omega)
  have Z17 := Lib.hid (And.intro Z16.out S17.out)
  have NTB := Lib.hid (TB.out.on hb17)
  have TB := NTB; clear NTB
  have Hb17 := Lib.hid (bthen Hb16.out hb17)
  clear hb17
  have qTB0 : w17.cell? ⟨w.heap.size, 0, none⟩ = some (.int .i64 a) := TB.out.cell 0
  have qTB1 : w17.cell? ⟨w.heap.size, 1, none⟩ = some (.int .i64 b) := TB.out.cell 1
  have qTBl := TB.out.lt
  go_wp2_with fail
  clear qTB0 qTB1 qTBl
  refine (Hr.out _).mono ?_; rintro e w18 ⟨rfl, hb18⟩
  have S18 := Lib.hid (show w17.heap.size + 0 ≤ w18.heap.size by have h9 := hb18.size; (try simp only [World.size_alloc, World.size_setCell, World.size_drew] at h9); omega)
  have Z18 := Lib.hid (And.intro Z17.out S18.out)
  have NTB := Lib.hid (TB.out.on hb18)
  have TB := NTB; clear NTB
  have Hb18 := Lib.hid (bthen Hb17.out hb18)
  clear hb18
  go_wp2
  exact bodyPost_ret (v := .tuple #[.bool k2, .bool true]) (by simp [results, Tryz.results13, go_sem]) rfl ⟨by rw [HV.out], Hb18.out⟩
set_option linter.unusedSimpArgs false in
set_option linter.unusedVariables false in
set_option maxRecDepth 8000 in
set_option maxHeartbeats 8000000 in
theorem claimI_any (a b x y n : Int) (w : World) :
    Calls Tryz.prog 12 #[.agg #[.int .i64 a, .int .i64 b], .int .i64 x, .int .i64 y, .int .i64 n] w fun e w' => e = .returned (.tuple #[.bool (chV a b x y n).1, .bool (chV a b x y n).2]) ∧ Below w.heap.size w w' := by
  have Hx := Lib.hid (fun w9 => inside_lit (n := x) (lo := 0) (hi := 20) (k := insB x 0 20) rfl w9)
  have Hy := Lib.hid (fun w9 => inside_lit (n := y) (lo := 0) (hi := 20) (k := insB y 0 20) rfl w9)
  have Ht := Lib.hid (fun w9 => isTwoCurve_any a b w9)
  have Hi := Lib.hid (fun w9 => inside_lit (n := n) (lo := 1) (hi := 60) (k := insB n 1 60) rfl w9)
  obtain ⟨t, htw⟩ : ∃ t, twB a b = t := ⟨_, rfl⟩
  cases t
  · have HV := Lib.hid (show chV a b x y n = (false, false) from if_neg (by unfold askB; rw [htw]; simp))
    rw [htw] at Ht
    clear htw
    generalize chV a b x y n = V at *
    go_enter Tryz.func12, Tryz.ntmps12
    go_wp2_with fail
    refine (Ht.out _).mono ?_; rintro e w1 ⟨rfl, hb1⟩
    have S1 := Lib.hid (show w.heap.size + 1 ≤ w1.heap.size by have h9 := hb1.size; (try simp only [World.size_alloc, World.size_setCell, World.size_drew] at h9); omega)
    have NTB := Lib.hid ((Blk.new w 24 #[.int .i64 a, .int .i64 b]).on hb1)
    have TB := NTB; clear NTB
    have Hb1 := Lib.hid (bthen (bal (Below.refl w.heap.size w) (Obj.cells #[.int .i64 a, .int .i64 b] 24)) hb1)
    clear hb1
    go_wp2
    exact bodyPost_ret (v := .tuple #[.bool false, .bool false]) (by simp [results, Tryz.results12, go_sem]) rfl ⟨by rw [HV.out] <;> rfl, Hb1.out⟩
  obtain ⟨i, hin⟩ : ∃ i, insB n 1 60 = i := ⟨_, rfl⟩
  cases i
  · have HV := Lib.hid (show chV a b x y n = (false, false) from if_neg (by unfold askB; rw [hin]; simp))
    rw [htw] at Ht
    rw [hin] at Hi
    clear htw hin
    generalize chV a b x y n = V at *
    go_enter Tryz.func12, Tryz.ntmps12
    go_wp2_with fail
    refine (Ht.out _).mono ?_; rintro e w2 ⟨rfl, hb2⟩
    have S2 := Lib.hid (show w.heap.size + 1 ≤ w2.heap.size by have h9 := hb2.size; (try simp only [World.size_alloc, World.size_setCell, World.size_drew] at h9); omega)
    have NTB := Lib.hid ((Blk.new w 24 #[.int .i64 a, .int .i64 b]).on hb2)
    have TB := NTB; clear NTB
    have Hb2 := Lib.hid (bthen (bal (Below.refl w.heap.size w) (Obj.cells #[.int .i64 a, .int .i64 b] 24)) hb2)
    clear hb2
    have qTB0 : w2.cell? ⟨w.heap.size, 0, none⟩ = some (.int .i64 a) := TB.out.cell 0
    have qTB1 : w2.cell? ⟨w.heap.size, 1, none⟩ = some (.int .i64 b) := TB.out.cell 1
    have qTBl := TB.out.lt
    go_wp2_with fail
    clear qTB0 qTB1 qTBl
    refine (Hi.out _).mono ?_; rintro e w3 ⟨rfl, hb3⟩
    have S3 := Lib.hid (show w2.heap.size + 0 ≤ w3.heap.size by have h9 := hb3.size; (try simp only [World.size_alloc, World.size_setCell, World.size_drew] at h9); omega)
    have Z3 := Lib.hid (And.intro S2.out S3.out)
    have NTB := Lib.hid (TB.out.on hb3)
    have TB := NTB; clear NTB
    have Hb3 := Lib.hid (bthen Hb2.out hb3)
    clear hb3
    go_wp2
    exact bodyPost_ret (v := .tuple #[.bool false, .bool false]) (by simp [results, Tryz.results12, go_sem]) rfl ⟨by rw [HV.out] <;> rfl, Hb3.out⟩
  have hask : askB a b n = true := by unfold askB; rw [htw, hin]; rfl
  obtain ⟨hn1, hn2⟩ := ins60 hin
  obtain ⟨j, hix⟩ : ∃ j, insB x 0 20 = j := ⟨_, rfl⟩
  cases j
  · have HV := Lib.hid (show chV a b x y n = (false, false) from if_neg (by rw [hix]; simp))
    rw [hix] at Hx
    rw [htw] at Ht
    rw [hin] at Hi
    clear hask htw hin hn1 hn2 hix
    generalize chV a b x y n = V at *
    go_enter Tryz.func12, Tryz.ntmps12
    go_wp2_with fail
    refine (Ht.out _).mono ?_; rintro e w4 ⟨rfl, hb4⟩
    have S4 := Lib.hid (show w.heap.size + 1 ≤ w4.heap.size by have h9 := hb4.size; (try simp only [World.size_alloc, World.size_setCell, World.size_drew] at h9); omega)
    have NTB := Lib.hid ((Blk.new w 24 #[.int .i64 a, .int .i64 b]).on hb4)
    have TB := NTB; clear NTB
    have Hb4 := Lib.hid (bthen (bal (Below.refl w.heap.size w) (Obj.cells #[.int .i64 a, .int .i64 b] 24)) hb4)
    clear hb4
    have qTB0 : w4.cell? ⟨w.heap.size, 0, none⟩ = some (.int .i64 a) := TB.out.cell 0
    have qTB1 : w4.cell? ⟨w.heap.size, 1, none⟩ = some (.int .i64 b) := TB.out.cell 1
    have qTBl := TB.out.lt
    go_wp2_with fail
    clear qTB0 qTB1 qTBl
    refine (Hi.out _).mono ?_; rintro e w5 ⟨rfl, hb5⟩
    have S5 := Lib.hid (show w4.heap.size + 0 ≤ w5.heap.size by have h9 := hb5.size; (try simp only [World.size_alloc, World.size_setCell, World.size_drew] at h9); omega)
    have Z5 := Lib.hid (And.intro S4.out S5.out)
    have NTB := Lib.hid (TB.out.on hb5)
    have TB := NTB; clear NTB
    have Hb5 := Lib.hid (bthen Hb4.out hb5)
    clear hb5
    have qTB0 : w5.cell? ⟨w.heap.size, 0, none⟩ = some (.int .i64 a) := TB.out.cell 0
    have qTB1 : w5.cell? ⟨w.heap.size, 1, none⟩ = some (.int .i64 b) := TB.out.cell 1
    have qTBl := TB.out.lt
    go_wp2_with fail
    clear qTB0 qTB1 qTBl
    refine (Hx.out _).mono ?_; rintro e w6 ⟨rfl, hb6⟩
    have S6 := Lib.hid (show w5.heap.size + 0 ≤ w6.heap.size by have h9 := hb6.size; (try simp only [World.size_alloc, World.size_setCell, World.size_drew] at h9); omega)
    have Z6 := Lib.hid (And.intro Z5.out S6.out)
    have NTB := Lib.hid (TB.out.on hb6)
    have TB := NTB; clear NTB
    have Hb6 := Lib.hid (bthen Hb5.out hb6)
    clear hb6
    go_wp2
    exact bodyPost_ret (v := .tuple #[.bool false, .bool false]) (by simp [results, Tryz.results12, go_sem]) rfl ⟨by rw [HV.out] <;> rfl, Hb6.out⟩
  obtain ⟨j, hiy⟩ : ∃ j, insB y 0 20 = j := ⟨_, rfl⟩
  cases j
  · have HV := Lib.hid (show chV a b x y n = (false, false) from if_neg (by rw [hiy]; simp))
    rw [hix] at Hx
    rw [hiy] at Hy
    rw [htw] at Ht
    rw [hin] at Hi
    clear hask htw hin hn1 hn2 hix hiy
    generalize chV a b x y n = V at *
    go_enter Tryz.func12, Tryz.ntmps12
    go_wp2_with fail
    refine (Ht.out _).mono ?_; rintro e w7 ⟨rfl, hb7⟩
    have S7 := Lib.hid (show w.heap.size + 1 ≤ w7.heap.size by have h9 := hb7.size; (try simp only [World.size_alloc, World.size_setCell, World.size_drew] at h9); omega)
    have NTB := Lib.hid ((Blk.new w 24 #[.int .i64 a, .int .i64 b]).on hb7)
    have TB := NTB; clear NTB
    have Hb7 := Lib.hid (bthen (bal (Below.refl w.heap.size w) (Obj.cells #[.int .i64 a, .int .i64 b] 24)) hb7)
    clear hb7
    have qTB0 : w7.cell? ⟨w.heap.size, 0, none⟩ = some (.int .i64 a) := TB.out.cell 0
    have qTB1 : w7.cell? ⟨w.heap.size, 1, none⟩ = some (.int .i64 b) := TB.out.cell 1
    have qTBl := TB.out.lt
    go_wp2_with fail
    clear qTB0 qTB1 qTBl
    refine (Hi.out _).mono ?_; rintro e w8 ⟨rfl, hb8⟩
    have S8 := Lib.hid (show w7.heap.size + 0 ≤ w8.heap.size by have h9 := hb8.size; (try simp only [World.size_alloc, World.size_setCell, World.size_drew] at h9); omega)
    have Z8 := Lib.hid (And.intro S7.out S8.out)
    have NTB := Lib.hid (TB.out.on hb8)
    have TB := NTB; clear NTB
    have Hb8 := Lib.hid (bthen Hb7.out hb8)
    clear hb8
    have qTB0 : w8.cell? ⟨w.heap.size, 0, none⟩ = some (.int .i64 a) := TB.out.cell 0
    have qTB1 : w8.cell? ⟨w.heap.size, 1, none⟩ = some (.int .i64 b) := TB.out.cell 1
    have qTBl := TB.out.lt
    go_wp2_with fail
    clear qTB0 qTB1 qTBl
    refine (Hx.out _).mono ?_; rintro e w9 ⟨rfl, hb9⟩
    have S9 := Lib.hid (show w8.heap.size + 0 ≤ w9.heap.size by have h9 := hb9.size; (try simp only [World.size_alloc, World.size_setCell, World.size_drew] at h9); omega)
    have Z9 := Lib.hid (And.intro Z8.out S9.out)
    have NTB := Lib.hid (TB.out.on hb9)
    have TB := NTB; clear NTB
    have Hb9 := Lib.hid (bthen Hb8.out hb9)
    clear hb9
    have qTB0 : w9.cell? ⟨w.heap.size, 0, none⟩ = some (.int .i64 a) := TB.out.cell 0
    have qTB1 : w9.cell? ⟨w.heap.size, 1, none⟩ = some (.int .i64 b) := TB.out.cell 1
    have qTBl := TB.out.lt
    go_wp2_with fail
    clear qTB0 qTB1 qTBl
    refine (Hy.out _).mono ?_; rintro e w10 ⟨rfl, hb10⟩
    have S10 := Lib.hid (show w9.heap.size + 0 ≤ w10.heap.size by have h9 := hb10.size; (try simp only [World.size_alloc, World.size_setCell, World.size_drew] at h9); omega)
    have Z10 := Lib.hid (And.intro Z9.out S10.out)
    have NTB := Lib.hid (TB.out.on hb10)
    have TB := NTB; clear NTB
    have Hb10 := Lib.hid (bthen Hb9.out hb10)
    clear hb10
    go_wp2
    exact bodyPost_ret (v := .tuple #[.bool false, .bool false]) (by simp [results, Tryz.results12, go_sem]) rfl ⟨by rw [HV.out] <;> rfl, Hb10.out⟩
  have h9 := fun w9 => rankBounds_any a b n.toNat w9 htw hn2
  rw [← hn1] at h9
  have Hr := Lib.hid h9
  have HY := Lib.hid (fun (h2 : (rbV a b n.toNat).2.2 = true) => show chV a b x y n = (decide (x ≤ (rbV a b n.toNat).1) && decide ((rbV a b n.toNat).2.1 ≤ y), true) from if_pos ⟨⟨hask, hix, hiy⟩, h2⟩)
  have HN := Lib.hid (fun (hx : ¬ (rbV a b n.toNat).2.2 = true) => show chV a b x y n = (false, false) from if_neg (fun h => hx h.2))
  rw [htw] at Ht
  rw [hin] at Hi
  rw [hix] at Hx
  rw [hiy] at Hy
  clear hask htw hin hn2 h9 hn1 hix hiy
  generalize chV a b x y n = V at *
  generalize rbV a b n.toNat = B at *
  obtain ⟨lo, hi, told⟩ := B
  dsimp only at *
  cases told
  · have HV := Lib.hid (HN.out (by simp))
    go_enter Tryz.func12, Tryz.ntmps12
    go_wp2_with fail
    refine (Ht.out _).mono ?_; rintro e w11 ⟨rfl, hb11⟩
    have S11 := Lib.hid (show w.heap.size + 1 ≤ w11.heap.size by have h9 := hb11.size; (try simp only [World.size_alloc, World.size_setCell, World.size_drew] at h9); omega)
    have NTB := Lib.hid ((Blk.new w 24 #[.int .i64 a, .int .i64 b]).on hb11)
    have TB := NTB; clear NTB
    have Hb11 := Lib.hid (bthen (bal (Below.refl w.heap.size w) (Obj.cells #[.int .i64 a, .int .i64 b] 24)) hb11)
    clear hb11
    have qTB0 : w11.cell? ⟨w.heap.size, 0, none⟩ = some (.int .i64 a) := TB.out.cell 0
    have qTB1 : w11.cell? ⟨w.heap.size, 1, none⟩ = some (.int .i64 b) := TB.out.cell 1
    have qTBl := TB.out.lt
    go_wp2_with fail
    clear qTB0 qTB1 qTBl
    refine (Hi.out _).mono ?_; rintro e w12 ⟨rfl, hb12⟩
    have S12 := Lib.hid (show w11.heap.size + 0 ≤ w12.heap.size by have h9 := hb12.size; (try simp only [World.size_alloc, World.size_setCell, World.size_drew] at h9); omega)
    have Z12 := Lib.hid (And.intro S11.out S12.out)
    have NTB := Lib.hid (TB.out.on hb12)
    have TB := NTB; clear NTB
    have Hb12 := Lib.hid (bthen Hb11.out hb12)
    clear hb12
    have qTB0 : w12.cell? ⟨w.heap.size, 0, none⟩ = some (.int .i64 a) := TB.out.cell 0
    have qTB1 : w12.cell? ⟨w.heap.size, 1, none⟩ = some (.int .i64 b) := TB.out.cell 1
    have qTBl := TB.out.lt
    go_wp2_with fail
    clear qTB0 qTB1 qTBl
    refine (Hx.out _).mono ?_; rintro e w13 ⟨rfl, hb13⟩
    have S13 := Lib.hid (show w12.heap.size + 0 ≤ w13.heap.size by have h9 := hb13.size; (try simp only [World.size_alloc, World.size_setCell, World.size_drew] at h9); omega)
    have Z13 := Lib.hid (And.intro Z12.out S13.out)
    have NTB := Lib.hid (TB.out.on hb13)
    have TB := NTB; clear NTB
    have Hb13 := Lib.hid (bthen Hb12.out hb13)
    clear hb13
    have qTB0 : w13.cell? ⟨w.heap.size, 0, none⟩ = some (.int .i64 a) := TB.out.cell 0
    have qTB1 : w13.cell? ⟨w.heap.size, 1, none⟩ = some (.int .i64 b) := TB.out.cell 1
    have qTBl := TB.out.lt
    go_wp2_with fail
    clear qTB0 qTB1 qTBl
    refine (Hy.out _).mono ?_; rintro e w14 ⟨rfl, hb14⟩
    have S14 := Lib.hid (show w13.heap.size + 0 ≤ w14.heap.size by have h9 := hb14.size; (try simp only [World.size_alloc, World.size_setCell, World.size_drew] at h9); omega)
    have Z14 := Lib.hid (And.intro Z13.out S14.out)
    have NTB := Lib.hid (TB.out.on hb14)
    have TB := NTB; clear NTB
    have Hb14 := Lib.hid (bthen Hb13.out hb14)
    clear hb14
    have qTB0 : w14.cell? ⟨w.heap.size, 0, none⟩ = some (.int .i64 a) := TB.out.cell 0
    have qTB1 : w14.cell? ⟨w.heap.size, 1, none⟩ = some (.int .i64 b) := TB.out.cell 1
    have qTBl := TB.out.lt
    go_wp2_with fail
    clear qTB0 qTB1 qTBl
    refine (Hr.out _).mono ?_; rintro e w15 ⟨rfl, hb15⟩
    have S15 := Lib.hid (show w14.heap.size + 0 ≤ w15.heap.size by have h9 := hb15.size; (try simp only [World.size_alloc, World.size_setCell, World.size_drew] at h9); omega)
    have Z15 := Lib.hid (And.intro Z14.out S15.out)
    have NTB := Lib.hid (TB.out.on hb15)
    have TB := NTB; clear NTB
    have Hb15 := Lib.hid (bthen Hb14.out hb15)
    clear hb15
    go_wp2
    exact bodyPost_ret (v := .tuple #[.bool false, .bool false]) (by simp [results, Tryz.results12, go_sem]) rfl ⟨by rw [HV.out], Hb15.out⟩
  have HV := Lib.hid (HY.out rfl)
  obtain ⟨k1, hk1⟩ : ∃ k, decide (x ≤ lo) = k := ⟨_, rfl⟩
  rw [hk1] at HV
  have hk1b : decide (lo ≥ x) = k1 := hk1
  cases k1
  · rw [Bool.false_and] at HV
    go_enter Tryz.func12, Tryz.ntmps12
    go_wp2_with fail
    refine (Ht.out _).mono ?_; rintro e w16 ⟨rfl, hb16⟩
    have S16 := Lib.hid (show w.heap.size + 1 ≤ w16.heap.size by have h9 := hb16.size; (try simp only [World.size_alloc, World.size_setCell, World.size_drew] at h9); omega)
    have NTB := Lib.hid ((Blk.new w 24 #[.int .i64 a, .int .i64 b]).on hb16)
    have TB := NTB; clear NTB
    have Hb16 := Lib.hid (bthen (bal (Below.refl w.heap.size w) (Obj.cells #[.int .i64 a, .int .i64 b] 24)) hb16)
    clear hb16
    have qTB0 : w16.cell? ⟨w.heap.size, 0, none⟩ = some (.int .i64 a) := TB.out.cell 0
    have qTB1 : w16.cell? ⟨w.heap.size, 1, none⟩ = some (.int .i64 b) := TB.out.cell 1
    have qTBl := TB.out.lt
    go_wp2_with fail
    clear qTB0 qTB1 qTBl
    refine (Hi.out _).mono ?_; rintro e w17 ⟨rfl, hb17⟩
    have S17 := Lib.hid (show w16.heap.size + 0 ≤ w17.heap.size by have h9 := hb17.size; (try simp only [World.size_alloc, World.size_setCell, World.size_drew] at h9); omega)
    have Z17 := Lib.hid (And.intro S16.out S17.out)
    have NTB := Lib.hid (TB.out.on hb17)
    have TB := NTB; clear NTB
    have Hb17 := Lib.hid (bthen Hb16.out hb17)
    clear hb17
    have qTB0 : w17.cell? ⟨w.heap.size, 0, none⟩ = some (.int .i64 a) := TB.out.cell 0
    have qTB1 : w17.cell? ⟨w.heap.size, 1, none⟩ = some (.int .i64 b) := TB.out.cell 1
    have qTBl := TB.out.lt
    go_wp2_with fail
    clear qTB0 qTB1 qTBl
    refine (Hx.out _).mono ?_; rintro e w18 ⟨rfl, hb18⟩
    have S18 := Lib.hid (show w17.heap.size + 0 ≤ w18.heap.size by have h9 := hb18.size; (try simp only [World.size_alloc, World.size_setCell, World.size_drew] at h9); omega)
    have Z18 := Lib.hid (And.intro Z17.out S18.out)
    have NTB := Lib.hid (TB.out.on hb18)
    have TB := NTB; clear NTB
    have Hb18 := Lib.hid (bthen Hb17.out hb18)
    clear hb18
    have qTB0 : w18.cell? ⟨w.heap.size, 0, none⟩ = some (.int .i64 a) := TB.out.cell 0
    have qTB1 : w18.cell? ⟨w.heap.size, 1, none⟩ = some (.int .i64 b) := TB.out.cell 1
    have qTBl := TB.out.lt
    go_wp2_with fail
    clear qTB0 qTB1 qTBl
    refine (Hy.out _).mono ?_; rintro e w19 ⟨rfl, hb19⟩
    have S19 := Lib.hid (show w18.heap.size + 0 ≤ w19.heap.size by have h9 := hb19.size; (try simp only [World.size_alloc, World.size_setCell, World.size_drew] at h9); omega)
    have Z19 := Lib.hid (And.intro Z18.out S19.out)
    have NTB := Lib.hid (TB.out.on hb19)
    have TB := NTB; clear NTB
    have Hb19 := Lib.hid (bthen Hb18.out hb19)
    clear hb19
    have qTB0 : w19.cell? ⟨w.heap.size, 0, none⟩ = some (.int .i64 a) := TB.out.cell 0
    have qTB1 : w19.cell? ⟨w.heap.size, 1, none⟩ = some (.int .i64 b) := TB.out.cell 1
    have qTBl := TB.out.lt
    go_wp2_with fail
    clear qTB0 qTB1 qTBl
    refine (Hr.out _).mono ?_; rintro e w20 ⟨rfl, hb20⟩
    have S20 := Lib.hid (show w19.heap.size + 0 ≤ w20.heap.size by have h9 := hb20.size; (try simp only [World.size_alloc, World.size_setCell, World.size_drew] at h9); omega)
    have Z20 := Lib.hid (And.intro Z19.out S20.out)
    have NTB := Lib.hid (TB.out.on hb20)
    have TB := NTB; clear NTB
    have Hb20 := Lib.hid (bthen Hb19.out hb20)
    clear hb20
    go_wp2
    exact bodyPost_ret (v := .tuple #[.bool false, .bool true]) (by simp [results, Tryz.results12, go_sem]) rfl ⟨by rw [HV.out], Hb20.out⟩
  rw [Bool.true_and] at HV
  obtain ⟨k2, hk2⟩ : ∃ k, decide (hi ≤ y) = k := ⟨_, rfl⟩
  rw [hk2] at HV
  go_enter Tryz.func12, Tryz.ntmps12
  go_wp2_with fail
  refine (Ht.out _).mono ?_; rintro e w21 ⟨rfl, hb21⟩
  have S21 := Lib.hid (show w.heap.size + 1 ≤ w21.heap.size by have h9 := hb21.size; (try simp only [World.size_alloc, World.size_setCell, World.size_drew] at h9); omega)
  have NTB := Lib.hid ((Blk.new w 24 #[.int .i64 a, .int .i64 b]).on hb21)
  have TB := NTB; clear NTB
  have Hb21 := Lib.hid (bthen (bal (Below.refl w.heap.size w) (Obj.cells #[.int .i64 a, .int .i64 b] 24)) hb21)
  clear hb21
  have qTB0 : w21.cell? ⟨w.heap.size, 0, none⟩ = some (.int .i64 a) := TB.out.cell 0
  have qTB1 : w21.cell? ⟨w.heap.size, 1, none⟩ = some (.int .i64 b) := TB.out.cell 1
  have qTBl := TB.out.lt
  go_wp2_with fail
  clear qTB0 qTB1 qTBl
  refine (Hi.out _).mono ?_; rintro e w22 ⟨rfl, hb22⟩
  have S22 := Lib.hid (show w21.heap.size + 0 ≤ w22.heap.size by have h9 := hb22.size; (try simp only [World.size_alloc, World.size_setCell, World.size_drew] at h9); omega)
  have Z22 := Lib.hid (And.intro S21.out S22.out)
  have NTB := Lib.hid (TB.out.on hb22)
  have TB := NTB; clear NTB
  have Hb22 := Lib.hid (bthen Hb21.out hb22)
  clear hb22
  have qTB0 : w22.cell? ⟨w.heap.size, 0, none⟩ = some (.int .i64 a) := TB.out.cell 0
  have qTB1 : w22.cell? ⟨w.heap.size, 1, none⟩ = some (.int .i64 b) := TB.out.cell 1
  have qTBl := TB.out.lt
  go_wp2_with fail
  clear qTB0 qTB1 qTBl
  refine (Hx.out _).mono ?_; rintro e w23 ⟨rfl, hb23⟩
  have S23 := Lib.hid (show w22.heap.size + 0 ≤ w23.heap.size by have h9 := hb23.size; (try simp only [World.size_alloc, World.size_setCell, World.size_drew] at h9); omega)
  have Z23 := Lib.hid (And.intro Z22.out S23.out)
  have NTB := Lib.hid (TB.out.on hb23)
  have TB := NTB; clear NTB
  have Hb23 := Lib.hid (bthen Hb22.out hb23)
  clear hb23
  have qTB0 : w23.cell? ⟨w.heap.size, 0, none⟩ = some (.int .i64 a) := TB.out.cell 0
  have qTB1 : w23.cell? ⟨w.heap.size, 1, none⟩ = some (.int .i64 b) := TB.out.cell 1
  have qTBl := TB.out.lt
  go_wp2_with fail
  clear qTB0 qTB1 qTBl
  refine (Hy.out _).mono ?_; rintro e w24 ⟨rfl, hb24⟩
  have S24 := Lib.hid (show w23.heap.size + 0 ≤ w24.heap.size by have h9 := hb24.size; (try simp only [World.size_alloc, World.size_setCell, World.size_drew] at h9); omega)
  have Z24 := Lib.hid (And.intro Z23.out S24.out)
  have NTB := Lib.hid (TB.out.on hb24)
  have TB := NTB; clear NTB
  have Hb24 := Lib.hid (bthen Hb23.out hb24)
  clear hb24
  have qTB0 : w24.cell? ⟨w.heap.size, 0, none⟩ = some (.int .i64 a) := TB.out.cell 0
  have qTB1 : w24.cell? ⟨w.heap.size, 1, none⟩ = some (.int .i64 b) := TB.out.cell 1
  have qTBl := TB.out.lt
  go_wp2_with fail
  clear qTB0 qTB1 qTBl
  refine (Hr.out _).mono ?_; rintro e w25 ⟨rfl, hb25⟩
  have S25 := Lib.hid (show w24.heap.size + 0 ≤ w25.heap.size by have h9 := hb25.size; (try simp only [World.size_alloc, World.size_setCell, World.size_drew] at h9); omega)
  have Z25 := Lib.hid (And.intro Z24.out S25.out)
  have NTB := Lib.hid (TB.out.on hb25)
  have TB := NTB; clear NTB
  have Hb25 := Lib.hid (bthen Hb24.out hb25)
  clear hb25
  go_wp2
  exact bodyPost_ret (v := .tuple #[.bool k2, .bool true]) (by simp [results, Tryz.results12, go_sem]) rfl ⟨by rw [HV.out], Hb25.out⟩
set_option linter.unusedSimpArgs false in
set_option linter.unusedVariables false in
set_option maxRecDepth 8000 in
set_option maxHeartbeats 8000000 in
theorem foundRanksX_any (a b n : Int) (w : World) (hask : askB a b n = true) :
    Calls Tryz.prog 17 #[.agg #[.int .i64 a, .int .i64 b], .int .i64 n] w fun e w' => e = .returned (.tuple #[.int .i64 (frV a b n.toNat).1, .int .i64 (frV a b n.toNat).2.1, .bool (frV a b n.toNat).2.2]) ∧ Below w.heap.size w w' := by
  have hh := hask
  unfold askB at hh
  rw [Bool.and_eq_true] at hh
  obtain ⟨htw, hin⟩ := hh
  obtain ⟨hn1, hn2⟩ := ins60 hin
  have Ht := Lib.hid (fun w9 => isTwoCurve_any a b w9)
  have Hi := Lib.hid (fun w9 => inside_lit (n := n) (lo := 1) (hi := 60) (k := insB n 1 60) rfl w9)
  have h9 := fun w9 => foundRanks_any a b n.toNat w9 htw hn2
  rw [← hn1] at h9
  have Hr := Lib.hid h9
  rw [htw] at Ht
  rw [hin] at Hi
  clear hask htw hin hn2 h9 hn1
  generalize frV a b n.toNat = B at *
  obtain ⟨lo, hi, told⟩ := B
  dsimp only at *
  go_enter Tryz.func17, Tryz.ntmps17
  go_wp2_with fail
  refine (Ht.out _).mono ?_; rintro e w1 ⟨rfl, hb1⟩
  have S1 := Lib.hid (show w.heap.size + 1 ≤ w1.heap.size by have h9 := hb1.size; (try simp only [World.size_alloc, World.size_setCell, World.size_drew] at h9); omega)
  have NTB := Lib.hid ((Blk.new w 24 #[.int .i64 a, .int .i64 b]).on hb1)
  have TB := NTB; clear NTB
  have Hb1 := Lib.hid (bthen (bal (Below.refl w.heap.size w) (Obj.cells #[.int .i64 a, .int .i64 b] 24)) hb1)
  clear hb1
  have qTB0 : w1.cell? ⟨w.heap.size, 0, none⟩ = some (.int .i64 a) := TB.out.cell 0
  have qTB1 : w1.cell? ⟨w.heap.size, 1, none⟩ = some (.int .i64 b) := TB.out.cell 1
  have qTBl := TB.out.lt
  go_wp2_with fail
  clear qTB0 qTB1 qTBl
  refine (Hi.out _).mono ?_; rintro e w2 ⟨rfl, hb2⟩
  have S2 := Lib.hid (show w1.heap.size + 0 ≤ w2.heap.size by have h9 := hb2.size; (try simp only [World.size_alloc, World.size_setCell, World.size_drew] at h9); omega)
  have Z2 := Lib.hid (And.intro S1.out S2.out)
  have NTB := Lib.hid (TB.out.on hb2)
  have TB := NTB; clear NTB
  have Hb2 := Lib.hid (bthen Hb1.out hb2)
  clear hb2
  have qTB0 : w2.cell? ⟨w.heap.size, 0, none⟩ = some (.int .i64 a) := TB.out.cell 0
  have qTB1 : w2.cell? ⟨w.heap.size, 1, none⟩ = some (.int .i64 b) := TB.out.cell 1
  have qTBl := TB.out.lt
  go_wp2_with fail
  clear qTB0 qTB1 qTBl
  refine (Hr.out _).mono ?_; rintro e w3 ⟨rfl, hb3⟩
  have S3 := Lib.hid (show w2.heap.size + 0 ≤ w3.heap.size by have h9 := hb3.size; (try simp only [World.size_alloc, World.size_setCell, World.size_drew] at h9); omega)
  have Z3 := Lib.hid (And.intro Z2.out S3.out)
  have NTB := Lib.hid (TB.out.on hb3)
  have TB := NTB; clear NTB
  have Hb3 := Lib.hid (bthen Hb2.out hb3)
  clear hb3
  go_wp2
  exact bodyPost_ret (v := .tuple #[.int .i64 lo, .int .i64 hi, .bool told]) (by simp [results, Tryz.results17, go_sem]) rfl ⟨rfl, Hb3.out⟩
set_option linter.unusedSimpArgs false in
set_option linter.unusedVariables false in
set_option maxRecDepth 8000 in
set_option maxHeartbeats 8000000 in
theorem rankBoundsX_any (a b n : Int) (w : World) (hask : askB a b n = true) :
    Calls Tryz.prog 19 #[.agg #[.int .i64 a, .int .i64 b], .int .i64 n] w fun e w' => e = .returned (.tuple #[.int .i64 (rbV a b n.toNat).1, .int .i64 (rbV a b n.toNat).2.1, .bool (rbV a b n.toNat).2.2]) ∧ Below w.heap.size w w' := by
  have hh := hask
  unfold askB at hh
  rw [Bool.and_eq_true] at hh
  obtain ⟨htw, hin⟩ := hh
  obtain ⟨hn1, hn2⟩ := ins60 hin
  have Ht := Lib.hid (fun w9 => isTwoCurve_any a b w9)
  have Hi := Lib.hid (fun w9 => inside_lit (n := n) (lo := 1) (hi := 60) (k := insB n 1 60) rfl w9)
  have h9 := fun w9 => rankBounds_any a b n.toNat w9 htw hn2
  rw [← hn1] at h9
  have Hr := Lib.hid h9
  rw [htw] at Ht
  rw [hin] at Hi
  clear hask htw hin hn2 h9 hn1
  generalize rbV a b n.toNat = B at *
  obtain ⟨lo, hi, told⟩ := B
  dsimp only at *
  go_enter Tryz.func19, Tryz.ntmps19
  go_wp2_with fail
  refine (Ht.out _).mono ?_; rintro e w1 ⟨rfl, hb1⟩
  have S1 := Lib.hid (show w.heap.size + 1 ≤ w1.heap.size by have h9 := hb1.size; (try simp only [World.size_alloc, World.size_setCell, World.size_drew] at h9); omega)
  have NTB := Lib.hid ((Blk.new w 24 #[.int .i64 a, .int .i64 b]).on hb1)
  have TB := NTB; clear NTB
  have Hb1 := Lib.hid (bthen (bal (Below.refl w.heap.size w) (Obj.cells #[.int .i64 a, .int .i64 b] 24)) hb1)
  clear hb1
  have qTB0 : w1.cell? ⟨w.heap.size, 0, none⟩ = some (.int .i64 a) := TB.out.cell 0
  have qTB1 : w1.cell? ⟨w.heap.size, 1, none⟩ = some (.int .i64 b) := TB.out.cell 1
  have qTBl := TB.out.lt
  go_wp2_with fail
  clear qTB0 qTB1 qTBl
  refine (Hi.out _).mono ?_; rintro e w2 ⟨rfl, hb2⟩
  have S2 := Lib.hid (show w1.heap.size + 0 ≤ w2.heap.size by have h9 := hb2.size; (try simp only [World.size_alloc, World.size_setCell, World.size_drew] at h9); omega)
  have Z2 := Lib.hid (And.intro S1.out S2.out)
  have NTB := Lib.hid (TB.out.on hb2)
  have TB := NTB; clear NTB
  have Hb2 := Lib.hid (bthen Hb1.out hb2)
  clear hb2
  have qTB0 : w2.cell? ⟨w.heap.size, 0, none⟩ = some (.int .i64 a) := TB.out.cell 0
  have qTB1 : w2.cell? ⟨w.heap.size, 1, none⟩ = some (.int .i64 b) := TB.out.cell 1
  have qTBl := TB.out.lt
  go_wp2_with fail
  clear qTB0 qTB1 qTBl
  refine (Hr.out _).mono ?_; rintro e w3 ⟨rfl, hb3⟩
  have S3 := Lib.hid (show w2.heap.size + 0 ≤ w3.heap.size by have h9 := hb3.size; (try simp only [World.size_alloc, World.size_setCell, World.size_drew] at h9); omega)
  have Z3 := Lib.hid (And.intro Z2.out S3.out)
  have NTB := Lib.hid (TB.out.on hb3)
  have TB := NTB; clear NTB
  have Hb3 := Lib.hid (bthen Hb2.out hb3)
  clear hb3
  go_wp2
  exact bodyPost_ret (v := .tuple #[.int .i64 lo, .int .i64 hi, .bool told]) (by simp [results, Tryz.results19, go_sem]) rfl ⟨rfl, Hb3.out⟩
set_option linter.unusedSimpArgs false in
set_option linter.unusedVariables false in
set_option maxRecDepth 8000 in
set_option maxHeartbeats 8000000 in
theorem selmerRanksX_any (a b : Int) (w : World) (htw : twB a b = true) :
    Calls Tryz.prog 18 #[.agg #[.int .i64 a, .int .i64 b]] w fun e w' => e = .returned (.tuple #[.int .i64 (srV a b).1, .int .i64 (srV a b).2.1, .bool (srV a b).2.2]) ∧ Below w.heap.size w w' := by
  have Ht := Lib.hid (fun w9 => isTwoCurve_any a b w9)
  have Hr := Lib.hid (fun w9 => selmerRanks_any a b w9 htw)
  rw [htw] at Ht
  clear htw
  generalize srV a b = B at *
  obtain ⟨lo, hi, told⟩ := B
  dsimp only at *
  go_enter Tryz.func18, Tryz.ntmps18
  go_wp2_with fail
  refine (Ht.out _).mono ?_; rintro e w1 ⟨rfl, hb1⟩
  have S1 := Lib.hid (show w.heap.size + 1 ≤ w1.heap.size by have h9 := hb1.size; (try simp only [World.size_alloc, World.size_setCell, World.size_drew] at h9); omega)
  have NTB := Lib.hid ((Blk.new w 24 #[.int .i64 a, .int .i64 b]).on hb1)
  have TB := NTB; clear NTB
  have Hb1 := Lib.hid (bthen (bal (Below.refl w.heap.size w) (Obj.cells #[.int .i64 a, .int .i64 b] 24)) hb1)
  clear hb1
  have qTB0 : w1.cell? ⟨w.heap.size, 0, none⟩ = some (.int .i64 a) := TB.out.cell 0
  have qTB1 : w1.cell? ⟨w.heap.size, 1, none⟩ = some (.int .i64 b) := TB.out.cell 1
  have qTBl := TB.out.lt
  go_wp2_with fail
  clear qTB0 qTB1 qTBl
  refine (Hr.out _).mono ?_; rintro e w2 ⟨rfl, hb2⟩
  have S2 := Lib.hid (show w1.heap.size + 0 ≤ w2.heap.size by have h9 := hb2.size; (try simp only [World.size_alloc, World.size_setCell, World.size_drew] at h9); omega)
  have Z2 := Lib.hid (And.intro S1.out S2.out)
  have NTB := Lib.hid (TB.out.on hb2)
  have TB := NTB; clear NTB
  have Hb2 := Lib.hid (bthen Hb1.out hb2)
  clear hb2
  go_wp2
  exact bodyPost_ret (v := .tuple #[.int .i64 lo, .int .i64 hi, .bool told]) (by simp [results, Tryz.results18, go_sem]) rfl ⟨rfl, Hb2.out⟩
end
end Go.Proofs.YthdfpfhkmfmnbaaGreat
