/- Own texts put together: Sums and multiples of points, points at an x: some come back, within bounds; Multiples of points, points at an x: some come back, within bounds. Conditions: those of each theorem. -/
import Derived.Test.YtacehhcpfollnaaGreatIsM15
namespace Go.Proofs.YtacehhcpfollnaaGreat
section
open Go Go.RowKit

theorem sq_pos {r d : Int} (h0 : 0 ≤ r) (h : r * r = d) (hd : 1 ≤ d) : 1 ≤ r := by
  rcases (show r = 0 ∨ 1 ≤ r by omega) with h1 | h1
  · rw [h1] at h; omega
  · exact h1
theorem pos_mul {a b A B : Int} (h1 : 1 ≤ a) (h2 : a ≤ A) (h3 : 1 ≤ b) (h4 : b ≤ B) : 1 ≤ a * b ∧ a * b ≤ A * B :=
  ⟨fr_pos h1 h3, (mul_bd a b A B (by omega) h2 (by omega) h4).2⟩

theorem l1In_lit {n lo hi : Int} {k : Bool} (h : insB n lo hi = k) (w : World) : Calls Tryz.prog 96 #[.int .i64 n, .int .i64 lo, .int .i64 hi] w fun e w' => e = .returned (.bool k) ∧ Below w.heap.size w w' := by
  refine (l1In_any n lo hi w).mono ?_
  rintro e w1 ⟨rfl, rfl⟩
  exact ⟨by rw [h], Below.refl _ _⟩
set_option linter.unusedSimpArgs false in
set_option linter.unusedVariables false in
set_option maxRecDepth 8000 in
set_option maxHeartbeats 8000000 in
theorem ptAddX (a b x1 y1 e1 x2 y2 e2 : Int) (w : World) (hx1 : -10000 ≤ x1 ∧ x1 ≤ 10000) (hx2 : -10000 ≤ x2 ∧ x2 ≤ 10000) (he1 : 0 ≤ e1 ∧ e1 ≤ 20) (he2 : 1 ≤ e2 ∧ e2 ≤ 20) (hy : -1000000 ≤ y2 ∧ y2 ≤ 1000000) :
    Calls Tryz.prog 169 #[.agg #[.int .i64 a, .int .i64 b], .agg #[.int .i64 x1, .int .i64 y1, .int .i64 e1], .agg #[.int .i64 x2, .int .i64 y2, .int .i64 e2]] w fun e w' => (∃ (x y q : Int) (ok : Bool), e = .returned (.tuple #[.agg #[.int .i64 x, .int .i64 y, .int .i64 q], .bool ok]) ∧ (-10000 ≤ x ∧ x ≤ 10000) ∧ 0 ≤ q ∧ q ≤ 20) ∧ Below w.heap.size w w' := by
  have hz2 : ¬ e2 = 0 := by omega
  have z2 : (e2 == 0) = false := beq_eq_false_iff_ne.2 hz2
  by_cases hz1 : e1 = 0
  · subst hz1
    go_enter Tryz.func169, Tryz.ntmps169
    go_wp2
    have R9R := (show Blk (World.alloc (World.alloc (World.alloc (World.alloc w (Obj.cells #[.int .i64 a, .int .i64 b] 25)) (Obj.cells #[.int .i64 x1, .int .i64 y1, .int .i64 0] 83)) (Obj.cells #[.int .i64 x2, .int .i64 y2, .int .i64 e2] 83)) (Obj.cells #[.int .i64 x2, .int .i64 y2, .int .i64 e2] 83)) (w.heap.size + 1 + 1 + 1) 83 #[.int .i64 x2, .int .i64 y2, .int .i64 e2] by have h9 := (Blk.new (World.alloc (World.alloc (World.alloc w (Obj.cells #[.int .i64 a, .int .i64 b] 25)) (Obj.cells #[.int .i64 x1, .int .i64 y1, .int .i64 0] 83)) (Obj.cells #[.int .i64 x2, .int .i64 y2, .int .i64 e2] 83)) 83 #[.int .i64 x2, .int .i64 y2, .int .i64 e2]); (try simp only [World.size_alloc, World.size_setCell] at h9); exact h9)
    have kR0 := R9R.cell 0
    have kR1 := R9R.cell 1
    have kR2 := R9R.cell 2
    simp at kR0 kR1 kR2
    exact bodyPost_ret (v := .tuple #[.agg #[.int .i64 x2, .int .i64 y2, .int .i64 e2], .bool true]) (by simp [results, Tryz.results169, go_sem, kR0, kR1, kR2]) rfl ⟨⟨_, _, _, _, rfl, ⟨by omega, by omega⟩, by omega, by omega⟩, (bal (bal (bal (bal (Below.refl w.heap.size w) (Obj.cells #[.int .i64 a, .int .i64 b] 25)) (Obj.cells #[.int .i64 x1, .int .i64 y1, .int .i64 0] 83)) (Obj.cells #[.int .i64 x2, .int .i64 y2, .int .i64 e2] 83)) (Obj.cells #[.int .i64 x2, .int .i64 y2, .int .i64 e2] 83))⟩
  · have z1 : (e1 == 0) = false := beq_eq_false_iff_ne.2 hz1
    go_enter Tryz.func169, Tryz.ntmps169
    go_wp2_with fail
    refine (ptSlopeX a b x1 y1 e1 x2 y2 e2 _ hx1 hx2 (by omega) (by omega) hy).mono ?_; rintro e w1 ⟨⟨n, d, rfl, hd⟩, hb1⟩
    have S1 := Lib.hid (show w.heap.size + 4 ≤ w1.heap.size by have h9 := hb1.size; (try simp only [World.size_alloc, World.size_setCell, World.size_drew] at h9); omega)
    have NC := Lib.hid (((((Blk.new w 25 #[.int .i64 a, .int .i64 b]).alloc (Obj.cells #[.int .i64 x1, .int .i64 y1, .int .i64 e1] 83)).alloc (Obj.cells #[.int .i64 x2, .int .i64 y2, .int .i64 e2] 83)).alloc (Obj.cells #[.int .i64 0, .int .i64 0, .int .i64 0] 83)).on hb1)
    have NP1 := Lib.hid ((((show Blk (World.alloc (World.alloc w (Obj.cells #[.int .i64 a, .int .i64 b] 25)) (Obj.cells #[.int .i64 x1, .int .i64 y1, .int .i64 e1] 83)) (w.heap.size + 1) 83 #[.int .i64 x1, .int .i64 y1, .int .i64 e1] by have h9 := (Blk.new (World.alloc w (Obj.cells #[.int .i64 a, .int .i64 b] 25)) 83 #[.int .i64 x1, .int .i64 y1, .int .i64 e1]); (try simp only [World.size_alloc, World.size_setCell] at h9); exact h9).alloc (Obj.cells #[.int .i64 x2, .int .i64 y2, .int .i64 e2] 83)).alloc (Obj.cells #[.int .i64 0, .int .i64 0, .int .i64 0] 83)).on hb1)
    have NQ1 := Lib.hid (((show Blk (World.alloc (World.alloc (World.alloc w (Obj.cells #[.int .i64 a, .int .i64 b] 25)) (Obj.cells #[.int .i64 x1, .int .i64 y1, .int .i64 e1] 83)) (Obj.cells #[.int .i64 x2, .int .i64 y2, .int .i64 e2] 83)) (w.heap.size + 1 + 1) 83 #[.int .i64 x2, .int .i64 y2, .int .i64 e2] by have h9 := (Blk.new (World.alloc (World.alloc w (Obj.cells #[.int .i64 a, .int .i64 b] 25)) (Obj.cells #[.int .i64 x1, .int .i64 y1, .int .i64 e1] 83)) 83 #[.int .i64 x2, .int .i64 y2, .int .i64 e2]); (try simp only [World.size_alloc, World.size_setCell] at h9); exact h9).alloc (Obj.cells #[.int .i64 0, .int .i64 0, .int .i64 0] 83)).on hb1)
    have NR := Lib.hid ((show Blk (World.alloc (World.alloc (World.alloc (World.alloc w (Obj.cells #[.int .i64 a, .int .i64 b] 25)) (Obj.cells #[.int .i64 x1, .int .i64 y1, .int .i64 e1] 83)) (Obj.cells #[.int .i64 x2, .int .i64 y2, .int .i64 e2] 83)) (Obj.cells #[.int .i64 0, .int .i64 0, .int .i64 0] 83)) (w.heap.size + 1 + 1 + 1) 83 #[.int .i64 0, .int .i64 0, .int .i64 0] by have h9 := (Blk.new (World.alloc (World.alloc (World.alloc w (Obj.cells #[.int .i64 a, .int .i64 b] 25)) (Obj.cells #[.int .i64 x1, .int .i64 y1, .int .i64 e1] 83)) (Obj.cells #[.int .i64 x2, .int .i64 y2, .int .i64 e2] 83)) 83 #[.int .i64 0, .int .i64 0, .int .i64 0]); (try simp only [World.size_alloc, World.size_setCell] at h9); exact h9).on hb1)
    have C := NC; clear NC
    have P1 := NP1; clear NP1
    have Q1 := NQ1; clear NQ1
    have R := NR; clear NR
    have Hb1 := Lib.hid (bthen (bal (bal (bal (bal (Below.refl w.heap.size w) (Obj.cells #[.int .i64 a, .int .i64 b] 25)) (Obj.cells #[.int .i64 x1, .int .i64 y1, .int .i64 e1] 83)) (Obj.cells #[.int .i64 x2, .int .i64 y2, .int .i64 e2] 83)) (Obj.cells #[.int .i64 0, .int .i64 0, .int .i64 0] 83)) hb1)
    clear hb1
    by_cases hd0 : d = 0
    · have zd : (d == 0) = true := by rw [hd0]; simp
      have qR0 : w1.cell? ⟨w.heap.size + 1 + 1 + 1, 0, none⟩ = some (.int .i64 0) := R.out.cell 0
      have qR1 : w1.cell? ⟨w.heap.size + 1 + 1 + 1, 1, none⟩ = some (.int .i64 0) := R.out.cell 1
      have qR2 : w1.cell? ⟨w.heap.size + 1 + 1 + 1, 2, none⟩ = some (.int .i64 0) := R.out.cell 2
      have qRl := R.out.lt
      have qRf0 := R.out.frozen 0
      have qRf1 := R.out.frozen 1
      have qRf2 := R.out.frozen 2
      go_wp2
      clear qR0 qR1 qR2 qRl qRf0 qRf1 qRf2
      have R9R := (show Blk (World.setCell (World.setCell (World.setCell w1 ⟨w.heap.size + 1 + 1 + 1, 0, none⟩ (.int .i64 0)) ⟨w.heap.size + 1 + 1 + 1, 1, none⟩ (.int .i64 0)) ⟨w.heap.size + 1 + 1 + 1, 2, none⟩ (.int .i64 0)) (w.heap.size + 1 + 1 + 1) 83 #[.int .i64 0, .int .i64 0, .int .i64 0] by have h9 := (((R.out.set 0 (.int .i64 0)).set 1 (.int .i64 0)).set 2 (.int .i64 0)); simpa using h9)
      have kR0 := R9R.cell 0
      have kR1 := R9R.cell 1
      have kR2 := R9R.cell 2
      simp at kR0 kR1 kR2
      exact bodyPost_ret (v := .tuple #[.agg #[.int .i64 0, .int .i64 0, .int .i64 0], .bool true]) (by simp [results, Tryz.results169, go_sem, kR0, kR1, kR2]) rfl ⟨⟨_, _, _, _, rfl, ⟨by omega, by omega⟩, by omega, by omega⟩, (bst (bst (bst Hb1.out (p := ⟨w.heap.size + 1 + 1 + 1, 0, none⟩) (show w.heap.size ≤ w.heap.size + 1 + 1 + 1 by have := S1.out; (try simp only [World.size_alloc, World.size_setCell, World.size_drew]); omega) (.int .i64 0)) (p := ⟨w.heap.size + 1 + 1 + 1, 1, none⟩) (show w.heap.size ≤ w.heap.size + 1 + 1 + 1 by have := S1.out; (try simp only [World.size_alloc, World.size_setCell, World.size_drew]); omega) (.int .i64 0)) (p := ⟨w.heap.size + 1 + 1 + 1, 2, none⟩) (show w.heap.size ≤ w.heap.size + 1 + 1 + 1 by have := S1.out; (try simp only [World.size_alloc, World.size_setCell, World.size_drew]); omega) (.int .i64 0))⟩
    · have zd : (d == 0) = false := beq_eq_false_iff_ne.2 hd0
      have hd1 : 1 ≤ d := by omega
      clear hd
      by_cases hd8 : 8000 < d
      · have hd9 : decide (8000 < d) = true := decide_eq_true hd8
        have qR0 : w1.cell? ⟨w.heap.size + 1 + 1 + 1, 0, none⟩ = some (.int .i64 0) := R.out.cell 0
        have qR1 : w1.cell? ⟨w.heap.size + 1 + 1 + 1, 1, none⟩ = some (.int .i64 0) := R.out.cell 1
        have qR2 : w1.cell? ⟨w.heap.size + 1 + 1 + 1, 2, none⟩ = some (.int .i64 0) := R.out.cell 2
        have qRl := R.out.lt
        have qRf0 := R.out.frozen 0
        have qRf1 := R.out.frozen 1
        have qRf2 := R.out.frozen 2
        go_wp2
        clear qR0 qR1 qR2 qRl qRf0 qRf1 qRf2
        have R9R := (show Blk (World.setCell (World.setCell (World.setCell w1 ⟨w.heap.size + 1 + 1 + 1, 0, none⟩ (.int .i64 0)) ⟨w.heap.size + 1 + 1 + 1, 1, none⟩ (.int .i64 0)) ⟨w.heap.size + 1 + 1 + 1, 2, none⟩ (.int .i64 0)) (w.heap.size + 1 + 1 + 1) 83 #[.int .i64 0, .int .i64 0, .int .i64 0] by have h9 := (((R.out.set 0 (.int .i64 0)).set 1 (.int .i64 0)).set 2 (.int .i64 0)); simpa using h9)
        have kR0 := R9R.cell 0
        have kR1 := R9R.cell 1
        have kR2 := R9R.cell 2
        simp at kR0 kR1 kR2
        exact bodyPost_ret (v := .tuple #[.agg #[.int .i64 0, .int .i64 0, .int .i64 0], .bool false]) (by simp [results, Tryz.results169, go_sem, kR0, kR1, kR2]) rfl ⟨⟨_, _, _, _, rfl, ⟨by omega, by omega⟩, by omega, by omega⟩, (bst (bst (bst Hb1.out (p := ⟨w.heap.size + 1 + 1 + 1, 0, none⟩) (show w.heap.size ≤ w.heap.size + 1 + 1 + 1 by have := S1.out; (try simp only [World.size_alloc, World.size_setCell, World.size_drew]); omega) (.int .i64 0)) (p := ⟨w.heap.size + 1 + 1 + 1, 1, none⟩) (show w.heap.size ≤ w.heap.size + 1 + 1 + 1 by have := S1.out; (try simp only [World.size_alloc, World.size_setCell, World.size_drew]); omega) (.int .i64 0)) (p := ⟨w.heap.size + 1 + 1 + 1, 2, none⟩) (show w.heap.size ≤ w.heap.size + 1 + 1 + 1 by have := S1.out; (try simp only [World.size_alloc, World.size_setCell, World.size_drew]); omega) (.int .i64 0))⟩
      · have hd9 : decide (8000 < d) = false := decide_eq_false hd8
        go_wp2_with fail
        refine (absX n _).mono ?_; rintro e w2 ⟨⟨m, rfl⟩, hb2⟩
        have S2 := Lib.hid (show w1.heap.size + 0 ≤ w2.heap.size by have h9 := hb2.size; (try simp only [World.size_alloc, World.size_setCell, World.size_drew] at h9); omega)
        have NC := Lib.hid (C.out.on hb2)
        have NP1 := Lib.hid (P1.out.on hb2)
        have NQ1 := Lib.hid (Q1.out.on hb2)
        have NR := Lib.hid (R.out.on hb2)
        have C := NC; clear NC
        have P1 := NP1; clear NP1
        have Q1 := NQ1; clear NQ1
        have R := NR; clear NR
        have Hb2 := Lib.hid (bthen Hb1.out hb2)
        clear hb2
        by_cases hm : 200 * d < m
        · have hm9 : decide (200 * d < m) = true := decide_eq_true hm
          have qR0 : w2.cell? ⟨w.heap.size + 1 + 1 + 1, 0, none⟩ = some (.int .i64 0) := R.out.cell 0
          have qR1 : w2.cell? ⟨w.heap.size + 1 + 1 + 1, 1, none⟩ = some (.int .i64 0) := R.out.cell 1
          have qR2 : w2.cell? ⟨w.heap.size + 1 + 1 + 1, 2, none⟩ = some (.int .i64 0) := R.out.cell 2
          have qRl := R.out.lt
          have qRf0 := R.out.frozen 0
          have qRf1 := R.out.frozen 1
          have qRf2 := R.out.frozen 2
          go_wp2
          clear qR0 qR1 qR2 qRl qRf0 qRf1 qRf2
          have R9R := (show Blk (World.setCell (World.setCell (World.setCell w2 ⟨w.heap.size + 1 + 1 + 1, 0, none⟩ (.int .i64 0)) ⟨w.heap.size + 1 + 1 + 1, 1, none⟩ (.int .i64 0)) ⟨w.heap.size + 1 + 1 + 1, 2, none⟩ (.int .i64 0)) (w.heap.size + 1 + 1 + 1) 83 #[.int .i64 0, .int .i64 0, .int .i64 0] by have h9 := (((R.out.set 0 (.int .i64 0)).set 1 (.int .i64 0)).set 2 (.int .i64 0)); simpa using h9)
          have kR0 := R9R.cell 0
          have kR1 := R9R.cell 1
          have kR2 := R9R.cell 2
          simp at kR0 kR1 kR2
          exact bodyPost_ret (v := .tuple #[.agg #[.int .i64 0, .int .i64 0, .int .i64 0], .bool false]) (by simp [results, Tryz.results169, go_sem, kR0, kR1, kR2]) rfl ⟨⟨_, _, _, _, rfl, ⟨by omega, by omega⟩, by omega, by omega⟩, (bst (bst (bst Hb2.out (p := ⟨w.heap.size + 1 + 1 + 1, 0, none⟩) (show w.heap.size ≤ w.heap.size + 1 + 1 + 1 by have := S1.out; have := S2.out; (try simp only [World.size_alloc, World.size_setCell, World.size_drew]); omega) (.int .i64 0)) (p := ⟨w.heap.size + 1 + 1 + 1, 1, none⟩) (show w.heap.size ≤ w.heap.size + 1 + 1 + 1 by have := S1.out; have := S2.out; (try simp only [World.size_alloc, World.size_setCell, World.size_drew]); omega) (.int .i64 0)) (p := ⟨w.heap.size + 1 + 1 + 1, 2, none⟩) (show w.heap.size ≤ w.heap.size + 1 + 1 + 1 by have := S1.out; have := S2.out; (try simp only [World.size_alloc, World.size_setCell, World.size_drew]); omega) (.int .i64 0))⟩
        · have hm9 : decide (200 * d < m) = false := decide_eq_false hm
          obtain ⟨p1, p2⟩ := pos_mul (show 1 ≤ e1 by omega) (show e1 ≤ 20 by omega) (show 1 ≤ e1 by omega) (show e1 ≤ 20 by omega)
          obtain ⟨p3, p4⟩ := pos_mul (show 1 ≤ e2 by omega) (show e2 ≤ 20 by omega) (show 1 ≤ e2 by omega) (show e2 ≤ 20 by omega)
          have qP10 : w2.cell? ⟨w.heap.size + 1, 0, none⟩ = some (.int .i64 x1) := P1.out.cell 0
          have qP11 : w2.cell? ⟨w.heap.size + 1, 1, none⟩ = some (.int .i64 y1) := P1.out.cell 1
          have qP12 : w2.cell? ⟨w.heap.size + 1, 2, none⟩ = some (.int .i64 e1) := P1.out.cell 2
          have qP1l := P1.out.lt
          have qQ10 : w2.cell? ⟨w.heap.size + 1 + 1, 0, none⟩ = some (.int .i64 x2) := Q1.out.cell 0
          have qQ11 : w2.cell? ⟨w.heap.size + 1 + 1, 1, none⟩ = some (.int .i64 y2) := Q1.out.cell 1
          have qQ12 : w2.cell? ⟨w.heap.size + 1 + 1, 2, none⟩ = some (.int .i64 e2) := Q1.out.cell 2
          have qQ1l := Q1.out.lt
          go_wp2_with fail
          refine wp_region_tame (by kernel_rfl) (by kernel_rfl) (fun T _ W hT => ?_)
          have hx := hT.cell
          repeat (go_big_quiet_step ((first | fail)))
          refine wpQuiet_nil ?_
          intro tt
          clear hx
          have hb3 := hT.below tt
          generalize W tt = w3 at hb3 ⊢
          clear hT
          clear qP10 qP11 qP12 qP1l qQ10 qQ11 qQ12 qQ1l
          have S3 := Lib.hid (show w2.heap.size + 0 ≤ w3.heap.size by have h9 := hb3.size; (try simp only [World.size_alloc, World.size_setCell, World.size_drew] at h9); omega)
          have NC := Lib.hid (C.out.on hb3)
          have NP1 := Lib.hid (P1.out.on hb3)
          have NQ1 := Lib.hid (Q1.out.on hb3)
          have NR := Lib.hid (R.out.on hb3)
          have C := NC; clear NC
          have P1 := NP1; clear NP1
          have Q1 := NQ1; clear NQ1
          have R := NR; clear NR
          have Hb3 := Lib.hid (bthen Hb2.out hb3)
          clear hb3
          obtain ⟨A, hA⟩ : ∃ z, e1 * e1 = z := ⟨_, rfl⟩
          obtain ⟨B, hB⟩ : ∃ z, e2 * e2 = z := ⟨_, rfl⟩
          rw [hA] at p1 p2
          rw [hB] at p3 p4
          skip
          rw [hA, hB]
          clear hA hB
          have hd88 : d ≤ 8000 := by omega
          obtain ⟨p5, p6⟩ := pos_mul hd1 hd88 hd1 hd88
          obtain ⟨p7, p8⟩ := pos_mul p5 p6 p1 p2
          obtain ⟨p9, p10⟩ := pos_mul p7 p8 p3 p4
          have qP10 : w3.cell? ⟨w.heap.size + 1, 0, none⟩ = some (.int .i64 x1) := P1.out.cell 0
          have qP11 : w3.cell? ⟨w.heap.size + 1, 1, none⟩ = some (.int .i64 y1) := P1.out.cell 1
          have qP12 : w3.cell? ⟨w.heap.size + 1, 2, none⟩ = some (.int .i64 e1) := P1.out.cell 2
          have qP1l := P1.out.lt
          have qQ10 : w3.cell? ⟨w.heap.size + 1 + 1, 0, none⟩ = some (.int .i64 x2) := Q1.out.cell 0
          have qQ11 : w3.cell? ⟨w.heap.size + 1 + 1, 1, none⟩ = some (.int .i64 y2) := Q1.out.cell 1
          have qQ12 : w3.cell? ⟨w.heap.size + 1 + 1, 2, none⟩ = some (.int .i64 e2) := Q1.out.cell 2
          have qQ1l := Q1.out.lt
          go_wp2_with fail
          clear qP10 qP11 qP12 qP1l qQ10 qQ11 qQ12 qQ1l
          refine (ecPartX _ (d * d * A * B) _ (by omega) (by omega)).mono ?_; rintro e w4 ⟨⟨xx, dn, rfl, hn1, hn2⟩, hb4⟩
          have S4 := Lib.hid (show w3.heap.size + 0 ≤ w4.heap.size by have h9 := hb4.size; (try simp only [World.size_alloc, World.size_setCell, World.size_drew] at h9); omega)
          have NC := Lib.hid (C.out.on hb4)
          have NP1 := Lib.hid (P1.out.on hb4)
          have NQ1 := Lib.hid (Q1.out.on hb4)
          have NR := Lib.hid (R.out.on hb4)
          have C := NC; clear NC
          have P1 := NP1; clear NP1
          have Q1 := NQ1; clear NQ1
          have R := NR; clear NR
          have Hb4 := Lib.hid (bthen Hb3.out hb4)
          clear hb4
          go_wp2_with fail
          refine (frRootX dn _ (by omega)).mono ?_; rintro e w5 ⟨⟨r, rfl, hr0, hr1, hrr⟩, hb5⟩
          have S5 := Lib.hid (show w4.heap.size + 0 ≤ w5.heap.size by have h9 := hb5.size; (try simp only [World.size_alloc, World.size_setCell, World.size_drew] at h9); omega)
          have NC := Lib.hid (C.out.on hb5)
          have NP1 := Lib.hid (P1.out.on hb5)
          have NQ1 := Lib.hid (Q1.out.on hb5)
          have NR := Lib.hid (R.out.on hb5)
          have C := NC; clear NC
          have P1 := NP1; clear NP1
          have Q1 := NQ1; clear NQ1
          have R := NR; clear NR
          have Hb5 := Lib.hid (bthen Hb4.out hb5)
          clear hb5
          have hr2 : 0 ≤ r * r := Int.mul_nonneg hr0 hr0
          by_cases hre : r * r = dn
          · have hre1 : (r * r != dn) = false := by rw [hre]; simp
            have hre2 : (r * r == dn) = true := by rw [hre]; simp
            by_cases hr9 : 20 < r
            · have hr99 : decide (20 < r) = true := decide_eq_true hr9
              have qR0 : w5.cell? ⟨w.heap.size + 1 + 1 + 1, 0, none⟩ = some (.int .i64 0) := R.out.cell 0
              have qR1 : w5.cell? ⟨w.heap.size + 1 + 1 + 1, 1, none⟩ = some (.int .i64 0) := R.out.cell 1
              have qR2 : w5.cell? ⟨w.heap.size + 1 + 1 + 1, 2, none⟩ = some (.int .i64 0) := R.out.cell 2
              have qRl := R.out.lt
              have qRf0 := R.out.frozen 0
              have qRf1 := R.out.frozen 1
              have qRf2 := R.out.frozen 2
              go_wp2
              clear qR0 qR1 qR2 qRl qRf0 qRf1 qRf2
              have R9R := (show Blk (World.setCell (World.setCell (World.setCell w5 ⟨w.heap.size + 1 + 1 + 1, 0, none⟩ (.int .i64 0)) ⟨w.heap.size + 1 + 1 + 1, 1, none⟩ (.int .i64 0)) ⟨w.heap.size + 1 + 1 + 1, 2, none⟩ (.int .i64 0)) (w.heap.size + 1 + 1 + 1) 83 #[.int .i64 0, .int .i64 0, .int .i64 0] by have h9 := (((R.out.set 0 (.int .i64 0)).set 1 (.int .i64 0)).set 2 (.int .i64 0)); simpa using h9)
              have kR0 := R9R.cell 0
              have kR1 := R9R.cell 1
              have kR2 := R9R.cell 2
              simp at kR0 kR1 kR2
              exact bodyPost_ret (v := .tuple #[.agg #[.int .i64 0, .int .i64 0, .int .i64 0], .bool false]) (by simp [results, Tryz.results169, go_sem, kR0, kR1, kR2]) rfl ⟨⟨_, _, _, _, rfl, ⟨by omega, by omega⟩, by omega, by omega⟩, (bst (bst (bst Hb5.out (p := ⟨w.heap.size + 1 + 1 + 1, 0, none⟩) (show w.heap.size ≤ w.heap.size + 1 + 1 + 1 by have := S1.out; have := S2.out; have := S3.out; have := S4.out; have := S5.out; (try simp only [World.size_alloc, World.size_setCell, World.size_drew]); omega) (.int .i64 0)) (p := ⟨w.heap.size + 1 + 1 + 1, 1, none⟩) (show w.heap.size ≤ w.heap.size + 1 + 1 + 1 by have := S1.out; have := S2.out; have := S3.out; have := S4.out; have := S5.out; (try simp only [World.size_alloc, World.size_setCell, World.size_drew]); omega) (.int .i64 0)) (p := ⟨w.heap.size + 1 + 1 + 1, 2, none⟩) (show w.heap.size ≤ w.heap.size + 1 + 1 + 1 by have := S1.out; have := S2.out; have := S3.out; have := S4.out; have := S5.out; (try simp only [World.size_alloc, World.size_setCell, World.size_drew]); omega) (.int .i64 0))⟩
            · have hr99 : decide (20 < r) = false := decide_eq_false hr9
              have hr3 : 1 ≤ r := sq_pos hr0 hre hn1
              cases hin : insB xx (-10000) 10000
              · have Hin := Lib.hid hin; clear hin
                go_wp2_with fail
                refine (l1In_lit Hin.out _).mono ?_; rintro e w6 ⟨rfl, hb6⟩
                have S6 := Lib.hid (show w5.heap.size + 0 ≤ w6.heap.size by have h9 := hb6.size; (try simp only [World.size_alloc, World.size_setCell, World.size_drew] at h9); omega)
                have NC := Lib.hid (C.out.on hb6)
                have NP1 := Lib.hid (P1.out.on hb6)
                have NQ1 := Lib.hid (Q1.out.on hb6)
                have NR := Lib.hid (R.out.on hb6)
                have C := NC; clear NC
                have P1 := NP1; clear NP1
                have Q1 := NQ1; clear NQ1
                have R := NR; clear NR
                have Hb6 := Lib.hid (bthen Hb5.out hb6)
                clear hb6
                have qR0 : w6.cell? ⟨w.heap.size + 1 + 1 + 1, 0, none⟩ = some (.int .i64 0) := R.out.cell 0
                have qR1 : w6.cell? ⟨w.heap.size + 1 + 1 + 1, 1, none⟩ = some (.int .i64 0) := R.out.cell 1
                have qR2 : w6.cell? ⟨w.heap.size + 1 + 1 + 1, 2, none⟩ = some (.int .i64 0) := R.out.cell 2
                have qRl := R.out.lt
                have qRf0 := R.out.frozen 0
                have qRf1 := R.out.frozen 1
                have qRf2 := R.out.frozen 2
                go_wp2
                clear qR0 qR1 qR2 qRl qRf0 qRf1 qRf2
                have R9R := (show Blk (World.setCell (World.setCell (World.setCell w6 ⟨w.heap.size + 1 + 1 + 1, 0, none⟩ (.int .i64 0)) ⟨w.heap.size + 1 + 1 + 1, 1, none⟩ (.int .i64 0)) ⟨w.heap.size + 1 + 1 + 1, 2, none⟩ (.int .i64 0)) (w.heap.size + 1 + 1 + 1) 83 #[.int .i64 0, .int .i64 0, .int .i64 0] by have h9 := (((R.out.set 0 (.int .i64 0)).set 1 (.int .i64 0)).set 2 (.int .i64 0)); simpa using h9)
                have kR0 := R9R.cell 0
                have kR1 := R9R.cell 1
                have kR2 := R9R.cell 2
                simp at kR0 kR1 kR2
                exact bodyPost_ret (v := .tuple #[.agg #[.int .i64 0, .int .i64 0, .int .i64 0], .bool false]) (by simp [results, Tryz.results169, go_sem, kR0, kR1, kR2]) rfl ⟨⟨_, _, _, _, rfl, ⟨by omega, by omega⟩, by omega, by omega⟩, (bst (bst (bst Hb6.out (p := ⟨w.heap.size + 1 + 1 + 1, 0, none⟩) (show w.heap.size ≤ w.heap.size + 1 + 1 + 1 by have := S1.out; have := S2.out; have := S3.out; have := S4.out; have := S5.out; have := S6.out; (try simp only [World.size_alloc, World.size_setCell, World.size_drew]); omega) (.int .i64 0)) (p := ⟨w.heap.size + 1 + 1 + 1, 1, none⟩) (show w.heap.size ≤ w.heap.size + 1 + 1 + 1 by have := S1.out; have := S2.out; have := S3.out; have := S4.out; have := S5.out; have := S6.out; (try simp only [World.size_alloc, World.size_setCell, World.size_drew]); omega) (.int .i64 0)) (p := ⟨w.heap.size + 1 + 1 + 1, 2, none⟩) (show w.heap.size ≤ w.heap.size + 1 + 1 + 1 by have := S1.out; have := S2.out; have := S3.out; have := S4.out; have := S5.out; have := S6.out; (try simp only [World.size_alloc, World.size_setCell, World.size_drew]); omega) (.int .i64 0))⟩
              · have hxx := insB_true hin
                have Hin := Lib.hid hin; clear hin
                go_wp2_with fail
                refine (l1In_lit Hin.out _).mono ?_; rintro e w7 ⟨rfl, hb7⟩
                have S7 := Lib.hid (show w5.heap.size + 0 ≤ w7.heap.size by have h9 := hb7.size; (try simp only [World.size_alloc, World.size_setCell, World.size_drew] at h9); omega)
                have NC := Lib.hid (C.out.on hb7)
                have NP1 := Lib.hid (P1.out.on hb7)
                have NQ1 := Lib.hid (Q1.out.on hb7)
                have NR := Lib.hid (R.out.on hb7)
                have C := NC; clear NC
                have P1 := NP1; clear NP1
                have Q1 := NQ1; clear NQ1
                have R := NR; clear NR
                have Hb7 := Lib.hid (bthen Hb5.out hb7)
                clear hb7
                clear hre1 hre2 hre hr2 hrr
                have hr20 : r ≤ 20 := by omega
                obtain ⟨s1, s2⟩ := pos_mul hd1 hd88 p1 p2
                obtain ⟨s3, s4⟩ := pos_mul s1 s2 hr3 hr20
                obtain ⟨s5, s6⟩ := pos_mul s3 s4 hr3 hr20
                have qP10 : w7.cell? ⟨w.heap.size + 1, 0, none⟩ = some (.int .i64 x1) := P1.out.cell 0
                have qP11 : w7.cell? ⟨w.heap.size + 1, 1, none⟩ = some (.int .i64 y1) := P1.out.cell 1
                have qP12 : w7.cell? ⟨w.heap.size + 1, 2, none⟩ = some (.int .i64 e1) := P1.out.cell 2
                have qP1l := P1.out.lt
                have qQ10 : w7.cell? ⟨w.heap.size + 1 + 1, 0, none⟩ = some (.int .i64 x2) := Q1.out.cell 0
                have qQ11 : w7.cell? ⟨w.heap.size + 1 + 1, 1, none⟩ = some (.int .i64 y2) := Q1.out.cell 1
                have qQ12 : w7.cell? ⟨w.heap.size + 1 + 1, 2, none⟩ = some (.int .i64 e2) := Q1.out.cell 2
                have qQ1l := Q1.out.lt
                go_wp2_with fail
                clear qP10 qP11 qP12 qP1l qQ10 qQ11 qQ12 qQ1l
                refine (ecPartX _ (d * A * r * r) _ (by omega) (by omega)).mono ?_; rintro e w8 ⟨⟨up, un, rfl, hu1, hu2⟩, hb8⟩
                have S8 := Lib.hid (show w7.heap.size + 0 ≤ w8.heap.size by have h9 := hb8.size; (try simp only [World.size_alloc, World.size_setCell, World.size_drew] at h9); omega)
                have NC := Lib.hid (C.out.on hb8)
                have NP1 := Lib.hid (P1.out.on hb8)
                have NQ1 := Lib.hid (Q1.out.on hb8)
                have NR := Lib.hid (R.out.on hb8)
                have C := NC; clear NC
                have P1 := NP1; clear NP1
                have Q1 := NQ1; clear NQ1
                have R := NR; clear NR
                have Hb8 := Lib.hid (bthen Hb7.out hb8)
                clear hb8
                have hu3 : un ≤ 1280000000 := by omega
                obtain ⟨s7, s8⟩ := pos_mul hu1 hu3 p1 p2
                obtain ⟨s9, s10⟩ := pos_mul s7 s8 (show 1 ≤ e1 by omega) (show e1 ≤ 20 by omega)
                have qP10 : w8.cell? ⟨w.heap.size + 1, 0, none⟩ = some (.int .i64 x1) := P1.out.cell 0
                have qP11 : w8.cell? ⟨w.heap.size + 1, 1, none⟩ = some (.int .i64 y1) := P1.out.cell 1
                have qP12 : w8.cell? ⟨w.heap.size + 1, 2, none⟩ = some (.int .i64 e1) := P1.out.cell 2
                have qP1l := P1.out.lt
                have qQ10 : w8.cell? ⟨w.heap.size + 1 + 1, 0, none⟩ = some (.int .i64 x2) := Q1.out.cell 0
                have qQ11 : w8.cell? ⟨w.heap.size + 1 + 1, 1, none⟩ = some (.int .i64 y2) := Q1.out.cell 1
                have qQ12 : w8.cell? ⟨w.heap.size + 1 + 1, 2, none⟩ = some (.int .i64 e2) := Q1.out.cell 2
                have qQ1l := Q1.out.lt
                go_wp2_with fail
                clear qP10 qP11 qP12 qP1l qQ10 qQ11 qQ12 qQ1l
                refine (ecPartX _ (un * A * e1) _ (by omega) (by omega)).mono ?_; rintro e w9 ⟨⟨yy, bo, rfl, hbo1, hbo2⟩, hb9⟩
                have S9 := Lib.hid (show w8.heap.size + 0 ≤ w9.heap.size by have h9 := hb9.size; (try simp only [World.size_alloc, World.size_setCell, World.size_drew] at h9); omega)
                have NC := Lib.hid (C.out.on hb9)
                have NP1 := Lib.hid (P1.out.on hb9)
                have NQ1 := Lib.hid (Q1.out.on hb9)
                have NR := Lib.hid (R.out.on hb9)
                have C := NC; clear NC
                have P1 := NP1; clear NP1
                have Q1 := NQ1; clear NQ1
                have R := NR; clear NR
                have Hb9 := Lib.hid (bthen Hb8.out hb9)
                clear hb9
                clear hu2 hu3 hn1 hn2
                obtain ⟨t1, t2⟩ := pos_mul hr3 hr20 hr3 hr20
                obtain ⟨t3, t4⟩ := pos_mul t1 t2 hr3 hr20
                have hbo0 : ¬ bo = 0 := by omega
                have ht9 := tdiv_bd (a := r * r * r) (g := bo) (B := 8000) (by omega) (by omega)
                obtain ⟨g, hg⟩ : ∃ z, (r * r * r).tdiv bo = z := ⟨_, rfl⟩
                rw [hg] at ht9
                obtain ⟨t5, t6⟩ := ht9
                have hwg : IntKind.i64.wrap g = g := by rw [IntKind.wrap_i64]; omega
                have hg2 : r * r * r / bo = g := by rw [← Int.tdiv_eq_ediv_of_nonneg (by omega)]; exact hg
                obtain ⟨Y, hY⟩ : ∃ z, wrap64 (yy * g) = z := ⟨_, rfl⟩
                have qR0 : w9.cell? ⟨w.heap.size + 1 + 1 + 1, 0, none⟩ = some (.int .i64 0) := R.out.cell 0
                have qR1 : w9.cell? ⟨w.heap.size + 1 + 1 + 1, 1, none⟩ = some (.int .i64 0) := R.out.cell 1
                have qR2 : w9.cell? ⟨w.heap.size + 1 + 1 + 1, 2, none⟩ = some (.int .i64 0) := R.out.cell 2
                have qRl := R.out.lt
                have qRf0 := R.out.frozen 0
                have qRf1 := R.out.frozen 1
                have qRf2 := R.out.frozen 2
                go_wp2
                clear qR0 qR1 qR2 qRl qRf0 qRf1 qRf2
                have R9R := (show Blk (World.setCell (World.setCell (World.setCell w9 ⟨w.heap.size + 1 + 1 + 1, 0, none⟩ (.int .i64 xx)) ⟨w.heap.size + 1 + 1 + 1, 1, none⟩ (.int .i64 Y)) ⟨w.heap.size + 1 + 1 + 1, 2, none⟩ (.int .i64 r)) (w.heap.size + 1 + 1 + 1) 83 #[.int .i64 xx, .int .i64 Y, .int .i64 r] by have h9 := (((R.out.set 0 (.int .i64 xx)).set 1 (.int .i64 Y)).set 2 (.int .i64 r)); simpa using h9)
                have kR0 := R9R.cell 0
                have kR1 := R9R.cell 1
                have kR2 := R9R.cell 2
                simp at kR0 kR1 kR2
                exact bodyPost_ret (v := .tuple #[.agg #[.int .i64 xx, .int .i64 Y, .int .i64 r], .bool true]) (by simp [results, Tryz.results169, go_sem, kR0, kR1, kR2]) rfl ⟨⟨_, _, _, _, rfl, ⟨by omega, by omega⟩, by omega, by omega⟩, (bst (bst (bst Hb9.out (p := ⟨w.heap.size + 1 + 1 + 1, 0, none⟩) (show w.heap.size ≤ w.heap.size + 1 + 1 + 1 by have := S1.out; have := S2.out; have := S3.out; have := S4.out; have := S5.out; have := S7.out; have := S8.out; have := S9.out; (try simp only [World.size_alloc, World.size_setCell, World.size_drew]); omega) (.int .i64 xx)) (p := ⟨w.heap.size + 1 + 1 + 1, 1, none⟩) (show w.heap.size ≤ w.heap.size + 1 + 1 + 1 by have := S1.out; have := S2.out; have := S3.out; have := S4.out; have := S5.out; have := S7.out; have := S8.out; have := S9.out; (try simp only [World.size_alloc, World.size_setCell, World.size_drew]); omega) (.int .i64 Y)) (p := ⟨w.heap.size + 1 + 1 + 1, 2, none⟩) (show w.heap.size ≤ w.heap.size + 1 + 1 + 1 by have := S1.out; have := S2.out; have := S3.out; have := S4.out; have := S5.out; have := S7.out; have := S8.out; have := S9.out; (try simp only [World.size_alloc, World.size_setCell, World.size_drew]); omega) (.int .i64 r))⟩
          · have hre1 : (r * r != dn) = true := bne_iff_ne.2 hre
            have hre2 : (r * r == dn) = false := beq_eq_false_iff_ne.2 hre
            have qR0 : w5.cell? ⟨w.heap.size + 1 + 1 + 1, 0, none⟩ = some (.int .i64 0) := R.out.cell 0
            have qR1 : w5.cell? ⟨w.heap.size + 1 + 1 + 1, 1, none⟩ = some (.int .i64 0) := R.out.cell 1
            have qR2 : w5.cell? ⟨w.heap.size + 1 + 1 + 1, 2, none⟩ = some (.int .i64 0) := R.out.cell 2
            have qRl := R.out.lt
            have qRf0 := R.out.frozen 0
            have qRf1 := R.out.frozen 1
            have qRf2 := R.out.frozen 2
            go_wp2
            clear qR0 qR1 qR2 qRl qRf0 qRf1 qRf2
            have R9R := (show Blk (World.setCell (World.setCell (World.setCell w5 ⟨w.heap.size + 1 + 1 + 1, 0, none⟩ (.int .i64 0)) ⟨w.heap.size + 1 + 1 + 1, 1, none⟩ (.int .i64 0)) ⟨w.heap.size + 1 + 1 + 1, 2, none⟩ (.int .i64 0)) (w.heap.size + 1 + 1 + 1) 83 #[.int .i64 0, .int .i64 0, .int .i64 0] by have h9 := (((R.out.set 0 (.int .i64 0)).set 1 (.int .i64 0)).set 2 (.int .i64 0)); simpa using h9)
            have kR0 := R9R.cell 0
            have kR1 := R9R.cell 1
            have kR2 := R9R.cell 2
            simp at kR0 kR1 kR2
            exact bodyPost_ret (v := .tuple #[.agg #[.int .i64 0, .int .i64 0, .int .i64 0], .bool false]) (by simp [results, Tryz.results169, go_sem, kR0, kR1, kR2]) rfl ⟨⟨_, _, _, _, rfl, ⟨by omega, by omega⟩, by omega, by omega⟩, (bst (bst (bst Hb5.out (p := ⟨w.heap.size + 1 + 1 + 1, 0, none⟩) (show w.heap.size ≤ w.heap.size + 1 + 1 + 1 by have := S1.out; have := S2.out; have := S3.out; have := S4.out; have := S5.out; (try simp only [World.size_alloc, World.size_setCell, World.size_drew]); omega) (.int .i64 0)) (p := ⟨w.heap.size + 1 + 1 + 1, 1, none⟩) (show w.heap.size ≤ w.heap.size + 1 + 1 + 1 by have := S1.out; have := S2.out; have := S3.out; have := S4.out; have := S5.out; (try simp only [World.size_alloc, World.size_setCell, World.size_drew]); omega) (.int .i64 0)) (p := ⟨w.heap.size + 1 + 1 + 1, 2, none⟩) (show w.heap.size ≤ w.heap.size + 1 + 1 + 1 by have := S1.out; have := S2.out; have := S3.out; have := S4.out; have := S5.out; (try simp only [World.size_alloc, World.size_setCell, World.size_drew]); omega) (.int .i64 0))⟩
end
section
open Go Go.RowKit

set_option linter.unusedSimpArgs false in
set_option linter.unusedVariables false in
set_option maxRecDepth 8000 in
set_option maxHeartbeats 8000000 in
theorem ptTimesX (a b x y q : Int) (n : Nat) (w : World) (hx : -10000 ≤ x ∧ x ≤ 10000) (hq : 1 ≤ q ∧ q ≤ 20) (hy : -1000000 ≤ y ∧ y ≤ 1000000) (hn : n ≤ 12) :
    Calls Tryz.prog 121 #[.agg #[.int .i64 a, .int .i64 b], .agg #[.int .i64 x, .int .i64 y, .int .i64 q], .int .i64 (n : Int)] w fun e w' => (∃ (x y q : Int) (ok : Bool), e = .returned (.tuple #[.agg #[.int .i64 x, .int .i64 y, .int .i64 q], .bool ok]) ∧ (-10000 ≤ x ∧ x ≤ 10000) ∧ 0 ≤ q ∧ q ≤ 20) ∧ Below w.heap.size w w' := by
  have hn0 : decide ((n : Int) < 0) = false := decide_eq_false (by omega)
  go_enter Tryz.func121, Tryz.ntmps121
  go_wp2
  go_loopw [2] (fun t wr => ∃ (k : Nat) (u v s : Int), t = .int .i64 (k : Int) ∧ k ≤ 12 ∧ (-10000 ≤ u ∧ u ≤ 10000) ∧ (0 ≤ s ∧ s ≤ 20) ∧ Hid (Blk wr (w.heap.size) 25 #[.int .i64 a, .int .i64 b]) ∧ Hid (Blk wr (w.heap.size + 1) 83 #[.int .i64 x, .int .i64 y, .int .i64 q]) ∧ Hid (Blk wr (w.heap.size + 1 + 1) 83 #[.int .i64 0, .int .i64 0, .int .i64 0]) ∧ Hid (Blk wr (w.heap.size + 1 + 1 + 1) 83 #[.int .i64 u, .int .i64 v, .int .i64 s]) ∧ Hid (Below w.heap.size w wr)) (fun t _ => (intOf t).toNat)
  case atStart => exact ⟨n, 0, 0, 0, rfl, hn, by omega, by omega, Lib.hid ((((Blk.new w 25 #[.int .i64 a, .int .i64 b]).alloc (Obj.cells #[.int .i64 x, .int .i64 y, .int .i64 q] 83)).alloc (Obj.cells #[.int .i64 0, .int .i64 0, .int .i64 0] 83)).alloc (Obj.cells #[.int .i64 0, .int .i64 0, .int .i64 0] 83)), Lib.hid (((show Blk (World.alloc (World.alloc w (Obj.cells #[.int .i64 a, .int .i64 b] 25)) (Obj.cells #[.int .i64 x, .int .i64 y, .int .i64 q] 83)) (w.heap.size + 1) 83 #[.int .i64 x, .int .i64 y, .int .i64 q] by have h9 := (Blk.new (World.alloc w (Obj.cells #[.int .i64 a, .int .i64 b] 25)) 83 #[.int .i64 x, .int .i64 y, .int .i64 q]); (try simp only [World.size_alloc, World.size_setCell] at h9); exact h9).alloc (Obj.cells #[.int .i64 0, .int .i64 0, .int .i64 0] 83)).alloc (Obj.cells #[.int .i64 0, .int .i64 0, .int .i64 0] 83)), Lib.hid ((show Blk (World.alloc (World.alloc (World.alloc w (Obj.cells #[.int .i64 a, .int .i64 b] 25)) (Obj.cells #[.int .i64 x, .int .i64 y, .int .i64 q] 83)) (Obj.cells #[.int .i64 0, .int .i64 0, .int .i64 0] 83)) (w.heap.size + 1 + 1) 83 #[.int .i64 0, .int .i64 0, .int .i64 0] by have h9 := (Blk.new (World.alloc (World.alloc w (Obj.cells #[.int .i64 a, .int .i64 b] 25)) (Obj.cells #[.int .i64 x, .int .i64 y, .int .i64 q] 83)) 83 #[.int .i64 0, .int .i64 0, .int .i64 0]); (try simp only [World.size_alloc, World.size_setCell] at h9); exact h9).alloc (Obj.cells #[.int .i64 0, .int .i64 0, .int .i64 0] 83)), Lib.hid (show Blk (World.alloc (World.alloc (World.alloc (World.alloc w (Obj.cells #[.int .i64 a, .int .i64 b] 25)) (Obj.cells #[.int .i64 x, .int .i64 y, .int .i64 q] 83)) (Obj.cells #[.int .i64 0, .int .i64 0, .int .i64 0] 83)) (Obj.cells #[.int .i64 0, .int .i64 0, .int .i64 0] 83)) (w.heap.size + 1 + 1 + 1) 83 #[.int .i64 0, .int .i64 0, .int .i64 0] by have h9 := (Blk.new (World.alloc (World.alloc (World.alloc w (Obj.cells #[.int .i64 a, .int .i64 b] 25)) (Obj.cells #[.int .i64 x, .int .i64 y, .int .i64 q] 83)) (Obj.cells #[.int .i64 0, .int .i64 0, .int .i64 0] 83)) 83 #[.int .i64 0, .int .i64 0, .int .i64 0]); (try simp only [World.size_alloc, World.size_setCell] at h9); exact h9), Lib.hid (bal (bal (bal (bal (Below.refl w.heap.size w) (Obj.cells #[.int .i64 a, .int .i64 b] 25)) (Obj.cells #[.int .i64 x, .int .i64 y, .int .i64 q] 83)) (Obj.cells #[.int .i64 0, .int .i64 0, .int .i64 0] 83)) (Obj.cells #[.int .i64 0, .int .i64 0, .int .i64 0] 83))⟩
  case round =>
    obtain ⟨k, u, v, s, rfl, hk, hu, hs, C, P1, R, O, HbR⟩ := hrel
    clear hn hn0
    rcases Nat.eq_zero_or_pos k with h0 | h0
    · subst h0
      have qO0 : wr.cell? ⟨(w.heap.size + 1 + 1 + 1), 0, none⟩ = some (.int .i64 u) := O.out.cell 0
      have qO1 : wr.cell? ⟨(w.heap.size + 1 + 1 + 1), 1, none⟩ = some (.int .i64 v) := O.out.cell 1
      have qO2 : wr.cell? ⟨(w.heap.size + 1 + 1 + 1), 2, none⟩ = some (.int .i64 s) := O.out.cell 2
      have qOl := O.out.lt
      have qR0 : wr.cell? ⟨(w.heap.size + 1 + 1), 0, none⟩ = some (.int .i64 0) := R.out.cell 0
      have qR1 : wr.cell? ⟨(w.heap.size + 1 + 1), 1, none⟩ = some (.int .i64 0) := R.out.cell 1
      have qR2 : wr.cell? ⟨(w.heap.size + 1 + 1), 2, none⟩ = some (.int .i64 0) := R.out.cell 2
      have qRl := R.out.lt
      have qRf0 := R.out.frozen 0
      have qRf1 := R.out.frozen 1
      have qRf2 := R.out.frozen 2
      have nOR : (w.heap.size + 1 + 1 + 1) ≠ (w.heap.size + 1 + 1) := by skip; (try simp only [World.size_alloc, World.size_setCell, World.size_drew]); omega
      have nRO : (w.heap.size + 1 + 1) ≠ (w.heap.size + 1 + 1 + 1) := fun e => nOR e.symm
      go_wp2
      clear qO0 qO1 qO2 qOl qR0 qR1 qR2 qRl qRf0 qRf1 qRf2 nOR nRO
      have R9R := (show Blk (World.setCell (World.setCell (World.setCell wr ⟨(w.heap.size + 1 + 1), 0, none⟩ (.int .i64 u)) ⟨(w.heap.size + 1 + 1), 1, none⟩ (.int .i64 v)) ⟨(w.heap.size + 1 + 1), 2, none⟩ (.int .i64 s)) ((w.heap.size + 1 + 1)) 83 #[.int .i64 u, .int .i64 v, .int .i64 s] by have h9 := (((R.out.set 0 (.int .i64 u)).set 1 (.int .i64 v)).set 2 (.int .i64 s)); simpa using h9)
      have kR0 := R9R.cell 0
      have kR1 := R9R.cell 1
      have kR2 := R9R.cell 2
      simp at kR0 kR1 kR2
      exact bodyPost_ret (v := .tuple #[.agg #[.int .i64 u, .int .i64 v, .int .i64 s], .bool true]) (by simp [results, Tryz.results121, go_sem, kR0, kR1, kR2]) rfl ⟨⟨_, _, _, _, rfl, hu, hs⟩, (bst (bst (bst HbR.out (p := ⟨(w.heap.size + 1 + 1), 0, none⟩) (show w.heap.size ≤ (w.heap.size + 1 + 1) by skip; (try simp only [World.size_alloc, World.size_setCell, World.size_drew]); omega) (.int .i64 u)) (p := ⟨(w.heap.size + 1 + 1), 1, none⟩) (show w.heap.size ≤ (w.heap.size + 1 + 1) by skip; (try simp only [World.size_alloc, World.size_setCell, World.size_drew]); omega) (.int .i64 v)) (p := ⟨(w.heap.size + 1 + 1), 2, none⟩) (show w.heap.size ≤ (w.heap.size + 1 + 1) by skip; (try simp only [World.size_alloc, World.size_setCell, World.size_drew]); omega) (.int .i64 s))⟩
    · have hd0 : decide ((0 : Int) < (k : Int)) = true := decide_eq_true (by omega)
      have qC0 : wr.cell? ⟨w.heap.size, 0, none⟩ = some (.int .i64 a) := C.out.cell 0
      have qC1 : wr.cell? ⟨w.heap.size, 1, none⟩ = some (.int .i64 b) := C.out.cell 1
      have qCl := C.out.lt
      have qO0 : wr.cell? ⟨(w.heap.size + 1 + 1 + 1), 0, none⟩ = some (.int .i64 u) := O.out.cell 0
      have qO1 : wr.cell? ⟨(w.heap.size + 1 + 1 + 1), 1, none⟩ = some (.int .i64 v) := O.out.cell 1
      have qO2 : wr.cell? ⟨(w.heap.size + 1 + 1 + 1), 2, none⟩ = some (.int .i64 s) := O.out.cell 2
      have qOl := O.out.lt
      have qP10 : wr.cell? ⟨(w.heap.size + 1), 0, none⟩ = some (.int .i64 x) := P1.out.cell 0
      have qP11 : wr.cell? ⟨(w.heap.size + 1), 1, none⟩ = some (.int .i64 y) := P1.out.cell 1
      have qP12 : wr.cell? ⟨(w.heap.size + 1), 2, none⟩ = some (.int .i64 q) := P1.out.cell 2
      have qP1l := P1.out.lt
      go_wp2_with fail
      clear qC0 qC1 qCl qO0 qO1 qO2 qOl qP10 qP11 qP12 qP1l
      refine (ptAddX a b u v s x y q _ hu hx hs hq hy).mono ?_; rintro e w1 ⟨⟨u2, v2, s2, ok, rfl, hu2, hs2⟩, hb1⟩
      have S1 := Lib.hid (show wr.heap.size + 0 ≤ w1.heap.size by have h9 := hb1.size; (try simp only [World.size_alloc, World.size_setCell, World.size_drew] at h9); omega)
      have NC := Lib.hid (C.out.on hb1)
      have NP1 := Lib.hid (P1.out.on hb1)
      have NR := Lib.hid (R.out.on hb1)
      have NO := Lib.hid (O.out.on hb1)
      have C := NC; clear NC
      have P1 := NP1; clear NP1
      have R := NR; clear NR
      have O := NO; clear NO
      have Hb1 := Lib.hid (bthen HbR.out hb1)
      clear hb1
      cases ok
      · have qR0 : w1.cell? ⟨(w.heap.size + 1 + 1), 0, none⟩ = some (.int .i64 0) := R.out.cell 0
        have qR1 : w1.cell? ⟨(w.heap.size + 1 + 1), 1, none⟩ = some (.int .i64 0) := R.out.cell 1
        have qR2 : w1.cell? ⟨(w.heap.size + 1 + 1), 2, none⟩ = some (.int .i64 0) := R.out.cell 2
        have qRl := R.out.lt
        have qRf0 := R.out.frozen 0
        have qRf1 := R.out.frozen 1
        have qRf2 := R.out.frozen 2
        go_wp2
        clear qR0 qR1 qR2 qRl qRf0 qRf1 qRf2
        have R9R := (show Blk (World.alloc (World.setCell (World.setCell (World.setCell w1 ⟨(w.heap.size + 1 + 1), 0, none⟩ (.int .i64 0)) ⟨(w.heap.size + 1 + 1), 1, none⟩ (.int .i64 0)) ⟨(w.heap.size + 1 + 1), 2, none⟩ (.int .i64 0)) (Obj.cells #[.int .i64 u2, .int .i64 v2, .int .i64 s2] 83)) ((w.heap.size + 1 + 1)) 83 #[.int .i64 0, .int .i64 0, .int .i64 0] by have h9 := ((((R.out.set 0 (.int .i64 0)).set 1 (.int .i64 0)).set 2 (.int .i64 0)).alloc (Obj.cells #[.int .i64 u2, .int .i64 v2, .int .i64 s2] 83)); simpa using h9)
        have kR0 := R9R.cell 0
        have kR1 := R9R.cell 1
        have kR2 := R9R.cell 2
        simp at kR0 kR1 kR2
        exact bodyPost_ret (v := .tuple #[.agg #[.int .i64 0, .int .i64 0, .int .i64 0], .bool false]) (by simp [results, Tryz.results121, go_sem, kR0, kR1, kR2]) rfl ⟨⟨0, 0, 0, _, rfl, by omega, by omega⟩, (bal (bst (bst (bst Hb1.out (p := ⟨(w.heap.size + 1 + 1), 0, none⟩) (show w.heap.size ≤ (w.heap.size + 1 + 1) by have := S1.out; (try simp only [World.size_alloc, World.size_setCell, World.size_drew]); omega) (.int .i64 0)) (p := ⟨(w.heap.size + 1 + 1), 1, none⟩) (show w.heap.size ≤ (w.heap.size + 1 + 1) by have := S1.out; (try simp only [World.size_alloc, World.size_setCell, World.size_drew]); omega) (.int .i64 0)) (p := ⟨(w.heap.size + 1 + 1), 2, none⟩) (show w.heap.size ≤ (w.heap.size + 1 + 1) by have := S1.out; (try simp only [World.size_alloc, World.size_setCell, World.size_drew]); omega) (.int .i64 0)) (Obj.cells #[.int .i64 u2, .int .i64 v2, .int .i64 s2] 83))⟩
      · have qO0 : w1.cell? ⟨(w.heap.size + 1 + 1 + 1), 0, none⟩ = some (.int .i64 u) := O.out.cell 0
        have qO1 : w1.cell? ⟨(w.heap.size + 1 + 1 + 1), 1, none⟩ = some (.int .i64 v) := O.out.cell 1
        have qO2 : w1.cell? ⟨(w.heap.size + 1 + 1 + 1), 2, none⟩ = some (.int .i64 s) := O.out.cell 2
        have qOl := O.out.lt
        have qOf0 := O.out.frozen 0
        have qOf1 := O.out.frozen 1
        have qOf2 := O.out.frozen 2
        go_wp2
        clear qO0 qO1 qO2 qOl qOf0 qOf1 qOf2
        go_roundw
        case rel => exact ⟨k - 1, u2, v2, s2, by go_num, by omega, hu2, hs2, Lib.hid ((((C.out.far (p := ⟨(w.heap.size + 1 + 1 + 1), 0, none⟩) (show w.heap.size ≠ (w.heap.size + 1 + 1 + 1) by have := S1.out; (try simp only [World.size_alloc, World.size_setCell, World.size_drew]); omega) (.int .i64 u2)).far (p := ⟨(w.heap.size + 1 + 1 + 1), 1, none⟩) (show w.heap.size ≠ (w.heap.size + 1 + 1 + 1) by have := S1.out; (try simp only [World.size_alloc, World.size_setCell, World.size_drew]); omega) (.int .i64 v2)).far (p := ⟨(w.heap.size + 1 + 1 + 1), 2, none⟩) (show w.heap.size ≠ (w.heap.size + 1 + 1 + 1) by have := S1.out; (try simp only [World.size_alloc, World.size_setCell, World.size_drew]); omega) (.int .i64 s2)).alloc (Obj.cells #[.int .i64 u2, .int .i64 v2, .int .i64 s2] 83)), Lib.hid ((((P1.out.far (p := ⟨(w.heap.size + 1 + 1 + 1), 0, none⟩) (show (w.heap.size + 1) ≠ (w.heap.size + 1 + 1 + 1) by have := S1.out; (try simp only [World.size_alloc, World.size_setCell, World.size_drew]); omega) (.int .i64 u2)).far (p := ⟨(w.heap.size + 1 + 1 + 1), 1, none⟩) (show (w.heap.size + 1) ≠ (w.heap.size + 1 + 1 + 1) by have := S1.out; (try simp only [World.size_alloc, World.size_setCell, World.size_drew]); omega) (.int .i64 v2)).far (p := ⟨(w.heap.size + 1 + 1 + 1), 2, none⟩) (show (w.heap.size + 1) ≠ (w.heap.size + 1 + 1 + 1) by have := S1.out; (try simp only [World.size_alloc, World.size_setCell, World.size_drew]); omega) (.int .i64 s2)).alloc (Obj.cells #[.int .i64 u2, .int .i64 v2, .int .i64 s2] 83)), Lib.hid ((((R.out.far (p := ⟨(w.heap.size + 1 + 1 + 1), 0, none⟩) (show (w.heap.size + 1 + 1) ≠ (w.heap.size + 1 + 1 + 1) by have := S1.out; (try simp only [World.size_alloc, World.size_setCell, World.size_drew]); omega) (.int .i64 u2)).far (p := ⟨(w.heap.size + 1 + 1 + 1), 1, none⟩) (show (w.heap.size + 1 + 1) ≠ (w.heap.size + 1 + 1 + 1) by have := S1.out; (try simp only [World.size_alloc, World.size_setCell, World.size_drew]); omega) (.int .i64 v2)).far (p := ⟨(w.heap.size + 1 + 1 + 1), 2, none⟩) (show (w.heap.size + 1 + 1) ≠ (w.heap.size + 1 + 1 + 1) by have := S1.out; (try simp only [World.size_alloc, World.size_setCell, World.size_drew]); omega) (.int .i64 s2)).alloc (Obj.cells #[.int .i64 u2, .int .i64 v2, .int .i64 s2] 83)), Lib.hid (show Blk (World.alloc (World.setCell (World.setCell (World.setCell w1 ⟨(w.heap.size + 1 + 1 + 1), 0, none⟩ (.int .i64 u2)) ⟨(w.heap.size + 1 + 1 + 1), 1, none⟩ (.int .i64 v2)) ⟨(w.heap.size + 1 + 1 + 1), 2, none⟩ (.int .i64 s2)) (Obj.cells #[.int .i64 u2, .int .i64 v2, .int .i64 s2] 83)) ((w.heap.size + 1 + 1 + 1)) 83 #[.int .i64 u2, .int .i64 v2, .int .i64 s2] by have h9 := ((((O.out.set 0 (.int .i64 u2)).set 1 (.int .i64 v2)).set 2 (.int .i64 s2)).alloc (Obj.cells #[.int .i64 u2, .int .i64 v2, .int .i64 s2] 83)); simpa using h9), Lib.hid (bal (bst (bst (bst Hb1.out (p := ⟨(w.heap.size + 1 + 1 + 1), 0, none⟩) (show w.heap.size ≤ (w.heap.size + 1 + 1 + 1) by have := S1.out; (try simp only [World.size_alloc, World.size_setCell, World.size_drew]); omega) (.int .i64 u2)) (p := ⟨(w.heap.size + 1 + 1 + 1), 1, none⟩) (show w.heap.size ≤ (w.heap.size + 1 + 1 + 1) by have := S1.out; (try simp only [World.size_alloc, World.size_setCell, World.size_drew]); omega) (.int .i64 v2)) (p := ⟨(w.heap.size + 1 + 1 + 1), 2, none⟩) (show w.heap.size ≤ (w.heap.size + 1 + 1 + 1) by have := S1.out; (try simp only [World.size_alloc, World.size_setCell, World.size_drew]); omega) (.int .i64 s2)) (Obj.cells #[.int .i64 u2, .int .i64 v2, .int .i64 s2] 83))⟩
        case measure => simp [intOf]; omega
set_option linter.unusedSimpArgs false in
set_option linter.unusedVariables false in
set_option maxRecDepth 8000 in
set_option maxHeartbeats 8000000 in
theorem ptValueX (a b x : Int) (w : World) (ha : -1000 ≤ a ∧ a ≤ 1000) (hb : -10000 ≤ b ∧ b ≤ 10000) (hx : -90 ≤ x ∧ x ≤ 90) :
    Calls Tryz.prog 165 #[.agg #[.int .i64 a, .int .i64 b], .int .i64 x, .int .i64 1] w fun e w' => (∃ n : Int, e = .returned (.int .i64 n) ∧ -1000000 ≤ n ∧ n ≤ 1000000) ∧ Below w.heap.size w w' := by
  obtain ⟨m1, m2⟩ := mul_bd x x 90 90 (by omega) (by omega) (by omega) (by omega)
  obtain ⟨m3, m4⟩ := mul_bd (x * x) x 8100 90 (by omega) (by omega) (by omega) (by omega)
  obtain ⟨m5, m6⟩ := mul_bd a x 1000 90 (by omega) (by omega) (by omega) (by omega)
  go_enter Tryz.func165, Tryz.ntmps165
  go_wp2
  go_ret
  exact ⟨⟨_, rfl, by omega⟩, (bal (Below.refl w.heap.size w) (Obj.cells #[.int .i64 a, .int .i64 b] 25))⟩
theorem sq_le {y n : Int} (h0 : 0 ≤ y) (h : y * y ≤ n) (hn : n ≤ 1000000) : y ≤ 1000000 := by
  rcases (show y ≤ 1000000 ∨ 1000001 ≤ y by omega) with h1 | h1
  · exact h1
  · have h2 : 1000001 * 1 ≤ y * y := Int.mul_le_mul h1 (by omega) (by omega) (by omega)
    omega
/-- What the points at an x are: none, one, two. -/
def AtX (w w' : World) (x : Int) (v : Value) : Prop := v = .slice none 0 0 ∨ (∃ g, v = .slice (some ⟨g, 0, none⟩) 1 1 ∧ w.heap.size ≤ g ∧ Blk w' g 83 #[.int .i64 x, .int .i64 0, .int .i64 1]) ∨ (∃ g y, v = .slice (some ⟨g, 0, none⟩) 2 2 ∧ w.heap.size ≤ g ∧ (0 ≤ y ∧ y ≤ 1000000) ∧ Blk w' g 83 #[.int .i64 x, .int .i64 (-y), .int .i64 1, .int .i64 x, .int .i64 y, .int .i64 1])
set_option linter.unusedSimpArgs false in
set_option linter.unusedVariables false in
set_option maxRecDepth 8000 in
set_option maxHeartbeats 8000000 in
theorem ptAtXX (a b x : Int) (w : World) (ha : -1000 ≤ a ∧ a ≤ 1000) (hb : -10000 ≤ b ∧ b ≤ 10000) (hx : -90 ≤ x ∧ x ≤ 90) :
    Calls Tryz.prog 120 #[.agg #[.int .i64 a, .int .i64 b], .int .i64 x, .int .i64 1] w fun e w' => (∃ v : Value, e = .returned v ∧ AtX w w' x v) ∧ Below w.heap.size w w' := by
  go_enter Tryz.func120, Tryz.ntmps120
  go_wp2_with fail
  refine (ptValueX a b x _ ha hb hx).mono ?_; rintro e w1 ⟨⟨n, rfl, hn1, hn2⟩, hb1⟩
  have S1 := Lib.hid (show w.heap.size + 1 ≤ w1.heap.size by have h9 := hb1.size; (try simp only [World.size_alloc, World.size_setCell, World.size_drew] at h9); omega)
  have NC := Lib.hid ((Blk.new w 25 #[.int .i64 a, .int .i64 b]).on hb1)
  have C := NC; clear NC
  have Hb1 := Lib.hid (bthen (bal (Below.refl w.heap.size w) (Obj.cells #[.int .i64 a, .int .i64 b] 25)) hb1)
  clear hb1
  by_cases hn : n < 0
  · have hd : decide (n < 0) = true := decide_eq_true hn
    go_wp2
    go_ret
    exact ⟨⟨_, rfl, Or.inl rfl⟩, Hb1.out⟩
  · have hd : decide (n < 0) = false := decide_eq_false hn
    go_wp2_with fail
    refine (frSquareX n _ (by omega)).mono ?_; rintro e w2 ⟨⟨k, rfl⟩, hb2⟩
    have S2 := Lib.hid (show w1.heap.size + 0 ≤ w2.heap.size by have h9 := hb2.size; (try simp only [World.size_alloc, World.size_setCell, World.size_drew] at h9); omega)
    have NC := Lib.hid (C.out.on hb2)
    have C := NC; clear NC
    have Hb2 := Lib.hid (bthen Hb1.out hb2)
    clear hb2
    cases k
    · go_wp2
      go_ret
      exact ⟨⟨_, rfl, Or.inl rfl⟩, Hb2.out⟩
    · by_cases hn0 : n = 0
      · have z0 : (n == 0) = true := by rw [hn0]; rfl
        go_wp2
        go_ret
        exact ⟨⟨_, rfl, Or.inr (Or.inl ⟨_, rfl, by have := Hb2.out.size; omega, (Blk.new w2 83 #[.int .i64 x, .int .i64 0, .int .i64 1])⟩)⟩, (bal Hb2.out (Obj.cells #[.int .i64 x, .int .i64 0, .int .i64 1] 83))⟩
      · have z0 : (n == 0) = false := beq_eq_false_iff_ne.2 hn0
        go_wp2_with fail
        refine (frRootX n _ (by omega)).mono ?_; rintro e w3 ⟨⟨y, rfl, hy0, hy1, hyy⟩, hb3⟩
        have S3 := Lib.hid (show w2.heap.size + 0 ≤ w3.heap.size by have h9 := hb3.size; (try simp only [World.size_alloc, World.size_setCell, World.size_drew] at h9); omega)
        have NC := Lib.hid (C.out.on hb3)
        have C := NC; clear NC
        have Hb3 := Lib.hid (bthen Hb2.out hb3)
        clear hb3
        have hy2 : y ≤ 1000000 := sq_le hy0 hyy (by omega)
        clear hyy
        go_wp2
        go_ret
        exact ⟨⟨_, rfl, Or.inr (Or.inr ⟨_, y, rfl, by have := Hb3.out.size; omega, ⟨hy0, hy2⟩, (Blk.new w3 83 #[.int .i64 x, .int .i64 (-y), .int .i64 1, .int .i64 x, .int .i64 y, .int .i64 1])⟩)⟩, (bal Hb3.out (Obj.cells #[.int .i64 x, .int .i64 (-y), .int .i64 1, .int .i64 x, .int .i64 y, .int .i64 1] 83))⟩
end
end Go.Proofs.YtacehhcpfollnaaGreat
