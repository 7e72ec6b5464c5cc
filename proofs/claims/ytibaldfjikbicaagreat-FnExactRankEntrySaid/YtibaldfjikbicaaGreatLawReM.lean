/- The law FnExactRankEntry. Conditions: none. Printed by gen_relaw.py. -/
import Derived.Test.YtibaldfjikbicaaGreatReM16
namespace Go.Proofs.YtibaldfjikbicaaGreat
open Go Go.RowKit Go.ChangeShapes Go.WideShapes Go.Lib

set_option linter.unusedSimpArgs false in
set_option linter.unusedVariables false in
set_option maxRecDepth 8000 in
set_option maxHeartbeats 8000000 in
theorem toTwo_any (a b : Int) (w : World) : Calls Tryz.prog 6 #[.agg #[.int .i64 a, .int .i64 b]] w fun e w' => e = .returned (.agg #[.int .i64 a, .int .i64 b]) ∧ Below w.heap.size w w' := by
  go_enter Tryz.func6, Tryz.ntmps6
  go_wp2
  have R9RT := ((show Blk (World.alloc (World.alloc w (Obj.cells #[.int .i64 a, .int .i64 b] 23)) (Obj.cells #[.int .i64 a, .int .i64 b] 29)) (w.heap.size + 1) 29 #[.int .i64 a, .int .i64 b] by have h9 := (Blk.new (World.alloc w (Obj.cells #[.int .i64 a, .int .i64 b] 23)) 29 #[.int .i64 a, .int .i64 b]); (try simp only [World.size_alloc, World.size_setCell] at h9); exact h9).alloc (Obj.cells #[.int .i64 a, .int .i64 b] 29))
  have kRT0 := R9RT.cell 0
  have kRT1 := R9RT.cell 1
  simp at kRT0 kRT1
  exact bodyPost_ret (v := .agg #[.int .i64 a, .int .i64 b]) (by simp [results, Tryz.results6, go_sem, kRT0, kRT1]) rfl ⟨rfl, (bal (bal (bal (Below.refl w.heap.size w) (Obj.cells #[.int .i64 a, .int .i64 b] 23)) (Obj.cells #[.int .i64 a, .int .i64 b] 29)) (Obj.cells #[.int .i64 a, .int .i64 b] 29))⟩
set_option linter.unusedSimpArgs false in
set_option linter.unusedVariables false in
set_option maxRecDepth 8000 in
set_option maxHeartbeats 8000000 in
theorem eqCurve_same9 (a b : Int) (w : World) : Calls Tryz.prog 33 #[.agg #[.int .i64 a, .int .i64 b], .agg #[.int .i64 a, .int .i64 b]] w fun e w' => e = .returned (.bool true) ∧ Below w.heap.size w w' := by
  go_enter Tryz.func33, Tryz.ntmps33
  go_wp2
  go_ret
  exact ⟨rfl, (bal (bal (Below.refl w.heap.size w) (Obj.cells #[.int .i64 a, .int .i64 b] 24)) (Obj.cells #[.int .i64 a, .int .i64 b] 24))⟩
set_option linter.unusedSimpArgs false in
set_option linter.unusedVariables false in
set_option maxRecDepth 8000 in
set_option maxHeartbeats 8000000 in
theorem eqEntry_same9 (a b lo hi t9 : Int) (w : World) : Calls Tryz.prog 8 #[.agg #[.int .i64 a, .int .i64 b, .int .i64 lo, .int .i64 hi, .int .i64 t9], .agg #[.int .i64 a, .int .i64 b, .int .i64 lo, .int .i64 hi, .int .i64 t9]] w fun e w' => e = .returned (.bool true) ∧ Below w.heap.size w w' := by
  go_enter Tryz.func8, Tryz.ntmps8
  go_wp2_with fail
  refine (eqCurve_same9 a b _).mono ?_; rintro e w1 ⟨rfl, hb1⟩
  have S1 := Lib.hid (show w.heap.size + 2 ≤ w1.heap.size by have h9 := hb1.size; (try simp only [World.size_alloc, World.size_setCell, World.size_drew] at h9); omega)
  have NA1 := Lib.hid (((Blk.new w 26 #[.int .i64 a, .int .i64 b, .int .i64 lo, .int .i64 hi, .int .i64 t9]).alloc (Obj.cells #[.int .i64 a, .int .i64 b, .int .i64 lo, .int .i64 hi, .int .i64 t9] 26)).on hb1)
  have NA2 := Lib.hid ((show Blk (World.alloc (World.alloc w (Obj.cells #[.int .i64 a, .int .i64 b, .int .i64 lo, .int .i64 hi, .int .i64 t9] 26)) (Obj.cells #[.int .i64 a, .int .i64 b, .int .i64 lo, .int .i64 hi, .int .i64 t9] 26)) (w.heap.size + 1) 26 #[.int .i64 a, .int .i64 b, .int .i64 lo, .int .i64 hi, .int .i64 t9] by have h9 := (Blk.new (World.alloc w (Obj.cells #[.int .i64 a, .int .i64 b, .int .i64 lo, .int .i64 hi, .int .i64 t9] 26)) 26 #[.int .i64 a, .int .i64 b, .int .i64 lo, .int .i64 hi, .int .i64 t9]); (try simp only [World.size_alloc, World.size_setCell] at h9); exact h9).on hb1)
  have A1 := NA1; clear NA1
  have A2 := NA2; clear NA2
  have Hb1 := Lib.hid (bthen (bal (bal (Below.refl w.heap.size w) (Obj.cells #[.int .i64 a, .int .i64 b, .int .i64 lo, .int .i64 hi, .int .i64 t9] 26)) (Obj.cells #[.int .i64 a, .int .i64 b, .int .i64 lo, .int .i64 hi, .int .i64 t9] 26)) hb1)
  clear hb1
  have qA10 : w1.cell? ⟨w.heap.size, 0, none⟩ = some (.int .i64 a) := A1.out.cell 0
  have qA11 : w1.cell? ⟨w.heap.size, 1, none⟩ = some (.int .i64 b) := A1.out.cell 1
  have qA12 : w1.cell? ⟨w.heap.size, 2, none⟩ = some (.int .i64 lo) := A1.out.cell 2
  have qA13 : w1.cell? ⟨w.heap.size, 3, none⟩ = some (.int .i64 hi) := A1.out.cell 3
  have qA14 : w1.cell? ⟨w.heap.size, 4, none⟩ = some (.int .i64 t9) := A1.out.cell 4
  have qA1l := A1.out.lt
  have qA20 : w1.cell? ⟨w.heap.size + 1, 0, none⟩ = some (.int .i64 a) := A2.out.cell 0
  have qA21 : w1.cell? ⟨w.heap.size + 1, 1, none⟩ = some (.int .i64 b) := A2.out.cell 1
  have qA22 : w1.cell? ⟨w.heap.size + 1, 2, none⟩ = some (.int .i64 lo) := A2.out.cell 2
  have qA23 : w1.cell? ⟨w.heap.size + 1, 3, none⟩ = some (.int .i64 hi) := A2.out.cell 3
  have qA24 : w1.cell? ⟨w.heap.size + 1, 4, none⟩ = some (.int .i64 t9) := A2.out.cell 4
  have qA2l := A2.out.lt
  go_wp2
  clear qA10 qA11 qA12 qA13 qA14 qA1l qA20 qA21 qA22 qA23 qA24 qA2l
  go_ret
  exact ⟨rfl, Hb1.out⟩
set_option linter.unusedSimpArgs false in
set_option linter.unusedVariables false in
set_option maxRecDepth 8000 in
set_option maxHeartbeats 8000000 in
theorem fnExactRankEntry_walk (a b n : Int) (w : World) (_hb : -9223372036854775808 ≤ n ∧ n ≤ 9223372036854775807) : Calls Tryz.prog 3 #[.agg #[.int .i64 a, .int .i64 b], .int .i64 n] w fun e w' => e = .returned (.bool true) ∧ Below w.heap.size w w' := by
  have hs := fun w9 => rankEntryS_any a b n w9
  have hi := fun w9 => rankEntryI_any a b n w9
  rw [re_eq] at hi
  unfold reW at hs hi
  generalize reS a b n = V at *
  obtain ⟨⟨x, y, lo, hi9⟩, ok⟩ := V
  dsimp only at hs hi
  have Hs := Lib.hid hs; have Hi := Lib.hid hi; clear hs hi
  cases ok
  · go_enter Tryz.func3, Tryz.ntmps3
    go_wp2_with fail
    refine (toTwo_any a b _).mono ?_; rintro e w1 ⟨rfl, hb1⟩
    have S1 := Lib.hid (show w.heap.size + 1 ≤ w1.heap.size by have h9 := hb1.size; (try simp only [World.size_alloc, World.size_setCell, World.size_drew] at h9); omega)
    have NLB := Lib.hid ((Blk.new w 23 #[.int .i64 a, .int .i64 b]).on hb1)
    have LB := NLB; clear NLB
    have Hb1 := Lib.hid (bthen (bal (Below.refl w.heap.size w) (Obj.cells #[.int .i64 a, .int .i64 b] 23)) hb1)
    clear hb1
    have qLB0 : w1.cell? ⟨w.heap.size, 0, none⟩ = some (.int .i64 a) := LB.out.cell 0
    have qLB1 : w1.cell? ⟨w.heap.size, 1, none⟩ = some (.int .i64 b) := LB.out.cell 1
    have qLBl := LB.out.lt
    go_wp2_with fail
    clear qLB0 qLB1 qLBl
    refine (Hs.out _).mono ?_; rintro e w2 ⟨rfl, hb2⟩
    have S2 := Lib.hid (show w1.heap.size + 0 ≤ w2.heap.size by have h9 := hb2.size; (try simp only [World.size_alloc, World.size_setCell, World.size_drew] at h9); omega)
    have Z2 := Lib.hid (And.intro S1.out S2.out)
    have NLB := Lib.hid (LB.out.on hb2)
    have LB := NLB; clear NLB
    have Hb2 := Lib.hid (bthen Hb1.out hb2)
    clear hb2
    have qLB0 : w2.cell? ⟨w.heap.size, 0, none⟩ = some (.int .i64 a) := LB.out.cell 0
    have qLB1 : w2.cell? ⟨w.heap.size, 1, none⟩ = some (.int .i64 b) := LB.out.cell 1
    have qLBl := LB.out.lt
    go_wp2_with fail
    clear qLB0 qLB1 qLBl
    refine (toTwo_any a b _).mono ?_; rintro e w3 ⟨rfl, hb3⟩
    have S3 := Lib.hid (show w2.heap.size + 1 ≤ w3.heap.size by have h9 := hb3.size; (try simp only [World.size_alloc, World.size_setCell, World.size_drew] at h9); omega)
    have Z3 := Lib.hid (And.intro Z2.out S3.out)
    have NLB := Lib.hid ((LB.out.alloc (Obj.cells #[.int .i64 x, .int .i64 y, .int .i64 lo, .int .i64 hi9, .int .i64 0] 26)).on hb3)
    have NES := Lib.hid ((Blk.new w2 26 #[.int .i64 x, .int .i64 y, .int .i64 lo, .int .i64 hi9, .int .i64 0]).on hb3)
    have LB := NLB; clear NLB
    have ES := NES; clear NES
    have Hb3 := Lib.hid (bthen (bal Hb2.out (Obj.cells #[.int .i64 x, .int .i64 y, .int .i64 lo, .int .i64 hi9, .int .i64 0] 26)) hb3)
    clear hb3
    have qLB0 : w3.cell? ⟨w.heap.size, 0, none⟩ = some (.int .i64 a) := LB.out.cell 0
    have qLB1 : w3.cell? ⟨w.heap.size, 1, none⟩ = some (.int .i64 b) := LB.out.cell 1
    have qLBl := LB.out.lt
    go_wp2_with fail
    clear qLB0 qLB1 qLBl
    refine (Hi.out _).mono ?_; rintro e w4 ⟨rfl, hb4⟩
    have S4 := Lib.hid (show w3.heap.size + 0 ≤ w4.heap.size by have h9 := hb4.size; (try simp only [World.size_alloc, World.size_setCell, World.size_drew] at h9); omega)
    have Z4 := Lib.hid (And.intro Z3.out S4.out)
    have NLB := Lib.hid (LB.out.on hb4)
    have NES := Lib.hid (ES.out.on hb4)
    have LB := NLB; clear NLB
    have ES := NES; clear NES
    have Hb4 := Lib.hid (bthen Hb3.out hb4)
    clear hb4
    have qES0 : w4.cell? ⟨w2.heap.size, 0, none⟩ = some (.int .i64 x) := ES.out.cell 0
    have qES1 : w4.cell? ⟨w2.heap.size, 1, none⟩ = some (.int .i64 y) := ES.out.cell 1
    have qES2 : w4.cell? ⟨w2.heap.size, 2, none⟩ = some (.int .i64 lo) := ES.out.cell 2
    have qES3 : w4.cell? ⟨w2.heap.size, 3, none⟩ = some (.int .i64 hi9) := ES.out.cell 3
    have qES4 : w4.cell? ⟨w2.heap.size, 4, none⟩ = some (.int .i64 0) := ES.out.cell 4
    have qESl := ES.out.lt
    go_wp2_with fail
    clear qES0 qES1 qES2 qES3 qES4 qESl
    refine (eqEntry_same9 x y lo hi9 0 _).mono ?_; rintro e w5 ⟨rfl, hb5⟩
    have S5 := Lib.hid (show w4.heap.size + 1 ≤ w5.heap.size by have h9 := hb5.size; (try simp only [World.size_alloc, World.size_setCell, World.size_drew] at h9); omega)
    have Z5 := Lib.hid (And.intro Z4.out S5.out)
    have NLB := Lib.hid ((LB.out.alloc (Obj.cells #[.int .i64 x, .int .i64 y, .int .i64 lo, .int .i64 hi9, .int .i64 0] 26)).on hb5)
    have NES := Lib.hid ((ES.out.alloc (Obj.cells #[.int .i64 x, .int .i64 y, .int .i64 lo, .int .i64 hi9, .int .i64 0] 26)).on hb5)
    have NEI := Lib.hid ((Blk.new w4 26 #[.int .i64 x, .int .i64 y, .int .i64 lo, .int .i64 hi9, .int .i64 0]).on hb5)
    have LB := NLB; clear NLB
    have ES := NES; clear NES
    have EI := NEI; clear NEI
    have Hb5 := Lib.hid (bthen (bal Hb4.out (Obj.cells #[.int .i64 x, .int .i64 y, .int .i64 lo, .int .i64 hi9, .int .i64 0] 26)) hb5)
    clear hb5
    go_wp2
    go_ret
    exact ⟨rfl, Hb5.out⟩
  · go_enter Tryz.func3, Tryz.ntmps3
    go_wp2_with fail
    refine (toTwo_any a b _).mono ?_; rintro e w6 ⟨rfl, hb6⟩
    have S6 := Lib.hid (show w.heap.size + 1 ≤ w6.heap.size by have h9 := hb6.size; (try simp only [World.size_alloc, World.size_setCell, World.size_drew] at h9); omega)
    have NLB := Lib.hid ((Blk.new w 23 #[.int .i64 a, .int .i64 b]).on hb6)
    have LB := NLB; clear NLB
    have Hb6 := Lib.hid (bthen (bal (Below.refl w.heap.size w) (Obj.cells #[.int .i64 a, .int .i64 b] 23)) hb6)
    clear hb6
    have qLB0 : w6.cell? ⟨w.heap.size, 0, none⟩ = some (.int .i64 a) := LB.out.cell 0
    have qLB1 : w6.cell? ⟨w.heap.size, 1, none⟩ = some (.int .i64 b) := LB.out.cell 1
    have qLBl := LB.out.lt
    go_wp2_with fail
    clear qLB0 qLB1 qLBl
    refine (Hs.out _).mono ?_; rintro e w7 ⟨rfl, hb7⟩
    have S7 := Lib.hid (show w6.heap.size + 0 ≤ w7.heap.size by have h9 := hb7.size; (try simp only [World.size_alloc, World.size_setCell, World.size_drew] at h9); omega)
    have Z7 := Lib.hid (And.intro S6.out S7.out)
    have NLB := Lib.hid (LB.out.on hb7)
    have LB := NLB; clear NLB
    have Hb7 := Lib.hid (bthen Hb6.out hb7)
    clear hb7
    have qLB0 : w7.cell? ⟨w.heap.size, 0, none⟩ = some (.int .i64 a) := LB.out.cell 0
    have qLB1 : w7.cell? ⟨w.heap.size, 1, none⟩ = some (.int .i64 b) := LB.out.cell 1
    have qLBl := LB.out.lt
    go_wp2_with fail
    clear qLB0 qLB1 qLBl
    refine (toTwo_any a b _).mono ?_; rintro e w8 ⟨rfl, hb8⟩
    have S8 := Lib.hid (show w7.heap.size + 1 ≤ w8.heap.size by have h9 := hb8.size; (try simp only [World.size_alloc, World.size_setCell, World.size_drew] at h9); omega)
    have Z8 := Lib.hid (And.intro Z7.out S8.out)
    have NLB := Lib.hid ((LB.out.alloc (Obj.cells #[.int .i64 x, .int .i64 y, .int .i64 lo, .int .i64 hi9, .int .i64 0] 26)).on hb8)
    have NES := Lib.hid ((Blk.new w7 26 #[.int .i64 x, .int .i64 y, .int .i64 lo, .int .i64 hi9, .int .i64 0]).on hb8)
    have LB := NLB; clear NLB
    have ES := NES; clear NES
    have Hb8 := Lib.hid (bthen (bal Hb7.out (Obj.cells #[.int .i64 x, .int .i64 y, .int .i64 lo, .int .i64 hi9, .int .i64 0] 26)) hb8)
    clear hb8
    have qLB0 : w8.cell? ⟨w.heap.size, 0, none⟩ = some (.int .i64 a) := LB.out.cell 0
    have qLB1 : w8.cell? ⟨w.heap.size, 1, none⟩ = some (.int .i64 b) := LB.out.cell 1
    have qLBl := LB.out.lt
    go_wp2_with fail
    clear qLB0 qLB1 qLBl
    refine (Hi.out _).mono ?_; rintro e w9 ⟨rfl, hb9⟩
    have S9 := Lib.hid (show w8.heap.size + 0 ≤ w9.heap.size by have h9 := hb9.size; (try simp only [World.size_alloc, World.size_setCell, World.size_drew] at h9); omega)
    have Z9 := Lib.hid (And.intro Z8.out S9.out)
    have NLB := Lib.hid (LB.out.on hb9)
    have NES := Lib.hid (ES.out.on hb9)
    have LB := NLB; clear NLB
    have ES := NES; clear NES
    have Hb9 := Lib.hid (bthen Hb8.out hb9)
    clear hb9
    have qES0 : w9.cell? ⟨w7.heap.size, 0, none⟩ = some (.int .i64 x) := ES.out.cell 0
    have qES1 : w9.cell? ⟨w7.heap.size, 1, none⟩ = some (.int .i64 y) := ES.out.cell 1
    have qES2 : w9.cell? ⟨w7.heap.size, 2, none⟩ = some (.int .i64 lo) := ES.out.cell 2
    have qES3 : w9.cell? ⟨w7.heap.size, 3, none⟩ = some (.int .i64 hi9) := ES.out.cell 3
    have qES4 : w9.cell? ⟨w7.heap.size, 4, none⟩ = some (.int .i64 0) := ES.out.cell 4
    have qESl := ES.out.lt
    go_wp2_with fail
    clear qES0 qES1 qES2 qES3 qES4 qESl
    refine (eqEntry_same9 x y lo hi9 0 _).mono ?_; rintro e w10 ⟨rfl, hb10⟩
    have S10 := Lib.hid (show w9.heap.size + 1 ≤ w10.heap.size by have h9 := hb10.size; (try simp only [World.size_alloc, World.size_setCell, World.size_drew] at h9); omega)
    have Z10 := Lib.hid (And.intro Z9.out S10.out)
    have NLB := Lib.hid ((LB.out.alloc (Obj.cells #[.int .i64 x, .int .i64 y, .int .i64 lo, .int .i64 hi9, .int .i64 0] 26)).on hb10)
    have NES := Lib.hid ((ES.out.alloc (Obj.cells #[.int .i64 x, .int .i64 y, .int .i64 lo, .int .i64 hi9, .int .i64 0] 26)).on hb10)
    have NEI := Lib.hid ((Blk.new w9 26 #[.int .i64 x, .int .i64 y, .int .i64 lo, .int .i64 hi9, .int .i64 0]).on hb10)
    have LB := NLB; clear NLB
    have ES := NES; clear NES
    have EI := NEI; clear NEI
    have Hb10 := Lib.hid (bthen (bal Hb9.out (Obj.cells #[.int .i64 x, .int .i64 y, .int .i64 lo, .int .i64 hi9, .int .i64 0] 26)) hb10)
    clear hb10
    go_wp2
    go_ret
    exact ⟨rfl, Hb10.out⟩
set_option maxRecDepth 100000 in
theorem fnExactRankEntry_lifted (os : Os) (started : os.Started) (H : Type) (enc : TypeId × Value → H) :
    ReturnsInHanded {} Tryz.checked os 3 .any (Rows.fnExactRankEntrySpec.pre6 enc Tryz.prog Tryz.f3 Rows.fnExactRankEntryRow.domain false) (Rows.fnExactRankEntrySpec.post enc Tryz.prog Tryz.f3 false true false false) := by
  refine returnsInHanded_of_change (C := Tryz.checked) own_knob started (by kernel_rfl) Tryz.func3
    (ChangeSpec.witness6 (enc := enc) (C := Tryz.checked) false ⟨#[], #[.agg #[.int .i64 0, .int .i64 0], .int .i64 0], []⟩ 8 (by kernel_rfl) (by kernel_rfl) (by kernel_rfl) (by kernel_rfl)) ?_
  intro W base args ds gs before hval0 hW _ _
  have hval : ∀ (j : Nat) t v, Tryz.f3.params[j]? = some t → args[j]? = some v → Value.okWide Tryz.prog W .any base t v := hval0
  have hW' := hW
  obtain ⟨p, q, hA0, hV, rfl, hfz, hnd⟩ := hW
  have hA : DataW.TrodAll enc Tryz.prog W 0 (fun _ => true) true Tryz.f3.params.toList args.toList ds p := hA0
  rw [Tryz.params3] at hA hval
  obtain ⟨v0, v1, d0, d1, p0, p1, rfl, rfl, rfl, h0, h1⟩ := trodAll_two hA
  obtain ⟨rfl, rfl⟩ := trodVars_none hV
  simp only [List.append_nil] at hW'
  have hlt := hW'.lt
  have hlt0 : ∀ x ∈ p0, x.block < W.heap.size := fun x hx => hlt x (by simp [hx])
  have hlt1 : ∀ x ∈ p1, x.block < W.heap.size := fun x hx => hlt x (by simp [hx])
  have k0 := h0
  obtain ⟨ns0, hn0, rfl, hwf0⟩ := open_ints_agg Tryz.underlying23 5 (by kernel_rfl) (hval 0 23 v0 rfl rfl) h0
  obtain ⟨x0a, x0b, rfl⟩ := list2 (hn0.trans (by kernel_rfl : Tryz.prog.cellsOf 23 = 2))
  have k1 := h1
  obtain ⟨x1, rfl, hd1, hp1, w1⟩ := open_int Tryz.underlying3 (hval 1 3 v1 rfl rfl) h1
  have b1 := bounds_i64 w1
  refine (fnExactRankEntry_walk x0a x0b x1 W b1).mono fun e W' ⟨he, hb⟩ => ?_
  subst he
  exact ⟨_, rfl, post_below hW' (trodAll_mk1 (shut_bool Tryz.underlying4 true)) (trodAll_mk2 (WideElems.Trod_stays laid_out (by kernel_rfl) (of_decide_eq_true (by kernel_rfl)) k0 (fun x hx => hb.same (hlt0 x hx)) (fun x hx => by simpa using hlt0 x hx)) (WideElems.Trod_stays laid_out (by kernel_rfl) (of_decide_eq_true (by kernel_rfl)) k1 (fun x hx => hb.same (hlt1 x hx)) (fun x hx => by simpa using hlt1 x hx))) rfl (by first | rfl | (simp only [List.append_assoc]; done)) hb⟩

theorem fnExactRankEntry_holds : Rows.FnExactRankEntrySaid :=
  OpenClaim.holds_of_wide 3 Tryz.f3 rfl rfl rfl rfl rfl rfl rfl ⟨rfl, rfl, rfl, rfl, rfl⟩ rfl rfl rfl rfl rfl (by kernel_rfl) Tryz.func3 (by kernel_rfl)
    (of_decide_eq_true (by kernel_rfl)) (by unfold Func.isWrapper; rw [if_neg (of_decide_eq_false (by kernel_rfl))]; exact ⟨rfl, rfl⟩)
    (fun os started H enc _ => fnExactRankEntry_lifted os started H enc)
end Go.Proofs.YtibaldfjikbicaaGreat
