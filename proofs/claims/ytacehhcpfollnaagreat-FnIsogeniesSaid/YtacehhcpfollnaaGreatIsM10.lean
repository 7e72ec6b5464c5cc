/- Own texts put together: Carried points: the walk of the reference. Conditions: those of each theorem. -/
import Derived.Test.YtacehhcpfollnaaGreatIsM9
namespace Go.Proofs.YtacehhcpfollnaaGreat
section
open Go Go.RowKit

def CaE (o : Option (Fq × Fq)) : Ending := match o with | some (u, v) => .returned (.tuple #[.agg #[.int .i64 u.1, .int .i64 u.2], .agg #[.int .i64 v.1, .int .i64 v.2], .bool true]) | none => .returned (.tuple #[.agg #[.int .i64 0, .int .i64 0], .agg #[.int .i64 0, .int .i64 0], .bool false])
theorem car_out {a b e : Int} {x y : Fq} (h : askB a b e = false ∨ (frB 1000000000 x.1 x.2 && frB 1000000000 y.1 y.2) = false ∨ x = (e, 1) ∨ onV a b x y = false) : carV a b e x y = none := by
  unfold carV
  rw [if_neg]
  rcases h with h | h | h | h <;> rw [h] <;> simp
theorem car_in {a b e : Int} {x y : Fq} (h1 : askB a b e = true) (h2 : (frB 1000000000 x.1 x.2 && frB 1000000000 y.1 y.2) = true) (h3 : x ≠ (e, 1)) (h4 : onV a b x y = true) : carV a b e x y = crV a e x y := by
  unfold carV
  rw [if_pos]
  rw [h1, h2, h4, decide_eq_false h3]
  rfl
theorem ask_bd {a b e : Int} (h : askB a b e = true) : curveB a b = true ∧ evZ a b e = 0 ∧ -100 ≤ e ∧ e ≤ 100 := by
  unfold askB at h
  rw [Bool.and_eq_true, decide_eq_true_eq] at h
  exact ⟨h.1, root_ev h.2, root_bd h.2⟩
theorem ask_lit {a b e : Int} {k : Bool} (h : askB a b e = k) (w : World) : Calls Tryz.prog 47 #[.agg #[.int .i64 a, .int .i64 b], .int .i64 e] w fun r w' => r = .returned (.bool k) ∧ Below w.heap.size w w' := by
  rw [← h]; exact asked_any a b e w
theorem two_lit {a b c d : Int} {k : Bool} (h : (frB 1000000000 a b && frB 1000000000 c d) = k) (w : World) : Calls Tryz.prog 70 #[.agg #[.int .i64 a, .int .i64 b], .agg #[.int .i64 c, .int .i64 d]] w fun e w' => e = .returned (.bool k) ∧ Below w.heap.size w w' := by
  rw [← h]; exact frTwo_any a b c d w
theorem tt_bd {a e : Int} (ha : -1000 ≤ a ∧ a ≤ 1000) (he : -100 ≤ e ∧ e ≤ 100) : (-300 ≤ 3 * e ∧ 3 * e ≤ 300) ∧ (-30000 ≤ 3 * e * e ∧ 3 * e * e ≤ 30000) ∧ (-31000 ≤ 3 * e * e + a ∧ 3 * e * e + a ≤ 31000) := by
  have h1 := mul_bd (3 * e) e 300 100 (by omega) (by omega) he.1 he.2
  omega
set_option linter.unusedSimpArgs false in
set_option maxRecDepth 8000 in
set_option maxHeartbeats 16000000 in
theorem carS_any (a b e x1 x2 y1 y2 : Int) (w : World) :
    Calls Tryz.prog 20 #[.agg #[.int .i64 a, .int .i64 b], .int .i64 e, .agg #[.int .i64 x1, .int .i64 x2], .agg #[.int .i64 y1, .int .i64 y2]] w fun r w' => r = CaE (carV a b e (x1, x2) (y1, y2)) ∧ Below w.heap.size w w' := by
  cases hk1 : askB a b e
  · have Hk1 := Lib.hid hk1; clear hk1
    go_enter Tryz.func20, Tryz.ntmps20
    go_wp2_with fail
    refine wp_region_tame (by kernel_rfl) (by kernel_rfl) (fun T _ W hT => ?_)
    have hx := hT.cell
    repeat (go_big_quiet_step ((first | (go_at_call 47; with_reducible exact hT.call (ask_lit Hk1.out _)) | fail)))
    refine wpQuiet_nil ?_
    intro tt
    clear hx
    have hb1 := hT.below tt
    generalize W tt = w1 at hb1 ⊢
    clear hT
    have S1 := Lib.hid (show w.heap.size + 5 ≤ w1.heap.size by have h9 := hb1.size; (try simp only [World.size_alloc, World.size_setCell, World.size_drew] at h9); omega)
    have NC := Lib.hid ((((((Blk.new w 25 #[.int .i64 a, .int .i64 b]).alloc (Obj.cells #[.int .i64 x1, .int .i64 x2] 42)).alloc (Obj.cells #[.int .i64 y1, .int .i64 y2] 42)).alloc (Obj.cells #[.int .i64 0, .int .i64 0] 42)).alloc (Obj.cells #[.int .i64 0, .int .i64 0] 42)).on hb1)
    have NX := Lib.hid (((((show Blk (World.alloc (World.alloc w (Obj.cells #[.int .i64 a, .int .i64 b] 25)) (Obj.cells #[.int .i64 x1, .int .i64 x2] 42)) (w.heap.size + 1) 42 #[.int .i64 x1, .int .i64 x2] by have h9 := (Blk.new (World.alloc w (Obj.cells #[.int .i64 a, .int .i64 b] 25)) 42 #[.int .i64 x1, .int .i64 x2]); (try simp only [World.size_alloc, World.size_setCell] at h9); exact h9).alloc (Obj.cells #[.int .i64 y1, .int .i64 y2] 42)).alloc (Obj.cells #[.int .i64 0, .int .i64 0] 42)).alloc (Obj.cells #[.int .i64 0, .int .i64 0] 42)).on hb1)
    have NY := Lib.hid ((((show Blk (World.alloc (World.alloc (World.alloc w (Obj.cells #[.int .i64 a, .int .i64 b] 25)) (Obj.cells #[.int .i64 x1, .int .i64 x2] 42)) (Obj.cells #[.int .i64 y1, .int .i64 y2] 42)) (w.heap.size + 1 + 1) 42 #[.int .i64 y1, .int .i64 y2] by have h9 := (Blk.new (World.alloc (World.alloc w (Obj.cells #[.int .i64 a, .int .i64 b] 25)) (Obj.cells #[.int .i64 x1, .int .i64 x2] 42)) 42 #[.int .i64 y1, .int .i64 y2]); (try simp only [World.size_alloc, World.size_setCell] at h9); exact h9).alloc (Obj.cells #[.int .i64 0, .int .i64 0] 42)).alloc (Obj.cells #[.int .i64 0, .int .i64 0] 42)).on hb1)
    have NR := Lib.hid (((show Blk (World.alloc (World.alloc (World.alloc (World.alloc w (Obj.cells #[.int .i64 a, .int .i64 b] 25)) (Obj.cells #[.int .i64 x1, .int .i64 x2] 42)) (Obj.cells #[.int .i64 y1, .int .i64 y2] 42)) (Obj.cells #[.int .i64 0, .int .i64 0] 42)) (w.heap.size + 1 + 1 + 1) 42 #[.int .i64 0, .int .i64 0] by have h9 := (Blk.new (World.alloc (World.alloc (World.alloc w (Obj.cells #[.int .i64 a, .int .i64 b] 25)) (Obj.cells #[.int .i64 x1, .int .i64 x2] 42)) (Obj.cells #[.int .i64 y1, .int .i64 y2] 42)) 42 #[.int .i64 0, .int .i64 0]); (try simp only [World.size_alloc, World.size_setCell] at h9); exact h9).alloc (Obj.cells #[.int .i64 0, .int .i64 0] 42)).on hb1)
    have NQ := Lib.hid ((show Blk (World.alloc (World.alloc (World.alloc (World.alloc (World.alloc w (Obj.cells #[.int .i64 a, .int .i64 b] 25)) (Obj.cells #[.int .i64 x1, .int .i64 x2] 42)) (Obj.cells #[.int .i64 y1, .int .i64 y2] 42)) (Obj.cells #[.int .i64 0, .int .i64 0] 42)) (Obj.cells #[.int .i64 0, .int .i64 0] 42)) (w.heap.size + 1 + 1 + 1 + 1) 42 #[.int .i64 0, .int .i64 0] by have h9 := (Blk.new (World.alloc (World.alloc (World.alloc (World.alloc w (Obj.cells #[.int .i64 a, .int .i64 b] 25)) (Obj.cells #[.int .i64 x1, .int .i64 x2] 42)) (Obj.cells #[.int .i64 y1, .int .i64 y2] 42)) (Obj.cells #[.int .i64 0, .int .i64 0] 42)) 42 #[.int .i64 0, .int .i64 0]); (try simp only [World.size_alloc, World.size_setCell] at h9); exact h9).on hb1)
    have C := NC; clear NC
    have X := NX; clear NX
    have Y := NY; clear NY
    have R := NR; clear NR
    have Q := NQ; clear NQ
    have Hb1 := Lib.hid (bthen (bal (bal (bal (bal (bal (Below.refl w.heap.size w) (Obj.cells #[.int .i64 a, .int .i64 b] 25)) (Obj.cells #[.int .i64 x1, .int .i64 x2] 42)) (Obj.cells #[.int .i64 y1, .int .i64 y2] 42)) (Obj.cells #[.int .i64 0, .int .i64 0] 42)) (Obj.cells #[.int .i64 0, .int .i64 0] 42)) hb1)
    clear hb1
    have qR0 : w1.cell? ⟨w.heap.size + 1 + 1 + 1, 0, none⟩ = some (.int .i64 0) := R.out.cell 0
    have qR1 : w1.cell? ⟨w.heap.size + 1 + 1 + 1, 1, none⟩ = some (.int .i64 0) := R.out.cell 1
    have qRl := R.out.lt
    have qRf0 := R.out.frozen 0
    have qRf1 := R.out.frozen 1
    have qQ0 : w1.cell? ⟨w.heap.size + 1 + 1 + 1 + 1, 0, none⟩ = some (.int .i64 0) := Q.out.cell 0
    have qQ1 : w1.cell? ⟨w.heap.size + 1 + 1 + 1 + 1, 1, none⟩ = some (.int .i64 0) := Q.out.cell 1
    have qQl := Q.out.lt
    have qQf0 := Q.out.frozen 0
    have qQf1 := Q.out.frozen 1
    have nQR : w.heap.size + 1 + 1 + 1 + 1 ≠ w.heap.size + 1 + 1 + 1 := by have := S1.out; (try simp only [World.size_alloc, World.size_setCell, World.size_drew]); omega
    have nRQ : w.heap.size + 1 + 1 + 1 ≠ w.heap.size + 1 + 1 + 1 + 1 := fun e => nQR e.symm
    go_wp2
    clear qR0 qR1 qRl qRf0 qRf1 qQ0 qQ1 qQl qQf0 qQf1 nQR nRQ
    have R9R := (show Blk (World.setCell (World.setCell (World.setCell (World.setCell w1 ⟨w.heap.size + 1 + 1 + 1, 0, none⟩ (.int .i64 0)) ⟨w.heap.size + 1 + 1 + 1, 1, none⟩ (.int .i64 0)) ⟨w.heap.size + 1 + 1 + 1 + 1, 0, none⟩ (.int .i64 0)) ⟨w.heap.size + 1 + 1 + 1 + 1, 1, none⟩ (.int .i64 0)) (w.heap.size + 1 + 1 + 1) 42 #[.int .i64 0, .int .i64 0] by have h9 := ((((R.out.set 0 (.int .i64 0)).set 1 (.int .i64 0)).far (p := ⟨w.heap.size + 1 + 1 + 1 + 1, 0, none⟩) (show w.heap.size + 1 + 1 + 1 ≠ w.heap.size + 1 + 1 + 1 + 1 by have := S1.out; (try simp only [World.size_alloc, World.size_setCell, World.size_drew]); omega) (.int .i64 0)).far (p := ⟨w.heap.size + 1 + 1 + 1 + 1, 1, none⟩) (show w.heap.size + 1 + 1 + 1 ≠ w.heap.size + 1 + 1 + 1 + 1 by have := S1.out; (try simp only [World.size_alloc, World.size_setCell, World.size_drew]); omega) (.int .i64 0)); simpa using h9)
    have kR0 := R9R.cell 0
    have kR1 := R9R.cell 1
    have R9Q := (show Blk (World.setCell (World.setCell (World.setCell (World.setCell w1 ⟨w.heap.size + 1 + 1 + 1, 0, none⟩ (.int .i64 0)) ⟨w.heap.size + 1 + 1 + 1, 1, none⟩ (.int .i64 0)) ⟨w.heap.size + 1 + 1 + 1 + 1, 0, none⟩ (.int .i64 0)) ⟨w.heap.size + 1 + 1 + 1 + 1, 1, none⟩ (.int .i64 0)) (w.heap.size + 1 + 1 + 1 + 1) 42 #[.int .i64 0, .int .i64 0] by have h9 := ((((Q.out.far (p := ⟨w.heap.size + 1 + 1 + 1, 0, none⟩) (show w.heap.size + 1 + 1 + 1 + 1 ≠ w.heap.size + 1 + 1 + 1 by have := S1.out; (try simp only [World.size_alloc, World.size_setCell, World.size_drew]); omega) (.int .i64 0)).far (p := ⟨w.heap.size + 1 + 1 + 1, 1, none⟩) (show w.heap.size + 1 + 1 + 1 + 1 ≠ w.heap.size + 1 + 1 + 1 by have := S1.out; (try simp only [World.size_alloc, World.size_setCell, World.size_drew]); omega) (.int .i64 0)).set 0 (.int .i64 0)).set 1 (.int .i64 0)); simpa using h9)
    have kQ0 := R9Q.cell 0
    have kQ1 := R9Q.cell 1
    simp at kR0 kR1 kQ0 kQ1
    exact bodyPost_ret (v := .tuple #[.agg #[.int .i64 0, .int .i64 0], .agg #[.int .i64 0, .int .i64 0], .bool false]) (by simp [results, Tryz.results20, go_sem, kR0, kR1, kQ0, kQ1]) rfl ⟨by rw [show carV a b e (x1, x2) (y1, y2) = none from by exact car_out (.inl (Hk1.out))]; rfl, (bst (bst (bst (bst Hb1.out (p := ⟨w.heap.size + 1 + 1 + 1, 0, none⟩) (show w.heap.size ≤ w.heap.size + 1 + 1 + 1 by have := S1.out; (try simp only [World.size_alloc, World.size_setCell, World.size_drew]); omega) (.int .i64 0)) (p := ⟨w.heap.size + 1 + 1 + 1, 1, none⟩) (show w.heap.size ≤ w.heap.size + 1 + 1 + 1 by have := S1.out; (try simp only [World.size_alloc, World.size_setCell, World.size_drew]); omega) (.int .i64 0)) (p := ⟨w.heap.size + 1 + 1 + 1 + 1, 0, none⟩) (show w.heap.size ≤ w.heap.size + 1 + 1 + 1 + 1 by have := S1.out; (try simp only [World.size_alloc, World.size_setCell, World.size_drew]); omega) (.int .i64 0)) (p := ⟨w.heap.size + 1 + 1 + 1 + 1, 1, none⟩) (show w.heap.size ≤ w.heap.size + 1 + 1 + 1 + 1 by have := S1.out; (try simp only [World.size_alloc, World.size_setCell, World.size_drew]); omega) (.int .i64 0))⟩
  · obtain ⟨hc, hev, he⟩ := ask_bd hk1
    obtain ⟨ha, hb⟩ := curveB_bd hc
    obtain ⟨⟨n1, n2⟩, ⟨n3, n4⟩, n5, n6⟩ := tt_bd ha he
    have Hk1 := Lib.hid hk1; clear hk1
    cases hk2 : (frB 1000000000 x1 x2 && frB 1000000000 y1 y2)
    · have Hk2 := Lib.hid hk2; clear hk2
      go_enter Tryz.func20, Tryz.ntmps20
      go_wp2_with fail
      refine wp_region_tame (by kernel_rfl) (by kernel_rfl) (fun T _ W hT => ?_)
      have hx := hT.cell
      repeat (go_big_quiet_step ((first | (go_at_call 47; with_reducible exact hT.call (ask_lit Hk1.out _)) | (go_at_call 70; with_reducible exact hT.call (two_lit Hk2.out _)) | fail)))
      refine wpQuiet_nil ?_
      intro tt
      clear hx
      have hb2 := hT.below tt
      generalize W tt = w2 at hb2 ⊢
      clear hT
      have S2 := Lib.hid (show w.heap.size + 5 ≤ w2.heap.size by have h9 := hb2.size; (try simp only [World.size_alloc, World.size_setCell, World.size_drew] at h9); omega)
      have NC := Lib.hid ((((((Blk.new w 25 #[.int .i64 a, .int .i64 b]).alloc (Obj.cells #[.int .i64 x1, .int .i64 x2] 42)).alloc (Obj.cells #[.int .i64 y1, .int .i64 y2] 42)).alloc (Obj.cells #[.int .i64 0, .int .i64 0] 42)).alloc (Obj.cells #[.int .i64 0, .int .i64 0] 42)).on hb2)
      have NX := Lib.hid (((((show Blk (World.alloc (World.alloc w (Obj.cells #[.int .i64 a, .int .i64 b] 25)) (Obj.cells #[.int .i64 x1, .int .i64 x2] 42)) (w.heap.size + 1) 42 #[.int .i64 x1, .int .i64 x2] by have h9 := (Blk.new (World.alloc w (Obj.cells #[.int .i64 a, .int .i64 b] 25)) 42 #[.int .i64 x1, .int .i64 x2]); (try simp only [World.size_alloc, World.size_setCell] at h9); exact h9).alloc (Obj.cells #[.int .i64 y1, .int .i64 y2] 42)).alloc (Obj.cells #[.int .i64 0, .int .i64 0] 42)).alloc (Obj.cells #[.int .i64 0, .int .i64 0] 42)).on hb2)
      have NY := Lib.hid ((((show Blk (World.alloc (World.alloc (World.alloc w (Obj.cells #[.int .i64 a, .int .i64 b] 25)) (Obj.cells #[.int .i64 x1, .int .i64 x2] 42)) (Obj.cells #[.int .i64 y1, .int .i64 y2] 42)) (w.heap.size + 1 + 1) 42 #[.int .i64 y1, .int .i64 y2] by have h9 := (Blk.new (World.alloc (World.alloc w (Obj.cells #[.int .i64 a, .int .i64 b] 25)) (Obj.cells #[.int .i64 x1, .int .i64 x2] 42)) 42 #[.int .i64 y1, .int .i64 y2]); (try simp only [World.size_alloc, World.size_setCell] at h9); exact h9).alloc (Obj.cells #[.int .i64 0, .int .i64 0] 42)).alloc (Obj.cells #[.int .i64 0, .int .i64 0] 42)).on hb2)
      have NR := Lib.hid (((show Blk (World.alloc (World.alloc (World.alloc (World.alloc w (Obj.cells #[.int .i64 a, .int .i64 b] 25)) (Obj.cells #[.int .i64 x1, .int .i64 x2] 42)) (Obj.cells #[.int .i64 y1, .int .i64 y2] 42)) (Obj.cells #[.int .i64 0, .int .i64 0] 42)) (w.heap.size + 1 + 1 + 1) 42 #[.int .i64 0, .int .i64 0] by have h9 := (Blk.new (World.alloc (World.alloc (World.alloc w (Obj.cells #[.int .i64 a, .int .i64 b] 25)) (Obj.cells #[.int .i64 x1, .int .i64 x2] 42)) (Obj.cells #[.int .i64 y1, .int .i64 y2] 42)) 42 #[.int .i64 0, .int .i64 0]); (try simp only [World.size_alloc, World.size_setCell] at h9); exact h9).alloc (Obj.cells #[.int .i64 0, .int .i64 0] 42)).on hb2)
      have NQ := Lib.hid ((show Blk (World.alloc (World.alloc (World.alloc (World.alloc (World.alloc w (Obj.cells #[.int .i64 a, .int .i64 b] 25)) (Obj.cells #[.int .i64 x1, .int .i64 x2] 42)) (Obj.cells #[.int .i64 y1, .int .i64 y2] 42)) (Obj.cells #[.int .i64 0, .int .i64 0] 42)) (Obj.cells #[.int .i64 0, .int .i64 0] 42)) (w.heap.size + 1 + 1 + 1 + 1) 42 #[.int .i64 0, .int .i64 0] by have h9 := (Blk.new (World.alloc (World.alloc (World.alloc (World.alloc w (Obj.cells #[.int .i64 a, .int .i64 b] 25)) (Obj.cells #[.int .i64 x1, .int .i64 x2] 42)) (Obj.cells #[.int .i64 y1, .int .i64 y2] 42)) (Obj.cells #[.int .i64 0, .int .i64 0] 42)) 42 #[.int .i64 0, .int .i64 0]); (try simp only [World.size_alloc, World.size_setCell] at h9); exact h9).on hb2)
      have C := NC; clear NC
      have X := NX; clear NX
      have Y := NY; clear NY
      have R := NR; clear NR
      have Q := NQ; clear NQ
      have Hb2 := Lib.hid (bthen (bal (bal (bal (bal (bal (Below.refl w.heap.size w) (Obj.cells #[.int .i64 a, .int .i64 b] 25)) (Obj.cells #[.int .i64 x1, .int .i64 x2] 42)) (Obj.cells #[.int .i64 y1, .int .i64 y2] 42)) (Obj.cells #[.int .i64 0, .int .i64 0] 42)) (Obj.cells #[.int .i64 0, .int .i64 0] 42)) hb2)
      clear hb2
      have qR0 : w2.cell? ⟨w.heap.size + 1 + 1 + 1, 0, none⟩ = some (.int .i64 0) := R.out.cell 0
      have qR1 : w2.cell? ⟨w.heap.size + 1 + 1 + 1, 1, none⟩ = some (.int .i64 0) := R.out.cell 1
      have qRl := R.out.lt
      have qRf0 := R.out.frozen 0
      have qRf1 := R.out.frozen 1
      have qQ0 : w2.cell? ⟨w.heap.size + 1 + 1 + 1 + 1, 0, none⟩ = some (.int .i64 0) := Q.out.cell 0
      have qQ1 : w2.cell? ⟨w.heap.size + 1 + 1 + 1 + 1, 1, none⟩ = some (.int .i64 0) := Q.out.cell 1
      have qQl := Q.out.lt
      have qQf0 := Q.out.frozen 0
      have qQf1 := Q.out.frozen 1
      have nQR : w.heap.size + 1 + 1 + 1 + 1 ≠ w.heap.size + 1 + 1 + 1 := by have := S2.out; (try simp only [World.size_alloc, World.size_setCell, World.size_drew]); omega
      have nRQ : w.heap.size + 1 + 1 + 1 ≠ w.heap.size + 1 + 1 + 1 + 1 := fun e => nQR e.symm
      go_wp2
      clear qR0 qR1 qRl qRf0 qRf1 qQ0 qQ1 qQl qQf0 qQf1 nQR nRQ
      have R9R := (show Blk (World.setCell (World.setCell (World.setCell (World.setCell w2 ⟨w.heap.size + 1 + 1 + 1, 0, none⟩ (.int .i64 0)) ⟨w.heap.size + 1 + 1 + 1, 1, none⟩ (.int .i64 0)) ⟨w.heap.size + 1 + 1 + 1 + 1, 0, none⟩ (.int .i64 0)) ⟨w.heap.size + 1 + 1 + 1 + 1, 1, none⟩ (.int .i64 0)) (w.heap.size + 1 + 1 + 1) 42 #[.int .i64 0, .int .i64 0] by have h9 := ((((R.out.set 0 (.int .i64 0)).set 1 (.int .i64 0)).far (p := ⟨w.heap.size + 1 + 1 + 1 + 1, 0, none⟩) (show w.heap.size + 1 + 1 + 1 ≠ w.heap.size + 1 + 1 + 1 + 1 by have := S2.out; (try simp only [World.size_alloc, World.size_setCell, World.size_drew]); omega) (.int .i64 0)).far (p := ⟨w.heap.size + 1 + 1 + 1 + 1, 1, none⟩) (show w.heap.size + 1 + 1 + 1 ≠ w.heap.size + 1 + 1 + 1 + 1 by have := S2.out; (try simp only [World.size_alloc, World.size_setCell, World.size_drew]); omega) (.int .i64 0)); simpa using h9)
      have kR0 := R9R.cell 0
      have kR1 := R9R.cell 1
      have R9Q := (show Blk (World.setCell (World.setCell (World.setCell (World.setCell w2 ⟨w.heap.size + 1 + 1 + 1, 0, none⟩ (.int .i64 0)) ⟨w.heap.size + 1 + 1 + 1, 1, none⟩ (.int .i64 0)) ⟨w.heap.size + 1 + 1 + 1 + 1, 0, none⟩ (.int .i64 0)) ⟨w.heap.size + 1 + 1 + 1 + 1, 1, none⟩ (.int .i64 0)) (w.heap.size + 1 + 1 + 1 + 1) 42 #[.int .i64 0, .int .i64 0] by have h9 := ((((Q.out.far (p := ⟨w.heap.size + 1 + 1 + 1, 0, none⟩) (show w.heap.size + 1 + 1 + 1 + 1 ≠ w.heap.size + 1 + 1 + 1 by have := S2.out; (try simp only [World.size_alloc, World.size_setCell, World.size_drew]); omega) (.int .i64 0)).far (p := ⟨w.heap.size + 1 + 1 + 1, 1, none⟩) (show w.heap.size + 1 + 1 + 1 + 1 ≠ w.heap.size + 1 + 1 + 1 by have := S2.out; (try simp only [World.size_alloc, World.size_setCell, World.size_drew]); omega) (.int .i64 0)).set 0 (.int .i64 0)).set 1 (.int .i64 0)); simpa using h9)
      have kQ0 := R9Q.cell 0
      have kQ1 := R9Q.cell 1
      simp at kR0 kR1 kQ0 kQ1
      exact bodyPost_ret (v := .tuple #[.agg #[.int .i64 0, .int .i64 0], .agg #[.int .i64 0, .int .i64 0], .bool false]) (by simp [results, Tryz.results20, go_sem, kR0, kR1, kQ0, kQ1]) rfl ⟨by rw [show carV a b e (x1, x2) (y1, y2) = none from by exact car_out (.inr (.inl (Hk2.out)))]; rfl, (bst (bst (bst (bst Hb2.out (p := ⟨w.heap.size + 1 + 1 + 1, 0, none⟩) (show w.heap.size ≤ w.heap.size + 1 + 1 + 1 by have := S2.out; (try simp only [World.size_alloc, World.size_setCell, World.size_drew]); omega) (.int .i64 0)) (p := ⟨w.heap.size + 1 + 1 + 1, 1, none⟩) (show w.heap.size ≤ w.heap.size + 1 + 1 + 1 by have := S2.out; (try simp only [World.size_alloc, World.size_setCell, World.size_drew]); omega) (.int .i64 0)) (p := ⟨w.heap.size + 1 + 1 + 1 + 1, 0, none⟩) (show w.heap.size ≤ w.heap.size + 1 + 1 + 1 + 1 by have := S2.out; (try simp only [World.size_alloc, World.size_setCell, World.size_drew]); omega) (.int .i64 0)) (p := ⟨w.heap.size + 1 + 1 + 1 + 1, 1, none⟩) (show w.heap.size ≤ w.heap.size + 1 + 1 + 1 + 1 by have := S2.out; (try simp only [World.size_alloc, World.size_setCell, World.size_drew]); omega) (.int .i64 0))⟩
    · have Hx := Lib.hid (show good (x1, x2) from (Bool.and_eq_true_iff.1 hk2).1); have Hy := Lib.hid (show good (y1, y2) from (Bool.and_eq_true_iff.1 hk2).2)
      have Hk2 := Lib.hid hk2; clear hk2
      by_cases hxe : x1 = e ∧ x2 = 1
      · obtain ⟨rfl, rfl⟩ := hxe
        go_enter Tryz.func20, Tryz.ntmps20
        go_wp2_with fail
        refine wp_region_tame (by kernel_rfl) (by kernel_rfl) (fun T _ W hT => ?_)
        have hx := hT.cell
        repeat (go_big_quiet_step ((first | (go_at_call 47; with_reducible exact hT.call (ask_lit Hk1.out _)) | (go_at_call 70; with_reducible exact hT.call (two_lit Hk2.out _)) | (go_at_call 71; with_reducible exact hT.call (frInt_any x1 _)) | fail)))
        refine wpQuiet_nil ?_
        intro tt
        clear hx
        have hb3 := hT.below tt
        generalize W tt = w3 at hb3 ⊢
        clear hT
        have S3 := Lib.hid (show w.heap.size + 5 ≤ w3.heap.size by have h9 := hb3.size; (try simp only [World.size_alloc, World.size_setCell, World.size_drew] at h9); omega)
        have NC := Lib.hid ((((((Blk.new w 25 #[.int .i64 a, .int .i64 b]).alloc (Obj.cells #[.int .i64 x1, .int .i64 1] 42)).alloc (Obj.cells #[.int .i64 y1, .int .i64 y2] 42)).alloc (Obj.cells #[.int .i64 0, .int .i64 0] 42)).alloc (Obj.cells #[.int .i64 0, .int .i64 0] 42)).on hb3)
        have NX := Lib.hid (((((show Blk (World.alloc (World.alloc w (Obj.cells #[.int .i64 a, .int .i64 b] 25)) (Obj.cells #[.int .i64 x1, .int .i64 1] 42)) (w.heap.size + 1) 42 #[.int .i64 x1, .int .i64 1] by have h9 := (Blk.new (World.alloc w (Obj.cells #[.int .i64 a, .int .i64 b] 25)) 42 #[.int .i64 x1, .int .i64 1]); (try simp only [World.size_alloc, World.size_setCell] at h9); exact h9).alloc (Obj.cells #[.int .i64 y1, .int .i64 y2] 42)).alloc (Obj.cells #[.int .i64 0, .int .i64 0] 42)).alloc (Obj.cells #[.int .i64 0, .int .i64 0] 42)).on hb3)
        have NY := Lib.hid ((((show Blk (World.alloc (World.alloc (World.alloc w (Obj.cells #[.int .i64 a, .int .i64 b] 25)) (Obj.cells #[.int .i64 x1, .int .i64 1] 42)) (Obj.cells #[.int .i64 y1, .int .i64 y2] 42)) (w.heap.size + 1 + 1) 42 #[.int .i64 y1, .int .i64 y2] by have h9 := (Blk.new (World.alloc (World.alloc w (Obj.cells #[.int .i64 a, .int .i64 b] 25)) (Obj.cells #[.int .i64 x1, .int .i64 1] 42)) 42 #[.int .i64 y1, .int .i64 y2]); (try simp only [World.size_alloc, World.size_setCell] at h9); exact h9).alloc (Obj.cells #[.int .i64 0, .int .i64 0] 42)).alloc (Obj.cells #[.int .i64 0, .int .i64 0] 42)).on hb3)
        have NR := Lib.hid (((show Blk (World.alloc (World.alloc (World.alloc (World.alloc w (Obj.cells #[.int .i64 a, .int .i64 b] 25)) (Obj.cells #[.int .i64 x1, .int .i64 1] 42)) (Obj.cells #[.int .i64 y1, .int .i64 y2] 42)) (Obj.cells #[.int .i64 0, .int .i64 0] 42)) (w.heap.size + 1 + 1 + 1) 42 #[.int .i64 0, .int .i64 0] by have h9 := (Blk.new (World.alloc (World.alloc (World.alloc w (Obj.cells #[.int .i64 a, .int .i64 b] 25)) (Obj.cells #[.int .i64 x1, .int .i64 1] 42)) (Obj.cells #[.int .i64 y1, .int .i64 y2] 42)) 42 #[.int .i64 0, .int .i64 0]); (try simp only [World.size_alloc, World.size_setCell] at h9); exact h9).alloc (Obj.cells #[.int .i64 0, .int .i64 0] 42)).on hb3)
        have NQ := Lib.hid ((show Blk (World.alloc (World.alloc (World.alloc (World.alloc (World.alloc w (Obj.cells #[.int .i64 a, .int .i64 b] 25)) (Obj.cells #[.int .i64 x1, .int .i64 1] 42)) (Obj.cells #[.int .i64 y1, .int .i64 y2] 42)) (Obj.cells #[.int .i64 0, .int .i64 0] 42)) (Obj.cells #[.int .i64 0, .int .i64 0] 42)) (w.heap.size + 1 + 1 + 1 + 1) 42 #[.int .i64 0, .int .i64 0] by have h9 := (Blk.new (World.alloc (World.alloc (World.alloc (World.alloc w (Obj.cells #[.int .i64 a, .int .i64 b] 25)) (Obj.cells #[.int .i64 x1, .int .i64 1] 42)) (Obj.cells #[.int .i64 y1, .int .i64 y2] 42)) (Obj.cells #[.int .i64 0, .int .i64 0] 42)) 42 #[.int .i64 0, .int .i64 0]); (try simp only [World.size_alloc, World.size_setCell] at h9); exact h9).on hb3)
        have C := NC; clear NC
        have X := NX; clear NX
        have Y := NY; clear NY
        have R := NR; clear NR
        have Q := NQ; clear NQ
        have Hb3 := Lib.hid (bthen (bal (bal (bal (bal (bal (Below.refl w.heap.size w) (Obj.cells #[.int .i64 a, .int .i64 b] 25)) (Obj.cells #[.int .i64 x1, .int .i64 1] 42)) (Obj.cells #[.int .i64 y1, .int .i64 y2] 42)) (Obj.cells #[.int .i64 0, .int .i64 0] 42)) (Obj.cells #[.int .i64 0, .int .i64 0] 42)) hb3)
        clear hb3
        have qR0 : w3.cell? ⟨w.heap.size + 1 + 1 + 1, 0, none⟩ = some (.int .i64 0) := R.out.cell 0
        have qR1 : w3.cell? ⟨w.heap.size + 1 + 1 + 1, 1, none⟩ = some (.int .i64 0) := R.out.cell 1
        have qRl := R.out.lt
        have qRf0 := R.out.frozen 0
        have qRf1 := R.out.frozen 1
        have qQ0 : w3.cell? ⟨w.heap.size + 1 + 1 + 1 + 1, 0, none⟩ = some (.int .i64 0) := Q.out.cell 0
        have qQ1 : w3.cell? ⟨w.heap.size + 1 + 1 + 1 + 1, 1, none⟩ = some (.int .i64 0) := Q.out.cell 1
        have qQl := Q.out.lt
        have qQf0 := Q.out.frozen 0
        have qQf1 := Q.out.frozen 1
        have nQR : w.heap.size + 1 + 1 + 1 + 1 ≠ w.heap.size + 1 + 1 + 1 := by have := S3.out; (try simp only [World.size_alloc, World.size_setCell, World.size_drew]); omega
        have nRQ : w.heap.size + 1 + 1 + 1 ≠ w.heap.size + 1 + 1 + 1 + 1 := fun e => nQR e.symm
        go_wp2
        clear qR0 qR1 qRl qRf0 qRf1 qQ0 qQ1 qQl qQf0 qQf1 nQR nRQ
        have R9R := (show Blk (World.setCell (World.setCell (World.setCell (World.setCell w3 ⟨w.heap.size + 1 + 1 + 1, 0, none⟩ (.int .i64 0)) ⟨w.heap.size + 1 + 1 + 1, 1, none⟩ (.int .i64 0)) ⟨w.heap.size + 1 + 1 + 1 + 1, 0, none⟩ (.int .i64 0)) ⟨w.heap.size + 1 + 1 + 1 + 1, 1, none⟩ (.int .i64 0)) (w.heap.size + 1 + 1 + 1) 42 #[.int .i64 0, .int .i64 0] by have h9 := ((((R.out.set 0 (.int .i64 0)).set 1 (.int .i64 0)).far (p := ⟨w.heap.size + 1 + 1 + 1 + 1, 0, none⟩) (show w.heap.size + 1 + 1 + 1 ≠ w.heap.size + 1 + 1 + 1 + 1 by have := S3.out; (try simp only [World.size_alloc, World.size_setCell, World.size_drew]); omega) (.int .i64 0)).far (p := ⟨w.heap.size + 1 + 1 + 1 + 1, 1, none⟩) (show w.heap.size + 1 + 1 + 1 ≠ w.heap.size + 1 + 1 + 1 + 1 by have := S3.out; (try simp only [World.size_alloc, World.size_setCell, World.size_drew]); omega) (.int .i64 0)); simpa using h9)
        have kR0 := R9R.cell 0
        have kR1 := R9R.cell 1
        have R9Q := (show Blk (World.setCell (World.setCell (World.setCell (World.setCell w3 ⟨w.heap.size + 1 + 1 + 1, 0, none⟩ (.int .i64 0)) ⟨w.heap.size + 1 + 1 + 1, 1, none⟩ (.int .i64 0)) ⟨w.heap.size + 1 + 1 + 1 + 1, 0, none⟩ (.int .i64 0)) ⟨w.heap.size + 1 + 1 + 1 + 1, 1, none⟩ (.int .i64 0)) (w.heap.size + 1 + 1 + 1 + 1) 42 #[.int .i64 0, .int .i64 0] by have h9 := ((((Q.out.far (p := ⟨w.heap.size + 1 + 1 + 1, 0, none⟩) (show w.heap.size + 1 + 1 + 1 + 1 ≠ w.heap.size + 1 + 1 + 1 by have := S3.out; (try simp only [World.size_alloc, World.size_setCell, World.size_drew]); omega) (.int .i64 0)).far (p := ⟨w.heap.size + 1 + 1 + 1, 1, none⟩) (show w.heap.size + 1 + 1 + 1 + 1 ≠ w.heap.size + 1 + 1 + 1 by have := S3.out; (try simp only [World.size_alloc, World.size_setCell, World.size_drew]); omega) (.int .i64 0)).set 0 (.int .i64 0)).set 1 (.int .i64 0)); simpa using h9)
        have kQ0 := R9Q.cell 0
        have kQ1 := R9Q.cell 1
        simp at kR0 kR1 kQ0 kQ1
        exact bodyPost_ret (v := .tuple #[.agg #[.int .i64 0, .int .i64 0], .agg #[.int .i64 0, .int .i64 0], .bool false]) (by simp [results, Tryz.results20, go_sem, kR0, kR1, kQ0, kQ1]) rfl ⟨by rw [show carV a b x1 (x1, 1) (y1, y2) = none from car_out (.inr (.inr (.inl rfl)))]; rfl, (bst (bst (bst (bst Hb3.out (p := ⟨w.heap.size + 1 + 1 + 1, 0, none⟩) (show w.heap.size ≤ w.heap.size + 1 + 1 + 1 by have := S3.out; (try simp only [World.size_alloc, World.size_setCell, World.size_drew]); omega) (.int .i64 0)) (p := ⟨w.heap.size + 1 + 1 + 1, 1, none⟩) (show w.heap.size ≤ w.heap.size + 1 + 1 + 1 by have := S3.out; (try simp only [World.size_alloc, World.size_setCell, World.size_drew]); omega) (.int .i64 0)) (p := ⟨w.heap.size + 1 + 1 + 1 + 1, 0, none⟩) (show w.heap.size ≤ w.heap.size + 1 + 1 + 1 + 1 by have := S3.out; (try simp only [World.size_alloc, World.size_setCell, World.size_drew]); omega) (.int .i64 0)) (p := ⟨w.heap.size + 1 + 1 + 1 + 1, 1, none⟩) (show w.heap.size ≤ w.heap.size + 1 + 1 + 1 + 1 by have := S3.out; (try simp only [World.size_alloc, World.size_setCell, World.size_drew]); omega) (.int .i64 0))⟩
      · have Hne := Lib.hid (show ((x1, x2) : Fq) ≠ (e, 1) from fun h => hxe (Prod.mk.inj h))
        obtain ⟨f1, f2, o6, h6⟩ := FrQ.ex (subF 1000000000 (x1, x2) (e, 1))
        have F6 := Lib.hid h6; clear h6
        have Hi := Lib.hid (frB_int (n := e) (by omega) (by omega)); have Ht := Lib.hid (frB_int (n := 3 * e * e + a) (by omega) (by omega)); have H1 := Lib.hid (frB_int (n := 1) (by omega) (by omega))
        go_enter Tryz.func20, Tryz.ntmps20
        go_upto_region 1 with fail
        obtain ⟨w4, hw9⟩ : ∃ x, x = (World.alloc (World.alloc (World.alloc (World.alloc (World.alloc w (Obj.cells #[.int .i64 a, .int .i64 b] 25)) (Obj.cells #[.int .i64 x1, .int .i64 x2] 42)) (Obj.cells #[.int .i64 y1, .int .i64 y2] 42)) (Obj.cells #[.int .i64 0, .int .i64 0] 42)) (Obj.cells #[.int .i64 0, .int .i64 0] 42)) := ⟨_, rfl⟩
        rw [← hw9]
        have hb4 : Below ((World.alloc (World.alloc (World.alloc (World.alloc (World.alloc w (Obj.cells #[.int .i64 a, .int .i64 b] 25)) (Obj.cells #[.int .i64 x1, .int .i64 x2] 42)) (Obj.cells #[.int .i64 y1, .int .i64 y2] 42)) (Obj.cells #[.int .i64 0, .int .i64 0] 42)) (Obj.cells #[.int .i64 0, .int .i64 0] 42))).heap.size (World.alloc (World.alloc (World.alloc (World.alloc (World.alloc w (Obj.cells #[.int .i64 a, .int .i64 b] 25)) (Obj.cells #[.int .i64 x1, .int .i64 x2] 42)) (Obj.cells #[.int .i64 y1, .int .i64 y2] 42)) (Obj.cells #[.int .i64 0, .int .i64 0] 42)) (Obj.cells #[.int .i64 0, .int .i64 0] 42)) w4 := by rw [hw9]; exact Below.refl _ _
        have S4 := Lib.hid (show w.heap.size + 5 ≤ w4.heap.size by have h9 := hb4.size; (try simp only [World.size_alloc, World.size_setCell, World.size_drew] at h9); omega)
        have NC := Lib.hid ((((((Blk.new w 25 #[.int .i64 a, .int .i64 b]).alloc (Obj.cells #[.int .i64 x1, .int .i64 x2] 42)).alloc (Obj.cells #[.int .i64 y1, .int .i64 y2] 42)).alloc (Obj.cells #[.int .i64 0, .int .i64 0] 42)).alloc (Obj.cells #[.int .i64 0, .int .i64 0] 42)).on hb4)
        have NX := Lib.hid (((((show Blk (World.alloc (World.alloc w (Obj.cells #[.int .i64 a, .int .i64 b] 25)) (Obj.cells #[.int .i64 x1, .int .i64 x2] 42)) (w.heap.size + 1) 42 #[.int .i64 x1, .int .i64 x2] by have h9 := (Blk.new (World.alloc w (Obj.cells #[.int .i64 a, .int .i64 b] 25)) 42 #[.int .i64 x1, .int .i64 x2]); (try simp only [World.size_alloc, World.size_setCell] at h9); exact h9).alloc (Obj.cells #[.int .i64 y1, .int .i64 y2] 42)).alloc (Obj.cells #[.int .i64 0, .int .i64 0] 42)).alloc (Obj.cells #[.int .i64 0, .int .i64 0] 42)).on hb4)
        have NY := Lib.hid ((((show Blk (World.alloc (World.alloc (World.alloc w (Obj.cells #[.int .i64 a, .int .i64 b] 25)) (Obj.cells #[.int .i64 x1, .int .i64 x2] 42)) (Obj.cells #[.int .i64 y1, .int .i64 y2] 42)) (w.heap.size + 1 + 1) 42 #[.int .i64 y1, .int .i64 y2] by have h9 := (Blk.new (World.alloc (World.alloc w (Obj.cells #[.int .i64 a, .int .i64 b] 25)) (Obj.cells #[.int .i64 x1, .int .i64 x2] 42)) 42 #[.int .i64 y1, .int .i64 y2]); (try simp only [World.size_alloc, World.size_setCell] at h9); exact h9).alloc (Obj.cells #[.int .i64 0, .int .i64 0] 42)).alloc (Obj.cells #[.int .i64 0, .int .i64 0] 42)).on hb4)
        have NR := Lib.hid (((show Blk (World.alloc (World.alloc (World.alloc (World.alloc w (Obj.cells #[.int .i64 a, .int .i64 b] 25)) (Obj.cells #[.int .i64 x1, .int .i64 x2] 42)) (Obj.cells #[.int .i64 y1, .int .i64 y2] 42)) (Obj.cells #[.int .i64 0, .int .i64 0] 42)) (w.heap.size + 1 + 1 + 1) 42 #[.int .i64 0, .int .i64 0] by have h9 := (Blk.new (World.alloc (World.alloc (World.alloc w (Obj.cells #[.int .i64 a, .int .i64 b] 25)) (Obj.cells #[.int .i64 x1, .int .i64 x2] 42)) (Obj.cells #[.int .i64 y1, .int .i64 y2] 42)) 42 #[.int .i64 0, .int .i64 0]); (try simp only [World.size_alloc, World.size_setCell] at h9); exact h9).alloc (Obj.cells #[.int .i64 0, .int .i64 0] 42)).on hb4)
        have NQ := Lib.hid ((show Blk (World.alloc (World.alloc (World.alloc (World.alloc (World.alloc w (Obj.cells #[.int .i64 a, .int .i64 b] 25)) (Obj.cells #[.int .i64 x1, .int .i64 x2] 42)) (Obj.cells #[.int .i64 y1, .int .i64 y2] 42)) (Obj.cells #[.int .i64 0, .int .i64 0] 42)) (Obj.cells #[.int .i64 0, .int .i64 0] 42)) (w.heap.size + 1 + 1 + 1 + 1) 42 #[.int .i64 0, .int .i64 0] by have h9 := (Blk.new (World.alloc (World.alloc (World.alloc (World.alloc w (Obj.cells #[.int .i64 a, .int .i64 b] 25)) (Obj.cells #[.int .i64 x1, .int .i64 x2] 42)) (Obj.cells #[.int .i64 y1, .int .i64 y2] 42)) (Obj.cells #[.int .i64 0, .int .i64 0] 42)) 42 #[.int .i64 0, .int .i64 0]); (try simp only [World.size_alloc, World.size_setCell] at h9); exact h9).on hb4)
        have C := NC; clear NC
        have X := NX; clear NX
        have Y := NY; clear NY
        have R := NR; clear NR
        have Q := NQ; clear NQ
        have Hb4 := Lib.hid (bthen (bal (bal (bal (bal (bal (Below.refl w.heap.size w) (Obj.cells #[.int .i64 a, .int .i64 b] 25)) (Obj.cells #[.int .i64 x1, .int .i64 x2] 42)) (Obj.cells #[.int .i64 y1, .int .i64 y2] 42)) (Obj.cells #[.int .i64 0, .int .i64 0] 42)) (Obj.cells #[.int .i64 0, .int .i64 0] 42)) hb4)
        clear hb4
        clear hw9
        go_cut [40] from 25 to 40 (fun r wx => r = .bool false ∧ Below w4.heap.size w4 wx)
        case first =>
          by_cases hx1 : x1 = e
          · have hx2 : ¬ x2 = 1 := fun h => hxe ⟨hx1, h⟩
            have z1 : (x1 == e) = true := by rw [hx1]; simp
            have z2 : (x2 == 1) = false := beq_eq_false_iff_ne.2 hx2
            have z3 : decide (x1 = e) = true := decide_eq_true hx1
            clear hxe hx1
            have qC0 : w4.cell? ⟨w.heap.size, 0, none⟩ = some (.int .i64 a) := C.out.cell 0
            have qC1 : w4.cell? ⟨w.heap.size, 1, none⟩ = some (.int .i64 b) := C.out.cell 1
            have qCl := C.out.lt
            have qX0 : w4.cell? ⟨w.heap.size + 1, 0, none⟩ = some (.int .i64 x1) := X.out.cell 0
            have qX1 : w4.cell? ⟨w.heap.size + 1, 1, none⟩ = some (.int .i64 x2) := X.out.cell 1
            have qXl := X.out.lt
            have qY0 : w4.cell? ⟨w.heap.size + 1 + 1, 0, none⟩ = some (.int .i64 y1) := Y.out.cell 0
            have qY1 : w4.cell? ⟨w.heap.size + 1 + 1, 1, none⟩ = some (.int .i64 y2) := Y.out.cell 1
            have qYl := Y.out.lt
            go_wp2_with fail
            refine wp_region_tame (by kernel_rfl) (by kernel_rfl) (fun T _ W hT => ?_)
            have hx := hT.cell
            repeat (go_big_quiet_step ((first | (go_at_call 47; with_reducible exact hT.call (ask_lit Hk1.out _)) | (go_at_call 70; with_reducible exact hT.call (two_lit Hk2.out _)) | (go_at_call 71; with_reducible exact hT.call (frInt_any e _)) | fail)))
            refine wpQuiet_nil ?_
            intro tt
            clear hx
            go_wp2
            go_meet
            exact ⟨rfl, hT.below tt⟩
          · have z1 : (x1 == e) = false := beq_eq_false_iff_ne.2 hx1
            clear hxe
            have qC0 : w4.cell? ⟨w.heap.size, 0, none⟩ = some (.int .i64 a) := C.out.cell 0
            have qC1 : w4.cell? ⟨w.heap.size, 1, none⟩ = some (.int .i64 b) := C.out.cell 1
            have qCl := C.out.lt
            have qX0 : w4.cell? ⟨w.heap.size + 1, 0, none⟩ = some (.int .i64 x1) := X.out.cell 0
            have qX1 : w4.cell? ⟨w.heap.size + 1, 1, none⟩ = some (.int .i64 x2) := X.out.cell 1
            have qXl := X.out.lt
            have qY0 : w4.cell? ⟨w.heap.size + 1 + 1, 0, none⟩ = some (.int .i64 y1) := Y.out.cell 0
            have qY1 : w4.cell? ⟨w.heap.size + 1 + 1, 1, none⟩ = some (.int .i64 y2) := Y.out.cell 1
            have qYl := Y.out.lt
            go_wp2_with fail
            refine wp_region_tame (by kernel_rfl) (by kernel_rfl) (fun T _ W hT => ?_)
            have hx := hT.cell
            repeat (go_big_quiet_step ((first | (go_at_call 47; with_reducible exact hT.call (ask_lit Hk1.out _)) | (go_at_call 70; with_reducible exact hT.call (two_lit Hk2.out _)) | (go_at_call 71; with_reducible exact hT.call (frInt_any e _)) | fail)))
            refine wpQuiet_nil ?_
            intro tt
            clear hx
            go_wp2
            go_meet
            exact ⟨rfl, hT.below tt⟩
        obtain ⟨rfl, hb5⟩ := hcut
        obtain ⟨w5, hw9⟩ : ∃ x, x = wc := ⟨_, rfl⟩; subst hw9
        have S5 := Lib.hid (show w4.heap.size + 0 ≤ w5.heap.size by have h9 := hb5.size; (try simp only [World.size_alloc, World.size_setCell, World.size_drew] at h9); omega)
        have Z5 := Lib.hid (And.intro S4.out S5.out)
        have NC := Lib.hid (C.out.on hb5)
        have NX := Lib.hid (X.out.on hb5)
        have NY := Lib.hid (Y.out.on hb5)
        have NR := Lib.hid (R.out.on hb5)
        have NQ := Lib.hid (Q.out.on hb5)
        have C := NC; clear NC
        have X := NX; clear NX
        have Y := NY; clear NY
        have R := NR; clear NR
        have Q := NQ; clear NQ
        have Hb5 := Lib.hid (bthen Hb4.out hb5)
        clear hb5
        clear hxe
        have qC0 : w5.cell? ⟨w.heap.size, 0, none⟩ = some (.int .i64 a) := C.out.cell 0
        have qC1 : w5.cell? ⟨w.heap.size, 1, none⟩ = some (.int .i64 b) := C.out.cell 1
        have qCl := C.out.lt
        have qX0 : w5.cell? ⟨w.heap.size + 1, 0, none⟩ = some (.int .i64 x1) := X.out.cell 0
        have qX1 : w5.cell? ⟨w.heap.size + 1, 1, none⟩ = some (.int .i64 x2) := X.out.cell 1
        have qXl := X.out.lt
        have qY0 : w5.cell? ⟨w.heap.size + 1 + 1, 0, none⟩ = some (.int .i64 y1) := Y.out.cell 0
        have qY1 : w5.cell? ⟨w.heap.size + 1 + 1, 1, none⟩ = some (.int .i64 y2) := Y.out.cell 1
        have qYl := Y.out.lt
        go_wp2_with fail
        clear qC0 qC1 qCl qX0 qX1 qXl qY0 qY1 qYl
        refine (icOn_any a b x1 x2 y1 y2 _ ha hb Hx.out Hy.out).mono ?_; rintro e w6 ⟨⟨p, q, rfl, hpq⟩, hb6⟩
        have S6 := Lib.hid (show w5.heap.size + 0 ≤ w6.heap.size by have h9 := hb6.size; (try simp only [World.size_alloc, World.size_setCell, World.size_drew] at h9); omega)
        have Z6 := Lib.hid (And.intro Z5.out S6.out)
        have NC := Lib.hid (C.out.on hb6)
        have NX := Lib.hid (X.out.on hb6)
        have NY := Lib.hid (Y.out.on hb6)
        have NR := Lib.hid (R.out.on hb6)
        have NQ := Lib.hid (Q.out.on hb6)
        have C := NC; clear NC
        have X := NX; clear NX
        have Y := NY; clear NY
        have R := NR; clear NR
        have Q := NQ; clear NQ
        have Hb6 := Lib.hid (bthen Hb5.out hb6)
        clear hb6
        have Hpq := Lib.hid hpq; clear hpq
        cases p
        · have qR0 : w6.cell? ⟨w.heap.size + 1 + 1 + 1, 0, none⟩ = some (.int .i64 0) := R.out.cell 0
          have qR1 : w6.cell? ⟨w.heap.size + 1 + 1 + 1, 1, none⟩ = some (.int .i64 0) := R.out.cell 1
          have qRl := R.out.lt
          have qRf0 := R.out.frozen 0
          have qRf1 := R.out.frozen 1
          have qQ0 : w6.cell? ⟨w.heap.size + 1 + 1 + 1 + 1, 0, none⟩ = some (.int .i64 0) := Q.out.cell 0
          have qQ1 : w6.cell? ⟨w.heap.size + 1 + 1 + 1 + 1, 1, none⟩ = some (.int .i64 0) := Q.out.cell 1
          have qQl := Q.out.lt
          have qQf0 := Q.out.frozen 0
          have qQf1 := Q.out.frozen 1
          have nQR : w.heap.size + 1 + 1 + 1 + 1 ≠ w.heap.size + 1 + 1 + 1 := by have := Z6.out; (try simp only [World.size_alloc, World.size_setCell, World.size_drew]); omega
          have nRQ : w.heap.size + 1 + 1 + 1 ≠ w.heap.size + 1 + 1 + 1 + 1 := fun e => nQR e.symm
          go_wp2
          clear qR0 qR1 qRl qRf0 qRf1 qQ0 qQ1 qQl qQf0 qQf1 nQR nRQ
          have R9R := (show Blk (World.setCell (World.setCell (World.setCell (World.setCell w6 ⟨w.heap.size + 1 + 1 + 1, 0, none⟩ (.int .i64 0)) ⟨w.heap.size + 1 + 1 + 1, 1, none⟩ (.int .i64 0)) ⟨w.heap.size + 1 + 1 + 1 + 1, 0, none⟩ (.int .i64 0)) ⟨w.heap.size + 1 + 1 + 1 + 1, 1, none⟩ (.int .i64 0)) (w.heap.size + 1 + 1 + 1) 42 #[.int .i64 0, .int .i64 0] by have h9 := ((((R.out.set 0 (.int .i64 0)).set 1 (.int .i64 0)).far (p := ⟨w.heap.size + 1 + 1 + 1 + 1, 0, none⟩) (show w.heap.size + 1 + 1 + 1 ≠ w.heap.size + 1 + 1 + 1 + 1 by have := Z6.out; (try simp only [World.size_alloc, World.size_setCell, World.size_drew]); omega) (.int .i64 0)).far (p := ⟨w.heap.size + 1 + 1 + 1 + 1, 1, none⟩) (show w.heap.size + 1 + 1 + 1 ≠ w.heap.size + 1 + 1 + 1 + 1 by have := Z6.out; (try simp only [World.size_alloc, World.size_setCell, World.size_drew]); omega) (.int .i64 0)); simpa using h9)
          have kR0 := R9R.cell 0
          have kR1 := R9R.cell 1
          have R9Q := (show Blk (World.setCell (World.setCell (World.setCell (World.setCell w6 ⟨w.heap.size + 1 + 1 + 1, 0, none⟩ (.int .i64 0)) ⟨w.heap.size + 1 + 1 + 1, 1, none⟩ (.int .i64 0)) ⟨w.heap.size + 1 + 1 + 1 + 1, 0, none⟩ (.int .i64 0)) ⟨w.heap.size + 1 + 1 + 1 + 1, 1, none⟩ (.int .i64 0)) (w.heap.size + 1 + 1 + 1 + 1) 42 #[.int .i64 0, .int .i64 0] by have h9 := ((((Q.out.far (p := ⟨w.heap.size + 1 + 1 + 1, 0, none⟩) (show w.heap.size + 1 + 1 + 1 + 1 ≠ w.heap.size + 1 + 1 + 1 by have := Z6.out; (try simp only [World.size_alloc, World.size_setCell, World.size_drew]); omega) (.int .i64 0)).far (p := ⟨w.heap.size + 1 + 1 + 1, 1, none⟩) (show w.heap.size + 1 + 1 + 1 + 1 ≠ w.heap.size + 1 + 1 + 1 by have := Z6.out; (try simp only [World.size_alloc, World.size_setCell, World.size_drew]); omega) (.int .i64 0)).set 0 (.int .i64 0)).set 1 (.int .i64 0)); simpa using h9)
          have kQ0 := R9Q.cell 0
          have kQ1 := R9Q.cell 1
          simp at kR0 kR1 kQ0 kQ1
          exact bodyPost_ret (v := .tuple #[.agg #[.int .i64 0, .int .i64 0], .agg #[.int .i64 0, .int .i64 0], .bool false]) (by simp [results, Tryz.results20, go_sem, kR0, kR1, kQ0, kQ1]) rfl ⟨by rw [show carV a b e (x1, x2) (y1, y2) = none from by exact car_out (.inr (.inr (.inr Hpq.out.symm)))]; rfl, (bst (bst (bst (bst Hb6.out (p := ⟨w.heap.size + 1 + 1 + 1, 0, none⟩) (show w.heap.size ≤ w.heap.size + 1 + 1 + 1 by have := Z6.out; (try simp only [World.size_alloc, World.size_setCell, World.size_drew]); omega) (.int .i64 0)) (p := ⟨w.heap.size + 1 + 1 + 1, 1, none⟩) (show w.heap.size ≤ w.heap.size + 1 + 1 + 1 by have := Z6.out; (try simp only [World.size_alloc, World.size_setCell, World.size_drew]); omega) (.int .i64 0)) (p := ⟨w.heap.size + 1 + 1 + 1 + 1, 0, none⟩) (show w.heap.size ≤ w.heap.size + 1 + 1 + 1 + 1 by have := Z6.out; (try simp only [World.size_alloc, World.size_setCell, World.size_drew]); omega) (.int .i64 0)) (p := ⟨w.heap.size + 1 + 1 + 1 + 1, 1, none⟩) (show w.heap.size ≤ w.heap.size + 1 + 1 + 1 + 1 by have := Z6.out; (try simp only [World.size_alloc, World.size_setCell, World.size_drew]); omega) (.int .i64 0))⟩
        · cases q
          · have qR0 : w6.cell? ⟨w.heap.size + 1 + 1 + 1, 0, none⟩ = some (.int .i64 0) := R.out.cell 0
            have qR1 : w6.cell? ⟨w.heap.size + 1 + 1 + 1, 1, none⟩ = some (.int .i64 0) := R.out.cell 1
            have qRl := R.out.lt
            have qRf0 := R.out.frozen 0
            have qRf1 := R.out.frozen 1
            have qQ0 : w6.cell? ⟨w.heap.size + 1 + 1 + 1 + 1, 0, none⟩ = some (.int .i64 0) := Q.out.cell 0
            have qQ1 : w6.cell? ⟨w.heap.size + 1 + 1 + 1 + 1, 1, none⟩ = some (.int .i64 0) := Q.out.cell 1
            have qQl := Q.out.lt
            have qQf0 := Q.out.frozen 0
            have qQf1 := Q.out.frozen 1
            have nQR : w.heap.size + 1 + 1 + 1 + 1 ≠ w.heap.size + 1 + 1 + 1 := by have := Z6.out; (try simp only [World.size_alloc, World.size_setCell, World.size_drew]); omega
            have nRQ : w.heap.size + 1 + 1 + 1 ≠ w.heap.size + 1 + 1 + 1 + 1 := fun e => nQR e.symm
            go_wp2
            clear qR0 qR1 qRl qRf0 qRf1 qQ0 qQ1 qQl qQf0 qQf1 nQR nRQ
            have R9R := (show Blk (World.setCell (World.setCell (World.setCell (World.setCell w6 ⟨w.heap.size + 1 + 1 + 1, 0, none⟩ (.int .i64 0)) ⟨w.heap.size + 1 + 1 + 1, 1, none⟩ (.int .i64 0)) ⟨w.heap.size + 1 + 1 + 1 + 1, 0, none⟩ (.int .i64 0)) ⟨w.heap.size + 1 + 1 + 1 + 1, 1, none⟩ (.int .i64 0)) (w.heap.size + 1 + 1 + 1) 42 #[.int .i64 0, .int .i64 0] by have h9 := ((((R.out.set 0 (.int .i64 0)).set 1 (.int .i64 0)).far (p := ⟨w.heap.size + 1 + 1 + 1 + 1, 0, none⟩) (show w.heap.size + 1 + 1 + 1 ≠ w.heap.size + 1 + 1 + 1 + 1 by have := Z6.out; (try simp only [World.size_alloc, World.size_setCell, World.size_drew]); omega) (.int .i64 0)).far (p := ⟨w.heap.size + 1 + 1 + 1 + 1, 1, none⟩) (show w.heap.size + 1 + 1 + 1 ≠ w.heap.size + 1 + 1 + 1 + 1 by have := Z6.out; (try simp only [World.size_alloc, World.size_setCell, World.size_drew]); omega) (.int .i64 0)); simpa using h9)
            have kR0 := R9R.cell 0
            have kR1 := R9R.cell 1
            have R9Q := (show Blk (World.setCell (World.setCell (World.setCell (World.setCell w6 ⟨w.heap.size + 1 + 1 + 1, 0, none⟩ (.int .i64 0)) ⟨w.heap.size + 1 + 1 + 1, 1, none⟩ (.int .i64 0)) ⟨w.heap.size + 1 + 1 + 1 + 1, 0, none⟩ (.int .i64 0)) ⟨w.heap.size + 1 + 1 + 1 + 1, 1, none⟩ (.int .i64 0)) (w.heap.size + 1 + 1 + 1 + 1) 42 #[.int .i64 0, .int .i64 0] by have h9 := ((((Q.out.far (p := ⟨w.heap.size + 1 + 1 + 1, 0, none⟩) (show w.heap.size + 1 + 1 + 1 + 1 ≠ w.heap.size + 1 + 1 + 1 by have := Z6.out; (try simp only [World.size_alloc, World.size_setCell, World.size_drew]); omega) (.int .i64 0)).far (p := ⟨w.heap.size + 1 + 1 + 1, 1, none⟩) (show w.heap.size + 1 + 1 + 1 + 1 ≠ w.heap.size + 1 + 1 + 1 by have := Z6.out; (try simp only [World.size_alloc, World.size_setCell, World.size_drew]); omega) (.int .i64 0)).set 0 (.int .i64 0)).set 1 (.int .i64 0)); simpa using h9)
            have kQ0 := R9Q.cell 0
            have kQ1 := R9Q.cell 1
            simp at kR0 kR1 kQ0 kQ1
            exact bodyPost_ret (v := .tuple #[.agg #[.int .i64 0, .int .i64 0], .agg #[.int .i64 0, .int .i64 0], .bool false]) (by simp [results, Tryz.results20, go_sem, kR0, kR1, kQ0, kQ1]) rfl ⟨by rw [show carV a b e (x1, x2) (y1, y2) = none from by exact car_out (.inr (.inr (.inr Hpq.out.symm)))]; rfl, (bst (bst (bst (bst Hb6.out (p := ⟨w.heap.size + 1 + 1 + 1, 0, none⟩) (show w.heap.size ≤ w.heap.size + 1 + 1 + 1 by have := Z6.out; (try simp only [World.size_alloc, World.size_setCell, World.size_drew]); omega) (.int .i64 0)) (p := ⟨w.heap.size + 1 + 1 + 1, 1, none⟩) (show w.heap.size ≤ w.heap.size + 1 + 1 + 1 by have := Z6.out; (try simp only [World.size_alloc, World.size_setCell, World.size_drew]); omega) (.int .i64 0)) (p := ⟨w.heap.size + 1 + 1 + 1 + 1, 0, none⟩) (show w.heap.size ≤ w.heap.size + 1 + 1 + 1 + 1 by have := Z6.out; (try simp only [World.size_alloc, World.size_setCell, World.size_drew]); omega) (.int .i64 0)) (p := ⟨w.heap.size + 1 + 1 + 1 + 1, 1, none⟩) (show w.heap.size ≤ w.heap.size + 1 + 1 + 1 + 1 by have := Z6.out; (try simp only [World.size_alloc, World.size_setCell, World.size_drew]); omega) (.int .i64 0))⟩
          · have Hin := Lib.hid (car_in Hk1.out Hk2.out Hne.out Hpq.out.symm)
            clear Hpq
            go_wp2_with fail
            go_wp2_with fail
            have qX0 : w6.cell? ⟨w.heap.size + 1, 0, none⟩ = some (.int .i64 x1) := X.out.cell 0
            have qX1 : w6.cell? ⟨w.heap.size + 1, 1, none⟩ = some (.int .i64 x2) := X.out.cell 1
            have qXl := X.out.lt
            have HS : Hid (∀ w', Below w6.heap.size w6 w' → (w'.cell? ⟨w.heap.size + 1, 0, none⟩ = some (.int .i64 x1) ∧ w'.cell? ⟨w.heap.size + 1, 1, none⟩ = some (.int .i64 x2) ∧ Below w6.heap.size w6 w')) := Lib.hid (fun w' hw => ⟨(hw.cell (p := ⟨w.heap.size + 1, 0, none⟩) qXl).trans qX0, (hw.cell (p := ⟨w.heap.size + 1, 1, none⟩) qXl).trans qX1, hw⟩)
            have hdt : Below w6.heap.size w6 w6 := Below.refl _ _
            go_cut [13, 14] (fun p0 p1 wx => ∃ q : Nat, p0 = .pointer (some ⟨q, 0, none⟩) ∧ p1 = .bool o6 ∧ Blk wx q 42 #[.int .i64 f1, .int .i64 f2] ∧ w6.heap.size ≤ q ∧ Below w6.heap.size w6 wx)
            case first =>
              go_region_held3 (fun w' => w'.cell? ⟨w.heap.size + 1, 0, none⟩ = some (.int .i64 x1) ∧ w'.cell? ⟨w.heap.size + 1, 1, none⟩ = some (.int .i64 x2) ∧ Below w6.heap.size w6 w') ((go_split_ands; refine HS.out _ ?_; repeat (first | (with_reducible assumption) | (with_reducible exact Below.refl _ _) | (with_reducible refine Below.drew ?_) | (with_reducible refine bal ?_ _) | (with_reducible refine bst ?_ (by dsimp only; omega) _) | (with_reducible refine bthen ?_ (by with_reducible assumption))))) ((first | (go_at_call 71; with_reducible refine Calls.mono (frInt_any e _) ?_; rintro e fw1 ⟨rfl, hfw1⟩; have sfw1 : w6.heap.size ≤ fw1.heap.size := (by have h9 := hfw1.size; (try simp only [World.size_alloc, World.size_drew] at h9); omega); first | (have hz := Blk.on Hz.out hfw1; clear Hz; have Hz := Lib.hid hz; clear hz) | (have hz : Blk fw1 w6.heap.size 42 #[.int .i64 0, .int .i64 0] := (by with_reducible exact Blk.on (Blk.new w6 42 #[.int .i64 0, .int .i64 0]) hfw1); have hz : Blk fw1 w6.heap.size 42 #[.int .i64 0, .int .i64 0] := hz; have Hz := Lib.hid hz; clear hz) | (have hz : Blk fw1 w6.heap.size 42 #[.int .i64 0, .int .i64 0] := (by with_reducible exact Blk.on (Blk.drew (Blk.new w6 42 #[.int .i64 0, .int .i64 0])) hfw1); have hz : Blk fw1 w6.heap.size 42 #[.int .i64 0, .int .i64 0] := hz; have Hz := Lib.hid hz; clear hz) | (have hz : Blk fw1 (World.drew w6).heap.size 42 #[.int .i64 0, .int .i64 0] := (by with_reducible exact Blk.on (Blk.new (World.drew w6) 42 #[.int .i64 0, .int .i64 0]) hfw1); have hz : Blk fw1 w6.heap.size 42 #[.int .i64 0, .int .i64 0] := hz; have Hz := Lib.hid hz; clear hz) | skip) | (go_at_call 73; with_reducible refine Calls.mono (subS_lit F6.out Hx.out Hi.out _) ?_; rintro e fw2 ⟨rfl, hfw2⟩; have sfw2 : w6.heap.size ≤ fw2.heap.size := (by have h9 := hfw2.size; (try simp only [World.size_alloc, World.size_drew] at h9); omega); first | (have hz := Blk.on Hz.out hfw2; clear Hz; have zc0 := hz.cell 0; have zf0 := hz.frozen 0; have zc1 := hz.cell 1; have zf1 := hz.frozen 1; have zl := hz.lt; simp at zc0 zc1; have Hz := Lib.hid hz; clear hz) | (have hz : Blk fw2 fw1.heap.size 42 #[.int .i64 0, .int .i64 0] := (by with_reducible exact Blk.on (Blk.new fw1 42 #[.int .i64 0, .int .i64 0]) hfw2); have hz : Blk fw2 fw1.heap.size 42 #[.int .i64 0, .int .i64 0] := hz; have zc0 := hz.cell 0; have zf0 := hz.frozen 0; have zc1 := hz.cell 1; have zf1 := hz.frozen 1; have zl := hz.lt; simp at zc0 zc1; have Hz := Lib.hid hz; clear hz) | skip)))
              all_goals go_wp2_with fail
              all_goals go_meet
              all_goals first
                | with_reducible exact ⟨_, rfl, rfl, Blk.new _ _ _, (by (try simp only [World.size_alloc, World.size_drew, World.size_setCell]); omega), (by repeat (first | (with_reducible assumption) | (with_reducible exact Below.refl _ _) | (with_reducible refine Below.drew ?_) | (with_reducible refine bal ?_ _) | (with_reducible refine bst ?_ (by dsimp only; (try simp only [World.size_alloc, World.size_drew, World.size_setCell]); omega) _) | (with_reducible refine bthen ?_ (by with_reducible assumption))))⟩
                | exact ⟨_, rfl, rfl, Blk.set2 Hz.out, (by (try simp only [World.size_alloc, World.size_drew, World.size_setCell]); omega), (by repeat (first | (with_reducible assumption) | (with_reducible exact Below.refl _ _) | (with_reducible refine Below.drew ?_) | (with_reducible refine bal ?_ _) | (with_reducible refine bst ?_ (by dsimp only; (try simp only [World.size_alloc, World.size_drew, World.size_setCell]); omega) _) | (with_reducible refine bthen ?_ (by with_reducible assumption))))⟩
            obtain ⟨q7, rfl, rfl, hB7, hq7, hb7⟩ := hcut
            clear HS hdt qX0 qX1 qXl
            obtain ⟨w7, hw9⟩ : ∃ x, x = wc := ⟨_, rfl⟩; subst hw9
            have S7 := Lib.hid (show w6.heap.size + 0 ≤ w7.heap.size by have h9 := hb7.size; (try simp only [World.size_alloc, World.size_setCell, World.size_drew] at h9); omega)
            have Z7 := Lib.hid (And.intro Z6.out S7.out)
            have NC := Lib.hid (C.out.on hb7)
            have NX := Lib.hid (X.out.on hb7)
            have NY := Lib.hid (Y.out.on hb7)
            have NR := Lib.hid (R.out.on hb7)
            have NQ := Lib.hid (Q.out.on hb7)
            have C := NC; clear NC
            have X := NX; clear NX
            have Y := NY; clear NY
            have R := NR; clear NR
            have Q := NQ; clear NQ
            have Hb7 := Lib.hid (bthen Hb6.out hb7)
            clear hb7
            have Qq7 := Lib.hid hq7; have Qw7 := Lib.hid hB7.lt; have A6 := Lib.hid hB7; clear hq7 hB7
            cases o6
            · have qR0 : w7.cell? ⟨w.heap.size + 1 + 1 + 1, 0, none⟩ = some (.int .i64 0) := R.out.cell 0
              have qR1 : w7.cell? ⟨w.heap.size + 1 + 1 + 1, 1, none⟩ = some (.int .i64 0) := R.out.cell 1
              have qRl := R.out.lt
              have qRf0 := R.out.frozen 0
              have qRf1 := R.out.frozen 1
              have qQ0 : w7.cell? ⟨w.heap.size + 1 + 1 + 1 + 1, 0, none⟩ = some (.int .i64 0) := Q.out.cell 0
              have qQ1 : w7.cell? ⟨w.heap.size + 1 + 1 + 1 + 1, 1, none⟩ = some (.int .i64 0) := Q.out.cell 1
              have qQl := Q.out.lt
              have qQf0 := Q.out.frozen 0
              have qQf1 := Q.out.frozen 1
              have nQR : w.heap.size + 1 + 1 + 1 + 1 ≠ w.heap.size + 1 + 1 + 1 := by have := Z7.out; have := Qq7.out; have := Qw7.out; (try simp only [World.size_alloc, World.size_setCell, World.size_drew]); omega
              have nRQ : w.heap.size + 1 + 1 + 1 ≠ w.heap.size + 1 + 1 + 1 + 1 := fun e => nQR e.symm
              go_wp2
              clear qR0 qR1 qRl qRf0 qRf1 qQ0 qQ1 qQl qQf0 qQf1 nQR nRQ
              have R9R := (show Blk (World.setCell (World.setCell (World.setCell (World.setCell w7 ⟨w.heap.size + 1 + 1 + 1, 0, none⟩ (.int .i64 0)) ⟨w.heap.size + 1 + 1 + 1, 1, none⟩ (.int .i64 0)) ⟨w.heap.size + 1 + 1 + 1 + 1, 0, none⟩ (.int .i64 0)) ⟨w.heap.size + 1 + 1 + 1 + 1, 1, none⟩ (.int .i64 0)) (w.heap.size + 1 + 1 + 1) 42 #[.int .i64 0, .int .i64 0] by have h9 := ((((R.out.set 0 (.int .i64 0)).set 1 (.int .i64 0)).far (p := ⟨w.heap.size + 1 + 1 + 1 + 1, 0, none⟩) (show w.heap.size + 1 + 1 + 1 ≠ w.heap.size + 1 + 1 + 1 + 1 by have := Z7.out; have := Qq7.out; have := Qw7.out; (try simp only [World.size_alloc, World.size_setCell, World.size_drew]); omega) (.int .i64 0)).far (p := ⟨w.heap.size + 1 + 1 + 1 + 1, 1, none⟩) (show w.heap.size + 1 + 1 + 1 ≠ w.heap.size + 1 + 1 + 1 + 1 by have := Z7.out; have := Qq7.out; have := Qw7.out; (try simp only [World.size_alloc, World.size_setCell, World.size_drew]); omega) (.int .i64 0)); simpa using h9)
              have kR0 := R9R.cell 0
              have kR1 := R9R.cell 1
              have R9Q := (show Blk (World.setCell (World.setCell (World.setCell (World.setCell w7 ⟨w.heap.size + 1 + 1 + 1, 0, none⟩ (.int .i64 0)) ⟨w.heap.size + 1 + 1 + 1, 1, none⟩ (.int .i64 0)) ⟨w.heap.size + 1 + 1 + 1 + 1, 0, none⟩ (.int .i64 0)) ⟨w.heap.size + 1 + 1 + 1 + 1, 1, none⟩ (.int .i64 0)) (w.heap.size + 1 + 1 + 1 + 1) 42 #[.int .i64 0, .int .i64 0] by have h9 := ((((Q.out.far (p := ⟨w.heap.size + 1 + 1 + 1, 0, none⟩) (show w.heap.size + 1 + 1 + 1 + 1 ≠ w.heap.size + 1 + 1 + 1 by have := Z7.out; have := Qq7.out; have := Qw7.out; (try simp only [World.size_alloc, World.size_setCell, World.size_drew]); omega) (.int .i64 0)).far (p := ⟨w.heap.size + 1 + 1 + 1, 1, none⟩) (show w.heap.size + 1 + 1 + 1 + 1 ≠ w.heap.size + 1 + 1 + 1 by have := Z7.out; have := Qq7.out; have := Qw7.out; (try simp only [World.size_alloc, World.size_setCell, World.size_drew]); omega) (.int .i64 0)).set 0 (.int .i64 0)).set 1 (.int .i64 0)); simpa using h9)
              have kQ0 := R9Q.cell 0
              have kQ1 := R9Q.cell 1
              simp at kR0 kR1 kQ0 kQ1
              exact bodyPost_ret (v := .tuple #[.agg #[.int .i64 0, .int .i64 0], .agg #[.int .i64 0, .int .i64 0], .bool false]) (by simp [results, Tryz.results20, go_sem, kR0, kR1, kQ0, kQ1]) rfl ⟨by rw [show carV a b e (x1, x2) (y1, y2) = none from by rw [Hin.out]; unfold crV; simp only [Option.bind, (F6.out.no rfl).1]]; rfl, (bst (bst (bst (bst Hb7.out (p := ⟨w.heap.size + 1 + 1 + 1, 0, none⟩) (show w.heap.size ≤ w.heap.size + 1 + 1 + 1 by have := Z7.out; have := Qq7.out; have := Qw7.out; (try simp only [World.size_alloc, World.size_setCell, World.size_drew]); omega) (.int .i64 0)) (p := ⟨w.heap.size + 1 + 1 + 1, 1, none⟩) (show w.heap.size ≤ w.heap.size + 1 + 1 + 1 by have := Z7.out; have := Qq7.out; have := Qw7.out; (try simp only [World.size_alloc, World.size_setCell, World.size_drew]); omega) (.int .i64 0)) (p := ⟨w.heap.size + 1 + 1 + 1 + 1, 0, none⟩) (show w.heap.size ≤ w.heap.size + 1 + 1 + 1 + 1 by have := Z7.out; have := Qq7.out; have := Qw7.out; (try simp only [World.size_alloc, World.size_setCell, World.size_drew]); omega) (.int .i64 0)) (p := ⟨w.heap.size + 1 + 1 + 1 + 1, 1, none⟩) (show w.heap.size ≤ w.heap.size + 1 + 1 + 1 + 1 by have := Z7.out; have := Qq7.out; have := Qw7.out; (try simp only [World.size_alloc, World.size_setCell, World.size_drew]); omega) (.int .i64 0))⟩
            · have E6 := Lib.hid (F6.out.yes rfl)
              have G6 := Lib.hid (subF_good E6.out)
              obtain ⟨d1, d2, o9, h9⟩ := FrQ.ex (divF 1000000000 (3 * e * e + a, 1) (f1, f2))
              have F9 := Lib.hid h9; clear h9
              have wr1 : IntKind.i64.wrap (3 * e) = 3 * e := by rw [IntKind.wrap_i64]; omega
              have wr2 : IntKind.i64.wrap (3 * e * e) = 3 * e * e := by rw [IntKind.wrap_i64]; omega
              have wr3 : IntKind.i64.wrap (3 * e * e + a) = 3 * e * e + a := by rw [IntKind.wrap_i64]; omega
              go_wp2_with fail
              go_wp2_with fail
              have qC0 : w7.cell? ⟨w.heap.size, 0, none⟩ = some (.int .i64 a) := C.out.cell 0
              have qC1 : w7.cell? ⟨w.heap.size, 1, none⟩ = some (.int .i64 b) := C.out.cell 1
              have qCl := C.out.lt
              have qA60 : w7.cell? ⟨q7, 0, none⟩ = some (.int .i64 f1) := A6.out.cell 0
              have qA61 : w7.cell? ⟨q7, 1, none⟩ = some (.int .i64 f2) := A6.out.cell 1
              have qA6l := A6.out.lt
              have HS : Hid (∀ w', Below w7.heap.size w7 w' → (w'.cell? ⟨w.heap.size, 0, none⟩ = some (.int .i64 a) ∧ w'.cell? ⟨w.heap.size, 1, none⟩ = some (.int .i64 b) ∧ w'.cell? ⟨q7, 0, none⟩ = some (.int .i64 f1) ∧ w'.cell? ⟨q7, 1, none⟩ = some (.int .i64 f2) ∧ Below w7.heap.size w7 w')) := Lib.hid (fun w' hw => ⟨(hw.cell (p := ⟨w.heap.size, 0, none⟩) qCl).trans qC0, (hw.cell (p := ⟨w.heap.size, 1, none⟩) qCl).trans qC1, (hw.cell (p := ⟨q7, 0, none⟩) qA6l).trans qA60, (hw.cell (p := ⟨q7, 1, none⟩) qA6l).trans qA61, hw⟩)
              have hdt : Below w7.heap.size w7 w7 := Below.refl _ _
              go_cut [15, 16] (fun p0 p1 wx => ∃ q : Nat, p0 = .pointer (some ⟨q, 0, none⟩) ∧ p1 = .bool o9 ∧ Blk wx q 42 #[.int .i64 d1, .int .i64 d2] ∧ w7.heap.size ≤ q ∧ Below w7.heap.size w7 wx)
              case first =>
                go_region_held3 (fun w' => w'.cell? ⟨w.heap.size, 0, none⟩ = some (.int .i64 a) ∧ w'.cell? ⟨w.heap.size, 1, none⟩ = some (.int .i64 b) ∧ w'.cell? ⟨q7, 0, none⟩ = some (.int .i64 f1) ∧ w'.cell? ⟨q7, 1, none⟩ = some (.int .i64 f2) ∧ Below w7.heap.size w7 w') ((go_split_ands; refine HS.out _ ?_; repeat (first | (with_reducible assumption) | (with_reducible exact Below.refl _ _) | (with_reducible refine Below.drew ?_) | (with_reducible refine bal ?_ _) | (with_reducible refine bst ?_ (by dsimp only; omega) _) | (with_reducible refine bthen ?_ (by with_reducible assumption))))) ((first | (go_at_call 71; with_reducible refine Calls.mono (frInt_any (3 * e * e + a) _) ?_; rintro e fw1 ⟨rfl, hfw1⟩; have sfw1 : w7.heap.size ≤ fw1.heap.size := (by have h9 := hfw1.size; (try simp only [World.size_alloc, World.size_drew] at h9); omega); first | (have hz := Blk.on Hz.out hfw1; clear Hz; have Hz := Lib.hid hz; clear hz) | (have hz : Blk fw1 w7.heap.size 42 #[.int .i64 0, .int .i64 0] := (by with_reducible exact Blk.on (Blk.new w7 42 #[.int .i64 0, .int .i64 0]) hfw1); have hz : Blk fw1 w7.heap.size 42 #[.int .i64 0, .int .i64 0] := hz; have Hz := Lib.hid hz; clear hz) | (have hz : Blk fw1 w7.heap.size 42 #[.int .i64 0, .int .i64 0] := (by with_reducible exact Blk.on (Blk.drew (Blk.new w7 42 #[.int .i64 0, .int .i64 0])) hfw1); have hz : Blk fw1 w7.heap.size 42 #[.int .i64 0, .int .i64 0] := hz; have Hz := Lib.hid hz; clear hz) | (have hz : Blk fw1 (World.drew w7).heap.size 42 #[.int .i64 0, .int .i64 0] := (by with_reducible exact Blk.on (Blk.new (World.drew w7) 42 #[.int .i64 0, .int .i64 0]) hfw1); have hz : Blk fw1 w7.heap.size 42 #[.int .i64 0, .int .i64 0] := hz; have Hz := Lib.hid hz; clear hz) | skip) | (go_at_call 74; with_reducible refine Calls.mono (divS_lit F9.out Ht.out G6.out _) ?_; rintro e fw2 ⟨rfl, hfw2⟩; have sfw2 : w7.heap.size ≤ fw2.heap.size := (by have h9 := hfw2.size; (try simp only [World.size_alloc, World.size_drew] at h9); omega); first | (have hz := Blk.on Hz.out hfw2; clear Hz; have zc0 := hz.cell 0; have zf0 := hz.frozen 0; have zc1 := hz.cell 1; have zf1 := hz.frozen 1; have zl := hz.lt; simp at zc0 zc1; have Hz := Lib.hid hz; clear hz) | (have hz : Blk fw2 fw1.heap.size 42 #[.int .i64 0, .int .i64 0] := (by with_reducible exact Blk.on (Blk.new fw1 42 #[.int .i64 0, .int .i64 0]) hfw2); have hz : Blk fw2 fw1.heap.size 42 #[.int .i64 0, .int .i64 0] := hz; have zc0 := hz.cell 0; have zf0 := hz.frozen 0; have zc1 := hz.cell 1; have zf1 := hz.frozen 1; have zl := hz.lt; simp at zc0 zc1; have Hz := Lib.hid hz; clear hz) | skip)))
                all_goals go_wp2_with fail
                all_goals go_meet
                all_goals first
                  | with_reducible exact ⟨_, rfl, rfl, Blk.new _ _ _, (by (try simp only [World.size_alloc, World.size_drew, World.size_setCell]); omega), (by repeat (first | (with_reducible assumption) | (with_reducible exact Below.refl _ _) | (with_reducible refine Below.drew ?_) | (with_reducible refine bal ?_ _) | (with_reducible refine bst ?_ (by dsimp only; (try simp only [World.size_alloc, World.size_drew, World.size_setCell]); omega) _) | (with_reducible refine bthen ?_ (by with_reducible assumption))))⟩
                  | exact ⟨_, rfl, rfl, Blk.set2 Hz.out, (by (try simp only [World.size_alloc, World.size_drew, World.size_setCell]); omega), (by repeat (first | (with_reducible assumption) | (with_reducible exact Below.refl _ _) | (with_reducible refine Below.drew ?_) | (with_reducible refine bal ?_ _) | (with_reducible refine bst ?_ (by dsimp only; (try simp only [World.size_alloc, World.size_drew, World.size_setCell]); omega) _) | (with_reducible refine bthen ?_ (by with_reducible assumption))))⟩
              obtain ⟨q8, rfl, rfl, hB8, hq8, hb8⟩ := hcut
              clear HS hdt qC0 qC1 qCl qA60 qA61 qA6l
              obtain ⟨w8, hw9⟩ : ∃ x, x = wc := ⟨_, rfl⟩; subst hw9
              have S8 := Lib.hid (show w7.heap.size + 0 ≤ w8.heap.size by have h9 := hb8.size; (try simp only [World.size_alloc, World.size_setCell, World.size_drew] at h9); omega)
              have Z8 := Lib.hid (And.intro Z7.out <| And.intro Qq7.out <| And.intro Qw7.out S8.out)
              have NC := Lib.hid (C.out.on hb8)
              have NX := Lib.hid (X.out.on hb8)
              have NY := Lib.hid (Y.out.on hb8)
              have NR := Lib.hid (R.out.on hb8)
              have NQ := Lib.hid (Q.out.on hb8)
              have NA6 := Lib.hid (A6.out.on hb8)
              have C := NC; clear NC
              have X := NX; clear NX
              have Y := NY; clear NY
              have R := NR; clear NR
              have Q := NQ; clear NQ
              have A6 := NA6; clear NA6
              have Hb8 := Lib.hid (bthen Hb7.out hb8)
              clear hb8
              have Qq8 := Lib.hid hq8; have Qw8 := Lib.hid hB8.lt; have A9 := Lib.hid hB8; clear hq8 hB8
              clear wr1 wr2 wr3
              cases o9
              · have qR0 : w8.cell? ⟨w.heap.size + 1 + 1 + 1, 0, none⟩ = some (.int .i64 0) := R.out.cell 0
                have qR1 : w8.cell? ⟨w.heap.size + 1 + 1 + 1, 1, none⟩ = some (.int .i64 0) := R.out.cell 1
                have qRl := R.out.lt
                have qRf0 := R.out.frozen 0
                have qRf1 := R.out.frozen 1
                have qQ0 : w8.cell? ⟨w.heap.size + 1 + 1 + 1 + 1, 0, none⟩ = some (.int .i64 0) := Q.out.cell 0
                have qQ1 : w8.cell? ⟨w.heap.size + 1 + 1 + 1 + 1, 1, none⟩ = some (.int .i64 0) := Q.out.cell 1
                have qQl := Q.out.lt
                have qQf0 := Q.out.frozen 0
                have qQf1 := Q.out.frozen 1
                have nQR : w.heap.size + 1 + 1 + 1 + 1 ≠ w.heap.size + 1 + 1 + 1 := by have := Z8.out; have := Qq8.out; have := Qw8.out; (try simp only [World.size_alloc, World.size_setCell, World.size_drew]); omega
                have nRQ : w.heap.size + 1 + 1 + 1 ≠ w.heap.size + 1 + 1 + 1 + 1 := fun e => nQR e.symm
                go_wp2
                clear qR0 qR1 qRl qRf0 qRf1 qQ0 qQ1 qQl qQf0 qQf1 nQR nRQ
                have R9R := (show Blk (World.setCell (World.setCell (World.setCell (World.setCell w8 ⟨w.heap.size + 1 + 1 + 1, 0, none⟩ (.int .i64 0)) ⟨w.heap.size + 1 + 1 + 1, 1, none⟩ (.int .i64 0)) ⟨w.heap.size + 1 + 1 + 1 + 1, 0, none⟩ (.int .i64 0)) ⟨w.heap.size + 1 + 1 + 1 + 1, 1, none⟩ (.int .i64 0)) (w.heap.size + 1 + 1 + 1) 42 #[.int .i64 0, .int .i64 0] by have h9 := ((((R.out.set 0 (.int .i64 0)).set 1 (.int .i64 0)).far (p := ⟨w.heap.size + 1 + 1 + 1 + 1, 0, none⟩) (show w.heap.size + 1 + 1 + 1 ≠ w.heap.size + 1 + 1 + 1 + 1 by have := Z8.out; have := Qq8.out; have := Qw8.out; (try simp only [World.size_alloc, World.size_setCell, World.size_drew]); omega) (.int .i64 0)).far (p := ⟨w.heap.size + 1 + 1 + 1 + 1, 1, none⟩) (show w.heap.size + 1 + 1 + 1 ≠ w.heap.size + 1 + 1 + 1 + 1 by have := Z8.out; have := Qq8.out; have := Qw8.out; (try simp only [World.size_alloc, World.size_setCell, World.size_drew]); omega) (.int .i64 0)); simpa using h9)
                have kR0 := R9R.cell 0
                have kR1 := R9R.cell 1
                have R9Q := (show Blk (World.setCell (World.setCell (World.setCell (World.setCell w8 ⟨w.heap.size + 1 + 1 + 1, 0, none⟩ (.int .i64 0)) ⟨w.heap.size + 1 + 1 + 1, 1, none⟩ (.int .i64 0)) ⟨w.heap.size + 1 + 1 + 1 + 1, 0, none⟩ (.int .i64 0)) ⟨w.heap.size + 1 + 1 + 1 + 1, 1, none⟩ (.int .i64 0)) (w.heap.size + 1 + 1 + 1 + 1) 42 #[.int .i64 0, .int .i64 0] by have h9 := ((((Q.out.far (p := ⟨w.heap.size + 1 + 1 + 1, 0, none⟩) (show w.heap.size + 1 + 1 + 1 + 1 ≠ w.heap.size + 1 + 1 + 1 by have := Z8.out; have := Qq8.out; have := Qw8.out; (try simp only [World.size_alloc, World.size_setCell, World.size_drew]); omega) (.int .i64 0)).far (p := ⟨w.heap.size + 1 + 1 + 1, 1, none⟩) (show w.heap.size + 1 + 1 + 1 + 1 ≠ w.heap.size + 1 + 1 + 1 by have := Z8.out; have := Qq8.out; have := Qw8.out; (try simp only [World.size_alloc, World.size_setCell, World.size_drew]); omega) (.int .i64 0)).set 0 (.int .i64 0)).set 1 (.int .i64 0)); simpa using h9)
                have kQ0 := R9Q.cell 0
                have kQ1 := R9Q.cell 1
                simp at kR0 kR1 kQ0 kQ1
                exact bodyPost_ret (v := .tuple #[.agg #[.int .i64 0, .int .i64 0], .agg #[.int .i64 0, .int .i64 0], .bool false]) (by simp [results, Tryz.results20, go_sem, kR0, kR1, kQ0, kQ1]) rfl ⟨by rw [show carV a b e (x1, x2) (y1, y2) = none from by rw [Hin.out]; unfold crV; simp only [Option.bind, E6.out, (F9.out.no rfl).1]]; rfl, (bst (bst (bst (bst Hb8.out (p := ⟨w.heap.size + 1 + 1 + 1, 0, none⟩) (show w.heap.size ≤ w.heap.size + 1 + 1 + 1 by have := Z8.out; have := Qq8.out; have := Qw8.out; (try simp only [World.size_alloc, World.size_setCell, World.size_drew]); omega) (.int .i64 0)) (p := ⟨w.heap.size + 1 + 1 + 1, 1, none⟩) (show w.heap.size ≤ w.heap.size + 1 + 1 + 1 by have := Z8.out; have := Qq8.out; have := Qw8.out; (try simp only [World.size_alloc, World.size_setCell, World.size_drew]); omega) (.int .i64 0)) (p := ⟨w.heap.size + 1 + 1 + 1 + 1, 0, none⟩) (show w.heap.size ≤ w.heap.size + 1 + 1 + 1 + 1 by have := Z8.out; have := Qq8.out; have := Qw8.out; (try simp only [World.size_alloc, World.size_setCell, World.size_drew]); omega) (.int .i64 0)) (p := ⟨w.heap.size + 1 + 1 + 1 + 1, 1, none⟩) (show w.heap.size ≤ w.heap.size + 1 + 1 + 1 + 1 by have := Z8.out; have := Qq8.out; have := Qw8.out; (try simp only [World.size_alloc, World.size_setCell, World.size_drew]); omega) (.int .i64 0))⟩
              · have E9 := Lib.hid (F9.out.yes rfl)
                have G9 := Lib.hid (divF_good E9.out)
                obtain ⟨u1, u2, o12, h12⟩ := FrQ.ex (addF 1000000000 (x1, x2) (d1, d2))
                have F12 := Lib.hid h12; clear h12
                obtain ⟨q1, q2, o13, h13⟩ := FrQ.ex (divF 1000000000 (d1, d2) (f1, f2))
                have F13 := Lib.hid h13; clear h13
                have qX0 : w8.cell? ⟨w.heap.size + 1, 0, none⟩ = some (.int .i64 x1) := X.out.cell 0
                have qX1 : w8.cell? ⟨w.heap.size + 1, 1, none⟩ = some (.int .i64 x2) := X.out.cell 1
                have qXl := X.out.lt
                have qA90 : w8.cell? ⟨q8, 0, none⟩ = some (.int .i64 d1) := A9.out.cell 0
                have qA91 : w8.cell? ⟨q8, 1, none⟩ = some (.int .i64 d2) := A9.out.cell 1
                have qA9l := A9.out.lt
                go_wp2_with fail
                clear qX0 qX1 qXl qA90 qA91 qA9l
                refine (addS_lit F12.out Hx.out G9.out _).mono ?_; rintro e w9 ⟨rfl, hb9⟩
                have S9 := Lib.hid (show w8.heap.size + 0 ≤ w9.heap.size by have h9 := hb9.size; (try simp only [World.size_alloc, World.size_setCell, World.size_drew] at h9); omega)
                have Z9 := Lib.hid (And.intro Z8.out <| And.intro Qq8.out <| And.intro Qw8.out S9.out)
                have NC := Lib.hid (C.out.on hb9)
                have NX := Lib.hid (X.out.on hb9)
                have NY := Lib.hid (Y.out.on hb9)
                have NR := Lib.hid (R.out.on hb9)
                have NQ := Lib.hid (Q.out.on hb9)
                have NA6 := Lib.hid (A6.out.on hb9)
                have NA9 := Lib.hid (A9.out.on hb9)
                have C := NC; clear NC
                have X := NX; clear NX
                have Y := NY; clear NY
                have R := NR; clear NR
                have Q := NQ; clear NQ
                have A6 := NA6; clear NA6
                have A9 := NA9; clear NA9
                have Hb9 := Lib.hid (bthen Hb8.out hb9)
                clear hb9
                have qA90 : w9.cell? ⟨q8, 0, none⟩ = some (.int .i64 d1) := A9.out.cell 0
                have qA91 : w9.cell? ⟨q8, 1, none⟩ = some (.int .i64 d2) := A9.out.cell 1
                have qA9l := A9.out.lt
                have qA60 : w9.cell? ⟨q7, 0, none⟩ = some (.int .i64 f1) := A6.out.cell 0
                have qA61 : w9.cell? ⟨q7, 1, none⟩ = some (.int .i64 f2) := A6.out.cell 1
                have qA6l := A6.out.lt
                go_wp2_with fail
                clear qA90 qA91 qA9l qA60 qA61 qA6l
                refine (divS_lit F13.out G9.out G6.out _).mono ?_; rintro e w10 ⟨rfl, hb10⟩
                have S10 := Lib.hid (show w9.heap.size + 1 ≤ w10.heap.size by have h9 := hb10.size; (try simp only [World.size_alloc, World.size_setCell, World.size_drew] at h9); omega)
                have Z10 := Lib.hid (And.intro Z9.out S10.out)
                have NC := Lib.hid ((C.out.alloc (Obj.cells #[.int .i64 u1, .int .i64 u2] 42)).on hb10)
                have NX := Lib.hid ((X.out.alloc (Obj.cells #[.int .i64 u1, .int .i64 u2] 42)).on hb10)
                have NY := Lib.hid ((Y.out.alloc (Obj.cells #[.int .i64 u1, .int .i64 u2] 42)).on hb10)
                have NR := Lib.hid ((R.out.alloc (Obj.cells #[.int .i64 u1, .int .i64 u2] 42)).on hb10)
                have NQ := Lib.hid ((Q.out.alloc (Obj.cells #[.int .i64 u1, .int .i64 u2] 42)).on hb10)
                have NA6 := Lib.hid ((A6.out.alloc (Obj.cells #[.int .i64 u1, .int .i64 u2] 42)).on hb10)
                have NA9 := Lib.hid ((A9.out.alloc (Obj.cells #[.int .i64 u1, .int .i64 u2] 42)).on hb10)
                have NA12 := Lib.hid ((Blk.new w9 42 #[.int .i64 u1, .int .i64 u2]).on hb10)
                have C := NC; clear NC
                have X := NX; clear NX
                have Y := NY; clear NY
                have R := NR; clear NR
                have Q := NQ; clear NQ
                have A6 := NA6; clear NA6
                have A9 := NA9; clear NA9
                have A12 := NA12; clear NA12
                have Hb10 := Lib.hid (bthen (bal Hb9.out (Obj.cells #[.int .i64 u1, .int .i64 u2] 42)) hb10)
                clear hb10
                cases o12
                · have qR0 : w10.cell? ⟨w.heap.size + 1 + 1 + 1, 0, none⟩ = some (.int .i64 0) := R.out.cell 0
                  have qR1 : w10.cell? ⟨w.heap.size + 1 + 1 + 1, 1, none⟩ = some (.int .i64 0) := R.out.cell 1
                  have qRl := R.out.lt
                  have qRf0 := R.out.frozen 0
                  have qRf1 := R.out.frozen 1
                  have qQ0 : w10.cell? ⟨w.heap.size + 1 + 1 + 1 + 1, 0, none⟩ = some (.int .i64 0) := Q.out.cell 0
                  have qQ1 : w10.cell? ⟨w.heap.size + 1 + 1 + 1 + 1, 1, none⟩ = some (.int .i64 0) := Q.out.cell 1
                  have qQl := Q.out.lt
                  have qQf0 := Q.out.frozen 0
                  have qQf1 := Q.out.frozen 1
                  have nQR : w.heap.size + 1 + 1 + 1 + 1 ≠ w.heap.size + 1 + 1 + 1 := by have := Z10.out; (try simp only [World.size_alloc, World.size_setCell, World.size_drew]); omega
                  have nRQ : w.heap.size + 1 + 1 + 1 ≠ w.heap.size + 1 + 1 + 1 + 1 := fun e => nQR e.symm
                  go_wp2
                  clear qR0 qR1 qRl qRf0 qRf1 qQ0 qQ1 qQl qQf0 qQf1 nQR nRQ
                  have R9R := (show Blk (World.alloc (World.setCell (World.setCell (World.setCell (World.setCell w10 ⟨w.heap.size + 1 + 1 + 1, 0, none⟩ (.int .i64 0)) ⟨w.heap.size + 1 + 1 + 1, 1, none⟩ (.int .i64 0)) ⟨w.heap.size + 1 + 1 + 1 + 1, 0, none⟩ (.int .i64 0)) ⟨w.heap.size + 1 + 1 + 1 + 1, 1, none⟩ (.int .i64 0)) (Obj.cells #[.int .i64 q1, .int .i64 q2] 42)) (w.heap.size + 1 + 1 + 1) 42 #[.int .i64 0, .int .i64 0] by have h9 := (((((R.out.set 0 (.int .i64 0)).set 1 (.int .i64 0)).far (p := ⟨w.heap.size + 1 + 1 + 1 + 1, 0, none⟩) (show w.heap.size + 1 + 1 + 1 ≠ w.heap.size + 1 + 1 + 1 + 1 by have := Z10.out; (try simp only [World.size_alloc, World.size_setCell, World.size_drew]); omega) (.int .i64 0)).far (p := ⟨w.heap.size + 1 + 1 + 1 + 1, 1, none⟩) (show w.heap.size + 1 + 1 + 1 ≠ w.heap.size + 1 + 1 + 1 + 1 by have := Z10.out; (try simp only [World.size_alloc, World.size_setCell, World.size_drew]); omega) (.int .i64 0)).alloc (Obj.cells #[.int .i64 q1, .int .i64 q2] 42)); simpa using h9)
                  have kR0 := R9R.cell 0
                  have kR1 := R9R.cell 1
                  have R9Q := (show Blk (World.alloc (World.setCell (World.setCell (World.setCell (World.setCell w10 ⟨w.heap.size + 1 + 1 + 1, 0, none⟩ (.int .i64 0)) ⟨w.heap.size + 1 + 1 + 1, 1, none⟩ (.int .i64 0)) ⟨w.heap.size + 1 + 1 + 1 + 1, 0, none⟩ (.int .i64 0)) ⟨w.heap.size + 1 + 1 + 1 + 1, 1, none⟩ (.int .i64 0)) (Obj.cells #[.int .i64 q1, .int .i64 q2] 42)) (w.heap.size + 1 + 1 + 1 + 1) 42 #[.int .i64 0, .int .i64 0] by have h9 := (((((Q.out.far (p := ⟨w.heap.size + 1 + 1 + 1, 0, none⟩) (show w.heap.size + 1 + 1 + 1 + 1 ≠ w.heap.size + 1 + 1 + 1 by have := Z10.out; (try simp only [World.size_alloc, World.size_setCell, World.size_drew]); omega) (.int .i64 0)).far (p := ⟨w.heap.size + 1 + 1 + 1, 1, none⟩) (show w.heap.size + 1 + 1 + 1 + 1 ≠ w.heap.size + 1 + 1 + 1 by have := Z10.out; (try simp only [World.size_alloc, World.size_setCell, World.size_drew]); omega) (.int .i64 0)).set 0 (.int .i64 0)).set 1 (.int .i64 0)).alloc (Obj.cells #[.int .i64 q1, .int .i64 q2] 42)); simpa using h9)
                  have kQ0 := R9Q.cell 0
                  have kQ1 := R9Q.cell 1
                  simp at kR0 kR1 kQ0 kQ1
                  exact bodyPost_ret (v := .tuple #[.agg #[.int .i64 0, .int .i64 0], .agg #[.int .i64 0, .int .i64 0], .bool false]) (by simp [results, Tryz.results20, go_sem, kR0, kR1, kQ0, kQ1]) rfl ⟨by rw [show carV a b e (x1, x2) (y1, y2) = none from by rw [Hin.out]; unfold crV; simp only [Option.bind, E6.out, E9.out, (F12.out.no rfl).1]]; rfl, (bal (bst (bst (bst (bst Hb10.out (p := ⟨w.heap.size + 1 + 1 + 1, 0, none⟩) (show w.heap.size ≤ w.heap.size + 1 + 1 + 1 by have := Z10.out; (try simp only [World.size_alloc, World.size_setCell, World.size_drew]); omega) (.int .i64 0)) (p := ⟨w.heap.size + 1 + 1 + 1, 1, none⟩) (show w.heap.size ≤ w.heap.size + 1 + 1 + 1 by have := Z10.out; (try simp only [World.size_alloc, World.size_setCell, World.size_drew]); omega) (.int .i64 0)) (p := ⟨w.heap.size + 1 + 1 + 1 + 1, 0, none⟩) (show w.heap.size ≤ w.heap.size + 1 + 1 + 1 + 1 by have := Z10.out; (try simp only [World.size_alloc, World.size_setCell, World.size_drew]); omega) (.int .i64 0)) (p := ⟨w.heap.size + 1 + 1 + 1 + 1, 1, none⟩) (show w.heap.size ≤ w.heap.size + 1 + 1 + 1 + 1 by have := Z10.out; (try simp only [World.size_alloc, World.size_setCell, World.size_drew]); omega) (.int .i64 0)) (Obj.cells #[.int .i64 q1, .int .i64 q2] 42))⟩
                · have E12 := Lib.hid (F12.out.yes rfl)
                  cases o13
                  · have qR0 : w10.cell? ⟨w.heap.size + 1 + 1 + 1, 0, none⟩ = some (.int .i64 0) := R.out.cell 0
                    have qR1 : w10.cell? ⟨w.heap.size + 1 + 1 + 1, 1, none⟩ = some (.int .i64 0) := R.out.cell 1
                    have qRl := R.out.lt
                    have qRf0 := R.out.frozen 0
                    have qRf1 := R.out.frozen 1
                    have qQ0 : w10.cell? ⟨w.heap.size + 1 + 1 + 1 + 1, 0, none⟩ = some (.int .i64 0) := Q.out.cell 0
                    have qQ1 : w10.cell? ⟨w.heap.size + 1 + 1 + 1 + 1, 1, none⟩ = some (.int .i64 0) := Q.out.cell 1
                    have qQl := Q.out.lt
                    have qQf0 := Q.out.frozen 0
                    have qQf1 := Q.out.frozen 1
                    have nQR : w.heap.size + 1 + 1 + 1 + 1 ≠ w.heap.size + 1 + 1 + 1 := by have := Z10.out; (try simp only [World.size_alloc, World.size_setCell, World.size_drew]); omega
                    have nRQ : w.heap.size + 1 + 1 + 1 ≠ w.heap.size + 1 + 1 + 1 + 1 := fun e => nQR e.symm
                    go_wp2
                    clear qR0 qR1 qRl qRf0 qRf1 qQ0 qQ1 qQl qQf0 qQf1 nQR nRQ
                    have R9R := (show Blk (World.alloc (World.setCell (World.setCell (World.setCell (World.setCell w10 ⟨w.heap.size + 1 + 1 + 1, 0, none⟩ (.int .i64 0)) ⟨w.heap.size + 1 + 1 + 1, 1, none⟩ (.int .i64 0)) ⟨w.heap.size + 1 + 1 + 1 + 1, 0, none⟩ (.int .i64 0)) ⟨w.heap.size + 1 + 1 + 1 + 1, 1, none⟩ (.int .i64 0)) (Obj.cells #[.int .i64 q1, .int .i64 q2] 42)) (w.heap.size + 1 + 1 + 1) 42 #[.int .i64 0, .int .i64 0] by have h9 := (((((R.out.set 0 (.int .i64 0)).set 1 (.int .i64 0)).far (p := ⟨w.heap.size + 1 + 1 + 1 + 1, 0, none⟩) (show w.heap.size + 1 + 1 + 1 ≠ w.heap.size + 1 + 1 + 1 + 1 by have := Z10.out; (try simp only [World.size_alloc, World.size_setCell, World.size_drew]); omega) (.int .i64 0)).far (p := ⟨w.heap.size + 1 + 1 + 1 + 1, 1, none⟩) (show w.heap.size + 1 + 1 + 1 ≠ w.heap.size + 1 + 1 + 1 + 1 by have := Z10.out; (try simp only [World.size_alloc, World.size_setCell, World.size_drew]); omega) (.int .i64 0)).alloc (Obj.cells #[.int .i64 q1, .int .i64 q2] 42)); simpa using h9)
                    have kR0 := R9R.cell 0
                    have kR1 := R9R.cell 1
                    have R9Q := (show Blk (World.alloc (World.setCell (World.setCell (World.setCell (World.setCell w10 ⟨w.heap.size + 1 + 1 + 1, 0, none⟩ (.int .i64 0)) ⟨w.heap.size + 1 + 1 + 1, 1, none⟩ (.int .i64 0)) ⟨w.heap.size + 1 + 1 + 1 + 1, 0, none⟩ (.int .i64 0)) ⟨w.heap.size + 1 + 1 + 1 + 1, 1, none⟩ (.int .i64 0)) (Obj.cells #[.int .i64 q1, .int .i64 q2] 42)) (w.heap.size + 1 + 1 + 1 + 1) 42 #[.int .i64 0, .int .i64 0] by have h9 := (((((Q.out.far (p := ⟨w.heap.size + 1 + 1 + 1, 0, none⟩) (show w.heap.size + 1 + 1 + 1 + 1 ≠ w.heap.size + 1 + 1 + 1 by have := Z10.out; (try simp only [World.size_alloc, World.size_setCell, World.size_drew]); omega) (.int .i64 0)).far (p := ⟨w.heap.size + 1 + 1 + 1, 1, none⟩) (show w.heap.size + 1 + 1 + 1 + 1 ≠ w.heap.size + 1 + 1 + 1 by have := Z10.out; (try simp only [World.size_alloc, World.size_setCell, World.size_drew]); omega) (.int .i64 0)).set 0 (.int .i64 0)).set 1 (.int .i64 0)).alloc (Obj.cells #[.int .i64 q1, .int .i64 q2] 42)); simpa using h9)
                    have kQ0 := R9Q.cell 0
                    have kQ1 := R9Q.cell 1
                    simp at kR0 kR1 kQ0 kQ1
                    exact bodyPost_ret (v := .tuple #[.agg #[.int .i64 0, .int .i64 0], .agg #[.int .i64 0, .int .i64 0], .bool false]) (by simp [results, Tryz.results20, go_sem, kR0, kR1, kQ0, kQ1]) rfl ⟨by rw [show carV a b e (x1, x2) (y1, y2) = none from by rw [Hin.out]; unfold crV; simp only [Option.bind, E6.out, E9.out, E12.out, (F13.out.no rfl).1]]; rfl, (bal (bst (bst (bst (bst Hb10.out (p := ⟨w.heap.size + 1 + 1 + 1, 0, none⟩) (show w.heap.size ≤ w.heap.size + 1 + 1 + 1 by have := Z10.out; (try simp only [World.size_alloc, World.size_setCell, World.size_drew]); omega) (.int .i64 0)) (p := ⟨w.heap.size + 1 + 1 + 1, 1, none⟩) (show w.heap.size ≤ w.heap.size + 1 + 1 + 1 by have := Z10.out; (try simp only [World.size_alloc, World.size_setCell, World.size_drew]); omega) (.int .i64 0)) (p := ⟨w.heap.size + 1 + 1 + 1 + 1, 0, none⟩) (show w.heap.size ≤ w.heap.size + 1 + 1 + 1 + 1 by have := Z10.out; (try simp only [World.size_alloc, World.size_setCell, World.size_drew]); omega) (.int .i64 0)) (p := ⟨w.heap.size + 1 + 1 + 1 + 1, 1, none⟩) (show w.heap.size ≤ w.heap.size + 1 + 1 + 1 + 1 by have := Z10.out; (try simp only [World.size_alloc, World.size_setCell, World.size_drew]); omega) (.int .i64 0)) (Obj.cells #[.int .i64 q1, .int .i64 q2] 42))⟩
                  · have E13 := Lib.hid (F13.out.yes rfl)
                    have G13 := Lib.hid (divF_good E13.out)
                    obtain ⟨m1, m2, o16, h16⟩ := FrQ.ex (subF 1000000000 (1, 1) (q1, q2))
                    have F16 := Lib.hid h16; clear h16
                    go_wp2_with fail
                    go_wp2_with fail
                    obtain ⟨w11, hw9⟩ : ∃ x, x = (World.alloc w10 (Obj.cells #[.int .i64 q1, .int .i64 q2] 42)) := ⟨_, rfl⟩
                    rw [← hw9]
                    have hb11 : Below ((World.alloc w10 (Obj.cells #[.int .i64 q1, .int .i64 q2] 42))).heap.size (World.alloc w10 (Obj.cells #[.int .i64 q1, .int .i64 q2] 42)) w11 := by rw [hw9]; exact Below.refl _ _
                    have S11 := Lib.hid (show w10.heap.size + 1 ≤ w11.heap.size by have h9 := hb11.size; (try simp only [World.size_alloc, World.size_setCell, World.size_drew] at h9); omega)
                    have Z11 := Lib.hid (And.intro Z10.out S11.out)
                    have NC := Lib.hid ((C.out.alloc (Obj.cells #[.int .i64 q1, .int .i64 q2] 42)).on hb11)
                    have NX := Lib.hid ((X.out.alloc (Obj.cells #[.int .i64 q1, .int .i64 q2] 42)).on hb11)
                    have NY := Lib.hid ((Y.out.alloc (Obj.cells #[.int .i64 q1, .int .i64 q2] 42)).on hb11)
                    have NR := Lib.hid ((R.out.alloc (Obj.cells #[.int .i64 q1, .int .i64 q2] 42)).on hb11)
                    have NQ := Lib.hid ((Q.out.alloc (Obj.cells #[.int .i64 q1, .int .i64 q2] 42)).on hb11)
                    have NA6 := Lib.hid ((A6.out.alloc (Obj.cells #[.int .i64 q1, .int .i64 q2] 42)).on hb11)
                    have NA9 := Lib.hid ((A9.out.alloc (Obj.cells #[.int .i64 q1, .int .i64 q2] 42)).on hb11)
                    have NA12 := Lib.hid ((A12.out.alloc (Obj.cells #[.int .i64 q1, .int .i64 q2] 42)).on hb11)
                    have NA13 := Lib.hid ((Blk.new w10 42 #[.int .i64 q1, .int .i64 q2]).on hb11)
                    have C := NC; clear NC
                    have X := NX; clear NX
                    have Y := NY; clear NY
                    have R := NR; clear NR
                    have Q := NQ; clear NQ
                    have A6 := NA6; clear NA6
                    have A9 := NA9; clear NA9
                    have A12 := NA12; clear NA12
                    have A13 := NA13; clear NA13
                    have Hb11 := Lib.hid (bthen (bal Hb10.out (Obj.cells #[.int .i64 q1, .int .i64 q2] 42)) hb11)
                    clear hb11
                    clear hw9
                    have qA130 : w11.cell? ⟨w10.heap.size, 0, none⟩ = some (.int .i64 q1) := A13.out.cell 0
                    have qA131 : w11.cell? ⟨w10.heap.size, 1, none⟩ = some (.int .i64 q2) := A13.out.cell 1
                    have qA13l := A13.out.lt
                    have HS : Hid (∀ w', Below w11.heap.size w11 w' → (w'.cell? ⟨w10.heap.size, 0, none⟩ = some (.int .i64 q1) ∧ w'.cell? ⟨w10.heap.size, 1, none⟩ = some (.int .i64 q2) ∧ Below w11.heap.size w11 w')) := Lib.hid (fun w' hw => ⟨(hw.cell (p := ⟨w10.heap.size, 0, none⟩) qA13l).trans qA130, (hw.cell (p := ⟨w10.heap.size, 1, none⟩) qA13l).trans qA131, hw⟩)
                    have hdt : Below w11.heap.size w11 w11 := Below.refl _ _
                    go_cut [21, 22] (fun p0 p1 wx => ∃ q : Nat, p0 = .pointer (some ⟨q, 0, none⟩) ∧ p1 = .bool o16 ∧ Blk wx q 42 #[.int .i64 m1, .int .i64 m2] ∧ w11.heap.size ≤ q ∧ Below w11.heap.size w11 wx)
                    case first =>
                      go_region_held3 (fun w' => w'.cell? ⟨w10.heap.size, 0, none⟩ = some (.int .i64 q1) ∧ w'.cell? ⟨w10.heap.size, 1, none⟩ = some (.int .i64 q2) ∧ Below w11.heap.size w11 w') ((go_split_ands; refine HS.out _ ?_; repeat (first | (with_reducible assumption) | (with_reducible exact Below.refl _ _) | (with_reducible refine Below.drew ?_) | (with_reducible refine bal ?_ _) | (with_reducible refine bst ?_ (by dsimp only; omega) _) | (with_reducible refine bthen ?_ (by with_reducible assumption))))) ((first | (go_at_call 71; with_reducible refine Calls.mono (frInt_any 1 _) ?_; rintro e fw1 ⟨rfl, hfw1⟩; have sfw1 : w11.heap.size ≤ fw1.heap.size := (by have h9 := hfw1.size; (try simp only [World.size_alloc, World.size_drew] at h9); omega); first | (have hz := Blk.on Hz.out hfw1; clear Hz; have Hz := Lib.hid hz; clear hz) | (have hz : Blk fw1 w11.heap.size 42 #[.int .i64 0, .int .i64 0] := (by with_reducible exact Blk.on (Blk.new w11 42 #[.int .i64 0, .int .i64 0]) hfw1); have hz : Blk fw1 w11.heap.size 42 #[.int .i64 0, .int .i64 0] := hz; have Hz := Lib.hid hz; clear hz) | (have hz : Blk fw1 w11.heap.size 42 #[.int .i64 0, .int .i64 0] := (by with_reducible exact Blk.on (Blk.drew (Blk.new w11 42 #[.int .i64 0, .int .i64 0])) hfw1); have hz : Blk fw1 w11.heap.size 42 #[.int .i64 0, .int .i64 0] := hz; have Hz := Lib.hid hz; clear hz) | (have hz : Blk fw1 (World.drew w11).heap.size 42 #[.int .i64 0, .int .i64 0] := (by with_reducible exact Blk.on (Blk.new (World.drew w11) 42 #[.int .i64 0, .int .i64 0]) hfw1); have hz : Blk fw1 w11.heap.size 42 #[.int .i64 0, .int .i64 0] := hz; have Hz := Lib.hid hz; clear hz) | skip) | (go_at_call 73; with_reducible refine Calls.mono (subS_lit F16.out H1.out G13.out _) ?_; rintro e fw2 ⟨rfl, hfw2⟩; have sfw2 : w11.heap.size ≤ fw2.heap.size := (by have h9 := hfw2.size; (try simp only [World.size_alloc, World.size_drew] at h9); omega); first | (have hz := Blk.on Hz.out hfw2; clear Hz; have zc0 := hz.cell 0; have zf0 := hz.frozen 0; have zc1 := hz.cell 1; have zf1 := hz.frozen 1; have zl := hz.lt; simp at zc0 zc1; have Hz := Lib.hid hz; clear hz) | (have hz : Blk fw2 fw1.heap.size 42 #[.int .i64 0, .int .i64 0] := (by with_reducible exact Blk.on (Blk.new fw1 42 #[.int .i64 0, .int .i64 0]) hfw2); have hz : Blk fw2 fw1.heap.size 42 #[.int .i64 0, .int .i64 0] := hz; have zc0 := hz.cell 0; have zf0 := hz.frozen 0; have zc1 := hz.cell 1; have zf1 := hz.frozen 1; have zl := hz.lt; simp at zc0 zc1; have Hz := Lib.hid hz; clear hz) | skip)))
                      all_goals go_wp2_with fail
                      all_goals go_meet
                      all_goals first
                        | with_reducible exact ⟨_, rfl, rfl, Blk.new _ _ _, (by (try simp only [World.size_alloc, World.size_drew, World.size_setCell]); omega), (by repeat (first | (with_reducible assumption) | (with_reducible exact Below.refl _ _) | (with_reducible refine Below.drew ?_) | (with_reducible refine bal ?_ _) | (with_reducible refine bst ?_ (by dsimp only; (try simp only [World.size_alloc, World.size_drew, World.size_setCell]); omega) _) | (with_reducible refine bthen ?_ (by with_reducible assumption))))⟩
                        | exact ⟨_, rfl, rfl, Blk.set2 Hz.out, (by (try simp only [World.size_alloc, World.size_drew, World.size_setCell]); omega), (by repeat (first | (with_reducible assumption) | (with_reducible exact Below.refl _ _) | (with_reducible refine Below.drew ?_) | (with_reducible refine bal ?_ _) | (with_reducible refine bst ?_ (by dsimp only; (try simp only [World.size_alloc, World.size_drew, World.size_setCell]); omega) _) | (with_reducible refine bthen ?_ (by with_reducible assumption))))⟩
                    obtain ⟨q12, rfl, rfl, hB12, hq12, hb12⟩ := hcut
                    clear HS hdt qA130 qA131 qA13l
                    obtain ⟨w12, hw9⟩ : ∃ x, x = wc := ⟨_, rfl⟩; subst hw9
                    have S12 := Lib.hid (show w11.heap.size + 0 ≤ w12.heap.size by have h9 := hb12.size; (try simp only [World.size_alloc, World.size_setCell, World.size_drew] at h9); omega)
                    have Z12 := Lib.hid (And.intro Z11.out S12.out)
                    have NC := Lib.hid (C.out.on hb12)
                    have NX := Lib.hid (X.out.on hb12)
                    have NY := Lib.hid (Y.out.on hb12)
                    have NR := Lib.hid (R.out.on hb12)
                    have NQ := Lib.hid (Q.out.on hb12)
                    have NA6 := Lib.hid (A6.out.on hb12)
                    have NA9 := Lib.hid (A9.out.on hb12)
                    have NA12 := Lib.hid (A12.out.on hb12)
                    have NA13 := Lib.hid (A13.out.on hb12)
                    have C := NC; clear NC
                    have X := NX; clear NX
                    have Y := NY; clear NY
                    have R := NR; clear NR
                    have Q := NQ; clear NQ
                    have A6 := NA6; clear NA6
                    have A9 := NA9; clear NA9
                    have A12 := NA12; clear NA12
                    have A13 := NA13; clear NA13
                    have Hb12 := Lib.hid (bthen Hb11.out hb12)
                    clear hb12
                    have Qq12 := Lib.hid hq12; have Qw12 := Lib.hid hB12.lt; have A16 := Lib.hid hB12; clear hq12 hB12
                    cases o16
                    · have qR0 : w12.cell? ⟨w.heap.size + 1 + 1 + 1, 0, none⟩ = some (.int .i64 0) := R.out.cell 0
                      have qR1 : w12.cell? ⟨w.heap.size + 1 + 1 + 1, 1, none⟩ = some (.int .i64 0) := R.out.cell 1
                      have qRl := R.out.lt
                      have qRf0 := R.out.frozen 0
                      have qRf1 := R.out.frozen 1
                      have qQ0 : w12.cell? ⟨w.heap.size + 1 + 1 + 1 + 1, 0, none⟩ = some (.int .i64 0) := Q.out.cell 0
                      have qQ1 : w12.cell? ⟨w.heap.size + 1 + 1 + 1 + 1, 1, none⟩ = some (.int .i64 0) := Q.out.cell 1
                      have qQl := Q.out.lt
                      have qQf0 := Q.out.frozen 0
                      have qQf1 := Q.out.frozen 1
                      have nQR : w.heap.size + 1 + 1 + 1 + 1 ≠ w.heap.size + 1 + 1 + 1 := by have := Z12.out; have := Qq12.out; have := Qw12.out; (try simp only [World.size_alloc, World.size_setCell, World.size_drew]); omega
                      have nRQ : w.heap.size + 1 + 1 + 1 ≠ w.heap.size + 1 + 1 + 1 + 1 := fun e => nQR e.symm
                      go_wp2
                      clear qR0 qR1 qRl qRf0 qRf1 qQ0 qQ1 qQl qQf0 qQf1 nQR nRQ
                      have R9R := (show Blk (World.setCell (World.setCell (World.setCell (World.setCell w12 ⟨w.heap.size + 1 + 1 + 1, 0, none⟩ (.int .i64 0)) ⟨w.heap.size + 1 + 1 + 1, 1, none⟩ (.int .i64 0)) ⟨w.heap.size + 1 + 1 + 1 + 1, 0, none⟩ (.int .i64 0)) ⟨w.heap.size + 1 + 1 + 1 + 1, 1, none⟩ (.int .i64 0)) (w.heap.size + 1 + 1 + 1) 42 #[.int .i64 0, .int .i64 0] by have h9 := ((((R.out.set 0 (.int .i64 0)).set 1 (.int .i64 0)).far (p := ⟨w.heap.size + 1 + 1 + 1 + 1, 0, none⟩) (show w.heap.size + 1 + 1 + 1 ≠ w.heap.size + 1 + 1 + 1 + 1 by have := Z12.out; have := Qq12.out; have := Qw12.out; (try simp only [World.size_alloc, World.size_setCell, World.size_drew]); omega) (.int .i64 0)).far (p := ⟨w.heap.size + 1 + 1 + 1 + 1, 1, none⟩) (show w.heap.size + 1 + 1 + 1 ≠ w.heap.size + 1 + 1 + 1 + 1 by have := Z12.out; have := Qq12.out; have := Qw12.out; (try simp only [World.size_alloc, World.size_setCell, World.size_drew]); omega) (.int .i64 0)); simpa using h9)
                      have kR0 := R9R.cell 0
                      have kR1 := R9R.cell 1
                      have R9Q := (show Blk (World.setCell (World.setCell (World.setCell (World.setCell w12 ⟨w.heap.size + 1 + 1 + 1, 0, none⟩ (.int .i64 0)) ⟨w.heap.size + 1 + 1 + 1, 1, none⟩ (.int .i64 0)) ⟨w.heap.size + 1 + 1 + 1 + 1, 0, none⟩ (.int .i64 0)) ⟨w.heap.size + 1 + 1 + 1 + 1, 1, none⟩ (.int .i64 0)) (w.heap.size + 1 + 1 + 1 + 1) 42 #[.int .i64 0, .int .i64 0] by have h9 := ((((Q.out.far (p := ⟨w.heap.size + 1 + 1 + 1, 0, none⟩) (show w.heap.size + 1 + 1 + 1 + 1 ≠ w.heap.size + 1 + 1 + 1 by have := Z12.out; have := Qq12.out; have := Qw12.out; (try simp only [World.size_alloc, World.size_setCell, World.size_drew]); omega) (.int .i64 0)).far (p := ⟨w.heap.size + 1 + 1 + 1, 1, none⟩) (show w.heap.size + 1 + 1 + 1 + 1 ≠ w.heap.size + 1 + 1 + 1 by have := Z12.out; have := Qq12.out; have := Qw12.out; (try simp only [World.size_alloc, World.size_setCell, World.size_drew]); omega) (.int .i64 0)).set 0 (.int .i64 0)).set 1 (.int .i64 0)); simpa using h9)
                      have kQ0 := R9Q.cell 0
                      have kQ1 := R9Q.cell 1
                      simp at kR0 kR1 kQ0 kQ1
                      exact bodyPost_ret (v := .tuple #[.agg #[.int .i64 0, .int .i64 0], .agg #[.int .i64 0, .int .i64 0], .bool false]) (by simp [results, Tryz.results20, go_sem, kR0, kR1, kQ0, kQ1]) rfl ⟨by rw [show carV a b e (x1, x2) (y1, y2) = none from by rw [Hin.out]; unfold crV; simp only [Option.bind, E6.out, E9.out, E12.out, E13.out, (F16.out.no rfl).1]]; rfl, (bst (bst (bst (bst Hb12.out (p := ⟨w.heap.size + 1 + 1 + 1, 0, none⟩) (show w.heap.size ≤ w.heap.size + 1 + 1 + 1 by have := Z12.out; have := Qq12.out; have := Qw12.out; (try simp only [World.size_alloc, World.size_setCell, World.size_drew]); omega) (.int .i64 0)) (p := ⟨w.heap.size + 1 + 1 + 1, 1, none⟩) (show w.heap.size ≤ w.heap.size + 1 + 1 + 1 by have := Z12.out; have := Qq12.out; have := Qw12.out; (try simp only [World.size_alloc, World.size_setCell, World.size_drew]); omega) (.int .i64 0)) (p := ⟨w.heap.size + 1 + 1 + 1 + 1, 0, none⟩) (show w.heap.size ≤ w.heap.size + 1 + 1 + 1 + 1 by have := Z12.out; have := Qq12.out; have := Qw12.out; (try simp only [World.size_alloc, World.size_setCell, World.size_drew]); omega) (.int .i64 0)) (p := ⟨w.heap.size + 1 + 1 + 1 + 1, 1, none⟩) (show w.heap.size ≤ w.heap.size + 1 + 1 + 1 + 1 by have := Z12.out; have := Qq12.out; have := Qw12.out; (try simp only [World.size_alloc, World.size_setCell, World.size_drew]); omega) (.int .i64 0))⟩
                    · have E16 := Lib.hid (F16.out.yes rfl)
                      have G16 := Lib.hid (subF_good E16.out)
                      obtain ⟨v1, v2, o19, h19⟩ := FrQ.ex (mulF 1000000000 (y1, y2) (m1, m2))
                      have F19 := Lib.hid h19; clear h19
                      have qY0 : w12.cell? ⟨w.heap.size + 1 + 1, 0, none⟩ = some (.int .i64 y1) := Y.out.cell 0
                      have qY1 : w12.cell? ⟨w.heap.size + 1 + 1, 1, none⟩ = some (.int .i64 y2) := Y.out.cell 1
                      have qYl := Y.out.lt
                      have qA160 : w12.cell? ⟨q12, 0, none⟩ = some (.int .i64 m1) := A16.out.cell 0
                      have qA161 : w12.cell? ⟨q12, 1, none⟩ = some (.int .i64 m2) := A16.out.cell 1
                      have qA16l := A16.out.lt
                      go_wp2_with fail
                      clear qY0 qY1 qYl qA160 qA161 qA16l
                      refine (mulS_lit F19.out Hy.out G16.out _).mono ?_; rintro e w13 ⟨rfl, hb13⟩
                      have S13 := Lib.hid (show w12.heap.size + 0 ≤ w13.heap.size by have h9 := hb13.size; (try simp only [World.size_alloc, World.size_setCell, World.size_drew] at h9); omega)
                      have Z13 := Lib.hid (And.intro Z12.out <| And.intro Qq12.out <| And.intro Qw12.out S13.out)
                      have NC := Lib.hid (C.out.on hb13)
                      have NX := Lib.hid (X.out.on hb13)
                      have NY := Lib.hid (Y.out.on hb13)
                      have NR := Lib.hid (R.out.on hb13)
                      have NQ := Lib.hid (Q.out.on hb13)
                      have NA6 := Lib.hid (A6.out.on hb13)
                      have NA9 := Lib.hid (A9.out.on hb13)
                      have NA12 := Lib.hid (A12.out.on hb13)
                      have NA13 := Lib.hid (A13.out.on hb13)
                      have NA16 := Lib.hid (A16.out.on hb13)
                      have C := NC; clear NC
                      have X := NX; clear NX
                      have Y := NY; clear NY
                      have R := NR; clear NR
                      have Q := NQ; clear NQ
                      have A6 := NA6; clear NA6
                      have A9 := NA9; clear NA9
                      have A12 := NA12; clear NA12
                      have A13 := NA13; clear NA13
                      have A16 := NA16; clear NA16
                      have Hb13 := Lib.hid (bthen Hb12.out hb13)
                      clear hb13
                      cases o19
                      · have qR0 : w13.cell? ⟨w.heap.size + 1 + 1 + 1, 0, none⟩ = some (.int .i64 0) := R.out.cell 0
                        have qR1 : w13.cell? ⟨w.heap.size + 1 + 1 + 1, 1, none⟩ = some (.int .i64 0) := R.out.cell 1
                        have qRl := R.out.lt
                        have qRf0 := R.out.frozen 0
                        have qRf1 := R.out.frozen 1
                        have qQ0 : w13.cell? ⟨w.heap.size + 1 + 1 + 1 + 1, 0, none⟩ = some (.int .i64 0) := Q.out.cell 0
                        have qQ1 : w13.cell? ⟨w.heap.size + 1 + 1 + 1 + 1, 1, none⟩ = some (.int .i64 0) := Q.out.cell 1
                        have qQl := Q.out.lt
                        have qQf0 := Q.out.frozen 0
                        have qQf1 := Q.out.frozen 1
                        have nQR : w.heap.size + 1 + 1 + 1 + 1 ≠ w.heap.size + 1 + 1 + 1 := by have := Z13.out; (try simp only [World.size_alloc, World.size_setCell, World.size_drew]); omega
                        have nRQ : w.heap.size + 1 + 1 + 1 ≠ w.heap.size + 1 + 1 + 1 + 1 := fun e => nQR e.symm
                        go_wp2
                        clear qR0 qR1 qRl qRf0 qRf1 qQ0 qQ1 qQl qQf0 qQf1 nQR nRQ
                        have R9R := (show Blk (World.alloc (World.setCell (World.setCell (World.setCell (World.setCell w13 ⟨w.heap.size + 1 + 1 + 1, 0, none⟩ (.int .i64 0)) ⟨w.heap.size + 1 + 1 + 1, 1, none⟩ (.int .i64 0)) ⟨w.heap.size + 1 + 1 + 1 + 1, 0, none⟩ (.int .i64 0)) ⟨w.heap.size + 1 + 1 + 1 + 1, 1, none⟩ (.int .i64 0)) (Obj.cells #[.int .i64 v1, .int .i64 v2] 42)) (w.heap.size + 1 + 1 + 1) 42 #[.int .i64 0, .int .i64 0] by have h9 := (((((R.out.set 0 (.int .i64 0)).set 1 (.int .i64 0)).far (p := ⟨w.heap.size + 1 + 1 + 1 + 1, 0, none⟩) (show w.heap.size + 1 + 1 + 1 ≠ w.heap.size + 1 + 1 + 1 + 1 by have := Z13.out; (try simp only [World.size_alloc, World.size_setCell, World.size_drew]); omega) (.int .i64 0)).far (p := ⟨w.heap.size + 1 + 1 + 1 + 1, 1, none⟩) (show w.heap.size + 1 + 1 + 1 ≠ w.heap.size + 1 + 1 + 1 + 1 by have := Z13.out; (try simp only [World.size_alloc, World.size_setCell, World.size_drew]); omega) (.int .i64 0)).alloc (Obj.cells #[.int .i64 v1, .int .i64 v2] 42)); simpa using h9)
                        have kR0 := R9R.cell 0
                        have kR1 := R9R.cell 1
                        have R9Q := (show Blk (World.alloc (World.setCell (World.setCell (World.setCell (World.setCell w13 ⟨w.heap.size + 1 + 1 + 1, 0, none⟩ (.int .i64 0)) ⟨w.heap.size + 1 + 1 + 1, 1, none⟩ (.int .i64 0)) ⟨w.heap.size + 1 + 1 + 1 + 1, 0, none⟩ (.int .i64 0)) ⟨w.heap.size + 1 + 1 + 1 + 1, 1, none⟩ (.int .i64 0)) (Obj.cells #[.int .i64 v1, .int .i64 v2] 42)) (w.heap.size + 1 + 1 + 1 + 1) 42 #[.int .i64 0, .int .i64 0] by have h9 := (((((Q.out.far (p := ⟨w.heap.size + 1 + 1 + 1, 0, none⟩) (show w.heap.size + 1 + 1 + 1 + 1 ≠ w.heap.size + 1 + 1 + 1 by have := Z13.out; (try simp only [World.size_alloc, World.size_setCell, World.size_drew]); omega) (.int .i64 0)).far (p := ⟨w.heap.size + 1 + 1 + 1, 1, none⟩) (show w.heap.size + 1 + 1 + 1 + 1 ≠ w.heap.size + 1 + 1 + 1 by have := Z13.out; (try simp only [World.size_alloc, World.size_setCell, World.size_drew]); omega) (.int .i64 0)).set 0 (.int .i64 0)).set 1 (.int .i64 0)).alloc (Obj.cells #[.int .i64 v1, .int .i64 v2] 42)); simpa using h9)
                        have kQ0 := R9Q.cell 0
                        have kQ1 := R9Q.cell 1
                        simp at kR0 kR1 kQ0 kQ1
                        exact bodyPost_ret (v := .tuple #[.agg #[.int .i64 0, .int .i64 0], .agg #[.int .i64 0, .int .i64 0], .bool false]) (by simp [results, Tryz.results20, go_sem, kR0, kR1, kQ0, kQ1]) rfl ⟨by rw [show carV a b e (x1, x2) (y1, y2) = none from by rw [Hin.out]; unfold crV; simp only [Option.bind, E6.out, E9.out, E12.out, E13.out, E16.out, (F19.out.no rfl).1]]; rfl, (bal (bst (bst (bst (bst Hb13.out (p := ⟨w.heap.size + 1 + 1 + 1, 0, none⟩) (show w.heap.size ≤ w.heap.size + 1 + 1 + 1 by have := Z13.out; (try simp only [World.size_alloc, World.size_setCell, World.size_drew]); omega) (.int .i64 0)) (p := ⟨w.heap.size + 1 + 1 + 1, 1, none⟩) (show w.heap.size ≤ w.heap.size + 1 + 1 + 1 by have := Z13.out; (try simp only [World.size_alloc, World.size_setCell, World.size_drew]); omega) (.int .i64 0)) (p := ⟨w.heap.size + 1 + 1 + 1 + 1, 0, none⟩) (show w.heap.size ≤ w.heap.size + 1 + 1 + 1 + 1 by have := Z13.out; (try simp only [World.size_alloc, World.size_setCell, World.size_drew]); omega) (.int .i64 0)) (p := ⟨w.heap.size + 1 + 1 + 1 + 1, 1, none⟩) (show w.heap.size ≤ w.heap.size + 1 + 1 + 1 + 1 by have := Z13.out; (try simp only [World.size_alloc, World.size_setCell, World.size_drew]); omega) (.int .i64 0)) (Obj.cells #[.int .i64 v1, .int .i64 v2] 42))⟩
                      · have E19 := Lib.hid (F19.out.yes rfl)
                        have qA120 : w13.cell? ⟨w9.heap.size, 0, none⟩ = some (.int .i64 u1) := A12.out.cell 0
                        have qA121 : w13.cell? ⟨w9.heap.size, 1, none⟩ = some (.int .i64 u2) := A12.out.cell 1
                        have qA12l := A12.out.lt
                        go_wp2_with fail
                        clear qA120 qA121 qA12l
                        obtain ⟨w14, hw9⟩ : ∃ x, x = (World.alloc w13 (Obj.cells #[.int .i64 v1, .int .i64 v2] 42)) := ⟨_, rfl⟩
                        rw [← hw9]
                        have hb14 : Below ((World.alloc w13 (Obj.cells #[.int .i64 v1, .int .i64 v2] 42))).heap.size (World.alloc w13 (Obj.cells #[.int .i64 v1, .int .i64 v2] 42)) w14 := by rw [hw9]; exact Below.refl _ _
                        have S14 := Lib.hid (show w13.heap.size + 1 ≤ w14.heap.size by have h9 := hb14.size; (try simp only [World.size_alloc, World.size_setCell, World.size_drew] at h9); omega)
                        have Z14 := Lib.hid (And.intro Z13.out S14.out)
                        have NC := Lib.hid ((C.out.alloc (Obj.cells #[.int .i64 v1, .int .i64 v2] 42)).on hb14)
                        have NX := Lib.hid ((X.out.alloc (Obj.cells #[.int .i64 v1, .int .i64 v2] 42)).on hb14)
                        have NY := Lib.hid ((Y.out.alloc (Obj.cells #[.int .i64 v1, .int .i64 v2] 42)).on hb14)
                        have NR := Lib.hid ((R.out.alloc (Obj.cells #[.int .i64 v1, .int .i64 v2] 42)).on hb14)
                        have NQ := Lib.hid ((Q.out.alloc (Obj.cells #[.int .i64 v1, .int .i64 v2] 42)).on hb14)
                        have NA6 := Lib.hid ((A6.out.alloc (Obj.cells #[.int .i64 v1, .int .i64 v2] 42)).on hb14)
                        have NA9 := Lib.hid ((A9.out.alloc (Obj.cells #[.int .i64 v1, .int .i64 v2] 42)).on hb14)
                        have NA12 := Lib.hid ((A12.out.alloc (Obj.cells #[.int .i64 v1, .int .i64 v2] 42)).on hb14)
                        have NA13 := Lib.hid ((A13.out.alloc (Obj.cells #[.int .i64 v1, .int .i64 v2] 42)).on hb14)
                        have NA16 := Lib.hid ((A16.out.alloc (Obj.cells #[.int .i64 v1, .int .i64 v2] 42)).on hb14)
                        have NA19 := Lib.hid ((Blk.new w13 42 #[.int .i64 v1, .int .i64 v2]).on hb14)
                        have C := NC; clear NC
                        have X := NX; clear NX
                        have Y := NY; clear NY
                        have R := NR; clear NR
                        have Q := NQ; clear NQ
                        have A6 := NA6; clear NA6
                        have A9 := NA9; clear NA9
                        have A12 := NA12; clear NA12
                        have A13 := NA13; clear NA13
                        have A16 := NA16; clear NA16
                        have A19 := NA19; clear NA19
                        have Hb14 := Lib.hid (bthen (bal Hb13.out (Obj.cells #[.int .i64 v1, .int .i64 v2] 42)) hb14)
                        clear hb14
                        clear hw9
                        have qA120 : w14.cell? ⟨w9.heap.size, 0, none⟩ = some (.int .i64 u1) := A12.out.cell 0
                        have qA121 : w14.cell? ⟨w9.heap.size, 1, none⟩ = some (.int .i64 u2) := A12.out.cell 1
                        have qA12l := A12.out.lt
                        have qA190 : w14.cell? ⟨w13.heap.size, 0, none⟩ = some (.int .i64 v1) := A19.out.cell 0
                        have qA191 : w14.cell? ⟨w13.heap.size, 1, none⟩ = some (.int .i64 v2) := A19.out.cell 1
                        have qA19l := A19.out.lt
                        have qR0 : w14.cell? ⟨w.heap.size + 1 + 1 + 1, 0, none⟩ = some (.int .i64 0) := R.out.cell 0
                        have qR1 : w14.cell? ⟨w.heap.size + 1 + 1 + 1, 1, none⟩ = some (.int .i64 0) := R.out.cell 1
                        have qRl := R.out.lt
                        have qRf0 := R.out.frozen 0
                        have qRf1 := R.out.frozen 1
                        have qQ0 : w14.cell? ⟨w.heap.size + 1 + 1 + 1 + 1, 0, none⟩ = some (.int .i64 0) := Q.out.cell 0
                        have qQ1 : w14.cell? ⟨w.heap.size + 1 + 1 + 1 + 1, 1, none⟩ = some (.int .i64 0) := Q.out.cell 1
                        have qQl := Q.out.lt
                        have qQf0 := Q.out.frozen 0
                        have qQf1 := Q.out.frozen 1
                        have nA12A19 : w9.heap.size ≠ w13.heap.size := by have := Z14.out; (try simp only [World.size_alloc, World.size_setCell, World.size_drew]); omega
                        have nA19A12 : w13.heap.size ≠ w9.heap.size := fun e => nA12A19 e.symm
                        have nA12R : w9.heap.size ≠ w.heap.size + 1 + 1 + 1 := by have := Z14.out; (try simp only [World.size_alloc, World.size_setCell, World.size_drew]); omega
                        have nRA12 : w.heap.size + 1 + 1 + 1 ≠ w9.heap.size := fun e => nA12R e.symm
                        have nA12Q : w9.heap.size ≠ w.heap.size + 1 + 1 + 1 + 1 := by have := Z14.out; (try simp only [World.size_alloc, World.size_setCell, World.size_drew]); omega
                        have nQA12 : w.heap.size + 1 + 1 + 1 + 1 ≠ w9.heap.size := fun e => nA12Q e.symm
                        have nA19R : w13.heap.size ≠ w.heap.size + 1 + 1 + 1 := by have := Z14.out; (try simp only [World.size_alloc, World.size_setCell, World.size_drew]); omega
                        have nRA19 : w.heap.size + 1 + 1 + 1 ≠ w13.heap.size := fun e => nA19R e.symm
                        have nA19Q : w13.heap.size ≠ w.heap.size + 1 + 1 + 1 + 1 := by have := Z14.out; (try simp only [World.size_alloc, World.size_setCell, World.size_drew]); omega
                        have nQA19 : w.heap.size + 1 + 1 + 1 + 1 ≠ w13.heap.size := fun e => nA19Q e.symm
                        have nQR : w.heap.size + 1 + 1 + 1 + 1 ≠ w.heap.size + 1 + 1 + 1 := by have := Z14.out; (try simp only [World.size_alloc, World.size_setCell, World.size_drew]); omega
                        have nRQ : w.heap.size + 1 + 1 + 1 ≠ w.heap.size + 1 + 1 + 1 + 1 := fun e => nQR e.symm
                        go_region
                        go_wp2
                        clear qA120 qA121 qA12l qA190 qA191 qA19l qR0 qR1 qRl qRf0 qRf1 qQ0 qQ1 qQl qQf0 qQf1 nA12A19 nA19A12 nA12R nRA12 nA12Q nQA12 nA19R nRA19 nA19Q nQA19 nQR nRQ
                        have R9R := (show Blk (World.drew (World.setCell (World.setCell (World.setCell (World.setCell w14 ⟨w.heap.size + 1 + 1 + 1, 0, none⟩ (.int .i64 u1)) ⟨w.heap.size + 1 + 1 + 1, 1, none⟩ (.int .i64 u2)) ⟨w.heap.size + 1 + 1 + 1 + 1, 0, none⟩ (.int .i64 v1)) ⟨w.heap.size + 1 + 1 + 1 + 1, 1, none⟩ (.int .i64 v2))) (w.heap.size + 1 + 1 + 1) 42 #[.int .i64 u1, .int .i64 u2] by have h9 := (Blk.drew ((((R.out.set 0 (.int .i64 u1)).set 1 (.int .i64 u2)).far (p := ⟨w.heap.size + 1 + 1 + 1 + 1, 0, none⟩) (show w.heap.size + 1 + 1 + 1 ≠ w.heap.size + 1 + 1 + 1 + 1 by have := Z14.out; (try simp only [World.size_alloc, World.size_setCell, World.size_drew]); omega) (.int .i64 v1)).far (p := ⟨w.heap.size + 1 + 1 + 1 + 1, 1, none⟩) (show w.heap.size + 1 + 1 + 1 ≠ w.heap.size + 1 + 1 + 1 + 1 by have := Z14.out; (try simp only [World.size_alloc, World.size_setCell, World.size_drew]); omega) (.int .i64 v2))); simpa using h9)
                        have kR0 := R9R.cell 0; have kR1 := R9R.cell 1
                        have R9Q := (show Blk (World.drew (World.setCell (World.setCell (World.setCell (World.setCell w14 ⟨w.heap.size + 1 + 1 + 1, 0, none⟩ (.int .i64 u1)) ⟨w.heap.size + 1 + 1 + 1, 1, none⟩ (.int .i64 u2)) ⟨w.heap.size + 1 + 1 + 1 + 1, 0, none⟩ (.int .i64 v1)) ⟨w.heap.size + 1 + 1 + 1 + 1, 1, none⟩ (.int .i64 v2))) (w.heap.size + 1 + 1 + 1 + 1) 42 #[.int .i64 v1, .int .i64 v2] by have h9 := (Blk.drew ((((Q.out.far (p := ⟨w.heap.size + 1 + 1 + 1, 0, none⟩) (show w.heap.size + 1 + 1 + 1 + 1 ≠ w.heap.size + 1 + 1 + 1 by have := Z14.out; (try simp only [World.size_alloc, World.size_setCell, World.size_drew]); omega) (.int .i64 u1)).far (p := ⟨w.heap.size + 1 + 1 + 1, 1, none⟩) (show w.heap.size + 1 + 1 + 1 + 1 ≠ w.heap.size + 1 + 1 + 1 by have := Z14.out; (try simp only [World.size_alloc, World.size_setCell, World.size_drew]); omega) (.int .i64 u2)).set 0 (.int .i64 v1)).set 1 (.int .i64 v2))); simpa using h9)
                        have kQ0 := R9Q.cell 0; have kQ1 := R9Q.cell 1
                        simp at kR0 kR1 kQ0 kQ1
                        exact bodyPost_ret (v := .tuple #[.agg #[.int .i64 u1, .int .i64 u2], .agg #[.int .i64 v1, .int .i64 v2], .bool true]) (by simp [results, Tryz.results20, go_sem, kR0, kR1, kQ0, kQ1]) rfl ⟨by rw [show carV a b e (x1, x2) (y1, y2) = some ((u1, u2), (v1, v2)) from by rw [Hin.out]; unfold crV; simp only [Option.bind, E6.out, E9.out, E12.out, E13.out, E16.out, E19.out]]; rfl, (Below.drew (bst (bst (bst (bst Hb14.out (p := ⟨w.heap.size + 1 + 1 + 1, 0, none⟩) (show w.heap.size ≤ w.heap.size + 1 + 1 + 1 by have := Z14.out; (try simp only [World.size_alloc, World.size_setCell, World.size_drew]); omega) (.int .i64 u1)) (p := ⟨w.heap.size + 1 + 1 + 1, 1, none⟩) (show w.heap.size ≤ w.heap.size + 1 + 1 + 1 by have := Z14.out; (try simp only [World.size_alloc, World.size_setCell, World.size_drew]); omega) (.int .i64 u2)) (p := ⟨w.heap.size + 1 + 1 + 1 + 1, 0, none⟩) (show w.heap.size ≤ w.heap.size + 1 + 1 + 1 + 1 by have := Z14.out; (try simp only [World.size_alloc, World.size_setCell, World.size_drew]); omega) (.int .i64 v1)) (p := ⟨w.heap.size + 1 + 1 + 1 + 1, 1, none⟩) (show w.heap.size ≤ w.heap.size + 1 + 1 + 1 + 1 by have := Z14.out; (try simp only [World.size_alloc, World.size_setCell, World.size_drew]); omega) (.int .i64 v2)))⟩
end
end Go.Proofs.YtacehhcpfollnaaGreat
