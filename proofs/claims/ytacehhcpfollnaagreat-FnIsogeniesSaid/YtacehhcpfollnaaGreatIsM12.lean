/- Own texts put together: The program's neighbours and carried points. Conditions: those of each theorem. -/
import Derived.Test.YtacehhcpfollnaaGreatIsM11
namespace Go.Proofs.YtacehhcpfollnaaGreat
section
open Go Go.RowKit

theorem Dg.same {g : Nat} {w w' : World} {T : TypeId} {cs : Array Value} (h : Dg g w w') (a : Blk w g T cs) (b : Blk w' g T cs) : Below w.heap.size w w' :=
  ⟨h.os, h.tape, h.output, h.size, fun i hi => by
    by_cases e : i = g
    · subst e; exact b.trans a.symm
    · exact h.block i hi e⟩
theorem wholeE {e : Int} {g : Nat} (h1 : -1000000000 ≤ e) (h2 : e ≤ 1000000000) (w : World) (hK : Blk w g 90 #[.bool true]) :
    Calls Tryz.prog 66 #[.pointer (some ⟨g, 0, none⟩), .int .i64 e] w fun r w' => r = .returned (.agg #[.int .i64 e, .int .i64 1]) ∧ Below w.heap.size w w' := by
  refine (whole_lit (k := true) (k2 := true) (x := e) (y := 1) (Or.inl ⟨rfl, rfl, whoG_eq h1 h2⟩) (by omega) w hK).mono ?_
  rintro r w1 ⟨rfl, hk, hd⟩
  exact ⟨rfl, hd.same hK hk⟩
set_option linter.unusedSimpArgs false in
set_option maxRecDepth 8000 in
set_option maxHeartbeats 16000000 in
theorem carI_any (a b e x1 x2 y1 y2 : Int) (w : World) :
    Calls Tryz.prog 19 #[.agg #[.int .i64 a, .int .i64 b], .int .i64 e, .agg #[.int .i64 x1, .int .i64 x2], .agg #[.int .i64 y1, .int .i64 y2]] w fun r w' => r = CaE (carV a b e (x1, x2) (y1, y2)) ∧ Below w.heap.size w w' := by
  cases hcv : curveB a b
  · have Hk : Hid (askB a b e = false) := Lib.hid (by unfold askB; rw [hcv]; rfl)
    have Hcv := Lib.hid hcv; clear hcv
    go_enter Tryz.func19, Tryz.ntmps19
    go_wp2_with fail
    refine (cvI_lit Hcv.out _).mono ?_; rintro e w1 ⟨rfl, hb1⟩
    have S1 := Lib.hid (show w.heap.size + 5 ≤ w1.heap.size by have h9 := hb1.size; (try simp only [World.size_alloc, World.size_setCell, World.size_drew] at h9); omega)
    have NC := Lib.hid ((((((Blk.new w 25 #[.int .i64 a, .int .i64 b]).alloc (Obj.cells #[.int .i64 x1, .int .i64 x2] 42)).alloc (Obj.cells #[.int .i64 y1, .int .i64 y2] 42)).alloc (Obj.cells #[.int .i64 0, .int .i64 0] 42)).alloc (Obj.cells #[.int .i64 0, .int .i64 0] 42)).on hb1)
    have NX := Lib.hid (((((show Blk (World.alloc (World.alloc w (Obj.cells #[.int .i64 a, .int .i64 b] 25)) (Obj.cells #[.int .i64 x1, .int .i64 x2] 42)) (w.heap.size + 1) 42 #[.int .i64 x1, .int .i64 x2] by have h9 := (Blk.new (World.alloc w (Obj.cells #[.int .i64 a, .int .i64 b] 25)) 42 #[.int .i64 x1, .int .i64 x2]); (try simp only [World.size_alloc, World.size_setCell] at h9); exact h9).alloc (Obj.cells #[.int .i64 y1, .int .i64 y2] 42)).alloc (Obj.cells #[.int .i64 0, .int .i64 0] 42)).alloc (Obj.cells #[.int .i64 0, .int .i64 0] 42)).on hb1)
    have NY := Lib.hid ((((show Blk (World.alloc (World.alloc (World.alloc w (Obj.cells #[.int .i64 a, .int .i64 b] 25)) (Obj.cells #[.int .i64 x1, .int .i64 x2] 42)) (Obj.cells #[.int .i64 y1, .int .i64 y2] 42)) (w.heap.size + 1 + 1) 42 #[.int .i64 y1, .int .i64 y2] by have h9 := (Blk.new (World.alloc (World.alloc w (Obj.cells #[.int .i64 a, .int .i64 b] 25)) (Obj.cells #[.int .i64 x1, .int .i64 x2] 42)) 42 #[.int .i64 y1, .int .i64 y2]); (try simp only [World.size_alloc, World.size_setCell] at h9); exact h9).alloc (Obj.cells #[.int .i64 0, .int .i64 0] 42)).alloc (Obj.cells #[.int .i64 0, .int .i64 0] 42)).on hb1)
    have NR := Lib.hid (((show Blk (World.alloc (World.alloc (World.alloc (World.alloc w (Obj.cells #[.int .i64 a, .int .i64 b] 25)) (Obj.cells #[.int .i64 x1, .int .i64 x2] 42)) (Obj.cells #[.int .i64 y1, .int .i64 y2] 42)) (Obj.cells #[.int .i64 0, .int .i64 0] 42)) (w.heap.size + 1 + 1 + 1) 42 #[.int .i64 0, .int .i64 0] by have h9 := (Blk.new (World.alloc (World.alloc (World.alloc w (Obj.cells #[.int .i64 a, .int .i64 b] 25)) (Obj.cells #[.int .i64 x1, .int .i64 x2] 42)) (Obj.cells #[.int .i64 y1, .int .i64 y2] 42)) 42 #[.int .i64 0, .int .i64 0]); (try simp only [World.size_alloc, World.size_setCell] at h9); exact h9).alloc (Obj.cells #[.int .i64 0, .int .i64 0] 42)).on hb1)
    have NQ := Lib.hid ((show Blk (World.alloc (World.alloc (World.alloc (World.alloc (World.alloc w (Obj.cells #[.int .i64 a, .int .i64 b] 25)) (Obj.cells #[.int .i64 x1, .int .i64 x2] 42)) (Obj.cells #[.int .i64 y1, .int .i64 y2] 42)) (Obj.cells #[.int .i64 0, .int .i64 0] 42)) (Obj.cells #[.int .i64 0, .int .i64 0] 42)) (w.heap.size + 1 + 1 + 1 + 1) 42 #[.int .i64 0, .int .i64 0] by have h9 := (Blk.new (World.alloc (World.alloc (World.alloc (World.alloc w (Obj.cells #[.int .i64 a, .int .i64 b] 25)) (Obj.cells #[.int .i64 x1, .int .i64 x2] 42)) (Obj.cells #[.int .i64 y1, .int .i64 y2] 42)) (Obj.cells #[.int .i64 0, .int .i64 0] 42)) 42 #[.int .i64 0, .int .i64 0]); (try simp only [World.size_alloc, World.size_setCell] at h9); exact h9).on hb1)
    have C := NC; clear NC
    have X := NX; clear NX
    have Y := NY; clear NY
    have R := NR; clear NR
    have Q := NQ; clear NQ
    have Hb1 := Lib.hid (bthen (bal (bal (bal (bal (bal (Below.refl w.heap.size w) (Obj.cells #[.int .i64 a, .int .i64 b] 25)) (Obj.cells #[.int .i64 x1, .int .i64 x2] 42)) (Obj.cells #[.int .i64 y1, .int .i64 y2] 42)) (Obj.cells #[.int .i64 0, .int .i64 0] 42)) (Obj.cells #[.int .i64 0, .int .i64 0] 42)) hb1)
    clear hb1
    have qR0 : w1.cell? ⟨w.heap.size + 1 + 1 + 1, 0, none⟩ = some (.int .i64 0) := R.out.cell 0
    have qR1 : w1.cell? ⟨w.heap.size + 1 + 1 + 1, 1, none⟩ = some (.int .i64 0) := R.out.cell 1
    have qRl := R.out.lt
    have qRf0 := R.out.frozen 0
    have qRf1 := R.out.frozen 1
    have qQ0 : w1.cell? ⟨w.heap.size + 1 + 1 + 1 + 1, 0, none⟩ = some (.int .i64 0) := Q.out.cell 0
    have qQ1 : w1.cell? ⟨w.heap.size + 1 + 1 + 1 + 1, 1, none⟩ = some (.int .i64 0) := Q.out.cell 1
    have qQl := Q.out.lt
    have qQf0 := Q.out.frozen 0
    have qQf1 := Q.out.frozen 1
    have nQR : w.heap.size + 1 + 1 + 1 + 1 ≠ w.heap.size + 1 + 1 + 1 := by have := S1.out; (try simp only [World.size_alloc, World.size_setCell, World.size_drew]); omega
    have nRQ : w.heap.size + 1 + 1 + 1 ≠ w.heap.size + 1 + 1 + 1 + 1 := fun e => nQR e.symm
    go_wp2
    clear qR0 qR1 qRl qRf0 qRf1 qQ0 qQ1 qQl qQf0 qQf1 nQR nRQ
    have R9R := (show Blk (World.setCell (World.setCell (World.setCell (World.setCell w1 ⟨w.heap.size + 1 + 1 + 1, 0, none⟩ (.int .i64 0)) ⟨w.heap.size + 1 + 1 + 1, 1, none⟩ (.int .i64 0)) ⟨w.heap.size + 1 + 1 + 1 + 1, 0, none⟩ (.int .i64 0)) ⟨w.heap.size + 1 + 1 + 1 + 1, 1, none⟩ (.int .i64 0)) (w.heap.size + 1 + 1 + 1) 42 #[.int .i64 0, .int .i64 0] by have h9 := ((((R.out.set 0 (.int .i64 0)).set 1 (.int .i64 0)).far (p := ⟨w.heap.size + 1 + 1 + 1 + 1, 0, none⟩) (show w.heap.size + 1 + 1 + 1 ≠ w.heap.size + 1 + 1 + 1 + 1 by have := S1.out; (try simp only [World.size_alloc, World.size_setCell, World.size_drew]); omega) (.int .i64 0)).far (p := ⟨w.heap.size + 1 + 1 + 1 + 1, 1, none⟩) (show w.heap.size + 1 + 1 + 1 ≠ w.heap.size + 1 + 1 + 1 + 1 by have := S1.out; (try simp only [World.size_alloc, World.size_setCell, World.size_drew]); omega) (.int .i64 0)); simpa using h9)
    have kR0 := R9R.cell 0
    have kR1 := R9R.cell 1
    have R9Q := (show Blk (World.setCell (World.setCell (World.setCell (World.setCell w1 ⟨w.heap.size + 1 + 1 + 1, 0, none⟩ (.int .i64 0)) ⟨w.heap.size + 1 + 1 + 1, 1, none⟩ (.int .i64 0)) ⟨w.heap.size + 1 + 1 + 1 + 1, 0, none⟩ (.int .i64 0)) ⟨w.heap.size + 1 + 1 + 1 + 1, 1, none⟩ (.int .i64 0)) (w.heap.size + 1 + 1 + 1 + 1) 42 #[.int .i64 0, .int .i64 0] by have h9 := ((((Q.out.far (p := ⟨w.heap.size + 1 + 1 + 1, 0, none⟩) (show w.heap.size + 1 + 1 + 1 + 1 ≠ w.heap.size + 1 + 1 + 1 by have := S1.out; (try simp only [World.size_alloc, World.size_setCell, World.size_drew]); omega) (.int .i64 0)).far (p := ⟨w.heap.size + 1 + 1 + 1, 1, none⟩) (show w.heap.size + 1 + 1 + 1 + 1 ≠ w.heap.size + 1 + 1 + 1 by have := S1.out; (try simp only [World.size_alloc, World.size_setCell, World.size_drew]); omega) (.int .i64 0)).set 0 (.int .i64 0)).set 1 (.int .i64 0)); simpa using h9)
    have kQ0 := R9Q.cell 0
    have kQ1 := R9Q.cell 1
    simp at kR0 kR1 kQ0 kQ1
    exact bodyPost_ret (v := .tuple #[.agg #[.int .i64 0, .int .i64 0], .agg #[.int .i64 0, .int .i64 0], .bool false]) (by simp [results, Tryz.results19, go_sem, kR0, kR1, kQ0, kQ1]) rfl ⟨by rw [show carV a b e (x1, x2) (y1, y2) = none from car_out (.inl Hk.out)]; rfl, (bst (bst (bst (bst Hb1.out (p := ⟨w.heap.size + 1 + 1 + 1, 0, none⟩) (show w.heap.size ≤ w.heap.size + 1 + 1 + 1 by have := S1.out; (try simp only [World.size_alloc, World.size_setCell, World.size_drew]); omega) (.int .i64 0)) (p := ⟨w.heap.size + 1 + 1 + 1, 1, none⟩) (show w.heap.size ≤ w.heap.size + 1 + 1 + 1 by have := S1.out; (try simp only [World.size_alloc, World.size_setCell, World.size_drew]); omega) (.int .i64 0)) (p := ⟨w.heap.size + 1 + 1 + 1 + 1, 0, none⟩) (show w.heap.size ≤ w.heap.size + 1 + 1 + 1 + 1 by have := S1.out; (try simp only [World.size_alloc, World.size_setCell, World.size_drew]); omega) (.int .i64 0)) (p := ⟨w.heap.size + 1 + 1 + 1 + 1, 1, none⟩) (show w.heap.size ≤ w.heap.size + 1 + 1 + 1 + 1 by have := S1.out; (try simp only [World.size_alloc, World.size_setCell, World.size_drew]); omega) (.int .i64 0))⟩
  · cases hk : askB a b e
    · have Hk := Lib.hid hk; have Hcv := Lib.hid hcv; clear hk hcv
      go_enter Tryz.func19, Tryz.ntmps19
      go_wp2_with fail
      refine (cvI_lit Hcv.out _).mono ?_; rintro e w2 ⟨rfl, hb2⟩
      have S2 := Lib.hid (show w.heap.size + 5 ≤ w2.heap.size by have h9 := hb2.size; (try simp only [World.size_alloc, World.size_setCell, World.size_drew] at h9); omega)
      have NC := Lib.hid ((((((Blk.new w 25 #[.int .i64 a, .int .i64 b]).alloc (Obj.cells #[.int .i64 x1, .int .i64 x2] 42)).alloc (Obj.cells #[.int .i64 y1, .int .i64 y2] 42)).alloc (Obj.cells #[.int .i64 0, .int .i64 0] 42)).alloc (Obj.cells #[.int .i64 0, .int .i64 0] 42)).on hb2)
      have NX := Lib.hid (((((show Blk (World.alloc (World.alloc w (Obj.cells #[.int .i64 a, .int .i64 b] 25)) (Obj.cells #[.int .i64 x1, .int .i64 x2] 42)) (w.heap.size + 1) 42 #[.int .i64 x1, .int .i64 x2] by have h9 := (Blk.new (World.alloc w (Obj.cells #[.int .i64 a, .int .i64 b] 25)) 42 #[.int .i64 x1, .int .i64 x2]); (try simp only [World.size_alloc, World.size_setCell] at h9); exact h9).alloc (Obj.cells #[.int .i64 y1, .int .i64 y2] 42)).alloc (Obj.cells #[.int .i64 0, .int .i64 0] 42)).alloc (Obj.cells #[.int .i64 0, .int .i64 0] 42)).on hb2)
      have NY := Lib.hid ((((show Blk (World.alloc (World.alloc (World.alloc w (Obj.cells #[.int .i64 a, .int .i64 b] 25)) (Obj.cells #[.int .i64 x1, .int .i64 x2] 42)) (Obj.cells #[.int .i64 y1, .int .i64 y2] 42)) (w.heap.size + 1 + 1) 42 #[.int .i64 y1, .int .i64 y2] by have h9 := (Blk.new (World.alloc (World.alloc w (Obj.cells #[.int .i64 a, .int .i64 b] 25)) (Obj.cells #[.int .i64 x1, .int .i64 x2] 42)) 42 #[.int .i64 y1, .int .i64 y2]); (try simp only [World.size_alloc, World.size_setCell] at h9); exact h9).alloc (Obj.cells #[.int .i64 0, .int .i64 0] 42)).alloc (Obj.cells #[.int .i64 0, .int .i64 0] 42)).on hb2)
      have NR := Lib.hid (((show Blk (World.alloc (World.alloc (World.alloc (World.alloc w (Obj.cells #[.int .i64 a, .int .i64 b] 25)) (Obj.cells #[.int .i64 x1, .int .i64 x2] 42)) (Obj.cells #[.int .i64 y1, .int .i64 y2] 42)) (Obj.cells #[.int .i64 0, .int .i64 0] 42)) (w.heap.size + 1 + 1 + 1) 42 #[.int .i64 0, .int .i64 0] by have h9 := (Blk.new (World.alloc (World.alloc (World.alloc w (Obj.cells #[.int .i64 a, .int .i64 b] 25)) (Obj.cells #[.int .i64 x1, .int .i64 x2] 42)) (Obj.cells #[.int .i64 y1, .int .i64 y2] 42)) 42 #[.int .i64 0, .int .i64 0]); (try simp only [World.size_alloc, World.size_setCell] at h9); exact h9).alloc (Obj.cells #[.int .i64 0, .int .i64 0] 42)).on hb2)
      have NQ := Lib.hid ((show Blk (World.alloc (World.alloc (World.alloc (World.alloc (World.alloc w (Obj.cells #[.int .i64 a, .int .i64 b] 25)) (Obj.cells #[.int .i64 x1, .int .i64 x2] 42)) (Obj.cells #[.int .i64 y1, .int .i64 y2] 42)) (Obj.cells #[.int .i64 0, .int .i64 0] 42)) (Obj.cells #[.int .i64 0, .int .i64 0] 42)) (w.heap.size + 1 + 1 + 1 + 1) 42 #[.int .i64 0, .int .i64 0] by have h9 := (Blk.new (World.alloc (World.alloc (World.alloc (World.alloc w (Obj.cells #[.int .i64 a, .int .i64 b] 25)) (Obj.cells #[.int .i64 x1, .int .i64 x2] 42)) (Obj.cells #[.int .i64 y1, .int .i64 y2] 42)) (Obj.cells #[.int .i64 0, .int .i64 0] 42)) 42 #[.int .i64 0, .int .i64 0]); (try simp only [World.size_alloc, World.size_setCell] at h9); exact h9).on hb2)
      have C := NC; clear NC
      have X := NX; clear NX
      have Y := NY; clear NY
      have R := NR; clear NR
      have Q := NQ; clear NQ
      have Hb2 := Lib.hid (bthen (bal (bal (bal (bal (bal (Below.refl w.heap.size w) (Obj.cells #[.int .i64 a, .int .i64 b] 25)) (Obj.cells #[.int .i64 x1, .int .i64 x2] 42)) (Obj.cells #[.int .i64 y1, .int .i64 y2] 42)) (Obj.cells #[.int .i64 0, .int .i64 0] 42)) (Obj.cells #[.int .i64 0, .int .i64 0] 42)) hb2)
      clear hb2
      have qC0 : w2.cell? ⟨w.heap.size, 0, none⟩ = some (.int .i64 a) := C.out.cell 0
      have qC1 : w2.cell? ⟨w.heap.size, 1, none⟩ = some (.int .i64 b) := C.out.cell 1
      have qCl := C.out.lt
      go_wp2_with fail
      clear qC0 qC1 qCl
      refine (isTwo_lit Hk.out Hcv.out _).mono ?_; rintro e w3 ⟨rfl, hb3⟩
      have S3 := Lib.hid (show w2.heap.size + 0 ≤ w3.heap.size by have h9 := hb3.size; (try simp only [World.size_alloc, World.size_setCell, World.size_drew] at h9); omega)
      have Z3 := Lib.hid (And.intro S2.out S3.out)
      have NC := Lib.hid (C.out.on hb3)
      have NX := Lib.hid (X.out.on hb3)
      have NY := Lib.hid (Y.out.on hb3)
      have NR := Lib.hid (R.out.on hb3)
      have NQ := Lib.hid (Q.out.on hb3)
      have C := NC; clear NC
      have X := NX; clear NX
      have Y := NY; clear NY
      have R := NR; clear NR
      have Q := NQ; clear NQ
      have Hb3 := Lib.hid (bthen Hb2.out hb3)
      clear hb3
      have qR0 : w3.cell? ⟨w.heap.size + 1 + 1 + 1, 0, none⟩ = some (.int .i64 0) := R.out.cell 0
      have qR1 : w3.cell? ⟨w.heap.size + 1 + 1 + 1, 1, none⟩ = some (.int .i64 0) := R.out.cell 1
      have qRl := R.out.lt
      have qRf0 := R.out.frozen 0
      have qRf1 := R.out.frozen 1
      have qQ0 : w3.cell? ⟨w.heap.size + 1 + 1 + 1 + 1, 0, none⟩ = some (.int .i64 0) := Q.out.cell 0
      have qQ1 : w3.cell? ⟨w.heap.size + 1 + 1 + 1 + 1, 1, none⟩ = some (.int .i64 0) := Q.out.cell 1
      have qQl := Q.out.lt
      have qQf0 := Q.out.frozen 0
      have qQf1 := Q.out.frozen 1
      have nQR : w.heap.size + 1 + 1 + 1 + 1 ≠ w.heap.size + 1 + 1 + 1 := by have := Z3.out; (try simp only [World.size_alloc, World.size_setCell, World.size_drew]); omega
      have nRQ : w.heap.size + 1 + 1 + 1 ≠ w.heap.size + 1 + 1 + 1 + 1 := fun e => nQR e.symm
      go_wp2
      clear qR0 qR1 qRl qRf0 qRf1 qQ0 qQ1 qQl qQf0 qQf1 nQR nRQ
      have R9R := (show Blk (World.setCell (World.setCell (World.setCell (World.setCell w3 ⟨w.heap.size + 1 + 1 + 1, 0, none⟩ (.int .i64 0)) ⟨w.heap.size + 1 + 1 + 1, 1, none⟩ (.int .i64 0)) ⟨w.heap.size + 1 + 1 + 1 + 1, 0, none⟩ (.int .i64 0)) ⟨w.heap.size + 1 + 1 + 1 + 1, 1, none⟩ (.int .i64 0)) (w.heap.size + 1 + 1 + 1) 42 #[.int .i64 0, .int .i64 0] by have h9 := ((((R.out.set 0 (.int .i64 0)).set 1 (.int .i64 0)).far (p := ⟨w.heap.size + 1 + 1 + 1 + 1, 0, none⟩) (show w.heap.size + 1 + 1 + 1 ≠ w.heap.size + 1 + 1 + 1 + 1 by have := Z3.out; (try simp only [World.size_alloc, World.size_setCell, World.size_drew]); omega) (.int .i64 0)).far (p := ⟨w.heap.size + 1 + 1 + 1 + 1, 1, none⟩) (show w.heap.size + 1 + 1 + 1 ≠ w.heap.size + 1 + 1 + 1 + 1 by have := Z3.out; (try simp only [World.size_alloc, World.size_setCell, World.size_drew]); omega) (.int .i64 0)); simpa using h9)
      have kR0 := R9R.cell 0
      have kR1 := R9R.cell 1
      have R9Q := (show Blk (World.setCell (World.setCell (World.setCell (World.setCell w3 ⟨w.heap.size + 1 + 1 + 1, 0, none⟩ (.int .i64 0)) ⟨w.heap.size + 1 + 1 + 1, 1, none⟩ (.int .i64 0)) ⟨w.heap.size + 1 + 1 + 1 + 1, 0, none⟩ (.int .i64 0)) ⟨w.heap.size + 1 + 1 + 1 + 1, 1, none⟩ (.int .i64 0)) (w.heap.size + 1 + 1 + 1 + 1) 42 #[.int .i64 0, .int .i64 0] by have h9 := ((((Q.out.far (p := ⟨w.heap.size + 1 + 1 + 1, 0, none⟩) (show w.heap.size + 1 + 1 + 1 + 1 ≠ w.heap.size + 1 + 1 + 1 by have := Z3.out; (try simp only [World.size_alloc, World.size_setCell, World.size_drew]); omega) (.int .i64 0)).far (p := ⟨w.heap.size + 1 + 1 + 1, 1, none⟩) (show w.heap.size + 1 + 1 + 1 + 1 ≠ w.heap.size + 1 + 1 + 1 by have := Z3.out; (try simp only [World.size_alloc, World.size_setCell, World.size_drew]); omega) (.int .i64 0)).set 0 (.int .i64 0)).set 1 (.int .i64 0)); simpa using h9)
      have kQ0 := R9Q.cell 0
      have kQ1 := R9Q.cell 1
      simp at kR0 kR1 kQ0 kQ1
      exact bodyPost_ret (v := .tuple #[.agg #[.int .i64 0, .int .i64 0], .agg #[.int .i64 0, .int .i64 0], .bool false]) (by simp [results, Tryz.results19, go_sem, kR0, kR1, kQ0, kQ1]) rfl ⟨by rw [show carV a b e (x1, x2) (y1, y2) = none from car_out (.inl Hk.out)]; rfl, (bst (bst (bst (bst Hb3.out (p := ⟨w.heap.size + 1 + 1 + 1, 0, none⟩) (show w.heap.size ≤ w.heap.size + 1 + 1 + 1 by have := Z3.out; (try simp only [World.size_alloc, World.size_setCell, World.size_drew]); omega) (.int .i64 0)) (p := ⟨w.heap.size + 1 + 1 + 1, 1, none⟩) (show w.heap.size ≤ w.heap.size + 1 + 1 + 1 by have := Z3.out; (try simp only [World.size_alloc, World.size_setCell, World.size_drew]); omega) (.int .i64 0)) (p := ⟨w.heap.size + 1 + 1 + 1 + 1, 0, none⟩) (show w.heap.size ≤ w.heap.size + 1 + 1 + 1 + 1 by have := Z3.out; (try simp only [World.size_alloc, World.size_setCell, World.size_drew]); omega) (.int .i64 0)) (p := ⟨w.heap.size + 1 + 1 + 1 + 1, 1, none⟩) (show w.heap.size ≤ w.heap.size + 1 + 1 + 1 + 1 by have := Z3.out; (try simp only [World.size_alloc, World.size_setCell, World.size_drew]); omega) (.int .i64 0))⟩
    · obtain ⟨-, hev, he⟩ := ask_bd hk
      obtain ⟨ha, hb⟩ := curveB_bd hcv
      have Hk := Lib.hid hk; have Hcv := Lib.hid hcv; clear hk hcv
      obtain ⟨⟨n1, n2⟩, ⟨n3, n4⟩, n5, n6⟩ := tt_bd ha he
      cases hx : frB 1000000000 x1 x2
      · have Hx := Lib.hid hx; clear hx
        go_enter Tryz.func19, Tryz.ntmps19
        go_wp2_with fail
        refine (cvI_lit Hcv.out _).mono ?_; rintro e w4 ⟨rfl, hb4⟩
        have S4 := Lib.hid (show w.heap.size + 5 ≤ w4.heap.size by have h9 := hb4.size; (try simp only [World.size_alloc, World.size_setCell, World.size_drew] at h9); omega)
        have NC := Lib.hid ((((((Blk.new w 25 #[.int .i64 a, .int .i64 b]).alloc (Obj.cells #[.int .i64 x1, .int .i64 x2] 42)).alloc (Obj.cells #[.int .i64 y1, .int .i64 y2] 42)).alloc (Obj.cells #[.int .i64 0, .int .i64 0] 42)).alloc (Obj.cells #[.int .i64 0, .int .i64 0] 42)).on hb4)
        have NX := Lib.hid (((((show Blk (World.alloc (World.alloc w (Obj.cells #[.int .i64 a, .int .i64 b] 25)) (Obj.cells #[.int .i64 x1, .int .i64 x2] 42)) (w.heap.size + 1) 42 #[.int .i64 x1, .int .i64 x2] by have h9 := (Blk.new (World.alloc w (Obj.cells #[.int .i64 a, .int .i64 b] 25)) 42 #[.int .i64 x1, .int .i64 x2]); (try simp only [World.size_alloc, World.size_setCell] at h9); exact h9).alloc (Obj.cells #[.int .i64 y1, .int .i64 y2] 42)).alloc (Obj.cells #[.int .i64 0, .int .i64 0] 42)).alloc (Obj.cells #[.int .i64 0, .int .i64 0] 42)).on hb4)
        have NY := Lib.hid ((((show Blk (World.alloc (World.alloc (World.alloc w (Obj.cells #[.int .i64 a, .int .i64 b] 25)) (Obj.cells #[.int .i64 x1, .int .i64 x2] 42)) (Obj.cells #[.int .i64 y1, .int .i64 y2] 42)) (w.heap.size + 1 + 1) 42 #[.int .i64 y1, .int .i64 y2] by have h9 := (Blk.new (World.alloc (World.alloc w (Obj.cells #[.int .i64 a, .int .i64 b] 25)) (Obj.cells #[.int .i64 x1, .int .i64 x2] 42)) 42 #[.int .i64 y1, .int .i64 y2]); (try simp only [World.size_alloc, World.size_setCell] at h9); exact h9).alloc (Obj.cells #[.int .i64 0, .int .i64 0] 42)).alloc (Obj.cells #[.int .i64 0, .int .i64 0] 42)).on hb4)
        have NR := Lib.hid (((show Blk (World.alloc (World.alloc (World.alloc (World.alloc w (Obj.cells #[.int .i64 a, .int .i64 b] 25)) (Obj.cells #[.int .i64 x1, .int .i64 x2] 42)) (Obj.cells #[.int .i64 y1, .int .i64 y2] 42)) (Obj.cells #[.int .i64 0, .int .i64 0] 42)) (w.heap.size + 1 + 1 + 1) 42 #[.int .i64 0, .int .i64 0] by have h9 := (Blk.new (World.alloc (World.alloc (World.alloc w (Obj.cells #[.int .i64 a, .int .i64 b] 25)) (Obj.cells #[.int .i64 x1, .int .i64 x2] 42)) (Obj.cells #[.int .i64 y1, .int .i64 y2] 42)) 42 #[.int .i64 0, .int .i64 0]); (try simp only [World.size_alloc, World.size_setCell] at h9); exact h9).alloc (Obj.cells #[.int .i64 0, .int .i64 0] 42)).on hb4)
        have NQ := Lib.hid ((show Blk (World.alloc (World.alloc (World.alloc (World.alloc (World.alloc w (Obj.cells #[.int .i64 a, .int .i64 b] 25)) (Obj.cells #[.int .i64 x1, .int .i64 x2] 42)) (Obj.cells #[.int .i64 y1, .int .i64 y2] 42)) (Obj.cells #[.int .i64 0, .int .i64 0] 42)) (Obj.cells #[.int .i64 0, .int .i64 0] 42)) (w.heap.size + 1 + 1 + 1 + 1) 42 #[.int .i64 0, .int .i64 0] by have h9 := (Blk.new (World.alloc (World.alloc (World.alloc (World.alloc w (Obj.cells #[.int .i64 a, .int .i64 b] 25)) (Obj.cells #[.int .i64 x1, .int .i64 x2] 42)) (Obj.cells #[.int .i64 y1, .int .i64 y2] 42)) (Obj.cells #[.int .i64 0, .int .i64 0] 42)) 42 #[.int .i64 0, .int .i64 0]); (try simp only [World.size_alloc, World.size_setCell] at h9); exact h9).on hb4)
        have C := NC; clear NC
        have X := NX; clear NX
        have Y := NY; clear NY
        have R := NR; clear NR
        have Q := NQ; clear NQ
        have Hb4 := Lib.hid (bthen (bal (bal (bal (bal (bal (Below.refl w.heap.size w) (Obj.cells #[.int .i64 a, .int .i64 b] 25)) (Obj.cells #[.int .i64 x1, .int .i64 x2] 42)) (Obj.cells #[.int .i64 y1, .int .i64 y2] 42)) (Obj.cells #[.int .i64 0, .int .i64 0] 42)) (Obj.cells #[.int .i64 0, .int .i64 0] 42)) hb4)
        clear hb4
        have qC0 : w4.cell? ⟨w.heap.size, 0, none⟩ = some (.int .i64 a) := C.out.cell 0
        have qC1 : w4.cell? ⟨w.heap.size, 1, none⟩ = some (.int .i64 b) := C.out.cell 1
        have qCl := C.out.lt
        go_wp2_with fail
        clear qC0 qC1 qCl
        refine (isTwo_lit Hk.out Hcv.out _).mono ?_; rintro e w5 ⟨rfl, hb5⟩
        have S5 := Lib.hid (show w4.heap.size + 0 ≤ w5.heap.size by have h9 := hb5.size; (try simp only [World.size_alloc, World.size_setCell, World.size_drew] at h9); omega)
        have Z5 := Lib.hid (And.intro S4.out S5.out)
        have NC := Lib.hid (C.out.on hb5)
        have NX := Lib.hid (X.out.on hb5)
        have NY := Lib.hid (Y.out.on hb5)
        have NR := Lib.hid (R.out.on hb5)
        have NQ := Lib.hid (Q.out.on hb5)
        have C := NC; clear NC
        have X := NX; clear NX
        have Y := NY; clear NY
        have R := NR; clear NR
        have Q := NQ; clear NQ
        have Hb5 := Lib.hid (bthen Hb4.out hb5)
        clear hb5
        have qX0 : w5.cell? ⟨w.heap.size + 1, 0, none⟩ = some (.int .i64 x1) := X.out.cell 0
        have qX1 : w5.cell? ⟨w.heap.size + 1, 1, none⟩ = some (.int .i64 x2) := X.out.cell 1
        have qXl := X.out.lt
        go_wp2_with fail
        clear qX0 qX1 qXl
        refine (fr_is Hx.out _).mono ?_; rintro e w6 ⟨rfl, hb6⟩
        have S6 := Lib.hid (show w5.heap.size + 0 ≤ w6.heap.size by have h9 := hb6.size; (try simp only [World.size_alloc, World.size_setCell, World.size_drew] at h9); omega)
        have Z6 := Lib.hid (And.intro Z5.out S6.out)
        have NC := Lib.hid (C.out.on hb6)
        have NX := Lib.hid (X.out.on hb6)
        have NY := Lib.hid (Y.out.on hb6)
        have NR := Lib.hid (R.out.on hb6)
        have NQ := Lib.hid (Q.out.on hb6)
        have C := NC; clear NC
        have X := NX; clear NX
        have Y := NY; clear NY
        have R := NR; clear NR
        have Q := NQ; clear NQ
        have Hb6 := Lib.hid (bthen Hb5.out hb6)
        clear hb6
        have qR0 : w6.cell? ⟨w.heap.size + 1 + 1 + 1, 0, none⟩ = some (.int .i64 0) := R.out.cell 0
        have qR1 : w6.cell? ⟨w.heap.size + 1 + 1 + 1, 1, none⟩ = some (.int .i64 0) := R.out.cell 1
        have qRl := R.out.lt
        have qRf0 := R.out.frozen 0
        have qRf1 := R.out.frozen 1
        have qQ0 : w6.cell? ⟨w.heap.size + 1 + 1 + 1 + 1, 0, none⟩ = some (.int .i64 0) := Q.out.cell 0
        have qQ1 : w6.cell? ⟨w.heap.size + 1 + 1 + 1 + 1, 1, none⟩ = some (.int .i64 0) := Q.out.cell 1
        have qQl := Q.out.lt
        have qQf0 := Q.out.frozen 0
        have qQf1 := Q.out.frozen 1
        have nQR : w.heap.size + 1 + 1 + 1 + 1 ≠ w.heap.size + 1 + 1 + 1 := by have := Z6.out; (try simp only [World.size_alloc, World.size_setCell, World.size_drew]); omega
        have nRQ : w.heap.size + 1 + 1 + 1 ≠ w.heap.size + 1 + 1 + 1 + 1 := fun e => nQR e.symm
        go_wp2
        clear qR0 qR1 qRl qRf0 qRf1 qQ0 qQ1 qQl qQf0 qQf1 nQR nRQ
        have R9R := (show Blk (World.setCell (World.setCell (World.setCell (World.setCell w6 ⟨w.heap.size + 1 + 1 + 1, 0, none⟩ (.int .i64 0)) ⟨w.heap.size + 1 + 1 + 1, 1, none⟩ (.int .i64 0)) ⟨w.heap.size + 1 + 1 + 1 + 1, 0, none⟩ (.int .i64 0)) ⟨w.heap.size + 1 + 1 + 1 + 1, 1, none⟩ (.int .i64 0)) (w.heap.size + 1 + 1 + 1) 42 #[.int .i64 0, .int .i64 0] by have h9 := ((((R.out.set 0 (.int .i64 0)).set 1 (.int .i64 0)).far (p := ⟨w.heap.size + 1 + 1 + 1 + 1, 0, none⟩) (show w.heap.size + 1 + 1 + 1 ≠ w.heap.size + 1 + 1 + 1 + 1 by have := Z6.out; (try simp only [World.size_alloc, World.size_setCell, World.size_drew]); omega) (.int .i64 0)).far (p := ⟨w.heap.size + 1 + 1 + 1 + 1, 1, none⟩) (show w.heap.size + 1 + 1 + 1 ≠ w.heap.size + 1 + 1 + 1 + 1 by have := Z6.out; (try simp only [World.size_alloc, World.size_setCell, World.size_drew]); omega) (.int .i64 0)); simpa using h9)
        have kR0 := R9R.cell 0
        have kR1 := R9R.cell 1
        have R9Q := (show Blk (World.setCell (World.setCell (World.setCell (World.setCell w6 ⟨w.heap.size + 1 + 1 + 1, 0, none⟩ (.int .i64 0)) ⟨w.heap.size + 1 + 1 + 1, 1, none⟩ (.int .i64 0)) ⟨w.heap.size + 1 + 1 + 1 + 1, 0, none⟩ (.int .i64 0)) ⟨w.heap.size + 1 + 1 + 1 + 1, 1, none⟩ (.int .i64 0)) (w.heap.size + 1 + 1 + 1 + 1) 42 #[.int .i64 0, .int .i64 0] by have h9 := ((((Q.out.far (p := ⟨w.heap.size + 1 + 1 + 1, 0, none⟩) (show w.heap.size + 1 + 1 + 1 + 1 ≠ w.heap.size + 1 + 1 + 1 by have := Z6.out; (try simp only [World.size_alloc, World.size_setCell, World.size_drew]); omega) (.int .i64 0)).far (p := ⟨w.heap.size + 1 + 1 + 1, 1, none⟩) (show w.heap.size + 1 + 1 + 1 + 1 ≠ w.heap.size + 1 + 1 + 1 by have := Z6.out; (try simp only [World.size_alloc, World.size_setCell, World.size_drew]); omega) (.int .i64 0)).set 0 (.int .i64 0)).set 1 (.int .i64 0)); simpa using h9)
        have kQ0 := R9Q.cell 0
        have kQ1 := R9Q.cell 1
        simp at kR0 kR1 kQ0 kQ1
        exact bodyPost_ret (v := .tuple #[.agg #[.int .i64 0, .int .i64 0], .agg #[.int .i64 0, .int .i64 0], .bool false]) (by simp [results, Tryz.results19, go_sem, kR0, kR1, kQ0, kQ1]) rfl ⟨by rw [show carV a b e (x1, x2) (y1, y2) = none from car_out (.inr (.inl (by show (frB 1000000000 x1 x2 && frB 1000000000 y1 y2) = false; rw [Hx.out]; rfl)))]; rfl, (bst (bst (bst (bst Hb6.out (p := ⟨w.heap.size + 1 + 1 + 1, 0, none⟩) (show w.heap.size ≤ w.heap.size + 1 + 1 + 1 by have := Z6.out; (try simp only [World.size_alloc, World.size_setCell, World.size_drew]); omega) (.int .i64 0)) (p := ⟨w.heap.size + 1 + 1 + 1, 1, none⟩) (show w.heap.size ≤ w.heap.size + 1 + 1 + 1 by have := Z6.out; (try simp only [World.size_alloc, World.size_setCell, World.size_drew]); omega) (.int .i64 0)) (p := ⟨w.heap.size + 1 + 1 + 1 + 1, 0, none⟩) (show w.heap.size ≤ w.heap.size + 1 + 1 + 1 + 1 by have := Z6.out; (try simp only [World.size_alloc, World.size_setCell, World.size_drew]); omega) (.int .i64 0)) (p := ⟨w.heap.size + 1 + 1 + 1 + 1, 1, none⟩) (show w.heap.size ≤ w.heap.size + 1 + 1 + 1 + 1 by have := Z6.out; (try simp only [World.size_alloc, World.size_setCell, World.size_drew]); omega) (.int .i64 0))⟩
      · cases hy : frB 1000000000 y1 y2
        · have Hx := Lib.hid hx; have Hy := Lib.hid hy; clear hx hy
          go_enter Tryz.func19, Tryz.ntmps19
          go_wp2_with fail
          refine (cvI_lit Hcv.out _).mono ?_; rintro e w7 ⟨rfl, hb7⟩
          have S7 := Lib.hid (show w.heap.size + 5 ≤ w7.heap.size by have h9 := hb7.size; (try simp only [World.size_alloc, World.size_setCell, World.size_drew] at h9); omega)
          have NC := Lib.hid ((((((Blk.new w 25 #[.int .i64 a, .int .i64 b]).alloc (Obj.cells #[.int .i64 x1, .int .i64 x2] 42)).alloc (Obj.cells #[.int .i64 y1, .int .i64 y2] 42)).alloc (Obj.cells #[.int .i64 0, .int .i64 0] 42)).alloc (Obj.cells #[.int .i64 0, .int .i64 0] 42)).on hb7)
          have NX := Lib.hid (((((show Blk (World.alloc (World.alloc w (Obj.cells #[.int .i64 a, .int .i64 b] 25)) (Obj.cells #[.int .i64 x1, .int .i64 x2] 42)) (w.heap.size + 1) 42 #[.int .i64 x1, .int .i64 x2] by have h9 := (Blk.new (World.alloc w (Obj.cells #[.int .i64 a, .int .i64 b] 25)) 42 #[.int .i64 x1, .int .i64 x2]); (try simp only [World.size_alloc, World.size_setCell] at h9); exact h9).alloc (Obj.cells #[.int .i64 y1, .int .i64 y2] 42)).alloc (Obj.cells #[.int .i64 0, .int .i64 0] 42)).alloc (Obj.cells #[.int .i64 0, .int .i64 0] 42)).on hb7)
          have NY := Lib.hid ((((show Blk (World.alloc (World.alloc (World.alloc w (Obj.cells #[.int .i64 a, .int .i64 b] 25)) (Obj.cells #[.int .i64 x1, .int .i64 x2] 42)) (Obj.cells #[.int .i64 y1, .int .i64 y2] 42)) (w.heap.size + 1 + 1) 42 #[.int .i64 y1, .int .i64 y2] by have h9 := (Blk.new (World.alloc (World.alloc w (Obj.cells #[.int .i64 a, .int .i64 b] 25)) (Obj.cells #[.int .i64 x1, .int .i64 x2] 42)) 42 #[.int .i64 y1, .int .i64 y2]); (try simp only [World.size_alloc, World.size_setCell] at h9); exact h9).alloc (Obj.cells #[.int .i64 0, .int .i64 0] 42)).alloc (Obj.cells #[.int .i64 0, .int .i64 0] 42)).on hb7)
          have NR := Lib.hid (((show Blk (World.alloc (World.alloc (World.alloc (World.alloc w (Obj.cells #[.int .i64 a, .int .i64 b] 25)) (Obj.cells #[.int .i64 x1, .int .i64 x2] 42)) (Obj.cells #[.int .i64 y1, .int .i64 y2] 42)) (Obj.cells #[.int .i64 0, .int .i64 0] 42)) (w.heap.size + 1 + 1 + 1) 42 #[.int .i64 0, .int .i64 0] by have h9 := (Blk.new (World.alloc (World.alloc (World.alloc w (Obj.cells #[.int .i64 a, .int .i64 b] 25)) (Obj.cells #[.int .i64 x1, .int .i64 x2] 42)) (Obj.cells #[.int .i64 y1, .int .i64 y2] 42)) 42 #[.int .i64 0, .int .i64 0]); (try simp only [World.size_alloc, World.size_setCell] at h9); exact h9).alloc (Obj.cells #[.int .i64 0, .int .i64 0] 42)).on hb7)
          have NQ := Lib.hid ((show Blk (World.alloc (World.alloc (World.alloc (World.alloc (World.alloc w (Obj.cells #[.int .i64 a, .int .i64 b] 25)) (Obj.cells #[.int .i64 x1, .int .i64 x2] 42)) (Obj.cells #[.int .i64 y1, .int .i64 y2] 42)) (Obj.cells #[.int .i64 0, .int .i64 0] 42)) (Obj.cells #[.int .i64 0, .int .i64 0] 42)) (w.heap.size + 1 + 1 + 1 + 1) 42 #[.int .i64 0, .int .i64 0] by have h9 := (Blk.new (World.alloc (World.alloc (World.alloc (World.alloc w (Obj.cells #[.int .i64 a, .int .i64 b] 25)) (Obj.cells #[.int .i64 x1, .int .i64 x2] 42)) (Obj.cells #[.int .i64 y1, .int .i64 y2] 42)) (Obj.cells #[.int .i64 0, .int .i64 0] 42)) 42 #[.int .i64 0, .int .i64 0]); (try simp only [World.size_alloc, World.size_setCell] at h9); exact h9).on hb7)
          have C := NC; clear NC
          have X := NX; clear NX
          have Y := NY; clear NY
          have R := NR; clear NR
          have Q := NQ; clear NQ
          have Hb7 := Lib.hid (bthen (bal (bal (bal (bal (bal (Below.refl w.heap.size w) (Obj.cells #[.int .i64 a, .int .i64 b] 25)) (Obj.cells #[.int .i64 x1, .int .i64 x2] 42)) (Obj.cells #[.int .i64 y1, .int .i64 y2] 42)) (Obj.cells #[.int .i64 0, .int .i64 0] 42)) (Obj.cells #[.int .i64 0, .int .i64 0] 42)) hb7)
          clear hb7
          have qC0 : w7.cell? ⟨w.heap.size, 0, none⟩ = some (.int .i64 a) := C.out.cell 0
          have qC1 : w7.cell? ⟨w.heap.size, 1, none⟩ = some (.int .i64 b) := C.out.cell 1
          have qCl := C.out.lt
          go_wp2_with fail
          clear qC0 qC1 qCl
          refine (isTwo_lit Hk.out Hcv.out _).mono ?_; rintro e w8 ⟨rfl, hb8⟩
          have S8 := Lib.hid (show w7.heap.size + 0 ≤ w8.heap.size by have h9 := hb8.size; (try simp only [World.size_alloc, World.size_setCell, World.size_drew] at h9); omega)
          have Z8 := Lib.hid (And.intro S7.out S8.out)
          have NC := Lib.hid (C.out.on hb8)
          have NX := Lib.hid (X.out.on hb8)
          have NY := Lib.hid (Y.out.on hb8)
          have NR := Lib.hid (R.out.on hb8)
          have NQ := Lib.hid (Q.out.on hb8)
          have C := NC; clear NC
          have X := NX; clear NX
          have Y := NY; clear NY
          have R := NR; clear NR
          have Q := NQ; clear NQ
          have Hb8 := Lib.hid (bthen Hb7.out hb8)
          clear hb8
          have qX0 : w8.cell? ⟨w.heap.size + 1, 0, none⟩ = some (.int .i64 x1) := X.out.cell 0
          have qX1 : w8.cell? ⟨w.heap.size + 1, 1, none⟩ = some (.int .i64 x2) := X.out.cell 1
          have qXl := X.out.lt
          go_wp2_with fail
          clear qX0 qX1 qXl
          refine (fr_is Hx.out _).mono ?_; rintro e w9 ⟨rfl, hb9⟩
          have S9 := Lib.hid (show w8.heap.size + 0 ≤ w9.heap.size by have h9 := hb9.size; (try simp only [World.size_alloc, World.size_setCell, World.size_drew] at h9); omega)
          have Z9 := Lib.hid (And.intro Z8.out S9.out)
          have NC := Lib.hid (C.out.on hb9)
          have NX := Lib.hid (X.out.on hb9)
          have NY := Lib.hid (Y.out.on hb9)
          have NR := Lib.hid (R.out.on hb9)
          have NQ := Lib.hid (Q.out.on hb9)
          have C := NC; clear NC
          have X := NX; clear NX
          have Y := NY; clear NY
          have R := NR; clear NR
          have Q := NQ; clear NQ
          have Hb9 := Lib.hid (bthen Hb8.out hb9)
          clear hb9
          have qY0 : w9.cell? ⟨w.heap.size + 1 + 1, 0, none⟩ = some (.int .i64 y1) := Y.out.cell 0
          have qY1 : w9.cell? ⟨w.heap.size + 1 + 1, 1, none⟩ = some (.int .i64 y2) := Y.out.cell 1
          have qYl := Y.out.lt
          go_wp2_with fail
          clear qY0 qY1 qYl
          refine (fr_is Hy.out _).mono ?_; rintro e w10 ⟨rfl, hb10⟩
          have S10 := Lib.hid (show w9.heap.size + 0 ≤ w10.heap.size by have h9 := hb10.size; (try simp only [World.size_alloc, World.size_setCell, World.size_drew] at h9); omega)
          have Z10 := Lib.hid (And.intro Z9.out S10.out)
          have NC := Lib.hid (C.out.on hb10)
          have NX := Lib.hid (X.out.on hb10)
          have NY := Lib.hid (Y.out.on hb10)
          have NR := Lib.hid (R.out.on hb10)
          have NQ := Lib.hid (Q.out.on hb10)
          have C := NC; clear NC
          have X := NX; clear NX
          have Y := NY; clear NY
          have R := NR; clear NR
          have Q := NQ; clear NQ
          have Hb10 := Lib.hid (bthen Hb9.out hb10)
          clear hb10
          have qR0 : w10.cell? ⟨w.heap.size + 1 + 1 + 1, 0, none⟩ = some (.int .i64 0) := R.out.cell 0
          have qR1 : w10.cell? ⟨w.heap.size + 1 + 1 + 1, 1, none⟩ = some (.int .i64 0) := R.out.cell 1
          have qRl := R.out.lt
          have qRf0 := R.out.frozen 0
          have qRf1 := R.out.frozen 1
          have qQ0 : w10.cell? ⟨w.heap.size + 1 + 1 + 1 + 1, 0, none⟩ = some (.int .i64 0) := Q.out.cell 0
          have qQ1 : w10.cell? ⟨w.heap.size + 1 + 1 + 1 + 1, 1, none⟩ = some (.int .i64 0) := Q.out.cell 1
          have qQl := Q.out.lt
          have qQf0 := Q.out.frozen 0
          have qQf1 := Q.out.frozen 1
          have nQR : w.heap.size + 1 + 1 + 1 + 1 ≠ w.heap.size + 1 + 1 + 1 := by have := Z10.out; (try simp only [World.size_alloc, World.size_setCell, World.size_drew]); omega
          have nRQ : w.heap.size + 1 + 1 + 1 ≠ w.heap.size + 1 + 1 + 1 + 1 := fun e => nQR e.symm
          go_wp2
          clear qR0 qR1 qRl qRf0 qRf1 qQ0 qQ1 qQl qQf0 qQf1 nQR nRQ
          have R9R := (show Blk (World.setCell (World.setCell (World.setCell (World.setCell w10 ⟨w.heap.size + 1 + 1 + 1, 0, none⟩ (.int .i64 0)) ⟨w.heap.size + 1 + 1 + 1, 1, none⟩ (.int .i64 0)) ⟨w.heap.size + 1 + 1 + 1 + 1, 0, none⟩ (.int .i64 0)) ⟨w.heap.size + 1 + 1 + 1 + 1, 1, none⟩ (.int .i64 0)) (w.heap.size + 1 + 1 + 1) 42 #[.int .i64 0, .int .i64 0] by have h9 := ((((R.out.set 0 (.int .i64 0)).set 1 (.int .i64 0)).far (p := ⟨w.heap.size + 1 + 1 + 1 + 1, 0, none⟩) (show w.heap.size + 1 + 1 + 1 ≠ w.heap.size + 1 + 1 + 1 + 1 by have := Z10.out; (try simp only [World.size_alloc, World.size_setCell, World.size_drew]); omega) (.int .i64 0)).far (p := ⟨w.heap.size + 1 + 1 + 1 + 1, 1, none⟩) (show w.heap.size + 1 + 1 + 1 ≠ w.heap.size + 1 + 1 + 1 + 1 by have := Z10.out; (try simp only [World.size_alloc, World.size_setCell, World.size_drew]); omega) (.int .i64 0)); simpa using h9)
          have kR0 := R9R.cell 0
          have kR1 := R9R.cell 1
          have R9Q := (show Blk (World.setCell (World.setCell (World.setCell (World.setCell w10 ⟨w.heap.size + 1 + 1 + 1, 0, none⟩ (.int .i64 0)) ⟨w.heap.size + 1 + 1 + 1, 1, none⟩ (.int .i64 0)) ⟨w.heap.size + 1 + 1 + 1 + 1, 0, none⟩ (.int .i64 0)) ⟨w.heap.size + 1 + 1 + 1 + 1, 1, none⟩ (.int .i64 0)) (w.heap.size + 1 + 1 + 1 + 1) 42 #[.int .i64 0, .int .i64 0] by have h9 := ((((Q.out.far (p := ⟨w.heap.size + 1 + 1 + 1, 0, none⟩) (show w.heap.size + 1 + 1 + 1 + 1 ≠ w.heap.size + 1 + 1 + 1 by have := Z10.out; (try simp only [World.size_alloc, World.size_setCell, World.size_drew]); omega) (.int .i64 0)).far (p := ⟨w.heap.size + 1 + 1 + 1, 1, none⟩) (show w.heap.size + 1 + 1 + 1 + 1 ≠ w.heap.size + 1 + 1 + 1 by have := Z10.out; (try simp only [World.size_alloc, World.size_setCell, World.size_drew]); omega) (.int .i64 0)).set 0 (.int .i64 0)).set 1 (.int .i64 0)); simpa using h9)
          have kQ0 := R9Q.cell 0
          have kQ1 := R9Q.cell 1
          simp at kR0 kR1 kQ0 kQ1
          exact bodyPost_ret (v := .tuple #[.agg #[.int .i64 0, .int .i64 0], .agg #[.int .i64 0, .int .i64 0], .bool false]) (by simp [results, Tryz.results19, go_sem, kR0, kR1, kQ0, kQ1]) rfl ⟨by rw [show carV a b e (x1, x2) (y1, y2) = none from car_out (.inr (.inl (by show (frB 1000000000 x1 x2 && frB 1000000000 y1 y2) = false; rw [Hx.out, Hy.out]; rfl)))]; rfl, (bst (bst (bst (bst Hb10.out (p := ⟨w.heap.size + 1 + 1 + 1, 0, none⟩) (show w.heap.size ≤ w.heap.size + 1 + 1 + 1 by have := Z10.out; (try simp only [World.size_alloc, World.size_setCell, World.size_drew]); omega) (.int .i64 0)) (p := ⟨w.heap.size + 1 + 1 + 1, 1, none⟩) (show w.heap.size ≤ w.heap.size + 1 + 1 + 1 by have := Z10.out; (try simp only [World.size_alloc, World.size_setCell, World.size_drew]); omega) (.int .i64 0)) (p := ⟨w.heap.size + 1 + 1 + 1 + 1, 0, none⟩) (show w.heap.size ≤ w.heap.size + 1 + 1 + 1 + 1 by have := Z10.out; (try simp only [World.size_alloc, World.size_setCell, World.size_drew]); omega) (.int .i64 0)) (p := ⟨w.heap.size + 1 + 1 + 1 + 1, 1, none⟩) (show w.heap.size ≤ w.heap.size + 1 + 1 + 1 + 1 by have := Z10.out; (try simp only [World.size_alloc, World.size_setCell, World.size_drew]); omega) (.int .i64 0))⟩
        · have Hx := Lib.hid hx; have Hy := Lib.hid hy; clear hx hy
          go_enter Tryz.func19, Tryz.ntmps19
          go_wp2_with fail
          refine (cvI_lit Hcv.out _).mono ?_; rintro e w11 ⟨rfl, hb11⟩
          have S11 := Lib.hid (show w.heap.size + 5 ≤ w11.heap.size by have h9 := hb11.size; (try simp only [World.size_alloc, World.size_setCell, World.size_drew] at h9); omega)
          have NC := Lib.hid ((((((Blk.new w 25 #[.int .i64 a, .int .i64 b]).alloc (Obj.cells #[.int .i64 x1, .int .i64 x2] 42)).alloc (Obj.cells #[.int .i64 y1, .int .i64 y2] 42)).alloc (Obj.cells #[.int .i64 0, .int .i64 0] 42)).alloc (Obj.cells #[.int .i64 0, .int .i64 0] 42)).on hb11)
          have NX := Lib.hid (((((show Blk (World.alloc (World.alloc w (Obj.cells #[.int .i64 a, .int .i64 b] 25)) (Obj.cells #[.int .i64 x1, .int .i64 x2] 42)) (w.heap.size + 1) 42 #[.int .i64 x1, .int .i64 x2] by have h9 := (Blk.new (World.alloc w (Obj.cells #[.int .i64 a, .int .i64 b] 25)) 42 #[.int .i64 x1, .int .i64 x2]); (try simp only [World.size_alloc, World.size_setCell] at h9); exact h9).alloc (Obj.cells #[.int .i64 y1, .int .i64 y2] 42)).alloc (Obj.cells #[.int .i64 0, .int .i64 0] 42)).alloc (Obj.cells #[.int .i64 0, .int .i64 0] 42)).on hb11)
          have NY := Lib.hid ((((show Blk (World.alloc (World.alloc (World.alloc w (Obj.cells #[.int .i64 a, .int .i64 b] 25)) (Obj.cells #[.int .i64 x1, .int .i64 x2] 42)) (Obj.cells #[.int .i64 y1, .int .i64 y2] 42)) (w.heap.size + 1 + 1) 42 #[.int .i64 y1, .int .i64 y2] by have h9 := (Blk.new (World.alloc (World.alloc w (Obj.cells #[.int .i64 a, .int .i64 b] 25)) (Obj.cells #[.int .i64 x1, .int .i64 x2] 42)) 42 #[.int .i64 y1, .int .i64 y2]); (try simp only [World.size_alloc, World.size_setCell] at h9); exact h9).alloc (Obj.cells #[.int .i64 0, .int .i64 0] 42)).alloc (Obj.cells #[.int .i64 0, .int .i64 0] 42)).on hb11)
          have NR := Lib.hid (((show Blk (World.alloc (World.alloc (World.alloc (World.alloc w (Obj.cells #[.int .i64 a, .int .i64 b] 25)) (Obj.cells #[.int .i64 x1, .int .i64 x2] 42)) (Obj.cells #[.int .i64 y1, .int .i64 y2] 42)) (Obj.cells #[.int .i64 0, .int .i64 0] 42)) (w.heap.size + 1 + 1 + 1) 42 #[.int .i64 0, .int .i64 0] by have h9 := (Blk.new (World.alloc (World.alloc (World.alloc w (Obj.cells #[.int .i64 a, .int .i64 b] 25)) (Obj.cells #[.int .i64 x1, .int .i64 x2] 42)) (Obj.cells #[.int .i64 y1, .int .i64 y2] 42)) 42 #[.int .i64 0, .int .i64 0]); (try simp only [World.size_alloc, World.size_setCell] at h9); exact h9).alloc (Obj.cells #[.int .i64 0, .int .i64 0] 42)).on hb11)
          have NQ := Lib.hid ((show Blk (World.alloc (World.alloc (World.alloc (World.alloc (World.alloc w (Obj.cells #[.int .i64 a, .int .i64 b] 25)) (Obj.cells #[.int .i64 x1, .int .i64 x2] 42)) (Obj.cells #[.int .i64 y1, .int .i64 y2] 42)) (Obj.cells #[.int .i64 0, .int .i64 0] 42)) (Obj.cells #[.int .i64 0, .int .i64 0] 42)) (w.heap.size + 1 + 1 + 1 + 1) 42 #[.int .i64 0, .int .i64 0] by have h9 := (Blk.new (World.alloc (World.alloc (World.alloc (World.alloc w (Obj.cells #[.int .i64 a, .int .i64 b] 25)) (Obj.cells #[.int .i64 x1, .int .i64 x2] 42)) (Obj.cells #[.int .i64 y1, .int .i64 y2] 42)) (Obj.cells #[.int .i64 0, .int .i64 0] 42)) 42 #[.int .i64 0, .int .i64 0]); (try simp only [World.size_alloc, World.size_setCell] at h9); exact h9).on hb11)
          have C := NC; clear NC
          have X := NX; clear NX
          have Y := NY; clear NY
          have R := NR; clear NR
          have Q := NQ; clear NQ
          have Hb11 := Lib.hid (bthen (bal (bal (bal (bal (bal (Below.refl w.heap.size w) (Obj.cells #[.int .i64 a, .int .i64 b] 25)) (Obj.cells #[.int .i64 x1, .int .i64 x2] 42)) (Obj.cells #[.int .i64 y1, .int .i64 y2] 42)) (Obj.cells #[.int .i64 0, .int .i64 0] 42)) (Obj.cells #[.int .i64 0, .int .i64 0] 42)) hb11)
          clear hb11
          have qC0 : w11.cell? ⟨w.heap.size, 0, none⟩ = some (.int .i64 a) := C.out.cell 0
          have qC1 : w11.cell? ⟨w.heap.size, 1, none⟩ = some (.int .i64 b) := C.out.cell 1
          have qCl := C.out.lt
          go_wp2_with fail
          clear qC0 qC1 qCl
          refine (isTwo_lit Hk.out Hcv.out _).mono ?_; rintro e w12 ⟨rfl, hb12⟩
          have S12 := Lib.hid (show w11.heap.size + 0 ≤ w12.heap.size by have h9 := hb12.size; (try simp only [World.size_alloc, World.size_setCell, World.size_drew] at h9); omega)
          have Z12 := Lib.hid (And.intro S11.out S12.out)
          have NC := Lib.hid (C.out.on hb12)
          have NX := Lib.hid (X.out.on hb12)
          have NY := Lib.hid (Y.out.on hb12)
          have NR := Lib.hid (R.out.on hb12)
          have NQ := Lib.hid (Q.out.on hb12)
          have C := NC; clear NC
          have X := NX; clear NX
          have Y := NY; clear NY
          have R := NR; clear NR
          have Q := NQ; clear NQ
          have Hb12 := Lib.hid (bthen Hb11.out hb12)
          clear hb12
          have qX0 : w12.cell? ⟨w.heap.size + 1, 0, none⟩ = some (.int .i64 x1) := X.out.cell 0
          have qX1 : w12.cell? ⟨w.heap.size + 1, 1, none⟩ = some (.int .i64 x2) := X.out.cell 1
          have qXl := X.out.lt
          go_wp2_with fail
          clear qX0 qX1 qXl
          refine (fr_is Hx.out _).mono ?_; rintro e w13 ⟨rfl, hb13⟩
          have S13 := Lib.hid (show w12.heap.size + 0 ≤ w13.heap.size by have h9 := hb13.size; (try simp only [World.size_alloc, World.size_setCell, World.size_drew] at h9); omega)
          have Z13 := Lib.hid (And.intro Z12.out S13.out)
          have NC := Lib.hid (C.out.on hb13)
          have NX := Lib.hid (X.out.on hb13)
          have NY := Lib.hid (Y.out.on hb13)
          have NR := Lib.hid (R.out.on hb13)
          have NQ := Lib.hid (Q.out.on hb13)
          have C := NC; clear NC
          have X := NX; clear NX
          have Y := NY; clear NY
          have R := NR; clear NR
          have Q := NQ; clear NQ
          have Hb13 := Lib.hid (bthen Hb12.out hb13)
          clear hb13
          have qY0 : w13.cell? ⟨w.heap.size + 1 + 1, 0, none⟩ = some (.int .i64 y1) := Y.out.cell 0
          have qY1 : w13.cell? ⟨w.heap.size + 1 + 1, 1, none⟩ = some (.int .i64 y2) := Y.out.cell 1
          have qYl := Y.out.lt
          go_wp2_with fail
          clear qY0 qY1 qYl
          refine (fr_is Hy.out _).mono ?_; rintro e w14 ⟨rfl, hb14⟩
          have S14 := Lib.hid (show w13.heap.size + 0 ≤ w14.heap.size by have h9 := hb14.size; (try simp only [World.size_alloc, World.size_setCell, World.size_drew] at h9); omega)
          have Z14 := Lib.hid (And.intro Z13.out S14.out)
          have NC := Lib.hid (C.out.on hb14)
          have NX := Lib.hid (X.out.on hb14)
          have NY := Lib.hid (Y.out.on hb14)
          have NR := Lib.hid (R.out.on hb14)
          have NQ := Lib.hid (Q.out.on hb14)
          have C := NC; clear NC
          have X := NX; clear NX
          have Y := NY; clear NY
          have R := NR; clear NR
          have Q := NQ; clear NQ
          have Hb14 := Lib.hid (bthen Hb13.out hb14)
          clear hb14
          obtain ⟨l1, l2, k1, h1⟩ := KpQ.ex true (mulG (y1, y2) (y1, y2))
          have K1 := Lib.hid h1; clear h1
          obtain ⟨p1, p2, k2, h2⟩ := KpQ.ex k1 (mulG (x1, x2) (x1, x2))
          have K2 := Lib.hid h2; clear h2
          obtain ⟨q1, q2, k3, h3⟩ := KpQ.ex k2 (whoG a)
          have K3 := Lib.hid h3; clear h3
          obtain ⟨r1, r2, k4, h4⟩ := KpQ.ex k3 (sumG (p1, p2) (q1, q2))
          have K4 := Lib.hid h4; clear h4
          obtain ⟨s1, s2, k5, h5⟩ := KpQ.ex k4 (mulG (r1, r2) (x1, x2))
          have K5 := Lib.hid h5; clear h5
          obtain ⟨t1, t2, k6, h6⟩ := KpQ.ex k5 (whoG b)
          have K6 := Lib.hid h6; clear h6
          obtain ⟨u1, u2, k7, h7⟩ := KpQ.ex k6 (sumG (s1, s2) (t1, t2))
          have K7 := Lib.hid h7; clear h7
          have Hon := Lib.hid (impl_on ha hb Hx.out Hy.out K1.out K2.out K3.out K4.out K5.out K6.out K7.out)
          have qY0 : w14.cell? ⟨w.heap.size + 1 + 1, 0, none⟩ = some (.int .i64 y1) := Y.out.cell 0
          have qY1 : w14.cell? ⟨w.heap.size + 1 + 1, 1, none⟩ = some (.int .i64 y2) := Y.out.cell 1
          have qYl := Y.out.lt
          go_wp2_with fail
          clear qY0 qY1 qYl
          refine (times_lit K1.out _ ((Blk.new w14 90 #[.bool true]))).mono ?_; rintro e9 w15 ⟨rfl, hk15, hb15⟩
          have S15 := Lib.hid (show w14.heap.size + 1 ≤ w15.heap.size by have h9 := hb15.size; (try simp only [World.size_alloc, World.size_setCell, World.size_drew] at h9); omega)
          have Z15 := Lib.hid (And.intro Z14.out S15.out)
          have NC := Lib.hid ((C.out.alloc (Obj.cells #[.bool true] 90)).dg hb15 (show w.heap.size ≠ w14.heap.size by have := Z15.out; (try simp only [World.size_alloc, World.size_setCell, World.size_drew]); omega))
          have NX := Lib.hid ((X.out.alloc (Obj.cells #[.bool true] 90)).dg hb15 (show w.heap.size + 1 ≠ w14.heap.size by have := Z15.out; (try simp only [World.size_alloc, World.size_setCell, World.size_drew]); omega))
          have NY := Lib.hid ((Y.out.alloc (Obj.cells #[.bool true] 90)).dg hb15 (show w.heap.size + 1 + 1 ≠ w14.heap.size by have := Z15.out; (try simp only [World.size_alloc, World.size_setCell, World.size_drew]); omega))
          have NR := Lib.hid ((R.out.alloc (Obj.cells #[.bool true] 90)).dg hb15 (show w.heap.size + 1 + 1 + 1 ≠ w14.heap.size by have := Z15.out; (try simp only [World.size_alloc, World.size_setCell, World.size_drew]); omega))
          have NQ := Lib.hid ((Q.out.alloc (Obj.cells #[.bool true] 90)).dg hb15 (show w.heap.size + 1 + 1 + 1 + 1 ≠ w14.heap.size by have := Z15.out; (try simp only [World.size_alloc, World.size_setCell, World.size_drew]); omega))
          have NK := Lib.hid (show Blk w15 (w14.heap.size) 90 #[.bool k1] from hk15)
          clear hk15
          have C := NC; clear NC
          have X := NX; clear NX
          have Y := NY; clear NY
          have R := NR; clear NR
          have Q := NQ; clear NQ
          have K := NK; clear NK
          have Hb15 := Lib.hid (show Below w.heap.size w w15 from Below.trans (bal Hb14.out (Obj.cells #[.bool true] 90)) (Dg.below hb15 (show w.heap.size ≤ w14.heap.size by have := Z15.out; (try simp only [World.size_alloc, World.size_setCell, World.size_drew]); omega) (Below.size (bal Hb14.out (Obj.cells #[.bool true] 90)))))
          clear hb15
          go_wp2_with fail
          obtain ⟨w16, hw9⟩ : ∃ x, x = (World.alloc w15 (Obj.cells #[.int .i64 l1, .int .i64 l2] 42)) := ⟨_, rfl⟩
          rw [← hw9]
          have hb16 : Below ((World.alloc w15 (Obj.cells #[.int .i64 l1, .int .i64 l2] 42))).heap.size (World.alloc w15 (Obj.cells #[.int .i64 l1, .int .i64 l2] 42)) w16 := by rw [hw9]; exact Below.refl _ _
          have S16 := Lib.hid (show w15.heap.size + 1 ≤ w16.heap.size by have h9 := hb16.size; (try simp only [World.size_alloc, World.size_setCell, World.size_drew] at h9); omega)
          have Z16 := Lib.hid (And.intro Z15.out S16.out)
          have NC := Lib.hid ((C.out.alloc (Obj.cells #[.int .i64 l1, .int .i64 l2] 42)).on hb16)
          have NX := Lib.hid ((X.out.alloc (Obj.cells #[.int .i64 l1, .int .i64 l2] 42)).on hb16)
          have NY := Lib.hid ((Y.out.alloc (Obj.cells #[.int .i64 l1, .int .i64 l2] 42)).on hb16)
          have NR := Lib.hid ((R.out.alloc (Obj.cells #[.int .i64 l1, .int .i64 l2] 42)).on hb16)
          have NQ := Lib.hid ((Q.out.alloc (Obj.cells #[.int .i64 l1, .int .i64 l2] 42)).on hb16)
          have NK := Lib.hid ((K.out.alloc (Obj.cells #[.int .i64 l1, .int .i64 l2] 42)).on hb16)
          have NL := Lib.hid ((Blk.new w15 42 #[.int .i64 l1, .int .i64 l2]).on hb16)
          have C := NC; clear NC
          have X := NX; clear NX
          have Y := NY; clear NY
          have R := NR; clear NR
          have Q := NQ; clear NQ
          have K := NK; clear NK
          have L := NL; clear NL
          have Hb16 := Lib.hid (bthen (bal Hb15.out (Obj.cells #[.int .i64 l1, .int .i64 l2] 42)) hb16)
          clear hb16
          clear hw9
          have qX0 : w16.cell? ⟨w.heap.size + 1, 0, none⟩ = some (.int .i64 x1) := X.out.cell 0
          have qX1 : w16.cell? ⟨w.heap.size + 1, 1, none⟩ = some (.int .i64 x2) := X.out.cell 1
          have qXl := X.out.lt
          have qC0 : w16.cell? ⟨w.heap.size, 0, none⟩ = some (.int .i64 a) := C.out.cell 0
          have qC1 : w16.cell? ⟨w.heap.size, 1, none⟩ = some (.int .i64 b) := C.out.cell 1
          have qCl := C.out.lt
          have gX : w.heap.size + 1 ≠ w14.heap.size := by have := Z16.out; (try simp only [World.size_alloc, World.size_setCell, World.size_drew]); omega
          have gC : w.heap.size ≠ w14.heap.size := by have := Z16.out; (try simp only [World.size_alloc, World.size_setCell, World.size_drew]); omega
          have HS : Hid (∀ w', Dg (w14.heap.size) w16 w' → (w'.cell? ⟨w.heap.size + 1, 0, none⟩ = some (.int .i64 x1) ∧ w'.cell? ⟨w.heap.size + 1, 1, none⟩ = some (.int .i64 x2) ∧ w'.cell? ⟨w.heap.size, 0, none⟩ = some (.int .i64 a) ∧ w'.cell? ⟨w.heap.size, 1, none⟩ = some (.int .i64 b) ∧ Dg (w14.heap.size) w16 w')) := Lib.hid (fun w' hw => ⟨(dcell (p := ⟨w.heap.size + 1, 0, none⟩) hw qXl gX).trans qX0, (dcell (p := ⟨w.heap.size + 1, 1, none⟩) hw qXl gX).trans qX1, (dcell (p := ⟨w.heap.size, 0, none⟩) hw qCl gC).trans qC0, (dcell (p := ⟨w.heap.size, 1, none⟩) hw qCl gC).trans qC1, hw⟩)
          have hdt : Dg (w14.heap.size) w16 w16 := Dg.refl _ _
          go_cut [13] (fun p0 wx => ∃ q : Nat, p0 = .pointer (some ⟨q, 0, none⟩) ∧ Blk wx q 42 #[.int .i64 u1, .int .i64 u2] ∧ w16.heap.size ≤ q ∧ Blk wx (w14.heap.size) 90 #[.bool k7] ∧ Dg (w14.heap.size) w16 wx)
          case first =>
            have hKt := K.out
            have gK := K.out.lt
            go_region_held3 (fun w' => w'.cell? ⟨w.heap.size + 1, 0, none⟩ = some (.int .i64 x1) ∧ w'.cell? ⟨w.heap.size + 1, 1, none⟩ = some (.int .i64 x2) ∧ w'.cell? ⟨w.heap.size, 0, none⟩ = some (.int .i64 a) ∧ w'.cell? ⟨w.heap.size, 1, none⟩ = some (.int .i64 b) ∧ Dg (w14.heap.size) w16 w') ((go_split_ands; refine HS.out _ ?_; repeat (first | (with_reducible assumption) | (with_reducible refine Dg.drew ?_) | (with_reducible refine Dg.alloc ?_ _) | (with_reducible refine Dg.st ?_ (by dsimp only; omega) _) | (with_reducible refine Dg.trans ?_ (by with_reducible assumption))))) ((first | (go_at_call 64; with_reducible refine Calls.mono (times_lit K2.out _ (by repeat (first | with_reducible exact hKt | (with_reducible refine Blk.drew ?_) | (with_reducible refine Blk.alloc ?_ _)))) ?_; rintro e fw1 ⟨rfl, hKfw1, hfw1⟩; clear K2; have sfw1 : w16.heap.size ≤ fw1.heap.size := (by have h9 := hfw1.size; (try simp only [World.size_alloc, World.size_drew] at h9); omega); first | (have hz := Blk.dg Hz.out hfw1 (by (try simp only [World.size_alloc, World.size_drew]); omega); clear Hz; have Hz := Lib.hid hz; clear hz) | (have hne : w16.heap.size ≠ w14.heap.size := (by (try simp only [World.size_alloc, World.size_drew]); omega); have hz : Blk fw1 w16.heap.size 42 #[.int .i64 0, .int .i64 0] := (by with_reducible exact Blk.dg (Blk.new w16 42 #[.int .i64 0, .int .i64 0]) hfw1 hne); have hz : Blk fw1 w16.heap.size 42 #[.int .i64 0, .int .i64 0] := hz; clear hne; have Hz := Lib.hid hz; clear hz) | (have hne : w16.heap.size ≠ w14.heap.size := (by (try simp only [World.size_alloc, World.size_drew]); omega); have hz : Blk fw1 w16.heap.size 42 #[.int .i64 0, .int .i64 0] := (by with_reducible exact Blk.dg (Blk.drew (Blk.new w16 42 #[.int .i64 0, .int .i64 0])) hfw1 hne); have hz : Blk fw1 w16.heap.size 42 #[.int .i64 0, .int .i64 0] := hz; clear hne; have Hz := Lib.hid hz; clear hz) | (have hne : (World.drew w16).heap.size ≠ w14.heap.size := (by (try simp only [World.size_alloc, World.size_drew]); omega); have hz : Blk fw1 (World.drew w16).heap.size 42 #[.int .i64 0, .int .i64 0] := (by with_reducible exact Blk.dg (Blk.new (World.drew w16) 42 #[.int .i64 0, .int .i64 0]) hfw1 hne); have hz : Blk fw1 w16.heap.size 42 #[.int .i64 0, .int .i64 0] := hz; clear hne; have Hz := Lib.hid hz; clear hz) | skip) | (go_at_call 66; with_reducible refine Calls.mono (whole_lit K3.out (by omega) _ (by repeat (first | with_reducible exact hKfw1 | (with_reducible refine Blk.drew ?_) | (with_reducible refine Blk.alloc ?_ _)))) ?_; rintro e fw2 ⟨rfl, hKfw2, hfw2⟩; clear K3; have sfw2 : w16.heap.size ≤ fw2.heap.size := (by have h9 := hfw2.size; (try simp only [World.size_alloc, World.size_drew] at h9); omega); first | (have hz := Blk.dg Hz.out hfw2 (by (try simp only [World.size_alloc, World.size_drew]); omega); clear Hz; have Hz := Lib.hid hz; clear hz) | (have hne : fw1.heap.size ≠ w14.heap.size := (by (try simp only [World.size_alloc, World.size_drew]); omega); have hz : Blk fw2 fw1.heap.size 42 #[.int .i64 0, .int .i64 0] := (by with_reducible exact Blk.dg (Blk.new fw1 42 #[.int .i64 0, .int .i64 0]) hfw2 hne); have hz : Blk fw2 fw1.heap.size 42 #[.int .i64 0, .int .i64 0] := hz; clear hne; have Hz := Lib.hid hz; clear hz) | skip) | (go_at_call 65; with_reducible refine Calls.mono (plus_lit K4.out _ (by repeat (first | with_reducible exact hKfw2 | (with_reducible refine Blk.drew ?_) | (with_reducible refine Blk.alloc ?_ _)))) ?_; rintro e fw3 ⟨rfl, hKfw3, hfw3⟩; clear K4; have sfw3 : w16.heap.size ≤ fw3.heap.size := (by have h9 := hfw3.size; (try simp only [World.size_alloc, World.size_drew] at h9); omega); first | (have hz := Blk.dg Hz.out hfw3 (by (try simp only [World.size_alloc, World.size_drew]); omega); clear Hz; have Hz := Lib.hid hz; clear hz) | (have hne : fw2.heap.size ≠ w14.heap.size := (by (try simp only [World.size_alloc, World.size_drew]); omega); have hz : Blk fw3 fw2.heap.size 42 #[.int .i64 0, .int .i64 0] := (by with_reducible exact Blk.dg (Blk.new fw2 42 #[.int .i64 0, .int .i64 0]) hfw3 hne); have hz : Blk fw3 fw2.heap.size 42 #[.int .i64 0, .int .i64 0] := hz; clear hne; have Hz := Lib.hid hz; clear hz) | skip) | (go_at_call 64; with_reducible refine Calls.mono (times_lit K5.out _ (by repeat (first | with_reducible exact hKfw3 | (with_reducible refine Blk.drew ?_) | (with_reducible refine Blk.alloc ?_ _)))) ?_; rintro e fw4 ⟨rfl, hKfw4, hfw4⟩; clear K5; have sfw4 : w16.heap.size ≤ fw4.heap.size := (by have h9 := hfw4.size; (try simp only [World.size_alloc, World.size_drew] at h9); omega); first | (have hz := Blk.dg Hz.out hfw4 (by (try simp only [World.size_alloc, World.size_drew]); omega); clear Hz; have Hz := Lib.hid hz; clear hz) | (have hne : fw3.heap.size ≠ w14.heap.size := (by (try simp only [World.size_alloc, World.size_drew]); omega); have hz : Blk fw4 fw3.heap.size 42 #[.int .i64 0, .int .i64 0] := (by with_reducible exact Blk.dg (Blk.new fw3 42 #[.int .i64 0, .int .i64 0]) hfw4 hne); have hz : Blk fw4 fw3.heap.size 42 #[.int .i64 0, .int .i64 0] := hz; clear hne; have Hz := Lib.hid hz; clear hz) | skip) | (go_at_call 66; with_reducible refine Calls.mono (whole_lit K6.out (by omega) _ (by repeat (first | with_reducible exact hKfw4 | (with_reducible refine Blk.drew ?_) | (with_reducible refine Blk.alloc ?_ _)))) ?_; rintro e fw5 ⟨rfl, hKfw5, hfw5⟩; clear K6; have sfw5 : w16.heap.size ≤ fw5.heap.size := (by have h9 := hfw5.size; (try simp only [World.size_alloc, World.size_drew] at h9); omega); first | (have hz := Blk.dg Hz.out hfw5 (by (try simp only [World.size_alloc, World.size_drew]); omega); clear Hz; have Hz := Lib.hid hz; clear hz) | (have hne : fw4.heap.size ≠ w14.heap.size := (by (try simp only [World.size_alloc, World.size_drew]); omega); have hz : Blk fw5 fw4.heap.size 42 #[.int .i64 0, .int .i64 0] := (by with_reducible exact Blk.dg (Blk.new fw4 42 #[.int .i64 0, .int .i64 0]) hfw5 hne); have hz : Blk fw5 fw4.heap.size 42 #[.int .i64 0, .int .i64 0] := hz; clear hne; have Hz := Lib.hid hz; clear hz) | skip) | (go_at_call 65; with_reducible refine Calls.mono (plus_lit K7.out _ (by repeat (first | with_reducible exact hKfw5 | (with_reducible refine Blk.drew ?_) | (with_reducible refine Blk.alloc ?_ _)))) ?_; rintro e fw6 ⟨rfl, hKfw6, hfw6⟩; clear K7; have sfw6 : w16.heap.size ≤ fw6.heap.size := (by have h9 := hfw6.size; (try simp only [World.size_alloc, World.size_drew] at h9); omega); first | (have hz := Blk.dg Hz.out hfw6 (by (try simp only [World.size_alloc, World.size_drew]); omega); clear Hz; have zc0 := hz.cell 0; have zf0 := hz.frozen 0; have zc1 := hz.cell 1; have zf1 := hz.frozen 1; have zl := hz.lt; simp at zc0 zc1; have Hz := Lib.hid hz; clear hz) | (have hne : fw5.heap.size ≠ w14.heap.size := (by (try simp only [World.size_alloc, World.size_drew]); omega); have hz : Blk fw6 fw5.heap.size 42 #[.int .i64 0, .int .i64 0] := (by with_reducible exact Blk.dg (Blk.new fw5 42 #[.int .i64 0, .int .i64 0]) hfw6 hne); have hz : Blk fw6 fw5.heap.size 42 #[.int .i64 0, .int .i64 0] := hz; clear hne; have zc0 := hz.cell 0; have zf0 := hz.frozen 0; have zc1 := hz.cell 1; have zf1 := hz.frozen 1; have zl := hz.lt; simp at zc0 zc1; have Hz := Lib.hid hz; clear hz) | skip)))
            all_goals go_wp2_with fail
            all_goals go_meet
            all_goals first
              | with_reducible exact ⟨_, rfl, Blk.new _ _ _, (by (try simp only [World.size_alloc, World.size_drew, World.size_setCell]); omega), (by repeat (first | with_reducible exact hKfw6 | (with_reducible refine Blk.drew ?_) | (with_reducible refine Blk.alloc ?_ _) | (with_reducible refine Blk.far ?_ (by dsimp only; (try simp only [World.size_alloc, World.size_drew, World.size_setCell]); omega) _))), (by repeat (first | (with_reducible assumption) | (with_reducible refine Dg.drew ?_) | (with_reducible refine Dg.alloc ?_ _) | (with_reducible refine Dg.st ?_ (by dsimp only; (try simp only [World.size_alloc, World.size_drew, World.size_setCell]); omega) _) | (with_reducible refine Dg.trans ?_ (by with_reducible assumption))))⟩
              | exact ⟨_, rfl, Blk.set2 Hz.out, (by (try simp only [World.size_alloc, World.size_drew, World.size_setCell]); omega), (by repeat (first | with_reducible exact hKfw6 | (with_reducible refine Blk.drew ?_) | (with_reducible refine Blk.alloc ?_ _) | (with_reducible refine Blk.far ?_ (by dsimp only; (try simp only [World.size_alloc, World.size_drew, World.size_setCell]); omega) _))), (by repeat (first | (with_reducible assumption) | (with_reducible refine Dg.drew ?_) | (with_reducible refine Dg.alloc ?_ _) | (with_reducible refine Dg.st ?_ (by dsimp only; (try simp only [World.size_alloc, World.size_drew, World.size_setCell]); omega) _) | (with_reducible refine Dg.trans ?_ (by with_reducible assumption))))⟩
          obtain ⟨q17, rfl, hB17, hq17, hk17, hb17⟩ := hcut
          clear HS hdt qX0 qX1 qXl qC0 qC1 qCl gX gC
          obtain ⟨w17, hw9⟩ : ∃ x, x = wc := ⟨_, rfl⟩; subst hw9
          have S17 := Lib.hid (show w16.heap.size + 0 ≤ w17.heap.size by have h9 := hb17.size; (try simp only [World.size_alloc, World.size_setCell, World.size_drew] at h9); omega)
          have Z17 := Lib.hid (And.intro Z16.out S17.out)
          have NC := Lib.hid (C.out.dg hb17 (show w.heap.size ≠ w14.heap.size by have := Z17.out; (try simp only [World.size_alloc, World.size_setCell, World.size_drew]); omega))
          have NX := Lib.hid (X.out.dg hb17 (show w.heap.size + 1 ≠ w14.heap.size by have := Z17.out; (try simp only [World.size_alloc, World.size_setCell, World.size_drew]); omega))
          have NY := Lib.hid (Y.out.dg hb17 (show w.heap.size + 1 + 1 ≠ w14.heap.size by have := Z17.out; (try simp only [World.size_alloc, World.size_setCell, World.size_drew]); omega))
          have NR := Lib.hid (R.out.dg hb17 (show w.heap.size + 1 + 1 + 1 ≠ w14.heap.size by have := Z17.out; (try simp only [World.size_alloc, World.size_setCell, World.size_drew]); omega))
          have NQ := Lib.hid (Q.out.dg hb17 (show w.heap.size + 1 + 1 + 1 + 1 ≠ w14.heap.size by have := Z17.out; (try simp only [World.size_alloc, World.size_setCell, World.size_drew]); omega))
          have NL := Lib.hid (L.out.dg hb17 (show w15.heap.size ≠ w14.heap.size by have := Z17.out; (try simp only [World.size_alloc, World.size_setCell, World.size_drew]); omega))
          have NK := Lib.hid (show Blk w17 (w14.heap.size) 90 #[.bool k7] from hk17)
          clear hk17
          have C := NC; clear NC
          have X := NX; clear NX
          have Y := NY; clear NY
          have R := NR; clear NR
          have Q := NQ; clear NQ
          have L := NL; clear NL
          have K := NK; clear NK
          have Hb17 := Lib.hid (show Below w.heap.size w w17 from Below.trans Hb16.out (Dg.below hb17 (show w.heap.size ≤ w14.heap.size by have := Z17.out; (try simp only [World.size_alloc, World.size_setCell, World.size_drew]); omega) (Below.size Hb16.out)))
          clear hb17
          have Qq17 := Lib.hid hq17; have Qw17 := Lib.hid hB17.lt; have T5 := Lib.hid hB17; clear hq17 hB17
          cases k7
          · have Hof := Lib.hid (show onV a b (x1, x2) (y1, y2) = false from Hon.out)
            have qK0 : w17.cell? ⟨w14.heap.size, 0, none⟩ = some (.bool false) := K.out.cell 0
            have qKl := K.out.lt
            have qL0 : w17.cell? ⟨w15.heap.size, 0, none⟩ = some (.int .i64 l1) := L.out.cell 0
            have qL1 : w17.cell? ⟨w15.heap.size, 1, none⟩ = some (.int .i64 l2) := L.out.cell 1
            have qLl := L.out.lt
            have qT50 : w17.cell? ⟨q17, 0, none⟩ = some (.int .i64 u1) := T5.out.cell 0
            have qT51 : w17.cell? ⟨q17, 1, none⟩ = some (.int .i64 u2) := T5.out.cell 1
            have qT5l := T5.out.lt
            have qX0 : w17.cell? ⟨w.heap.size + 1, 0, none⟩ = some (.int .i64 x1) := X.out.cell 0
            have qX1 : w17.cell? ⟨w.heap.size + 1, 1, none⟩ = some (.int .i64 x2) := X.out.cell 1
            have qXl := X.out.lt
            go_wp2_with fail
            refine wp_region_tame (by kernel_rfl) (by kernel_rfl) (fun T _ W hT => ?_)
            have hx := hT.cell
            repeat (go_big_quiet_step ((first | fail)))
            refine wpQuiet_nil ?_
            intro tt
            clear hx
            have hb18 := hT.below tt
            generalize W tt = w18 at hb18 ⊢
            clear hT
            clear qK0 qKl qL0 qL1 qLl qT50 qT51 qT5l qX0 qX1 qXl
            have S18 := Lib.hid (show w17.heap.size + 0 ≤ w18.heap.size by have h9 := hb18.size; (try simp only [World.size_alloc, World.size_setCell, World.size_drew] at h9); omega)
            have Z18 := Lib.hid (And.intro Z17.out <| And.intro Qq17.out <| And.intro Qw17.out S18.out)
            have NC := Lib.hid (C.out.on hb18)
            have NX := Lib.hid (X.out.on hb18)
            have NY := Lib.hid (Y.out.on hb18)
            have NR := Lib.hid (R.out.on hb18)
            have NQ := Lib.hid (Q.out.on hb18)
            have NL := Lib.hid (L.out.on hb18)
            have NK := Lib.hid (K.out.on hb18)
            have NT5 := Lib.hid (T5.out.on hb18)
            have C := NC; clear NC
            have X := NX; clear NX
            have Y := NY; clear NY
            have R := NR; clear NR
            have Q := NQ; clear NQ
            have L := NL; clear NL
            have K := NK; clear NK
            have T5 := NT5; clear NT5
            have Hb18 := Lib.hid (bthen Hb17.out hb18)
            clear hb18
            have qR0 : w18.cell? ⟨w.heap.size + 1 + 1 + 1, 0, none⟩ = some (.int .i64 0) := R.out.cell 0
            have qR1 : w18.cell? ⟨w.heap.size + 1 + 1 + 1, 1, none⟩ = some (.int .i64 0) := R.out.cell 1
            have qRl := R.out.lt
            have qRf0 := R.out.frozen 0
            have qRf1 := R.out.frozen 1
            have qQ0 : w18.cell? ⟨w.heap.size + 1 + 1 + 1 + 1, 0, none⟩ = some (.int .i64 0) := Q.out.cell 0
            have qQ1 : w18.cell? ⟨w.heap.size + 1 + 1 + 1 + 1, 1, none⟩ = some (.int .i64 0) := Q.out.cell 1
            have qQl := Q.out.lt
            have qQf0 := Q.out.frozen 0
            have qQf1 := Q.out.frozen 1
            have nQR : w.heap.size + 1 + 1 + 1 + 1 ≠ w.heap.size + 1 + 1 + 1 := by have := Z18.out; (try simp only [World.size_alloc, World.size_setCell, World.size_drew]); omega
            have nRQ : w.heap.size + 1 + 1 + 1 ≠ w.heap.size + 1 + 1 + 1 + 1 := fun e => nQR e.symm
            go_wp2
            clear qR0 qR1 qRl qRf0 qRf1 qQ0 qQ1 qQl qQf0 qQf1 nQR nRQ
            have R9R := (show Blk (World.setCell (World.setCell (World.setCell (World.setCell w18 ⟨w.heap.size + 1 + 1 + 1, 0, none⟩ (.int .i64 0)) ⟨w.heap.size + 1 + 1 + 1, 1, none⟩ (.int .i64 0)) ⟨w.heap.size + 1 + 1 + 1 + 1, 0, none⟩ (.int .i64 0)) ⟨w.heap.size + 1 + 1 + 1 + 1, 1, none⟩ (.int .i64 0)) (w.heap.size + 1 + 1 + 1) 42 #[.int .i64 0, .int .i64 0] by have h9 := ((((R.out.set 0 (.int .i64 0)).set 1 (.int .i64 0)).far (p := ⟨w.heap.size + 1 + 1 + 1 + 1, 0, none⟩) (show w.heap.size + 1 + 1 + 1 ≠ w.heap.size + 1 + 1 + 1 + 1 by have := Z18.out; (try simp only [World.size_alloc, World.size_setCell, World.size_drew]); omega) (.int .i64 0)).far (p := ⟨w.heap.size + 1 + 1 + 1 + 1, 1, none⟩) (show w.heap.size + 1 + 1 + 1 ≠ w.heap.size + 1 + 1 + 1 + 1 by have := Z18.out; (try simp only [World.size_alloc, World.size_setCell, World.size_drew]); omega) (.int .i64 0)); simpa using h9)
            have kR0 := R9R.cell 0
            have kR1 := R9R.cell 1
            have R9Q := (show Blk (World.setCell (World.setCell (World.setCell (World.setCell w18 ⟨w.heap.size + 1 + 1 + 1, 0, none⟩ (.int .i64 0)) ⟨w.heap.size + 1 + 1 + 1, 1, none⟩ (.int .i64 0)) ⟨w.heap.size + 1 + 1 + 1 + 1, 0, none⟩ (.int .i64 0)) ⟨w.heap.size + 1 + 1 + 1 + 1, 1, none⟩ (.int .i64 0)) (w.heap.size + 1 + 1 + 1 + 1) 42 #[.int .i64 0, .int .i64 0] by have h9 := ((((Q.out.far (p := ⟨w.heap.size + 1 + 1 + 1, 0, none⟩) (show w.heap.size + 1 + 1 + 1 + 1 ≠ w.heap.size + 1 + 1 + 1 by have := Z18.out; (try simp only [World.size_alloc, World.size_setCell, World.size_drew]); omega) (.int .i64 0)).far (p := ⟨w.heap.size + 1 + 1 + 1, 1, none⟩) (show w.heap.size + 1 + 1 + 1 + 1 ≠ w.heap.size + 1 + 1 + 1 by have := Z18.out; (try simp only [World.size_alloc, World.size_setCell, World.size_drew]); omega) (.int .i64 0)).set 0 (.int .i64 0)).set 1 (.int .i64 0)); simpa using h9)
            have kQ0 := R9Q.cell 0
            have kQ1 := R9Q.cell 1
            simp at kR0 kR1 kQ0 kQ1
            exact bodyPost_ret (v := .tuple #[.agg #[.int .i64 0, .int .i64 0], .agg #[.int .i64 0, .int .i64 0], .bool false]) (by simp [results, Tryz.results19, go_sem, kR0, kR1, kQ0, kQ1]) rfl ⟨by rw [show carV a b e (x1, x2) (y1, y2) = none from car_out (.inr (.inr (.inr Hof.out)))]; rfl, (bst (bst (bst (bst Hb18.out (p := ⟨w.heap.size + 1 + 1 + 1, 0, none⟩) (show w.heap.size ≤ w.heap.size + 1 + 1 + 1 by have := Z18.out; (try simp only [World.size_alloc, World.size_setCell, World.size_drew]); omega) (.int .i64 0)) (p := ⟨w.heap.size + 1 + 1 + 1, 1, none⟩) (show w.heap.size ≤ w.heap.size + 1 + 1 + 1 by have := Z18.out; (try simp only [World.size_alloc, World.size_setCell, World.size_drew]); omega) (.int .i64 0)) (p := ⟨w.heap.size + 1 + 1 + 1 + 1, 0, none⟩) (show w.heap.size ≤ w.heap.size + 1 + 1 + 1 + 1 by have := Z18.out; (try simp only [World.size_alloc, World.size_setCell, World.size_drew]); omega) (.int .i64 0)) (p := ⟨w.heap.size + 1 + 1 + 1 + 1, 1, none⟩) (show w.heap.size ≤ w.heap.size + 1 + 1 + 1 + 1 by have := Z18.out; (try simp only [World.size_alloc, World.size_setCell, World.size_drew]); omega) (.int .i64 0))⟩
          · by_cases hlr : ((l1, l2) : Fq) = (u1, u2)
            · by_cases hxe : ((x1, x2) : Fq) = (e, 1)
              · have Hot := Lib.hid (show onV a b (x1, x2) (y1, y2) = true by rw [Hon.out, decide_eq_true hlr]; rfl)
                obtain ⟨hl1, hl4⟩ : l1 = u1 ∧ l2 = u2 := Prod.mk.inj hlr
                have hl11 : (l1 == u1) = true := by rw [hl1]; simp
                have hl12 : decide (l1 = u1) = true := decide_eq_true hl1
                have hl41 : (l2 == u2) = true := by rw [hl4]; simp
                have hl42 : decide (l2 = u2) = true := decide_eq_true hl4
                clear hlr hl1 hl4
                have Hxe := Lib.hid hxe
                obtain ⟨hx1, hx2⟩ : x1 = e ∧ x2 = 1 := Prod.mk.inj hxe
                have hx11 : (x1 == e) = true := by rw [hx1]; simp
                have hx12 : decide (x1 = e) = true := decide_eq_true hx1
                have hx21 : (x2 == 1) = true := by rw [hx2]; simp
                have hx22 : decide (x2 = 1) = true := decide_eq_true hx2
                clear hxe hx1 hx2
                have qK0 : w17.cell? ⟨w14.heap.size, 0, none⟩ = some (.bool true) := K.out.cell 0
                have qKl := K.out.lt
                have qL0 : w17.cell? ⟨w15.heap.size, 0, none⟩ = some (.int .i64 l1) := L.out.cell 0
                have qL1 : w17.cell? ⟨w15.heap.size, 1, none⟩ = some (.int .i64 l2) := L.out.cell 1
                have qLl := L.out.lt
                have qT50 : w17.cell? ⟨q17, 0, none⟩ = some (.int .i64 u1) := T5.out.cell 0
                have qT51 : w17.cell? ⟨q17, 1, none⟩ = some (.int .i64 u2) := T5.out.cell 1
                have qT5l := T5.out.lt
                have qX0 : w17.cell? ⟨w.heap.size + 1, 0, none⟩ = some (.int .i64 x1) := X.out.cell 0
                have qX1 : w17.cell? ⟨w.heap.size + 1, 1, none⟩ = some (.int .i64 x2) := X.out.cell 1
                have qXl := X.out.lt
                go_wp2_with fail
                refine wp_region_tame (by kernel_rfl) (by kernel_rfl) (fun T _ W hT => ?_)
                have hx := hT.cell
                repeat (go_big_quiet_step ((first | (go_at_call 66; with_reducible exact hT.call (wholeE (e := e) (by omega) (by omega) _ (K.out.on (hT.below _)))) | fail)))
                refine wpQuiet_nil ?_
                intro tt
                clear hx
                have hb19 := hT.below tt
                generalize W tt = w19 at hb19 ⊢
                clear hT
                clear qK0 qKl qL0 qL1 qLl qT50 qT51 qT5l qX0 qX1 qXl
                have S19 := Lib.hid (show w17.heap.size + 0 ≤ w19.heap.size by have h9 := hb19.size; (try simp only [World.size_alloc, World.size_setCell, World.size_drew] at h9); omega)
                have Z19 := Lib.hid (And.intro Z17.out <| And.intro Qq17.out <| And.intro Qw17.out S19.out)
                have NC := Lib.hid (C.out.on hb19)
                have NX := Lib.hid (X.out.on hb19)
                have NY := Lib.hid (Y.out.on hb19)
                have NR := Lib.hid (R.out.on hb19)
                have NQ := Lib.hid (Q.out.on hb19)
                have NL := Lib.hid (L.out.on hb19)
                have NK := Lib.hid (K.out.on hb19)
                have NT5 := Lib.hid (T5.out.on hb19)
                have C := NC; clear NC
                have X := NX; clear NX
                have Y := NY; clear NY
                have R := NR; clear NR
                have Q := NQ; clear NQ
                have L := NL; clear NL
                have K := NK; clear NK
                have T5 := NT5; clear NT5
                have Hb19 := Lib.hid (bthen Hb17.out hb19)
                clear hb19
                have qR0 : w19.cell? ⟨w.heap.size + 1 + 1 + 1, 0, none⟩ = some (.int .i64 0) := R.out.cell 0
                have qR1 : w19.cell? ⟨w.heap.size + 1 + 1 + 1, 1, none⟩ = some (.int .i64 0) := R.out.cell 1
                have qRl := R.out.lt
                have qRf0 := R.out.frozen 0
                have qRf1 := R.out.frozen 1
                have qQ0 : w19.cell? ⟨w.heap.size + 1 + 1 + 1 + 1, 0, none⟩ = some (.int .i64 0) := Q.out.cell 0
                have qQ1 : w19.cell? ⟨w.heap.size + 1 + 1 + 1 + 1, 1, none⟩ = some (.int .i64 0) := Q.out.cell 1
                have qQl := Q.out.lt
                have qQf0 := Q.out.frozen 0
                have qQf1 := Q.out.frozen 1
                have nQR : w.heap.size + 1 + 1 + 1 + 1 ≠ w.heap.size + 1 + 1 + 1 := by have := Z19.out; (try simp only [World.size_alloc, World.size_setCell, World.size_drew]); omega
                have nRQ : w.heap.size + 1 + 1 + 1 ≠ w.heap.size + 1 + 1 + 1 + 1 := fun e => nQR e.symm
                go_wp2
                clear qR0 qR1 qRl qRf0 qRf1 qQ0 qQ1 qQl qQf0 qQf1 nQR nRQ
                have R9R := (show Blk (World.setCell (World.setCell (World.setCell (World.setCell w19 ⟨w.heap.size + 1 + 1 + 1, 0, none⟩ (.int .i64 0)) ⟨w.heap.size + 1 + 1 + 1, 1, none⟩ (.int .i64 0)) ⟨w.heap.size + 1 + 1 + 1 + 1, 0, none⟩ (.int .i64 0)) ⟨w.heap.size + 1 + 1 + 1 + 1, 1, none⟩ (.int .i64 0)) (w.heap.size + 1 + 1 + 1) 42 #[.int .i64 0, .int .i64 0] by have h9 := ((((R.out.set 0 (.int .i64 0)).set 1 (.int .i64 0)).far (p := ⟨w.heap.size + 1 + 1 + 1 + 1, 0, none⟩) (show w.heap.size + 1 + 1 + 1 ≠ w.heap.size + 1 + 1 + 1 + 1 by have := Z19.out; (try simp only [World.size_alloc, World.size_setCell, World.size_drew]); omega) (.int .i64 0)).far (p := ⟨w.heap.size + 1 + 1 + 1 + 1, 1, none⟩) (show w.heap.size + 1 + 1 + 1 ≠ w.heap.size + 1 + 1 + 1 + 1 by have := Z19.out; (try simp only [World.size_alloc, World.size_setCell, World.size_drew]); omega) (.int .i64 0)); simpa using h9)
                have kR0 := R9R.cell 0
                have kR1 := R9R.cell 1
                have R9Q := (show Blk (World.setCell (World.setCell (World.setCell (World.setCell w19 ⟨w.heap.size + 1 + 1 + 1, 0, none⟩ (.int .i64 0)) ⟨w.heap.size + 1 + 1 + 1, 1, none⟩ (.int .i64 0)) ⟨w.heap.size + 1 + 1 + 1 + 1, 0, none⟩ (.int .i64 0)) ⟨w.heap.size + 1 + 1 + 1 + 1, 1, none⟩ (.int .i64 0)) (w.heap.size + 1 + 1 + 1 + 1) 42 #[.int .i64 0, .int .i64 0] by have h9 := ((((Q.out.far (p := ⟨w.heap.size + 1 + 1 + 1, 0, none⟩) (show w.heap.size + 1 + 1 + 1 + 1 ≠ w.heap.size + 1 + 1 + 1 by have := Z19.out; (try simp only [World.size_alloc, World.size_setCell, World.size_drew]); omega) (.int .i64 0)).far (p := ⟨w.heap.size + 1 + 1 + 1, 1, none⟩) (show w.heap.size + 1 + 1 + 1 + 1 ≠ w.heap.size + 1 + 1 + 1 by have := Z19.out; (try simp only [World.size_alloc, World.size_setCell, World.size_drew]); omega) (.int .i64 0)).set 0 (.int .i64 0)).set 1 (.int .i64 0)); simpa using h9)
                have kQ0 := R9Q.cell 0
                have kQ1 := R9Q.cell 1
                simp at kR0 kR1 kQ0 kQ1
                exact bodyPost_ret (v := .tuple #[.agg #[.int .i64 0, .int .i64 0], .agg #[.int .i64 0, .int .i64 0], .bool false]) (by simp [results, Tryz.results19, go_sem, kR0, kR1, kQ0, kQ1]) rfl ⟨by rw [show carV a b e (x1, x2) (y1, y2) = none from car_out (.inr (.inr (.inl Hxe.out)))]; rfl, (bst (bst (bst (bst Hb19.out (p := ⟨w.heap.size + 1 + 1 + 1, 0, none⟩) (show w.heap.size ≤ w.heap.size + 1 + 1 + 1 by have := Z19.out; (try simp only [World.size_alloc, World.size_setCell, World.size_drew]); omega) (.int .i64 0)) (p := ⟨w.heap.size + 1 + 1 + 1, 1, none⟩) (show w.heap.size ≤ w.heap.size + 1 + 1 + 1 by have := Z19.out; (try simp only [World.size_alloc, World.size_setCell, World.size_drew]); omega) (.int .i64 0)) (p := ⟨w.heap.size + 1 + 1 + 1 + 1, 0, none⟩) (show w.heap.size ≤ w.heap.size + 1 + 1 + 1 + 1 by have := Z19.out; (try simp only [World.size_alloc, World.size_setCell, World.size_drew]); omega) (.int .i64 0)) (p := ⟨w.heap.size + 1 + 1 + 1 + 1, 1, none⟩) (show w.heap.size ≤ w.heap.size + 1 + 1 + 1 + 1 by have := Z19.out; (try simp only [World.size_alloc, World.size_setCell, World.size_drew]); omega) (.int .i64 0))⟩
              · have Hot := Lib.hid (show onV a b (x1, x2) (y1, y2) = true by rw [Hon.out, decide_eq_true hlr]; rfl)
                obtain ⟨hl1, hl4⟩ : l1 = u1 ∧ l2 = u2 := Prod.mk.inj hlr
                have hl11 : (l1 == u1) = true := by rw [hl1]; simp
                have hl12 : decide (l1 = u1) = true := decide_eq_true hl1
                have hl41 : (l2 == u2) = true := by rw [hl4]; simp
                have hl42 : decide (l2 = u2) = true := decide_eq_true hl4
                clear hlr hl1 hl4
                have Hin := Lib.hid (car_in Hk.out (by show (frB 1000000000 x1 x2 && frB 1000000000 y1 y2) = true; rw [Hx.out, Hy.out]; rfl) hxe Hot.out)
                have hx3 : ¬ (x1 = e ∧ x2 = 1) := fun h => hxe (by rw [h.1, h.2])
                clear hxe
                go_upto_region 6 with fail
                go_cut [80] from 64 to 80 (fun r wx => r = .bool false ∧ Below w17.heap.size w17 wx)
                case first =>
                  by_cases hx1 : x1 = e
                  · have hx2 : ¬ x2 = 1 := fun h => hx3 ⟨hx1, h⟩
                    have hx11 : (x1 == e) = true := by rw [hx1]; simp
                    have hx12 : decide (x1 = e) = true := decide_eq_true hx1
                    have hx21 : (x2 == 1) = false := beq_eq_false_iff_ne.2 hx2
                    have hx22 : decide (x2 = 1) = false := decide_eq_false hx2
                    clear hx3 hx1
                    have qK0 : w17.cell? ⟨w14.heap.size, 0, none⟩ = some (.bool true) := K.out.cell 0
                    have qKl := K.out.lt
                    have qL0 : w17.cell? ⟨w15.heap.size, 0, none⟩ = some (.int .i64 l1) := L.out.cell 0
                    have qL1 : w17.cell? ⟨w15.heap.size, 1, none⟩ = some (.int .i64 l2) := L.out.cell 1
                    have qLl := L.out.lt
                    have qT50 : w17.cell? ⟨q17, 0, none⟩ = some (.int .i64 u1) := T5.out.cell 0
                    have qT51 : w17.cell? ⟨q17, 1, none⟩ = some (.int .i64 u2) := T5.out.cell 1
                    have qT5l := T5.out.lt
                    have qX0 : w17.cell? ⟨w.heap.size + 1, 0, none⟩ = some (.int .i64 x1) := X.out.cell 0
                    have qX1 : w17.cell? ⟨w.heap.size + 1, 1, none⟩ = some (.int .i64 x2) := X.out.cell 1
                    have qXl := X.out.lt
                    go_wp2_with fail
                    refine wp_region_tame (by kernel_rfl) (by kernel_rfl) (fun T _ W hT => ?_)
                    have hx := hT.cell
                    repeat (go_big_quiet_step ((first | (go_at_call 66; with_reducible exact hT.call (wholeE (e := e) (by omega) (by omega) _ (K.out.on (hT.below _)))) | fail)))
                    refine wpQuiet_nil ?_
                    intro tt
                    clear hx
                    go_wp2
                    go_meet
                    exact ⟨rfl, hT.below tt⟩
                  · have hx11 : (x1 == e) = false := beq_eq_false_iff_ne.2 hx1
                    have hx12 : decide (x1 = e) = false := decide_eq_false hx1
                    clear hx3
                    have qK0 : w17.cell? ⟨w14.heap.size, 0, none⟩ = some (.bool true) := K.out.cell 0
                    have qKl := K.out.lt
                    have qL0 : w17.cell? ⟨w15.heap.size, 0, none⟩ = some (.int .i64 l1) := L.out.cell 0
                    have qL1 : w17.cell? ⟨w15.heap.size, 1, none⟩ = some (.int .i64 l2) := L.out.cell 1
                    have qLl := L.out.lt
                    have qT50 : w17.cell? ⟨q17, 0, none⟩ = some (.int .i64 u1) := T5.out.cell 0
                    have qT51 : w17.cell? ⟨q17, 1, none⟩ = some (.int .i64 u2) := T5.out.cell 1
                    have qT5l := T5.out.lt
                    have qX0 : w17.cell? ⟨w.heap.size + 1, 0, none⟩ = some (.int .i64 x1) := X.out.cell 0
                    have qX1 : w17.cell? ⟨w.heap.size + 1, 1, none⟩ = some (.int .i64 x2) := X.out.cell 1
                    have qXl := X.out.lt
                    go_wp2_with fail
                    refine wp_region_tame (by kernel_rfl) (by kernel_rfl) (fun T _ W hT => ?_)
                    have hx := hT.cell
                    repeat (go_big_quiet_step ((first | (go_at_call 66; with_reducible exact hT.call (wholeE (e := e) (by omega) (by omega) _ (K.out.on (hT.below _)))) | fail)))
                    refine wpQuiet_nil ?_
                    intro tt
                    clear hx
                    go_wp2
                    go_meet
                    exact ⟨rfl, hT.below tt⟩
                obtain ⟨rfl, hb20⟩ := hcut
                obtain ⟨w20, hw9⟩ : ∃ x, x = wc := ⟨_, rfl⟩; subst hw9
                have S20 := Lib.hid (show w17.heap.size + 0 ≤ w20.heap.size by have h9 := hb20.size; (try simp only [World.size_alloc, World.size_setCell, World.size_drew] at h9); omega)
                have Z20 := Lib.hid (And.intro Z17.out <| And.intro Qq17.out <| And.intro Qw17.out S20.out)
                have NC := Lib.hid (C.out.on hb20)
                have NX := Lib.hid (X.out.on hb20)
                have NY := Lib.hid (Y.out.on hb20)
                have NR := Lib.hid (R.out.on hb20)
                have NQ := Lib.hid (Q.out.on hb20)
                have NL := Lib.hid (L.out.on hb20)
                have NK := Lib.hid (K.out.on hb20)
                have NT5 := Lib.hid (T5.out.on hb20)
                have C := NC; clear NC
                have X := NX; clear NX
                have Y := NY; clear NY
                have R := NR; clear NR
                have Q := NQ; clear NQ
                have L := NL; clear NL
                have K := NK; clear NK
                have T5 := NT5; clear NT5
                have Hb20 := Lib.hid (bthen Hb17.out hb20)
                clear hb20
                clear hl11 hl12 hl41 hl42
                obtain ⟨c1, c2, k9, h9⟩ := KpQ.ex true (whoG e)
                have K9 := Lib.hid h9; clear h9
                obtain ⟨d1, d2, k10, h10⟩ := KpQ.ex k9 (difG (x1, x2) (c1, c2))
                have K10 := Lib.hid h10; clear h10
                obtain ⟨f1, f2, k11, h11⟩ := KpQ.ex k10 (whoG (3 * e * e + a))
                have K11 := Lib.hid h11; clear h11
                obtain ⟨g1, g2, k12, h12⟩ := KpQ.ex k11 (quoG (f1, f2) (d1, d2))
                have K12 := Lib.hid h12; clear h12
                obtain ⟨i1, i2, k13, h13⟩ := KpQ.ex k12 (sumG (x1, x2) (g1, g2))
                have K13 := Lib.hid h13; clear h13
                obtain ⟨j1, j2, k14, h14⟩ := KpQ.ex k13 (whoG 1)
                have K14 := Lib.hid h14; clear h14
                obtain ⟨m1, m2, k15, h15⟩ := KpQ.ex k14 (quoG (g1, g2) (d1, d2))
                have K15 := Lib.hid h15; clear h15
                obtain ⟨n1, n2, k16, h16⟩ := KpQ.ex k15 (difG (j1, j2) (m1, m2))
                have K16 := Lib.hid h16; clear h16
                obtain ⟨v1, v2, k17, h17⟩ := KpQ.ex k16 (mulG (y1, y2) (n1, n2))
                have K17 := Lib.hid h17; clear h17
                have Hcr := Lib.hid (impl_cr he (show -1000000000 ≤ 3 * e * e + a ∧ 3 * e * e + a ≤ 1000000000 by omega) Hx.out Hy.out rfl K9.out K10.out K11.out K12.out K13.out K14.out K15.out K16.out K17.out)
                go_wp2_with fail
                go_wp2_with fail
                have qX0 : w20.cell? ⟨w.heap.size + 1, 0, none⟩ = some (.int .i64 x1) := X.out.cell 0
                have qX1 : w20.cell? ⟨w.heap.size + 1, 1, none⟩ = some (.int .i64 x2) := X.out.cell 1
                have qXl := X.out.lt
                have gX : w.heap.size + 1 ≠ w14.heap.size := by have := Z20.out; (try simp only [World.size_alloc, World.size_setCell, World.size_drew]); omega
                have HS : Hid (∀ w', Dg (w14.heap.size) w20 w' → (w'.cell? ⟨w.heap.size + 1, 0, none⟩ = some (.int .i64 x1) ∧ w'.cell? ⟨w.heap.size + 1, 1, none⟩ = some (.int .i64 x2) ∧ Dg (w14.heap.size) w20 w')) := Lib.hid (fun w' hw => ⟨(dcell (p := ⟨w.heap.size + 1, 0, none⟩) hw qXl gX).trans qX0, (dcell (p := ⟨w.heap.size + 1, 1, none⟩) hw qXl gX).trans qX1, hw⟩)
                have hdt : Dg (w14.heap.size) w20 w20 := Dg.refl _ _
                go_cut [14] (fun p0 wx => ∃ q : Nat, p0 = .pointer (some ⟨q, 0, none⟩) ∧ Blk wx q 42 #[.int .i64 d1, .int .i64 d2] ∧ w20.heap.size ≤ q ∧ Blk wx (w14.heap.size) 90 #[.bool k10] ∧ Dg (w14.heap.size) w20 wx)
                case first =>
                  have hKt := K.out
                  have gK := K.out.lt
                  go_region_held3 (fun w' => w'.cell? ⟨w.heap.size + 1, 0, none⟩ = some (.int .i64 x1) ∧ w'.cell? ⟨w.heap.size + 1, 1, none⟩ = some (.int .i64 x2) ∧ Dg (w14.heap.size) w20 w') ((go_split_ands; refine HS.out _ ?_; repeat (first | (with_reducible assumption) | (with_reducible refine Dg.drew ?_) | (with_reducible refine Dg.alloc ?_ _) | (with_reducible refine Dg.st ?_ (by dsimp only; omega) _) | (with_reducible refine Dg.trans ?_ (by with_reducible assumption))))) ((first | (go_at_call 66; with_reducible refine Calls.mono (whole_lit K9.out (by omega) _ (by repeat (first | with_reducible exact hKt | (with_reducible refine Blk.drew ?_) | (with_reducible refine Blk.alloc ?_ _)))) ?_; rintro e fw1 ⟨rfl, hKfw1, hfw1⟩; clear K9; have sfw1 : w20.heap.size ≤ fw1.heap.size := (by have h9 := hfw1.size; (try simp only [World.size_alloc, World.size_drew] at h9); omega); first | (have hz := Blk.dg Hz.out hfw1 (by (try simp only [World.size_alloc, World.size_drew]); omega); clear Hz; have Hz := Lib.hid hz; clear hz) | (have hne : w20.heap.size ≠ w14.heap.size := (by (try simp only [World.size_alloc, World.size_drew]); omega); have hz : Blk fw1 w20.heap.size 42 #[.int .i64 0, .int .i64 0] := (by with_reducible exact Blk.dg (Blk.new w20 42 #[.int .i64 0, .int .i64 0]) hfw1 hne); have hz : Blk fw1 w20.heap.size 42 #[.int .i64 0, .int .i64 0] := hz; clear hne; have Hz := Lib.hid hz; clear hz) | (have hne : w20.heap.size ≠ w14.heap.size := (by (try simp only [World.size_alloc, World.size_drew]); omega); have hz : Blk fw1 w20.heap.size 42 #[.int .i64 0, .int .i64 0] := (by with_reducible exact Blk.dg (Blk.drew (Blk.new w20 42 #[.int .i64 0, .int .i64 0])) hfw1 hne); have hz : Blk fw1 w20.heap.size 42 #[.int .i64 0, .int .i64 0] := hz; clear hne; have Hz := Lib.hid hz; clear hz) | (have hne : (World.drew w20).heap.size ≠ w14.heap.size := (by (try simp only [World.size_alloc, World.size_drew]); omega); have hz : Blk fw1 (World.drew w20).heap.size 42 #[.int .i64 0, .int .i64 0] := (by with_reducible exact Blk.dg (Blk.new (World.drew w20) 42 #[.int .i64 0, .int .i64 0]) hfw1 hne); have hz : Blk fw1 w20.heap.size 42 #[.int .i64 0, .int .i64 0] := hz; clear hne; have Hz := Lib.hid hz; clear hz) | skip) | (go_at_call 67; with_reducible refine Calls.mono (minus_lit K10.out _ (by repeat (first | with_reducible exact hKfw1 | (with_reducible refine Blk.drew ?_) | (with_reducible refine Blk.alloc ?_ _)))) ?_; rintro e fw2 ⟨rfl, hKfw2, hfw2⟩; clear K10; have sfw2 : w20.heap.size ≤ fw2.heap.size := (by have h9 := hfw2.size; (try simp only [World.size_alloc, World.size_drew] at h9); omega); first | (have hz := Blk.dg Hz.out hfw2 (by (try simp only [World.size_alloc, World.size_drew]); omega); clear Hz; have zc0 := hz.cell 0; have zf0 := hz.frozen 0; have zc1 := hz.cell 1; have zf1 := hz.frozen 1; have zl := hz.lt; simp at zc0 zc1; have Hz := Lib.hid hz; clear hz) | (have hne : fw1.heap.size ≠ w14.heap.size := (by (try simp only [World.size_alloc, World.size_drew]); omega); have hz : Blk fw2 fw1.heap.size 42 #[.int .i64 0, .int .i64 0] := (by with_reducible exact Blk.dg (Blk.new fw1 42 #[.int .i64 0, .int .i64 0]) hfw2 hne); have hz : Blk fw2 fw1.heap.size 42 #[.int .i64 0, .int .i64 0] := hz; clear hne; have zc0 := hz.cell 0; have zf0 := hz.frozen 0; have zc1 := hz.cell 1; have zf1 := hz.frozen 1; have zl := hz.lt; simp at zc0 zc1; have Hz := Lib.hid hz; clear hz) | skip)))
                  all_goals go_wp2_with fail
                  all_goals go_meet
                  all_goals first
                    | with_reducible exact ⟨_, rfl, Blk.new _ _ _, (by (try simp only [World.size_alloc, World.size_drew, World.size_setCell]); omega), (by repeat (first | with_reducible exact hKfw2 | (with_reducible refine Blk.drew ?_) | (with_reducible refine Blk.alloc ?_ _) | (with_reducible refine Blk.far ?_ (by dsimp only; (try simp only [World.size_alloc, World.size_drew, World.size_setCell]); omega) _))), (by repeat (first | (with_reducible assumption) | (with_reducible refine Dg.drew ?_) | (with_reducible refine Dg.alloc ?_ _) | (with_reducible refine Dg.st ?_ (by dsimp only; (try simp only [World.size_alloc, World.size_drew, World.size_setCell]); omega) _) | (with_reducible refine Dg.trans ?_ (by with_reducible assumption))))⟩
                    | exact ⟨_, rfl, Blk.set2 Hz.out, (by (try simp only [World.size_alloc, World.size_drew, World.size_setCell]); omega), (by repeat (first | with_reducible exact hKfw2 | (with_reducible refine Blk.drew ?_) | (with_reducible refine Blk.alloc ?_ _) | (with_reducible refine Blk.far ?_ (by dsimp only; (try simp only [World.size_alloc, World.size_drew, World.size_setCell]); omega) _))), (by repeat (first | (with_reducible assumption) | (with_reducible refine Dg.drew ?_) | (with_reducible refine Dg.alloc ?_ _) | (with_reducible refine Dg.st ?_ (by dsimp only; (try simp only [World.size_alloc, World.size_drew, World.size_setCell]); omega) _) | (with_reducible refine Dg.trans ?_ (by with_reducible assumption))))⟩
                obtain ⟨q21, rfl, hB21, hq21, hk21, hb21⟩ := hcut
                clear HS hdt qX0 qX1 qXl gX
                obtain ⟨w21, hw9⟩ : ∃ x, x = wc := ⟨_, rfl⟩; subst hw9
                have S21 := Lib.hid (show w20.heap.size + 0 ≤ w21.heap.size by have h9 := hb21.size; (try simp only [World.size_alloc, World.size_setCell, World.size_drew] at h9); omega)
                have Z21 := Lib.hid (And.intro Z20.out S21.out)
                have NC := Lib.hid (C.out.dg hb21 (show w.heap.size ≠ w14.heap.size by have := Z21.out; (try simp only [World.size_alloc, World.size_setCell, World.size_drew]); omega))
                have NX := Lib.hid (X.out.dg hb21 (show w.heap.size + 1 ≠ w14.heap.size by have := Z21.out; (try simp only [World.size_alloc, World.size_setCell, World.size_drew]); omega))
                have NY := Lib.hid (Y.out.dg hb21 (show w.heap.size + 1 + 1 ≠ w14.heap.size by have := Z21.out; (try simp only [World.size_alloc, World.size_setCell, World.size_drew]); omega))
                have NR := Lib.hid (R.out.dg hb21 (show w.heap.size + 1 + 1 + 1 ≠ w14.heap.size by have := Z21.out; (try simp only [World.size_alloc, World.size_setCell, World.size_drew]); omega))
                have NQ := Lib.hid (Q.out.dg hb21 (show w.heap.size + 1 + 1 + 1 + 1 ≠ w14.heap.size by have := Z21.out; (try simp only [World.size_alloc, World.size_setCell, World.size_drew]); omega))
                have NL := Lib.hid (L.out.dg hb21 (show w15.heap.size ≠ w14.heap.size by have := Z21.out; (try simp only [World.size_alloc, World.size_setCell, World.size_drew]); omega))
                have NT5 := Lib.hid (T5.out.dg hb21 (show q17 ≠ w14.heap.size by have := Z21.out; (try simp only [World.size_alloc, World.size_setCell, World.size_drew]); omega))
                have NK := Lib.hid (show Blk w21 (w14.heap.size) 90 #[.bool k10] from hk21)
                clear hk21
                have C := NC; clear NC
                have X := NX; clear NX
                have Y := NY; clear NY
                have R := NR; clear NR
                have Q := NQ; clear NQ
                have L := NL; clear NL
                have T5 := NT5; clear NT5
                have K := NK; clear NK
                have Hb21 := Lib.hid (show Below w.heap.size w w21 from Below.trans Hb20.out (Dg.below hb21 (show w.heap.size ≤ w14.heap.size by have := Z21.out; (try simp only [World.size_alloc, World.size_setCell, World.size_drew]); omega) (Below.size Hb20.out)))
                clear hb21
                have Qq21 := Lib.hid hq21; have Qw21 := Lib.hid hB21.lt; have A14 := Lib.hid hB21; clear hq21 hB21
                have wr1 : IntKind.i64.wrap (3 * e) = 3 * e := by rw [IntKind.wrap_i64]; omega
                have wr2 : IntKind.i64.wrap (3 * e * e) = 3 * e * e := by rw [IntKind.wrap_i64]; omega
                have wr3 : IntKind.i64.wrap (3 * e * e + a) = 3 * e * e + a := by rw [IntKind.wrap_i64]; omega
                go_wp2_with fail
                go_wp2_with fail
                have qC0 : w21.cell? ⟨w.heap.size, 0, none⟩ = some (.int .i64 a) := C.out.cell 0
                have qC1 : w21.cell? ⟨w.heap.size, 1, none⟩ = some (.int .i64 b) := C.out.cell 1
                have qCl := C.out.lt
                have qA140 : w21.cell? ⟨q21, 0, none⟩ = some (.int .i64 d1) := A14.out.cell 0
                have qA141 : w21.cell? ⟨q21, 1, none⟩ = some (.int .i64 d2) := A14.out.cell 1
                have qA14l := A14.out.lt
                have gC : w.heap.size ≠ w14.heap.size := by have := Z21.out; have := Qq21.out; have := Qw21.out; (try simp only [World.size_alloc, World.size_setCell, World.size_drew]); omega
                have gA14 : q21 ≠ w14.heap.size := by have := Z21.out; have := Qq21.out; have := Qw21.out; (try simp only [World.size_alloc, World.size_setCell, World.size_drew]); omega
                have HS : Hid (∀ w', Dg (w14.heap.size) w21 w' → (w'.cell? ⟨w.heap.size, 0, none⟩ = some (.int .i64 a) ∧ w'.cell? ⟨w.heap.size, 1, none⟩ = some (.int .i64 b) ∧ w'.cell? ⟨q21, 0, none⟩ = some (.int .i64 d1) ∧ w'.cell? ⟨q21, 1, none⟩ = some (.int .i64 d2) ∧ Dg (w14.heap.size) w21 w')) := Lib.hid (fun w' hw => ⟨(dcell (p := ⟨w.heap.size, 0, none⟩) hw qCl gC).trans qC0, (dcell (p := ⟨w.heap.size, 1, none⟩) hw qCl gC).trans qC1, (dcell (p := ⟨q21, 0, none⟩) hw qA14l gA14).trans qA140, (dcell (p := ⟨q21, 1, none⟩) hw qA14l gA14).trans qA141, hw⟩)
                have hdt : Dg (w14.heap.size) w21 w21 := Dg.refl _ _
                go_cut [15] (fun p0 wx => ∃ q : Nat, p0 = .pointer (some ⟨q, 0, none⟩) ∧ Blk wx q 42 #[.int .i64 g1, .int .i64 g2] ∧ w21.heap.size ≤ q ∧ Blk wx (w14.heap.size) 90 #[.bool k12] ∧ Dg (w14.heap.size) w21 wx)
                case first =>
                  have hKt := K.out
                  have gK := K.out.lt
                  go_region_held3 (fun w' => w'.cell? ⟨w.heap.size, 0, none⟩ = some (.int .i64 a) ∧ w'.cell? ⟨w.heap.size, 1, none⟩ = some (.int .i64 b) ∧ w'.cell? ⟨q21, 0, none⟩ = some (.int .i64 d1) ∧ w'.cell? ⟨q21, 1, none⟩ = some (.int .i64 d2) ∧ Dg (w14.heap.size) w21 w') ((go_split_ands; refine HS.out _ ?_; repeat (first | (with_reducible assumption) | (with_reducible refine Dg.drew ?_) | (with_reducible refine Dg.alloc ?_ _) | (with_reducible refine Dg.st ?_ (by dsimp only; omega) _) | (with_reducible refine Dg.trans ?_ (by with_reducible assumption))))) ((first | (go_at_call 66; with_reducible refine Calls.mono (whole_lit K11.out (by omega) _ (by repeat (first | with_reducible exact hKt | (with_reducible refine Blk.drew ?_) | (with_reducible refine Blk.alloc ?_ _)))) ?_; rintro e fw1 ⟨rfl, hKfw1, hfw1⟩; clear K11; have sfw1 : w21.heap.size ≤ fw1.heap.size := (by have h9 := hfw1.size; (try simp only [World.size_alloc, World.size_drew] at h9); omega); first | (have hz := Blk.dg Hz.out hfw1 (by (try simp only [World.size_alloc, World.size_drew]); omega); clear Hz; have Hz := Lib.hid hz; clear hz) | (have hne : w21.heap.size ≠ w14.heap.size := (by (try simp only [World.size_alloc, World.size_drew]); omega); have hz : Blk fw1 w21.heap.size 42 #[.int .i64 0, .int .i64 0] := (by with_reducible exact Blk.dg (Blk.new w21 42 #[.int .i64 0, .int .i64 0]) hfw1 hne); have hz : Blk fw1 w21.heap.size 42 #[.int .i64 0, .int .i64 0] := hz; clear hne; have Hz := Lib.hid hz; clear hz) | (have hne : w21.heap.size ≠ w14.heap.size := (by (try simp only [World.size_alloc, World.size_drew]); omega); have hz : Blk fw1 w21.heap.size 42 #[.int .i64 0, .int .i64 0] := (by with_reducible exact Blk.dg (Blk.drew (Blk.new w21 42 #[.int .i64 0, .int .i64 0])) hfw1 hne); have hz : Blk fw1 w21.heap.size 42 #[.int .i64 0, .int .i64 0] := hz; clear hne; have Hz := Lib.hid hz; clear hz) | (have hne : (World.drew w21).heap.size ≠ w14.heap.size := (by (try simp only [World.size_alloc, World.size_drew]); omega); have hz : Blk fw1 (World.drew w21).heap.size 42 #[.int .i64 0, .int .i64 0] := (by with_reducible exact Blk.dg (Blk.new (World.drew w21) 42 #[.int .i64 0, .int .i64 0]) hfw1 hne); have hz : Blk fw1 w21.heap.size 42 #[.int .i64 0, .int .i64 0] := hz; clear hne; have Hz := Lib.hid hz; clear hz) | skip) | (go_at_call 68; with_reducible refine Calls.mono (over_lit K12.out _ (by repeat (first | with_reducible exact hKfw1 | (with_reducible refine Blk.drew ?_) | (with_reducible refine Blk.alloc ?_ _)))) ?_; rintro e fw2 ⟨rfl, hKfw2, hfw2⟩; clear K12; have sfw2 : w21.heap.size ≤ fw2.heap.size := (by have h9 := hfw2.size; (try simp only [World.size_alloc, World.size_drew] at h9); omega); first | (have hz := Blk.dg Hz.out hfw2 (by (try simp only [World.size_alloc, World.size_drew]); omega); clear Hz; have zc0 := hz.cell 0; have zf0 := hz.frozen 0; have zc1 := hz.cell 1; have zf1 := hz.frozen 1; have zl := hz.lt; simp at zc0 zc1; have Hz := Lib.hid hz; clear hz) | (have hne : fw1.heap.size ≠ w14.heap.size := (by (try simp only [World.size_alloc, World.size_drew]); omega); have hz : Blk fw2 fw1.heap.size 42 #[.int .i64 0, .int .i64 0] := (by with_reducible exact Blk.dg (Blk.new fw1 42 #[.int .i64 0, .int .i64 0]) hfw2 hne); have hz : Blk fw2 fw1.heap.size 42 #[.int .i64 0, .int .i64 0] := hz; clear hne; have zc0 := hz.cell 0; have zf0 := hz.frozen 0; have zc1 := hz.cell 1; have zf1 := hz.frozen 1; have zl := hz.lt; simp at zc0 zc1; have Hz := Lib.hid hz; clear hz) | skip)))
                  all_goals go_wp2_with fail
                  all_goals go_meet
                  all_goals first
                    | with_reducible exact ⟨_, rfl, Blk.new _ _ _, (by (try simp only [World.size_alloc, World.size_drew, World.size_setCell]); omega), (by repeat (first | with_reducible exact hKfw2 | (with_reducible refine Blk.drew ?_) | (with_reducible refine Blk.alloc ?_ _) | (with_reducible refine Blk.far ?_ (by dsimp only; (try simp only [World.size_alloc, World.size_drew, World.size_setCell]); omega) _))), (by repeat (first | (with_reducible assumption) | (with_reducible refine Dg.drew ?_) | (with_reducible refine Dg.alloc ?_ _) | (with_reducible refine Dg.st ?_ (by dsimp only; (try simp only [World.size_alloc, World.size_drew, World.size_setCell]); omega) _) | (with_reducible refine Dg.trans ?_ (by with_reducible assumption))))⟩
                    | exact ⟨_, rfl, Blk.set2 Hz.out, (by (try simp only [World.size_alloc, World.size_drew, World.size_setCell]); omega), (by repeat (first | with_reducible exact hKfw2 | (with_reducible refine Blk.drew ?_) | (with_reducible refine Blk.alloc ?_ _) | (with_reducible refine Blk.far ?_ (by dsimp only; (try simp only [World.size_alloc, World.size_drew, World.size_setCell]); omega) _))), (by repeat (first | (with_reducible assumption) | (with_reducible refine Dg.drew ?_) | (with_reducible refine Dg.alloc ?_ _) | (with_reducible refine Dg.st ?_ (by dsimp only; (try simp only [World.size_alloc, World.size_drew, World.size_setCell]); omega) _) | (with_reducible refine Dg.trans ?_ (by with_reducible assumption))))⟩
                obtain ⟨q22, rfl, hB22, hq22, hk22, hb22⟩ := hcut
                clear HS hdt qC0 qC1 qCl qA140 qA141 qA14l gC gA14
                obtain ⟨w22, hw9⟩ : ∃ x, x = wc := ⟨_, rfl⟩; subst hw9
                have S22 := Lib.hid (show w21.heap.size + 0 ≤ w22.heap.size by have h9 := hb22.size; (try simp only [World.size_alloc, World.size_setCell, World.size_drew] at h9); omega)
                have Z22 := Lib.hid (And.intro Z21.out <| And.intro Qq21.out <| And.intro Qw21.out S22.out)
                have NC := Lib.hid (C.out.dg hb22 (show w.heap.size ≠ w14.heap.size by have := Z22.out; (try simp only [World.size_alloc, World.size_setCell, World.size_drew]); omega))
                have NX := Lib.hid (X.out.dg hb22 (show w.heap.size + 1 ≠ w14.heap.size by have := Z22.out; (try simp only [World.size_alloc, World.size_setCell, World.size_drew]); omega))
                have NY := Lib.hid (Y.out.dg hb22 (show w.heap.size + 1 + 1 ≠ w14.heap.size by have := Z22.out; (try simp only [World.size_alloc, World.size_setCell, World.size_drew]); omega))
                have NR := Lib.hid (R.out.dg hb22 (show w.heap.size + 1 + 1 + 1 ≠ w14.heap.size by have := Z22.out; (try simp only [World.size_alloc, World.size_setCell, World.size_drew]); omega))
                have NQ := Lib.hid (Q.out.dg hb22 (show w.heap.size + 1 + 1 + 1 + 1 ≠ w14.heap.size by have := Z22.out; (try simp only [World.size_alloc, World.size_setCell, World.size_drew]); omega))
                have NL := Lib.hid (L.out.dg hb22 (show w15.heap.size ≠ w14.heap.size by have := Z22.out; (try simp only [World.size_alloc, World.size_setCell, World.size_drew]); omega))
                have NT5 := Lib.hid (T5.out.dg hb22 (show q17 ≠ w14.heap.size by have := Z22.out; (try simp only [World.size_alloc, World.size_setCell, World.size_drew]); omega))
                have NA14 := Lib.hid (A14.out.dg hb22 (show q21 ≠ w14.heap.size by have := Z22.out; (try simp only [World.size_alloc, World.size_setCell, World.size_drew]); omega))
                have NK := Lib.hid (show Blk w22 (w14.heap.size) 90 #[.bool k12] from hk22)
                clear hk22
                have C := NC; clear NC
                have X := NX; clear NX
                have Y := NY; clear NY
                have R := NR; clear NR
                have Q := NQ; clear NQ
                have L := NL; clear NL
                have T5 := NT5; clear NT5
                have A14 := NA14; clear NA14
                have K := NK; clear NK
                have Hb22 := Lib.hid (show Below w.heap.size w w22 from Below.trans Hb21.out (Dg.below hb22 (show w.heap.size ≤ w14.heap.size by have := Z22.out; (try simp only [World.size_alloc, World.size_setCell, World.size_drew]); omega) (Below.size Hb21.out)))
                clear hb22
                have Qq22 := Lib.hid hq22; have Qw22 := Lib.hid hB22.lt; have A15 := Lib.hid hB22; clear hq22 hB22
                clear wr1 wr2 wr3
                have qX0 : w22.cell? ⟨w.heap.size + 1, 0, none⟩ = some (.int .i64 x1) := X.out.cell 0
                have qX1 : w22.cell? ⟨w.heap.size + 1, 1, none⟩ = some (.int .i64 x2) := X.out.cell 1
                have qXl := X.out.lt
                have qA150 : w22.cell? ⟨q22, 0, none⟩ = some (.int .i64 g1) := A15.out.cell 0
                have qA151 : w22.cell? ⟨q22, 1, none⟩ = some (.int .i64 g2) := A15.out.cell 1
                have qA15l := A15.out.lt
                go_wp2_with fail
                clear qX0 qX1 qXl qA150 qA151 qA15l
                refine (plus_lit K13.out _ K.out).mono ?_; rintro e9 w23 ⟨rfl, hk23, hb23⟩
                have S23 := Lib.hid (show w22.heap.size + 0 ≤ w23.heap.size by have h9 := hb23.size; (try simp only [World.size_alloc, World.size_setCell, World.size_drew] at h9); omega)
                have Z23 := Lib.hid (And.intro Z22.out <| And.intro Qq22.out <| And.intro Qw22.out S23.out)
                have NC := Lib.hid (C.out.dg hb23 (show w.heap.size ≠ w14.heap.size by have := Z23.out; (try simp only [World.size_alloc, World.size_setCell, World.size_drew]); omega))
                have NX := Lib.hid (X.out.dg hb23 (show w.heap.size + 1 ≠ w14.heap.size by have := Z23.out; (try simp only [World.size_alloc, World.size_setCell, World.size_drew]); omega))
                have NY := Lib.hid (Y.out.dg hb23 (show w.heap.size + 1 + 1 ≠ w14.heap.size by have := Z23.out; (try simp only [World.size_alloc, World.size_setCell, World.size_drew]); omega))
                have NR := Lib.hid (R.out.dg hb23 (show w.heap.size + 1 + 1 + 1 ≠ w14.heap.size by have := Z23.out; (try simp only [World.size_alloc, World.size_setCell, World.size_drew]); omega))
                have NQ := Lib.hid (Q.out.dg hb23 (show w.heap.size + 1 + 1 + 1 + 1 ≠ w14.heap.size by have := Z23.out; (try simp only [World.size_alloc, World.size_setCell, World.size_drew]); omega))
                have NL := Lib.hid (L.out.dg hb23 (show w15.heap.size ≠ w14.heap.size by have := Z23.out; (try simp only [World.size_alloc, World.size_setCell, World.size_drew]); omega))
                have NT5 := Lib.hid (T5.out.dg hb23 (show q17 ≠ w14.heap.size by have := Z23.out; (try simp only [World.size_alloc, World.size_setCell, World.size_drew]); omega))
                have NA14 := Lib.hid (A14.out.dg hb23 (show q21 ≠ w14.heap.size by have := Z23.out; (try simp only [World.size_alloc, World.size_setCell, World.size_drew]); omega))
                have NA15 := Lib.hid (A15.out.dg hb23 (show q22 ≠ w14.heap.size by have := Z23.out; (try simp only [World.size_alloc, World.size_setCell, World.size_drew]); omega))
                have NK := Lib.hid (show Blk w23 (w14.heap.size) 90 #[.bool k13] from hk23)
                clear hk23
                have C := NC; clear NC
                have X := NX; clear NX
                have Y := NY; clear NY
                have R := NR; clear NR
                have Q := NQ; clear NQ
                have L := NL; clear NL
                have T5 := NT5; clear NT5
                have A14 := NA14; clear NA14
                have A15 := NA15; clear NA15
                have K := NK; clear NK
                have Hb23 := Lib.hid (show Below w.heap.size w w23 from Below.trans Hb22.out (Dg.below hb23 (show w.heap.size ≤ w14.heap.size by have := Z23.out; (try simp only [World.size_alloc, World.size_setCell, World.size_drew]); omega) (Below.size Hb22.out)))
                clear hb23
                go_wp2_with fail
                obtain ⟨w24, hw9⟩ : ∃ x, x = (World.alloc w23 (Obj.cells #[.int .i64 i1, .int .i64 i2] 42)) := ⟨_, rfl⟩
                rw [← hw9]
                have hb24 : Below ((World.alloc w23 (Obj.cells #[.int .i64 i1, .int .i64 i2] 42))).heap.size (World.alloc w23 (Obj.cells #[.int .i64 i1, .int .i64 i2] 42)) w24 := by rw [hw9]; exact Below.refl _ _
                have S24 := Lib.hid (show w23.heap.size + 1 ≤ w24.heap.size by have h9 := hb24.size; (try simp only [World.size_alloc, World.size_setCell, World.size_drew] at h9); omega)
                have Z24 := Lib.hid (And.intro Z23.out S24.out)
                have NC := Lib.hid ((C.out.alloc (Obj.cells #[.int .i64 i1, .int .i64 i2] 42)).on hb24)
                have NX := Lib.hid ((X.out.alloc (Obj.cells #[.int .i64 i1, .int .i64 i2] 42)).on hb24)
                have NY := Lib.hid ((Y.out.alloc (Obj.cells #[.int .i64 i1, .int .i64 i2] 42)).on hb24)
                have NR := Lib.hid ((R.out.alloc (Obj.cells #[.int .i64 i1, .int .i64 i2] 42)).on hb24)
                have NQ := Lib.hid ((Q.out.alloc (Obj.cells #[.int .i64 i1, .int .i64 i2] 42)).on hb24)
                have NL := Lib.hid ((L.out.alloc (Obj.cells #[.int .i64 i1, .int .i64 i2] 42)).on hb24)
                have NT5 := Lib.hid ((T5.out.alloc (Obj.cells #[.int .i64 i1, .int .i64 i2] 42)).on hb24)
                have NA14 := Lib.hid ((A14.out.alloc (Obj.cells #[.int .i64 i1, .int .i64 i2] 42)).on hb24)
                have NA15 := Lib.hid ((A15.out.alloc (Obj.cells #[.int .i64 i1, .int .i64 i2] 42)).on hb24)
                have NK := Lib.hid ((K.out.alloc (Obj.cells #[.int .i64 i1, .int .i64 i2] 42)).on hb24)
                have NA16 := Lib.hid ((Blk.new w23 42 #[.int .i64 i1, .int .i64 i2]).on hb24)
                have C := NC; clear NC
                have X := NX; clear NX
                have Y := NY; clear NY
                have R := NR; clear NR
                have Q := NQ; clear NQ
                have L := NL; clear NL
                have T5 := NT5; clear NT5
                have A14 := NA14; clear NA14
                have A15 := NA15; clear NA15
                have K := NK; clear NK
                have A16 := NA16; clear NA16
                have Hb24 := Lib.hid (bthen (bal Hb23.out (Obj.cells #[.int .i64 i1, .int .i64 i2] 42)) hb24)
                clear hb24
                clear hw9
                have qY0 : w24.cell? ⟨w.heap.size + 1 + 1, 0, none⟩ = some (.int .i64 y1) := Y.out.cell 0
                have qY1 : w24.cell? ⟨w.heap.size + 1 + 1, 1, none⟩ = some (.int .i64 y2) := Y.out.cell 1
                have qYl := Y.out.lt
                have qA150 : w24.cell? ⟨q22, 0, none⟩ = some (.int .i64 g1) := A15.out.cell 0
                have qA151 : w24.cell? ⟨q22, 1, none⟩ = some (.int .i64 g2) := A15.out.cell 1
                have qA15l := A15.out.lt
                have qA140 : w24.cell? ⟨q21, 0, none⟩ = some (.int .i64 d1) := A14.out.cell 0
                have qA141 : w24.cell? ⟨q21, 1, none⟩ = some (.int .i64 d2) := A14.out.cell 1
                have qA14l := A14.out.lt
                have gY : w.heap.size + 1 + 1 ≠ w14.heap.size := by have := Z24.out; (try simp only [World.size_alloc, World.size_setCell, World.size_drew]); omega
                have gA15 : q22 ≠ w14.heap.size := by have := Z24.out; (try simp only [World.size_alloc, World.size_setCell, World.size_drew]); omega
                have gA14 : q21 ≠ w14.heap.size := by have := Z24.out; (try simp only [World.size_alloc, World.size_setCell, World.size_drew]); omega
                have HS : Hid (∀ w', Dg (w14.heap.size) w24 w' → (w'.cell? ⟨w.heap.size + 1 + 1, 0, none⟩ = some (.int .i64 y1) ∧ w'.cell? ⟨w.heap.size + 1 + 1, 1, none⟩ = some (.int .i64 y2) ∧ w'.cell? ⟨q22, 0, none⟩ = some (.int .i64 g1) ∧ w'.cell? ⟨q22, 1, none⟩ = some (.int .i64 g2) ∧ w'.cell? ⟨q21, 0, none⟩ = some (.int .i64 d1) ∧ w'.cell? ⟨q21, 1, none⟩ = some (.int .i64 d2) ∧ Dg (w14.heap.size) w24 w')) := Lib.hid (fun w' hw => ⟨(dcell (p := ⟨w.heap.size + 1 + 1, 0, none⟩) hw qYl gY).trans qY0, (dcell (p := ⟨w.heap.size + 1 + 1, 1, none⟩) hw qYl gY).trans qY1, (dcell (p := ⟨q22, 0, none⟩) hw qA15l gA15).trans qA150, (dcell (p := ⟨q22, 1, none⟩) hw qA15l gA15).trans qA151, (dcell (p := ⟨q21, 0, none⟩) hw qA14l gA14).trans qA140, (dcell (p := ⟨q21, 1, none⟩) hw qA14l gA14).trans qA141, hw⟩)
                have hdt : Dg (w14.heap.size) w24 w24 := Dg.refl _ _
                go_cut [17] (fun p0 wx => ∃ q : Nat, p0 = .pointer (some ⟨q, 0, none⟩) ∧ Blk wx q 42 #[.int .i64 v1, .int .i64 v2] ∧ w24.heap.size ≤ q ∧ Blk wx (w14.heap.size) 90 #[.bool k17] ∧ Dg (w14.heap.size) w24 wx)
                case first =>
                  have hKt := K.out
                  have gK := K.out.lt
                  go_region_held3 (fun w' => w'.cell? ⟨w.heap.size + 1 + 1, 0, none⟩ = some (.int .i64 y1) ∧ w'.cell? ⟨w.heap.size + 1 + 1, 1, none⟩ = some (.int .i64 y2) ∧ w'.cell? ⟨q22, 0, none⟩ = some (.int .i64 g1) ∧ w'.cell? ⟨q22, 1, none⟩ = some (.int .i64 g2) ∧ w'.cell? ⟨q21, 0, none⟩ = some (.int .i64 d1) ∧ w'.cell? ⟨q21, 1, none⟩ = some (.int .i64 d2) ∧ Dg (w14.heap.size) w24 w') ((go_split_ands; refine HS.out _ ?_; repeat (first | (with_reducible assumption) | (with_reducible refine Dg.drew ?_) | (with_reducible refine Dg.alloc ?_ _) | (with_reducible refine Dg.st ?_ (by dsimp only; omega) _) | (with_reducible refine Dg.trans ?_ (by with_reducible assumption))))) ((first | (go_at_call 66; with_reducible refine Calls.mono (whole_lit K14.out (by omega) _ (by repeat (first | with_reducible exact hKt | (with_reducible refine Blk.drew ?_) | (with_reducible refine Blk.alloc ?_ _)))) ?_; rintro e fw1 ⟨rfl, hKfw1, hfw1⟩; clear K14; have sfw1 : w24.heap.size ≤ fw1.heap.size := (by have h9 := hfw1.size; (try simp only [World.size_alloc, World.size_drew] at h9); omega); first | (have hz := Blk.dg Hz.out hfw1 (by (try simp only [World.size_alloc, World.size_drew]); omega); clear Hz; have Hz := Lib.hid hz; clear hz) | (have hne : w24.heap.size ≠ w14.heap.size := (by (try simp only [World.size_alloc, World.size_drew]); omega); have hz : Blk fw1 w24.heap.size 42 #[.int .i64 0, .int .i64 0] := (by with_reducible exact Blk.dg (Blk.new w24 42 #[.int .i64 0, .int .i64 0]) hfw1 hne); have hz : Blk fw1 w24.heap.size 42 #[.int .i64 0, .int .i64 0] := hz; clear hne; have Hz := Lib.hid hz; clear hz) | (have hne : w24.heap.size ≠ w14.heap.size := (by (try simp only [World.size_alloc, World.size_drew]); omega); have hz : Blk fw1 w24.heap.size 42 #[.int .i64 0, .int .i64 0] := (by with_reducible exact Blk.dg (Blk.drew (Blk.new w24 42 #[.int .i64 0, .int .i64 0])) hfw1 hne); have hz : Blk fw1 w24.heap.size 42 #[.int .i64 0, .int .i64 0] := hz; clear hne; have Hz := Lib.hid hz; clear hz) | (have hne : (World.drew w24).heap.size ≠ w14.heap.size := (by (try simp only [World.size_alloc, World.size_drew]); omega); have hz : Blk fw1 (World.drew w24).heap.size 42 #[.int .i64 0, .int .i64 0] := (by with_reducible exact Blk.dg (Blk.new (World.drew w24) 42 #[.int .i64 0, .int .i64 0]) hfw1 hne); have hz : Blk fw1 w24.heap.size 42 #[.int .i64 0, .int .i64 0] := hz; clear hne; have Hz := Lib.hid hz; clear hz) | skip) | (go_at_call 68; with_reducible refine Calls.mono (over_lit K15.out _ (by repeat (first | with_reducible exact hKfw1 | (with_reducible refine Blk.drew ?_) | (with_reducible refine Blk.alloc ?_ _)))) ?_; rintro e fw2 ⟨rfl, hKfw2, hfw2⟩; clear K15; have sfw2 : w24.heap.size ≤ fw2.heap.size := (by have h9 := hfw2.size; (try simp only [World.size_alloc, World.size_drew] at h9); omega); first | (have hz := Blk.dg Hz.out hfw2 (by (try simp only [World.size_alloc, World.size_drew]); omega); clear Hz; have Hz := Lib.hid hz; clear hz) | (have hne : fw1.heap.size ≠ w14.heap.size := (by (try simp only [World.size_alloc, World.size_drew]); omega); have hz : Blk fw2 fw1.heap.size 42 #[.int .i64 0, .int .i64 0] := (by with_reducible exact Blk.dg (Blk.new fw1 42 #[.int .i64 0, .int .i64 0]) hfw2 hne); have hz : Blk fw2 fw1.heap.size 42 #[.int .i64 0, .int .i64 0] := hz; clear hne; have Hz := Lib.hid hz; clear hz) | skip) | (go_at_call 67; with_reducible refine Calls.mono (minus_lit K16.out _ (by repeat (first | with_reducible exact hKfw2 | (with_reducible refine Blk.drew ?_) | (with_reducible refine Blk.alloc ?_ _)))) ?_; rintro e fw3 ⟨rfl, hKfw3, hfw3⟩; clear K16; have sfw3 : w24.heap.size ≤ fw3.heap.size := (by have h9 := hfw3.size; (try simp only [World.size_alloc, World.size_drew] at h9); omega); first | (have hz := Blk.dg Hz.out hfw3 (by (try simp only [World.size_alloc, World.size_drew]); omega); clear Hz; have Hz := Lib.hid hz; clear hz) | (have hne : fw2.heap.size ≠ w14.heap.size := (by (try simp only [World.size_alloc, World.size_drew]); omega); have hz : Blk fw3 fw2.heap.size 42 #[.int .i64 0, .int .i64 0] := (by with_reducible exact Blk.dg (Blk.new fw2 42 #[.int .i64 0, .int .i64 0]) hfw3 hne); have hz : Blk fw3 fw2.heap.size 42 #[.int .i64 0, .int .i64 0] := hz; clear hne; have Hz := Lib.hid hz; clear hz) | skip) | (go_at_call 64; with_reducible refine Calls.mono (times_lit K17.out _ (by repeat (first | with_reducible exact hKfw3 | (with_reducible refine Blk.drew ?_) | (with_reducible refine Blk.alloc ?_ _)))) ?_; rintro e fw4 ⟨rfl, hKfw4, hfw4⟩; clear K17; have sfw4 : w24.heap.size ≤ fw4.heap.size := (by have h9 := hfw4.size; (try simp only [World.size_alloc, World.size_drew] at h9); omega); first | (have hz := Blk.dg Hz.out hfw4 (by (try simp only [World.size_alloc, World.size_drew]); omega); clear Hz; have zc0 := hz.cell 0; have zf0 := hz.frozen 0; have zc1 := hz.cell 1; have zf1 := hz.frozen 1; have zl := hz.lt; simp at zc0 zc1; have Hz := Lib.hid hz; clear hz) | (have hne : fw3.heap.size ≠ w14.heap.size := (by (try simp only [World.size_alloc, World.size_drew]); omega); have hz : Blk fw4 fw3.heap.size 42 #[.int .i64 0, .int .i64 0] := (by with_reducible exact Blk.dg (Blk.new fw3 42 #[.int .i64 0, .int .i64 0]) hfw4 hne); have hz : Blk fw4 fw3.heap.size 42 #[.int .i64 0, .int .i64 0] := hz; clear hne; have zc0 := hz.cell 0; have zf0 := hz.frozen 0; have zc1 := hz.cell 1; have zf1 := hz.frozen 1; have zl := hz.lt; simp at zc0 zc1; have Hz := Lib.hid hz; clear hz) | skip)))
                  all_goals go_wp2_with fail
                  all_goals go_meet
                  all_goals first
                    | with_reducible exact ⟨_, rfl, Blk.new _ _ _, (by (try simp only [World.size_alloc, World.size_drew, World.size_setCell]); omega), (by repeat (first | with_reducible exact hKfw4 | (with_reducible refine Blk.drew ?_) | (with_reducible refine Blk.alloc ?_ _) | (with_reducible refine Blk.far ?_ (by dsimp only; (try simp only [World.size_alloc, World.size_drew, World.size_setCell]); omega) _))), (by repeat (first | (with_reducible assumption) | (with_reducible refine Dg.drew ?_) | (with_reducible refine Dg.alloc ?_ _) | (with_reducible refine Dg.st ?_ (by dsimp only; (try simp only [World.size_alloc, World.size_drew, World.size_setCell]); omega) _) | (with_reducible refine Dg.trans ?_ (by with_reducible assumption))))⟩
                    | exact ⟨_, rfl, Blk.set2 Hz.out, (by (try simp only [World.size_alloc, World.size_drew, World.size_setCell]); omega), (by repeat (first | with_reducible exact hKfw4 | (with_reducible refine Blk.drew ?_) | (with_reducible refine Blk.alloc ?_ _) | (with_reducible refine Blk.far ?_ (by dsimp only; (try simp only [World.size_alloc, World.size_drew, World.size_setCell]); omega) _))), (by repeat (first | (with_reducible assumption) | (with_reducible refine Dg.drew ?_) | (with_reducible refine Dg.alloc ?_ _) | (with_reducible refine Dg.st ?_ (by dsimp only; (try simp only [World.size_alloc, World.size_drew, World.size_setCell]); omega) _) | (with_reducible refine Dg.trans ?_ (by with_reducible assumption))))⟩
                obtain ⟨q25, rfl, hB25, hq25, hk25, hb25⟩ := hcut
                clear HS hdt qY0 qY1 qYl qA150 qA151 qA15l qA140 qA141 qA14l gY gA15 gA14
                obtain ⟨w25, hw9⟩ : ∃ x, x = wc := ⟨_, rfl⟩; subst hw9
                have S25 := Lib.hid (show w24.heap.size + 0 ≤ w25.heap.size by have h9 := hb25.size; (try simp only [World.size_alloc, World.size_setCell, World.size_drew] at h9); omega)
                have Z25 := Lib.hid (And.intro Z24.out S25.out)
                have NC := Lib.hid (C.out.dg hb25 (show w.heap.size ≠ w14.heap.size by have := Z25.out; (try simp only [World.size_alloc, World.size_setCell, World.size_drew]); omega))
                have NX := Lib.hid (X.out.dg hb25 (show w.heap.size + 1 ≠ w14.heap.size by have := Z25.out; (try simp only [World.size_alloc, World.size_setCell, World.size_drew]); omega))
                have NY := Lib.hid (Y.out.dg hb25 (show w.heap.size + 1 + 1 ≠ w14.heap.size by have := Z25.out; (try simp only [World.size_alloc, World.size_setCell, World.size_drew]); omega))
                have NR := Lib.hid (R.out.dg hb25 (show w.heap.size + 1 + 1 + 1 ≠ w14.heap.size by have := Z25.out; (try simp only [World.size_alloc, World.size_setCell, World.size_drew]); omega))
                have NQ := Lib.hid (Q.out.dg hb25 (show w.heap.size + 1 + 1 + 1 + 1 ≠ w14.heap.size by have := Z25.out; (try simp only [World.size_alloc, World.size_setCell, World.size_drew]); omega))
                have NL := Lib.hid (L.out.dg hb25 (show w15.heap.size ≠ w14.heap.size by have := Z25.out; (try simp only [World.size_alloc, World.size_setCell, World.size_drew]); omega))
                have NT5 := Lib.hid (T5.out.dg hb25 (show q17 ≠ w14.heap.size by have := Z25.out; (try simp only [World.size_alloc, World.size_setCell, World.size_drew]); omega))
                have NA14 := Lib.hid (A14.out.dg hb25 (show q21 ≠ w14.heap.size by have := Z25.out; (try simp only [World.size_alloc, World.size_setCell, World.size_drew]); omega))
                have NA15 := Lib.hid (A15.out.dg hb25 (show q22 ≠ w14.heap.size by have := Z25.out; (try simp only [World.size_alloc, World.size_setCell, World.size_drew]); omega))
                have NA16 := Lib.hid (A16.out.dg hb25 (show w23.heap.size ≠ w14.heap.size by have := Z25.out; (try simp only [World.size_alloc, World.size_setCell, World.size_drew]); omega))
                have NK := Lib.hid (show Blk w25 (w14.heap.size) 90 #[.bool k17] from hk25)
                clear hk25
                have C := NC; clear NC
                have X := NX; clear NX
                have Y := NY; clear NY
                have R := NR; clear NR
                have Q := NQ; clear NQ
                have L := NL; clear NL
                have T5 := NT5; clear NT5
                have A14 := NA14; clear NA14
                have A15 := NA15; clear NA15
                have A16 := NA16; clear NA16
                have K := NK; clear NK
                have Hb25 := Lib.hid (show Below w.heap.size w w25 from Below.trans Hb24.out (Dg.below hb25 (show w.heap.size ≤ w14.heap.size by have := Z25.out; (try simp only [World.size_alloc, World.size_setCell, World.size_drew]); omega) (Below.size Hb24.out)))
                clear hb25
                have Qq25 := Lib.hid hq25; have Qw25 := Lib.hid hB25.lt; have A17 := Lib.hid hB25; clear hq25 hB25
                cases k17
                · have qA160 : w25.cell? ⟨w23.heap.size, 0, none⟩ = some (.int .i64 i1) := A16.out.cell 0
                  have qA161 : w25.cell? ⟨w23.heap.size, 1, none⟩ = some (.int .i64 i2) := A16.out.cell 1
                  have qA16l := A16.out.lt
                  have qA170 : w25.cell? ⟨q25, 0, none⟩ = some (.int .i64 v1) := A17.out.cell 0
                  have qA171 : w25.cell? ⟨q25, 1, none⟩ = some (.int .i64 v2) := A17.out.cell 1
                  have qA17l := A17.out.lt
                  go_wp2_with fail
                  clear qA160 qA161 qA16l qA170 qA171 qA17l
                  refine (pair_any _ false i1 i2 v1 v2 _ K.out).mono ?_; rintro e w26 ⟨rfl, hb26⟩
                  have S26 := Lib.hid (show w25.heap.size + 0 ≤ w26.heap.size by have h9 := hb26.size; (try simp only [World.size_alloc, World.size_setCell, World.size_drew] at h9); omega)
                  have Z26 := Lib.hid (And.intro Z25.out <| And.intro Qq25.out <| And.intro Qw25.out S26.out)
                  have NC := Lib.hid (C.out.on hb26)
                  have NX := Lib.hid (X.out.on hb26)
                  have NY := Lib.hid (Y.out.on hb26)
                  have NR := Lib.hid (R.out.on hb26)
                  have NQ := Lib.hid (Q.out.on hb26)
                  have NL := Lib.hid (L.out.on hb26)
                  have NT5 := Lib.hid (T5.out.on hb26)
                  have NA14 := Lib.hid (A14.out.on hb26)
                  have NA15 := Lib.hid (A15.out.on hb26)
                  have NA16 := Lib.hid (A16.out.on hb26)
                  have NK := Lib.hid (K.out.on hb26)
                  have NA17 := Lib.hid (A17.out.on hb26)
                  have C := NC; clear NC
                  have X := NX; clear NX
                  have Y := NY; clear NY
                  have R := NR; clear NR
                  have Q := NQ; clear NQ
                  have L := NL; clear NL
                  have T5 := NT5; clear NT5
                  have A14 := NA14; clear NA14
                  have A15 := NA15; clear NA15
                  have A16 := NA16; clear NA16
                  have K := NK; clear NK
                  have A17 := NA17; clear NA17
                  have Hb26 := Lib.hid (bthen Hb25.out hb26)
                  clear hb26
                  have qR0 : w26.cell? ⟨w.heap.size + 1 + 1 + 1, 0, none⟩ = some (.int .i64 0) := R.out.cell 0
                  have qR1 : w26.cell? ⟨w.heap.size + 1 + 1 + 1, 1, none⟩ = some (.int .i64 0) := R.out.cell 1
                  have qRl := R.out.lt
                  have qRf0 := R.out.frozen 0
                  have qRf1 := R.out.frozen 1
                  have qQ0 : w26.cell? ⟨w.heap.size + 1 + 1 + 1 + 1, 0, none⟩ = some (.int .i64 0) := Q.out.cell 0
                  have qQ1 : w26.cell? ⟨w.heap.size + 1 + 1 + 1 + 1, 1, none⟩ = some (.int .i64 0) := Q.out.cell 1
                  have qQl := Q.out.lt
                  have qQf0 := Q.out.frozen 0
                  have qQf1 := Q.out.frozen 1
                  have nQR : w.heap.size + 1 + 1 + 1 + 1 ≠ w.heap.size + 1 + 1 + 1 := by have := Z26.out; (try simp only [World.size_alloc, World.size_setCell, World.size_drew]); omega
                  have nRQ : w.heap.size + 1 + 1 + 1 ≠ w.heap.size + 1 + 1 + 1 + 1 := fun e => nQR e.symm
                  go_wp2
                  clear qR0 qR1 qRl qRf0 qRf1 qQ0 qQ1 qQl qQf0 qQf1 nQR nRQ
                  have R9R := (show Blk (World.setCell (World.setCell (World.setCell (World.setCell w26 ⟨w.heap.size + 1 + 1 + 1, 0, none⟩ (.int .i64 0)) ⟨w.heap.size + 1 + 1 + 1, 1, none⟩ (.int .i64 0)) ⟨w.heap.size + 1 + 1 + 1 + 1, 0, none⟩ (.int .i64 0)) ⟨w.heap.size + 1 + 1 + 1 + 1, 1, none⟩ (.int .i64 0)) (w.heap.size + 1 + 1 + 1) 42 #[.int .i64 0, .int .i64 0] by have h9 := ((((R.out.set 0 (.int .i64 0)).set 1 (.int .i64 0)).far (p := ⟨w.heap.size + 1 + 1 + 1 + 1, 0, none⟩) (show w.heap.size + 1 + 1 + 1 ≠ w.heap.size + 1 + 1 + 1 + 1 by have := Z26.out; (try simp only [World.size_alloc, World.size_setCell, World.size_drew]); omega) (.int .i64 0)).far (p := ⟨w.heap.size + 1 + 1 + 1 + 1, 1, none⟩) (show w.heap.size + 1 + 1 + 1 ≠ w.heap.size + 1 + 1 + 1 + 1 by have := Z26.out; (try simp only [World.size_alloc, World.size_setCell, World.size_drew]); omega) (.int .i64 0)); simpa using h9)
                  have kR0 := R9R.cell 0
                  have kR1 := R9R.cell 1
                  have R9Q := (show Blk (World.setCell (World.setCell (World.setCell (World.setCell w26 ⟨w.heap.size + 1 + 1 + 1, 0, none⟩ (.int .i64 0)) ⟨w.heap.size + 1 + 1 + 1, 1, none⟩ (.int .i64 0)) ⟨w.heap.size + 1 + 1 + 1 + 1, 0, none⟩ (.int .i64 0)) ⟨w.heap.size + 1 + 1 + 1 + 1, 1, none⟩ (.int .i64 0)) (w.heap.size + 1 + 1 + 1 + 1) 42 #[.int .i64 0, .int .i64 0] by have h9 := ((((Q.out.far (p := ⟨w.heap.size + 1 + 1 + 1, 0, none⟩) (show w.heap.size + 1 + 1 + 1 + 1 ≠ w.heap.size + 1 + 1 + 1 by have := Z26.out; (try simp only [World.size_alloc, World.size_setCell, World.size_drew]); omega) (.int .i64 0)).far (p := ⟨w.heap.size + 1 + 1 + 1, 1, none⟩) (show w.heap.size + 1 + 1 + 1 + 1 ≠ w.heap.size + 1 + 1 + 1 by have := Z26.out; (try simp only [World.size_alloc, World.size_setCell, World.size_drew]); omega) (.int .i64 0)).set 0 (.int .i64 0)).set 1 (.int .i64 0)); simpa using h9)
                  have kQ0 := R9Q.cell 0
                  have kQ1 := R9Q.cell 1
                  simp at kR0 kR1 kQ0 kQ1
                  exact bodyPost_ret (v := .tuple #[.agg #[.int .i64 0, .int .i64 0], .agg #[.int .i64 0, .int .i64 0], .bool false]) (by simp [results, Tryz.results19, go_sem, kR0, kR1, kQ0, kQ1]) rfl ⟨by rw [show carV a b e (x1, x2) (y1, y2) = none from by rw [Hin.out, Hcr.out]; rfl]; rfl, (bst (bst (bst (bst Hb26.out (p := ⟨w.heap.size + 1 + 1 + 1, 0, none⟩) (show w.heap.size ≤ w.heap.size + 1 + 1 + 1 by have := Z26.out; (try simp only [World.size_alloc, World.size_setCell, World.size_drew]); omega) (.int .i64 0)) (p := ⟨w.heap.size + 1 + 1 + 1, 1, none⟩) (show w.heap.size ≤ w.heap.size + 1 + 1 + 1 by have := Z26.out; (try simp only [World.size_alloc, World.size_setCell, World.size_drew]); omega) (.int .i64 0)) (p := ⟨w.heap.size + 1 + 1 + 1 + 1, 0, none⟩) (show w.heap.size ≤ w.heap.size + 1 + 1 + 1 + 1 by have := Z26.out; (try simp only [World.size_alloc, World.size_setCell, World.size_drew]); omega) (.int .i64 0)) (p := ⟨w.heap.size + 1 + 1 + 1 + 1, 1, none⟩) (show w.heap.size ≤ w.heap.size + 1 + 1 + 1 + 1 by have := Z26.out; (try simp only [World.size_alloc, World.size_setCell, World.size_drew]); omega) (.int .i64 0))⟩
                · have qA160 : w25.cell? ⟨w23.heap.size, 0, none⟩ = some (.int .i64 i1) := A16.out.cell 0
                  have qA161 : w25.cell? ⟨w23.heap.size, 1, none⟩ = some (.int .i64 i2) := A16.out.cell 1
                  have qA16l := A16.out.lt
                  have qA170 : w25.cell? ⟨q25, 0, none⟩ = some (.int .i64 v1) := A17.out.cell 0
                  have qA171 : w25.cell? ⟨q25, 1, none⟩ = some (.int .i64 v2) := A17.out.cell 1
                  have qA17l := A17.out.lt
                  go_wp2_with fail
                  clear qA160 qA161 qA16l qA170 qA171 qA17l
                  refine (pair_any _ true i1 i2 v1 v2 _ K.out).mono ?_; rintro e w27 ⟨rfl, hb27⟩
                  have S27 := Lib.hid (show w25.heap.size + 0 ≤ w27.heap.size by have h9 := hb27.size; (try simp only [World.size_alloc, World.size_setCell, World.size_drew] at h9); omega)
                  have Z27 := Lib.hid (And.intro Z25.out <| And.intro Qq25.out <| And.intro Qw25.out S27.out)
                  have NC := Lib.hid (C.out.on hb27)
                  have NX := Lib.hid (X.out.on hb27)
                  have NY := Lib.hid (Y.out.on hb27)
                  have NR := Lib.hid (R.out.on hb27)
                  have NQ := Lib.hid (Q.out.on hb27)
                  have NL := Lib.hid (L.out.on hb27)
                  have NT5 := Lib.hid (T5.out.on hb27)
                  have NA14 := Lib.hid (A14.out.on hb27)
                  have NA15 := Lib.hid (A15.out.on hb27)
                  have NA16 := Lib.hid (A16.out.on hb27)
                  have NK := Lib.hid (K.out.on hb27)
                  have NA17 := Lib.hid (A17.out.on hb27)
                  have C := NC; clear NC
                  have X := NX; clear NX
                  have Y := NY; clear NY
                  have R := NR; clear NR
                  have Q := NQ; clear NQ
                  have L := NL; clear NL
                  have T5 := NT5; clear NT5
                  have A14 := NA14; clear NA14
                  have A15 := NA15; clear NA15
                  have A16 := NA16; clear NA16
                  have K := NK; clear NK
                  have A17 := NA17; clear NA17
                  have Hb27 := Lib.hid (bthen Hb25.out hb27)
                  clear hb27
                  have qR0 : w27.cell? ⟨w.heap.size + 1 + 1 + 1, 0, none⟩ = some (.int .i64 0) := R.out.cell 0
                  have qR1 : w27.cell? ⟨w.heap.size + 1 + 1 + 1, 1, none⟩ = some (.int .i64 0) := R.out.cell 1
                  have qRl := R.out.lt
                  have qRf0 := R.out.frozen 0
                  have qRf1 := R.out.frozen 1
                  have qQ0 : w27.cell? ⟨w.heap.size + 1 + 1 + 1 + 1, 0, none⟩ = some (.int .i64 0) := Q.out.cell 0
                  have qQ1 : w27.cell? ⟨w.heap.size + 1 + 1 + 1 + 1, 1, none⟩ = some (.int .i64 0) := Q.out.cell 1
                  have qQl := Q.out.lt
                  have qQf0 := Q.out.frozen 0
                  have qQf1 := Q.out.frozen 1
                  have nQR : w.heap.size + 1 + 1 + 1 + 1 ≠ w.heap.size + 1 + 1 + 1 := by have := Z27.out; (try simp only [World.size_alloc, World.size_setCell, World.size_drew]); omega
                  have nRQ : w.heap.size + 1 + 1 + 1 ≠ w.heap.size + 1 + 1 + 1 + 1 := fun e => nQR e.symm
                  go_wp2
                  clear qR0 qR1 qRl qRf0 qRf1 qQ0 qQ1 qQl qQf0 qQf1 nQR nRQ
                  have R9R := (show Blk (World.setCell (World.setCell (World.setCell (World.setCell w27 ⟨w.heap.size + 1 + 1 + 1, 0, none⟩ (.int .i64 i1)) ⟨w.heap.size + 1 + 1 + 1, 1, none⟩ (.int .i64 i2)) ⟨w.heap.size + 1 + 1 + 1 + 1, 0, none⟩ (.int .i64 v1)) ⟨w.heap.size + 1 + 1 + 1 + 1, 1, none⟩ (.int .i64 v2)) (w.heap.size + 1 + 1 + 1) 42 #[.int .i64 i1, .int .i64 i2] by have h9 := ((((R.out.set 0 (.int .i64 i1)).set 1 (.int .i64 i2)).far (p := ⟨w.heap.size + 1 + 1 + 1 + 1, 0, none⟩) (show w.heap.size + 1 + 1 + 1 ≠ w.heap.size + 1 + 1 + 1 + 1 by have := Z27.out; (try simp only [World.size_alloc, World.size_setCell, World.size_drew]); omega) (.int .i64 v1)).far (p := ⟨w.heap.size + 1 + 1 + 1 + 1, 1, none⟩) (show w.heap.size + 1 + 1 + 1 ≠ w.heap.size + 1 + 1 + 1 + 1 by have := Z27.out; (try simp only [World.size_alloc, World.size_setCell, World.size_drew]); omega) (.int .i64 v2)); simpa using h9)
                  have kR0 := R9R.cell 0
                  have kR1 := R9R.cell 1
                  have R9Q := (show Blk (World.setCell (World.setCell (World.setCell (World.setCell w27 ⟨w.heap.size + 1 + 1 + 1, 0, none⟩ (.int .i64 i1)) ⟨w.heap.size + 1 + 1 + 1, 1, none⟩ (.int .i64 i2)) ⟨w.heap.size + 1 + 1 + 1 + 1, 0, none⟩ (.int .i64 v1)) ⟨w.heap.size + 1 + 1 + 1 + 1, 1, none⟩ (.int .i64 v2)) (w.heap.size + 1 + 1 + 1 + 1) 42 #[.int .i64 v1, .int .i64 v2] by have h9 := ((((Q.out.far (p := ⟨w.heap.size + 1 + 1 + 1, 0, none⟩) (show w.heap.size + 1 + 1 + 1 + 1 ≠ w.heap.size + 1 + 1 + 1 by have := Z27.out; (try simp only [World.size_alloc, World.size_setCell, World.size_drew]); omega) (.int .i64 i1)).far (p := ⟨w.heap.size + 1 + 1 + 1, 1, none⟩) (show w.heap.size + 1 + 1 + 1 + 1 ≠ w.heap.size + 1 + 1 + 1 by have := Z27.out; (try simp only [World.size_alloc, World.size_setCell, World.size_drew]); omega) (.int .i64 i2)).set 0 (.int .i64 v1)).set 1 (.int .i64 v2)); simpa using h9)
                  have kQ0 := R9Q.cell 0
                  have kQ1 := R9Q.cell 1
                  simp at kR0 kR1 kQ0 kQ1
                  exact bodyPost_ret (v := .tuple #[.agg #[.int .i64 i1, .int .i64 i2], .agg #[.int .i64 v1, .int .i64 v2], .bool true]) (by simp [results, Tryz.results19, go_sem, kR0, kR1, kQ0, kQ1]) rfl ⟨by rw [show carV a b e (x1, x2) (y1, y2) = some ((i1, i2), (v1, v2)) from by rw [Hin.out, Hcr.out]; rfl]; rfl, (bst (bst (bst (bst Hb27.out (p := ⟨w.heap.size + 1 + 1 + 1, 0, none⟩) (show w.heap.size ≤ w.heap.size + 1 + 1 + 1 by have := Z27.out; (try simp only [World.size_alloc, World.size_setCell, World.size_drew]); omega) (.int .i64 i1)) (p := ⟨w.heap.size + 1 + 1 + 1, 1, none⟩) (show w.heap.size ≤ w.heap.size + 1 + 1 + 1 by have := Z27.out; (try simp only [World.size_alloc, World.size_setCell, World.size_drew]); omega) (.int .i64 i2)) (p := ⟨w.heap.size + 1 + 1 + 1 + 1, 0, none⟩) (show w.heap.size ≤ w.heap.size + 1 + 1 + 1 + 1 by have := Z27.out; (try simp only [World.size_alloc, World.size_setCell, World.size_drew]); omega) (.int .i64 v1)) (p := ⟨w.heap.size + 1 + 1 + 1 + 1, 1, none⟩) (show w.heap.size ≤ w.heap.size + 1 + 1 + 1 + 1 by have := Z27.out; (try simp only [World.size_alloc, World.size_setCell, World.size_drew]); omega) (.int .i64 v2))⟩
            · have Hof := Lib.hid (show onV a b (x1, x2) (y1, y2) = false by rw [Hon.out, decide_eq_false hlr]; rfl)
              have hl3 : ¬ (l1 = u1 ∧ l2 = u2) := fun h => hlr (by rw [h.1, h.2])
              clear hlr
              by_cases hl1 : l1 = u1
              · have hl4 : ¬ l2 = u2 := fun h => hl3 ⟨hl1, h⟩
                have hl11 : (l1 == u1) = true := by rw [hl1]; simp
                have hl12 : decide (l1 = u1) = true := decide_eq_true hl1
                have hl41 : (l2 == u2) = false := beq_eq_false_iff_ne.2 hl4
                have hl42 : decide (l2 = u2) = false := decide_eq_false hl4
                clear hl3 hl1
                have qK0 : w17.cell? ⟨w14.heap.size, 0, none⟩ = some (.bool true) := K.out.cell 0
                have qKl := K.out.lt
                have qL0 : w17.cell? ⟨w15.heap.size, 0, none⟩ = some (.int .i64 l1) := L.out.cell 0
                have qL1 : w17.cell? ⟨w15.heap.size, 1, none⟩ = some (.int .i64 l2) := L.out.cell 1
                have qLl := L.out.lt
                have qT50 : w17.cell? ⟨q17, 0, none⟩ = some (.int .i64 u1) := T5.out.cell 0
                have qT51 : w17.cell? ⟨q17, 1, none⟩ = some (.int .i64 u2) := T5.out.cell 1
                have qT5l := T5.out.lt
                have qX0 : w17.cell? ⟨w.heap.size + 1, 0, none⟩ = some (.int .i64 x1) := X.out.cell 0
                have qX1 : w17.cell? ⟨w.heap.size + 1, 1, none⟩ = some (.int .i64 x2) := X.out.cell 1
                have qXl := X.out.lt
                go_wp2_with fail
                refine wp_region_tame (by kernel_rfl) (by kernel_rfl) (fun T _ W hT => ?_)
                have hx := hT.cell
                repeat (go_big_quiet_step ((first | fail)))
                refine wpQuiet_nil ?_
                intro tt
                clear hx
                have hb28 := hT.below tt
                generalize W tt = w28 at hb28 ⊢
                clear hT
                clear qK0 qKl qL0 qL1 qLl qT50 qT51 qT5l qX0 qX1 qXl
                have S28 := Lib.hid (show w17.heap.size + 0 ≤ w28.heap.size by have h9 := hb28.size; (try simp only [World.size_alloc, World.size_setCell, World.size_drew] at h9); omega)
                have Z28 := Lib.hid (And.intro Z17.out <| And.intro Qq17.out <| And.intro Qw17.out S28.out)
                have NC := Lib.hid (C.out.on hb28)
                have NX := Lib.hid (X.out.on hb28)
                have NY := Lib.hid (Y.out.on hb28)
                have NR := Lib.hid (R.out.on hb28)
                have NQ := Lib.hid (Q.out.on hb28)
                have NL := Lib.hid (L.out.on hb28)
                have NK := Lib.hid (K.out.on hb28)
                have NT5 := Lib.hid (T5.out.on hb28)
                have C := NC; clear NC
                have X := NX; clear NX
                have Y := NY; clear NY
                have R := NR; clear NR
                have Q := NQ; clear NQ
                have L := NL; clear NL
                have K := NK; clear NK
                have T5 := NT5; clear NT5
                have Hb28 := Lib.hid (bthen Hb17.out hb28)
                clear hb28
                have qR0 : w28.cell? ⟨w.heap.size + 1 + 1 + 1, 0, none⟩ = some (.int .i64 0) := R.out.cell 0
                have qR1 : w28.cell? ⟨w.heap.size + 1 + 1 + 1, 1, none⟩ = some (.int .i64 0) := R.out.cell 1
                have qRl := R.out.lt
                have qRf0 := R.out.frozen 0
                have qRf1 := R.out.frozen 1
                have qQ0 : w28.cell? ⟨w.heap.size + 1 + 1 + 1 + 1, 0, none⟩ = some (.int .i64 0) := Q.out.cell 0
                have qQ1 : w28.cell? ⟨w.heap.size + 1 + 1 + 1 + 1, 1, none⟩ = some (.int .i64 0) := Q.out.cell 1
                have qQl := Q.out.lt
                have qQf0 := Q.out.frozen 0
                have qQf1 := Q.out.frozen 1
                have nQR : w.heap.size + 1 + 1 + 1 + 1 ≠ w.heap.size + 1 + 1 + 1 := by have := Z28.out; (try simp only [World.size_alloc, World.size_setCell, World.size_drew]); omega
                have nRQ : w.heap.size + 1 + 1 + 1 ≠ w.heap.size + 1 + 1 + 1 + 1 := fun e => nQR e.symm
                go_wp2
                clear qR0 qR1 qRl qRf0 qRf1 qQ0 qQ1 qQl qQf0 qQf1 nQR nRQ
                have R9R := (show Blk (World.setCell (World.setCell (World.setCell (World.setCell w28 ⟨w.heap.size + 1 + 1 + 1, 0, none⟩ (.int .i64 0)) ⟨w.heap.size + 1 + 1 + 1, 1, none⟩ (.int .i64 0)) ⟨w.heap.size + 1 + 1 + 1 + 1, 0, none⟩ (.int .i64 0)) ⟨w.heap.size + 1 + 1 + 1 + 1, 1, none⟩ (.int .i64 0)) (w.heap.size + 1 + 1 + 1) 42 #[.int .i64 0, .int .i64 0] by have h9 := ((((R.out.set 0 (.int .i64 0)).set 1 (.int .i64 0)).far (p := ⟨w.heap.size + 1 + 1 + 1 + 1, 0, none⟩) (show w.heap.size + 1 + 1 + 1 ≠ w.heap.size + 1 + 1 + 1 + 1 by have := Z28.out; (try simp only [World.size_alloc, World.size_setCell, World.size_drew]); omega) (.int .i64 0)).far (p := ⟨w.heap.size + 1 + 1 + 1 + 1, 1, none⟩) (show w.heap.size + 1 + 1 + 1 ≠ w.heap.size + 1 + 1 + 1 + 1 by have := Z28.out; (try simp only [World.size_alloc, World.size_setCell, World.size_drew]); omega) (.int .i64 0)); simpa using h9)
                have kR0 := R9R.cell 0
                have kR1 := R9R.cell 1
                have R9Q := (show Blk (World.setCell (World.setCell (World.setCell (World.setCell w28 ⟨w.heap.size + 1 + 1 + 1, 0, none⟩ (.int .i64 0)) ⟨w.heap.size + 1 + 1 + 1, 1, none⟩ (.int .i64 0)) ⟨w.heap.size + 1 + 1 + 1 + 1, 0, none⟩ (.int .i64 0)) ⟨w.heap.size + 1 + 1 + 1 + 1, 1, none⟩ (.int .i64 0)) (w.heap.size + 1 + 1 + 1 + 1) 42 #[.int .i64 0, .int .i64 0] by have h9 := ((((Q.out.far (p := ⟨w.heap.size + 1 + 1 + 1, 0, none⟩) (show w.heap.size + 1 + 1 + 1 + 1 ≠ w.heap.size + 1 + 1 + 1 by have := Z28.out; (try simp only [World.size_alloc, World.size_setCell, World.size_drew]); omega) (.int .i64 0)).far (p := ⟨w.heap.size + 1 + 1 + 1, 1, none⟩) (show w.heap.size + 1 + 1 + 1 + 1 ≠ w.heap.size + 1 + 1 + 1 by have := Z28.out; (try simp only [World.size_alloc, World.size_setCell, World.size_drew]); omega) (.int .i64 0)).set 0 (.int .i64 0)).set 1 (.int .i64 0)); simpa using h9)
                have kQ0 := R9Q.cell 0
                have kQ1 := R9Q.cell 1
                simp at kR0 kR1 kQ0 kQ1
                exact bodyPost_ret (v := .tuple #[.agg #[.int .i64 0, .int .i64 0], .agg #[.int .i64 0, .int .i64 0], .bool false]) (by simp [results, Tryz.results19, go_sem, kR0, kR1, kQ0, kQ1]) rfl ⟨by rw [show carV a b e (x1, x2) (y1, y2) = none from car_out (.inr (.inr (.inr Hof.out)))]; rfl, (bst (bst (bst (bst Hb28.out (p := ⟨w.heap.size + 1 + 1 + 1, 0, none⟩) (show w.heap.size ≤ w.heap.size + 1 + 1 + 1 by have := Z28.out; (try simp only [World.size_alloc, World.size_setCell, World.size_drew]); omega) (.int .i64 0)) (p := ⟨w.heap.size + 1 + 1 + 1, 1, none⟩) (show w.heap.size ≤ w.heap.size + 1 + 1 + 1 by have := Z28.out; (try simp only [World.size_alloc, World.size_setCell, World.size_drew]); omega) (.int .i64 0)) (p := ⟨w.heap.size + 1 + 1 + 1 + 1, 0, none⟩) (show w.heap.size ≤ w.heap.size + 1 + 1 + 1 + 1 by have := Z28.out; (try simp only [World.size_alloc, World.size_setCell, World.size_drew]); omega) (.int .i64 0)) (p := ⟨w.heap.size + 1 + 1 + 1 + 1, 1, none⟩) (show w.heap.size ≤ w.heap.size + 1 + 1 + 1 + 1 by have := Z28.out; (try simp only [World.size_alloc, World.size_setCell, World.size_drew]); omega) (.int .i64 0))⟩
              · have hl11 : (l1 == u1) = false := beq_eq_false_iff_ne.2 hl1
                have hl12 : decide (l1 = u1) = false := decide_eq_false hl1
                clear hl3
                have qK0 : w17.cell? ⟨w14.heap.size, 0, none⟩ = some (.bool true) := K.out.cell 0
                have qKl := K.out.lt
                have qL0 : w17.cell? ⟨w15.heap.size, 0, none⟩ = some (.int .i64 l1) := L.out.cell 0
                have qL1 : w17.cell? ⟨w15.heap.size, 1, none⟩ = some (.int .i64 l2) := L.out.cell 1
                have qLl := L.out.lt
                have qT50 : w17.cell? ⟨q17, 0, none⟩ = some (.int .i64 u1) := T5.out.cell 0
                have qT51 : w17.cell? ⟨q17, 1, none⟩ = some (.int .i64 u2) := T5.out.cell 1
                have qT5l := T5.out.lt
                have qX0 : w17.cell? ⟨w.heap.size + 1, 0, none⟩ = some (.int .i64 x1) := X.out.cell 0
                have qX1 : w17.cell? ⟨w.heap.size + 1, 1, none⟩ = some (.int .i64 x2) := X.out.cell 1
                have qXl := X.out.lt
                go_wp2_with fail
                refine wp_region_tame (by kernel_rfl) (by kernel_rfl) (fun T _ W hT => ?_)
                have hx := hT.cell
                repeat (go_big_quiet_step ((first | fail)))
                refine wpQuiet_nil ?_
                intro tt
                clear hx
                have hb29 := hT.below tt
                generalize W tt = w29 at hb29 ⊢
                clear hT
                clear qK0 qKl qL0 qL1 qLl qT50 qT51 qT5l qX0 qX1 qXl
                have S29 := Lib.hid (show w17.heap.size + 0 ≤ w29.heap.size by have h9 := hb29.size; (try simp only [World.size_alloc, World.size_setCell, World.size_drew] at h9); omega)
                have Z29 := Lib.hid (And.intro Z17.out <| And.intro Qq17.out <| And.intro Qw17.out S29.out)
                have NC := Lib.hid (C.out.on hb29)
                have NX := Lib.hid (X.out.on hb29)
                have NY := Lib.hid (Y.out.on hb29)
                have NR := Lib.hid (R.out.on hb29)
                have NQ := Lib.hid (Q.out.on hb29)
                have NL := Lib.hid (L.out.on hb29)
                have NK := Lib.hid (K.out.on hb29)
                have NT5 := Lib.hid (T5.out.on hb29)
                have C := NC; clear NC
                have X := NX; clear NX
                have Y := NY; clear NY
                have R := NR; clear NR
                have Q := NQ; clear NQ
                have L := NL; clear NL
                have K := NK; clear NK
                have T5 := NT5; clear NT5
                have Hb29 := Lib.hid (bthen Hb17.out hb29)
                clear hb29
                have qR0 : w29.cell? ⟨w.heap.size + 1 + 1 + 1, 0, none⟩ = some (.int .i64 0) := R.out.cell 0
                have qR1 : w29.cell? ⟨w.heap.size + 1 + 1 + 1, 1, none⟩ = some (.int .i64 0) := R.out.cell 1
                have qRl := R.out.lt
                have qRf0 := R.out.frozen 0
                have qRf1 := R.out.frozen 1
                have qQ0 : w29.cell? ⟨w.heap.size + 1 + 1 + 1 + 1, 0, none⟩ = some (.int .i64 0) := Q.out.cell 0
                have qQ1 : w29.cell? ⟨w.heap.size + 1 + 1 + 1 + 1, 1, none⟩ = some (.int .i64 0) := Q.out.cell 1
                have qQl := Q.out.lt
                have qQf0 := Q.out.frozen 0
                have qQf1 := Q.out.frozen 1
                have nQR : w.heap.size + 1 + 1 + 1 + 1 ≠ w.heap.size + 1 + 1 + 1 := by have := Z29.out; (try simp only [World.size_alloc, World.size_setCell, World.size_drew]); omega
                have nRQ : w.heap.size + 1 + 1 + 1 ≠ w.heap.size + 1 + 1 + 1 + 1 := fun e => nQR e.symm
                go_wp2
                clear qR0 qR1 qRl qRf0 qRf1 qQ0 qQ1 qQl qQf0 qQf1 nQR nRQ
                have R9R := (show Blk (World.setCell (World.setCell (World.setCell (World.setCell w29 ⟨w.heap.size + 1 + 1 + 1, 0, none⟩ (.int .i64 0)) ⟨w.heap.size + 1 + 1 + 1, 1, none⟩ (.int .i64 0)) ⟨w.heap.size + 1 + 1 + 1 + 1, 0, none⟩ (.int .i64 0)) ⟨w.heap.size + 1 + 1 + 1 + 1, 1, none⟩ (.int .i64 0)) (w.heap.size + 1 + 1 + 1) 42 #[.int .i64 0, .int .i64 0] by have h9 := ((((R.out.set 0 (.int .i64 0)).set 1 (.int .i64 0)).far (p := ⟨w.heap.size + 1 + 1 + 1 + 1, 0, none⟩) (show w.heap.size + 1 + 1 + 1 ≠ w.heap.size + 1 + 1 + 1 + 1 by have := Z29.out; (try simp only [World.size_alloc, World.size_setCell, World.size_drew]); omega) (.int .i64 0)).far (p := ⟨w.heap.size + 1 + 1 + 1 + 1, 1, none⟩) (show w.heap.size + 1 + 1 + 1 ≠ w.heap.size + 1 + 1 + 1 + 1 by have := Z29.out; (try simp only [World.size_alloc, World.size_setCell, World.size_drew]); omega) (.int .i64 0)); simpa using h9)
                have kR0 := R9R.cell 0
                have kR1 := R9R.cell 1
                have R9Q := (show Blk (World.setCell (World.setCell (World.setCell (World.setCell w29 ⟨w.heap.size + 1 + 1 + 1, 0, none⟩ (.int .i64 0)) ⟨w.heap.size + 1 + 1 + 1, 1, none⟩ (.int .i64 0)) ⟨w.heap.size + 1 + 1 + 1 + 1, 0, none⟩ (.int .i64 0)) ⟨w.heap.size + 1 + 1 + 1 + 1, 1, none⟩ (.int .i64 0)) (w.heap.size + 1 + 1 + 1 + 1) 42 #[.int .i64 0, .int .i64 0] by have h9 := ((((Q.out.far (p := ⟨w.heap.size + 1 + 1 + 1, 0, none⟩) (show w.heap.size + 1 + 1 + 1 + 1 ≠ w.heap.size + 1 + 1 + 1 by have := Z29.out; (try simp only [World.size_alloc, World.size_setCell, World.size_drew]); omega) (.int .i64 0)).far (p := ⟨w.heap.size + 1 + 1 + 1, 1, none⟩) (show w.heap.size + 1 + 1 + 1 + 1 ≠ w.heap.size + 1 + 1 + 1 by have := Z29.out; (try simp only [World.size_alloc, World.size_setCell, World.size_drew]); omega) (.int .i64 0)).set 0 (.int .i64 0)).set 1 (.int .i64 0)); simpa using h9)
                have kQ0 := R9Q.cell 0
                have kQ1 := R9Q.cell 1
                simp at kR0 kR1 kQ0 kQ1
                exact bodyPost_ret (v := .tuple #[.agg #[.int .i64 0, .int .i64 0], .agg #[.int .i64 0, .int .i64 0], .bool false]) (by simp [results, Tryz.results19, go_sem, kR0, kR1, kQ0, kQ1]) rfl ⟨by rw [show carV a b e (x1, x2) (y1, y2) = none from car_out (.inr (.inr (.inr Hof.out)))]; rfl, (bst (bst (bst (bst Hb29.out (p := ⟨w.heap.size + 1 + 1 + 1, 0, none⟩) (show w.heap.size ≤ w.heap.size + 1 + 1 + 1 by have := Z29.out; (try simp only [World.size_alloc, World.size_setCell, World.size_drew]); omega) (.int .i64 0)) (p := ⟨w.heap.size + 1 + 1 + 1, 1, none⟩) (show w.heap.size ≤ w.heap.size + 1 + 1 + 1 by have := Z29.out; (try simp only [World.size_alloc, World.size_setCell, World.size_drew]); omega) (.int .i64 0)) (p := ⟨w.heap.size + 1 + 1 + 1 + 1, 0, none⟩) (show w.heap.size ≤ w.heap.size + 1 + 1 + 1 + 1 by have := Z29.out; (try simp only [World.size_alloc, World.size_setCell, World.size_drew]); omega) (.int .i64 0)) (p := ⟨w.heap.size + 1 + 1 + 1 + 1, 1, none⟩) (show w.heap.size ≤ w.heap.size + 1 + 1 + 1 + 1 by have := Z29.out; (try simp only [World.size_alloc, World.size_setCell, World.size_drew]); omega) (.int .i64 0))⟩
end
end Go.Proofs.YtacehhcpfollnaaGreat
