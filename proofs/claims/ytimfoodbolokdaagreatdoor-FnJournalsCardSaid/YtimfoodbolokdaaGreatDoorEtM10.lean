/- Own texts put together: The reference's source of drawn curves and entries; Rows of ints of a call's own, whatever the ints: kept, written, read, appended to; they are the cells of some list; The reference's source of drawn catalogues; The code's bytes, the fresh cursor, a row's cells as a source; The reference's source: a string of a list, a string spoilt. Conditions: those of each theorem. -/
import Derived.Test.YtimfoodbolokdaaGreatDoorEtM9
import Derived.Test.YtimfoodbolokdaaGreatDoorEtM4
import Derived.Test.YtimfoodbolokdaaGreatDoorEtM7
import Derived.Test.YtimfoodbolokdaaGreatDoorEtM6
import Derived.Deep.DeepCutAuto
namespace Go.Proofs.YtimfoodbolokdaaGreatDoor
section
open Go Go.RowKit

theorem among_lit (g k b : Nat) (es : List Int) (w : World) (hb : b = w.heap.size) (hc : Cur w g k) (hne : es ≠ []) (hl : es.length ≤ 1000) (hk : k ≤ 900000) :
    Calls Tryz.prog 108 #[.pointer (some ⟨g, 0, none⟩), .slice (some ⟨b, 0, none⟩) es.length es.length] (w.alloc (Obj.cells (es.map (Value.int .i64)).toArray 3)) fun e w' => (∃ y : Int, y ∈ es ∧ e = .returned (.int .i64 y)) ∧ Cur w' g (k + 2) ∧ Dg g (w.alloc (Obj.cells (es.map (Value.int .i64)).toArray 3)) w' := by
  subst hb
  have hl2 := hc.lt
  refine among_any g k _ es _ (hc.alloc _) (rdI w 3 es hl) hne (fun A n c e => ?_) hk
  injection e with e1 e2 e3
  injection e1 with e1
  subst e1
  show w.heap.size ≠ g
  omega
theorem ag2 {es : List Int} {x : Int} (h : x ∈ es) {lo hi : Int} (hall : ∀ y ∈ es, lo ≤ y ∧ y ≤ hi) : lo ≤ x ∧ x ≤ hi := hall x h
theorem own_st {w : World} {base : Nat} {e : TypeId} {size n : Nat} {v : Value} {xs : List Value} (h : w.ownsRow base e size v n xs) {p : Addr} (hp : ∀ k, v.ownBlock = some k → k ≠ p.block) (u : Value) : (w.setCell p u).ownsRow base e size v n xs := by
  refine World.ownsRow.kept (row := some p.block) h ⟨rfl, rfl, rfl, by rw [World.size_setCell]; exact Nat.le_refl _, fun i hi hne => Below.heap_setCell w p u i (fun e => hne (by rw [e]))⟩ ?_
  cases hv : v.ownBlock with
  | none => exact .inl rfl
  | some k => exact .inr (fun e => hp k hv (by injection e))

set_option linter.unusedSimpArgs false in
set_option maxRecDepth 8000 in
set_option maxHeartbeats 8000000 in
theorem smallCurve_any (g k : Nat) (w : World) (hc : Cur w g k) (hk : k ≤ 800000) :
    Calls Tryz.prog 205 #[.pointer (some ⟨g, 0, none⟩)] w fun e w' => (∃ a b : Int, e = .returned (.agg #[.int .i64 a, .int .i64 b])) ∧ Cur w' g (k + 4) ∧ Dg g w w' := by
  have Hgl := Lib.hid hc.lt
  have Hc := Lib.hid hc; have Hk := Lib.hid hk; have Hd := Lib.hid (Dg.refl g w); clear hc hk
  go_enter Tryz.func205, Tryz.ntmps205
  go_wp2_with fail
  refine (among_lit g k (w.heap.size + 1) [-16, -2, -1, 0, 1] (World.alloc w (Obj.cells #[.int .i64 0, .int .i64 0] 25)) (by simp) (Hc.out.alloc _) (by simp) (by simp) (by have := Hk.out; omega)).mono ?_; rintro e w1 ⟨⟨a, ha, rfl⟩, hc1, hd1⟩
  have S1 := Lib.hid (show w.heap.size + 2 ≤ w1.heap.size by have h9 := hd1.size; (try simp only [World.size_alloc, World.size_setCell] at h9); omega)
  have NR := Lib.hid (((Blk.new w 25 #[.int .i64 0, .int .i64 0]).alloc _).dg hd1 (show w.heap.size ≠ g by have := Hgl.out; have := S1.out; omega))
  have R := NR; clear NR
  have Hc1 := Lib.hid (hc1.mono (j := k + 2) (by omega))
  have Hd1 := Lib.hid (((Hd.out.alloc _).alloc _).trans hd1)
  clear hc1 hd1
  go_wp2_with fail
  refine (among_lit g (k + 2) (w1.heap.size) [16, 1, 17, -7] w1 (by simp) Hc1.out (by simp) (by simp) (by have := Hk.out; omega)).mono ?_; rintro e w2 ⟨⟨b, hb, rfl⟩, hc2, hd2⟩
  have S2 := Lib.hid (show w1.heap.size + 1 ≤ w2.heap.size by have h9 := hd2.size; (try simp only [World.size_alloc, World.size_setCell] at h9); omega)
  have NR := Lib.hid ((R.out.alloc _).dg hd2 (show w.heap.size ≠ g by have := Hgl.out; have := S1.out; have := S2.out; omega))
  have R := NR; clear NR
  have Hc2 := Lib.hid (hc2.mono (j := k + 4) (by omega))
  have Hd2 := Lib.hid ((Hd1.out.alloc _).trans hd2)
  clear hc2 hd2
  have qR0 := R.out.cell 0
  have qR1 := R.out.cell 1
  simp at qR0 qR1
  have qRl := R.out.lt
  have qRf := R.out.frozen
  go_wp2
  clear qR0 qR1 qRl qRf
  have HR9 := (show Blk (World.setCell (World.setCell w2 ⟨w.heap.size, 0, none⟩ (.int .i64 a)) ⟨w.heap.size, 1, none⟩ (.int .i64 b)) (w.heap.size) 25 #[.int .i64 a, .int .i64 b] by have h9 := ((R.out.set 0 (.int .i64 a)).set 1 (.int .i64 b)); simpa using h9)
  have k0 := HR9.cell 0
  have k1 := HR9.cell 1
  simp at k0 k1
  exact bodyPost_ret (v := .agg #[.int .i64 a, .int .i64 b]) (by simp [results, Tryz.results205, go_sem, k0, k1]) rfl ⟨⟨a, b, rfl⟩, ((Hc2.out.st (p := ⟨w.heap.size, 0, none⟩) (show g < w.heap.size by have := Hgl.out; have := S1.out; have := S2.out; omega) (.int .i64 a)).st (p := ⟨w.heap.size, 1, none⟩) (show g < w.heap.size by have := Hgl.out; have := S1.out; have := S2.out; omega) (.int .i64 b)).mono (by omega), ((Hd2.out.st (p := ⟨w.heap.size, 0, none⟩) (show w.heap.size ≤ w.heap.size by have := Hgl.out; have := S1.out; have := S2.out; omega) (.int .i64 a)).st (p := ⟨w.heap.size, 1, none⟩) (show w.heap.size ≤ w.heap.size by have := Hgl.out; have := S1.out; have := S2.out; omega) (.int .i64 b))⟩
set_option linter.unusedSimpArgs false in
set_option maxRecDepth 8000 in
set_option maxHeartbeats 8000000 in
theorem entry_any (g k : Nat) (w : World) (hc : Cur w g k) (hk : k ≤ 700000) :
    Calls Tryz.prog 158 #[.pointer (some ⟨g, 0, none⟩)] w fun e w' => (∃ a b lo hi t : Int, 0 ≤ lo ∧ lo ≤ 2 ∧ 0 ≤ hi ∧ hi ≤ 20 ∧ e = .returned (.agg #[.int .i64 a, .int .i64 b, .int .i64 lo, .int .i64 hi, .int .i64 t])) ∧ Cur w' g (k + 14) ∧ Dg g w w' := by
  have Hgl := Lib.hid hc.lt
  have Hc := Lib.hid hc; have Hk := Lib.hid hk; have Hd := Lib.hid (Dg.refl g w); clear hc hk
  go_enter Tryz.func158, Tryz.ntmps158
  go_wp2_with fail
  refine (among_lit g k (w.heap.size + 1) [0, 0, 1, 2] (World.alloc w (Obj.cells #[.int .i64 0, .int .i64 0, .int .i64 0, .int .i64 0, .int .i64 0] 29)) (by simp) (Hc.out.alloc _) (by simp) (by simp) (by have := Hk.out; omega)).mono ?_; rintro e w1 ⟨⟨lo, hlo, rfl⟩, hc1, hd1⟩
  have S1 := Lib.hid (show w.heap.size + 2 ≤ w1.heap.size by have h9 := hd1.size; (try simp only [World.size_alloc, World.size_setCell] at h9); omega)
  have NR := Lib.hid (((Blk.new w 29 #[.int .i64 0, .int .i64 0, .int .i64 0, .int .i64 0, .int .i64 0]).alloc _).dg hd1 (show w.heap.size ≠ g by have := Hgl.out; have := S1.out; omega))
  have R := NR; clear NR
  have Hc1 := Lib.hid (hc1.mono (j := k + 2) (by omega))
  have Hd1 := Lib.hid (((Hd.out.alloc _).alloc _).trans hd1)
  clear hc1 hd1
  have Blo := Lib.hid (ag2 hlo (lo := 0) (hi := 2) (by simp))
  go_wp2_with fail
  refine (smallCurve_any g (k + 2) _ Hc1.out (by have := Hk.out; omega)).mono ?_; rintro e w2 ⟨⟨a, b, rfl⟩, hc2, hd2⟩
  have S2 := Lib.hid (show w1.heap.size + 0 ≤ w2.heap.size by have h9 := hd2.size; (try simp only [World.size_alloc, World.size_setCell] at h9); omega)
  have NR := Lib.hid (R.out.dg hd2 (show w.heap.size ≠ g by have := Hgl.out; have := S1.out; have := S2.out; omega))
  have R := NR; clear NR
  have Hc2 := Lib.hid (hc2.mono (j := k + 6) (by omega))
  have Hd2 := Lib.hid (Hd1.out.trans hd2)
  clear hc2 hd2
  go_wp2_with fail
  refine (among_lit g (k + 6) (w2.heap.size) [0, 1, 2] w2 (by simp) Hc2.out (by simp) (by simp) (by have := Hk.out; omega)).mono ?_; rintro e w3 ⟨⟨p, hp, rfl⟩, hc3, hd3⟩
  have S3 := Lib.hid (show w2.heap.size + 1 ≤ w3.heap.size by have h9 := hd3.size; (try simp only [World.size_alloc, World.size_setCell] at h9); omega)
  have NR := Lib.hid ((R.out.alloc _).dg hd3 (show w.heap.size ≠ g by have := Hgl.out; have := S1.out; have := S2.out; have := S3.out; omega))
  have R := NR; clear NR
  have Hc3 := Lib.hid (hc3.mono (j := k + 8) (by omega))
  have Hd3 := Lib.hid ((Hd2.out.alloc _).trans hd3)
  clear hc3 hd3
  have Bp := Lib.hid (ag2 hp (lo := 0) (hi := 2) (by simp))
  have hsum : 0 ≤ lo + p ∧ lo + p ≤ 4 := by have := Blo.out; have := Bp.out; omega
  obtain ⟨hs0, hs1⟩ := hsum
  go_wp2_with fail
  refine (among_lit g (k + 8) (w3.heap.size) [0, 0, 1, 2, 16] w3 (by simp) Hc3.out (by simp) (by simp) (by have := Hk.out; omega)).mono ?_; rintro e w4 ⟨⟨t, ht, rfl⟩, hc4, hd4⟩
  have S4 := Lib.hid (show w3.heap.size + 1 ≤ w4.heap.size by have h9 := hd4.size; (try simp only [World.size_alloc, World.size_setCell] at h9); omega)
  have NR := Lib.hid ((R.out.alloc _).dg hd4 (show w.heap.size ≠ g by have := Hgl.out; have := S1.out; have := S2.out; have := S3.out; have := S4.out; omega))
  have R := NR; clear NR
  have Hc4 := Lib.hid (hc4.mono (j := k + 10) (by omega))
  have Hd4 := Lib.hid ((Hd3.out.alloc _).trans hd4)
  clear hc4 hd4
  go_wp2_with fail
  refine (one_any g (k + 10) (12) _ (Hc4.out.alloc _) (by have := Hk.out; omega)).mono ?_; rintro e w5 ⟨⟨c, rfl⟩, hc5, hd5⟩
  have S5 := Lib.hid (show w4.heap.size + 1 ≤ w5.heap.size by have h9 := hd5.size; (try simp only [World.size_alloc, World.size_setCell] at h9); omega)
  have NR := Lib.hid ((R.out.alloc _).dg hd5 (show w.heap.size ≠ g by have := Hgl.out; have := S1.out; have := S2.out; have := S3.out; have := S4.out; have := S5.out; omega))
  have NE := Lib.hid ((Blk.new w4 29 #[.int .i64 a, .int .i64 b, .int .i64 lo, .int .i64 (lo + p), .int .i64 t]).dg hd5 (show w4.heap.size ≠ g by have := Hgl.out; have := S1.out; have := S2.out; have := S3.out; have := S4.out; have := S5.out; omega))
  have R := NR; clear NR
  have E := NE; clear NE
  have Hc5 := Lib.hid (hc5.mono (j := k + 12) (by omega))
  have Hd5 := Lib.hid ((Hd4.out.alloc _).trans hd5)
  clear hc5 hd5
  cases c
  · have qE0 := E.out.cell 0
    have qE1 := E.out.cell 1
    have qE2 := E.out.cell 2
    have qE3 := E.out.cell 3
    have qE4 := E.out.cell 4
    simp at qE0 qE1 qE2 qE3 qE4
    have qEl := E.out.lt
    have qR0 := R.out.cell 0
    have qR1 := R.out.cell 1
    have qR2 := R.out.cell 2
    have qR3 := R.out.cell 3
    have qR4 := R.out.cell 4
    simp at qR0 qR1 qR2 qR3 qR4
    have qRl := R.out.lt
    have qRf := R.out.frozen
    have nER : w4.heap.size ≠ w.heap.size := by have := Hgl.out; have := S1.out; have := S2.out; have := S3.out; have := S4.out; have := S5.out; omega
    have nRE : w.heap.size ≠ w4.heap.size := fun e => nER e.symm
    go_wp2
    clear qE0 qE1 qE2 qE3 qE4 qEl qR0 qR1 qR2 qR3 qR4 qRl qRf nER nRE
    have HR9 := (show Blk (World.setCell (World.setCell (World.setCell (World.setCell (World.setCell w5 ⟨w.heap.size, 0, none⟩ (.int .i64 a)) ⟨w.heap.size, 1, none⟩ (.int .i64 b)) ⟨w.heap.size, 2, none⟩ (.int .i64 lo)) ⟨w.heap.size, 3, none⟩ (.int .i64 (lo + p))) ⟨w.heap.size, 4, none⟩ (.int .i64 t)) (w.heap.size) 29 #[.int .i64 a, .int .i64 b, .int .i64 lo, .int .i64 (lo + p), .int .i64 t] by have h9 := (((((R.out.set 0 (.int .i64 a)).set 1 (.int .i64 b)).set 2 (.int .i64 lo)).set 3 (.int .i64 (lo + p))).set 4 (.int .i64 t)); simpa using h9)
    have k0 := HR9.cell 0
    have k1 := HR9.cell 1
    have k2 := HR9.cell 2
    have k3 := HR9.cell 3
    have k4 := HR9.cell 4
    simp at k0 k1 k2 k3 k4
    exact bodyPost_ret (v := .agg #[.int .i64 a, .int .i64 b, .int .i64 lo, .int .i64 (lo + p), .int .i64 t]) (by simp [results, Tryz.results158, go_sem, k0, k1, k2, k3, k4]) rfl ⟨⟨a, b, lo, lo + p, t, Blo.out.1, Blo.out.2, hs0, by omega, rfl⟩, (((((Hc5.out.st (p := ⟨w.heap.size, 0, none⟩) (show g < w.heap.size by have := Hgl.out; have := S1.out; have := S2.out; have := S3.out; have := S4.out; have := S5.out; omega) (.int .i64 a)).st (p := ⟨w.heap.size, 1, none⟩) (show g < w.heap.size by have := Hgl.out; have := S1.out; have := S2.out; have := S3.out; have := S4.out; have := S5.out; omega) (.int .i64 b)).st (p := ⟨w.heap.size, 2, none⟩) (show g < w.heap.size by have := Hgl.out; have := S1.out; have := S2.out; have := S3.out; have := S4.out; have := S5.out; omega) (.int .i64 lo)).st (p := ⟨w.heap.size, 3, none⟩) (show g < w.heap.size by have := Hgl.out; have := S1.out; have := S2.out; have := S3.out; have := S4.out; have := S5.out; omega) (.int .i64 (lo + p))).st (p := ⟨w.heap.size, 4, none⟩) (show g < w.heap.size by have := Hgl.out; have := S1.out; have := S2.out; have := S3.out; have := S4.out; have := S5.out; omega) (.int .i64 t)).mono (by omega), (((((Hd5.out.st (p := ⟨w.heap.size, 0, none⟩) (show w.heap.size ≤ w.heap.size by have := Hgl.out; have := S1.out; have := S2.out; have := S3.out; have := S4.out; have := S5.out; omega) (.int .i64 a)).st (p := ⟨w.heap.size, 1, none⟩) (show w.heap.size ≤ w.heap.size by have := Hgl.out; have := S1.out; have := S2.out; have := S3.out; have := S4.out; have := S5.out; omega) (.int .i64 b)).st (p := ⟨w.heap.size, 2, none⟩) (show w.heap.size ≤ w.heap.size by have := Hgl.out; have := S1.out; have := S2.out; have := S3.out; have := S4.out; have := S5.out; omega) (.int .i64 lo)).st (p := ⟨w.heap.size, 3, none⟩) (show w.heap.size ≤ w.heap.size by have := Hgl.out; have := S1.out; have := S2.out; have := S3.out; have := S4.out; have := S5.out; omega) (.int .i64 (lo + p))).st (p := ⟨w.heap.size, 4, none⟩) (show w.heap.size ≤ w.heap.size by have := Hgl.out; have := S1.out; have := S2.out; have := S3.out; have := S4.out; have := S5.out; omega) (.int .i64 t))⟩
  · have qE0 := E.out.cell 0
    have qE1 := E.out.cell 1
    have qE2 := E.out.cell 2
    have qE3 := E.out.cell 3
    have qE4 := E.out.cell 4
    simp at qE0 qE1 qE2 qE3 qE4
    have qEl := E.out.lt
    have qEf := E.out.frozen
    have qR0 := R.out.cell 0
    have qR1 := R.out.cell 1
    have qR2 := R.out.cell 2
    have qR3 := R.out.cell 3
    have qR4 := R.out.cell 4
    simp at qR0 qR1 qR2 qR3 qR4
    have qRl := R.out.lt
    have qRf := R.out.frozen
    have nER : w4.heap.size ≠ w.heap.size := by have := Hgl.out; have := S1.out; have := S2.out; have := S3.out; have := S4.out; have := S5.out; omega
    have nRE : w.heap.size ≠ w4.heap.size := fun e => nER e.symm
    go_wp2
    clear qE0 qE1 qE2 qE3 qE4 qEl qEf qR0 qR1 qR2 qR3 qR4 qRl qRf nER nRE
    have HR9 := (show Blk (World.setCell (World.setCell (World.setCell (World.setCell (World.setCell (World.setCell w5 ⟨w4.heap.size, 3, none⟩ (.int .i64 20)) ⟨w.heap.size, 0, none⟩ (.int .i64 a)) ⟨w.heap.size, 1, none⟩ (.int .i64 b)) ⟨w.heap.size, 2, none⟩ (.int .i64 lo)) ⟨w.heap.size, 3, none⟩ (.int .i64 20)) ⟨w.heap.size, 4, none⟩ (.int .i64 t)) (w.heap.size) 29 #[.int .i64 a, .int .i64 b, .int .i64 lo, .int .i64 20, .int .i64 t] by have h9 := ((((((R.out.far (p := ⟨w4.heap.size, 3, none⟩) (show w.heap.size ≠ w4.heap.size by have := Hgl.out; have := S1.out; have := S2.out; have := S3.out; have := S4.out; have := S5.out; omega) (.int .i64 20)).set 0 (.int .i64 a)).set 1 (.int .i64 b)).set 2 (.int .i64 lo)).set 3 (.int .i64 20)).set 4 (.int .i64 t)); simpa using h9)
    have k0 := HR9.cell 0
    have k1 := HR9.cell 1
    have k2 := HR9.cell 2
    have k3 := HR9.cell 3
    have k4 := HR9.cell 4
    simp at k0 k1 k2 k3 k4
    exact bodyPost_ret (v := .agg #[.int .i64 a, .int .i64 b, .int .i64 lo, .int .i64 20, .int .i64 t]) (by simp [results, Tryz.results158, go_sem, k0, k1, k2, k3, k4]) rfl ⟨⟨a, b, lo, 20, t, Blo.out.1, Blo.out.2, by omega, by omega, rfl⟩, ((((((Hc5.out.st (p := ⟨w4.heap.size, 3, none⟩) (show g < w4.heap.size by have := Hgl.out; have := S1.out; have := S2.out; have := S3.out; have := S4.out; have := S5.out; omega) (.int .i64 20)).st (p := ⟨w.heap.size, 0, none⟩) (show g < w.heap.size by have := Hgl.out; have := S1.out; have := S2.out; have := S3.out; have := S4.out; have := S5.out; omega) (.int .i64 a)).st (p := ⟨w.heap.size, 1, none⟩) (show g < w.heap.size by have := Hgl.out; have := S1.out; have := S2.out; have := S3.out; have := S4.out; have := S5.out; omega) (.int .i64 b)).st (p := ⟨w.heap.size, 2, none⟩) (show g < w.heap.size by have := Hgl.out; have := S1.out; have := S2.out; have := S3.out; have := S4.out; have := S5.out; omega) (.int .i64 lo)).st (p := ⟨w.heap.size, 3, none⟩) (show g < w.heap.size by have := Hgl.out; have := S1.out; have := S2.out; have := S3.out; have := S4.out; have := S5.out; omega) (.int .i64 20)).st (p := ⟨w.heap.size, 4, none⟩) (show g < w.heap.size by have := Hgl.out; have := S1.out; have := S2.out; have := S3.out; have := S4.out; have := S5.out; omega) (.int .i64 t)).mono (by omega), ((((((Hd5.out.st (p := ⟨w4.heap.size, 3, none⟩) (show w.heap.size ≤ w4.heap.size by have := Hgl.out; have := S1.out; have := S2.out; have := S3.out; have := S4.out; have := S5.out; omega) (.int .i64 20)).st (p := ⟨w.heap.size, 0, none⟩) (show w.heap.size ≤ w.heap.size by have := Hgl.out; have := S1.out; have := S2.out; have := S3.out; have := S4.out; have := S5.out; omega) (.int .i64 a)).st (p := ⟨w.heap.size, 1, none⟩) (show w.heap.size ≤ w.heap.size by have := Hgl.out; have := S1.out; have := S2.out; have := S3.out; have := S4.out; have := S5.out; omega) (.int .i64 b)).st (p := ⟨w.heap.size, 2, none⟩) (show w.heap.size ≤ w.heap.size by have := Hgl.out; have := S1.out; have := S2.out; have := S3.out; have := S4.out; have := S5.out; omega) (.int .i64 lo)).st (p := ⟨w.heap.size, 3, none⟩) (show w.heap.size ≤ w.heap.size by have := Hgl.out; have := S1.out; have := S2.out; have := S3.out; have := S4.out; have := S5.out; omega) (.int .i64 20)).st (p := ⟨w.heap.size, 4, none⟩) (show w.heap.size ≤ w.heap.size by have := Hgl.out; have := S1.out; have := S2.out; have := S3.out; have := S4.out; have := S5.out; omega) (.int .i64 t))⟩
set_option linter.unusedSimpArgs false in
set_option maxRecDepth 8000 in
set_option maxHeartbeats 8000000 in
theorem curve_any (g k : Nat) (w : World) (hc : Cur w g k) (hk : k ≤ 800000) :
    Calls Tryz.prog 206 #[.pointer (some ⟨g, 0, none⟩)] w fun e w' => (∃ a b : Int, e = .returned (.agg #[.int .i64 a, .int .i64 b])) ∧ Cur w' g (k + 30) ∧ Dg g w w' := by
  have Hgl := Lib.hid hc.lt
  have Hc := Lib.hid hc; have Hk := Lib.hid hk; have Hd := Lib.hid (Dg.refl g w); clear hc hk
  go_enter Tryz.func206, Tryz.ntmps206
  go_wp2_with fail
  refine (pick_any g k (41) _ (Hc.out.alloc _) (by have := Hk.out; omega)).mono ?_; rintro e w1 ⟨⟨p1, lp1, up1, rfl⟩, hc1, hd1⟩
  have S1 := Lib.hid (show w.heap.size + 1 ≤ w1.heap.size by have h9 := hd1.size; (try simp only [World.size_alloc, World.size_setCell] at h9); omega)
  have NR := Lib.hid ((Blk.new w 25 #[.int .i64 0, .int .i64 0]).dg hd1 (show w.heap.size ≠ g by have := Hgl.out; have := S1.out; omega))
  have R := NR; clear NR
  have Hc1 := Lib.hid (hc1.mono (j := k + 2) (by omega))
  have Hd1 := Lib.hid ((Hd.out.alloc _).trans hd1)
  clear hc1 hd1
  have u1 : p1 ≤ 40 := by omega
  go_wp2_with fail
  refine (pick_any g (k + 2) (2001) _ Hc1.out (by have := Hk.out; omega)).mono ?_; rintro e w2 ⟨⟨p2, lp2, up2, rfl⟩, hc2, hd2⟩
  have S2 := Lib.hid (show w1.heap.size + 0 ≤ w2.heap.size by have h9 := hd2.size; (try simp only [World.size_alloc, World.size_setCell] at h9); omega)
  have NR := Lib.hid (R.out.dg hd2 (show w.heap.size ≠ g by have := Hgl.out; have := S1.out; have := S2.out; omega))
  have R := NR; clear NR
  have Hc2 := Lib.hid (hc2.mono (j := k + 4) (by omega))
  have Hd2 := Lib.hid (Hd1.out.trans hd2)
  clear hc2 hd2
  have u2 : p2 ≤ 2000 := by omega
  go_wp2_with fail
  refine (among_lit g (k + 4) (w2.heap.size) [-16, -1, 0, 1, -2, -7, -25, 4, (p1 - 20), (p2 - 1000)] w2 (by simp) Hc2.out (by simp) (by simp) (by have := Hk.out; omega)).mono ?_; rintro e w3 ⟨⟨a, ha, rfl⟩, hc3, hd3⟩
  have S3 := Lib.hid (show w2.heap.size + 1 ≤ w3.heap.size by have h9 := hd3.size; (try simp only [World.size_alloc, World.size_setCell] at h9); omega)
  have NR := Lib.hid ((R.out.alloc _).dg hd3 (show w.heap.size ≠ g by have := Hgl.out; have := S1.out; have := S2.out; have := S3.out; omega))
  have R := NR; clear NR
  have Hc3 := Lib.hid (hc3.mono (j := k + 6) (by omega))
  have Hd3 := Lib.hid ((Hd2.out.alloc _).trans hd3)
  clear hc3 hd3
  clear lp1 up1 lp2 up2 u1 u2 ha
  go_wp2_with fail
  refine (pick_any g (k + 6) (41) _ Hc3.out (by have := Hk.out; omega)).mono ?_; rintro e w4 ⟨⟨p3, lp3, up3, rfl⟩, hc4, hd4⟩
  have S4 := Lib.hid (show w3.heap.size + 0 ≤ w4.heap.size by have h9 := hd4.size; (try simp only [World.size_alloc, World.size_setCell] at h9); omega)
  have NR := Lib.hid (R.out.dg hd4 (show w.heap.size ≠ g by have := Hgl.out; have := S1.out; have := S2.out; have := S3.out; have := S4.out; omega))
  have R := NR; clear NR
  have Hc4 := Lib.hid (hc4.mono (j := k + 8) (by omega))
  have Hd4 := Lib.hid (Hd3.out.trans hd4)
  clear hc4 hd4
  have u3 : p3 ≤ 40 := by omega
  go_wp2_with fail
  refine (pick_any g (k + 8) (20001) _ Hc4.out (by have := Hk.out; omega)).mono ?_; rintro e w5 ⟨⟨p4, lp4, up4, rfl⟩, hc5, hd5⟩
  have S5 := Lib.hid (show w4.heap.size + 0 ≤ w5.heap.size by have h9 := hd5.size; (try simp only [World.size_alloc, World.size_setCell] at h9); omega)
  have NR := Lib.hid (R.out.dg hd5 (show w.heap.size ≠ g by have := Hgl.out; have := S1.out; have := S2.out; have := S3.out; have := S4.out; have := S5.out; omega))
  have R := NR; clear NR
  have Hc5 := Lib.hid (hc5.mono (j := k + 10) (by omega))
  have Hd5 := Lib.hid (Hd4.out.trans hd5)
  clear hc5 hd5
  have u4 : p4 ≤ 20000 := by omega
  go_wp2_with fail
  refine (among_lit g (k + 10) (w5.heap.size) [16, 0, 0, 1, -1, 10, 36, (p3 - 20), (p4 - 10000)] w5 (by simp) Hc5.out (by simp) (by simp) (by have := Hk.out; omega)).mono ?_; rintro e w6 ⟨⟨b, hb, rfl⟩, hc6, hd6⟩
  have S6 := Lib.hid (show w5.heap.size + 1 ≤ w6.heap.size by have h9 := hd6.size; (try simp only [World.size_alloc, World.size_setCell] at h9); omega)
  have NR := Lib.hid ((R.out.alloc _).dg hd6 (show w.heap.size ≠ g by have := Hgl.out; have := S1.out; have := S2.out; have := S3.out; have := S4.out; have := S5.out; have := S6.out; omega))
  have R := NR; clear NR
  have Hc6 := Lib.hid (hc6.mono (j := k + 12) (by omega))
  have Hd6 := Lib.hid ((Hd5.out.alloc _).trans hd6)
  clear hc6 hd6
  clear lp3 up3 lp4 up4 u3 u4 hb
  go_wp2_with fail
  refine (one_any g (k + 12) (8) _ (Hc6.out.alloc _) (by have := Hk.out; omega)).mono ?_; rintro e w7 ⟨⟨c1, rfl⟩, hc7, hd7⟩
  have S7 := Lib.hid (show w6.heap.size + 1 ≤ w7.heap.size by have h9 := hd7.size; (try simp only [World.size_alloc, World.size_setCell] at h9); omega)
  have NR := Lib.hid ((R.out.alloc _).dg hd7 (show w.heap.size ≠ g by have := Hgl.out; have := S1.out; have := S2.out; have := S3.out; have := S4.out; have := S5.out; have := S6.out; have := S7.out; omega))
  have NE := Lib.hid ((Blk.new w6 25 #[.int .i64 a, .int .i64 b]).dg hd7 (show w6.heap.size ≠ g by have := Hgl.out; have := S1.out; have := S2.out; have := S3.out; have := S4.out; have := S5.out; have := S6.out; have := S7.out; omega))
  have R := NR; clear NR
  have E := NE; clear NE
  have Hc7 := Lib.hid (hc7.mono (j := k + 14) (by omega))
  have Hd7 := Lib.hid ((Hd6.out.alloc _).trans hd7)
  clear hc7 hd7
  cases c1
  · go_wp2_with fail
    refine (one_any g (k + 14) (16) _ Hc7.out (by have := Hk.out; omega)).mono ?_; rintro e w8 ⟨⟨c2, rfl⟩, hc8, hd8⟩
    have S8 := Lib.hid (show w7.heap.size + 0 ≤ w8.heap.size by have h9 := hd8.size; (try simp only [World.size_alloc, World.size_setCell] at h9); omega)
    have NR := Lib.hid (R.out.dg hd8 (show w.heap.size ≠ g by have := Hgl.out; have := S1.out; have := S2.out; have := S3.out; have := S4.out; have := S5.out; have := S6.out; have := S7.out; have := S8.out; omega))
    have NE := Lib.hid (E.out.dg hd8 (show w6.heap.size ≠ g by have := Hgl.out; have := S1.out; have := S2.out; have := S3.out; have := S4.out; have := S5.out; have := S6.out; have := S7.out; have := S8.out; omega))
    have R := NR; clear NR
    have E := NE; clear NE
    have Hc8 := Lib.hid (hc8.mono (j := k + 16) (by omega))
    have Hd8 := Lib.hid (Hd7.out.trans hd8)
    clear hc8 hd8
    cases c2
    · have qE0 := E.out.cell 0
      have qE1 := E.out.cell 1
      simp at qE0 qE1
      have qEl := E.out.lt
      go_wp2_with fail
      refine (ecGood_any a b _).mono ?_; rintro e w9 ⟨rfl, hd9⟩
      clear qE0 qE1 qEl
      have S9 := Lib.hid (show w8.heap.size + 0 ≤ w9.heap.size by have h9 := hd9.size; (try simp only [World.size_alloc, World.size_setCell] at h9); omega)
      have NR := Lib.hid (R.out.dg (Dg.of_below (g := g) hd9) (show w.heap.size ≠ g by have := Hgl.out; have := S1.out; have := S2.out; have := S3.out; have := S4.out; have := S5.out; have := S6.out; have := S7.out; have := S8.out; have := S9.out; omega))
      have NE := Lib.hid (E.out.dg (Dg.of_below (g := g) hd9) (show w6.heap.size ≠ g by have := Hgl.out; have := S1.out; have := S2.out; have := S3.out; have := S4.out; have := S5.out; have := S6.out; have := S7.out; have := S8.out; have := S9.out; omega))
      have R := NR; clear NR
      have E := NE; clear NE
      have Hc9 := Lib.hid (Hc8.out.on hd9)
      have Hd9 := Lib.hid (Hd8.out.trans (Dg.of_below (g := g) hd9))
      clear hd9
      cases hg : curveB a b
      · clear hg
        have qE0 := E.out.cell 0
        have qE1 := E.out.cell 1
        simp at qE0 qE1
        have qEl := E.out.lt
        have qR0 := R.out.cell 0
        have qR1 := R.out.cell 1
        simp at qR0 qR1
        have qRl := R.out.lt
        have qRf := R.out.frozen
        have nER : w6.heap.size ≠ w.heap.size := by have := Hgl.out; have := S1.out; have := S2.out; have := S3.out; have := S4.out; have := S5.out; have := S6.out; have := S7.out; have := S8.out; have := S9.out; omega
        have nRE : w.heap.size ≠ w6.heap.size := fun e => nER e.symm
        go_wp2
        clear qE0 qE1 qEl qR0 qR1 qRl qRf nER nRE
        have HR9 := (show Blk (World.setCell (World.setCell w9 ⟨w.heap.size, 0, none⟩ (.int .i64 (-16))) ⟨w.heap.size, 1, none⟩ (.int .i64 16)) (w.heap.size) 25 #[.int .i64 (-16), .int .i64 16] by have h9 := ((R.out.set 0 (.int .i64 (-16))).set 1 (.int .i64 16)); simpa using h9)
        have k0 := HR9.cell 0
        have k1 := HR9.cell 1
        simp at k0 k1
        exact bodyPost_ret (v := .agg #[.int .i64 (-16), .int .i64 16]) (by simp [results, Tryz.results206, go_sem, k0, k1]) rfl ⟨⟨-16, 16, rfl⟩, ((Hc9.out.st (p := ⟨w.heap.size, 0, none⟩) (show g < w.heap.size by have := Hgl.out; have := S1.out; have := S2.out; have := S3.out; have := S4.out; have := S5.out; have := S6.out; have := S7.out; have := S8.out; have := S9.out; omega) (.int .i64 (-16))).st (p := ⟨w.heap.size, 1, none⟩) (show g < w.heap.size by have := Hgl.out; have := S1.out; have := S2.out; have := S3.out; have := S4.out; have := S5.out; have := S6.out; have := S7.out; have := S8.out; have := S9.out; omega) (.int .i64 16)).mono (by omega), ((Hd9.out.st (p := ⟨w.heap.size, 0, none⟩) (show w.heap.size ≤ w.heap.size by have := Hgl.out; have := S1.out; have := S2.out; have := S3.out; have := S4.out; have := S5.out; have := S6.out; have := S7.out; have := S8.out; have := S9.out; omega) (.int .i64 (-16))).st (p := ⟨w.heap.size, 1, none⟩) (show w.heap.size ≤ w.heap.size by have := Hgl.out; have := S1.out; have := S2.out; have := S3.out; have := S4.out; have := S5.out; have := S6.out; have := S7.out; have := S8.out; have := S9.out; omega) (.int .i64 16))⟩
      · clear hg
        have qE0 := E.out.cell 0
        have qE1 := E.out.cell 1
        simp at qE0 qE1
        have qEl := E.out.lt
        have qR0 := R.out.cell 0
        have qR1 := R.out.cell 1
        simp at qR0 qR1
        have qRl := R.out.lt
        have qRf := R.out.frozen
        have nER : w6.heap.size ≠ w.heap.size := by have := Hgl.out; have := S1.out; have := S2.out; have := S3.out; have := S4.out; have := S5.out; have := S6.out; have := S7.out; have := S8.out; have := S9.out; omega
        have nRE : w.heap.size ≠ w6.heap.size := fun e => nER e.symm
        go_wp2
        clear qE0 qE1 qEl qR0 qR1 qRl qRf nER nRE
        have HR9 := (show Blk (World.setCell (World.setCell w9 ⟨w.heap.size, 0, none⟩ (.int .i64 a)) ⟨w.heap.size, 1, none⟩ (.int .i64 b)) (w.heap.size) 25 #[.int .i64 a, .int .i64 b] by have h9 := ((R.out.set 0 (.int .i64 a)).set 1 (.int .i64 b)); simpa using h9)
        have k0 := HR9.cell 0
        have k1 := HR9.cell 1
        simp at k0 k1
        exact bodyPost_ret (v := .agg #[.int .i64 a, .int .i64 b]) (by simp [results, Tryz.results206, go_sem, k0, k1]) rfl ⟨⟨_, _, rfl⟩, ((Hc9.out.st (p := ⟨w.heap.size, 0, none⟩) (show g < w.heap.size by have := Hgl.out; have := S1.out; have := S2.out; have := S3.out; have := S4.out; have := S5.out; have := S6.out; have := S7.out; have := S8.out; have := S9.out; omega) (.int .i64 a)).st (p := ⟨w.heap.size, 1, none⟩) (show g < w.heap.size by have := Hgl.out; have := S1.out; have := S2.out; have := S3.out; have := S4.out; have := S5.out; have := S6.out; have := S7.out; have := S8.out; have := S9.out; omega) (.int .i64 b)).mono (by omega), ((Hd9.out.st (p := ⟨w.heap.size, 0, none⟩) (show w.heap.size ≤ w.heap.size by have := Hgl.out; have := S1.out; have := S2.out; have := S3.out; have := S4.out; have := S5.out; have := S6.out; have := S7.out; have := S8.out; have := S9.out; omega) (.int .i64 a)).st (p := ⟨w.heap.size, 1, none⟩) (show w.heap.size ≤ w.heap.size by have := Hgl.out; have := S1.out; have := S2.out; have := S3.out; have := S4.out; have := S5.out; have := S6.out; have := S7.out; have := S8.out; have := S9.out; omega) (.int .i64 b))⟩
    · go_wp2_with fail
      refine (among_lit g (k + 16) (w8.heap.size) [-1000, 1000] w8 (by simp) Hc8.out (by simp) (by simp) (by have := Hk.out; omega)).mono ?_; rintro e w10 ⟨⟨a2, ha2, rfl⟩, hc10, hd10⟩
      have S10 := Lib.hid (show w8.heap.size + 1 ≤ w10.heap.size by have h9 := hd10.size; (try simp only [World.size_alloc, World.size_setCell] at h9); omega)
      have NR := Lib.hid ((R.out.alloc _).dg hd10 (show w.heap.size ≠ g by have := Hgl.out; have := S1.out; have := S2.out; have := S3.out; have := S4.out; have := S5.out; have := S6.out; have := S7.out; have := S8.out; have := S10.out; omega))
      have NE := Lib.hid ((E.out.alloc _).dg hd10 (show w6.heap.size ≠ g by have := Hgl.out; have := S1.out; have := S2.out; have := S3.out; have := S4.out; have := S5.out; have := S6.out; have := S7.out; have := S8.out; have := S10.out; omega))
      have R := NR; clear NR
      have E := NE; clear NE
      have Hc10 := Lib.hid (hc10.mono (j := k + 18) (by omega))
      have Hd10 := Lib.hid ((Hd8.out.alloc _).trans hd10)
      clear hc10 hd10
      go_wp2_with fail
      refine (among_lit g (k + 18) (w10.heap.size) [-10000, 10000] w10 (by simp) Hc10.out (by simp) (by simp) (by have := Hk.out; omega)).mono ?_; rintro e w11 ⟨⟨b2, hb2, rfl⟩, hc11, hd11⟩
      have S11 := Lib.hid (show w10.heap.size + 1 ≤ w11.heap.size by have h9 := hd11.size; (try simp only [World.size_alloc, World.size_setCell] at h9); omega)
      have NR := Lib.hid ((R.out.alloc _).dg hd11 (show w.heap.size ≠ g by have := Hgl.out; have := S1.out; have := S2.out; have := S3.out; have := S4.out; have := S5.out; have := S6.out; have := S7.out; have := S8.out; have := S10.out; have := S11.out; omega))
      have NE := Lib.hid ((E.out.alloc _).dg hd11 (show w6.heap.size ≠ g by have := Hgl.out; have := S1.out; have := S2.out; have := S3.out; have := S4.out; have := S5.out; have := S6.out; have := S7.out; have := S8.out; have := S10.out; have := S11.out; omega))
      have R := NR; clear NR
      have E := NE; clear NE
      have Hc11 := Lib.hid (hc11.mono (j := k + 20) (by omega))
      have Hd11 := Lib.hid ((Hd10.out.alloc _).trans hd11)
      clear hc11 hd11
      have qE0 := E.out.cell 0
      have qE1 := E.out.cell 1
      simp at qE0 qE1
      have qEl := E.out.lt
      have qEf := E.out.frozen
      go_wp2_with fail
      refine (ecGood_any a2 b2 _).mono ?_; rintro e w12 ⟨rfl, hd12⟩
      clear qE0 qE1 qEl qEf
      have S12 := Lib.hid (show w11.heap.size + 0 ≤ w12.heap.size by have h9 := hd12.size; (try simp only [World.size_alloc, World.size_setCell] at h9); omega)
      have NR := Lib.hid (((R.out.far (p := ⟨w6.heap.size, 0, none⟩) (show w.heap.size ≠ w6.heap.size by have := Hgl.out; have := S1.out; have := S2.out; have := S3.out; have := S4.out; have := S5.out; have := S6.out; have := S7.out; have := S8.out; have := S10.out; have := S11.out; have := S12.out; omega) (.int .i64 a2)).far (p := ⟨w6.heap.size, 1, none⟩) (show w.heap.size ≠ w6.heap.size by have := Hgl.out; have := S1.out; have := S2.out; have := S3.out; have := S4.out; have := S5.out; have := S6.out; have := S7.out; have := S8.out; have := S10.out; have := S11.out; have := S12.out; omega) (.int .i64 b2)).dg (Dg.of_below (g := g) hd12) (show w.heap.size ≠ g by have := Hgl.out; have := S1.out; have := S2.out; have := S3.out; have := S4.out; have := S5.out; have := S6.out; have := S7.out; have := S8.out; have := S10.out; have := S11.out; have := S12.out; omega))
      have NE := Lib.hid ((show Blk (World.setCell (World.setCell w11 ⟨w6.heap.size, 0, none⟩ (.int .i64 a2)) ⟨w6.heap.size, 1, none⟩ (.int .i64 b2)) (w6.heap.size) 25 #[.int .i64 a2, .int .i64 b2] by have h9 := ((E.out.set 0 (.int .i64 a2)).set 1 (.int .i64 b2)); simpa using h9).dg (Dg.of_below (g := g) hd12) (show w6.heap.size ≠ g by have := Hgl.out; have := S1.out; have := S2.out; have := S3.out; have := S4.out; have := S5.out; have := S6.out; have := S7.out; have := S8.out; have := S10.out; have := S11.out; have := S12.out; omega))
      have R := NR; clear NR
      have E := NE; clear NE
      have Hc12 := Lib.hid (((Hc11.out.st (p := ⟨w6.heap.size, 0, none⟩) (show g < w6.heap.size by have := Hgl.out; have := S1.out; have := S2.out; have := S3.out; have := S4.out; have := S5.out; have := S6.out; have := S7.out; have := S8.out; have := S10.out; have := S11.out; have := S12.out; omega) (.int .i64 a2)).st (p := ⟨w6.heap.size, 1, none⟩) (show g < w6.heap.size by have := Hgl.out; have := S1.out; have := S2.out; have := S3.out; have := S4.out; have := S5.out; have := S6.out; have := S7.out; have := S8.out; have := S10.out; have := S11.out; have := S12.out; omega) (.int .i64 b2)).on hd12)
      have Hd12 := Lib.hid (((Hd11.out.st (p := ⟨w6.heap.size, 0, none⟩) (show w.heap.size ≤ w6.heap.size by have := Hgl.out; have := S1.out; have := S2.out; have := S3.out; have := S4.out; have := S5.out; have := S6.out; have := S7.out; have := S8.out; have := S10.out; have := S11.out; have := S12.out; omega) (.int .i64 a2)).st (p := ⟨w6.heap.size, 1, none⟩) (show w.heap.size ≤ w6.heap.size by have := Hgl.out; have := S1.out; have := S2.out; have := S3.out; have := S4.out; have := S5.out; have := S6.out; have := S7.out; have := S8.out; have := S10.out; have := S11.out; have := S12.out; omega) (.int .i64 b2)).trans (Dg.of_below (g := g) hd12))
      clear hd12
      cases hg : curveB a2 b2
      · clear hg
        have qE0 := E.out.cell 0
        have qE1 := E.out.cell 1
        simp at qE0 qE1
        have qEl := E.out.lt
        have qR0 := R.out.cell 0
        have qR1 := R.out.cell 1
        simp at qR0 qR1
        have qRl := R.out.lt
        have qRf := R.out.frozen
        have nER : w6.heap.size ≠ w.heap.size := by have := Hgl.out; have := S1.out; have := S2.out; have := S3.out; have := S4.out; have := S5.out; have := S6.out; have := S7.out; have := S8.out; have := S10.out; have := S11.out; have := S12.out; omega
        have nRE : w.heap.size ≠ w6.heap.size := fun e => nER e.symm
        go_wp2
        clear qE0 qE1 qEl qR0 qR1 qRl qRf nER nRE
        have HR9 := (show Blk (World.setCell (World.setCell w12 ⟨w.heap.size, 0, none⟩ (.int .i64 (-16))) ⟨w.heap.size, 1, none⟩ (.int .i64 16)) (w.heap.size) 25 #[.int .i64 (-16), .int .i64 16] by have h9 := ((R.out.set 0 (.int .i64 (-16))).set 1 (.int .i64 16)); simpa using h9)
        have k0 := HR9.cell 0
        have k1 := HR9.cell 1
        simp at k0 k1
        exact bodyPost_ret (v := .agg #[.int .i64 (-16), .int .i64 16]) (by simp [results, Tryz.results206, go_sem, k0, k1]) rfl ⟨⟨-16, 16, rfl⟩, ((Hc12.out.st (p := ⟨w.heap.size, 0, none⟩) (show g < w.heap.size by have := Hgl.out; have := S1.out; have := S2.out; have := S3.out; have := S4.out; have := S5.out; have := S6.out; have := S7.out; have := S8.out; have := S10.out; have := S11.out; have := S12.out; omega) (.int .i64 (-16))).st (p := ⟨w.heap.size, 1, none⟩) (show g < w.heap.size by have := Hgl.out; have := S1.out; have := S2.out; have := S3.out; have := S4.out; have := S5.out; have := S6.out; have := S7.out; have := S8.out; have := S10.out; have := S11.out; have := S12.out; omega) (.int .i64 16)).mono (by omega), ((Hd12.out.st (p := ⟨w.heap.size, 0, none⟩) (show w.heap.size ≤ w.heap.size by have := Hgl.out; have := S1.out; have := S2.out; have := S3.out; have := S4.out; have := S5.out; have := S6.out; have := S7.out; have := S8.out; have := S10.out; have := S11.out; have := S12.out; omega) (.int .i64 (-16))).st (p := ⟨w.heap.size, 1, none⟩) (show w.heap.size ≤ w.heap.size by have := Hgl.out; have := S1.out; have := S2.out; have := S3.out; have := S4.out; have := S5.out; have := S6.out; have := S7.out; have := S8.out; have := S10.out; have := S11.out; have := S12.out; omega) (.int .i64 16))⟩
      · clear hg
        have qE0 := E.out.cell 0
        have qE1 := E.out.cell 1
        simp at qE0 qE1
        have qEl := E.out.lt
        have qR0 := R.out.cell 0
        have qR1 := R.out.cell 1
        simp at qR0 qR1
        have qRl := R.out.lt
        have qRf := R.out.frozen
        have nER : w6.heap.size ≠ w.heap.size := by have := Hgl.out; have := S1.out; have := S2.out; have := S3.out; have := S4.out; have := S5.out; have := S6.out; have := S7.out; have := S8.out; have := S10.out; have := S11.out; have := S12.out; omega
        have nRE : w.heap.size ≠ w6.heap.size := fun e => nER e.symm
        go_wp2
        clear qE0 qE1 qEl qR0 qR1 qRl qRf nER nRE
        have HR9 := (show Blk (World.setCell (World.setCell w12 ⟨w.heap.size, 0, none⟩ (.int .i64 a2)) ⟨w.heap.size, 1, none⟩ (.int .i64 b2)) (w.heap.size) 25 #[.int .i64 a2, .int .i64 b2] by have h9 := ((R.out.set 0 (.int .i64 a2)).set 1 (.int .i64 b2)); simpa using h9)
        have k0 := HR9.cell 0
        have k1 := HR9.cell 1
        simp at k0 k1
        exact bodyPost_ret (v := .agg #[.int .i64 a2, .int .i64 b2]) (by simp [results, Tryz.results206, go_sem, k0, k1]) rfl ⟨⟨_, _, rfl⟩, ((Hc12.out.st (p := ⟨w.heap.size, 0, none⟩) (show g < w.heap.size by have := Hgl.out; have := S1.out; have := S2.out; have := S3.out; have := S4.out; have := S5.out; have := S6.out; have := S7.out; have := S8.out; have := S10.out; have := S11.out; have := S12.out; omega) (.int .i64 a2)).st (p := ⟨w.heap.size, 1, none⟩) (show g < w.heap.size by have := Hgl.out; have := S1.out; have := S2.out; have := S3.out; have := S4.out; have := S5.out; have := S6.out; have := S7.out; have := S8.out; have := S10.out; have := S11.out; have := S12.out; omega) (.int .i64 b2)).mono (by omega), ((Hd12.out.st (p := ⟨w.heap.size, 0, none⟩) (show w.heap.size ≤ w.heap.size by have := Hgl.out; have := S1.out; have := S2.out; have := S3.out; have := S4.out; have := S5.out; have := S6.out; have := S7.out; have := S8.out; have := S10.out; have := S11.out; have := S12.out; omega) (.int .i64 a2)).st (p := ⟨w.heap.size, 1, none⟩) (show w.heap.size ≤ w.heap.size by have := Hgl.out; have := S1.out; have := S2.out; have := S3.out; have := S4.out; have := S5.out; have := S6.out; have := S7.out; have := S8.out; have := S10.out; have := S11.out; have := S12.out; omega) (.int .i64 b2))⟩
  · go_wp2_with fail
    refine (pick_any g (k + 14) (21) _ Hc7.out (by have := Hk.out; omega)).mono ?_; rintro e w13 ⟨⟨p5, lp5, up5, rfl⟩, hc13, hd13⟩
    have S13 := Lib.hid (show w7.heap.size + 0 ≤ w13.heap.size by have h9 := hd13.size; (try simp only [World.size_alloc, World.size_setCell] at h9); omega)
    have NR := Lib.hid (R.out.dg hd13 (show w.heap.size ≠ g by have := Hgl.out; have := S1.out; have := S2.out; have := S3.out; have := S4.out; have := S5.out; have := S6.out; have := S7.out; have := S13.out; omega))
    have NE := Lib.hid (E.out.dg hd13 (show w6.heap.size ≠ g by have := Hgl.out; have := S1.out; have := S2.out; have := S3.out; have := S4.out; have := S5.out; have := S6.out; have := S7.out; have := S13.out; omega))
    have R := NR; clear NR
    have E := NE; clear NE
    have Hc13 := Lib.hid (hc13.mono (j := k + 16) (by omega))
    have Hd13 := Lib.hid (Hd7.out.trans hd13)
    clear hc13 hd13
    have u5 : p5 ≤ 20 := by omega
    go_wp2_with fail
    refine (pick_any g (k + 16) (21) _ Hc13.out (by have := Hk.out; omega)).mono ?_; rintro e w14 ⟨⟨p6, lp6, up6, rfl⟩, hc14, hd14⟩
    have S14 := Lib.hid (show w13.heap.size + 0 ≤ w14.heap.size by have h9 := hd14.size; (try simp only [World.size_alloc, World.size_setCell] at h9); omega)
    have NR := Lib.hid (R.out.dg hd14 (show w.heap.size ≠ g by have := Hgl.out; have := S1.out; have := S2.out; have := S3.out; have := S4.out; have := S5.out; have := S6.out; have := S7.out; have := S13.out; have := S14.out; omega))
    have NE := Lib.hid (E.out.dg hd14 (show w6.heap.size ≠ g by have := Hgl.out; have := S1.out; have := S2.out; have := S3.out; have := S4.out; have := S5.out; have := S6.out; have := S7.out; have := S13.out; have := S14.out; omega))
    have R := NR; clear NR
    have E := NE; clear NE
    have Hc14 := Lib.hid (hc14.mono (j := k + 18) (by omega))
    have Hd14 := Lib.hid (Hd13.out.trans hd14)
    clear hc14 hd14
    have u6 : p6 ≤ 20 := by omega
    have qE0 := E.out.cell 0
    have qE1 := E.out.cell 1
    simp at qE0 qE1
    have qEl := E.out.lt
    have qEf := E.out.frozen
    go_wp2_with fail
    refine (one_any g (k + 18) (16) _ ((Hc14.out.st (p := ⟨w6.heap.size, 0, none⟩) (show g < w6.heap.size by have := Hgl.out; have := S1.out; have := S2.out; have := S3.out; have := S4.out; have := S5.out; have := S6.out; have := S7.out; have := S13.out; have := S14.out; omega) (.int .i64 (16 * (p5 - 10)))).st (p := ⟨w6.heap.size, 1, none⟩) (show g < w6.heap.size by have := Hgl.out; have := S1.out; have := S2.out; have := S3.out; have := S4.out; have := S5.out; have := S6.out; have := S7.out; have := S13.out; have := S14.out; omega) (.int .i64 (64 * (p6 - 10)))) (by have := Hk.out; omega)).mono ?_; rintro e w15 ⟨⟨c2, rfl⟩, hc15, hd15⟩
    clear qE0 qE1 qEl qEf
    have S15 := Lib.hid (show w14.heap.size + 0 ≤ w15.heap.size by have h9 := hd15.size; (try simp only [World.size_alloc, World.size_setCell] at h9); omega)
    have NR := Lib.hid (((R.out.far (p := ⟨w6.heap.size, 0, none⟩) (show w.heap.size ≠ w6.heap.size by have := Hgl.out; have := S1.out; have := S2.out; have := S3.out; have := S4.out; have := S5.out; have := S6.out; have := S7.out; have := S13.out; have := S14.out; have := S15.out; omega) (.int .i64 (16 * (p5 - 10)))).far (p := ⟨w6.heap.size, 1, none⟩) (show w.heap.size ≠ w6.heap.size by have := Hgl.out; have := S1.out; have := S2.out; have := S3.out; have := S4.out; have := S5.out; have := S6.out; have := S7.out; have := S13.out; have := S14.out; have := S15.out; omega) (.int .i64 (64 * (p6 - 10)))).dg hd15 (show w.heap.size ≠ g by have := Hgl.out; have := S1.out; have := S2.out; have := S3.out; have := S4.out; have := S5.out; have := S6.out; have := S7.out; have := S13.out; have := S14.out; have := S15.out; omega))
    have NE := Lib.hid ((show Blk (World.setCell (World.setCell w14 ⟨w6.heap.size, 0, none⟩ (.int .i64 (16 * (p5 - 10)))) ⟨w6.heap.size, 1, none⟩ (.int .i64 (64 * (p6 - 10)))) (w6.heap.size) 25 #[.int .i64 (16 * (p5 - 10)), .int .i64 (64 * (p6 - 10))] by have h9 := ((E.out.set 0 (.int .i64 (16 * (p5 - 10)))).set 1 (.int .i64 (64 * (p6 - 10)))); simpa using h9).dg hd15 (show w6.heap.size ≠ g by have := Hgl.out; have := S1.out; have := S2.out; have := S3.out; have := S4.out; have := S5.out; have := S6.out; have := S7.out; have := S13.out; have := S14.out; have := S15.out; omega))
    have R := NR; clear NR
    have E := NE; clear NE
    have Hc15 := Lib.hid (hc15.mono (j := k + 20) (by omega))
    have Hd15 := Lib.hid (((Hd14.out.st (p := ⟨w6.heap.size, 0, none⟩) (show w.heap.size ≤ w6.heap.size by have := Hgl.out; have := S1.out; have := S2.out; have := S3.out; have := S4.out; have := S5.out; have := S6.out; have := S7.out; have := S13.out; have := S14.out; have := S15.out; omega) (.int .i64 (16 * (p5 - 10)))).st (p := ⟨w6.heap.size, 1, none⟩) (show w.heap.size ≤ w6.heap.size by have := Hgl.out; have := S1.out; have := S2.out; have := S3.out; have := S4.out; have := S5.out; have := S6.out; have := S7.out; have := S13.out; have := S14.out; have := S15.out; omega) (.int .i64 (64 * (p6 - 10)))).trans hd15)
    clear hc15 hd15
    cases c2
    · have qE0 := E.out.cell 0
      have qE1 := E.out.cell 1
      simp at qE0 qE1
      have qEl := E.out.lt
      go_wp2_with fail
      refine (ecGood_any (16 * (p5 - 10)) (64 * (p6 - 10)) _).mono ?_; rintro e w16 ⟨rfl, hd16⟩
      clear qE0 qE1 qEl
      have S16 := Lib.hid (show w15.heap.size + 0 ≤ w16.heap.size by have h9 := hd16.size; (try simp only [World.size_alloc, World.size_setCell] at h9); omega)
      have NR := Lib.hid (R.out.dg (Dg.of_below (g := g) hd16) (show w.heap.size ≠ g by have := Hgl.out; have := S1.out; have := S2.out; have := S3.out; have := S4.out; have := S5.out; have := S6.out; have := S7.out; have := S13.out; have := S14.out; have := S15.out; have := S16.out; omega))
      have NE := Lib.hid (E.out.dg (Dg.of_below (g := g) hd16) (show w6.heap.size ≠ g by have := Hgl.out; have := S1.out; have := S2.out; have := S3.out; have := S4.out; have := S5.out; have := S6.out; have := S7.out; have := S13.out; have := S14.out; have := S15.out; have := S16.out; omega))
      have R := NR; clear NR
      have E := NE; clear NE
      have Hc16 := Lib.hid (Hc15.out.on hd16)
      have Hd16 := Lib.hid (Hd15.out.trans (Dg.of_below (g := g) hd16))
      clear hd16
      cases hg : curveB (16 * (p5 - 10)) (64 * (p6 - 10))
      · clear hg
        have qE0 := E.out.cell 0
        have qE1 := E.out.cell 1
        simp at qE0 qE1
        have qEl := E.out.lt
        have qR0 := R.out.cell 0
        have qR1 := R.out.cell 1
        simp at qR0 qR1
        have qRl := R.out.lt
        have qRf := R.out.frozen
        have nER : w6.heap.size ≠ w.heap.size := by have := Hgl.out; have := S1.out; have := S2.out; have := S3.out; have := S4.out; have := S5.out; have := S6.out; have := S7.out; have := S13.out; have := S14.out; have := S15.out; have := S16.out; omega
        have nRE : w.heap.size ≠ w6.heap.size := fun e => nER e.symm
        go_wp2
        clear qE0 qE1 qEl qR0 qR1 qRl qRf nER nRE
        have HR9 := (show Blk (World.setCell (World.setCell w16 ⟨w.heap.size, 0, none⟩ (.int .i64 (-16))) ⟨w.heap.size, 1, none⟩ (.int .i64 16)) (w.heap.size) 25 #[.int .i64 (-16), .int .i64 16] by have h9 := ((R.out.set 0 (.int .i64 (-16))).set 1 (.int .i64 16)); simpa using h9)
        have k0 := HR9.cell 0
        have k1 := HR9.cell 1
        simp at k0 k1
        exact bodyPost_ret (v := .agg #[.int .i64 (-16), .int .i64 16]) (by simp [results, Tryz.results206, go_sem, k0, k1]) rfl ⟨⟨-16, 16, rfl⟩, ((Hc16.out.st (p := ⟨w.heap.size, 0, none⟩) (show g < w.heap.size by have := Hgl.out; have := S1.out; have := S2.out; have := S3.out; have := S4.out; have := S5.out; have := S6.out; have := S7.out; have := S13.out; have := S14.out; have := S15.out; have := S16.out; omega) (.int .i64 (-16))).st (p := ⟨w.heap.size, 1, none⟩) (show g < w.heap.size by have := Hgl.out; have := S1.out; have := S2.out; have := S3.out; have := S4.out; have := S5.out; have := S6.out; have := S7.out; have := S13.out; have := S14.out; have := S15.out; have := S16.out; omega) (.int .i64 16)).mono (by omega), ((Hd16.out.st (p := ⟨w.heap.size, 0, none⟩) (show w.heap.size ≤ w.heap.size by have := Hgl.out; have := S1.out; have := S2.out; have := S3.out; have := S4.out; have := S5.out; have := S6.out; have := S7.out; have := S13.out; have := S14.out; have := S15.out; have := S16.out; omega) (.int .i64 (-16))).st (p := ⟨w.heap.size, 1, none⟩) (show w.heap.size ≤ w.heap.size by have := Hgl.out; have := S1.out; have := S2.out; have := S3.out; have := S4.out; have := S5.out; have := S6.out; have := S7.out; have := S13.out; have := S14.out; have := S15.out; have := S16.out; omega) (.int .i64 16))⟩
      · clear hg
        have qE0 := E.out.cell 0
        have qE1 := E.out.cell 1
        simp at qE0 qE1
        have qEl := E.out.lt
        have qR0 := R.out.cell 0
        have qR1 := R.out.cell 1
        simp at qR0 qR1
        have qRl := R.out.lt
        have qRf := R.out.frozen
        have nER : w6.heap.size ≠ w.heap.size := by have := Hgl.out; have := S1.out; have := S2.out; have := S3.out; have := S4.out; have := S5.out; have := S6.out; have := S7.out; have := S13.out; have := S14.out; have := S15.out; have := S16.out; omega
        have nRE : w.heap.size ≠ w6.heap.size := fun e => nER e.symm
        go_wp2
        clear qE0 qE1 qEl qR0 qR1 qRl qRf nER nRE
        have HR9 := (show Blk (World.setCell (World.setCell w16 ⟨w.heap.size, 0, none⟩ (.int .i64 (16 * (p5 - 10)))) ⟨w.heap.size, 1, none⟩ (.int .i64 (64 * (p6 - 10)))) (w.heap.size) 25 #[.int .i64 (16 * (p5 - 10)), .int .i64 (64 * (p6 - 10))] by have h9 := ((R.out.set 0 (.int .i64 (16 * (p5 - 10)))).set 1 (.int .i64 (64 * (p6 - 10)))); simpa using h9)
        have k0 := HR9.cell 0
        have k1 := HR9.cell 1
        simp at k0 k1
        exact bodyPost_ret (v := .agg #[.int .i64 (16 * (p5 - 10)), .int .i64 (64 * (p6 - 10))]) (by simp [results, Tryz.results206, go_sem, k0, k1]) rfl ⟨⟨_, _, rfl⟩, ((Hc16.out.st (p := ⟨w.heap.size, 0, none⟩) (show g < w.heap.size by have := Hgl.out; have := S1.out; have := S2.out; have := S3.out; have := S4.out; have := S5.out; have := S6.out; have := S7.out; have := S13.out; have := S14.out; have := S15.out; have := S16.out; omega) (.int .i64 (16 * (p5 - 10)))).st (p := ⟨w.heap.size, 1, none⟩) (show g < w.heap.size by have := Hgl.out; have := S1.out; have := S2.out; have := S3.out; have := S4.out; have := S5.out; have := S6.out; have := S7.out; have := S13.out; have := S14.out; have := S15.out; have := S16.out; omega) (.int .i64 (64 * (p6 - 10)))).mono (by omega), ((Hd16.out.st (p := ⟨w.heap.size, 0, none⟩) (show w.heap.size ≤ w.heap.size by have := Hgl.out; have := S1.out; have := S2.out; have := S3.out; have := S4.out; have := S5.out; have := S6.out; have := S7.out; have := S13.out; have := S14.out; have := S15.out; have := S16.out; omega) (.int .i64 (16 * (p5 - 10)))).st (p := ⟨w.heap.size, 1, none⟩) (show w.heap.size ≤ w.heap.size by have := Hgl.out; have := S1.out; have := S2.out; have := S3.out; have := S4.out; have := S5.out; have := S6.out; have := S7.out; have := S13.out; have := S14.out; have := S15.out; have := S16.out; omega) (.int .i64 (64 * (p6 - 10))))⟩
    · go_wp2_with fail
      refine (among_lit g (k + 20) (w15.heap.size) [-1000, 1000] w15 (by simp) Hc15.out (by simp) (by simp) (by have := Hk.out; omega)).mono ?_; rintro e w17 ⟨⟨a2, ha2, rfl⟩, hc17, hd17⟩
      have S17 := Lib.hid (show w15.heap.size + 1 ≤ w17.heap.size by have h9 := hd17.size; (try simp only [World.size_alloc, World.size_setCell] at h9); omega)
      have NR := Lib.hid ((R.out.alloc _).dg hd17 (show w.heap.size ≠ g by have := Hgl.out; have := S1.out; have := S2.out; have := S3.out; have := S4.out; have := S5.out; have := S6.out; have := S7.out; have := S13.out; have := S14.out; have := S15.out; have := S17.out; omega))
      have NE := Lib.hid ((E.out.alloc _).dg hd17 (show w6.heap.size ≠ g by have := Hgl.out; have := S1.out; have := S2.out; have := S3.out; have := S4.out; have := S5.out; have := S6.out; have := S7.out; have := S13.out; have := S14.out; have := S15.out; have := S17.out; omega))
      have R := NR; clear NR
      have E := NE; clear NE
      have Hc17 := Lib.hid (hc17.mono (j := k + 22) (by omega))
      have Hd17 := Lib.hid ((Hd15.out.alloc _).trans hd17)
      clear hc17 hd17
      go_wp2_with fail
      refine (among_lit g (k + 22) (w17.heap.size) [-10000, 10000] w17 (by simp) Hc17.out (by simp) (by simp) (by have := Hk.out; omega)).mono ?_; rintro e w18 ⟨⟨b2, hb2, rfl⟩, hc18, hd18⟩
      have S18 := Lib.hid (show w17.heap.size + 1 ≤ w18.heap.size by have h9 := hd18.size; (try simp only [World.size_alloc, World.size_setCell] at h9); omega)
      have NR := Lib.hid ((R.out.alloc _).dg hd18 (show w.heap.size ≠ g by have := Hgl.out; have := S1.out; have := S2.out; have := S3.out; have := S4.out; have := S5.out; have := S6.out; have := S7.out; have := S13.out; have := S14.out; have := S15.out; have := S17.out; have := S18.out; omega))
      have NE := Lib.hid ((E.out.alloc _).dg hd18 (show w6.heap.size ≠ g by have := Hgl.out; have := S1.out; have := S2.out; have := S3.out; have := S4.out; have := S5.out; have := S6.out; have := S7.out; have := S13.out; have := S14.out; have := S15.out; have := S17.out; have := S18.out; omega))
      have R := NR; clear NR
      have E := NE; clear NE
      have Hc18 := Lib.hid (hc18.mono (j := k + 24) (by omega))
      have Hd18 := Lib.hid ((Hd17.out.alloc _).trans hd18)
      clear hc18 hd18
      have qE0 := E.out.cell 0
      have qE1 := E.out.cell 1
      simp at qE0 qE1
      have qEl := E.out.lt
      have qEf := E.out.frozen
      go_wp2_with fail
      refine (ecGood_any a2 b2 _).mono ?_; rintro e w19 ⟨rfl, hd19⟩
      clear qE0 qE1 qEl qEf
      have S19 := Lib.hid (show w18.heap.size + 0 ≤ w19.heap.size by have h9 := hd19.size; (try simp only [World.size_alloc, World.size_setCell] at h9); omega)
      have NR := Lib.hid (((R.out.far (p := ⟨w6.heap.size, 0, none⟩) (show w.heap.size ≠ w6.heap.size by have := Hgl.out; have := S1.out; have := S2.out; have := S3.out; have := S4.out; have := S5.out; have := S6.out; have := S7.out; have := S13.out; have := S14.out; have := S15.out; have := S17.out; have := S18.out; have := S19.out; omega) (.int .i64 a2)).far (p := ⟨w6.heap.size, 1, none⟩) (show w.heap.size ≠ w6.heap.size by have := Hgl.out; have := S1.out; have := S2.out; have := S3.out; have := S4.out; have := S5.out; have := S6.out; have := S7.out; have := S13.out; have := S14.out; have := S15.out; have := S17.out; have := S18.out; have := S19.out; omega) (.int .i64 b2)).dg (Dg.of_below (g := g) hd19) (show w.heap.size ≠ g by have := Hgl.out; have := S1.out; have := S2.out; have := S3.out; have := S4.out; have := S5.out; have := S6.out; have := S7.out; have := S13.out; have := S14.out; have := S15.out; have := S17.out; have := S18.out; have := S19.out; omega))
      have NE := Lib.hid ((show Blk (World.setCell (World.setCell w18 ⟨w6.heap.size, 0, none⟩ (.int .i64 a2)) ⟨w6.heap.size, 1, none⟩ (.int .i64 b2)) (w6.heap.size) 25 #[.int .i64 a2, .int .i64 b2] by have h9 := ((E.out.set 0 (.int .i64 a2)).set 1 (.int .i64 b2)); simpa using h9).dg (Dg.of_below (g := g) hd19) (show w6.heap.size ≠ g by have := Hgl.out; have := S1.out; have := S2.out; have := S3.out; have := S4.out; have := S5.out; have := S6.out; have := S7.out; have := S13.out; have := S14.out; have := S15.out; have := S17.out; have := S18.out; have := S19.out; omega))
      have R := NR; clear NR
      have E := NE; clear NE
      have Hc19 := Lib.hid (((Hc18.out.st (p := ⟨w6.heap.size, 0, none⟩) (show g < w6.heap.size by have := Hgl.out; have := S1.out; have := S2.out; have := S3.out; have := S4.out; have := S5.out; have := S6.out; have := S7.out; have := S13.out; have := S14.out; have := S15.out; have := S17.out; have := S18.out; have := S19.out; omega) (.int .i64 a2)).st (p := ⟨w6.heap.size, 1, none⟩) (show g < w6.heap.size by have := Hgl.out; have := S1.out; have := S2.out; have := S3.out; have := S4.out; have := S5.out; have := S6.out; have := S7.out; have := S13.out; have := S14.out; have := S15.out; have := S17.out; have := S18.out; have := S19.out; omega) (.int .i64 b2)).on hd19)
      have Hd19 := Lib.hid (((Hd18.out.st (p := ⟨w6.heap.size, 0, none⟩) (show w.heap.size ≤ w6.heap.size by have := Hgl.out; have := S1.out; have := S2.out; have := S3.out; have := S4.out; have := S5.out; have := S6.out; have := S7.out; have := S13.out; have := S14.out; have := S15.out; have := S17.out; have := S18.out; have := S19.out; omega) (.int .i64 a2)).st (p := ⟨w6.heap.size, 1, none⟩) (show w.heap.size ≤ w6.heap.size by have := Hgl.out; have := S1.out; have := S2.out; have := S3.out; have := S4.out; have := S5.out; have := S6.out; have := S7.out; have := S13.out; have := S14.out; have := S15.out; have := S17.out; have := S18.out; have := S19.out; omega) (.int .i64 b2)).trans (Dg.of_below (g := g) hd19))
      clear hd19
      cases hg : curveB a2 b2
      · clear hg
        have qE0 := E.out.cell 0
        have qE1 := E.out.cell 1
        simp at qE0 qE1
        have qEl := E.out.lt
        have qR0 := R.out.cell 0
        have qR1 := R.out.cell 1
        simp at qR0 qR1
        have qRl := R.out.lt
        have qRf := R.out.frozen
        have nER : w6.heap.size ≠ w.heap.size := by have := Hgl.out; have := S1.out; have := S2.out; have := S3.out; have := S4.out; have := S5.out; have := S6.out; have := S7.out; have := S13.out; have := S14.out; have := S15.out; have := S17.out; have := S18.out; have := S19.out; omega
        have nRE : w.heap.size ≠ w6.heap.size := fun e => nER e.symm
        go_wp2
        clear qE0 qE1 qEl qR0 qR1 qRl qRf nER nRE
        have HR9 := (show Blk (World.setCell (World.setCell w19 ⟨w.heap.size, 0, none⟩ (.int .i64 (-16))) ⟨w.heap.size, 1, none⟩ (.int .i64 16)) (w.heap.size) 25 #[.int .i64 (-16), .int .i64 16] by have h9 := ((R.out.set 0 (.int .i64 (-16))).set 1 (.int .i64 16)); simpa using h9)
        have k0 := HR9.cell 0
        have k1 := HR9.cell 1
        simp at k0 k1
        exact bodyPost_ret (v := .agg #[.int .i64 (-16), .int .i64 16]) (by simp [results, Tryz.results206, go_sem, k0, k1]) rfl ⟨⟨-16, 16, rfl⟩, ((Hc19.out.st (p := ⟨w.heap.size, 0, none⟩) (show g < w.heap.size by have := Hgl.out; have := S1.out; have := S2.out; have := S3.out; have := S4.out; have := S5.out; have := S6.out; have := S7.out; have := S13.out; have := S14.out; have := S15.out; have := S17.out; have := S18.out; have := S19.out; omega) (.int .i64 (-16))).st (p := ⟨w.heap.size, 1, none⟩) (show g < w.heap.size by have := Hgl.out; have := S1.out; have := S2.out; have := S3.out; have := S4.out; have := S5.out; have := S6.out; have := S7.out; have := S13.out; have := S14.out; have := S15.out; have := S17.out; have := S18.out; have := S19.out; omega) (.int .i64 16)).mono (by omega), ((Hd19.out.st (p := ⟨w.heap.size, 0, none⟩) (show w.heap.size ≤ w.heap.size by have := Hgl.out; have := S1.out; have := S2.out; have := S3.out; have := S4.out; have := S5.out; have := S6.out; have := S7.out; have := S13.out; have := S14.out; have := S15.out; have := S17.out; have := S18.out; have := S19.out; omega) (.int .i64 (-16))).st (p := ⟨w.heap.size, 1, none⟩) (show w.heap.size ≤ w.heap.size by have := Hgl.out; have := S1.out; have := S2.out; have := S3.out; have := S4.out; have := S5.out; have := S6.out; have := S7.out; have := S13.out; have := S14.out; have := S15.out; have := S17.out; have := S18.out; have := S19.out; omega) (.int .i64 16))⟩
      · clear hg
        have qE0 := E.out.cell 0
        have qE1 := E.out.cell 1
        simp at qE0 qE1
        have qEl := E.out.lt
        have qR0 := R.out.cell 0
        have qR1 := R.out.cell 1
        simp at qR0 qR1
        have qRl := R.out.lt
        have qRf := R.out.frozen
        have nER : w6.heap.size ≠ w.heap.size := by have := Hgl.out; have := S1.out; have := S2.out; have := S3.out; have := S4.out; have := S5.out; have := S6.out; have := S7.out; have := S13.out; have := S14.out; have := S15.out; have := S17.out; have := S18.out; have := S19.out; omega
        have nRE : w.heap.size ≠ w6.heap.size := fun e => nER e.symm
        go_wp2
        clear qE0 qE1 qEl qR0 qR1 qRl qRf nER nRE
        have HR9 := (show Blk (World.setCell (World.setCell w19 ⟨w.heap.size, 0, none⟩ (.int .i64 a2)) ⟨w.heap.size, 1, none⟩ (.int .i64 b2)) (w.heap.size) 25 #[.int .i64 a2, .int .i64 b2] by have h9 := ((R.out.set 0 (.int .i64 a2)).set 1 (.int .i64 b2)); simpa using h9)
        have k0 := HR9.cell 0
        have k1 := HR9.cell 1
        simp at k0 k1
        exact bodyPost_ret (v := .agg #[.int .i64 a2, .int .i64 b2]) (by simp [results, Tryz.results206, go_sem, k0, k1]) rfl ⟨⟨_, _, rfl⟩, ((Hc19.out.st (p := ⟨w.heap.size, 0, none⟩) (show g < w.heap.size by have := Hgl.out; have := S1.out; have := S2.out; have := S3.out; have := S4.out; have := S5.out; have := S6.out; have := S7.out; have := S13.out; have := S14.out; have := S15.out; have := S17.out; have := S18.out; have := S19.out; omega) (.int .i64 a2)).st (p := ⟨w.heap.size, 1, none⟩) (show g < w.heap.size by have := Hgl.out; have := S1.out; have := S2.out; have := S3.out; have := S4.out; have := S5.out; have := S6.out; have := S7.out; have := S13.out; have := S14.out; have := S15.out; have := S17.out; have := S18.out; have := S19.out; omega) (.int .i64 b2)).mono (by omega), ((Hd19.out.st (p := ⟨w.heap.size, 0, none⟩) (show w.heap.size ≤ w.heap.size by have := Hgl.out; have := S1.out; have := S2.out; have := S3.out; have := S4.out; have := S5.out; have := S6.out; have := S7.out; have := S13.out; have := S14.out; have := S15.out; have := S17.out; have := S18.out; have := S19.out; omega) (.int .i64 a2)).st (p := ⟨w.heap.size, 1, none⟩) (show w.heap.size ≤ w.heap.size by have := Hgl.out; have := S1.out; have := S2.out; have := S3.out; have := S4.out; have := S5.out; have := S6.out; have := S7.out; have := S13.out; have := S14.out; have := S15.out; have := S17.out; have := S18.out; have := S19.out; omega) (.int .i64 b2))⟩
set_option linter.unusedSimpArgs false in
set_option maxRecDepth 8000 in
set_option maxHeartbeats 8000000 in
theorem anyCurve_any (g k : Nat) (w : World) (hc : Cur w g k) (hk : k ≤ 700000) :
    Calls Tryz.prog 160 #[.pointer (some ⟨g, 0, none⟩)] w fun e w' => (∃ a b : Int, e = .returned (.agg #[.int .i64 a, .int .i64 b])) ∧ Cur w' g (k + 40) ∧ Dg g w w' := by
  have Hgl := Lib.hid hc.lt
  have Hc := Lib.hid hc; have Hk := Lib.hid hk; have Hd := Lib.hid (Dg.refl g w); clear hc hk
  go_enter Tryz.func160, Tryz.ntmps160
  go_wp2_with fail
  refine (curve_any g k _ (Hc.out.alloc _) (by have := Hk.out; omega)).mono ?_; rintro e w1 ⟨⟨a, b, rfl⟩, hc1, hd1⟩
  have S1 := Lib.hid (show w.heap.size + 1 ≤ w1.heap.size by have h9 := hd1.size; (try simp only [World.size_alloc, World.size_setCell] at h9); omega)
  have NR := Lib.hid ((Blk.new w 25 #[.int .i64 0, .int .i64 0]).dg hd1 (show w.heap.size ≠ g by have := Hgl.out; have := S1.out; omega))
  have R := NR; clear NR
  have Hc1 := Lib.hid (hc1.mono (j := k + 30) (by omega))
  have Hd1 := Lib.hid ((Hd.out.alloc _).trans hd1)
  clear hc1 hd1
  go_wp2_with fail
  refine (pick_any g (k + 30) (30) _ (Hc1.out.alloc _) (by have := Hk.out; omega)).mono ?_; rintro e w2 ⟨⟨x, lx, ux, rfl⟩, hc2, hd2⟩
  have S2 := Lib.hid (show w1.heap.size + 1 ≤ w2.heap.size by have h9 := hd2.size; (try simp only [World.size_alloc, World.size_setCell] at h9); omega)
  have NR := Lib.hid ((R.out.alloc _).dg hd2 (show w.heap.size ≠ g by have := Hgl.out; have := S1.out; have := S2.out; omega))
  have NE := Lib.hid ((Blk.new w1 25 #[.int .i64 a, .int .i64 b]).dg hd2 (show w1.heap.size ≠ g by have := Hgl.out; have := S1.out; have := S2.out; omega))
  have R := NR; clear NR
  have E := NE; clear NE
  have Hc2 := Lib.hid (hc2.mono (j := k + 32) (by omega))
  have Hd2 := Lib.hid ((Hd1.out.alloc _).trans hd2)
  clear hc2 hd2
  by_cases ex0 : x = 0
  · have zx0 : (x == 0) = true := by rw [ex0]; rfl
    clear ex0
    go_wp2_with fail
    refine (among_lit g (k + 32) (w2.heap.size) [-1001, -1000, 1000, 1001, -9223372036854775808] w2 (by simp) Hc2.out (by simp) (by simp) (by have := Hk.out; omega)).mono ?_; rintro e w3 ⟨⟨a2, ha2, rfl⟩, hc3, hd3⟩
    have S3 := Lib.hid (show w2.heap.size + 1 ≤ w3.heap.size by have h9 := hd3.size; (try simp only [World.size_alloc, World.size_setCell] at h9); omega)
    have NR := Lib.hid ((R.out.alloc _).dg hd3 (show w.heap.size ≠ g by have := Hgl.out; have := S1.out; have := S2.out; have := S3.out; omega))
    have NE := Lib.hid ((E.out.alloc _).dg hd3 (show w1.heap.size ≠ g by have := Hgl.out; have := S1.out; have := S2.out; have := S3.out; omega))
    have R := NR; clear NR
    have E := NE; clear NE
    have Hc3 := Lib.hid (hc3.mono (j := k + 34) (by omega))
    have Hd3 := Lib.hid ((Hd2.out.alloc _).trans hd3)
    clear hc3 hd3
    have qE0 := E.out.cell 0
    have qE1 := E.out.cell 1
    simp at qE0 qE1
    have qEl := E.out.lt
    have qEf := E.out.frozen
    have qR0 := R.out.cell 0
    have qR1 := R.out.cell 1
    simp at qR0 qR1
    have qRl := R.out.lt
    have qRf := R.out.frozen
    have nER : w1.heap.size ≠ w.heap.size := by have := Hgl.out; have := S1.out; have := S2.out; have := S3.out; omega
    have nRE : w.heap.size ≠ w1.heap.size := fun e => nER e.symm
    go_wp2
    clear qE0 qE1 qEl qEf qR0 qR1 qRl qRf nER nRE
    have HR9 := (show Blk (World.setCell (World.setCell (World.setCell w3 ⟨w1.heap.size, 0, none⟩ (.int .i64 a2)) ⟨w.heap.size, 0, none⟩ (.int .i64 a2)) ⟨w.heap.size, 1, none⟩ (.int .i64 b)) (w.heap.size) 25 #[.int .i64 a2, .int .i64 b] by have h9 := (((R.out.far (p := ⟨w1.heap.size, 0, none⟩) (show w.heap.size ≠ w1.heap.size by have := Hgl.out; have := S1.out; have := S2.out; have := S3.out; omega) (.int .i64 a2)).set 0 (.int .i64 a2)).set 1 (.int .i64 b)); simpa using h9)
    have k0 := HR9.cell 0
    have k1 := HR9.cell 1
    simp at k0 k1
    exact bodyPost_ret (v := .agg #[.int .i64 a2, .int .i64 b]) (by simp [results, Tryz.results160, go_sem, k0, k1]) rfl ⟨⟨_, _, rfl⟩, (((Hc3.out.st (p := ⟨w1.heap.size, 0, none⟩) (show g < w1.heap.size by have := Hgl.out; have := S1.out; have := S2.out; have := S3.out; omega) (.int .i64 a2)).st (p := ⟨w.heap.size, 0, none⟩) (show g < w.heap.size by have := Hgl.out; have := S1.out; have := S2.out; have := S3.out; omega) (.int .i64 a2)).st (p := ⟨w.heap.size, 1, none⟩) (show g < w.heap.size by have := Hgl.out; have := S1.out; have := S2.out; have := S3.out; omega) (.int .i64 b)).mono (by omega), (((Hd3.out.st (p := ⟨w1.heap.size, 0, none⟩) (show w.heap.size ≤ w1.heap.size by have := Hgl.out; have := S1.out; have := S2.out; have := S3.out; omega) (.int .i64 a2)).st (p := ⟨w.heap.size, 0, none⟩) (show w.heap.size ≤ w.heap.size by have := Hgl.out; have := S1.out; have := S2.out; have := S3.out; omega) (.int .i64 a2)).st (p := ⟨w.heap.size, 1, none⟩) (show w.heap.size ≤ w.heap.size by have := Hgl.out; have := S1.out; have := S2.out; have := S3.out; omega) (.int .i64 b))⟩
  · by_cases ex1 : x = 1
    · have zx1 : (x == 1) = true := by rw [ex1]; rfl
      have zx0 : (x == 0) = false := by rw [ex1]; rfl
      clear ex0 ex1
      go_wp2_with fail
      refine (among_lit g (k + 32) (w2.heap.size) [-10001, -10000, 10000, 10001, 9223372036854775807] w2 (by simp) Hc2.out (by simp) (by simp) (by have := Hk.out; omega)).mono ?_; rintro e w4 ⟨⟨b2, hb2, rfl⟩, hc4, hd4⟩
      have S4 := Lib.hid (show w2.heap.size + 1 ≤ w4.heap.size by have h9 := hd4.size; (try simp only [World.size_alloc, World.size_setCell] at h9); omega)
      have NR := Lib.hid ((R.out.alloc _).dg hd4 (show w.heap.size ≠ g by have := Hgl.out; have := S1.out; have := S2.out; have := S4.out; omega))
      have NE := Lib.hid ((E.out.alloc _).dg hd4 (show w1.heap.size ≠ g by have := Hgl.out; have := S1.out; have := S2.out; have := S4.out; omega))
      have R := NR; clear NR
      have E := NE; clear NE
      have Hc4 := Lib.hid (hc4.mono (j := k + 34) (by omega))
      have Hd4 := Lib.hid ((Hd2.out.alloc _).trans hd4)
      clear hc4 hd4
      have qE0 := E.out.cell 0
      have qE1 := E.out.cell 1
      simp at qE0 qE1
      have qEl := E.out.lt
      have qEf := E.out.frozen
      have qR0 := R.out.cell 0
      have qR1 := R.out.cell 1
      simp at qR0 qR1
      have qRl := R.out.lt
      have qRf := R.out.frozen
      have nER : w1.heap.size ≠ w.heap.size := by have := Hgl.out; have := S1.out; have := S2.out; have := S4.out; omega
      have nRE : w.heap.size ≠ w1.heap.size := fun e => nER e.symm
      go_wp2
      clear qE0 qE1 qEl qEf qR0 qR1 qRl qRf nER nRE
      have HR9 := (show Blk (World.setCell (World.setCell (World.setCell w4 ⟨w1.heap.size, 1, none⟩ (.int .i64 b2)) ⟨w.heap.size, 0, none⟩ (.int .i64 a)) ⟨w.heap.size, 1, none⟩ (.int .i64 b2)) (w.heap.size) 25 #[.int .i64 a, .int .i64 b2] by have h9 := (((R.out.far (p := ⟨w1.heap.size, 1, none⟩) (show w.heap.size ≠ w1.heap.size by have := Hgl.out; have := S1.out; have := S2.out; have := S4.out; omega) (.int .i64 b2)).set 0 (.int .i64 a)).set 1 (.int .i64 b2)); simpa using h9)
      have k0 := HR9.cell 0
      have k1 := HR9.cell 1
      simp at k0 k1
      exact bodyPost_ret (v := .agg #[.int .i64 a, .int .i64 b2]) (by simp [results, Tryz.results160, go_sem, k0, k1]) rfl ⟨⟨_, _, rfl⟩, (((Hc4.out.st (p := ⟨w1.heap.size, 1, none⟩) (show g < w1.heap.size by have := Hgl.out; have := S1.out; have := S2.out; have := S4.out; omega) (.int .i64 b2)).st (p := ⟨w.heap.size, 0, none⟩) (show g < w.heap.size by have := Hgl.out; have := S1.out; have := S2.out; have := S4.out; omega) (.int .i64 a)).st (p := ⟨w.heap.size, 1, none⟩) (show g < w.heap.size by have := Hgl.out; have := S1.out; have := S2.out; have := S4.out; omega) (.int .i64 b2)).mono (by omega), (((Hd4.out.st (p := ⟨w1.heap.size, 1, none⟩) (show w.heap.size ≤ w1.heap.size by have := Hgl.out; have := S1.out; have := S2.out; have := S4.out; omega) (.int .i64 b2)).st (p := ⟨w.heap.size, 0, none⟩) (show w.heap.size ≤ w.heap.size by have := Hgl.out; have := S1.out; have := S2.out; have := S4.out; omega) (.int .i64 a)).st (p := ⟨w.heap.size, 1, none⟩) (show w.heap.size ≤ w.heap.size by have := Hgl.out; have := S1.out; have := S2.out; have := S4.out; omega) (.int .i64 b2))⟩
    · by_cases ex2 : x = 2
      · have zx2 : (x == 2) = true := by rw [ex2]; rfl
        have zx0 : (x == 0) = false := by rw [ex2]; rfl
        have zx1 : (x == 1) = false := by rw [ex2]; rfl
        clear ex0 ex1 ex2
        go_wp2_with fail
        refine (among_lit g (k + 32) (w2.heap.size) [0, -3, -12] w2 (by simp) Hc2.out (by simp) (by simp) (by have := Hk.out; omega)).mono ?_; rintro e w5 ⟨⟨a2, ha2, rfl⟩, hc5, hd5⟩
        have S5 := Lib.hid (show w2.heap.size + 1 ≤ w5.heap.size by have h9 := hd5.size; (try simp only [World.size_alloc, World.size_setCell] at h9); omega)
        have NR := Lib.hid ((R.out.alloc _).dg hd5 (show w.heap.size ≠ g by have := Hgl.out; have := S1.out; have := S2.out; have := S5.out; omega))
        have NE := Lib.hid ((E.out.alloc _).dg hd5 (show w1.heap.size ≠ g by have := Hgl.out; have := S1.out; have := S2.out; have := S5.out; omega))
        have R := NR; clear NR
        have E := NE; clear NE
        have Hc5 := Lib.hid (hc5.mono (j := k + 34) (by omega))
        have Hd5 := Lib.hid ((Hd2.out.alloc _).trans hd5)
        clear hc5 hd5
        go_wp2_with fail
        refine (among_lit g (k + 34) (w5.heap.size) [0, 2, 16] w5 (by simp) Hc5.out (by simp) (by simp) (by have := Hk.out; omega)).mono ?_; rintro e w6 ⟨⟨b2, hb2, rfl⟩, hc6, hd6⟩
        have S6 := Lib.hid (show w5.heap.size + 1 ≤ w6.heap.size by have h9 := hd6.size; (try simp only [World.size_alloc, World.size_setCell] at h9); omega)
        have NR := Lib.hid ((R.out.alloc _).dg hd6 (show w.heap.size ≠ g by have := Hgl.out; have := S1.out; have := S2.out; have := S5.out; have := S6.out; omega))
        have NE := Lib.hid ((E.out.alloc _).dg hd6 (show w1.heap.size ≠ g by have := Hgl.out; have := S1.out; have := S2.out; have := S5.out; have := S6.out; omega))
        have R := NR; clear NR
        have E := NE; clear NE
        have Hc6 := Lib.hid (hc6.mono (j := k + 36) (by omega))
        have Hd6 := Lib.hid ((Hd5.out.alloc _).trans hd6)
        clear hc6 hd6
        have qE0 := E.out.cell 0
        have qE1 := E.out.cell 1
        simp at qE0 qE1
        have qEl := E.out.lt
        have qEf := E.out.frozen
        have qR0 := R.out.cell 0
        have qR1 := R.out.cell 1
        simp at qR0 qR1
        have qRl := R.out.lt
        have qRf := R.out.frozen
        have nER : w1.heap.size ≠ w.heap.size := by have := Hgl.out; have := S1.out; have := S2.out; have := S5.out; have := S6.out; omega
        have nRE : w.heap.size ≠ w1.heap.size := fun e => nER e.symm
        go_wp2
        clear qE0 qE1 qEl qEf qR0 qR1 qRl qRf nER nRE
        have HR9 := (show Blk (World.setCell (World.setCell (World.setCell (World.setCell w6 ⟨w1.heap.size, 0, none⟩ (.int .i64 a2)) ⟨w1.heap.size, 1, none⟩ (.int .i64 b2)) ⟨w.heap.size, 0, none⟩ (.int .i64 a2)) ⟨w.heap.size, 1, none⟩ (.int .i64 b2)) (w.heap.size) 25 #[.int .i64 a2, .int .i64 b2] by have h9 := ((((R.out.far (p := ⟨w1.heap.size, 0, none⟩) (show w.heap.size ≠ w1.heap.size by have := Hgl.out; have := S1.out; have := S2.out; have := S5.out; have := S6.out; omega) (.int .i64 a2)).far (p := ⟨w1.heap.size, 1, none⟩) (show w.heap.size ≠ w1.heap.size by have := Hgl.out; have := S1.out; have := S2.out; have := S5.out; have := S6.out; omega) (.int .i64 b2)).set 0 (.int .i64 a2)).set 1 (.int .i64 b2)); simpa using h9)
        have k0 := HR9.cell 0
        have k1 := HR9.cell 1
        simp at k0 k1
        exact bodyPost_ret (v := .agg #[.int .i64 a2, .int .i64 b2]) (by simp [results, Tryz.results160, go_sem, k0, k1]) rfl ⟨⟨_, _, rfl⟩, ((((Hc6.out.st (p := ⟨w1.heap.size, 0, none⟩) (show g < w1.heap.size by have := Hgl.out; have := S1.out; have := S2.out; have := S5.out; have := S6.out; omega) (.int .i64 a2)).st (p := ⟨w1.heap.size, 1, none⟩) (show g < w1.heap.size by have := Hgl.out; have := S1.out; have := S2.out; have := S5.out; have := S6.out; omega) (.int .i64 b2)).st (p := ⟨w.heap.size, 0, none⟩) (show g < w.heap.size by have := Hgl.out; have := S1.out; have := S2.out; have := S5.out; have := S6.out; omega) (.int .i64 a2)).st (p := ⟨w.heap.size, 1, none⟩) (show g < w.heap.size by have := Hgl.out; have := S1.out; have := S2.out; have := S5.out; have := S6.out; omega) (.int .i64 b2)).mono (by omega), ((((Hd6.out.st (p := ⟨w1.heap.size, 0, none⟩) (show w.heap.size ≤ w1.heap.size by have := Hgl.out; have := S1.out; have := S2.out; have := S5.out; have := S6.out; omega) (.int .i64 a2)).st (p := ⟨w1.heap.size, 1, none⟩) (show w.heap.size ≤ w1.heap.size by have := Hgl.out; have := S1.out; have := S2.out; have := S5.out; have := S6.out; omega) (.int .i64 b2)).st (p := ⟨w.heap.size, 0, none⟩) (show w.heap.size ≤ w.heap.size by have := Hgl.out; have := S1.out; have := S2.out; have := S5.out; have := S6.out; omega) (.int .i64 a2)).st (p := ⟨w.heap.size, 1, none⟩) (show w.heap.size ≤ w.heap.size by have := Hgl.out; have := S1.out; have := S2.out; have := S5.out; have := S6.out; omega) (.int .i64 b2))⟩
      · have zx0 : (x == 0) = false := beq_eq_false_iff_ne.2 ex0
        have zx1 : (x == 1) = false := beq_eq_false_iff_ne.2 ex1
        have zx2 : (x == 2) = false := beq_eq_false_iff_ne.2 ex2
        clear ex0 ex1 ex2
        have qE0 := E.out.cell 0
        have qE1 := E.out.cell 1
        simp at qE0 qE1
        have qEl := E.out.lt
        have qR0 := R.out.cell 0
        have qR1 := R.out.cell 1
        simp at qR0 qR1
        have qRl := R.out.lt
        have qRf := R.out.frozen
        have nER : w1.heap.size ≠ w.heap.size := by have := Hgl.out; have := S1.out; have := S2.out; omega
        have nRE : w.heap.size ≠ w1.heap.size := fun e => nER e.symm
        go_wp2
        clear qE0 qE1 qEl qR0 qR1 qRl qRf nER nRE
        have HR9 := (show Blk (World.setCell (World.setCell w2 ⟨w.heap.size, 0, none⟩ (.int .i64 a)) ⟨w.heap.size, 1, none⟩ (.int .i64 b)) (w.heap.size) 25 #[.int .i64 a, .int .i64 b] by have h9 := ((R.out.set 0 (.int .i64 a)).set 1 (.int .i64 b)); simpa using h9)
        have k0 := HR9.cell 0
        have k1 := HR9.cell 1
        simp at k0 k1
        exact bodyPost_ret (v := .agg #[.int .i64 a, .int .i64 b]) (by simp [results, Tryz.results160, go_sem, k0, k1]) rfl ⟨⟨_, _, rfl⟩, ((Hc2.out.st (p := ⟨w.heap.size, 0, none⟩) (show g < w.heap.size by have := Hgl.out; have := S1.out; have := S2.out; omega) (.int .i64 a)).st (p := ⟨w.heap.size, 1, none⟩) (show g < w.heap.size by have := Hgl.out; have := S1.out; have := S2.out; omega) (.int .i64 b)).mono (by omega), ((Hd2.out.st (p := ⟨w.heap.size, 0, none⟩) (show w.heap.size ≤ w.heap.size by have := Hgl.out; have := S1.out; have := S2.out; omega) (.int .i64 a)).st (p := ⟨w.heap.size, 1, none⟩) (show w.heap.size ≤ w.heap.size by have := Hgl.out; have := S1.out; have := S2.out; omega) (.int .i64 b))⟩
set_option linter.unusedSimpArgs false in
set_option maxRecDepth 8000 in
set_option maxHeartbeats 8000000 in
theorem anyEntry_any (g k : Nat) (w : World) (hc : Cur w g k) (hk : k ≤ 600000) :
    Calls Tryz.prog 83 #[.pointer (some ⟨g, 0, none⟩)] w fun e w' => (∃ a b lo hi t : Int, e = .returned (.agg #[.int .i64 a, .int .i64 b, .int .i64 lo, .int .i64 hi, .int .i64 t])) ∧ Cur w' g (k + 60) ∧ Dg g w w' := by
  have Hgl := Lib.hid hc.lt
  have Hc := Lib.hid hc; have Hk := Lib.hid hk; have Hd := Lib.hid (Dg.refl g w); clear hc hk
  go_enter Tryz.func83, Tryz.ntmps83
  go_wp2_with fail
  refine (entry_any g k _ (Hc.out.alloc _) (by have := Hk.out; omega)).mono ?_; rintro e w1 ⟨⟨a, b, lo, hi, t, b1, b2, b3, b4, rfl⟩, hc1, hd1⟩
  have S1 := Lib.hid (show w.heap.size + 1 ≤ w1.heap.size by have h9 := hd1.size; (try simp only [World.size_alloc, World.size_setCell] at h9); omega)
  have NR := Lib.hid ((Blk.new w 29 #[.int .i64 0, .int .i64 0, .int .i64 0, .int .i64 0, .int .i64 0]).dg hd1 (show w.heap.size ≠ g by have := Hgl.out; have := S1.out; omega))
  have R := NR; clear NR
  have Hc1 := Lib.hid (hc1.mono (j := k + 14) (by omega))
  have Hd1 := Lib.hid ((Hd.out.alloc _).trans hd1)
  clear hc1 hd1
  go_wp2_with fail
  refine (pick_any g (k + 14) (30) _ (Hc1.out.alloc _) (by have := Hk.out; omega)).mono ?_; rintro e w2 ⟨⟨x, lx, ux, rfl⟩, hc2, hd2⟩
  have S2 := Lib.hid (show w1.heap.size + 1 ≤ w2.heap.size by have h9 := hd2.size; (try simp only [World.size_alloc, World.size_setCell] at h9); omega)
  have NR := Lib.hid ((R.out.alloc _).dg hd2 (show w.heap.size ≠ g by have := Hgl.out; have := S1.out; have := S2.out; omega))
  have NE := Lib.hid ((Blk.new w1 29 #[.int .i64 a, .int .i64 b, .int .i64 lo, .int .i64 hi, .int .i64 t]).dg hd2 (show w1.heap.size ≠ g by have := Hgl.out; have := S1.out; have := S2.out; omega))
  have R := NR; clear NR
  have E := NE; clear NE
  have Hc2 := Lib.hid (hc2.mono (j := k + 16) (by omega))
  have Hd2 := Lib.hid ((Hd1.out.alloc _).trans hd2)
  clear hc2 hd2
  by_cases ex0 : x = 0
  · have zx0 : (x == 0) = true := by rw [ex0]; rfl
    clear ex0
    have qE0 := E.out.cell 0
    have qE1 := E.out.cell 1
    have qE2 := E.out.cell 2
    have qE3 := E.out.cell 3
    have qE4 := E.out.cell 4
    simp at qE0 qE1 qE2 qE3 qE4
    have qEl := E.out.lt
    go_wp2_with fail
    refine (among_lit g (k + 16) (w2.heap.size) [-1, (hi + 1)] w2 (by simp) Hc2.out (by simp) (by simp) (by have := Hk.out; omega)).mono ?_; rintro e w3 ⟨⟨y, hy, rfl⟩, hc3, hd3⟩
    clear qE0 qE1 qE2 qE3 qE4 qEl
    have S3 := Lib.hid (show w2.heap.size + 1 ≤ w3.heap.size by have h9 := hd3.size; (try simp only [World.size_alloc, World.size_setCell] at h9); omega)
    have NR := Lib.hid ((R.out.alloc _).dg hd3 (show w.heap.size ≠ g by have := Hgl.out; have := S1.out; have := S2.out; have := S3.out; omega))
    have NE := Lib.hid ((E.out.alloc _).dg hd3 (show w1.heap.size ≠ g by have := Hgl.out; have := S1.out; have := S2.out; have := S3.out; omega))
    have R := NR; clear NR
    have E := NE; clear NE
    have Hc3 := Lib.hid (hc3.mono (j := k + 18) (by omega))
    have Hd3 := Lib.hid ((Hd2.out.alloc _).trans hd3)
    clear hc3 hd3
    have qE0 := E.out.cell 0
    have qE1 := E.out.cell 1
    have qE2 := E.out.cell 2
    have qE3 := E.out.cell 3
    have qE4 := E.out.cell 4
    simp at qE0 qE1 qE2 qE3 qE4
    have qEl := E.out.lt
    have qEf := E.out.frozen
    have qR0 := R.out.cell 0
    have qR1 := R.out.cell 1
    have qR2 := R.out.cell 2
    have qR3 := R.out.cell 3
    have qR4 := R.out.cell 4
    simp at qR0 qR1 qR2 qR3 qR4
    have qRl := R.out.lt
    have qRf := R.out.frozen
    have nER : w1.heap.size ≠ w.heap.size := by have := Hgl.out; have := S1.out; have := S2.out; have := S3.out; omega
    have nRE : w.heap.size ≠ w1.heap.size := fun e => nER e.symm
    go_wp2
    clear qE0 qE1 qE2 qE3 qE4 qEl qEf qR0 qR1 qR2 qR3 qR4 qRl qRf nER nRE
    have HR9 := (show Blk (World.setCell (World.setCell (World.setCell (World.setCell (World.setCell (World.setCell w3 ⟨w1.heap.size, 2, none⟩ (.int .i64 y)) ⟨w.heap.size, 0, none⟩ (.int .i64 a)) ⟨w.heap.size, 1, none⟩ (.int .i64 b)) ⟨w.heap.size, 2, none⟩ (.int .i64 y)) ⟨w.heap.size, 3, none⟩ (.int .i64 hi)) ⟨w.heap.size, 4, none⟩ (.int .i64 t)) (w.heap.size) 29 #[.int .i64 a, .int .i64 b, .int .i64 y, .int .i64 hi, .int .i64 t] by have h9 := ((((((R.out.far (p := ⟨w1.heap.size, 2, none⟩) (show w.heap.size ≠ w1.heap.size by have := Hgl.out; have := S1.out; have := S2.out; have := S3.out; omega) (.int .i64 y)).set 0 (.int .i64 a)).set 1 (.int .i64 b)).set 2 (.int .i64 y)).set 3 (.int .i64 hi)).set 4 (.int .i64 t)); simpa using h9)
    have k0 := HR9.cell 0
    have k1 := HR9.cell 1
    have k2 := HR9.cell 2
    have k3 := HR9.cell 3
    have k4 := HR9.cell 4
    simp at k0 k1 k2 k3 k4
    exact bodyPost_ret (v := .agg #[.int .i64 a, .int .i64 b, .int .i64 y, .int .i64 hi, .int .i64 t]) (by simp [results, Tryz.results83, go_sem, k0, k1, k2, k3, k4]) rfl ⟨⟨_, _, _, _, _, rfl⟩, ((((((Hc3.out.st (p := ⟨w1.heap.size, 2, none⟩) (show g < w1.heap.size by have := Hgl.out; have := S1.out; have := S2.out; have := S3.out; omega) (.int .i64 y)).st (p := ⟨w.heap.size, 0, none⟩) (show g < w.heap.size by have := Hgl.out; have := S1.out; have := S2.out; have := S3.out; omega) (.int .i64 a)).st (p := ⟨w.heap.size, 1, none⟩) (show g < w.heap.size by have := Hgl.out; have := S1.out; have := S2.out; have := S3.out; omega) (.int .i64 b)).st (p := ⟨w.heap.size, 2, none⟩) (show g < w.heap.size by have := Hgl.out; have := S1.out; have := S2.out; have := S3.out; omega) (.int .i64 y)).st (p := ⟨w.heap.size, 3, none⟩) (show g < w.heap.size by have := Hgl.out; have := S1.out; have := S2.out; have := S3.out; omega) (.int .i64 hi)).st (p := ⟨w.heap.size, 4, none⟩) (show g < w.heap.size by have := Hgl.out; have := S1.out; have := S2.out; have := S3.out; omega) (.int .i64 t)).mono (by omega), ((((((Hd3.out.st (p := ⟨w1.heap.size, 2, none⟩) (show w.heap.size ≤ w1.heap.size by have := Hgl.out; have := S1.out; have := S2.out; have := S3.out; omega) (.int .i64 y)).st (p := ⟨w.heap.size, 0, none⟩) (show w.heap.size ≤ w.heap.size by have := Hgl.out; have := S1.out; have := S2.out; have := S3.out; omega) (.int .i64 a)).st (p := ⟨w.heap.size, 1, none⟩) (show w.heap.size ≤ w.heap.size by have := Hgl.out; have := S1.out; have := S2.out; have := S3.out; omega) (.int .i64 b)).st (p := ⟨w.heap.size, 2, none⟩) (show w.heap.size ≤ w.heap.size by have := Hgl.out; have := S1.out; have := S2.out; have := S3.out; omega) (.int .i64 y)).st (p := ⟨w.heap.size, 3, none⟩) (show w.heap.size ≤ w.heap.size by have := Hgl.out; have := S1.out; have := S2.out; have := S3.out; omega) (.int .i64 hi)).st (p := ⟨w.heap.size, 4, none⟩) (show w.heap.size ≤ w.heap.size by have := Hgl.out; have := S1.out; have := S2.out; have := S3.out; omega) (.int .i64 t))⟩
  · by_cases ex1 : x = 1
    · have zx1 : (x == 1) = true := by rw [ex1]; rfl
      have zx0 : (x == 0) = false := by rw [ex1]; rfl
      clear ex0 ex1
      go_wp2_with fail
      refine (among_lit g (k + 16) (w2.heap.size) [21, -1] w2 (by simp) Hc2.out (by simp) (by simp) (by have := Hk.out; omega)).mono ?_; rintro e w4 ⟨⟨y, hy, rfl⟩, hc4, hd4⟩
      have S4 := Lib.hid (show w2.heap.size + 1 ≤ w4.heap.size by have h9 := hd4.size; (try simp only [World.size_alloc, World.size_setCell] at h9); omega)
      have NR := Lib.hid ((R.out.alloc _).dg hd4 (show w.heap.size ≠ g by have := Hgl.out; have := S1.out; have := S2.out; have := S4.out; omega))
      have NE := Lib.hid ((E.out.alloc _).dg hd4 (show w1.heap.size ≠ g by have := Hgl.out; have := S1.out; have := S2.out; have := S4.out; omega))
      have R := NR; clear NR
      have E := NE; clear NE
      have Hc4 := Lib.hid (hc4.mono (j := k + 18) (by omega))
      have Hd4 := Lib.hid ((Hd2.out.alloc _).trans hd4)
      clear hc4 hd4
      have qE0 := E.out.cell 0
      have qE1 := E.out.cell 1
      have qE2 := E.out.cell 2
      have qE3 := E.out.cell 3
      have qE4 := E.out.cell 4
      simp at qE0 qE1 qE2 qE3 qE4
      have qEl := E.out.lt
      have qEf := E.out.frozen
      have qR0 := R.out.cell 0
      have qR1 := R.out.cell 1
      have qR2 := R.out.cell 2
      have qR3 := R.out.cell 3
      have qR4 := R.out.cell 4
      simp at qR0 qR1 qR2 qR3 qR4
      have qRl := R.out.lt
      have qRf := R.out.frozen
      have nER : w1.heap.size ≠ w.heap.size := by have := Hgl.out; have := S1.out; have := S2.out; have := S4.out; omega
      have nRE : w.heap.size ≠ w1.heap.size := fun e => nER e.symm
      go_wp2
      clear qE0 qE1 qE2 qE3 qE4 qEl qEf qR0 qR1 qR2 qR3 qR4 qRl qRf nER nRE
      have HR9 := (show Blk (World.setCell (World.setCell (World.setCell (World.setCell (World.setCell (World.setCell w4 ⟨w1.heap.size, 3, none⟩ (.int .i64 y)) ⟨w.heap.size, 0, none⟩ (.int .i64 a)) ⟨w.heap.size, 1, none⟩ (.int .i64 b)) ⟨w.heap.size, 2, none⟩ (.int .i64 lo)) ⟨w.heap.size, 3, none⟩ (.int .i64 y)) ⟨w.heap.size, 4, none⟩ (.int .i64 t)) (w.heap.size) 29 #[.int .i64 a, .int .i64 b, .int .i64 lo, .int .i64 y, .int .i64 t] by have h9 := ((((((R.out.far (p := ⟨w1.heap.size, 3, none⟩) (show w.heap.size ≠ w1.heap.size by have := Hgl.out; have := S1.out; have := S2.out; have := S4.out; omega) (.int .i64 y)).set 0 (.int .i64 a)).set 1 (.int .i64 b)).set 2 (.int .i64 lo)).set 3 (.int .i64 y)).set 4 (.int .i64 t)); simpa using h9)
      have k0 := HR9.cell 0
      have k1 := HR9.cell 1
      have k2 := HR9.cell 2
      have k3 := HR9.cell 3
      have k4 := HR9.cell 4
      simp at k0 k1 k2 k3 k4
      exact bodyPost_ret (v := .agg #[.int .i64 a, .int .i64 b, .int .i64 lo, .int .i64 y, .int .i64 t]) (by simp [results, Tryz.results83, go_sem, k0, k1, k2, k3, k4]) rfl ⟨⟨_, _, _, _, _, rfl⟩, ((((((Hc4.out.st (p := ⟨w1.heap.size, 3, none⟩) (show g < w1.heap.size by have := Hgl.out; have := S1.out; have := S2.out; have := S4.out; omega) (.int .i64 y)).st (p := ⟨w.heap.size, 0, none⟩) (show g < w.heap.size by have := Hgl.out; have := S1.out; have := S2.out; have := S4.out; omega) (.int .i64 a)).st (p := ⟨w.heap.size, 1, none⟩) (show g < w.heap.size by have := Hgl.out; have := S1.out; have := S2.out; have := S4.out; omega) (.int .i64 b)).st (p := ⟨w.heap.size, 2, none⟩) (show g < w.heap.size by have := Hgl.out; have := S1.out; have := S2.out; have := S4.out; omega) (.int .i64 lo)).st (p := ⟨w.heap.size, 3, none⟩) (show g < w.heap.size by have := Hgl.out; have := S1.out; have := S2.out; have := S4.out; omega) (.int .i64 y)).st (p := ⟨w.heap.size, 4, none⟩) (show g < w.heap.size by have := Hgl.out; have := S1.out; have := S2.out; have := S4.out; omega) (.int .i64 t)).mono (by omega), ((((((Hd4.out.st (p := ⟨w1.heap.size, 3, none⟩) (show w.heap.size ≤ w1.heap.size by have := Hgl.out; have := S1.out; have := S2.out; have := S4.out; omega) (.int .i64 y)).st (p := ⟨w.heap.size, 0, none⟩) (show w.heap.size ≤ w.heap.size by have := Hgl.out; have := S1.out; have := S2.out; have := S4.out; omega) (.int .i64 a)).st (p := ⟨w.heap.size, 1, none⟩) (show w.heap.size ≤ w.heap.size by have := Hgl.out; have := S1.out; have := S2.out; have := S4.out; omega) (.int .i64 b)).st (p := ⟨w.heap.size, 2, none⟩) (show w.heap.size ≤ w.heap.size by have := Hgl.out; have := S1.out; have := S2.out; have := S4.out; omega) (.int .i64 lo)).st (p := ⟨w.heap.size, 3, none⟩) (show w.heap.size ≤ w.heap.size by have := Hgl.out; have := S1.out; have := S2.out; have := S4.out; omega) (.int .i64 y)).st (p := ⟨w.heap.size, 4, none⟩) (show w.heap.size ≤ w.heap.size by have := Hgl.out; have := S1.out; have := S2.out; have := S4.out; omega) (.int .i64 t))⟩
    · by_cases ex2 : x = 2
      · have zx2 : (x == 2) = true := by rw [ex2]; rfl
        have zx0 : (x == 0) = false := by rw [ex2]; rfl
        have zx1 : (x == 1) = false := by rw [ex2]; rfl
        clear ex0 ex1 ex2
        go_wp2_with fail
        refine (among_lit g (k + 16) (w2.heap.size) [-1, 17] w2 (by simp) Hc2.out (by simp) (by simp) (by have := Hk.out; omega)).mono ?_; rintro e w5 ⟨⟨y, hy, rfl⟩, hc5, hd5⟩
        have S5 := Lib.hid (show w2.heap.size + 1 ≤ w5.heap.size by have h9 := hd5.size; (try simp only [World.size_alloc, World.size_setCell] at h9); omega)
        have NR := Lib.hid ((R.out.alloc _).dg hd5 (show w.heap.size ≠ g by have := Hgl.out; have := S1.out; have := S2.out; have := S5.out; omega))
        have NE := Lib.hid ((E.out.alloc _).dg hd5 (show w1.heap.size ≠ g by have := Hgl.out; have := S1.out; have := S2.out; have := S5.out; omega))
        have R := NR; clear NR
        have E := NE; clear NE
        have Hc5 := Lib.hid (hc5.mono (j := k + 18) (by omega))
        have Hd5 := Lib.hid ((Hd2.out.alloc _).trans hd5)
        clear hc5 hd5
        have qE0 := E.out.cell 0
        have qE1 := E.out.cell 1
        have qE2 := E.out.cell 2
        have qE3 := E.out.cell 3
        have qE4 := E.out.cell 4
        simp at qE0 qE1 qE2 qE3 qE4
        have qEl := E.out.lt
        have qEf := E.out.frozen
        have qR0 := R.out.cell 0
        have qR1 := R.out.cell 1
        have qR2 := R.out.cell 2
        have qR3 := R.out.cell 3
        have qR4 := R.out.cell 4
        simp at qR0 qR1 qR2 qR3 qR4
        have qRl := R.out.lt
        have qRf := R.out.frozen
        have nER : w1.heap.size ≠ w.heap.size := by have := Hgl.out; have := S1.out; have := S2.out; have := S5.out; omega
        have nRE : w.heap.size ≠ w1.heap.size := fun e => nER e.symm
        go_wp2
        clear qE0 qE1 qE2 qE3 qE4 qEl qEf qR0 qR1 qR2 qR3 qR4 qRl qRf nER nRE
        have HR9 := (show Blk (World.setCell (World.setCell (World.setCell (World.setCell (World.setCell (World.setCell w5 ⟨w1.heap.size, 4, none⟩ (.int .i64 y)) ⟨w.heap.size, 0, none⟩ (.int .i64 a)) ⟨w.heap.size, 1, none⟩ (.int .i64 b)) ⟨w.heap.size, 2, none⟩ (.int .i64 lo)) ⟨w.heap.size, 3, none⟩ (.int .i64 hi)) ⟨w.heap.size, 4, none⟩ (.int .i64 y)) (w.heap.size) 29 #[.int .i64 a, .int .i64 b, .int .i64 lo, .int .i64 hi, .int .i64 y] by have h9 := ((((((R.out.far (p := ⟨w1.heap.size, 4, none⟩) (show w.heap.size ≠ w1.heap.size by have := Hgl.out; have := S1.out; have := S2.out; have := S5.out; omega) (.int .i64 y)).set 0 (.int .i64 a)).set 1 (.int .i64 b)).set 2 (.int .i64 lo)).set 3 (.int .i64 hi)).set 4 (.int .i64 y)); simpa using h9)
        have k0 := HR9.cell 0
        have k1 := HR9.cell 1
        have k2 := HR9.cell 2
        have k3 := HR9.cell 3
        have k4 := HR9.cell 4
        simp at k0 k1 k2 k3 k4
        exact bodyPost_ret (v := .agg #[.int .i64 a, .int .i64 b, .int .i64 lo, .int .i64 hi, .int .i64 y]) (by simp [results, Tryz.results83, go_sem, k0, k1, k2, k3, k4]) rfl ⟨⟨_, _, _, _, _, rfl⟩, ((((((Hc5.out.st (p := ⟨w1.heap.size, 4, none⟩) (show g < w1.heap.size by have := Hgl.out; have := S1.out; have := S2.out; have := S5.out; omega) (.int .i64 y)).st (p := ⟨w.heap.size, 0, none⟩) (show g < w.heap.size by have := Hgl.out; have := S1.out; have := S2.out; have := S5.out; omega) (.int .i64 a)).st (p := ⟨w.heap.size, 1, none⟩) (show g < w.heap.size by have := Hgl.out; have := S1.out; have := S2.out; have := S5.out; omega) (.int .i64 b)).st (p := ⟨w.heap.size, 2, none⟩) (show g < w.heap.size by have := Hgl.out; have := S1.out; have := S2.out; have := S5.out; omega) (.int .i64 lo)).st (p := ⟨w.heap.size, 3, none⟩) (show g < w.heap.size by have := Hgl.out; have := S1.out; have := S2.out; have := S5.out; omega) (.int .i64 hi)).st (p := ⟨w.heap.size, 4, none⟩) (show g < w.heap.size by have := Hgl.out; have := S1.out; have := S2.out; have := S5.out; omega) (.int .i64 y)).mono (by omega), ((((((Hd5.out.st (p := ⟨w1.heap.size, 4, none⟩) (show w.heap.size ≤ w1.heap.size by have := Hgl.out; have := S1.out; have := S2.out; have := S5.out; omega) (.int .i64 y)).st (p := ⟨w.heap.size, 0, none⟩) (show w.heap.size ≤ w.heap.size by have := Hgl.out; have := S1.out; have := S2.out; have := S5.out; omega) (.int .i64 a)).st (p := ⟨w.heap.size, 1, none⟩) (show w.heap.size ≤ w.heap.size by have := Hgl.out; have := S1.out; have := S2.out; have := S5.out; omega) (.int .i64 b)).st (p := ⟨w.heap.size, 2, none⟩) (show w.heap.size ≤ w.heap.size by have := Hgl.out; have := S1.out; have := S2.out; have := S5.out; omega) (.int .i64 lo)).st (p := ⟨w.heap.size, 3, none⟩) (show w.heap.size ≤ w.heap.size by have := Hgl.out; have := S1.out; have := S2.out; have := S5.out; omega) (.int .i64 hi)).st (p := ⟨w.heap.size, 4, none⟩) (show w.heap.size ≤ w.heap.size by have := Hgl.out; have := S1.out; have := S2.out; have := S5.out; omega) (.int .i64 y))⟩
      · by_cases ex3 : x = 3
        · have zx3 : (x == 3) = true := by rw [ex3]; rfl
          have zx0 : (x == 0) = false := by rw [ex3]; rfl
          have zx1 : (x == 1) = false := by rw [ex3]; rfl
          have zx2 : (x == 2) = false := by rw [ex3]; rfl
          clear ex0 ex1 ex2 ex3
          go_wp2_with fail
          refine (anyCurve_any g (k + 16) _ Hc2.out (by have := Hk.out; omega)).mono ?_; rintro e w6 ⟨⟨a2, b2, rfl⟩, hc6, hd6⟩
          have S6 := Lib.hid (show w2.heap.size + 0 ≤ w6.heap.size by have h9 := hd6.size; (try simp only [World.size_alloc, World.size_setCell] at h9); omega)
          have NR := Lib.hid (R.out.dg hd6 (show w.heap.size ≠ g by have := Hgl.out; have := S1.out; have := S2.out; have := S6.out; omega))
          have NE := Lib.hid (E.out.dg hd6 (show w1.heap.size ≠ g by have := Hgl.out; have := S1.out; have := S2.out; have := S6.out; omega))
          have R := NR; clear NR
          have E := NE; clear NE
          have Hc6 := Lib.hid (hc6.mono (j := k + 56) (by omega))
          have Hd6 := Lib.hid (Hd2.out.trans hd6)
          clear hc6 hd6
          have qE0 := E.out.cell 0
          have qE1 := E.out.cell 1
          have qE2 := E.out.cell 2
          have qE3 := E.out.cell 3
          have qE4 := E.out.cell 4
          simp at qE0 qE1 qE2 qE3 qE4
          have qEl := E.out.lt
          have qEf := E.out.frozen
          have qR0 := R.out.cell 0
          have qR1 := R.out.cell 1
          have qR2 := R.out.cell 2
          have qR3 := R.out.cell 3
          have qR4 := R.out.cell 4
          simp at qR0 qR1 qR2 qR3 qR4
          have qRl := R.out.lt
          have qRf := R.out.frozen
          have nER : w1.heap.size ≠ w.heap.size := by have := Hgl.out; have := S1.out; have := S2.out; have := S6.out; omega
          have nRE : w.heap.size ≠ w1.heap.size := fun e => nER e.symm
          go_wp2
          clear qE0 qE1 qE2 qE3 qE4 qEl qEf qR0 qR1 qR2 qR3 qR4 qRl qRf nER nRE
          have HR9 := (show Blk (World.setCell (World.setCell (World.setCell (World.setCell (World.setCell (World.setCell (World.setCell w6 ⟨w1.heap.size, 0, none⟩ (.int .i64 a2)) ⟨w1.heap.size, 1, none⟩ (.int .i64 b2)) ⟨w.heap.size, 0, none⟩ (.int .i64 a2)) ⟨w.heap.size, 1, none⟩ (.int .i64 b2)) ⟨w.heap.size, 2, none⟩ (.int .i64 lo)) ⟨w.heap.size, 3, none⟩ (.int .i64 hi)) ⟨w.heap.size, 4, none⟩ (.int .i64 t)) (w.heap.size) 29 #[.int .i64 a2, .int .i64 b2, .int .i64 lo, .int .i64 hi, .int .i64 t] by have h9 := (((((((R.out.far (p := ⟨w1.heap.size, 0, none⟩) (show w.heap.size ≠ w1.heap.size by have := Hgl.out; have := S1.out; have := S2.out; have := S6.out; omega) (.int .i64 a2)).far (p := ⟨w1.heap.size, 1, none⟩) (show w.heap.size ≠ w1.heap.size by have := Hgl.out; have := S1.out; have := S2.out; have := S6.out; omega) (.int .i64 b2)).set 0 (.int .i64 a2)).set 1 (.int .i64 b2)).set 2 (.int .i64 lo)).set 3 (.int .i64 hi)).set 4 (.int .i64 t)); simpa using h9)
          have k0 := HR9.cell 0
          have k1 := HR9.cell 1
          have k2 := HR9.cell 2
          have k3 := HR9.cell 3
          have k4 := HR9.cell 4
          simp at k0 k1 k2 k3 k4
          exact bodyPost_ret (v := .agg #[.int .i64 a2, .int .i64 b2, .int .i64 lo, .int .i64 hi, .int .i64 t]) (by simp [results, Tryz.results83, go_sem, k0, k1, k2, k3, k4]) rfl ⟨⟨_, _, _, _, _, rfl⟩, (((((((Hc6.out.st (p := ⟨w1.heap.size, 0, none⟩) (show g < w1.heap.size by have := Hgl.out; have := S1.out; have := S2.out; have := S6.out; omega) (.int .i64 a2)).st (p := ⟨w1.heap.size, 1, none⟩) (show g < w1.heap.size by have := Hgl.out; have := S1.out; have := S2.out; have := S6.out; omega) (.int .i64 b2)).st (p := ⟨w.heap.size, 0, none⟩) (show g < w.heap.size by have := Hgl.out; have := S1.out; have := S2.out; have := S6.out; omega) (.int .i64 a2)).st (p := ⟨w.heap.size, 1, none⟩) (show g < w.heap.size by have := Hgl.out; have := S1.out; have := S2.out; have := S6.out; omega) (.int .i64 b2)).st (p := ⟨w.heap.size, 2, none⟩) (show g < w.heap.size by have := Hgl.out; have := S1.out; have := S2.out; have := S6.out; omega) (.int .i64 lo)).st (p := ⟨w.heap.size, 3, none⟩) (show g < w.heap.size by have := Hgl.out; have := S1.out; have := S2.out; have := S6.out; omega) (.int .i64 hi)).st (p := ⟨w.heap.size, 4, none⟩) (show g < w.heap.size by have := Hgl.out; have := S1.out; have := S2.out; have := S6.out; omega) (.int .i64 t)).mono (by omega), (((((((Hd6.out.st (p := ⟨w1.heap.size, 0, none⟩) (show w.heap.size ≤ w1.heap.size by have := Hgl.out; have := S1.out; have := S2.out; have := S6.out; omega) (.int .i64 a2)).st (p := ⟨w1.heap.size, 1, none⟩) (show w.heap.size ≤ w1.heap.size by have := Hgl.out; have := S1.out; have := S2.out; have := S6.out; omega) (.int .i64 b2)).st (p := ⟨w.heap.size, 0, none⟩) (show w.heap.size ≤ w.heap.size by have := Hgl.out; have := S1.out; have := S2.out; have := S6.out; omega) (.int .i64 a2)).st (p := ⟨w.heap.size, 1, none⟩) (show w.heap.size ≤ w.heap.size by have := Hgl.out; have := S1.out; have := S2.out; have := S6.out; omega) (.int .i64 b2)).st (p := ⟨w.heap.size, 2, none⟩) (show w.heap.size ≤ w.heap.size by have := Hgl.out; have := S1.out; have := S2.out; have := S6.out; omega) (.int .i64 lo)).st (p := ⟨w.heap.size, 3, none⟩) (show w.heap.size ≤ w.heap.size by have := Hgl.out; have := S1.out; have := S2.out; have := S6.out; omega) (.int .i64 hi)).st (p := ⟨w.heap.size, 4, none⟩) (show w.heap.size ≤ w.heap.size by have := Hgl.out; have := S1.out; have := S2.out; have := S6.out; omega) (.int .i64 t))⟩
        · have zx0 : (x == 0) = false := beq_eq_false_iff_ne.2 ex0
          have zx1 : (x == 1) = false := beq_eq_false_iff_ne.2 ex1
          have zx2 : (x == 2) = false := beq_eq_false_iff_ne.2 ex2
          have zx3 : (x == 3) = false := beq_eq_false_iff_ne.2 ex3
          clear ex0 ex1 ex2 ex3
          have qE0 := E.out.cell 0
          have qE1 := E.out.cell 1
          have qE2 := E.out.cell 2
          have qE3 := E.out.cell 3
          have qE4 := E.out.cell 4
          simp at qE0 qE1 qE2 qE3 qE4
          have qEl := E.out.lt
          have qR0 := R.out.cell 0
          have qR1 := R.out.cell 1
          have qR2 := R.out.cell 2
          have qR3 := R.out.cell 3
          have qR4 := R.out.cell 4
          simp at qR0 qR1 qR2 qR3 qR4
          have qRl := R.out.lt
          have qRf := R.out.frozen
          have nER : w1.heap.size ≠ w.heap.size := by have := Hgl.out; have := S1.out; have := S2.out; omega
          have nRE : w.heap.size ≠ w1.heap.size := fun e => nER e.symm
          go_wp2
          clear qE0 qE1 qE2 qE3 qE4 qEl qR0 qR1 qR2 qR3 qR4 qRl qRf nER nRE
          have HR9 := (show Blk (World.setCell (World.setCell (World.setCell (World.setCell (World.setCell w2 ⟨w.heap.size, 0, none⟩ (.int .i64 a)) ⟨w.heap.size, 1, none⟩ (.int .i64 b)) ⟨w.heap.size, 2, none⟩ (.int .i64 lo)) ⟨w.heap.size, 3, none⟩ (.int .i64 hi)) ⟨w.heap.size, 4, none⟩ (.int .i64 t)) (w.heap.size) 29 #[.int .i64 a, .int .i64 b, .int .i64 lo, .int .i64 hi, .int .i64 t] by have h9 := (((((R.out.set 0 (.int .i64 a)).set 1 (.int .i64 b)).set 2 (.int .i64 lo)).set 3 (.int .i64 hi)).set 4 (.int .i64 t)); simpa using h9)
          have k0 := HR9.cell 0
          have k1 := HR9.cell 1
          have k2 := HR9.cell 2
          have k3 := HR9.cell 3
          have k4 := HR9.cell 4
          simp at k0 k1 k2 k3 k4
          exact bodyPost_ret (v := .agg #[.int .i64 a, .int .i64 b, .int .i64 lo, .int .i64 hi, .int .i64 t]) (by simp [results, Tryz.results83, go_sem, k0, k1, k2, k3, k4]) rfl ⟨⟨_, _, _, _, _, rfl⟩, (((((Hc2.out.st (p := ⟨w.heap.size, 0, none⟩) (show g < w.heap.size by have := Hgl.out; have := S1.out; have := S2.out; omega) (.int .i64 a)).st (p := ⟨w.heap.size, 1, none⟩) (show g < w.heap.size by have := Hgl.out; have := S1.out; have := S2.out; omega) (.int .i64 b)).st (p := ⟨w.heap.size, 2, none⟩) (show g < w.heap.size by have := Hgl.out; have := S1.out; have := S2.out; omega) (.int .i64 lo)).st (p := ⟨w.heap.size, 3, none⟩) (show g < w.heap.size by have := Hgl.out; have := S1.out; have := S2.out; omega) (.int .i64 hi)).st (p := ⟨w.heap.size, 4, none⟩) (show g < w.heap.size by have := Hgl.out; have := S1.out; have := S2.out; omega) (.int .i64 t)).mono (by omega), (((((Hd2.out.st (p := ⟨w.heap.size, 0, none⟩) (show w.heap.size ≤ w.heap.size by have := Hgl.out; have := S1.out; have := S2.out; omega) (.int .i64 a)).st (p := ⟨w.heap.size, 1, none⟩) (show w.heap.size ≤ w.heap.size by have := Hgl.out; have := S1.out; have := S2.out; omega) (.int .i64 b)).st (p := ⟨w.heap.size, 2, none⟩) (show w.heap.size ≤ w.heap.size by have := Hgl.out; have := S1.out; have := S2.out; omega) (.int .i64 lo)).st (p := ⟨w.heap.size, 3, none⟩) (show w.heap.size ≤ w.heap.size by have := Hgl.out; have := S1.out; have := S2.out; omega) (.int .i64 hi)).st (p := ⟨w.heap.size, 4, none⟩) (show w.heap.size ≤ w.heap.size by have := Hgl.out; have := S1.out; have := S2.out; omega) (.int .i64 t))⟩
end
section
open Go Go.RowKit

def AllI (xs : List Value) : Prop := ∀ u ∈ xs, ∃ i : Int, u = .int .i64 i
/-- A row of n elements of z ints each. -/
structure IR (w : World) (B : Nat) (t : TypeId) (z : Nat) (v : Value) (n : Nat) : Prop where
  ex : ∃ xs, w.ownsRow B t z v n xs ∧ AllI xs
theorem AllI.app {xs ys : List Value} (h : AllI xs) (k : AllI ys) : AllI (xs ++ ys) := fun u hu => (List.mem_append.1 hu).elim (h u) (k u)
theorem AllI.set {xs : List Value} (h : AllI xs) (j : Nat) (i : Int) : AllI (xs.set j (.int .i64 i)) := fun u hu => by
  rcases List.mem_or_eq_of_mem_set hu with h1 | h1
  · exact h u h1
  · exact ⟨i, h1⟩
theorem AllI.one {xs : List Value} (h : AllI xs) : ∀ u ∈ xs, u.oneCell' = true := fun u hu => by
  obtain ⟨i, rfl⟩ := h u hu
  rfl
section
variable {w w' : World} {B : Nat} {t : TypeId} {z n : Nat} {v : Value}
theorem IR.nil (w : World) (B : Nat) (t : TypeId) (z : Nat) : IR w B t z (.slice none 0 0) 0 := ⟨[], ⟨by simp, Or.inl ⟨rfl, rfl⟩⟩, by intro u hu; cases hu⟩
theorem IR.dg {g : Nat} (h : IR w B t z v n) (hd : Dg g w w') (hb : g < B) : IR w' B t z v n := let ⟨xs, h1, h2⟩ := h.ex; ⟨xs, own_dg h1 hd hb, h2⟩
theorem IR.on (h : IR w B t z v n) (hb : Below w.heap.size w w') : IR w' B t z v n := let ⟨xs, h1, h2⟩ := h.ex; ⟨xs, own_below h1 hb, h2⟩
theorem IR.alloc (h : IR w B t z v n) (o : Obj) : IR (w.alloc o) B t z v n := h.on (bal (Below.refl _ _) o)
theorem IR.mono {B' : Nat} (h : IR w B t z v n) (hb : B' ≤ B) : IR w B' t z v n := let ⟨xs, h1, h2⟩ := h.ex; ⟨xs, own_mono h1 hb, h2⟩
theorem IR.st (h : IR w B t z v n) {p : Addr} (hp : ∀ k, v.ownBlock = some k → k ≠ p.block) (u : Value) : IR (w.setCell p u) B t z v n := let ⟨xs, h1, h2⟩ := h.ex; ⟨xs, own_st h1 hp u, h2⟩
theorem IR.form (h : IR w B t z v n) : ∃ A c, v = .slice A n c ∧ n ≤ c ∧ c ≤ maxLen := by
  obtain ⟨xs, h1, -⟩ := h.ex
  rcases h1.2 with ⟨h', h0⟩ | ⟨g', cap', cur, h', hb, hg, hnc, hcm, -⟩
  · exact ⟨none, 0, by rw [h', h0], by omega, Nat.zero_le _⟩
  · exact ⟨_, _, h', hnc, hcm⟩
theorem IR.pos (h : IR w B t z v n) (h0 : 0 < n) : ∃ g c, v = .slice (some ⟨g, 0, none⟩) n c ∧ B ≤ g ∧ g < w.heap.size ∧ n ≤ c ∧ c ≤ maxLen := by
  obtain ⟨xs, h1, -⟩ := h.ex
  rcases h1.2 with ⟨h', h0'⟩ | ⟨g', cap', cur, h', hb, hg, hnc, hcm, -⟩
  · omega
  · exact ⟨_, _, h', hb, (Array.getElem?_eq_some_iff.1 hg).1, hnc, hcm⟩
theorem IR.lt (h : IR w B t z v n) : ∀ k, v.ownBlock = some k → B ≤ k ∧ k < w.heap.size := let ⟨_, h1, _⟩ := h.ex; World.ownsRow.lt h1
theorem IR.cell {g c : Nat} (h : IR w B t z (.slice (some ⟨g, 0, none⟩) n c) n) {j : Nat} (hj : j < n * z) : ∃ i : Int, w.cell? ⟨g, j, none⟩ = some (.int .i64 i) := by
  obtain ⟨xs, h1, h2⟩ := h.ex
  have hl : j < xs.length := by rw [h1.1]; exact hj
  obtain ⟨i, hi⟩ := h2 xs[j] (List.getElem_mem hl)
  exact ⟨i, by rw [h1.cellAt j hj, List.getElem?_eq_getElem hl, hi]⟩
theorem IR.frozen {g c : Nat} (h : IR w B t z (.slice (some ⟨g, 0, none⟩) n c) n) : ∀ i, w.frozen? ⟨g, i, none⟩ = false := let ⟨_, h1, _⟩ := h.ex; h1.frozenAt
theorem IR.set {g c : Nat} (h : IR w B t z (.slice (some ⟨g, 0, none⟩) n c) n) (j : Nat) (i : Int) : IR (w.setCell ⟨g, j, none⟩ (.int .i64 i)) B t z (.slice (some ⟨g, 0, none⟩) n c) n :=
  let ⟨xs, h1, h2⟩ := h.ex; ⟨xs.set j (.int .i64 i), (h1.stored j _).1, h2.set j i⟩
end
/-- Cells of ints are those of some list. -/
theorem flat_ex {E : Type} (S : Shape E) (mk : (Nat → Int) → E) (hmk : ∀ c j, j < S.size → S.cell (mk c) j = .int .i64 (c j)) : ∀ (n : Nat) (xs : List Value), xs.length = n * S.size → AllI xs → ∃ es : List E, es.length = n ∧ S.flat es = xs
  | 0, xs, hl, _ => ⟨[], rfl, by
      have : xs = [] := List.eq_nil_of_length_eq_zero (by omega)
      rw [this]; rfl⟩
  | n + 1, xs, hl, ha => by
    have hz : S.size ≤ xs.length := by rw [hl, Nat.add_mul]; omega
    obtain ⟨es, h1, h2⟩ := flat_ex S mk hmk n (xs.drop S.size) (by rw [List.length_drop, hl, Nat.add_mul]; omega) (fun u hu => ha u (List.mem_of_mem_drop hu))
    refine ⟨mk (fun j => match xs[j]? with | some (.int _ q) => q | _ => 0) :: es, by rw [List.length_cons, h1], ?_⟩
    have h3 : S.cells (mk (fun j => match xs[j]? with | some (.int _ q) => q | _ => 0)) = xs.take S.size := by
      apply List.ext_getElem
      · rw [Shape.length_cells, List.length_take]; omega
      · intro i h4 h5
        rw [Shape.length_cells] at h4
        have hi : i < xs.length := by omega
        simp only [Shape.cells, List.getElem_map, List.getElem_range, List.getElem_take]
        rw [hmk _ _ h4, List.getElem?_eq_getElem hi]
        obtain ⟨q, hq⟩ := ha xs[i] (List.getElem_mem hi)
        rw [hq]
    show S.cells _ ++ S.flat es = xs
    rw [h3, h2, List.take_append_drop]
def enMk9 (c : Nat → Int) : En := ⟨c 0, c 1, c 2, c 3, c 4⟩
theorem enMk9_cell (c : Nat → Int) (j : Nat) (hj : j < enS.size) : enS.cell (enMk9 c) j = .int .i64 (c j) := by
  match j, hj with
  | 0, _ => rfl
  | 1, _ => rfl
  | 2, _ => rfl
  | 3, _ => rfl
  | 4, _ => rfl
theorem en_allI (es : List En) : AllI (enS.flat es) := by
  intro u hu
  unfold Shape.flat at hu
  obtain ⟨x, -, hx⟩ := List.mem_flatMap.1 hu
  unfold Shape.cells at hx
  obtain ⟨j, hj, rfl⟩ := List.mem_map.1 hx
  have hj := List.mem_range.1 hj
  match j, hj with
  | 0, _ => exact ⟨_, rfl⟩
  | 1, _ => exact ⟨_, rfl⟩
  | 2, _ => exact ⟨_, rfl⟩
  | 3, _ => exact ⟨_, rfl⟩
  | 4, _ => exact ⟨_, rfl⟩
theorem IR.en {w : World} {B : Nat} {t : TypeId} {v : Value} {n : Nat} (h : IR w B t 5 v n) : ∃ es : List En, es.length = n ∧ w.ownsRow B t 5 v es.length (enS.flat es) := by
  obtain ⟨xs, h1, h2⟩ := h.ex
  obtain ⟨es, h3, h4⟩ := flat_ex enS enMk9 enMk9_cell n xs h1.1 h2
  exact ⟨es, h3, by rw [h3, h4]; exact h1⟩
theorem IR.of_en {w : World} {B : Nat} {t : TypeId} {v : Value} {es : List En} (h : w.ownsRow B t 5 v es.length (enS.flat es)) : IR w B t 5 v es.length := ⟨_, h, en_allI es⟩
end
section
open Go Go.RowKit

theorem infoEn7 : (Tryz.prog.info? 29).map (fun i => (i.zero, i.size, i.bytes)) = some (some (.agg #[.int .i64 0, .int .i64 0, .int .i64 0, .int .i64 0, .int .i64 0]), 5, 40) := by kernel_rfl
theorem tightG_len' {es : List En} {y : En} {z : List En} {b : Bool} (h : tightG es y = (z, b)) : z.length ≤ 12 := tightG_len z b h
def lenV : Value → Nat | .slice _ n _ => n | _ => 0
theorem allI5 (a b c d e : Int) : AllI [.int .i64 a, .int .i64 b, .int .i64 c, .int .i64 d, .int .i64 e] := by
  intro u hu
  simp only [List.mem_cons, List.not_mem_nil, or_false] at hu
  rcases hu with rfl | rfl | rfl | rfl | rfl <;> exact ⟨_, rfl⟩

set_option linter.unusedSimpArgs false in
set_option maxRecDepth 8000 in
set_option maxHeartbeats 8000000 in
theorem catalogue_any (g k : Nat) (w : World) (hc : Cur w g k) (hk : k ≤ 500000) :
    Calls Tryz.prog 80 #[.pointer (some ⟨g, 0, none⟩)] w fun e w' => (∃ (v : Value) (n : Nat), n ≤ 20 ∧ e = .returned v ∧ IR w' w.heap.size 29 5 v n) ∧ Cur w' g (k + 500) ∧ Dg g w w' := by
  obtain ⟨i0, hi, hz0, hz1, hz2⟩ := info_parts infoEn7
  have Hgl := Lib.hid hc.lt
  have Hc := Lib.hid hc; have Hk := Lib.hid hk; have Hd := Lib.hid (Dg.refl g w); clear hc hk
  go_enter Tryz.func80, Tryz.ntmps80
  go_wp2_with fail
  refine (pick_any g k (7) _ Hc.out (by have := Hk.out; omega)).mono ?_; rintro e w1 ⟨⟨x, lx, ux, rfl⟩, hc1, hd1⟩
  have S1 := Lib.hid (show w.heap.size + 0 ≤ w1.heap.size by have h9 := hd1.size; (try simp only [World.size_alloc, World.size_setCell] at h9); omega)
  have Hc1 := Lib.hid (hc1.mono (j := k + 2) (by omega))
  have Hd1 := Lib.hid (Hd.out.trans hd1)
  clear hc1 hd1
  obtain ⟨x, rfl⟩ : ∃ q : Nat, x = q := ⟨x.toNat, by omega⟩
  have hx6 : x ≤ 6 := by omega
  clear lx ux
  go_wp2
  go_loopw [4, 3] (fun n l wr => ∃ (q m : Nat), q ≤ x ∧ n = .int .i64 (q : Int) ∧ m ≤ 12 ∧ Hid (IR wr w.heap.size 29 5 l m) ∧ Hid (Cur wr g (k + 2 + 14 * (x - q))) ∧ Hid (Dg g w wr)) (fun n _ _ => (intOf n).toNat)
  case atStart => exact ⟨x, 0, Nat.le_refl _, rfl, Nat.zero_le _, Lib.hid (IR.nil _ _ _ _), Lib.hid (Hc1.out.mono (by omega)), Hd1⟩
  case round =>
    obtain ⟨q, m, hqx, rfl, hm12, HO, Hcr, Hdr⟩ := hrel
    obtain ⟨A9, c9, rfl, hmc, hcm⟩ := HO.out.form
    unfold maxLen at hcm
    have Sr := Lib.hid Hdr.out.size
    have GHO := Lib.hid HO.out.lt
    by_cases hq0 : 0 < q
    · have hq1 : (0 : Int) < (q : Int) := by omega
      go_wp2_with fail
      refine (entry_any g (k + 2 + 14 * (x - q)) _ Hcr.out (by have := Hk.out; omega)).mono ?_; rintro e w2 ⟨⟨a, b, lo, hi9, t, b1, b2, b3, b4, rfl⟩, hc2, hd2⟩
      have S2 := Lib.hid (show wr.heap.size + 0 ≤ w2.heap.size by have h9 := hd2.size; (try simp only [World.size_alloc, World.size_setCell] at h9); omega)
      have HO := Lib.hid (HO.out.dg hd2 (show g < w.heap.size by have := Hgl.out; have := Sr.out; have := S2.out; omega))
      have Hc2 := Lib.hid (hc2.mono (j := (k + 2 + 14 * (x - q)) + 14) (by omega))
      have Hd2 := Lib.hid (Hdr.out.trans hd2)
      clear hc2 hd2
      obtain ⟨es, hes, ho1⟩ := HO.out.en
      have HRd := Lib.hid (Rd.of_own (S := enS) ho1 rfl)
      have Hes := Lib.hid hes; clear hes ho1
      go_wp2_with fail
      refine (specTight_ints _ es a b lo hi9 t _ HRd.out).mono ?_; rintro e w3 ⟨⟨v2, z2, ok2, rfl, hz2v, ho2⟩, hd3⟩
      have S3 := Lib.hid (show w2.heap.size + 0 ≤ w3.heap.size by have h9 := hd3.size; (try simp only [World.size_alloc, World.size_setCell] at h9); omega)
      have HO := Lib.hid (HO.out.dg (Dg.of_below (g := g) hd3) (show g < w.heap.size by have := Hgl.out; have := Sr.out; have := S2.out; have := S3.out; omega))
      have Hc3 := Lib.hid (Hc2.out.on hd3)
      have Hd3 := Lib.hid (Hd2.out.trans (Dg.of_below (g := g) hd3))
      clear hd3
      have hz12 := tightG_len' hz2v
      have HI := Lib.hid (IR.of_en ho2)
      clear hz2v ho2
      obtain ⟨A2, c2, rfl, hmc2, hcm2⟩ := HI.out.form
      generalize z2.length = m2 at HI hz12 hmc2 ⊢
      cases ok2
      · go_wp2
        go_roundw
        case rel => exact ⟨q - 1, m, by omega, by go_num, hm12, HO, Lib.hid (Hc3.out.mono (by omega)), Hd3⟩
        case measure => simp [intOf]; omega
      · go_wp2
        go_roundw
        case rel => exact ⟨q - 1, m2, by omega, by go_num, hz12, Lib.hid (HI.out.mono (by have := Sr.out; have := S2.out; have := S3.out; omega)), Lib.hid (Hc3.out.mono (by omega)), Hd3⟩
        case measure => simp [intOf]; omega
    · obtain rfl : q = 0 := by omega
      go_wp2_with fail
      refine (one_any g (k + 2 + 14 * (x - 0)) (16) _ Hcr.out (by have := Hk.out; omega)).mono ?_; rintro e w4 ⟨⟨c, rfl⟩, hc4, hd4⟩
      have S4 := Lib.hid (show wr.heap.size + 0 ≤ w4.heap.size by have h9 := hd4.size; (try simp only [World.size_alloc, World.size_setCell] at h9); omega)
      have HO := Lib.hid (HO.out.dg hd4 (show g < w.heap.size by have := Hgl.out; have := Sr.out; have := S4.out; omega))
      have Hc4 := Lib.hid (hc4.mono (j := (k + 2 + 14 * (x - 0)) + 2) (by omega))
      have Hd4 := Lib.hid (Hdr.out.trans hd4)
      clear hc4 hd4
      have Hc9 := Lib.hid (Hc4.out.mono (j := k + 90) (by omega)); clear Hc4
      cases c
      · clear hq0
        by_cases hm0 : 0 < m
        · obtain ⟨gl, cl, hfl, hgl1, hgl2, hmcl, hcml⟩ := HO.out.pos hm0
          injection hfl with hf1 hf2 hf3; subst hf1; subst hf3; clear hf2
          have hmi : (0 : Int) < (m : Int) := by omega
          go_wp2_with fail
          refine (pick_any g (k + 90) (m : Int) _ Hc9.out (by have := Hk.out; omega)).mono ?_; rintro e w5 ⟨⟨y, ly, uy, rfl⟩, hc5, hd5⟩
          have S5 := Lib.hid (show w4.heap.size + 0 ≤ w5.heap.size by have h9 := hd5.size; (try simp only [World.size_alloc, World.size_setCell] at h9); omega)
          have HO := Lib.hid (HO.out.dg hd5 (show g < w.heap.size by have := Hgl.out; have := Sr.out; have := S4.out; have := S5.out; omega))
          have Hc5 := Lib.hid (hc5.mono (j := k + 92) (by omega))
          have Hd5 := Lib.hid (Hd4.out.trans hd5)
          clear hc5 hd5
          obtain ⟨y, rfl⟩ : ∃ q : Nat, y = q := ⟨y.toNat, by omega⟩
          have hym : y < m := by omega
          clear ly uy
          go_wp2_with fail
          refine (pick_any g (k + 92) (24) _ Hc5.out (by have := Hk.out; omega)).mono ?_; rintro e w6 ⟨⟨z, lz, uz, rfl⟩, hc6, hd6⟩
          have S6 := Lib.hid (show w5.heap.size + 0 ≤ w6.heap.size by have h9 := hd6.size; (try simp only [World.size_alloc, World.size_setCell] at h9); omega)
          have HO := Lib.hid (HO.out.dg hd6 (show g < w.heap.size by have := Hgl.out; have := Sr.out; have := S4.out; have := S5.out; have := S6.out; omega))
          have Hc6 := Lib.hid (hc6.mono (j := k + 94) (by omega))
          have Hd6 := Lib.hid (Hd5.out.trans hd6)
          clear hc6 hd6
          have hyi : (0 : Int) ≤ (y : Int) := by omega
          have hyj : (y : Int) < (m : Int) := by omega
          by_cases ez0 : z = 0
          · have zz0 : (z == 0) = true := by rw [ez0]; rfl
            clear ez0
            go_wp2_with fail
            refine (anyEntry_any g (k + 94) _ Hc6.out (by have := Hk.out; omega)).mono ?_; rintro e w7 ⟨⟨a7, b7, lo7, hi7, t7, rfl⟩, hc7, hd7⟩
            have S7 := Lib.hid (show w6.heap.size + 0 ≤ w7.heap.size by have h9 := hd7.size; (try simp only [World.size_alloc, World.size_setCell] at h9); omega)
            have HO := Lib.hid (HO.out.dg hd7 (show g < w.heap.size by have := Hgl.out; have := Sr.out; have := S4.out; have := S5.out; have := S6.out; have := S7.out; omega))
            have Hc7 := Lib.hid (hc7.mono (j := k + 154) (by omega))
            have Hd7 := Lib.hid (Hd6.out.trans hd7)
            clear hc7 hd7
            obtain ⟨u0, hu0⟩ := HO.out.cell (j := y * 5) (by omega)
            obtain ⟨u1, hu1⟩ := HO.out.cell (j := y * 5 + 1) (by omega)
            obtain ⟨u2, hu2⟩ := HO.out.cell (j := y * 5 + 2) (by omega)
            obtain ⟨u3, hu3⟩ := HO.out.cell (j := y * 5 + 3) (by omega)
            obtain ⟨u4, hu4⟩ := HO.out.cell (j := y * 5 + 4) (by omega)
            have hfz := HO.out.frozen
            have hll := (HO.out.lt gl rfl).2
            go_wp2
            go_ret
            exact ⟨⟨_, m, by omega, rfl, (((((HO.out.set (y * 5) a7).set (y * 5 + 1) b7).set (y * 5 + 2) lo7).set (y * 5 + 3) hi7).set (y * 5 + 4) t7)⟩, (((((Hc7.out.st (p := ⟨gl, y * 5, none⟩) (by have := Hgl.out; show g < gl; omega) (.int .i64 a7)).st (p := ⟨gl, y * 5 + 1, none⟩) (by have := Hgl.out; show g < gl; omega) (.int .i64 b7)).st (p := ⟨gl, y * 5 + 2, none⟩) (by have := Hgl.out; show g < gl; omega) (.int .i64 lo7)).st (p := ⟨gl, y * 5 + 3, none⟩) (by have := Hgl.out; show g < gl; omega) (.int .i64 hi7)).st (p := ⟨gl, y * 5 + 4, none⟩) (by have := Hgl.out; show g < gl; omega) (.int .i64 t7)).mono (by omega), (((((Hd7.out.st (p := ⟨gl, y * 5, none⟩) (show w.heap.size ≤ gl from hgl1) (.int .i64 a7)).st (p := ⟨gl, y * 5 + 1, none⟩) (show w.heap.size ≤ gl from hgl1) (.int .i64 b7)).st (p := ⟨gl, y * 5 + 2, none⟩) (show w.heap.size ≤ gl from hgl1) (.int .i64 lo7)).st (p := ⟨gl, y * 5 + 3, none⟩) (show w.heap.size ≤ gl from hgl1) (.int .i64 hi7)).st (p := ⟨gl, y * 5 + 4, none⟩) (show w.heap.size ≤ gl from hgl1) (.int .i64 t7))⟩
          · by_cases ez1 : z = 1
            · have zz1 : (z == 1) = true := by rw [ez1]; rfl
              have zz0 : (z == 0) = false := by rw [ez1]; rfl
              clear ez0 ez1
              obtain ⟨u0, hu0⟩ := HO.out.cell (j := y * 5) (by omega)
              obtain ⟨u1, hu1⟩ := HO.out.cell (j := y * 5 + 1) (by omega)
              obtain ⟨u2, hu2⟩ := HO.out.cell (j := y * 5 + 2) (by omega)
              obtain ⟨u3, hu3⟩ := HO.out.cell (j := y * 5 + 3) (by omega)
              obtain ⟨u4, hu4⟩ := HO.out.cell (j := y * 5 + 4) (by omega)
              have hll := (HO.out.lt gl rfl).2
              obtain ⟨xs9, ho9, ha9⟩ := HO.out.ex
              go_wp2_with (at_builtin; refine wpList_append_own _ rfl _ _ 23 rfl w.heap.size 29 i0 (.agg #[.int .i64 0, .int .i64 0, .int .i64 0, .int .i64 0, .int .i64 0]) 5 40 Tryz.underlying23 hi hz0 hz1 hz2 rfl (by decide) _ _ _ rfl (ho9.alloc _) ⟨w6.heap.size, 0, none⟩ 1 1 [.int .i64 u0, .int .i64 u1, .int .i64 u2, .int .i64 u3, .int .i64 u4] rfl rfl ?e1 ?e2 ?e3 ?e4 ?e5 ?_)
              case e1 =>
                intro j u hj
                match j, hj with
                | 0, hj => simp at hj; subst hj; exact (Blk.new w6 _ _).cell 0
                | 1, hj => simp at hj; subst hj; exact (Blk.new w6 _ _).cell 1
                | 2, hj => simp at hj; subst hj; exact (Blk.new w6 _ _).cell 2
                | 3, hj => simp at hj; subst hj; exact (Blk.new w6 _ _).cell 3
                | 4, hj => simp at hj; subst hj; exact (Blk.new w6 _ _).cell 4
              case e2 => intro u hu; simp at hu; rcases hu with rfl | rfl | rfl | rfl | rfl <;> rfl
              case e3 => unfold maxLen; omega
              case e4 => omega
              case e5 => have := Hgl.out; have := Sr.out; have := S4.out; have := S5.out; have := S6.out; simp; omega
              intro v8 w8 hown8 hgrow8 _
              have S8 := Lib.hid (show w6.heap.size + 1 ≤ w8.heap.size by have h9 := hgrow8.size; (try simp only [World.size_alloc] at h9); omega)
              have gr8 : ∀ r, Value.ownBlock _ = some r → w.heap.size ≤ r := fun r hr => (World.ownsRow.lt ho9 r hr).1
              have Hc8 := Lib.hid ((Hc6.out.alloc _).grown hgrow8 (fun r hr => by have := gr8 r hr; have := Hgl.out; have := Sr.out; have := S4.out; have := S5.out; have := S6.out; omega))
              have Hd8 := Lib.hid ((Hd6.out.alloc _).grown hgrow8 (fun r hr => by have := gr8 r hr; have := Sr.out; have := S4.out; have := S5.out; have := S6.out; omega))
              have R8 := Lib.hid (show IR w8 w.heap.size 29 5 v8 (m + 1) from ⟨_, hown8, ha9.app (by first | exact allI5 _ _ _ _ _ | exact allI7 _ _ _ _ _ _ _)⟩)
              clear hown8 hgrow8 gr8 ho9 ha9
              go_wp2
              go_ret
              exact ⟨⟨_, m + 1, by omega, rfl, R8.out⟩, Hc8.out.mono (by omega), Hd8.out⟩
            · have zz0 : (z == 0) = false := beq_eq_false_iff_ne.2 ez0
              have zz1 : (z == 1) = false := beq_eq_false_iff_ne.2 ez1
              clear ez0 ez1
              go_wp2
              go_ret
              exact ⟨⟨_, m, by omega, rfl, HO.out⟩, Hc6.out.mono (by omega), Hd6.out⟩
        · have hmi : ¬ (0 : Int) < (m : Int) := by omega
          go_wp2
          go_ret
          exact ⟨⟨_, m, by omega, rfl, HO.out⟩, Hc9.out.mono (by omega), Hd4.out⟩
      · clear hq0 HO GHO
        go_wp2_with fail
        refine (pick_any g (k + 90) (2) _ Hc9.out (by have := Hk.out; omega)).mono ?_; rintro e w9 ⟨⟨nn, lnn, unn, rfl⟩, hc9, hd9⟩
        have S9 := Lib.hid (show w4.heap.size + 0 ≤ w9.heap.size by have h9 := hd9.size; (try simp only [World.size_alloc, World.size_setCell] at h9); omega)
        have Hc9 := Lib.hid (hc9.mono (j := k + 92) (by omega))
        have Hd9 := Lib.hid (Hd4.out.trans hd9)
        clear hc9 hd9
        obtain ⟨nn, rfl⟩ : ∃ q : Nat, nn = q := ⟨nn.toNat, by omega⟩
        have hnn : nn ≤ 1 := by omega
        have hn12 : (0 : Int) ≤ 12 + (nn : Int) := by omega
        clear lnn unn
        go_wp2
        go_loopw [3] (fun l wr => ∃ m : Nat, m ≤ 12 + nn ∧ Hid (IR wr w.heap.size 29 5 l m) ∧ Hid (Cur wr g (k + 92)) ∧ Hid (Dg g w wr)) (fun l _ => 13 - lenV l)
        case atStart => exact ⟨0, Nat.zero_le _, Lib.hid (IR.nil _ _ _ _), Lib.hid (Hc9.out.mono (by omega)), Hd9⟩
        case round =>
          obtain ⟨m, hm13, HO, Hcr, Hdr⟩ := hrel
          obtain ⟨A9, c9, rfl, hmc, hcm⟩ := HO.out.form
          unfold maxLen at hcm
          have Sr := Lib.hid Hdr.out.size
          have GHO := Lib.hid HO.out.lt
          by_cases hml : m < 12 + nn
          · have hmi : (m : Int) < 12 + (nn : Int) := by omega
            have hm0 : (0 : Int) ≤ (m : Int) := by omega
            obtain ⟨xs9, ho9, ha9⟩ := HO.out.ex
            go_wp2_with (at_builtin; refine wpList_append_own _ rfl _ _ 23 rfl w.heap.size 29 i0 (.agg #[.int .i64 0, .int .i64 0, .int .i64 0, .int .i64 0, .int .i64 0]) 5 40 Tryz.underlying23 hi hz0 hz1 hz2 rfl (by decide) _ _ _ rfl (ho9.alloc _) ⟨wr.heap.size, 0, none⟩ 1 1 [.int .i64 1, .int .i64 (m : Int), .int .i64 0, .int .i64 2, .int .i64 1] rfl rfl ?c1 ?c2 ?c3 ?c4 ?c5 ?_)
            case c1 =>
              intro j u hj
              match j, hj with
              | 0, hj => simp at hj; subst hj; exact (Blk.new wr _ _).cell 0
              | 1, hj => simp at hj; subst hj; exact (Blk.new wr _ _).cell 1
              | 2, hj => simp at hj; subst hj; exact (Blk.new wr _ _).cell 2
              | 3, hj => simp at hj; subst hj; exact (Blk.new wr _ _).cell 3
              | 4, hj => simp at hj; subst hj; exact (Blk.new wr _ _).cell 4
            case c2 => intro u hu; simp at hu; rcases hu with rfl | rfl | rfl | rfl | rfl <;> rfl
            case c3 => unfold maxLen; omega
            case c4 => omega
            case c5 => have := Hgl.out; have := Sr.out; simp; omega
            intro v10 w10 hown10 hgrow10 _
            have S10 := Lib.hid (show wr.heap.size + 1 ≤ w10.heap.size by have h9 := hgrow10.size; (try simp only [World.size_alloc] at h9); omega)
            have gr10 : ∀ r, Value.ownBlock _ = some r → w.heap.size ≤ r := fun r hr => (World.ownsRow.lt ho9 r hr).1
            have Hc10 := Lib.hid ((Hcr.out.alloc _).grown hgrow10 (fun r hr => by have := gr10 r hr; have := Hgl.out; have := Sr.out; omega))
            have Hd10 := Lib.hid ((Hdr.out.alloc _).grown hgrow10 (fun r hr => by have := gr10 r hr; have := Sr.out; omega))
            have R10 := Lib.hid (show IR w10 w.heap.size 29 5 v10 (m + 1) from ⟨_, hown10, ha9.app (by first | exact allI5 _ _ _ _ _ | exact allI7 _ _ _ _ _ _ _)⟩)
            clear hown10 hgrow10 gr10 ho9 ha9
            go_wp2
            go_roundw
            case rel => exact ⟨m + 1, by omega, R10, Hc10, Hd10⟩
            case measure => obtain ⟨A8, c8, rfl, -, -⟩ := R10.out.form; simp [lenV]; omega
          · have hmi : ¬ (m : Int) < 12 + (nn : Int) := by omega
            clear hml hn12
            by_cases hm0 : 0 < m
            · obtain ⟨gl, cl, hfl, hgl1, hgl2, hmcl, hcml⟩ := HO.out.pos hm0
              injection hfl with hf1 hf2 hf3; subst hf1; subst hf3; clear hf2
              have hmi : (0 : Int) < (m : Int) := by omega
              go_wp2_with fail
              refine (pick_any g (k + 92) (m : Int) _ Hcr.out (by have := Hk.out; omega)).mono ?_; rintro e w11 ⟨⟨y, ly, uy, rfl⟩, hc11, hd11⟩
              have S11 := Lib.hid (show wr.heap.size + 0 ≤ w11.heap.size by have h9 := hd11.size; (try simp only [World.size_alloc, World.size_setCell] at h9); omega)
              have HO := Lib.hid (HO.out.dg hd11 (show g < w.heap.size by have := Hgl.out; have := Sr.out; have := S11.out; omega))
              have Hc11 := Lib.hid (hc11.mono (j := k + 94) (by omega))
              have Hd11 := Lib.hid (Hdr.out.trans hd11)
              clear hc11 hd11
              obtain ⟨y, rfl⟩ : ∃ q : Nat, y = q := ⟨y.toNat, by omega⟩
              have hym : y < m := by omega
              clear ly uy
              go_wp2_with fail
              refine (pick_any g (k + 94) (24) _ Hc11.out (by have := Hk.out; omega)).mono ?_; rintro e w12 ⟨⟨z, lz, uz, rfl⟩, hc12, hd12⟩
              have S12 := Lib.hid (show w11.heap.size + 0 ≤ w12.heap.size by have h9 := hd12.size; (try simp only [World.size_alloc, World.size_setCell] at h9); omega)
              have HO := Lib.hid (HO.out.dg hd12 (show g < w.heap.size by have := Hgl.out; have := Sr.out; have := S11.out; have := S12.out; omega))
              have Hc12 := Lib.hid (hc12.mono (j := k + 96) (by omega))
              have Hd12 := Lib.hid (Hd11.out.trans hd12)
              clear hc12 hd12
              have hyi : (0 : Int) ≤ (y : Int) := by omega
              have hyj : (y : Int) < (m : Int) := by omega
              by_cases ez0 : z = 0
              · have zz0 : (z == 0) = true := by rw [ez0]; rfl
                clear ez0
                go_wp2_with fail
                refine (anyEntry_any g (k + 96) _ Hc12.out (by have := Hk.out; omega)).mono ?_; rintro e w13 ⟨⟨a7, b7, lo7, hi7, t7, rfl⟩, hc13, hd13⟩
                have S13 := Lib.hid (show w12.heap.size + 0 ≤ w13.heap.size by have h9 := hd13.size; (try simp only [World.size_alloc, World.size_setCell] at h9); omega)
                have HO := Lib.hid (HO.out.dg hd13 (show g < w.heap.size by have := Hgl.out; have := Sr.out; have := S11.out; have := S12.out; have := S13.out; omega))
                have Hc13 := Lib.hid (hc13.mono (j := k + 156) (by omega))
                have Hd13 := Lib.hid (Hd12.out.trans hd13)
                clear hc13 hd13
                obtain ⟨u0, hu0⟩ := HO.out.cell (j := y * 5) (by omega)
                obtain ⟨u1, hu1⟩ := HO.out.cell (j := y * 5 + 1) (by omega)
                obtain ⟨u2, hu2⟩ := HO.out.cell (j := y * 5 + 2) (by omega)
                obtain ⟨u3, hu3⟩ := HO.out.cell (j := y * 5 + 3) (by omega)
                obtain ⟨u4, hu4⟩ := HO.out.cell (j := y * 5 + 4) (by omega)
                have hfz := HO.out.frozen
                have hll := (HO.out.lt gl rfl).2
                go_wp2
                go_ret
                exact ⟨⟨_, m, by omega, rfl, (((((HO.out.set (y * 5) a7).set (y * 5 + 1) b7).set (y * 5 + 2) lo7).set (y * 5 + 3) hi7).set (y * 5 + 4) t7)⟩, (((((Hc13.out.st (p := ⟨gl, y * 5, none⟩) (by have := Hgl.out; show g < gl; omega) (.int .i64 a7)).st (p := ⟨gl, y * 5 + 1, none⟩) (by have := Hgl.out; show g < gl; omega) (.int .i64 b7)).st (p := ⟨gl, y * 5 + 2, none⟩) (by have := Hgl.out; show g < gl; omega) (.int .i64 lo7)).st (p := ⟨gl, y * 5 + 3, none⟩) (by have := Hgl.out; show g < gl; omega) (.int .i64 hi7)).st (p := ⟨gl, y * 5 + 4, none⟩) (by have := Hgl.out; show g < gl; omega) (.int .i64 t7)).mono (by omega), (((((Hd13.out.st (p := ⟨gl, y * 5, none⟩) (show w.heap.size ≤ gl from hgl1) (.int .i64 a7)).st (p := ⟨gl, y * 5 + 1, none⟩) (show w.heap.size ≤ gl from hgl1) (.int .i64 b7)).st (p := ⟨gl, y * 5 + 2, none⟩) (show w.heap.size ≤ gl from hgl1) (.int .i64 lo7)).st (p := ⟨gl, y * 5 + 3, none⟩) (show w.heap.size ≤ gl from hgl1) (.int .i64 hi7)).st (p := ⟨gl, y * 5 + 4, none⟩) (show w.heap.size ≤ gl from hgl1) (.int .i64 t7))⟩
              · by_cases ez1 : z = 1
                · have zz1 : (z == 1) = true := by rw [ez1]; rfl
                  have zz0 : (z == 0) = false := by rw [ez1]; rfl
                  clear ez0 ez1
                  obtain ⟨u0, hu0⟩ := HO.out.cell (j := y * 5) (by omega)
                  obtain ⟨u1, hu1⟩ := HO.out.cell (j := y * 5 + 1) (by omega)
                  obtain ⟨u2, hu2⟩ := HO.out.cell (j := y * 5 + 2) (by omega)
                  obtain ⟨u3, hu3⟩ := HO.out.cell (j := y * 5 + 3) (by omega)
                  obtain ⟨u4, hu4⟩ := HO.out.cell (j := y * 5 + 4) (by omega)
                  have hll := (HO.out.lt gl rfl).2
                  obtain ⟨xs9, ho9, ha9⟩ := HO.out.ex
                  go_wp2_with (at_builtin; refine wpList_append_own _ rfl _ _ 23 rfl w.heap.size 29 i0 (.agg #[.int .i64 0, .int .i64 0, .int .i64 0, .int .i64 0, .int .i64 0]) 5 40 Tryz.underlying23 hi hz0 hz1 hz2 rfl (by decide) _ _ _ rfl (ho9.alloc _) ⟨w12.heap.size, 0, none⟩ 1 1 [.int .i64 u0, .int .i64 u1, .int .i64 u2, .int .i64 u3, .int .i64 u4] rfl rfl ?f1 ?f2 ?f3 ?f4 ?f5 ?_)
                  case f1 =>
                    intro j u hj
                    match j, hj with
                    | 0, hj => simp at hj; subst hj; exact (Blk.new w12 _ _).cell 0
                    | 1, hj => simp at hj; subst hj; exact (Blk.new w12 _ _).cell 1
                    | 2, hj => simp at hj; subst hj; exact (Blk.new w12 _ _).cell 2
                    | 3, hj => simp at hj; subst hj; exact (Blk.new w12 _ _).cell 3
                    | 4, hj => simp at hj; subst hj; exact (Blk.new w12 _ _).cell 4
                  case f2 => intro u hu; simp at hu; rcases hu with rfl | rfl | rfl | rfl | rfl <;> rfl
                  case f3 => unfold maxLen; omega
                  case f4 => omega
                  case f5 => have := Hgl.out; have := Sr.out; have := S11.out; have := S12.out; simp; omega
                  intro v14 w14 hown14 hgrow14 _
                  have S14 := Lib.hid (show w12.heap.size + 1 ≤ w14.heap.size by have h9 := hgrow14.size; (try simp only [World.size_alloc] at h9); omega)
                  have gr14 : ∀ r, Value.ownBlock _ = some r → w.heap.size ≤ r := fun r hr => (World.ownsRow.lt ho9 r hr).1
                  have Hc14 := Lib.hid ((Hc12.out.alloc _).grown hgrow14 (fun r hr => by have := gr14 r hr; have := Hgl.out; have := Sr.out; have := S11.out; have := S12.out; omega))
                  have Hd14 := Lib.hid ((Hd12.out.alloc _).grown hgrow14 (fun r hr => by have := gr14 r hr; have := Sr.out; have := S11.out; have := S12.out; omega))
                  have R14 := Lib.hid (show IR w14 w.heap.size 29 5 v14 (m + 1) from ⟨_, hown14, ha9.app (by first | exact allI5 _ _ _ _ _ | exact allI7 _ _ _ _ _ _ _)⟩)
                  clear hown14 hgrow14 gr14 ho9 ha9
                  go_wp2
                  go_ret
                  exact ⟨⟨_, m + 1, by omega, rfl, R14.out⟩, Hc14.out.mono (by omega), Hd14.out⟩
                · have zz0 : (z == 0) = false := beq_eq_false_iff_ne.2 ez0
                  have zz1 : (z == 1) = false := beq_eq_false_iff_ne.2 ez1
                  clear ez0 ez1
                  go_wp2
                  go_ret
                  exact ⟨⟨_, m, by omega, rfl, HO.out⟩, Hc12.out.mono (by omega), Hd12.out⟩
            · have hmi : ¬ (0 : Int) < (m : Int) := by omega
              go_wp2
              go_ret
              exact ⟨⟨_, m, by omega, rfl, HO.out⟩, Hcr.out.mono (by omega), Hdr.out⟩
end
section
open Go Go.RowKit

theorem BytesAt.mono {w : World} {g g' : Nat} {A : Option Addr} {n : Nat} (h : BytesAt w g A n) (hg : g ≤ g') : BytesAt w g' A n :=
  ⟨h.1, fun h0 => let ⟨gc, off, hA, h1, h2, hc⟩ := h.2 h0; ⟨gc, off, hA, Nat.lt_of_lt_of_le h1 hg, h2, hc⟩⟩
theorem BytesAt.on {w w' : World} {A : Option Addr} {n : Nat} (h : BytesAt w w.heap.size A n) (hb : Below w.heap.size w w') : BytesAt w' w'.heap.size A n :=
  (h.dg (Dg.of_below hb)).mono hb.size
theorem BytesAt.al {w : World} {A : Option Addr} {n : Nat} (h : BytesAt w w.heap.size A n) (o : Obj) : BytesAt (w.alloc o) (w.alloc o).heap.size A n := h.on (bal (Below.refl _ _) o)
theorem Cur.new0 {w : World} {A : Option Addr} {n : Nat} (h : BytesAt w w.heap.size A n) (c : Nat) : Cur (w.alloc (.cells #[.slice A n c, .int .i64 0, .int .u64 0] 106)) w.heap.size 0 :=
  ⟨A, n, c, 0, 0, Blk.new w _ _, Nat.le_refl _, h.dg (Dg.of_below (bal (Below.refl _ _) _))⟩
theorem Cur.new1 {w : World} {A : Option Addr} {n : Nat} (h : BytesAt w w.heap.size A n) (c : Nat) (o : Obj) : Cur ((w.alloc o).alloc (.cells #[.slice A n c, .int .i64 0, .int .u64 0] 106)) (w.heap.size + 1) 0 := by
  have := Cur.new0 (h.al o) c
  rwa [World.size_alloc] at this
/-- The cells of a row as a source. -/
theorem IR.src {w : World} {B : Nat} {t : TypeId} {z n : Nat} {A : Option Addr} {c : Nat} (h : IR w B t z (.slice A n c) n) :
    ∃ xs, AllI xs ∧ xs.length = n * z ∧ (A = none → n = 0) ∧ ∀ a, A = some a → ∀ j u, xs[j]? = some u → w.cell? (a.add j) = some u := by
  obtain ⟨xs, h1, h2⟩ := h.ex
  refine ⟨xs, h2, h1.1, fun e => ?_, fun a e j u hu => ?_⟩
  · by_cases h0 : 0 < n
    · obtain ⟨g, c', h3, -⟩ := h.pos h0
      rw [e] at h3; cases h3
    · omega
  · have hj : j < xs.length := (List.getElem?_eq_some_iff.1 hu).1
    have h0 : 0 < n := by rcases Nat.eq_zero_or_pos n with h9 | h9; · rw [h1.1, h9] at hj; simp at hj
                          · exact h9
    obtain ⟨g, c', h3, -⟩ := h.pos h0
    rw [e] at h3
    injection h3 with h4 h5 h6
    injection h4 with h4
    subst h4
    rw [e] at h1
    have h7 := h1.cellAt j (by rw [← h1.1]; exact hj)
    rw [hu] at h7
    by_cases h8 : j = 0
    · subst h8; simpa [Addr.add] using h7
    · simpa [Addr.add, h8] using h7
end
section
open Go Go.RowKit

set_option maxRecDepth 8000 in
set_option maxHeartbeats 1600000 in
/-- A string of a block of strings. -/
theorem of_blk (g k b : Nat) (ss : List ByteArray) (n : Nat) (hn : n = ss.length) (w : World) (hB : Blk w b 9 (ss.map Value.string).toArray) (hc : Cur w g k) (hb : b ≠ g) (hne : ss ≠ []) (hl : ss.length ≤ 1000) (hk : k ≤ 800000) :
    Calls Tryz.prog 94 #[.pointer (some ⟨g, 0, none⟩), .slice (some ⟨b, 0, none⟩) n n] w fun e w' => (∃ s : ByteArray, s ∈ ss ∧ e = .returned (.string s)) ∧ Cur w' g (k + 2) ∧ Dg g w w' := by
  subst hn
  have h0 : 0 < ss.length := by cases ss with | nil => exact absurd rfl hne | cons _ _ => simp
  have HB := Lib.hid hB; have Hc := Lib.hid hc; clear hB hc
  have hli : (0 : Int) < (ss.length : Int) := by omega
  go_enter Tryz.func94, Tryz.ntmps94
  go_wp2_with fail
  refine (pick_any g k (ss.length : Int) _ Hc.out (by omega)).mono ?_; rintro e w1 ⟨⟨p, hp0, hp1, rfl⟩, hc1, hd1⟩
  have hp2 : p < (ss.length : Int) := by omega
  clear hp1
  obtain ⟨q, rfl⟩ : ∃ q : Nat, p = (q : Int) := ⟨p.toNat, by omega⟩
  have hq : q < ss.length := by omega
  have hcell := (HB.out.dg hd1 hb).cell q
  have hg : (ss.map Value.string).toArray[q]? = some (.string ss[q]) := by simp [hq]
  rw [hg] at hcell
  have hbl := (HB.out.dg hd1 hb).lt
  have hm : ss[q] ∈ ss := List.getElem_mem hq
  generalize ss[q] = s at hcell hm
  have Hc1 := Lib.hid hc1; have Hd1 := Lib.hid hd1; clear hc1 hd1
  go_wp2
  go_ret
  exact ⟨⟨s, hm, rfl⟩, Hc1.out, Hd1.out⟩
set_option linter.unusedSimpArgs false in
set_option maxRecDepth 8000 in
set_option maxHeartbeats 4000000 in
theorem spoilt_any (g k : Nat) (t x : ByteArray) (w : World) (hc : Cur w g k) (hk : k ≤ 500000) (hx0 : 0 < x.size) (hx1 : x.size ≤ 100) (ht : t.size ≤ 4000000) :
    Calls Tryz.prog 95 #[.pointer (some ⟨g, 0, none⟩), .string t, .string x] w fun e w' => (∃ s : ByteArray, s.size ≤ t.size + 2 ∧ e = .returned (.string s)) ∧ Cur w' g (k + 20) ∧ Dg g w w' := by
  have Hgl := Lib.hid hc.lt
  have Hc := Lib.hid hc; have Hk := Lib.hid hk; clear hc hk
  have hx2 : (0 : Int) ≤ (x.size : Int) := by omega
  go_enter Tryz.func95, Tryz.ntmps95
  go_wp2_with fail
  refine (pick_any g k 2 _ Hc.out (by have := Hk.out; omega)).mono ?_; rintro e w1 ⟨⟨n, hn0, hn1, rfl⟩, hc1, hd1⟩
  have hn2 : n ≤ 1 := by omega
  clear hn1
  have Hc1 := Lib.hid hc1; have Hd1 := Lib.hid hd1; clear hc1 hd1
  go_wp2
  go_loopw [1, 7] (fun s i wr => ∃ (t' : ByteArray) (j : Nat), (j : Int) ≤ 1 + n ∧ i = .int .i64 (1 + n - j) ∧ s = .string t' ∧ t'.size ≤ t.size + j ∧ Hid (Cur wr g (k + 2 + 6 * j)) ∧ Hid (Dg g w wr)) (fun _ i _ => (intOf i).toNat)
  case atStart => exact ⟨t, 0, by omega, by first | rfl | (congr 1; omega) | go_num, rfl, by omega, Hc1, Hd1⟩
  case round =>
    obtain ⟨t', j, hj, rfl, rfl, hts, Hcr, Hdr⟩ := hrel
    have hj2 : j ≤ 2 := by omega
    obtain ⟨i, hi⟩ : ∃ i : Int, 1 + n - (j : Int) = i := ⟨_, rfl⟩
    rw [hi]
    have Hi := Lib.hid hi
    have hi2 : 0 ≤ i ∧ i ≤ 2 := by omega
    clear hi
    obtain ⟨hi3, hi4⟩ := hi2
    by_cases h0 : 0 < i
    · by_cases h1 : 0 < t'.size
      · have h1i : (0 : Int) < (t'.size : Int) := by omega
        go_wp2_with fail
        refine (pick_any g (k + 2 + 6 * j) (t'.size : Int) _ Hcr.out (by have := Hk.out; omega)).mono ?_; rintro e w2 ⟨⟨p, hp0, hp1, rfl⟩, hc2, hd2⟩
        have hp2 : p < (t'.size : Int) := by omega
        clear hp1
        have Hc2 := Lib.hid hc2; have Hd2 := Lib.hid (Hdr.out.trans hd2); clear hc2 hd2
        go_wp2_with fail
        refine (pick_any g (k + 2 + 6 * j + 2) (x.size : Int) _ Hc2.out (by have := Hk.out; omega)).mono ?_; rintro e w3 ⟨⟨q, hq0, hq1, rfl⟩, hc3, hd3⟩
        have hq2 : q < (x.size : Int) := by omega
        clear hq1
        have Hc3 := Lib.hid hc3; have Hd3 := Lib.hid (Hd2.out.trans hd3); clear hc3 hd3
        go_wp2_with fail
        generalize x[q.toNat] = b
        rw [conv_cell (w3.alloc (Obj.cells #[.int .u8 ((b.toNat : Nat) : Int)] 5)) w3.heap.size b.toNat b.toNat_lt ((Blk.new w3 5 #[.int .u8 ((b.toNat : Nat) : Int)]).cell 0)]
        obtain ⟨y, hy⟩ : ∃ y : ByteArray, y = ⟨#[UInt8.ofNat b.toNat]⟩ := ⟨_, rfl⟩
        rw [← hy]
        have hys : y.size ≤ 1 := by rw [hy]; exact Nat.le_refl _
        clear hy
        go_wp2_with fail
        refine (pick_any g (k + 2 + 6 * j + 4) 3 _ ((Hc3.out.mono (j := k + 2 + 6 * j + 4) (by omega)).alloc _) (by have := Hk.out; omega)).mono ?_; rintro e w4 ⟨⟨z, hz0, hz1, rfl⟩, hc4, hd4⟩
        clear hz1
        have Hc4 := Lib.hid hc4; have Hd4 := Lib.hid ((Hd3.out.alloc _).trans hd4); clear hc4 hd4
        by_cases e0 : z = 0
        · have z0 : (z == 0) = true := by rw [e0]; rfl
          clear e0
          go_wp2
          refine wp_region_tame (by kernel_rfl) (by kernel_rfl) (fun T _ W hT => ?_)
          have hx := hT.cell
          repeat (go_big_quiet_step (fail))
          refine wpQuiet_nil ?_
          intro tt
          clear hx
          have hb5 := hT.below tt
          generalize W tt = w5 at hb5 ⊢
          clear hT
          have Hc5 := Lib.hid (Hc4.out.on hb5); have Hd5 := Lib.hid (Hd4.out.on hb5); clear hb5
          go_wp2
          go_roundw
          case rel => exact ⟨_, j + 1, by have h9 := Hi.out; omega, by have h9 := Hi.out; first | (congr 1; omega) | go_num, rfl, by (first | rw [ByteArray.size_append, ByteArray.size_append, ByteArray.size_extract, ByteArray.size_extract] | rw [ByteArray.size_append, ByteArray.size_extract, ByteArray.size_extract]); omega, Lib.hid (Hc5.out.mono (by omega)), Hd5⟩
          case measure => simp [intOf]; omega
        · have z0 : (z == 0) = false := beq_eq_false_iff_ne.2 e0
          clear e0
          by_cases e1 : z = 1
          · have z1 : (z == 1) = true := by rw [e1]; rfl
            clear e1
            go_wp2
            refine wp_region_tame (by kernel_rfl) (by kernel_rfl) (fun T _ W hT => ?_)
            have hx := hT.cell
            repeat (go_big_quiet_step (fail))
            refine wpQuiet_nil ?_
            intro tt
            clear hx
            have hb5 := hT.below tt
            generalize W tt = w5 at hb5 ⊢
            clear hT
            have Hc5 := Lib.hid (Hc4.out.on hb5); have Hd5 := Lib.hid (Hd4.out.on hb5); clear hb5
            go_wp2
            go_roundw
            case rel => exact ⟨_, j + 1, by have h9 := Hi.out; omega, by have h9 := Hi.out; first | (congr 1; omega) | go_num, rfl, by (first | rw [ByteArray.size_append, ByteArray.size_append, ByteArray.size_extract, ByteArray.size_extract] | rw [ByteArray.size_append, ByteArray.size_extract, ByteArray.size_extract]); omega, Lib.hid (Hc5.out.mono (by omega)), Hd5⟩
            case measure => simp [intOf]; omega
          · have z1 : (z == 1) = false := beq_eq_false_iff_ne.2 e1
            clear e1
            go_wp2
            refine wp_region_tame (by kernel_rfl) (by kernel_rfl) (fun T _ W hT => ?_)
            have hx := hT.cell
            repeat (go_big_quiet_step (fail))
            refine wpQuiet_nil ?_
            intro tt
            clear hx
            have hb5 := hT.below tt
            generalize W tt = w5 at hb5 ⊢
            clear hT
            have Hc5 := Lib.hid (Hc4.out.on hb5); have Hd5 := Lib.hid (Hd4.out.on hb5); clear hb5
            go_wp2
            go_roundw
            case rel => exact ⟨_, j + 1, by have h9 := Hi.out; omega, by have h9 := Hi.out; first | (congr 1; omega) | go_num, rfl, by (first | rw [ByteArray.size_append, ByteArray.size_append, ByteArray.size_extract, ByteArray.size_extract] | rw [ByteArray.size_append, ByteArray.size_extract, ByteArray.size_extract]); omega, Lib.hid (Hc5.out.mono (by omega)), Hd5⟩
            case measure => simp [intOf]; omega
      · have h1i : ¬ (0 : Int) < (t'.size : Int) := by omega
        go_wp2
        go_ret
        exact ⟨⟨t', by omega, rfl⟩, Hcr.out.mono (by omega), Hdr.out⟩
    · go_wp2
      go_ret
      exact ⟨⟨t', by omega, rfl⟩, Hcr.out.mono (by omega), Hdr.out⟩
end
end Go.Proofs.YtimfoodbolokdaaGreatDoor
