/- The reference's draws of a report, of reports and a time, and of reports and a machine. Conditions: a slice of bytes. Printed by gen_drp.py. -/
import Derived.Test.YtjnghjgfhlgbiaaDoorDrJ
import Derived.Deep.DeepCutAuto
import Derived.Deep.RegionHeld3
namespace Go.Proofs.YtjnghjgfhlgbiaaDoor
open Go Go.RowKit

/-- A row of reports of a call's own, and an int. -/
structure RowI (w : World) (B : Nat) (e : Ending) : Prop where
  ex : ∃ (v : Value) (m : Nat) (x : Int), m ≤ 22 ∧ e = .returned (.tuple #[v, .int .i64 x]) ∧ IR w B 30 7 v m ∧ (-1 ≤ x ∧ x ≤ 1000001)
/-- A row of reports of a call's own, and a report. -/
structure RowP (w : World) (B : Nat) (e : Ending) : Prop where
  ex : ∃ (v : Value) (m : Nat) (u0 u1 u2 u3 u4 u5 u6 : Int), m ≤ 22 ∧ e = .returned (.tuple #[v, .agg #[.int .i64 u0, .int .i64 u1, .int .i64 u2, .int .i64 u3, .int .i64 u4, .int .i64 u5, .int .i64 u6]]) ∧ IR w B 30 7 v m

set_option linter.unusedSimpArgs false in
set_option maxRecDepth 8000 in
set_option maxHeartbeats 16000000 in
theorem drawUpTo_any (A : Option Addr) (n c : Nat) (w : World) (hby : BytesAt w w.heap.size A n) :
    Calls Tryd.prog 12 #[.slice A n c] w fun e w' => RowI w' w.heap.size e ∧ Below w.heap.size w w' := by
  have Hb := Lib.hid hby; clear hby
  have Hgl := Lib.hid (Nat.le_refl w.heap.size)
  have Hd := Lib.hid (Dg.refl w.heap.size w)
  go_enter Tryd.func12, Tryd.ntmps12
  go_wp2_with fail
  refine (reports_any w.heap.size 0 _ (Cur.new0 Hb.out c) (by omega)).mono ?_; rintro e w1 ⟨⟨v, m, hm, rfl, hv⟩, hc1, hd1⟩
  have S1 := Lib.hid (show w.heap.size + 1 ≤ w1.heap.size by have h9 := hd1.size; (try simp only [World.size_alloc, World.size_setCell] at h9); omega)
  have Hc1 := Lib.hid (hc1.mono (j := 0 + 3000) (by omega))
  have Hd1 := Lib.hid ((Hd.out.alloc _).trans hd1)
  clear hc1 hd1
  have HV := Lib.hid (hv.mono (B' := w.heap.size + 1) (by simp)); have GHV := Lib.hid (IR.lt (hv.mono (B' := w.heap.size + 1) (by simp)))
  clear hv
  go_wp2_with fail
  refine (among_lit w.heap.size (0 + 3000) (w1.heap.size) [-1, 1000001] w1 (by simp) Hc1.out (by simp) (by simp) (by omega)).mono ?_; rintro e w2 ⟨⟨x0, hx0, rfl⟩, hc2, hd2⟩
  have S2 := Lib.hid (show w1.heap.size + 1 ≤ w2.heap.size by have h9 := hd2.size; (try simp only [World.size_alloc, World.size_setCell] at h9); omega)
  have HV := Lib.hid ((HV.out.alloc _).dg hd2 (show w.heap.size < (w.heap.size + 1) by have := Hgl.out; have := S1.out; have := S2.out; omega))
  have Hc2 := Lib.hid (hc2.mono (j := 0 + 3002) (by omega))
  have Hd2 := Lib.hid ((Hd1.out.alloc _).trans hd2)
  clear hc2 hd2
  have B0 := Lib.hid (ag2 hx0 (lo := -1) (hi := 1000001) (by simp))
  clear hx0
  go_wp2_with fail
  refine (among_lit w.heap.size (0 + 3002) (w2.heap.size) [0, 1, 3, 10, 1000000, x0] w2 (by simp) Hc2.out (by simp) (by simp) (by omega)).mono ?_; rintro e w3 ⟨⟨x1, hx1, rfl⟩, hc3, hd3⟩
  have S3 := Lib.hid (show w2.heap.size + 1 ≤ w3.heap.size by have h9 := hd3.size; (try simp only [World.size_alloc, World.size_setCell] at h9); omega)
  have HV := Lib.hid ((HV.out.alloc _).dg hd3 (show w.heap.size < (w.heap.size + 1) by have := Hgl.out; have := S1.out; have := S2.out; have := S3.out; omega))
  have Hc3 := Lib.hid (hc3.mono (j := 0 + 3004) (by omega))
  have Hd3 := Lib.hid ((Hd2.out.alloc _).trans hd3)
  clear hc3 hd3
  have B1 := Lib.hid (ag2 hx1 (lo := -1) (hi := 1000001) (by have := B0.out; simp; omega))
  clear hx1
  go_wp2
  go_ret2
  exact ⟨⟨v, m, x1, hm, rfl, HV.out.mono (by omega), B1.out⟩, Hd3.out.below (by have := S1.out; have := S2.out; have := S3.out; omega) (Nat.le_refl _)⟩
set_option linter.unusedSimpArgs false in
set_option maxRecDepth 8000 in
set_option maxHeartbeats 16000000 in
theorem drawBy_any (A : Option Addr) (n c : Nat) (w : World) (hby : BytesAt w w.heap.size A n) :
    Calls Tryd.prog 20 #[.slice A n c] w fun e w' => RowI w' w.heap.size e ∧ Below w.heap.size w w' := by
  have Hb := Lib.hid hby; clear hby
  have Hgl := Lib.hid (Nat.le_refl w.heap.size)
  have Hd := Lib.hid (Dg.refl w.heap.size w)
  go_enter Tryd.func20, Tryd.ntmps20
  go_wp2_with fail
  refine (reports_any w.heap.size 0 _ (Cur.new0 Hb.out c) (by omega)).mono ?_; rintro e w1 ⟨⟨v, m, hm, rfl, hv⟩, hc1, hd1⟩
  have S1 := Lib.hid (show w.heap.size + 1 ≤ w1.heap.size by have h9 := hd1.size; (try simp only [World.size_alloc, World.size_setCell] at h9); omega)
  have Hc1 := Lib.hid (hc1.mono (j := 0 + 3000) (by omega))
  have Hd1 := Lib.hid ((Hd.out.alloc _).trans hd1)
  clear hc1 hd1
  have HV := Lib.hid (hv.mono (B' := w.heap.size + 1) (by simp)); have GHV := Lib.hid (IR.lt (hv.mono (B' := w.heap.size + 1) (by simp)))
  clear hv
  go_wp2_with fail
  refine (among_lit w.heap.size (0 + 3000) (w1.heap.size) [0, 10] w1 (by simp) Hc1.out (by simp) (by simp) (by omega)).mono ?_; rintro e w2 ⟨⟨x0, hx0, rfl⟩, hc2, hd2⟩
  have S2 := Lib.hid (show w1.heap.size + 1 ≤ w2.heap.size by have h9 := hd2.size; (try simp only [World.size_alloc, World.size_setCell] at h9); omega)
  have HV := Lib.hid ((HV.out.alloc _).dg hd2 (show w.heap.size < (w.heap.size + 1) by have := Hgl.out; have := S1.out; have := S2.out; omega))
  have Hc2 := Lib.hid (hc2.mono (j := 0 + 3002) (by omega))
  have Hd2 := Lib.hid ((Hd1.out.alloc _).trans hd2)
  clear hc2 hd2
  have B0 := Lib.hid (ag2 hx0 (lo := -1) (hi := 1000001) (by simp))
  clear hx0
  go_wp2_with fail
  refine (among_lit w.heap.size (0 + 3002) (w2.heap.size) [1, 2, 3, 9, x0] w2 (by simp) Hc2.out (by simp) (by simp) (by omega)).mono ?_; rintro e w3 ⟨⟨x1, hx1, rfl⟩, hc3, hd3⟩
  have S3 := Lib.hid (show w2.heap.size + 1 ≤ w3.heap.size by have h9 := hd3.size; (try simp only [World.size_alloc, World.size_setCell] at h9); omega)
  have HV := Lib.hid ((HV.out.alloc _).dg hd3 (show w.heap.size < (w.heap.size + 1) by have := Hgl.out; have := S1.out; have := S2.out; have := S3.out; omega))
  have Hc3 := Lib.hid (hc3.mono (j := 0 + 3004) (by omega))
  have Hd3 := Lib.hid ((Hd2.out.alloc _).trans hd3)
  clear hc3 hd3
  have B1 := Lib.hid (ag2 hx1 (lo := -1) (hi := 1000001) (by have := B0.out; simp; omega))
  clear hx1
  go_wp2
  go_ret2
  exact ⟨⟨v, m, x1, hm, rfl, HV.out.mono (by omega), B1.out⟩, Hd3.out.below (by have := S1.out; have := S2.out; have := S3.out; omega) (Nat.le_refl _)⟩
set_option linter.unusedSimpArgs false in
set_option maxRecDepth 8000 in
set_option maxHeartbeats 16000000 in
theorem drawIsReport_any (A : Option Addr) (n c : Nat) (w : World) (hby : BytesAt w w.heap.size A n) :
    Calls Tryd.prog 21 #[.slice A n c] w fun e w' => (∃ u0 u1 u2 u3 u4 u5 u6 : Int, e = .returned (.agg #[.int .i64 u0, .int .i64 u1, .int .i64 u2, .int .i64 u3, .int .i64 u4, .int .i64 u5, .int .i64 u6])) ∧ Below w.heap.size w w' := by
  have Hb := Lib.hid hby; clear hby
  have Hgl := Lib.hid (Nat.le_refl w.heap.size)
  have Hd := Lib.hid (Dg.refl (w.heap.size + 1) w)
  go_enter Tryd.func21, Tryd.ntmps21
  go_wp2_with fail
  refine (among_lit (w.heap.size + 1) 0 (w.heap.size + 1 + 1) [-1, 1000001] (World.alloc (World.alloc w (Obj.cells #[.int .i64 0, .int .i64 0, .int .i64 0, .int .i64 0, .int .i64 0, .int .i64 0, .int .i64 0] 30)) (Obj.cells #[.slice A n c, .int .i64 0, .int .u64 0] 49)) (by simp) (Cur.new1 Hb.out c _) (by simp) (by simp) (by omega)).mono ?_; rintro e w1 ⟨⟨x0, hx0, rfl⟩, hc1, hd1⟩
  have S1 := Lib.hid (show w.heap.size + 3 ≤ w1.heap.size by have h9 := hd1.size; (try simp only [World.size_alloc, World.size_setCell] at h9); omega)
  have NR := Lib.hid ((((Blk.new w 30 #[.int .i64 0, .int .i64 0, .int .i64 0, .int .i64 0, .int .i64 0, .int .i64 0, .int .i64 0]).alloc (Obj.cells #[.slice A n c, .int .i64 0, .int .u64 0] 49)).alloc (Obj.cells #[.int .i64 (-1), .int .i64 1000001] 3)).dg hd1 (show w.heap.size ≠ (w.heap.size + 1) by have := Hgl.out; have := S1.out; omega))
  have R := NR; clear NR
  have Hc1 := Lib.hid (hc1.mono (j := 0 + 2) (by omega))
  have Hd1 := Lib.hid ((((Hd.out.alloc (Obj.cells #[.int .i64 0, .int .i64 0, .int .i64 0, .int .i64 0, .int .i64 0, .int .i64 0, .int .i64 0] 30)).alloc (Obj.cells #[.slice A n c, .int .i64 0, .int .u64 0] 49)).alloc (Obj.cells #[.int .i64 (-1), .int .i64 1000001] 3)).trans hd1)
  clear hc1 hd1
  clear hx0
  go_wp2_with fail
  refine (among_lit (w.heap.size + 1) (0 + 2) (w1.heap.size) [0, 5, 1000000, x0] w1 (by simp) Hc1.out (by simp) (by simp) (by omega)).mono ?_; rintro e w2 ⟨⟨x1, hx1, rfl⟩, hc2, hd2⟩
  have S2 := Lib.hid (show w1.heap.size + 1 ≤ w2.heap.size by have h9 := hd2.size; (try simp only [World.size_alloc, World.size_setCell] at h9); omega)
  have NR := Lib.hid ((R.out.alloc _).dg hd2 (show w.heap.size ≠ (w.heap.size + 1) by have := Hgl.out; have := S1.out; have := S2.out; omega))
  have R := NR; clear NR
  have Hc2 := Lib.hid (hc2.mono (j := 0 + 4) (by omega))
  have Hd2 := Lib.hid ((Hd1.out.alloc _).trans hd2)
  clear hc2 hd2
  clear hx1
  go_wp2_with fail
  refine (among_lit (w.heap.size + 1) (0 + 4) (w2.heap.size) [0, 10] w2 (by simp) Hc2.out (by simp) (by simp) (by omega)).mono ?_; rintro e w3 ⟨⟨x2, hx2, rfl⟩, hc3, hd3⟩
  have S3 := Lib.hid (show w2.heap.size + 1 ≤ w3.heap.size by have h9 := hd3.size; (try simp only [World.size_alloc, World.size_setCell] at h9); omega)
  have NR := Lib.hid ((R.out.alloc _).dg hd3 (show w.heap.size ≠ (w.heap.size + 1) by have := Hgl.out; have := S1.out; have := S2.out; have := S3.out; omega))
  have R := NR; clear NR
  have Hc3 := Lib.hid (hc3.mono (j := 0 + 6) (by omega))
  have Hd3 := Lib.hid ((Hd2.out.alloc _).trans hd3)
  clear hc3 hd3
  clear hx2
  go_wp2_with fail
  refine (among_lit (w.heap.size + 1) (0 + 6) (w3.heap.size) [1, 2, 9, x2] w3 (by simp) Hc3.out (by simp) (by simp) (by omega)).mono ?_; rintro e w4 ⟨⟨x3, hx3, rfl⟩, hc4, hd4⟩
  have S4 := Lib.hid (show w3.heap.size + 1 ≤ w4.heap.size by have h9 := hd4.size; (try simp only [World.size_alloc, World.size_setCell] at h9); omega)
  have NR := Lib.hid ((R.out.alloc _).dg hd4 (show w.heap.size ≠ (w.heap.size + 1) by have := Hgl.out; have := S1.out; have := S2.out; have := S3.out; have := S4.out; omega))
  have R := NR; clear NR
  have Hc4 := Lib.hid (hc4.mono (j := 0 + 8) (by omega))
  have Hd4 := Lib.hid ((Hd3.out.alloc _).trans hd4)
  clear hc4 hd4
  clear hx3
  go_wp2_with fail
  refine (anyEntry_any (w.heap.size + 1) (0 + 8) _ Hc4.out (by omega)).mono ?_; rintro e w5 ⟨⟨a, b, lo, hi9, t, rfl⟩, hc5, hd5⟩
  have S5 := Lib.hid (show w4.heap.size + 0 ≤ w5.heap.size by have h9 := hd5.size; (try simp only [World.size_alloc, World.size_setCell] at h9); omega)
  have NR := Lib.hid (R.out.dg hd5 (show w.heap.size ≠ (w.heap.size + 1) by have := Hgl.out; have := S1.out; have := S2.out; have := S3.out; have := S4.out; have := S5.out; omega))
  have R := NR; clear NR
  have Hc5 := Lib.hid (hc5.mono (j := 0 + 68) (by omega))
  have Hd5 := Lib.hid (Hd4.out.trans hd5)
  clear hc5 hd5
  have qR0 := R.out.cell 0
  have qR1 := R.out.cell 1
  have qR2 := R.out.cell 2
  have qR3 := R.out.cell 3
  have qR4 := R.out.cell 4
  have qR5 := R.out.cell 5
  have qR6 := R.out.cell 6
  simp at qR0 qR1 qR2 qR3 qR4 qR5 qR6
  have qRl := R.out.lt
  have qRf := R.out.frozen
  go_wp2
  clear qR0 qR1 qR2 qR3 qR4 qR5 qR6 qRl qRf
  have HR9 := (show Blk (World.alloc (World.setCell (World.setCell (World.setCell (World.setCell (World.setCell (World.setCell (World.setCell w5 ⟨w.heap.size, 0, none⟩ (.int .i64 x1)) ⟨w.heap.size, 1, none⟩ (.int .i64 x3)) ⟨w.heap.size, 2, none⟩ (.int .i64 a)) ⟨w.heap.size, 3, none⟩ (.int .i64 b)) ⟨w.heap.size, 4, none⟩ (.int .i64 lo)) ⟨w.heap.size, 5, none⟩ (.int .i64 hi9)) ⟨w.heap.size, 6, none⟩ (.int .i64 t)) (Obj.cells #[.int .i64 x1, .int .i64 x3, .int .i64 a, .int .i64 b, .int .i64 lo, .int .i64 hi9, .int .i64 t] 30)) (w.heap.size) 30 #[.int .i64 x1, .int .i64 x3, .int .i64 a, .int .i64 b, .int .i64 lo, .int .i64 hi9, .int .i64 t] by have h9 := ((((((((R.out.set 0 (.int .i64 x1)).set 1 (.int .i64 x3)).set 2 (.int .i64 a)).set 3 (.int .i64 b)).set 4 (.int .i64 lo)).set 5 (.int .i64 hi9)).set 6 (.int .i64 t)).alloc (Obj.cells #[.int .i64 x1, .int .i64 x3, .int .i64 a, .int .i64 b, .int .i64 lo, .int .i64 hi9, .int .i64 t] 30)); simpa using h9)
  have k0 := HR9.cell 0
  have k1 := HR9.cell 1
  have k2 := HR9.cell 2
  have k3 := HR9.cell 3
  have k4 := HR9.cell 4
  have k5 := HR9.cell 5
  have k6 := HR9.cell 6
  simp at k0 k1 k2 k3 k4 k5 k6
  exact bodyPost_ret (v := .agg #[.int .i64 x1, .int .i64 x3, .int .i64 a, .int .i64 b, .int .i64 lo, .int .i64 hi9, .int .i64 t]) (by simp [results, Tryd.results21, go_sem, k0, k1, k2, k3, k4, k5, k6]) rfl ⟨⟨x1, x3, a, b, lo, hi9, t, rfl⟩, ((((((((Hd5.out.st (p := ⟨w.heap.size, 0, none⟩) (show w.heap.size ≤ w.heap.size by have := Hgl.out; have := S1.out; have := S2.out; have := S3.out; have := S4.out; have := S5.out; omega) (.int .i64 x1)).st (p := ⟨w.heap.size, 1, none⟩) (show w.heap.size ≤ w.heap.size by have := Hgl.out; have := S1.out; have := S2.out; have := S3.out; have := S4.out; have := S5.out; omega) (.int .i64 x3)).st (p := ⟨w.heap.size, 2, none⟩) (show w.heap.size ≤ w.heap.size by have := Hgl.out; have := S1.out; have := S2.out; have := S3.out; have := S4.out; have := S5.out; omega) (.int .i64 a)).st (p := ⟨w.heap.size, 3, none⟩) (show w.heap.size ≤ w.heap.size by have := Hgl.out; have := S1.out; have := S2.out; have := S3.out; have := S4.out; have := S5.out; omega) (.int .i64 b)).st (p := ⟨w.heap.size, 4, none⟩) (show w.heap.size ≤ w.heap.size by have := Hgl.out; have := S1.out; have := S2.out; have := S3.out; have := S4.out; have := S5.out; omega) (.int .i64 lo)).st (p := ⟨w.heap.size, 5, none⟩) (show w.heap.size ≤ w.heap.size by have := Hgl.out; have := S1.out; have := S2.out; have := S3.out; have := S4.out; have := S5.out; omega) (.int .i64 hi9)).st (p := ⟨w.heap.size, 6, none⟩) (show w.heap.size ≤ w.heap.size by have := Hgl.out; have := S1.out; have := S2.out; have := S3.out; have := S4.out; have := S5.out; omega) (.int .i64 t)).alloc (Obj.cells #[.int .i64 x1, .int .i64 x3, .int .i64 a, .int .i64 b, .int .i64 lo, .int .i64 hi9, .int .i64 t] 30)).below (by have := S1.out; have := S2.out; have := S3.out; have := S4.out; have := S5.out; omega) (Nat.le_refl _)⟩
set_option linter.unusedSimpArgs false in
set_option maxRecDepth 8000 in
set_option maxHeartbeats 16000000 in
theorem drawPut_any (A : Option Addr) (n c : Nat) (w : World) (hby : BytesAt w w.heap.size A n) :
    Calls Tryd.prog 5 #[.slice A n c] w fun e w' => RowP w' w.heap.size e ∧ Below w.heap.size w w' := by
  have Hb := Lib.hid hby; clear hby
  have Hgl := Lib.hid (Nat.le_refl w.heap.size)
  have Hd := Lib.hid (Dg.refl (w.heap.size + 1) w)
  go_enter Tryd.func5, Tryd.ntmps5
  go_wp2_with fail
  refine (reports_any (w.heap.size + 1) 0 _ (Cur.new1 Hb.out c _) (by omega)).mono ?_; rintro e w1 ⟨⟨v, m, hm, rfl, hv⟩, hc1, hd1⟩
  have S1 := Lib.hid (show w.heap.size + 2 ≤ w1.heap.size by have h9 := hd1.size; (try simp only [World.size_alloc, World.size_setCell] at h9); omega)
  have NR := Lib.hid (((Blk.new w 30 #[.int .i64 0, .int .i64 0, .int .i64 0, .int .i64 0, .int .i64 0, .int .i64 0, .int .i64 0]).alloc (Obj.cells #[.slice A n c, .int .i64 0, .int .u64 0] 49)).dg hd1 (show w.heap.size ≠ (w.heap.size + 1) by have := Hgl.out; have := S1.out; omega))
  have R := NR; clear NR
  have Hc1 := Lib.hid (hc1.mono (j := 0 + 3000) (by omega))
  have Hd1 := Lib.hid (((Hd.out.alloc (Obj.cells #[.int .i64 0, .int .i64 0, .int .i64 0, .int .i64 0, .int .i64 0, .int .i64 0, .int .i64 0] 30)).alloc (Obj.cells #[.slice A n c, .int .i64 0, .int .u64 0] 49)).trans hd1)
  clear hc1 hd1
  have HV := Lib.hid (hv.mono (B' := w.heap.size + 2) (by simp)); have GHV := Lib.hid (IR.lt (hv.mono (B' := w.heap.size + 2) (by simp)))
  clear hv
  obtain ⟨A9, c9, rfl, hmc, hcm⟩ := HV.out.form
  unfold maxLen at hcm
  by_cases hm0 : 0 < m
  · obtain ⟨gl, cl, hfl, hgl1, hgl2, hmcl, hcml⟩ := HV.out.pos hm0
    injection hfl with hf1 hf2 hf3; subst hf1; subst hf3; clear hf2
    have hmi : (0 : Int) < (m : Int) := by omega
    go_wp2_with fail
    refine (one_any (w.heap.size + 1) (0 + 3000) (6) _ Hc1.out (by omega)).mono ?_; rintro e w2 ⟨⟨o, rfl⟩, hc2, hd2⟩
    have S2 := Lib.hid (show w1.heap.size + 0 ≤ w2.heap.size by have h9 := hd2.size; (try simp only [World.size_alloc, World.size_setCell] at h9); omega)
    have NR := Lib.hid (R.out.dg hd2 (show w.heap.size ≠ (w.heap.size + 1) by have := Hgl.out; have := hgl1; have := S1.out; have := S2.out; omega))
    have R := NR; clear NR
    have HV := Lib.hid (HV.out.dg hd2 (show (w.heap.size + 1) < (w.heap.size + 2) by have := Hgl.out; have := hgl1; have := S1.out; have := S2.out; omega))
    have Hc2 := Lib.hid (hc2.mono (j := 0 + 3002) (by omega))
    have Hd2 := Lib.hid (Hd1.out.trans hd2)
    clear hc2 hd2
    cases o
    · go_wp2_with fail
      refine (pick_any (w.heap.size + 1) (0 + 3002) (12) _ Hc2.out (by omega)).mono ?_; rintro e w3 ⟨⟨p1, lp1, up1, rfl⟩, hc3, hd3⟩
      have S3 := Lib.hid (show w2.heap.size + 0 ≤ w3.heap.size by have h9 := hd3.size; (try simp only [World.size_alloc, World.size_setCell] at h9); omega)
      have NR := Lib.hid (R.out.dg hd3 (show w.heap.size ≠ (w.heap.size + 1) by have := Hgl.out; have := hgl1; have := S1.out; have := S2.out; have := S3.out; omega))
      have R := NR; clear NR
      have HV := Lib.hid (HV.out.dg hd3 (show (w.heap.size + 1) < (w.heap.size + 2) by have := Hgl.out; have := hgl1; have := S1.out; have := S2.out; have := S3.out; omega))
      have Hc3 := Lib.hid (hc3.mono (j := 0 + 3004) (by omega))
      have Hd3 := Lib.hid (Hd2.out.trans hd3)
      clear hc3 hd3
      go_wp2_with fail
      refine (pick_any (w.heap.size + 1) (0 + 3004) (9) _ Hc3.out (by omega)).mono ?_; rintro e w4 ⟨⟨p2, lp2, up2, rfl⟩, hc4, hd4⟩
      have S4 := Lib.hid (show w3.heap.size + 0 ≤ w4.heap.size by have h9 := hd4.size; (try simp only [World.size_alloc, World.size_setCell] at h9); omega)
      have NR := Lib.hid (R.out.dg hd4 (show w.heap.size ≠ (w.heap.size + 1) by have := Hgl.out; have := hgl1; have := S1.out; have := S2.out; have := S3.out; have := S4.out; omega))
      have R := NR; clear NR
      have HV := Lib.hid (HV.out.dg hd4 (show (w.heap.size + 1) < (w.heap.size + 2) by have := Hgl.out; have := hgl1; have := S1.out; have := S2.out; have := S3.out; have := S4.out; omega))
      have Hc4 := Lib.hid (hc4.mono (j := 0 + 3006) (by omega))
      have Hd4 := Lib.hid (Hd3.out.trans hd4)
      clear hc4 hd4
      go_wp2_with fail
      refine (anyEntry_any (w.heap.size + 1) (0 + 3006) _ Hc4.out (by omega)).mono ?_; rintro e w5 ⟨⟨a, b, lo, hi9, t, rfl⟩, hc5, hd5⟩
      have S5 := Lib.hid (show w4.heap.size + 0 ≤ w5.heap.size by have h9 := hd5.size; (try simp only [World.size_alloc, World.size_setCell] at h9); omega)
      have NR := Lib.hid (R.out.dg hd5 (show w.heap.size ≠ (w.heap.size + 1) by have := Hgl.out; have := hgl1; have := S1.out; have := S2.out; have := S3.out; have := S4.out; have := S5.out; omega))
      have R := NR; clear NR
      have HV := Lib.hid (HV.out.dg hd5 (show (w.heap.size + 1) < (w.heap.size + 2) by have := Hgl.out; have := hgl1; have := S1.out; have := S2.out; have := S3.out; have := S4.out; have := S5.out; omega))
      have Hc5 := Lib.hid (hc5.mono (j := 0 + 3066) (by omega))
      have Hd5 := Lib.hid (Hd4.out.trans hd5)
      clear hc5 hd5
      have qR0 := R.out.cell 0
      have qR1 := R.out.cell 1
      have qR2 := R.out.cell 2
      have qR3 := R.out.cell 3
      have qR4 := R.out.cell 4
      have qR5 := R.out.cell 5
      have qR6 := R.out.cell 6
      simp at qR0 qR1 qR2 qR3 qR4 qR5 qR6
      have qRl := R.out.lt
      have qRf := R.out.frozen
      go_wp2
      clear qR0 qR1 qR2 qR3 qR4 qR5 qR6 qRl qRf
      have HR9 := (show Blk (World.setCell (World.setCell (World.setCell (World.setCell (World.setCell (World.setCell (World.setCell w5 ⟨w.heap.size, 0, none⟩ (.int .i64 p1)) ⟨w.heap.size, 1, none⟩ (.int .i64 (1 + p2))) ⟨w.heap.size, 2, none⟩ (.int .i64 a)) ⟨w.heap.size, 3, none⟩ (.int .i64 b)) ⟨w.heap.size, 4, none⟩ (.int .i64 lo)) ⟨w.heap.size, 5, none⟩ (.int .i64 hi9)) ⟨w.heap.size, 6, none⟩ (.int .i64 t)) (w.heap.size) 30 #[.int .i64 p1, .int .i64 (1 + p2), .int .i64 a, .int .i64 b, .int .i64 lo, .int .i64 hi9, .int .i64 t] by have h9 := (((((((R.out.set 0 (.int .i64 p1)).set 1 (.int .i64 (1 + p2))).set 2 (.int .i64 a)).set 3 (.int .i64 b)).set 4 (.int .i64 lo)).set 5 (.int .i64 hi9)).set 6 (.int .i64 t)); simpa using h9)
      have k0 := HR9.cell 0
      have k1 := HR9.cell 1
      have k2 := HR9.cell 2
      have k3 := HR9.cell 3
      have k4 := HR9.cell 4
      have k5 := HR9.cell 5
      have k6 := HR9.cell 6
      simp at k0 k1 k2 k3 k4 k5 k6
      exact bodyPost_ret (v := .tuple #[.slice (some ⟨gl, 0, none⟩) m c9, .agg #[.int .i64 p1, .int .i64 (1 + p2), .int .i64 a, .int .i64 b, .int .i64 lo, .int .i64 hi9, .int .i64 t]]) (by simp [results, Tryd.results5, go_sem, k0, k1, k2, k3, k4, k5, k6]) rfl ⟨⟨.slice (some ⟨gl, 0, none⟩) m c9, m, p1, 1 + p2, a, b, lo, hi9, t, hm, rfl, (((((((HV.out.st (p := ⟨w.heap.size, 0, none⟩) (by intro k9 hk9; have := GHV.out k9 hk9; show k9 ≠ w.heap.size; have := Hgl.out; have := hgl1; have := S1.out; have := S2.out; have := S3.out; have := S4.out; have := S5.out; omega) (.int .i64 p1)).st (p := ⟨w.heap.size, 1, none⟩) (by intro k9 hk9; have := GHV.out k9 hk9; show k9 ≠ w.heap.size; have := Hgl.out; have := hgl1; have := S1.out; have := S2.out; have := S3.out; have := S4.out; have := S5.out; omega) (.int .i64 (1 + p2))).st (p := ⟨w.heap.size, 2, none⟩) (by intro k9 hk9; have := GHV.out k9 hk9; show k9 ≠ w.heap.size; have := Hgl.out; have := hgl1; have := S1.out; have := S2.out; have := S3.out; have := S4.out; have := S5.out; omega) (.int .i64 a)).st (p := ⟨w.heap.size, 3, none⟩) (by intro k9 hk9; have := GHV.out k9 hk9; show k9 ≠ w.heap.size; have := Hgl.out; have := hgl1; have := S1.out; have := S2.out; have := S3.out; have := S4.out; have := S5.out; omega) (.int .i64 b)).st (p := ⟨w.heap.size, 4, none⟩) (by intro k9 hk9; have := GHV.out k9 hk9; show k9 ≠ w.heap.size; have := Hgl.out; have := hgl1; have := S1.out; have := S2.out; have := S3.out; have := S4.out; have := S5.out; omega) (.int .i64 lo)).st (p := ⟨w.heap.size, 5, none⟩) (by intro k9 hk9; have := GHV.out k9 hk9; show k9 ≠ w.heap.size; have := Hgl.out; have := hgl1; have := S1.out; have := S2.out; have := S3.out; have := S4.out; have := S5.out; omega) (.int .i64 hi9)).st (p := ⟨w.heap.size, 6, none⟩) (by intro k9 hk9; have := GHV.out k9 hk9; show k9 ≠ w.heap.size; have := Hgl.out; have := hgl1; have := S1.out; have := S2.out; have := S3.out; have := S4.out; have := S5.out; omega) (.int .i64 t)).mono (by omega)⟩, (((((((Hd5.out.st (p := ⟨w.heap.size, 0, none⟩) (show w.heap.size ≤ w.heap.size by have := Hgl.out; have := hgl1; have := S1.out; have := S2.out; have := S3.out; have := S4.out; have := S5.out; omega) (.int .i64 p1)).st (p := ⟨w.heap.size, 1, none⟩) (show w.heap.size ≤ w.heap.size by have := Hgl.out; have := hgl1; have := S1.out; have := S2.out; have := S3.out; have := S4.out; have := S5.out; omega) (.int .i64 (1 + p2))).st (p := ⟨w.heap.size, 2, none⟩) (show w.heap.size ≤ w.heap.size by have := Hgl.out; have := hgl1; have := S1.out; have := S2.out; have := S3.out; have := S4.out; have := S5.out; omega) (.int .i64 a)).st (p := ⟨w.heap.size, 3, none⟩) (show w.heap.size ≤ w.heap.size by have := Hgl.out; have := hgl1; have := S1.out; have := S2.out; have := S3.out; have := S4.out; have := S5.out; omega) (.int .i64 b)).st (p := ⟨w.heap.size, 4, none⟩) (show w.heap.size ≤ w.heap.size by have := Hgl.out; have := hgl1; have := S1.out; have := S2.out; have := S3.out; have := S4.out; have := S5.out; omega) (.int .i64 lo)).st (p := ⟨w.heap.size, 5, none⟩) (show w.heap.size ≤ w.heap.size by have := Hgl.out; have := hgl1; have := S1.out; have := S2.out; have := S3.out; have := S4.out; have := S5.out; omega) (.int .i64 hi9)).st (p := ⟨w.heap.size, 6, none⟩) (show w.heap.size ≤ w.heap.size by have := Hgl.out; have := hgl1; have := S1.out; have := S2.out; have := S3.out; have := S4.out; have := S5.out; omega) (.int .i64 t)).below (by have := S1.out; have := S2.out; have := S3.out; have := S4.out; have := S5.out; omega) (Nat.le_refl _)⟩
    · have qR0 := R.out.cell 0
      have qR1 := R.out.cell 1
      have qR2 := R.out.cell 2
      have qR3 := R.out.cell 3
      have qR4 := R.out.cell 4
      have qR5 := R.out.cell 5
      have qR6 := R.out.cell 6
      simp at qR0 qR1 qR2 qR3 qR4 qR5 qR6
      have qRl := R.out.lt
      have qRf := R.out.frozen
      have hIR := HV.out
      have Hcu := Hc2.out
      have Hdu := Hd2.out
      go_wp2_with fail
      go_region_with (go_at_call 25; refine (pick_any (w.heap.size + 1) (0 + 3002) (m : Int) _ (by first | exact Hcu | exact Hcu.on (Below.drew (Below.refl _ _)) | exact Hcu.on (Below.drew (Below.drew (Below.refl _ _)))) (by omega)).mono ?_; rintro e w9 ⟨⟨y, ly, uy, rfl⟩, hc9, hd9⟩; obtain ⟨y, rfl⟩ : ∃ q : Nat, y = (q : Int) := ⟨y.toNat, by omega⟩; have hym : y < m := (by omega); have hyi : (0 : Int) ≤ (y : Int) := (by omega); have hyj : (y : Int) < (m : Int) := (by omega); have hd8 : Dg (w.heap.size + 1) w2 w9 := (by first | exact (Dg.drew (Dg.refl _ _)).trans hd9 | exact hd9 | exact (Dg.drew (Dg.drew (Dg.refl _ _))).trans hd9); obtain ⟨u0, hu0⟩ := (hIR.dg hd8 (by omega)).cell (j := y * 7) (by omega); obtain ⟨u1, hu1⟩ := (hIR.dg hd8 (by omega)).cell (j := y * 7 + 1) (by omega); obtain ⟨u2, hu2⟩ := (hIR.dg hd8 (by omega)).cell (j := y * 7 + 2) (by omega); obtain ⟨u3, hu3⟩ := (hIR.dg hd8 (by omega)).cell (j := y * 7 + 3) (by omega); obtain ⟨u4, hu4⟩ := (hIR.dg hd8 (by omega)).cell (j := y * 7 + 4) (by omega); obtain ⟨u5, hu5⟩ := (hIR.dg hd8 (by omega)).cell (j := y * 7 + 5) (by omega); obtain ⟨u6, hu6⟩ := (hIR.dg hd8 (by omega)).cell (j := y * 7 + 6) (by omega); have hll := ((hIR.dg hd8 (by omega)).lt gl rfl).2; have qR9 := (R.out.dg hd8 (by omega)).frozen; have qRl9 := (R.out.dg hd8 (by omega)).lt; have hR9 := R.out.dg hd8 (by omega); have t0 := hR9.cell 0; have t1 := hR9.cell 1; have t2 := hR9.cell 2; have t3 := hR9.cell 3; have t4 := hR9.cell 4; have t5 := hR9.cell 5; have t6 := hR9.cell 6; simp at t0 t1 t2 t3 t4 t5 t6; clear hR9)
      all_goals
        clear hIR Hcu Hdu hd9 hll qR9 qRl9 t0 t1 t2 t3 t4 t5 t6 hu0 hu1 hu2 hu3 hu4 hu5 hu6 qR0 qR1 qR2 qR3 qR4 qR5 qR6 qRl qRf
        have R := Lib.hid (R.out.dg hd8 (by omega))
        have HV := Lib.hid (HV.out.dg hd8 (by omega))
        have Hd9 := Lib.hid (Hd2.out.trans hd8)
        have S9 := Lib.hid hd8.size
        clear hd8 hc9
        have HR9 := (show Blk (World.setCell (World.setCell (World.setCell (World.setCell (World.setCell (World.setCell (World.setCell w9 ⟨w.heap.size, 0, none⟩ (.int .i64 u0)) ⟨w.heap.size, 1, none⟩ (.int .i64 u1)) ⟨w.heap.size, 2, none⟩ (.int .i64 u2)) ⟨w.heap.size, 3, none⟩ (.int .i64 u3)) ⟨w.heap.size, 4, none⟩ (.int .i64 u4)) ⟨w.heap.size, 5, none⟩ (.int .i64 u5)) ⟨w.heap.size, 6, none⟩ (.int .i64 u6)) (w.heap.size) 30 #[.int .i64 u0, .int .i64 u1, .int .i64 u2, .int .i64 u3, .int .i64 u4, .int .i64 u5, .int .i64 u6] by have h9 := (((((((R.out.set 0 (.int .i64 u0)).set 1 (.int .i64 u1)).set 2 (.int .i64 u2)).set 3 (.int .i64 u3)).set 4 (.int .i64 u4)).set 5 (.int .i64 u5)).set 6 (.int .i64 u6)); simpa using h9)
        have k0 := HR9.cell 0
        have k1 := HR9.cell 1
        have k2 := HR9.cell 2
        have k3 := HR9.cell 3
        have k4 := HR9.cell 4
        have k5 := HR9.cell 5
        have k6 := HR9.cell 6
        simp at k0 k1 k2 k3 k4 k5 k6
        go_wp2
        exact bodyPost_ret (v := .tuple #[.slice (some ⟨gl, 0, none⟩) m c9, .agg #[.int .i64 u0, .int .i64 u1, .int .i64 u2, .int .i64 u3, .int .i64 u4, .int .i64 u5, .int .i64 u6]]) (by simp [results, Tryd.results5, go_sem, k0, k1, k2, k3, k4, k5, k6]) rfl ⟨⟨.slice (some ⟨gl, 0, none⟩) m c9, m, u0, u1, u2, u3, u4, u5, u6, hm, rfl, (((((((HV.out.st (p := ⟨w.heap.size, 0, none⟩) (by intro k9 hk9; have := GHV.out k9 hk9; show k9 ≠ w.heap.size; have := Hgl.out; have := hgl1; have := S1.out; have := S2.out; have := S9.out; omega) (.int .i64 u0)).st (p := ⟨w.heap.size, 1, none⟩) (by intro k9 hk9; have := GHV.out k9 hk9; show k9 ≠ w.heap.size; have := Hgl.out; have := hgl1; have := S1.out; have := S2.out; have := S9.out; omega) (.int .i64 u1)).st (p := ⟨w.heap.size, 2, none⟩) (by intro k9 hk9; have := GHV.out k9 hk9; show k9 ≠ w.heap.size; have := Hgl.out; have := hgl1; have := S1.out; have := S2.out; have := S9.out; omega) (.int .i64 u2)).st (p := ⟨w.heap.size, 3, none⟩) (by intro k9 hk9; have := GHV.out k9 hk9; show k9 ≠ w.heap.size; have := Hgl.out; have := hgl1; have := S1.out; have := S2.out; have := S9.out; omega) (.int .i64 u3)).st (p := ⟨w.heap.size, 4, none⟩) (by intro k9 hk9; have := GHV.out k9 hk9; show k9 ≠ w.heap.size; have := Hgl.out; have := hgl1; have := S1.out; have := S2.out; have := S9.out; omega) (.int .i64 u4)).st (p := ⟨w.heap.size, 5, none⟩) (by intro k9 hk9; have := GHV.out k9 hk9; show k9 ≠ w.heap.size; have := Hgl.out; have := hgl1; have := S1.out; have := S2.out; have := S9.out; omega) (.int .i64 u5)).st (p := ⟨w.heap.size, 6, none⟩) (by intro k9 hk9; have := GHV.out k9 hk9; show k9 ≠ w.heap.size; have := Hgl.out; have := hgl1; have := S1.out; have := S2.out; have := S9.out; omega) (.int .i64 u6)).mono (by omega)⟩, (((((((Hd9.out.st (p := ⟨w.heap.size, 0, none⟩) (show w.heap.size ≤ w.heap.size by have := Hgl.out; have := hgl1; have := S1.out; have := S2.out; have := S9.out; omega) (.int .i64 u0)).st (p := ⟨w.heap.size, 1, none⟩) (show w.heap.size ≤ w.heap.size by have := Hgl.out; have := hgl1; have := S1.out; have := S2.out; have := S9.out; omega) (.int .i64 u1)).st (p := ⟨w.heap.size, 2, none⟩) (show w.heap.size ≤ w.heap.size by have := Hgl.out; have := hgl1; have := S1.out; have := S2.out; have := S9.out; omega) (.int .i64 u2)).st (p := ⟨w.heap.size, 3, none⟩) (show w.heap.size ≤ w.heap.size by have := Hgl.out; have := hgl1; have := S1.out; have := S2.out; have := S9.out; omega) (.int .i64 u3)).st (p := ⟨w.heap.size, 4, none⟩) (show w.heap.size ≤ w.heap.size by have := Hgl.out; have := hgl1; have := S1.out; have := S2.out; have := S9.out; omega) (.int .i64 u4)).st (p := ⟨w.heap.size, 5, none⟩) (show w.heap.size ≤ w.heap.size by have := Hgl.out; have := hgl1; have := S1.out; have := S2.out; have := S9.out; omega) (.int .i64 u5)).st (p := ⟨w.heap.size, 6, none⟩) (show w.heap.size ≤ w.heap.size by have := Hgl.out; have := hgl1; have := S1.out; have := S2.out; have := S9.out; omega) (.int .i64 u6)).below (by have := S1.out; have := S2.out; have := S9.out; omega) (Nat.le_refl _)⟩
  · have hmi : ¬ (0 : Int) < (m : Int) := by omega
    go_wp2_with fail
    refine (pick_any (w.heap.size + 1) (0 + 3000) (12) _ Hc1.out (by omega)).mono ?_; rintro e w6 ⟨⟨p1, lp1, up1, rfl⟩, hc6, hd6⟩
    have S6 := Lib.hid (show w1.heap.size + 0 ≤ w6.heap.size by have h9 := hd6.size; (try simp only [World.size_alloc, World.size_setCell] at h9); omega)
    have NR := Lib.hid (R.out.dg hd6 (show w.heap.size ≠ (w.heap.size + 1) by have := Hgl.out; have := S1.out; have := S6.out; omega))
    have R := NR; clear NR
    have HV := Lib.hid (HV.out.dg hd6 (show (w.heap.size + 1) < (w.heap.size + 2) by have := Hgl.out; have := S1.out; have := S6.out; omega))
    have Hc6 := Lib.hid (hc6.mono (j := 0 + 3002) (by omega))
    have Hd6 := Lib.hid (Hd1.out.trans hd6)
    clear hc6 hd6
    go_wp2_with fail
    refine (pick_any (w.heap.size + 1) (0 + 3002) (9) _ Hc6.out (by omega)).mono ?_; rintro e w7 ⟨⟨p2, lp2, up2, rfl⟩, hc7, hd7⟩
    have S7 := Lib.hid (show w6.heap.size + 0 ≤ w7.heap.size by have h9 := hd7.size; (try simp only [World.size_alloc, World.size_setCell] at h9); omega)
    have NR := Lib.hid (R.out.dg hd7 (show w.heap.size ≠ (w.heap.size + 1) by have := Hgl.out; have := S1.out; have := S6.out; have := S7.out; omega))
    have R := NR; clear NR
    have HV := Lib.hid (HV.out.dg hd7 (show (w.heap.size + 1) < (w.heap.size + 2) by have := Hgl.out; have := S1.out; have := S6.out; have := S7.out; omega))
    have Hc7 := Lib.hid (hc7.mono (j := 0 + 3004) (by omega))
    have Hd7 := Lib.hid (Hd6.out.trans hd7)
    clear hc7 hd7
    go_wp2_with fail
    refine (anyEntry_any (w.heap.size + 1) (0 + 3004) _ Hc7.out (by omega)).mono ?_; rintro e w8 ⟨⟨a, b, lo, hi9, t, rfl⟩, hc8, hd8⟩
    have S8 := Lib.hid (show w7.heap.size + 0 ≤ w8.heap.size by have h9 := hd8.size; (try simp only [World.size_alloc, World.size_setCell] at h9); omega)
    have NR := Lib.hid (R.out.dg hd8 (show w.heap.size ≠ (w.heap.size + 1) by have := Hgl.out; have := S1.out; have := S6.out; have := S7.out; have := S8.out; omega))
    have R := NR; clear NR
    have HV := Lib.hid (HV.out.dg hd8 (show (w.heap.size + 1) < (w.heap.size + 2) by have := Hgl.out; have := S1.out; have := S6.out; have := S7.out; have := S8.out; omega))
    have Hc8 := Lib.hid (hc8.mono (j := 0 + 3064) (by omega))
    have Hd8 := Lib.hid (Hd7.out.trans hd8)
    clear hc8 hd8
    have qR0 := R.out.cell 0
    have qR1 := R.out.cell 1
    have qR2 := R.out.cell 2
    have qR3 := R.out.cell 3
    have qR4 := R.out.cell 4
    have qR5 := R.out.cell 5
    have qR6 := R.out.cell 6
    simp at qR0 qR1 qR2 qR3 qR4 qR5 qR6
    have qRl := R.out.lt
    have qRf := R.out.frozen
    go_wp2
    clear qR0 qR1 qR2 qR3 qR4 qR5 qR6 qRl qRf
    have HR9 := (show Blk (World.setCell (World.setCell (World.setCell (World.setCell (World.setCell (World.setCell (World.setCell w8 ⟨w.heap.size, 0, none⟩ (.int .i64 p1)) ⟨w.heap.size, 1, none⟩ (.int .i64 (1 + p2))) ⟨w.heap.size, 2, none⟩ (.int .i64 a)) ⟨w.heap.size, 3, none⟩ (.int .i64 b)) ⟨w.heap.size, 4, none⟩ (.int .i64 lo)) ⟨w.heap.size, 5, none⟩ (.int .i64 hi9)) ⟨w.heap.size, 6, none⟩ (.int .i64 t)) (w.heap.size) 30 #[.int .i64 p1, .int .i64 (1 + p2), .int .i64 a, .int .i64 b, .int .i64 lo, .int .i64 hi9, .int .i64 t] by have h9 := (((((((R.out.set 0 (.int .i64 p1)).set 1 (.int .i64 (1 + p2))).set 2 (.int .i64 a)).set 3 (.int .i64 b)).set 4 (.int .i64 lo)).set 5 (.int .i64 hi9)).set 6 (.int .i64 t)); simpa using h9)
    have k0 := HR9.cell 0
    have k1 := HR9.cell 1
    have k2 := HR9.cell 2
    have k3 := HR9.cell 3
    have k4 := HR9.cell 4
    have k5 := HR9.cell 5
    have k6 := HR9.cell 6
    simp at k0 k1 k2 k3 k4 k5 k6
    exact bodyPost_ret (v := .tuple #[.slice A9 m c9, .agg #[.int .i64 p1, .int .i64 (1 + p2), .int .i64 a, .int .i64 b, .int .i64 lo, .int .i64 hi9, .int .i64 t]]) (by simp [results, Tryd.results5, go_sem, k0, k1, k2, k3, k4, k5, k6]) rfl ⟨⟨.slice A9 m c9, m, p1, 1 + p2, a, b, lo, hi9, t, hm, rfl, (((((((HV.out.st (p := ⟨w.heap.size, 0, none⟩) (by intro k9 hk9; have := GHV.out k9 hk9; show k9 ≠ w.heap.size; have := Hgl.out; have := S1.out; have := S6.out; have := S7.out; have := S8.out; omega) (.int .i64 p1)).st (p := ⟨w.heap.size, 1, none⟩) (by intro k9 hk9; have := GHV.out k9 hk9; show k9 ≠ w.heap.size; have := Hgl.out; have := S1.out; have := S6.out; have := S7.out; have := S8.out; omega) (.int .i64 (1 + p2))).st (p := ⟨w.heap.size, 2, none⟩) (by intro k9 hk9; have := GHV.out k9 hk9; show k9 ≠ w.heap.size; have := Hgl.out; have := S1.out; have := S6.out; have := S7.out; have := S8.out; omega) (.int .i64 a)).st (p := ⟨w.heap.size, 3, none⟩) (by intro k9 hk9; have := GHV.out k9 hk9; show k9 ≠ w.heap.size; have := Hgl.out; have := S1.out; have := S6.out; have := S7.out; have := S8.out; omega) (.int .i64 b)).st (p := ⟨w.heap.size, 4, none⟩) (by intro k9 hk9; have := GHV.out k9 hk9; show k9 ≠ w.heap.size; have := Hgl.out; have := S1.out; have := S6.out; have := S7.out; have := S8.out; omega) (.int .i64 lo)).st (p := ⟨w.heap.size, 5, none⟩) (by intro k9 hk9; have := GHV.out k9 hk9; show k9 ≠ w.heap.size; have := Hgl.out; have := S1.out; have := S6.out; have := S7.out; have := S8.out; omega) (.int .i64 hi9)).st (p := ⟨w.heap.size, 6, none⟩) (by intro k9 hk9; have := GHV.out k9 hk9; show k9 ≠ w.heap.size; have := Hgl.out; have := S1.out; have := S6.out; have := S7.out; have := S8.out; omega) (.int .i64 t)).mono (by omega)⟩, (((((((Hd8.out.st (p := ⟨w.heap.size, 0, none⟩) (show w.heap.size ≤ w.heap.size by have := Hgl.out; have := S1.out; have := S6.out; have := S7.out; have := S8.out; omega) (.int .i64 p1)).st (p := ⟨w.heap.size, 1, none⟩) (show w.heap.size ≤ w.heap.size by have := Hgl.out; have := S1.out; have := S6.out; have := S7.out; have := S8.out; omega) (.int .i64 (1 + p2))).st (p := ⟨w.heap.size, 2, none⟩) (show w.heap.size ≤ w.heap.size by have := Hgl.out; have := S1.out; have := S6.out; have := S7.out; have := S8.out; omega) (.int .i64 a)).st (p := ⟨w.heap.size, 3, none⟩) (show w.heap.size ≤ w.heap.size by have := Hgl.out; have := S1.out; have := S6.out; have := S7.out; have := S8.out; omega) (.int .i64 b)).st (p := ⟨w.heap.size, 4, none⟩) (show w.heap.size ≤ w.heap.size by have := Hgl.out; have := S1.out; have := S6.out; have := S7.out; have := S8.out; omega) (.int .i64 lo)).st (p := ⟨w.heap.size, 5, none⟩) (show w.heap.size ≤ w.heap.size by have := Hgl.out; have := S1.out; have := S6.out; have := S7.out; have := S8.out; omega) (.int .i64 hi9)).st (p := ⟨w.heap.size, 6, none⟩) (show w.heap.size ≤ w.heap.size by have := Hgl.out; have := S1.out; have := S6.out; have := S7.out; have := S8.out; omega) (.int .i64 t)).below (by have := S1.out; have := S6.out; have := S7.out; have := S8.out; omega) (Nat.le_refl _)⟩
end Go.Proofs.YtjnghjgfhlgbiaaDoor
