/- The reference's draws of a task, and of a task and an int. Conditions: a slice of bytes. Printed by gen_drkt.py. -/
import Derived.Test.YtjnghjgfhlgbiaaDrK
namespace Go.Proofs.Ytjnghjgfhlgbiaa
open Go Go.RowKit

/-- A task whose points are a row of a call's own, and an int. -/
structure TkI (w : World) (B : Nat) (e : Ending) : Prop where
  ex : ∃ (a b m d t : Int) (v : Value) (n : Nat) (x : Int), n ≤ 4011 ∧ e = .returned (.tuple #[.agg #[.int .i64 a, .int .i64 b, .int .i64 m, .int .i64 d, .int .i64 t, v], .int .i64 x]) ∧ IR w B 62 3 v n ∧ (-1 ≤ x ∧ x ≤ 5001)
structure TkO (w : World) (B : Nat) (e : Ending) : Prop where
  ex : ∃ (a b m d t : Int) (v : Value) (n : Nat), n ≤ 4011 ∧ e = .returned (.agg #[.int .i64 a, .int .i64 b, .int .i64 m, .int .i64 d, .int .i64 t, v]) ∧ IR w B 62 3 v n

set_option linter.unusedSimpArgs false in
set_option maxRecDepth 8000 in
set_option maxHeartbeats 16000000 in
theorem drawStep_any (A : Option Addr) (n c : Nat) (w : World) (hby : BytesAt w w.heap.size A n) :
    Calls Try.prog 5 #[.slice A n c] w fun e w' => TkI w' w.heap.size e ∧ Below w.heap.size w w' := by
  have Hb := Lib.hid hby; clear hby
  have Hgl := Lib.hid (Nat.le_refl w.heap.size)
  have Hd := Lib.hid (Dg.refl (w.heap.size + 1) w)
  go_enter Try.func5, Try.ntmps5
  go_wp2_with fail
  refine (task_any (w.heap.size + 1) 0 _ (Cur.new1 Hb.out c _) (by omega)).mono ?_; rintro e w1 ⟨⟨a, b, m, e9, t, v, nv, hnv, rfl, hv⟩, hc1, hd1⟩
  have S1 := Lib.hid (show w.heap.size + 2 ≤ w1.heap.size by have h9 := hd1.size; (try simp only [World.size_alloc, World.size_setCell] at h9); omega)
  have NR := Lib.hid (((Blk.new w 28 #[.int .i64 0, .int .i64 0, .int .i64 0, .int .i64 0, .int .i64 0, .slice none 0 0]).alloc (Obj.cells #[.slice A n c, .int .i64 0, .int .u64 0] 46)).dg hd1 (show w.heap.size ≠ (w.heap.size + 1) by have := Hgl.out; have := S1.out; omega))
  have R := NR; clear NR
  have Hc1 := Lib.hid (hc1.mono (j := 0 + 100) (by omega))
  have Hd1 := Lib.hid (((Hd.out.alloc (Obj.cells #[.int .i64 0, .int .i64 0, .int .i64 0, .int .i64 0, .int .i64 0, .slice none 0 0] 28)).alloc (Obj.cells #[.slice A n c, .int .i64 0, .int .u64 0] 46)).trans hd1)
  clear hc1 hd1
  have HV := Lib.hid (hv.mono (B' := w.heap.size + 2) (by simp)); have GHV := Lib.hid (IR.lt (hv.mono (B' := w.heap.size + 2) (by simp)))
  clear hv
  obtain ⟨A9, c9, rfl, -, -⟩ := HV.out.form
  go_wp2_with fail
  refine (among_lit (w.heap.size + 1) (0 + 100) (w1.heap.size) [-1, 5001] w1 (by simp) Hc1.out (by simp) (by simp) (by omega)).mono ?_; rintro e w2 ⟨⟨x0, hx0, rfl⟩, hc2, hd2⟩
  have S2 := Lib.hid (show w1.heap.size + 1 ≤ w2.heap.size by have h9 := hd2.size; (try simp only [World.size_alloc, World.size_setCell] at h9); omega)
  have NR := Lib.hid ((R.out.alloc _).dg hd2 (show w.heap.size ≠ (w.heap.size + 1) by have := Hgl.out; have := S1.out; have := S2.out; omega))
  have R := NR; clear NR
  have HV := Lib.hid ((HV.out.alloc _).dg hd2 (show (w.heap.size + 1) < (w.heap.size + 2) by have := Hgl.out; have := S1.out; have := S2.out; omega))
  have Hc2 := Lib.hid (hc2.mono (j := 0 + 102) (by omega))
  have Hd2 := Lib.hid ((Hd1.out.alloc _).trans hd2)
  clear hc2 hd2
  have B0 := Lib.hid (ag2 hx0 (lo := -1) (hi := 5001) (by simp))
  clear hx0
  go_wp2_with fail
  refine (among_lit (w.heap.size + 1) (0 + 102) (w2.heap.size) [0, 1, 2, 7, 30, 5000, x0] w2 (by simp) Hc2.out (by simp) (by simp) (by omega)).mono ?_; rintro e w3 ⟨⟨x1, hx1, rfl⟩, hc3, hd3⟩
  have S3 := Lib.hid (show w2.heap.size + 1 ≤ w3.heap.size by have h9 := hd3.size; (try simp only [World.size_alloc, World.size_setCell] at h9); omega)
  have NR := Lib.hid ((R.out.alloc _).dg hd3 (show w.heap.size ≠ (w.heap.size + 1) by have := Hgl.out; have := S1.out; have := S2.out; have := S3.out; omega))
  have R := NR; clear NR
  have HV := Lib.hid ((HV.out.alloc _).dg hd3 (show (w.heap.size + 1) < (w.heap.size + 2) by have := Hgl.out; have := S1.out; have := S2.out; have := S3.out; omega))
  have Hc3 := Lib.hid (hc3.mono (j := 0 + 104) (by omega))
  have Hd3 := Lib.hid ((Hd2.out.alloc _).trans hd3)
  clear hc3 hd3
  have B1 := Lib.hid (ag2 hx1 (lo := -1) (hi := 5001) (by have := B0.out; simp; omega))
  clear hx1
  have qR0 := R.out.cell 0
  have qR1 := R.out.cell 1
  have qR2 := R.out.cell 2
  have qR3 := R.out.cell 3
  have qR4 := R.out.cell 4
  have qR5 := R.out.cell 5
  simp at qR0 qR1 qR2 qR3 qR4 qR5
  have qRl := R.out.lt
  have qRf := R.out.frozen
  go_wp2
  clear qR0 qR1 qR2 qR3 qR4 qR5 qRl qRf
  have HR9 := (show Blk (World.setCell (World.setCell (World.setCell (World.setCell (World.setCell (World.setCell w3 ⟨w.heap.size, 0, none⟩ (.int .i64 a)) ⟨w.heap.size, 1, none⟩ (.int .i64 b)) ⟨w.heap.size, 2, none⟩ (.int .i64 m)) ⟨w.heap.size, 3, none⟩ (.int .i64 e9)) ⟨w.heap.size, 4, none⟩ (.int .i64 t)) ⟨w.heap.size, 5, none⟩ (.slice A9 nv c9)) (w.heap.size) 28 #[.int .i64 a, .int .i64 b, .int .i64 m, .int .i64 e9, .int .i64 t, .slice A9 nv c9] by have h9 := ((((((R.out.set 0 (.int .i64 a)).set 1 (.int .i64 b)).set 2 (.int .i64 m)).set 3 (.int .i64 e9)).set 4 (.int .i64 t)).set 5 (.slice A9 nv c9)); simpa using h9)
  have k0 := HR9.cell 0
  have k1 := HR9.cell 1
  have k2 := HR9.cell 2
  have k3 := HR9.cell 3
  have k4 := HR9.cell 4
  have k5 := HR9.cell 5
  simp at k0 k1 k2 k3 k4 k5
  exact bodyPost_ret (v := .tuple #[.agg #[.int .i64 a, .int .i64 b, .int .i64 m, .int .i64 e9, .int .i64 t, .slice A9 nv c9], .int .i64 x1]) (by simp [results, Try.results5, go_sem, k0, k1, k2, k3, k4, k5]) rfl ⟨⟨_, _, _, _, _, .slice A9 nv c9, nv, x1, hnv, rfl, ((((((HV.out.st (p := ⟨w.heap.size, 0, none⟩) (by intro k9 hk9; have := GHV.out k9 hk9; show k9 ≠ w.heap.size; have := Hgl.out; have := S1.out; have := S2.out; have := S3.out; omega) (.int .i64 a)).st (p := ⟨w.heap.size, 1, none⟩) (by intro k9 hk9; have := GHV.out k9 hk9; show k9 ≠ w.heap.size; have := Hgl.out; have := S1.out; have := S2.out; have := S3.out; omega) (.int .i64 b)).st (p := ⟨w.heap.size, 2, none⟩) (by intro k9 hk9; have := GHV.out k9 hk9; show k9 ≠ w.heap.size; have := Hgl.out; have := S1.out; have := S2.out; have := S3.out; omega) (.int .i64 m)).st (p := ⟨w.heap.size, 3, none⟩) (by intro k9 hk9; have := GHV.out k9 hk9; show k9 ≠ w.heap.size; have := Hgl.out; have := S1.out; have := S2.out; have := S3.out; omega) (.int .i64 e9)).st (p := ⟨w.heap.size, 4, none⟩) (by intro k9 hk9; have := GHV.out k9 hk9; show k9 ≠ w.heap.size; have := Hgl.out; have := S1.out; have := S2.out; have := S3.out; omega) (.int .i64 t)).st (p := ⟨w.heap.size, 5, none⟩) (by intro k9 hk9; have := GHV.out k9 hk9; show k9 ≠ w.heap.size; have := Hgl.out; have := S1.out; have := S2.out; have := S3.out; omega) (.slice A9 nv c9)).mono (by omega), B1.out⟩, ((((((Hd3.out.st (p := ⟨w.heap.size, 0, none⟩) (show w.heap.size ≤ w.heap.size by have := Hgl.out; have := S1.out; have := S2.out; have := S3.out; omega) (.int .i64 a)).st (p := ⟨w.heap.size, 1, none⟩) (show w.heap.size ≤ w.heap.size by have := Hgl.out; have := S1.out; have := S2.out; have := S3.out; omega) (.int .i64 b)).st (p := ⟨w.heap.size, 2, none⟩) (show w.heap.size ≤ w.heap.size by have := Hgl.out; have := S1.out; have := S2.out; have := S3.out; omega) (.int .i64 m)).st (p := ⟨w.heap.size, 3, none⟩) (show w.heap.size ≤ w.heap.size by have := Hgl.out; have := S1.out; have := S2.out; have := S3.out; omega) (.int .i64 e9)).st (p := ⟨w.heap.size, 4, none⟩) (show w.heap.size ≤ w.heap.size by have := Hgl.out; have := S1.out; have := S2.out; have := S3.out; omega) (.int .i64 t)).st (p := ⟨w.heap.size, 5, none⟩) (show w.heap.size ≤ w.heap.size by have := Hgl.out; have := S1.out; have := S2.out; have := S3.out; omega) (.slice A9 nv c9)).below (by have := S1.out; have := S2.out; have := S3.out; omega) (Nat.le_refl _)⟩
set_option linter.unusedSimpArgs false in
set_option maxRecDepth 8000 in
set_option maxHeartbeats 16000000 in
theorem drawCrash_any (A : Option Addr) (n c : Nat) (w : World) (hby : BytesAt w w.heap.size A n) :
    Calls Try.prog 15 #[.slice A n c] w fun e w' => TkI w' w.heap.size e ∧ Below w.heap.size w w' := by
  have Hb := Lib.hid hby; clear hby
  have Hgl := Lib.hid (Nat.le_refl w.heap.size)
  have Hd := Lib.hid (Dg.refl (w.heap.size + 1) w)
  go_enter Try.func15, Try.ntmps15
  go_wp2_with fail
  refine (task_any (w.heap.size + 1) 0 _ (Cur.new1 Hb.out c _) (by omega)).mono ?_; rintro e w1 ⟨⟨a, b, m, e9, t, v, nv, hnv, rfl, hv⟩, hc1, hd1⟩
  have S1 := Lib.hid (show w.heap.size + 2 ≤ w1.heap.size by have h9 := hd1.size; (try simp only [World.size_alloc, World.size_setCell] at h9); omega)
  have NR := Lib.hid (((Blk.new w 28 #[.int .i64 0, .int .i64 0, .int .i64 0, .int .i64 0, .int .i64 0, .slice none 0 0]).alloc (Obj.cells #[.slice A n c, .int .i64 0, .int .u64 0] 46)).dg hd1 (show w.heap.size ≠ (w.heap.size + 1) by have := Hgl.out; have := S1.out; omega))
  have R := NR; clear NR
  have Hc1 := Lib.hid (hc1.mono (j := 0 + 100) (by omega))
  have Hd1 := Lib.hid (((Hd.out.alloc (Obj.cells #[.int .i64 0, .int .i64 0, .int .i64 0, .int .i64 0, .int .i64 0, .slice none 0 0] 28)).alloc (Obj.cells #[.slice A n c, .int .i64 0, .int .u64 0] 46)).trans hd1)
  clear hc1 hd1
  have HV := Lib.hid (hv.mono (B' := w.heap.size + 2) (by simp)); have GHV := Lib.hid (IR.lt (hv.mono (B' := w.heap.size + 2) (by simp)))
  clear hv
  obtain ⟨A9, c9, rfl, -, -⟩ := HV.out.form
  go_wp2_with fail
  refine (among_lit (w.heap.size + 1) (0 + 100) (w1.heap.size) [0, 5001] w1 (by simp) Hc1.out (by simp) (by simp) (by omega)).mono ?_; rintro e w2 ⟨⟨x0, hx0, rfl⟩, hc2, hd2⟩
  have S2 := Lib.hid (show w1.heap.size + 1 ≤ w2.heap.size by have h9 := hd2.size; (try simp only [World.size_alloc, World.size_setCell] at h9); omega)
  have NR := Lib.hid ((R.out.alloc _).dg hd2 (show w.heap.size ≠ (w.heap.size + 1) by have := Hgl.out; have := S1.out; have := S2.out; omega))
  have R := NR; clear NR
  have HV := Lib.hid ((HV.out.alloc _).dg hd2 (show (w.heap.size + 1) < (w.heap.size + 2) by have := Hgl.out; have := S1.out; have := S2.out; omega))
  have Hc2 := Lib.hid (hc2.mono (j := 0 + 102) (by omega))
  have Hd2 := Lib.hid ((Hd1.out.alloc _).trans hd2)
  clear hc2 hd2
  have B0 := Lib.hid (ag2 hx0 (lo := -1) (hi := 5001) (by simp))
  clear hx0
  go_wp2_with fail
  refine (among_lit (w.heap.size + 1) (0 + 102) (w2.heap.size) [1, 2, 4, 7, 30, 5000, x0] w2 (by simp) Hc2.out (by simp) (by simp) (by omega)).mono ?_; rintro e w3 ⟨⟨x1, hx1, rfl⟩, hc3, hd3⟩
  have S3 := Lib.hid (show w2.heap.size + 1 ≤ w3.heap.size by have h9 := hd3.size; (try simp only [World.size_alloc, World.size_setCell] at h9); omega)
  have NR := Lib.hid ((R.out.alloc _).dg hd3 (show w.heap.size ≠ (w.heap.size + 1) by have := Hgl.out; have := S1.out; have := S2.out; have := S3.out; omega))
  have R := NR; clear NR
  have HV := Lib.hid ((HV.out.alloc _).dg hd3 (show (w.heap.size + 1) < (w.heap.size + 2) by have := Hgl.out; have := S1.out; have := S2.out; have := S3.out; omega))
  have Hc3 := Lib.hid (hc3.mono (j := 0 + 104) (by omega))
  have Hd3 := Lib.hid ((Hd2.out.alloc _).trans hd3)
  clear hc3 hd3
  have B1 := Lib.hid (ag2 hx1 (lo := -1) (hi := 5001) (by have := B0.out; simp; omega))
  clear hx1
  have qR0 := R.out.cell 0
  have qR1 := R.out.cell 1
  have qR2 := R.out.cell 2
  have qR3 := R.out.cell 3
  have qR4 := R.out.cell 4
  have qR5 := R.out.cell 5
  simp at qR0 qR1 qR2 qR3 qR4 qR5
  have qRl := R.out.lt
  have qRf := R.out.frozen
  go_wp2
  clear qR0 qR1 qR2 qR3 qR4 qR5 qRl qRf
  have HR9 := (show Blk (World.setCell (World.setCell (World.setCell (World.setCell (World.setCell (World.setCell w3 ⟨w.heap.size, 0, none⟩ (.int .i64 a)) ⟨w.heap.size, 1, none⟩ (.int .i64 b)) ⟨w.heap.size, 2, none⟩ (.int .i64 m)) ⟨w.heap.size, 3, none⟩ (.int .i64 e9)) ⟨w.heap.size, 4, none⟩ (.int .i64 t)) ⟨w.heap.size, 5, none⟩ (.slice A9 nv c9)) (w.heap.size) 28 #[.int .i64 a, .int .i64 b, .int .i64 m, .int .i64 e9, .int .i64 t, .slice A9 nv c9] by have h9 := ((((((R.out.set 0 (.int .i64 a)).set 1 (.int .i64 b)).set 2 (.int .i64 m)).set 3 (.int .i64 e9)).set 4 (.int .i64 t)).set 5 (.slice A9 nv c9)); simpa using h9)
  have k0 := HR9.cell 0
  have k1 := HR9.cell 1
  have k2 := HR9.cell 2
  have k3 := HR9.cell 3
  have k4 := HR9.cell 4
  have k5 := HR9.cell 5
  simp at k0 k1 k2 k3 k4 k5
  exact bodyPost_ret (v := .tuple #[.agg #[.int .i64 a, .int .i64 b, .int .i64 m, .int .i64 e9, .int .i64 t, .slice A9 nv c9], .int .i64 x1]) (by simp [results, Try.results15, go_sem, k0, k1, k2, k3, k4, k5]) rfl ⟨⟨_, _, _, _, _, .slice A9 nv c9, nv, x1, hnv, rfl, ((((((HV.out.st (p := ⟨w.heap.size, 0, none⟩) (by intro k9 hk9; have := GHV.out k9 hk9; show k9 ≠ w.heap.size; have := Hgl.out; have := S1.out; have := S2.out; have := S3.out; omega) (.int .i64 a)).st (p := ⟨w.heap.size, 1, none⟩) (by intro k9 hk9; have := GHV.out k9 hk9; show k9 ≠ w.heap.size; have := Hgl.out; have := S1.out; have := S2.out; have := S3.out; omega) (.int .i64 b)).st (p := ⟨w.heap.size, 2, none⟩) (by intro k9 hk9; have := GHV.out k9 hk9; show k9 ≠ w.heap.size; have := Hgl.out; have := S1.out; have := S2.out; have := S3.out; omega) (.int .i64 m)).st (p := ⟨w.heap.size, 3, none⟩) (by intro k9 hk9; have := GHV.out k9 hk9; show k9 ≠ w.heap.size; have := Hgl.out; have := S1.out; have := S2.out; have := S3.out; omega) (.int .i64 e9)).st (p := ⟨w.heap.size, 4, none⟩) (by intro k9 hk9; have := GHV.out k9 hk9; show k9 ≠ w.heap.size; have := Hgl.out; have := S1.out; have := S2.out; have := S3.out; omega) (.int .i64 t)).st (p := ⟨w.heap.size, 5, none⟩) (by intro k9 hk9; have := GHV.out k9 hk9; show k9 ≠ w.heap.size; have := Hgl.out; have := S1.out; have := S2.out; have := S3.out; omega) (.slice A9 nv c9)).mono (by omega), B1.out⟩, ((((((Hd3.out.st (p := ⟨w.heap.size, 0, none⟩) (show w.heap.size ≤ w.heap.size by have := Hgl.out; have := S1.out; have := S2.out; have := S3.out; omega) (.int .i64 a)).st (p := ⟨w.heap.size, 1, none⟩) (show w.heap.size ≤ w.heap.size by have := Hgl.out; have := S1.out; have := S2.out; have := S3.out; omega) (.int .i64 b)).st (p := ⟨w.heap.size, 2, none⟩) (show w.heap.size ≤ w.heap.size by have := Hgl.out; have := S1.out; have := S2.out; have := S3.out; omega) (.int .i64 m)).st (p := ⟨w.heap.size, 3, none⟩) (show w.heap.size ≤ w.heap.size by have := Hgl.out; have := S1.out; have := S2.out; have := S3.out; omega) (.int .i64 e9)).st (p := ⟨w.heap.size, 4, none⟩) (show w.heap.size ≤ w.heap.size by have := Hgl.out; have := S1.out; have := S2.out; have := S3.out; omega) (.int .i64 t)).st (p := ⟨w.heap.size, 5, none⟩) (show w.heap.size ≤ w.heap.size by have := Hgl.out; have := S1.out; have := S2.out; have := S3.out; omega) (.slice A9 nv c9)).below (by have := S1.out; have := S2.out; have := S3.out; omega) (Nat.le_refl _)⟩
set_option linter.unusedSimpArgs false in
set_option maxRecDepth 8000 in
set_option maxHeartbeats 16000000 in
theorem drawCand_any (A : Option Addr) (n c : Nat) (w : World) (hby : BytesAt w w.heap.size A n) :
    Calls Try.prog 18 #[.slice A n c] w fun e w' => TkI w' w.heap.size e ∧ Below w.heap.size w w' := by
  have Hb := Lib.hid hby; clear hby
  have Hgl := Lib.hid (Nat.le_refl w.heap.size)
  have Hd := Lib.hid (Dg.refl (w.heap.size + 1) w)
  go_enter Try.func18, Try.ntmps18
  go_wp2_with fail
  refine (task_any (w.heap.size + 1) 0 _ (Cur.new1 Hb.out c _) (by omega)).mono ?_; rintro e w1 ⟨⟨a, b, m, e9, t, v, nv, hnv, rfl, hv⟩, hc1, hd1⟩
  have S1 := Lib.hid (show w.heap.size + 2 ≤ w1.heap.size by have h9 := hd1.size; (try simp only [World.size_alloc, World.size_setCell] at h9); omega)
  have NR := Lib.hid (((Blk.new w 28 #[.int .i64 0, .int .i64 0, .int .i64 0, .int .i64 0, .int .i64 0, .slice none 0 0]).alloc (Obj.cells #[.slice A n c, .int .i64 0, .int .u64 0] 46)).dg hd1 (show w.heap.size ≠ (w.heap.size + 1) by have := Hgl.out; have := S1.out; omega))
  have R := NR; clear NR
  have Hc1 := Lib.hid (hc1.mono (j := 0 + 100) (by omega))
  have Hd1 := Lib.hid (((Hd.out.alloc (Obj.cells #[.int .i64 0, .int .i64 0, .int .i64 0, .int .i64 0, .int .i64 0, .slice none 0 0] 28)).alloc (Obj.cells #[.slice A n c, .int .i64 0, .int .u64 0] 46)).trans hd1)
  clear hc1 hd1
  have HV := Lib.hid (hv.mono (B' := w.heap.size + 2) (by simp)); have GHV := Lib.hid (IR.lt (hv.mono (B' := w.heap.size + 2) (by simp)))
  clear hv
  obtain ⟨A9, c9, rfl, -, -⟩ := HV.out.form
  go_wp2_with fail
  refine (skBounds_any a b m e9 t (.slice A9 nv c9) _).mono ?_; rintro e w2 ⟨rfl, hd2⟩
  have S2 := Lib.hid (show w1.heap.size + 1 ≤ w2.heap.size by have h9 := hd2.size; (try simp only [World.size_alloc, World.size_setCell] at h9); omega)
  have NR := Lib.hid ((R.out.alloc _).dg (Dg.of_below (g := (w.heap.size + 1)) hd2) (show w.heap.size ≠ (w.heap.size + 1) by have := Hgl.out; have := S1.out; have := S2.out; omega))
  have NQ := Lib.hid ((Blk.new w1 28 #[.int .i64 a, .int .i64 b, .int .i64 m, .int .i64 e9, .int .i64 t, .slice A9 nv c9]).dg (Dg.of_below (g := (w.heap.size + 1)) hd2) (show w1.heap.size ≠ (w.heap.size + 1) by have := Hgl.out; have := S1.out; have := S2.out; omega))
  have R := NR; clear NR
  have Q := NQ; clear NQ
  have HV := Lib.hid ((HV.out.alloc _).dg (Dg.of_below (g := (w.heap.size + 1)) hd2) (show (w.heap.size + 1) < (w.heap.size + 2) by have := Hgl.out; have := S1.out; have := S2.out; omega))
  have Hc2 := Lib.hid ((Hc1.out.alloc _).on hd2)
  have Hd2 := Lib.hid ((Hd1.out.alloc _).trans (Dg.of_below (g := (w.heap.size + 1)) hd2))
  clear hd2
  cases hk9 : tkB a b m e9
  · clear hk9
    have qQ0 := Q.out.cell 0
    have qQ1 := Q.out.cell 1
    have qQ2 := Q.out.cell 2
    have qQ3 := Q.out.cell 3
    have qQ4 := Q.out.cell 4
    have qQ5 := Q.out.cell 5
    simp at qQ0 qQ1 qQ2 qQ3 qQ4 qQ5
    have qQl := Q.out.lt
    go_wp2_with fail
    clear qQ0 qQ1 qQ2 qQ3 qQ4 qQ5 qQl
    have qQ0 := Q.out.cell 0
    have qQ1 := Q.out.cell 1
    have qQ2 := Q.out.cell 2
    have qQ3 := Q.out.cell 3
    have qQ4 := Q.out.cell 4
    have qQ5 := Q.out.cell 5
    simp at qQ0 qQ1 qQ2 qQ3 qQ4 qQ5
    have qQl := Q.out.lt
    have hR0 := R.out.frozen; have hRl := R.out.lt; have r0 := R.out.cell 0; have r1 := R.out.cell 1; have r2 := R.out.cell 2; have r3 := R.out.cell 3; have r4 := R.out.cell 4; have r5 := R.out.cell 5
    simp at r0 r1 r2 r3 r4 r5
    have hQg : w1.heap.size ≠ (w.heap.size + 1) := by have := Hgl.out; have := S1.out; have := S2.out; omega
    have hRg : w.heap.size ≠ (w.heap.size + 1) := by omega
    have hQR : w1.heap.size ≠ w.heap.size := by have := Hgl.out; have := S1.out; have := S2.out; omega
    have hGw := Lib.hid (show (w.heap.size + 1) < w2.heap.size by have := Hgl.out; have := S1.out; have := S2.out; omega)
    clear qQ0 qQ1 qQ2 qQ3 qQ4 qQ5 qQl r0 r1 r2 r3 r4 r5 hR0 hRl
    refine wp_region_heldT (z := 11) (S := fun w' => Blk w' (w1.heap.size) 28 #[.int .i64 a, .int .i64 b, .int .i64 m, .int .i64 e9, .int .i64 t, .slice A9 nv c9]) (by kernel_rfl) Q.out.drew (fun hH => ?_)
    have hw1 : IntKind.i64.wrap 0 = 0 := by rw [IntKind.wrap_i64]; omega
    refine wpAnyT_take (i := 0) (v := .agg #[.int .i64 a, .int .i64 b, .int .i64 m, .int .i64 e9, .int .i64 t, .slice A9 nv c9]) rfl (by kernel_rfl) (by kernel_rfl) (by kernel_rfl) (by kernel_rfl) (fun _ _ _ h => h) (Or.inl ⟨by rfl, ?_⟩) hH ?_
    · intro w hw; have f0 := hw.cell 0; have f1 := hw.cell 1; have f2 := hw.cell 2; have f3 := hw.cell 3; have f4 := hw.cell 4; have f5 := hw.cell 5; simp at f0 f1 f2 f3 f4 f5; go_simp
    try simp only [Act.put, List.setIfInBounds_toArray, List.set_cons_zero, List.set_cons_succ]
    refine wpAnyT_take (i := 1) (v := .pointer (some ⟨(w.heap.size + 1), 0, none⟩)) rfl (by kernel_rfl) (by kernel_rfl) (by kernel_rfl) (by kernel_rfl) (fun _ _ _ h => h) (Or.inl ⟨by rfl, ?_⟩) hH ?_
    · intro w _; go_simp
    try simp only [Act.put, List.setIfInBounds_toArray, List.set_cons_zero, List.set_cons_succ]
    refine wpAnyT_take (i := 2) (v := .pointer (some ⟨(w.heap.size + 1), 0, none⟩)) rfl (by kernel_rfl) (by kernel_rfl) (by kernel_rfl) (by kernel_rfl) (fun _ _ _ h => h) (Or.inl ⟨by rfl, ?_⟩) hH ?_
    · intro w _; go_simp
    try simp only [Act.put, List.setIfInBounds_toArray, List.set_cons_zero, List.set_cons_succ]
    refine wpAnyT_take (i := 3) (v := .int .i64 1) rfl (by kernel_rfl) (by kernel_rfl) (by kernel_rfl) (by kernel_rfl) (fun _ _ _ h => h) (Or.inl ⟨by rfl, ?_⟩) hH ?_
    · intro w _; go_simp
    try simp only [Act.put, List.setIfInBounds_toArray, List.set_cons_zero, List.set_cons_succ]
    refine wpAnyT_take (i := 5) (v := .int .i64 1) rfl (by kernel_rfl) (by kernel_rfl) (by kernel_rfl) (by kernel_rfl) (fun _ _ _ h => h) (Or.inl ⟨by rfl, ?_⟩) hH ?_
    · intro w _; go_simp
    try simp only [Act.put, List.setIfInBounds_toArray, List.set_cons_zero, List.set_cons_succ]
    refine wpAnyT_take (i := 6) (v := .int .i64 0) rfl (by kernel_rfl) (by kernel_rfl) (by kernel_rfl) (by kernel_rfl) (fun _ _ _ h => h) (Or.inl ⟨by rfl, ?_⟩) hH ?_
    · intro w _; go_simp
    try simp only [Act.put, List.setIfInBounds_toArray, List.set_cons_zero, List.set_cons_succ]
    refine wpAnyT_take (i := 7) (v := .int .i64 1) rfl (by kernel_rfl) (by kernel_rfl) (by kernel_rfl) (by kernel_rfl) (fun _ _ _ h => h) (Or.inl ⟨by rfl, ?_⟩) hH ?_
    · intro w _; go_simp
    try simp only [Act.put, List.setIfInBounds_toArray, List.set_cons_zero, List.set_cons_succ]
    refine wpAnyT_one (i := 4) (by kernel_rfl) rfl (fun K hK => ?_)
    go_simp
    refine (pick_any (w.heap.size + 1) (0 + 100) 1 _ (Cur.drew Hc2.out) (by omega)).mono ?_
    rintro e8 wp ⟨⟨x, hx0, hx1, rfl⟩, hcx, hdx⟩
    go_wp2_with fail
    have hH3 := hH.dg hdx hQg
    refine hK.out _ _ (fun _ => hH3) ?_
    clear hK K
    try simp only [Act.put, List.setIfInBounds_toArray, List.set_cons_zero, List.set_cons_succ]
    refine wpAnyT_one (i := 8) (by kernel_rfl) rfl (fun K hK => ?_)
    go_simp
    have hH5 := hH3.alloc (Obj.cells #[.int .i64 0, .int .i64 x, .int .i64 0, .int .i64 1, .int .i64 (-1)] 3)
    refine hK.out _ _ (fun _ => hH5) ?_
    clear hK K
    try simp only [Act.put, List.setIfInBounds_toArray, List.set_cons_zero, List.set_cons_succ]
    refine wpAnyT_one (i := 9) (by kernel_rfl) rfl (fun K hK => ?_)
    go_simp
    refine (among_blk (w.heap.size + 1) ((0 + 100) + 2) _ [0, x, 0, 1, -1] 5 rfl _ (Blk.new wp _ _) ((hcx.mono (j := (0 + 100) + 2) (by omega)).alloc _) (by have h9 := hdx.size; have h8 := hGw.out; rw [World.size_drew] at h9; omega) (by simp) (by simp) (by omega)).mono ?_
    rintro e8 wa ⟨⟨y, hy, rfl⟩, hcy, hdy⟩
    go_wp2_with fail
    have hH6 := hH5.dg hdy hQg
    refine hK.out _ _ (fun _ => hH6) ?_
    clear hK K
    try simp only [Act.put, List.setIfInBounds_toArray, List.set_cons_zero, List.set_cons_succ]
    have hyb : -1 ≤ y ∧ y ≤ 5001 := ag2 hy (lo := -1) (hi := 5001) (by simp; omega)
    clear hy
    replace hdy := (((Dg.drew (Dg.refl (w.heap.size + 1) w2)).trans hdx).alloc _).trans hdy
    have HRa := R.out.dg hdy hRg
    have hR0 := HRa.frozen; have hRl := HRa.lt; have r0 := HRa.cell 0; have r1 := HRa.cell 1; have r2 := HRa.cell 2; have r3 := HRa.cell 3; have r4 := HRa.cell 4; have r5 := HRa.cell 5
    simp at r0 r1 r2 r3 r4 r5
    refine wpAnyT_one (i := 10) (by kernel_rfl) rfl (fun K hK => ?_)
    go_simp
    refine hK.out _ _ (fun _ => ?_) ?_
    · exact ((((((hH6.far (p := ⟨w.heap.size, 0, none⟩) hQR _).far (p := ⟨w.heap.size, 1, none⟩) hQR _).far (p := ⟨w.heap.size, 2, none⟩) hQR _).far (p := ⟨w.heap.size, 3, none⟩) hQR _).far (p := ⟨w.heap.size, 4, none⟩) hQR _).far (p := ⟨w.heap.size, 5, none⟩) hQR _)
    clear hK K
    try simp only [Act.put, List.setIfInBounds_toArray, List.set_cons_zero, List.set_cons_succ]
    refine wpAnyT_one (i := 11) (by kernel_rfl) rfl (fun K hK => ?_)
    go_simp
    refine hK.out _ _ (fun h9 => absurd rfl h9) ?_
    clear hK K
    try simp only [Act.put, List.setIfInBounds_toArray, List.set_cons_zero, List.set_cons_succ]
    refine wpAnyT_done (by kernel_rfl) ?_ _
    clear r0 r1 r2 r3 r4 r5 hR0 hRl HRa hH6 hH5 hH3 hH
    have hc3 := hcy.mono (j := 0 + 104) (by omega); have hd3 := hdy; clear hcy hdy hcx hdx
    have S3 := Lib.hid (show w2.heap.size + 0 ≤ wa.heap.size by have h9 := hd3.size; (try simp only [World.size_alloc, World.size_setCell] at h9); omega)
    have NR := Lib.hid (R.out.dg hd3 (show w.heap.size ≠ (w.heap.size + 1) by have := Hgl.out; have := S1.out; have := S2.out; have := S3.out; omega))
    have NQ := Lib.hid (Q.out.dg hd3 (show w1.heap.size ≠ (w.heap.size + 1) by have := Hgl.out; have := S1.out; have := S2.out; have := S3.out; omega))
    have R := NR; clear NR
    have Q := NQ; clear NQ
    have HV := Lib.hid (HV.out.dg hd3 (show (w.heap.size + 1) < (w.heap.size + 2) by have := Hgl.out; have := S1.out; have := S2.out; have := S3.out; omega))
    have Hc3 := Lib.hid (hc3.mono (j := 0 + 104) (by omega))
    have Hd3 := Lib.hid (Hd2.out.trans hd3)
    clear hc3 hd3
    have HR9 := (show Blk (World.setCell (World.setCell (World.setCell (World.setCell (World.setCell (World.setCell wa ⟨w.heap.size, 0, none⟩ (.int .i64 a)) ⟨w.heap.size, 1, none⟩ (.int .i64 b)) ⟨w.heap.size, 2, none⟩ (.int .i64 m)) ⟨w.heap.size, 3, none⟩ (.int .i64 e9)) ⟨w.heap.size, 4, none⟩ (.int .i64 t)) ⟨w.heap.size, 5, none⟩ (.slice A9 nv c9)) (w.heap.size) 28 #[.int .i64 a, .int .i64 b, .int .i64 m, .int .i64 e9, .int .i64 t, .slice A9 nv c9] by have h9 := ((((((R.out.set 0 (.int .i64 a)).set 1 (.int .i64 b)).set 2 (.int .i64 m)).set 3 (.int .i64 e9)).set 4 (.int .i64 t)).set 5 (.slice A9 nv c9)); simpa using h9)
    have k0 := HR9.cell 0
    have k1 := HR9.cell 1
    have k2 := HR9.cell 2
    have k3 := HR9.cell 3
    have k4 := HR9.cell 4
    have k5 := HR9.cell 5
    simp at k0 k1 k2 k3 k4 k5
    go_wp2
    exact bodyPost_ret (v := .tuple #[.agg #[.int .i64 a, .int .i64 b, .int .i64 m, .int .i64 e9, .int .i64 t, .slice A9 nv c9], .int .i64 y]) (by simp [results, Try.results18, go_sem, k0, k1, k2, k3, k4, k5]) rfl ⟨⟨_, _, _, _, _, .slice A9 nv c9, nv, y, hnv, rfl, ((((((HV.out.st (p := ⟨w.heap.size, 0, none⟩) (by intro k9 hk9; have := GHV.out k9 hk9; show k9 ≠ w.heap.size; have := Hgl.out; have := S1.out; have := S2.out; have := S3.out; omega) (.int .i64 a)).st (p := ⟨w.heap.size, 1, none⟩) (by intro k9 hk9; have := GHV.out k9 hk9; show k9 ≠ w.heap.size; have := Hgl.out; have := S1.out; have := S2.out; have := S3.out; omega) (.int .i64 b)).st (p := ⟨w.heap.size, 2, none⟩) (by intro k9 hk9; have := GHV.out k9 hk9; show k9 ≠ w.heap.size; have := Hgl.out; have := S1.out; have := S2.out; have := S3.out; omega) (.int .i64 m)).st (p := ⟨w.heap.size, 3, none⟩) (by intro k9 hk9; have := GHV.out k9 hk9; show k9 ≠ w.heap.size; have := Hgl.out; have := S1.out; have := S2.out; have := S3.out; omega) (.int .i64 e9)).st (p := ⟨w.heap.size, 4, none⟩) (by intro k9 hk9; have := GHV.out k9 hk9; show k9 ≠ w.heap.size; have := Hgl.out; have := S1.out; have := S2.out; have := S3.out; omega) (.int .i64 t)).st (p := ⟨w.heap.size, 5, none⟩) (by intro k9 hk9; have := GHV.out k9 hk9; show k9 ≠ w.heap.size; have := Hgl.out; have := S1.out; have := S2.out; have := S3.out; omega) (.slice A9 nv c9)).mono (by omega), hyb⟩, ((((((Hd3.out.st (p := ⟨w.heap.size, 0, none⟩) (show w.heap.size ≤ w.heap.size by have := Hgl.out; have := S1.out; have := S2.out; have := S3.out; omega) (.int .i64 a)).st (p := ⟨w.heap.size, 1, none⟩) (show w.heap.size ≤ w.heap.size by have := Hgl.out; have := S1.out; have := S2.out; have := S3.out; omega) (.int .i64 b)).st (p := ⟨w.heap.size, 2, none⟩) (show w.heap.size ≤ w.heap.size by have := Hgl.out; have := S1.out; have := S2.out; have := S3.out; omega) (.int .i64 m)).st (p := ⟨w.heap.size, 3, none⟩) (show w.heap.size ≤ w.heap.size by have := Hgl.out; have := S1.out; have := S2.out; have := S3.out; omega) (.int .i64 e9)).st (p := ⟨w.heap.size, 4, none⟩) (show w.heap.size ≤ w.heap.size by have := Hgl.out; have := S1.out; have := S2.out; have := S3.out; omega) (.int .i64 t)).st (p := ⟨w.heap.size, 5, none⟩) (show w.heap.size ≤ w.heap.size by have := Hgl.out; have := S1.out; have := S2.out; have := S3.out; omega) (.slice A9 nv c9)).below (by have := S1.out; have := S2.out; have := S3.out; omega) (Nat.le_refl _)⟩
  · have Htk := Lib.hid (tkB_tk hk9); clear hk9
    obtain ⟨tt, htt⟩ : ∃ tt, totI m e9 = tt := ⟨_, rfl⟩
    have htb := totI_bd Htk.out.m Htk.out.d
    rw [htt] at htb
    obtain ⟨ht0, ht1⟩ := htb
    have Hsk : Hid (∀ (w9 : World), Calls Try.prog 32 #[.agg #[.int .i64 a, .int .i64 b, .int .i64 m, .int .i64 e9, .int .i64 t, .slice A9 nv c9]] w9 fun r w8 => r = .returned (.int .i64 tt) ∧ Below w9.heap.size w9 w8) := Lib.hid (fun w9 => by rw [← htt]; exact skCount_any a b m e9 t (.slice A9 nv c9) w9 Htk.out)
    have qQ0 := Q.out.cell 0
    have qQ1 := Q.out.cell 1
    have qQ2 := Q.out.cell 2
    have qQ3 := Q.out.cell 3
    have qQ4 := Q.out.cell 4
    have qQ5 := Q.out.cell 5
    simp at qQ0 qQ1 qQ2 qQ3 qQ4 qQ5
    have qQl := Q.out.lt
    go_wp2_with fail
    refine (Hsk.out _).mono ?_; rintro e w4 ⟨rfl, hd4⟩
    clear qQ0 qQ1 qQ2 qQ3 qQ4 qQ5 qQl
    have S4 := Lib.hid (show w2.heap.size + 0 ≤ w4.heap.size by have h9 := hd4.size; (try simp only [World.size_alloc, World.size_setCell] at h9); omega)
    have NR := Lib.hid (R.out.dg (Dg.of_below (g := (w.heap.size + 1)) hd4) (show w.heap.size ≠ (w.heap.size + 1) by have := Hgl.out; have := S1.out; have := S2.out; have := S4.out; omega))
    have NQ := Lib.hid (Q.out.dg (Dg.of_below (g := (w.heap.size + 1)) hd4) (show w1.heap.size ≠ (w.heap.size + 1) by have := Hgl.out; have := S1.out; have := S2.out; have := S4.out; omega))
    have R := NR; clear NR
    have Q := NQ; clear NQ
    have HV := Lib.hid (HV.out.dg (Dg.of_below (g := (w.heap.size + 1)) hd4) (show (w.heap.size + 1) < (w.heap.size + 2) by have := Hgl.out; have := S1.out; have := S2.out; have := S4.out; omega))
    have Hc4 := Lib.hid (Hc2.out.on hd4)
    have Hd4 := Lib.hid (Hd2.out.trans (Dg.of_below (g := (w.heap.size + 1)) hd4))
    clear hd4
    have qQ0 := Q.out.cell 0
    have qQ1 := Q.out.cell 1
    have qQ2 := Q.out.cell 2
    have qQ3 := Q.out.cell 3
    have qQ4 := Q.out.cell 4
    have qQ5 := Q.out.cell 5
    simp at qQ0 qQ1 qQ2 qQ3 qQ4 qQ5
    have qQl := Q.out.lt
    go_wp2_with fail
    clear qQ0 qQ1 qQ2 qQ3 qQ4 qQ5 qQl
    have qQ0 := Q.out.cell 0
    have qQ1 := Q.out.cell 1
    have qQ2 := Q.out.cell 2
    have qQ3 := Q.out.cell 3
    have qQ4 := Q.out.cell 4
    have qQ5 := Q.out.cell 5
    simp at qQ0 qQ1 qQ2 qQ3 qQ4 qQ5
    have qQl := Q.out.lt
    have hR0 := R.out.frozen; have hRl := R.out.lt; have r0 := R.out.cell 0; have r1 := R.out.cell 1; have r2 := R.out.cell 2; have r3 := R.out.cell 3; have r4 := R.out.cell 4; have r5 := R.out.cell 5
    simp at r0 r1 r2 r3 r4 r5
    have hQg : w1.heap.size ≠ (w.heap.size + 1) := by have := Hgl.out; have := S1.out; have := S2.out; have := S4.out; omega
    have hRg : w.heap.size ≠ (w.heap.size + 1) := by omega
    have hQR : w1.heap.size ≠ w.heap.size := by have := Hgl.out; have := S1.out; have := S2.out; have := S4.out; omega
    have hGw := Lib.hid (show (w.heap.size + 1) < w4.heap.size by have := Hgl.out; have := S1.out; have := S2.out; have := S4.out; omega)
    clear qQ0 qQ1 qQ2 qQ3 qQ4 qQ5 qQl r0 r1 r2 r3 r4 r5 hR0 hRl
    refine wp_region_heldT (z := 11) (S := fun w' => Blk w' (w1.heap.size) 28 #[.int .i64 a, .int .i64 b, .int .i64 m, .int .i64 e9, .int .i64 t, .slice A9 nv c9]) (by kernel_rfl) Q.out.drew (fun hH => ?_)
    have hw1 : IntKind.i64.wrap (tt - 1) = (tt - 1) := by rw [IntKind.wrap_i64]; omega
    refine wpAnyT_take (i := 0) (v := .agg #[.int .i64 a, .int .i64 b, .int .i64 m, .int .i64 e9, .int .i64 t, .slice A9 nv c9]) rfl (by kernel_rfl) (by kernel_rfl) (by kernel_rfl) (by kernel_rfl) (fun _ _ _ h => h) (Or.inl ⟨by rfl, ?_⟩) hH ?_
    · intro w hw; have f0 := hw.cell 0; have f1 := hw.cell 1; have f2 := hw.cell 2; have f3 := hw.cell 3; have f4 := hw.cell 4; have f5 := hw.cell 5; simp at f0 f1 f2 f3 f4 f5; go_simp
    try simp only [Act.put, List.setIfInBounds_toArray, List.set_cons_zero, List.set_cons_succ]
    refine wpAnyT_take (i := 1) (v := .pointer (some ⟨(w.heap.size + 1), 0, none⟩)) rfl (by kernel_rfl) (by kernel_rfl) (by kernel_rfl) (by kernel_rfl) (fun _ _ _ h => h) (Or.inl ⟨by rfl, ?_⟩) hH ?_
    · intro w _; go_simp
    try simp only [Act.put, List.setIfInBounds_toArray, List.set_cons_zero, List.set_cons_succ]
    refine wpAnyT_take (i := 2) (v := .pointer (some ⟨(w.heap.size + 1), 0, none⟩)) rfl (by kernel_rfl) (by kernel_rfl) (by kernel_rfl) (by kernel_rfl) (fun _ _ _ h => h) (Or.inl ⟨by rfl, ?_⟩) hH ?_
    · intro w _; go_simp
    try simp only [Act.put, List.setIfInBounds_toArray, List.set_cons_zero, List.set_cons_succ]
    refine wpAnyT_take (i := 3) (v := .int .i64 tt) rfl (by kernel_rfl) (by kernel_rfl) (by kernel_rfl) (by kernel_rfl) (fun _ _ _ h => h) (Or.inl ⟨by rfl, ?_⟩) hH ?_
    · intro w _; go_simp
    try simp only [Act.put, List.setIfInBounds_toArray, List.set_cons_zero, List.set_cons_succ]
    refine wpAnyT_take (i := 5) (v := .int .i64 tt) rfl (by kernel_rfl) (by kernel_rfl) (by kernel_rfl) (by kernel_rfl) (fun _ _ _ h => h) (Or.inl ⟨by rfl, ?_⟩) hH ?_
    · intro w _; go_simp
    try simp only [Act.put, List.setIfInBounds_toArray, List.set_cons_zero, List.set_cons_succ]
    refine wpAnyT_take (i := 6) (v := .int .i64 (tt - 1)) rfl (by kernel_rfl) (by kernel_rfl) (by kernel_rfl) (by kernel_rfl) (fun _ _ _ h => h) (Or.inl ⟨by rfl, ?_⟩) hH ?_
    · intro w _; go_simp
    try simp only [Act.put, List.setIfInBounds_toArray, List.set_cons_zero, List.set_cons_succ]
    refine wpAnyT_take (i := 7) (v := .int .i64 tt) rfl (by kernel_rfl) (by kernel_rfl) (by kernel_rfl) (by kernel_rfl) (fun _ _ _ h => h) (Or.inl ⟨by rfl, ?_⟩) hH ?_
    · intro w _; go_simp
    try simp only [Act.put, List.setIfInBounds_toArray, List.set_cons_zero, List.set_cons_succ]
    refine wpAnyT_one (i := 4) (by kernel_rfl) rfl (fun K hK => ?_)
    go_simp
    refine (pick_any (w.heap.size + 1) (0 + 100) tt _ (Cur.drew Hc4.out) (by omega)).mono ?_
    rintro e8 wp ⟨⟨x, hx0, hx1, rfl⟩, hcx, hdx⟩
    go_wp2_with fail
    have hH3 := hH.dg hdx hQg
    refine hK.out _ _ (fun _ => hH3) ?_
    clear hK K
    try simp only [Act.put, List.setIfInBounds_toArray, List.set_cons_zero, List.set_cons_succ]
    refine wpAnyT_one (i := 8) (by kernel_rfl) rfl (fun K hK => ?_)
    go_simp
    have hH5 := hH3.alloc (Obj.cells #[.int .i64 0, .int .i64 x, .int .i64 (tt - 1), .int .i64 tt, .int .i64 (-1)] 3)
    refine hK.out _ _ (fun _ => hH5) ?_
    clear hK K
    try simp only [Act.put, List.setIfInBounds_toArray, List.set_cons_zero, List.set_cons_succ]
    refine wpAnyT_one (i := 9) (by kernel_rfl) rfl (fun K hK => ?_)
    go_simp
    refine (among_blk (w.heap.size + 1) ((0 + 100) + 2) _ [0, x, (tt - 1), tt, -1] 5 rfl _ (Blk.new wp _ _) ((hcx.mono (j := (0 + 100) + 2) (by omega)).alloc _) (by have h9 := hdx.size; have h8 := hGw.out; rw [World.size_drew] at h9; omega) (by simp) (by simp) (by omega)).mono ?_
    rintro e8 wa ⟨⟨y, hy, rfl⟩, hcy, hdy⟩
    go_wp2_with fail
    have hH6 := hH5.dg hdy hQg
    refine hK.out _ _ (fun _ => hH6) ?_
    clear hK K
    try simp only [Act.put, List.setIfInBounds_toArray, List.set_cons_zero, List.set_cons_succ]
    have hyb : -1 ≤ y ∧ y ≤ 5001 := ag2 hy (lo := -1) (hi := 5001) (by simp; omega)
    clear hy
    replace hdy := (((Dg.drew (Dg.refl (w.heap.size + 1) w4)).trans hdx).alloc _).trans hdy
    have HRa := R.out.dg hdy hRg
    have hR0 := HRa.frozen; have hRl := HRa.lt; have r0 := HRa.cell 0; have r1 := HRa.cell 1; have r2 := HRa.cell 2; have r3 := HRa.cell 3; have r4 := HRa.cell 4; have r5 := HRa.cell 5
    simp at r0 r1 r2 r3 r4 r5
    refine wpAnyT_one (i := 10) (by kernel_rfl) rfl (fun K hK => ?_)
    go_simp
    refine hK.out _ _ (fun _ => ?_) ?_
    · exact ((((((hH6.far (p := ⟨w.heap.size, 0, none⟩) hQR _).far (p := ⟨w.heap.size, 1, none⟩) hQR _).far (p := ⟨w.heap.size, 2, none⟩) hQR _).far (p := ⟨w.heap.size, 3, none⟩) hQR _).far (p := ⟨w.heap.size, 4, none⟩) hQR _).far (p := ⟨w.heap.size, 5, none⟩) hQR _)
    clear hK K
    try simp only [Act.put, List.setIfInBounds_toArray, List.set_cons_zero, List.set_cons_succ]
    refine wpAnyT_one (i := 11) (by kernel_rfl) rfl (fun K hK => ?_)
    go_simp
    refine hK.out _ _ (fun h9 => absurd rfl h9) ?_
    clear hK K
    try simp only [Act.put, List.setIfInBounds_toArray, List.set_cons_zero, List.set_cons_succ]
    refine wpAnyT_done (by kernel_rfl) ?_ _
    clear r0 r1 r2 r3 r4 r5 hR0 hRl HRa hH6 hH5 hH3 hH
    have hc5 := hcy.mono (j := 0 + 104) (by omega); have hd5 := hdy; clear hcy hdy hcx hdx
    have S5 := Lib.hid (show w4.heap.size + 0 ≤ wa.heap.size by have h9 := hd5.size; (try simp only [World.size_alloc, World.size_setCell] at h9); omega)
    have NR := Lib.hid (R.out.dg hd5 (show w.heap.size ≠ (w.heap.size + 1) by have := Hgl.out; have := S1.out; have := S2.out; have := S4.out; have := S5.out; omega))
    have NQ := Lib.hid (Q.out.dg hd5 (show w1.heap.size ≠ (w.heap.size + 1) by have := Hgl.out; have := S1.out; have := S2.out; have := S4.out; have := S5.out; omega))
    have R := NR; clear NR
    have Q := NQ; clear NQ
    have HV := Lib.hid (HV.out.dg hd5 (show (w.heap.size + 1) < (w.heap.size + 2) by have := Hgl.out; have := S1.out; have := S2.out; have := S4.out; have := S5.out; omega))
    have Hc5 := Lib.hid (hc5.mono (j := 0 + 104) (by omega))
    have Hd5 := Lib.hid (Hd4.out.trans hd5)
    clear hc5 hd5
    have HR9 := (show Blk (World.setCell (World.setCell (World.setCell (World.setCell (World.setCell (World.setCell wa ⟨w.heap.size, 0, none⟩ (.int .i64 a)) ⟨w.heap.size, 1, none⟩ (.int .i64 b)) ⟨w.heap.size, 2, none⟩ (.int .i64 m)) ⟨w.heap.size, 3, none⟩ (.int .i64 e9)) ⟨w.heap.size, 4, none⟩ (.int .i64 t)) ⟨w.heap.size, 5, none⟩ (.slice A9 nv c9)) (w.heap.size) 28 #[.int .i64 a, .int .i64 b, .int .i64 m, .int .i64 e9, .int .i64 t, .slice A9 nv c9] by have h9 := ((((((R.out.set 0 (.int .i64 a)).set 1 (.int .i64 b)).set 2 (.int .i64 m)).set 3 (.int .i64 e9)).set 4 (.int .i64 t)).set 5 (.slice A9 nv c9)); simpa using h9)
    have k0 := HR9.cell 0
    have k1 := HR9.cell 1
    have k2 := HR9.cell 2
    have k3 := HR9.cell 3
    have k4 := HR9.cell 4
    have k5 := HR9.cell 5
    simp at k0 k1 k2 k3 k4 k5
    go_wp2
    exact bodyPost_ret (v := .tuple #[.agg #[.int .i64 a, .int .i64 b, .int .i64 m, .int .i64 e9, .int .i64 t, .slice A9 nv c9], .int .i64 y]) (by simp [results, Try.results18, go_sem, k0, k1, k2, k3, k4, k5]) rfl ⟨⟨_, _, _, _, _, .slice A9 nv c9, nv, y, hnv, rfl, ((((((HV.out.st (p := ⟨w.heap.size, 0, none⟩) (by intro k9 hk9; have := GHV.out k9 hk9; show k9 ≠ w.heap.size; have := Hgl.out; have := S1.out; have := S2.out; have := S4.out; have := S5.out; omega) (.int .i64 a)).st (p := ⟨w.heap.size, 1, none⟩) (by intro k9 hk9; have := GHV.out k9 hk9; show k9 ≠ w.heap.size; have := Hgl.out; have := S1.out; have := S2.out; have := S4.out; have := S5.out; omega) (.int .i64 b)).st (p := ⟨w.heap.size, 2, none⟩) (by intro k9 hk9; have := GHV.out k9 hk9; show k9 ≠ w.heap.size; have := Hgl.out; have := S1.out; have := S2.out; have := S4.out; have := S5.out; omega) (.int .i64 m)).st (p := ⟨w.heap.size, 3, none⟩) (by intro k9 hk9; have := GHV.out k9 hk9; show k9 ≠ w.heap.size; have := Hgl.out; have := S1.out; have := S2.out; have := S4.out; have := S5.out; omega) (.int .i64 e9)).st (p := ⟨w.heap.size, 4, none⟩) (by intro k9 hk9; have := GHV.out k9 hk9; show k9 ≠ w.heap.size; have := Hgl.out; have := S1.out; have := S2.out; have := S4.out; have := S5.out; omega) (.int .i64 t)).st (p := ⟨w.heap.size, 5, none⟩) (by intro k9 hk9; have := GHV.out k9 hk9; show k9 ≠ w.heap.size; have := Hgl.out; have := S1.out; have := S2.out; have := S4.out; have := S5.out; omega) (.slice A9 nv c9)).mono (by omega), hyb⟩, ((((((Hd5.out.st (p := ⟨w.heap.size, 0, none⟩) (show w.heap.size ≤ w.heap.size by have := Hgl.out; have := S1.out; have := S2.out; have := S4.out; have := S5.out; omega) (.int .i64 a)).st (p := ⟨w.heap.size, 1, none⟩) (show w.heap.size ≤ w.heap.size by have := Hgl.out; have := S1.out; have := S2.out; have := S4.out; have := S5.out; omega) (.int .i64 b)).st (p := ⟨w.heap.size, 2, none⟩) (show w.heap.size ≤ w.heap.size by have := Hgl.out; have := S1.out; have := S2.out; have := S4.out; have := S5.out; omega) (.int .i64 m)).st (p := ⟨w.heap.size, 3, none⟩) (show w.heap.size ≤ w.heap.size by have := Hgl.out; have := S1.out; have := S2.out; have := S4.out; have := S5.out; omega) (.int .i64 e9)).st (p := ⟨w.heap.size, 4, none⟩) (show w.heap.size ≤ w.heap.size by have := Hgl.out; have := S1.out; have := S2.out; have := S4.out; have := S5.out; omega) (.int .i64 t)).st (p := ⟨w.heap.size, 5, none⟩) (show w.heap.size ≤ w.heap.size by have := Hgl.out; have := S1.out; have := S2.out; have := S4.out; have := S5.out; omega) (.slice A9 nv c9)).below (by have := S1.out; have := S2.out; have := S4.out; have := S5.out; omega) (Nat.le_refl _)⟩
end Go.Proofs.Ytjnghjgfhlgbiaa
