/- Own texts put together: The reference's draws of a catalogue and a curve, of a catalogue's text, of an entry; Helpers of the law FnEntries; The law FnEntries: its walk; An argument that is a slice of bytes, opened to its cells; What the rows' condition gives: the table of powers of ten; a world that meets it; What the journal rows' condition gives: Env; a world that meets it; the wrap that keeps the world's shape besides; A journal among the arguments: opened to its two texts. Conditions: those of each theorem. -/
import Derived.Test.YtimfoodbolokdaaGreatDoorEtM10
import Derived.Deep.DeepCutAuto
import Derived.Deep.RegionHeld3
import Derived.Test.YtimfoodbolokdaaGreatDoorEtM7
import Derived.Test.YtimfoodbolokdaaGreatDoorEtM8
import Derived.Test.YtimfoodbolokdaaGreatDoorEtM9
import Derived.Test.YtimfoodbolokdaaGreatDoorEtM2
import Derived.Test.YtimfoodbolokdaaGreatDoorRows
import Derived.Test.YtimfoodbolokdaaGreatDoorEtM6
import Derived.LaidMore
import Derived.MakeChecks
import Derived.Lib.LaidTab
import Derived.Lib.LaidU8
import Derived.Handed
import Derived.Lay
import Derived.Lib.SmallJoins
namespace Go.Proofs.YtimfoodbolokdaaGreatDoor
section
open Go Go.RowKit

set_option maxRecDepth 100000 in
theorem fieldCu (a b lo hi t : Int) (W : World) : (Instr.field 29 (.agg #[.int .i64 a, .int .i64 b, .int .i64 lo, .int .i64 hi, .int .i64 t]) 0).run Tryz.prog W = .ok (.agg #[.int .i64 a, .int .i64 b]) W := by kernel_rfl
/-- A row of entries of a call's own, and a curve. -/
structure RowC (w : World) (B : Nat) (e : Ending) : Prop where
  ex : ∃ (v : Value) (m : Nat) (x y : Int), m ≤ 20 ∧ e = .returned (.tuple #[v, .agg #[.int .i64 x, .int .i64 y]]) ∧ IR w B 29 5 v m

set_option linter.unusedSimpArgs false in
set_option maxRecDepth 8000 in
set_option maxHeartbeats 16000000 in
theorem drawIsEntry_any (A : Option Addr) (n c : Nat) (w : World) (hby : BytesAt w w.heap.size A n) :
    Calls Tryz.prog 21 #[.slice A n c] w fun e w' => (∃ a b lo hi t : Int, e = .returned (.agg #[.int .i64 a, .int .i64 b, .int .i64 lo, .int .i64 hi, .int .i64 t])) ∧ Below w.heap.size w w' := by
  have Hb := Lib.hid hby; clear hby
  have Hgl := Lib.hid (Nat.le_refl w.heap.size)
  have Hd := Lib.hid (Dg.refl (w.heap.size + 1) w)
  go_enter Tryz.func21, Tryz.ntmps21
  go_wp2_with fail
  refine (anyEntry_any (w.heap.size + 1) 0 _ (Cur.new1 Hb.out c _) (by omega)).mono ?_; rintro e w1 ⟨⟨a, b, lo, hi9, t, rfl⟩, hc1, hd1⟩
  have S1 := Lib.hid (show w.heap.size + 2 ≤ w1.heap.size by have h9 := hd1.size; (try simp only [World.size_alloc, World.size_setCell] at h9); omega)
  have NR := Lib.hid (((Blk.new w 29 #[.int .i64 0, .int .i64 0, .int .i64 0, .int .i64 0, .int .i64 0]).alloc (Obj.cells #[.slice A n c, .int .i64 0, .int .u64 0] 106)).dg hd1 (show w.heap.size ≠ (w.heap.size + 1) by have := Hgl.out; have := S1.out; omega))
  have R := NR; clear NR
  have Hc1 := Lib.hid (hc1.mono (j := 0 + 60) (by omega))
  have Hd1 := Lib.hid (((Hd.out.alloc (Obj.cells #[.int .i64 0, .int .i64 0, .int .i64 0, .int .i64 0, .int .i64 0] 29)).alloc (Obj.cells #[.slice A n c, .int .i64 0, .int .u64 0] 106)).trans hd1)
  clear hc1 hd1
  have qR0 := R.out.cell 0
  have qR1 := R.out.cell 1
  have qR2 := R.out.cell 2
  have qR3 := R.out.cell 3
  have qR4 := R.out.cell 4
  simp at qR0 qR1 qR2 qR3 qR4
  have qRl := R.out.lt
  have qRf := R.out.frozen
  go_wp2
  clear qR0 qR1 qR2 qR3 qR4 qRl qRf
  have HR9 := (show Blk (World.setCell (World.setCell (World.setCell (World.setCell (World.setCell w1 ⟨w.heap.size, 0, none⟩ (.int .i64 a)) ⟨w.heap.size, 1, none⟩ (.int .i64 b)) ⟨w.heap.size, 2, none⟩ (.int .i64 lo)) ⟨w.heap.size, 3, none⟩ (.int .i64 hi9)) ⟨w.heap.size, 4, none⟩ (.int .i64 t)) (w.heap.size) 29 #[.int .i64 a, .int .i64 b, .int .i64 lo, .int .i64 hi9, .int .i64 t] by have h9 := (((((R.out.set 0 (.int .i64 a)).set 1 (.int .i64 b)).set 2 (.int .i64 lo)).set 3 (.int .i64 hi9)).set 4 (.int .i64 t)); simpa using h9)
  have k0 := HR9.cell 0
  have k1 := HR9.cell 1
  have k2 := HR9.cell 2
  have k3 := HR9.cell 3
  have k4 := HR9.cell 4
  simp at k0 k1 k2 k3 k4
  exact bodyPost_ret (v := .agg #[.int .i64 a, .int .i64 b, .int .i64 lo, .int .i64 hi9, .int .i64 t]) (by simp [results, Tryz.results21, go_sem, k0, k1, k2, k3, k4]) rfl ⟨⟨a, b, lo, hi9, t, rfl⟩, (((((Hd1.out.st (p := ⟨w.heap.size, 0, none⟩) (show w.heap.size ≤ w.heap.size by have := Hgl.out; have := S1.out; omega) (.int .i64 a)).st (p := ⟨w.heap.size, 1, none⟩) (show w.heap.size ≤ w.heap.size by have := Hgl.out; have := S1.out; omega) (.int .i64 b)).st (p := ⟨w.heap.size, 2, none⟩) (show w.heap.size ≤ w.heap.size by have := Hgl.out; have := S1.out; omega) (.int .i64 lo)).st (p := ⟨w.heap.size, 3, none⟩) (show w.heap.size ≤ w.heap.size by have := Hgl.out; have := S1.out; omega) (.int .i64 hi9)).st (p := ⟨w.heap.size, 4, none⟩) (show w.heap.size ≤ w.heap.size by have := Hgl.out; have := S1.out; omega) (.int .i64 t)).below (by have := S1.out; omega) (Nat.le_refl _)⟩
set_option linter.unusedSimpArgs false in
set_option maxRecDepth 8000 in
set_option maxHeartbeats 16000000 in
theorem drawFind_any (A : Option Addr) (n c : Nat) (w : World) (hby : BytesAt w w.heap.size A n) :
    Calls Tryz.prog 7 #[.slice A n c] w fun e w' => RowC w' w.heap.size e ∧ Below w.heap.size w w' := by
  have Hb := Lib.hid hby; clear hby
  have Hgl := Lib.hid (Nat.le_refl w.heap.size)
  have Hd := Lib.hid (Dg.refl (w.heap.size + 1) w)
  go_enter Tryz.func7, Tryz.ntmps7
  go_wp2_with fail
  refine (catalogue_any (w.heap.size + 1) 0 _ (Cur.new1 Hb.out c _) (by omega)).mono ?_; rintro e w1 ⟨⟨v, m, hm, rfl, hv⟩, hc1, hd1⟩
  have S1 := Lib.hid (show w.heap.size + 2 ≤ w1.heap.size by have h9 := hd1.size; (try simp only [World.size_alloc, World.size_setCell] at h9); omega)
  have NR := Lib.hid (((Blk.new w 25 #[.int .i64 0, .int .i64 0]).alloc (Obj.cells #[.slice A n c, .int .i64 0, .int .u64 0] 106)).dg hd1 (show w.heap.size ≠ (w.heap.size + 1) by have := Hgl.out; have := S1.out; omega))
  have R := NR; clear NR
  have Hc1 := Lib.hid (hc1.mono (j := 0 + 500) (by omega))
  have Hd1 := Lib.hid (((Hd.out.alloc (Obj.cells #[.int .i64 0, .int .i64 0] 25)).alloc (Obj.cells #[.slice A n c, .int .i64 0, .int .u64 0] 106)).trans hd1)
  clear hc1 hd1
  have HV := Lib.hid (hv.mono (B' := w.heap.size + 2) (by simp)); have GHV := Lib.hid (IR.lt (hv.mono (B' := w.heap.size + 2) (by simp)))
  clear hv
  obtain ⟨A9, c9, rfl, hmc, hcm⟩ := HV.out.form
  unfold maxLen at hcm
  by_cases hm0 : 0 < m
  · obtain ⟨gl, cl, hfl, hgl1, hgl2, hmcl, hcml⟩ := HV.out.pos hm0
    injection hfl with hf1 hf2 hf3; subst hf1; subst hf3; clear hf2
    have hmi : (0 : Int) < (m : Int) := by omega
    go_wp2_with fail
    refine (one_any (w.heap.size + 1) (0 + 500) (2) _ Hc1.out (by omega)).mono ?_; rintro e w2 ⟨⟨o, rfl⟩, hc2, hd2⟩
    have S2 := Lib.hid (show w1.heap.size + 0 ≤ w2.heap.size by have h9 := hd2.size; (try simp only [World.size_alloc, World.size_setCell] at h9); omega)
    have NR := Lib.hid (R.out.dg hd2 (show w.heap.size ≠ (w.heap.size + 1) by have := Hgl.out; have := hgl1; have := S1.out; have := S2.out; omega))
    have R := NR; clear NR
    have HV := Lib.hid (HV.out.dg hd2 (show (w.heap.size + 1) < (w.heap.size + 2) by have := Hgl.out; have := hgl1; have := S1.out; have := S2.out; omega))
    have Hc2 := Lib.hid (hc2.mono (j := 0 + 502) (by omega))
    have Hd2 := Lib.hid (Hd1.out.trans hd2)
    clear hc2 hd2
    cases o
    · go_wp2_with fail
      refine (anyEntry_any (w.heap.size + 1) (0 + 502) _ Hc2.out (by omega)).mono ?_; rintro e w3 ⟨⟨a, b, lo, hi9, t, rfl⟩, hc3, hd3⟩
      have S3 := Lib.hid (show w2.heap.size + 0 ≤ w3.heap.size by have h9 := hd3.size; (try simp only [World.size_alloc, World.size_setCell] at h9); omega)
      have NR := Lib.hid (R.out.dg hd3 (show w.heap.size ≠ (w.heap.size + 1) by have := Hgl.out; have := hgl1; have := S1.out; have := S2.out; have := S3.out; omega))
      have R := NR; clear NR
      have HV := Lib.hid (HV.out.dg hd3 (show (w.heap.size + 1) < (w.heap.size + 2) by have := Hgl.out; have := hgl1; have := S1.out; have := S2.out; have := S3.out; omega))
      have Hc3 := Lib.hid (hc3.mono (j := 0 + 562) (by omega))
      have Hd3 := Lib.hid (Hd2.out.trans hd3)
      clear hc3 hd3
      have hfl := fieldCu a b lo hi9 t
      have qR0 := R.out.cell 0
      have qR1 := R.out.cell 1
      simp at qR0 qR1
      have qRl := R.out.lt
      have qRf := R.out.frozen
      go_wp2
      clear qR0 qR1 qRl qRf
      have HR9 := (show Blk (World.setCell (World.setCell w3 ⟨w.heap.size, 0, none⟩ (.int .i64 a)) ⟨w.heap.size, 1, none⟩ (.int .i64 b)) (w.heap.size) 25 #[.int .i64 a, .int .i64 b] by have h9 := ((R.out.set 0 (.int .i64 a)).set 1 (.int .i64 b)); simpa using h9)
      have k0 := HR9.cell 0
      have k1 := HR9.cell 1
      simp at k0 k1
      exact bodyPost_ret (v := .tuple #[.slice (some ⟨gl, 0, none⟩) m c9, .agg #[.int .i64 a, .int .i64 b]]) (by simp [results, Tryz.results7, go_sem, k0, k1]) rfl ⟨⟨.slice (some ⟨gl, 0, none⟩) m c9, m, a, b, hm, rfl, ((HV.out.st (p := ⟨w.heap.size, 0, none⟩) (by intro k9 hk9; have := GHV.out k9 hk9; show k9 ≠ w.heap.size; have := Hgl.out; have := hgl1; have := S1.out; have := S2.out; have := S3.out; omega) (.int .i64 a)).st (p := ⟨w.heap.size, 1, none⟩) (by intro k9 hk9; have := GHV.out k9 hk9; show k9 ≠ w.heap.size; have := Hgl.out; have := hgl1; have := S1.out; have := S2.out; have := S3.out; omega) (.int .i64 b)).mono (by omega)⟩, ((Hd3.out.st (p := ⟨w.heap.size, 0, none⟩) (show w.heap.size ≤ w.heap.size by have := Hgl.out; have := hgl1; have := S1.out; have := S2.out; have := S3.out; omega) (.int .i64 a)).st (p := ⟨w.heap.size, 1, none⟩) (show w.heap.size ≤ w.heap.size by have := Hgl.out; have := hgl1; have := S1.out; have := S2.out; have := S3.out; omega) (.int .i64 b)).below (by have := S1.out; have := S2.out; have := S3.out; omega) (Nat.le_refl _)⟩
    · have qR0 := R.out.cell 0
      have qR1 := R.out.cell 1
      simp at qR0 qR1
      have qRl := R.out.lt
      have qRf := R.out.frozen
      have hIR := HV.out
      have Hcu := Hc2.out
      go_wp2_with fail
      go_region_with (go_at_call 82; refine (pick_any (w.heap.size + 1) (0 + 502) (m : Int) _ (by first | exact Hcu | exact Hcu.on (Below.drew (Below.refl _ _)) | exact Hcu.on (Below.drew (Below.drew (Below.refl _ _)))) (by omega)).mono ?_; rintro e w9 ⟨⟨y, ly, uy, rfl⟩, hc9, hd9⟩; obtain ⟨y, rfl⟩ : ∃ q : Nat, y = (q : Int) := ⟨y.toNat, by omega⟩; have hym : y < m := (by omega); have hyi : (0 : Int) ≤ (y : Int) := (by omega); have hyj : (y : Int) < (m : Int) := (by omega); have hd8 : Dg (w.heap.size + 1) w2 w9 := (by first | exact (Dg.drew (Dg.refl _ _)).trans hd9 | exact hd9 | exact (Dg.drew (Dg.drew (Dg.refl _ _))).trans hd9); obtain ⟨u0, hu0⟩ := (hIR.dg hd8 (by omega)).cell (j := y * 5) (by omega); obtain ⟨u1, hu1⟩ := (hIR.dg hd8 (by omega)).cell (j := y * 5 + 1) (by omega); have hll := ((hIR.dg hd8 (by omega)).lt gl rfl).2; have qR9 := (R.out.dg hd8 (by omega)).frozen; have qRl9 := (R.out.dg hd8 (by omega)).lt; have hR9 := R.out.dg hd8 (by omega); have t0 := hR9.cell 0; have t1 := hR9.cell 1; simp at t0 t1; clear hR9)
      all_goals
        clear hIR Hcu hd9 hll qR9 qRl9 t0 t1 hu0 hu1 qR0 qR1 qRl qRf
        have R := Lib.hid (R.out.dg hd8 (by omega))
        have HV := Lib.hid (HV.out.dg hd8 (by omega))
        have Hd9 := Lib.hid (Hd2.out.trans hd8)
        have S9 := Lib.hid hd8.size
        clear hd8 hc9
        have HR9 := (show Blk (World.setCell (World.setCell w9 ⟨w.heap.size, 0, none⟩ (.int .i64 u0)) ⟨w.heap.size, 1, none⟩ (.int .i64 u1)) (w.heap.size) 25 #[.int .i64 u0, .int .i64 u1] by have h9 := ((R.out.set 0 (.int .i64 u0)).set 1 (.int .i64 u1)); simpa using h9)
        have k0 := HR9.cell 0
        have k1 := HR9.cell 1
        simp at k0 k1
        go_wp2
        exact bodyPost_ret (v := .tuple #[.slice (some ⟨gl, 0, none⟩) m c9, .agg #[.int .i64 u0, .int .i64 u1]]) (by simp [results, Tryz.results7, go_sem, k0, k1]) rfl ⟨⟨.slice (some ⟨gl, 0, none⟩) m c9, m, u0, u1, hm, rfl, ((HV.out.st (p := ⟨w.heap.size, 0, none⟩) (by intro k9 hk9; have := GHV.out k9 hk9; show k9 ≠ w.heap.size; have := Hgl.out; have := hgl1; have := S1.out; have := S2.out; have := S9.out; omega) (.int .i64 u0)).st (p := ⟨w.heap.size, 1, none⟩) (by intro k9 hk9; have := GHV.out k9 hk9; show k9 ≠ w.heap.size; have := Hgl.out; have := hgl1; have := S1.out; have := S2.out; have := S9.out; omega) (.int .i64 u1)).mono (by omega)⟩, ((Hd9.out.st (p := ⟨w.heap.size, 0, none⟩) (show w.heap.size ≤ w.heap.size by have := Hgl.out; have := hgl1; have := S1.out; have := S2.out; have := S9.out; omega) (.int .i64 u0)).st (p := ⟨w.heap.size, 1, none⟩) (show w.heap.size ≤ w.heap.size by have := Hgl.out; have := hgl1; have := S1.out; have := S2.out; have := S9.out; omega) (.int .i64 u1)).below (by have := S1.out; have := S2.out; have := S9.out; omega) (Nat.le_refl _)⟩
  · have hmi : ¬ (0 : Int) < (m : Int) := by omega
    go_wp2_with fail
    refine (anyEntry_any (w.heap.size + 1) (0 + 500) _ Hc1.out (by omega)).mono ?_; rintro e w4 ⟨⟨a, b, lo, hi9, t, rfl⟩, hc4, hd4⟩
    have S4 := Lib.hid (show w1.heap.size + 0 ≤ w4.heap.size by have h9 := hd4.size; (try simp only [World.size_alloc, World.size_setCell] at h9); omega)
    have NR := Lib.hid (R.out.dg hd4 (show w.heap.size ≠ (w.heap.size + 1) by have := Hgl.out; have := S1.out; have := S4.out; omega))
    have R := NR; clear NR
    have HV := Lib.hid (HV.out.dg hd4 (show (w.heap.size + 1) < (w.heap.size + 2) by have := Hgl.out; have := S1.out; have := S4.out; omega))
    have Hc4 := Lib.hid (hc4.mono (j := 0 + 560) (by omega))
    have Hd4 := Lib.hid (Hd1.out.trans hd4)
    clear hc4 hd4
    have hfl := fieldCu a b lo hi9 t
    have qR0 := R.out.cell 0
    have qR1 := R.out.cell 1
    simp at qR0 qR1
    have qRl := R.out.lt
    have qRf := R.out.frozen
    go_wp2
    clear qR0 qR1 qRl qRf
    have HR9 := (show Blk (World.setCell (World.setCell w4 ⟨w.heap.size, 0, none⟩ (.int .i64 a)) ⟨w.heap.size, 1, none⟩ (.int .i64 b)) (w.heap.size) 25 #[.int .i64 a, .int .i64 b] by have h9 := ((R.out.set 0 (.int .i64 a)).set 1 (.int .i64 b)); simpa using h9)
    have k0 := HR9.cell 0
    have k1 := HR9.cell 1
    simp at k0 k1
    exact bodyPost_ret (v := .tuple #[.slice A9 m c9, .agg #[.int .i64 a, .int .i64 b]]) (by simp [results, Tryz.results7, go_sem, k0, k1]) rfl ⟨⟨.slice A9 m c9, m, a, b, hm, rfl, ((HV.out.st (p := ⟨w.heap.size, 0, none⟩) (by intro k9 hk9; have := GHV.out k9 hk9; show k9 ≠ w.heap.size; have := Hgl.out; have := S1.out; have := S4.out; omega) (.int .i64 a)).st (p := ⟨w.heap.size, 1, none⟩) (by intro k9 hk9; have := GHV.out k9 hk9; show k9 ≠ w.heap.size; have := Hgl.out; have := S1.out; have := S4.out; omega) (.int .i64 b)).mono (by omega)⟩, ((Hd4.out.st (p := ⟨w.heap.size, 0, none⟩) (show w.heap.size ≤ w.heap.size by have := Hgl.out; have := S1.out; have := S4.out; omega) (.int .i64 a)).st (p := ⟨w.heap.size, 1, none⟩) (show w.heap.size ≤ w.heap.size by have := Hgl.out; have := S1.out; have := S4.out; omega) (.int .i64 b)).below (by have := S1.out; have := S4.out; omega) (Nat.le_refl _)⟩
set_option linter.unusedSimpArgs false in
set_option maxRecDepth 8000 in
set_option maxHeartbeats 16000000 in
theorem drawPc_any (A : Option Addr) (n c : Nat) (w : World) (hby : BytesAt w w.heap.size A n) :
    Calls Tryz.prog 18 #[.slice A n c] w fun e w' => (∃ s : ByteArray, s.size ≤ 700000 ∧ e = .returned (.string s)) ∧ Below w.heap.size w w' := by
  have Hb := Lib.hid hby; clear hby
  have Hgl := Lib.hid (Nat.le_refl w.heap.size)
  have Hd := Lib.hid (Dg.refl w.heap.size w)
  go_enter Tryz.func18, Tryz.ntmps18
  go_wp2_with fail
  refine (catalogue_any w.heap.size 0 _ (Cur.new0 Hb.out c) (by omega)).mono ?_; rintro e w1 ⟨⟨v, m, hm, rfl, hv⟩, hc1, hd1⟩
  have S1 := Lib.hid (show w.heap.size + 1 ≤ w1.heap.size by have h9 := hd1.size; (try simp only [World.size_alloc, World.size_setCell] at h9); omega)
  have Hc1 := Lib.hid (hc1.mono (j := 0 + 500) (by omega))
  have Hd1 := Lib.hid ((Hd.out.alloc _).trans hd1)
  clear hc1 hd1
  obtain ⟨ls, -, ol⟩ := hv.en
  have Hrd := Lib.hid (Rd.of_own (S := enS) ol rfl)
  clear hv ol hm
  go_wp2_with fail
  refine (caGood_any _ ls _ Hrd.out).mono ?_; rintro e w2 ⟨rfl, hd2⟩
  have Hrd2 := Lib.hid (Hrd.out.on hd2)
  have S2 := Lib.hid (show w1.heap.size + 0 ≤ w2.heap.size by have h9 := hd2.size; (try simp only [World.size_alloc, World.size_setCell] at h9); omega)
  have Hc2 := Lib.hid (Hc1.out.on hd2)
  have Hd2 := Lib.hid (Hd1.out.trans (Dg.of_below (g := w.heap.size) hd2))
  clear hd2
  cases hg : catB ls
  · clear hg
    go_wp2_with fail
    refine (of_blk w.heap.size (0 + 500) (w2.heap.size) [(⟨#[]⟩ : ByteArray), (⟨#[10]⟩ : ByteArray), (⟨#[45, 49, 54, 32, 49, 54, 32, 49, 46, 46, 49, 32, 49]⟩ : ByteArray), (⟨#[49, 32, 49, 32, 48, 46, 46, 49, 32, 48, 10, 49, 32, 49, 32, 48, 46, 46, 49, 32, 48, 10]⟩ : ByteArray), (⟨#[49, 32, 49, 32, 50, 46, 46, 49, 32, 48, 10]⟩ : ByteArray), (⟨#[49, 32, 49, 32, 48, 46, 49, 32, 48, 10]⟩ : ByteArray)] 6 rfl _ (Blk.new w2 _ _) (Hc2.out.alloc _) (by have := Hgl.out; have := S1.out; have := S2.out; omega) (by simp) (by simp) (by omega)).mono ?_; rintro e w3 ⟨⟨s, hs, rfl⟩, hc3, hd3⟩
    have hss : s.size ≤ 700000 := by have h9 : ∀ y ∈ [(⟨#[]⟩ : ByteArray), (⟨#[10]⟩ : ByteArray), (⟨#[45, 49, 54, 32, 49, 54, 32, 49, 46, 46, 49, 32, 49]⟩ : ByteArray), (⟨#[49, 32, 49, 32, 48, 46, 46, 49, 32, 48, 10, 49, 32, 49, 32, 48, 46, 46, 49, 32, 48, 10]⟩ : ByteArray), (⟨#[49, 32, 49, 32, 50, 46, 46, 49, 32, 48, 10]⟩ : ByteArray), (⟨#[49, 32, 49, 32, 48, 46, 49, 32, 48, 10]⟩ : ByteArray)], y.size ≤ 700000 := by decide
                                     exact h9 s hs
    clear hs
    have S3 := Lib.hid (show w2.heap.size + 1 ≤ w3.heap.size by have h9 := hd3.size; (try simp only [World.size_alloc, World.size_setCell] at h9); omega)
    have Hc3 := Lib.hid (hc3.mono (j := 0 + 502) (by omega))
    have Hd3 := Lib.hid ((Hd2.out.alloc _).trans hd3)
    clear hc3 hd3
    go_wp2
    go_ret
    exact ⟨⟨s, hss, rfl⟩, Hd3.out.below (by have := S1.out; have := S2.out; have := S3.out; omega) (Nat.le_refl _)⟩
  · obtain ⟨hl12, hall⟩ := catB_all9 hg
    clear hg
    go_wp2_with fail
    refine (caText_any _ ls _ Hrd2.out hl12 hall).mono ?_; rintro e w4 ⟨rfl, hd4⟩
    have S4 := Lib.hid (show w2.heap.size + 0 ≤ w4.heap.size by have h9 := hd4.size; (try simp only [World.size_alloc, World.size_setCell] at h9); omega)
    have Hc4 := Lib.hid (Hc2.out.on hd4)
    have Hd4 := Lib.hid (Hd2.out.trans (Dg.of_below (g := w.heap.size) hd4))
    clear hd4
    have hts := catT_size ls hall ls.length (Nat.le_refl _)
    generalize catT ls ls.length = s at hts ⊢
    go_wp2_with fail
    refine (one_any w.heap.size (0 + 500) (3) _ Hc4.out (by omega)).mono ?_; rintro e w5 ⟨⟨o, rfl⟩, hc5, hd5⟩
    have S5 := Lib.hid (show w4.heap.size + 0 ≤ w5.heap.size by have h9 := hd5.size; (try simp only [World.size_alloc, World.size_setCell] at h9); omega)
    have Hc5 := Lib.hid (hc5.mono (j := 0 + 502) (by omega))
    have Hd5 := Lib.hid (Hd4.out.trans hd5)
    clear hc5 hd5
    cases o
    · go_wp2
      go_ret
      exact ⟨⟨s, by omega, rfl⟩, Hd5.out.below (by have := S1.out; have := S2.out; have := S4.out; have := S5.out; omega) (Nat.le_refl _)⟩
    · go_wp2_with fail
      refine (spoilt_any w.heap.size (0 + 502) s ⟨#[45, 48, 49, 57, 46, 32, 10]⟩ _ Hc5.out (by omega) (by decide) (by decide) (by omega)).mono ?_; rintro e w6 ⟨⟨s2, hs2, rfl⟩, hc6, hd6⟩
      have S6 := Lib.hid (show w5.heap.size + 0 ≤ w6.heap.size by have h9 := hd6.size; (try simp only [World.size_alloc, World.size_setCell] at h9); omega)
      have Hc6 := Lib.hid (hc6.mono (j := 0 + 522) (by omega))
      have Hd6 := Lib.hid (Hd5.out.trans hd6)
      clear hc6 hd6
      go_wp2
      go_ret
      exact ⟨⟨s2, by omega, rfl⟩, Hd6.out.below (by have := S1.out; have := S2.out; have := S4.out; have := S5.out; have := S6.out; omega) (Nat.le_refl _)⟩
end
section
open Go Go.RowKit

theorem qEnE_same (u v : Value) (es : List En) (w : World) (hu : Rd enS w w.heap.size u es) (hv : Rd enS w w.heap.size v es) :
    Calls Tryz.prog 22 #[u, v] w fun r w' => r = .returned (.bool true) ∧ Below w.heap.size w w' := by
  have h := qEn_any u v es es w hu hv
  rwa [decide_eq_true rfl] at h
theorem neqEnE_self (u : En) (W : World) : (binOp .neq 29 (.agg #[.int .i64 u.a, .int .i64 u.b, .int .i64 u.lo, .int .i64 u.hi, .int .i64 u.«to»]) (.agg #[.int .i64 u.a, .int .i64 u.b, .int .i64 u.lo, .int .i64 u.hi, .int .i64 u.«to»])).run Tryz.prog W = .ok (.bool false) W := by
  rw [neqEn, decide_eq_true rfl]; rfl
theorem neqCuE {a b x y : Int} (h1 : a = x) (h2 : b = y) (W : World) : (binOp .neq 25 (.agg #[.int .i64 a, .int .i64 b]) (.agg #[.int .i64 x, .int .i64 y])).run Tryz.prog W = .ok (.bool false) W := by
  subst h1 h2
  have h := neqCu ⟨a, b⟩ ⟨a, b⟩ W
  rw [decide_eq_true rfl] at h
  exact h
theorem isCatE_is (v : Value) (es : List En) (k : Bool) (w : World) (e : catB es = k) (h : Rd enS w w.heap.size v es) :
    Calls Tryz.prog 24 #[v] w fun e w' => e = .returned (.bool k) ∧ Below w.heap.size w w' := by
  subst e
  go_enter Tryz.func24, Tryz.ntmps24
  go_wp2_with (go_at_call 91; refine (isCatalogue_any _ _ _ h).mono ?_; rintro e w' ⟨rfl, hb1⟩)
  go_ret
  exact ⟨rfl, by (repeat (with_reducible first | exact Below.refl _ _ | assumption | refine bal ?_ _ | refine bst ?_ (by simp <;> omega) _ | refine Below.drew ?_ | refine bthen ?_ (by assumption)))⟩
theorem specIsEn_is (a b lo hi t : Int) (k : Bool) (w : World) (e : entB a b lo hi t = k) :
    Calls Tryz.prog 26 #[.agg #[.int .i64 a, .int .i64 b, .int .i64 lo, .int .i64 hi, .int .i64 t]] w fun e w' => e = .returned (.bool k) ∧ Below w.heap.size w w' := by
  subst e
  go_enter Tryz.func26, Tryz.ntmps26
  go_wp2_with (go_at_call 105; refine (caEntry_any _ _ _ _ _ _).mono ?_; rintro e w' ⟨rfl, hb1⟩)
  go_ret
  exact ⟨rfl, by (repeat (with_reducible first | exact Below.refl _ _ | assumption | refine bal ?_ _ | refine bst ?_ (by simp <;> omega) _ | refine Below.drew ?_ | refine bthen ?_ (by assumption)))⟩
theorem implIsEn_is (a b lo hi t : Int) (k : Bool) (w : World) (e : entB a b lo hi t = k) :
    Calls Tryz.prog 25 #[.agg #[.int .i64 a, .int .i64 b, .int .i64 lo, .int .i64 hi, .int .i64 t]] w fun e w' => e = .returned (.bool k) ∧ Below w.heap.size w w' := by
  subst e
  go_enter Tryz.func25, Tryz.ntmps25
  go_wp2_with (go_at_call 104; refine (isEntry_any _ _ _ _ _ _).mono ?_; rintro e w' ⟨rfl, hb1⟩)
  go_ret
  exact ⟨rfl, by (repeat (with_reducible first | exact Below.refl _ _ | assumption | refine bal ?_ _ | refine bst ?_ (by simp <;> omega) _ | refine Below.drew ?_ | refine bthen ?_ (by assumption)))⟩
theorem catV_ok (es : List En) : (catV es).2 = catB es := by unfold catV; cases catB es <;> rfl
theorem ranks_ok (es : List En) : (ranksV es).2 = catB es := by unfold ranksV; cases catB es <;> rfl
theorem implCatText_is (v : Value) (es : List En) (k : Bool) (w : World) (e : catB es = k) (h : Rd enS w w.heap.size v es) (htab : Tab w) :
    Calls Tryz.prog 16 #[v] w fun e w' => e = .returned (.tuple #[.string (catV es).1, .bool k]) ∧ Below w.heap.size w w' := by
  have h2 := implCatText_any v es w h htab
  rwa [catV_ok, e] at h2
theorem specCatText_is (v : Value) (es : List En) (k : Bool) (w : World) (e : catB es = k) (h : Rd enS w w.heap.size v es) :
    Calls Tryz.prog 17 #[v] w fun e w' => e = .returned (.tuple #[.string (catV es).1, .bool k]) ∧ Below w.heap.size w w' := by
  have h2 := specCatText_any v es w h
  rwa [catV_ok, e] at h2
theorem PcRet.at {s : ByteArray} {base : Nat} {e : Ending} {w' : World} {es : List En} {k : Bool} (h : PcRet s base e w') (hp : pkV s = (es, k)) : ∃ v : Value, e = .returned (.tuple #[v, .bool k]) ∧ w'.ownsRow base 29 5 v es.length (enS.flat es) := by
  unfold PcRet at h
  rwa [hp] at h
theorem cat_text {es : List En} (h : catB es = true) : pkV (catV es).1 = (es, true) ∧ (catV es).1.size ≤ 700000 := by
  have h1 : (catV es).1 = catT es es.length := by unfold catV; rw [h]; rfl
  rw [h1]
  obtain ⟨h2, h3⟩ := catB_all9 h
  have h4 := catT_size es h3 es.length (Nat.le_refl _)
  exact ⟨text_back h, by omega⟩
theorem rk_get {es : List En} (k : Nat) {l : List Int} (h : rkN es k = l) (hk : k ≤ 12) {j : Nat} (hj : j < l.length) : 0 ≤ l[j] ∧ l[j] ≤ 12 := by
  have := rk_bd es k j
  rw [h, List.getD_eq_getElem?_getD, List.getElem?_eq_getElem hj] at this
  simp only [Option.getD_some] at this
  omega
theorem sumN_bd {l : List Int} (h : ∀ j (hj : j < l.length), 0 ≤ l[j] ∧ l[j] ≤ 12) : ∀ k, k ≤ l.length → 0 ≤ sumN l k ∧ sumN l k ≤ 12 * (k : Int)
  | 0, _ => by unfold sumN; simp
  | k + 1, hk => by
    have ih := sumN_bd h k (by omega)
    have := h k (by omega)
    rw [sumN_succ (by omega)]
    omega
end
section
open Go Go.RowKit

set_option maxRecDepth 8000 in
set_option maxHeartbeats 16000000 in
theorem fnEntries_walk (A : Option Addr) (n c : Nat) (B : Option Addr) (m d : Nat) (w : World) (ha : BytesAt w w.heap.size A n) (hb : BytesAt w w.heap.size B m) (he : Env w) :
    Calls Tryz.prog 3 #[.slice A n c, .slice B m d] w fun e w' => e = .returned (.bool true) ∧ Below w.heap.size w w' := by
  have Ha := Lib.hid ha; have Hb := Lib.hid hb; have He := Lib.hid he; clear ha hb he
  by_cases hbig : 1048576 < wrap64 ((n : Int) + (m : Int))
  · go_enter Tryz.func3, Tryz.ntmps3
    go_wp2
    go_ret
    exact ⟨rfl, Below.refl _ _⟩
  · go_enter Tryz.func3, Tryz.ntmps3
    go_wp2_with fail
    refine (drawFind_any A n c _ (Ha.out.on (Below.refl _ _))).mono ?_; rintro e w1 ⟨⟨v1, m1, x, y, hm1, rfl, hv1⟩, hb1⟩
    clear hbig
    obtain ⟨ls, -, ol⟩ := hv1.en
    obtain ⟨Al, cl, rfl, -, -, -⟩ := Rd.of_own (S := enS) ol rfl
    clear hv1 hm1
    have OL := Lib.hid ol
    have GOL := Lib.hid (World.ownsRow.lt ol)
    clear ol
    replace He := Lib.hid (He.out.on (hb1))
    have sz1 := Lib.hid (show w.heap.size + 0 ≤ w1.heap.size by have := hb1.size; (try simp only [World.size_alloc] at this); omega)
    have Hb1 := Lib.hid (bthen (Below.refl _ _) hb1)
    clear hb1
    obtain ⟨three, h3⟩ : ∃ k, catB ls = k := ⟨_, rfl⟩
    have H3 := Lib.hid h3; clear h3
    go_wp2_with fail
    refine (implFind_any _ ls x y _ ((Rd.of_own OL.out rfl).on (bal (Below.refl _ _) _))).mono ?_; rintro e w2 ⟨⟨f, ok, rfl, hf⟩, hb2⟩
    replace He := Lib.hid (He.out.on (bthen (bal (Below.refl _ _) _) hb2))
    replace OL := Lib.hid (own_below OL.out (bthen (bal (Below.refl _ _) _) hb2))
    have cb := Lib.hid ((Blk.new w1 25 #[.int .i64 x, .int .i64 y]).on hb2)
    have sz2 := Lib.hid (show w1.heap.size + 1 ≤ w2.heap.size by have := hb2.size; (try simp only [World.size_alloc] at this); omega)
    have Hb2 := Lib.hid (bthen (bal (Hb1.out) _) hb2)
    clear hb2
    have Hf := Lib.hid hf; clear hf
    have qcb_0 : w2.cell? ⟨w1.heap.size, 0, none⟩ = some (.int .i64 x) := cb.out.cell 0
    have qcb_1 : w2.cell? ⟨w1.heap.size, 1, none⟩ = some (.int .i64 y) := cb.out.cell 1
    have qcb_l := cb.out.lt
    go_wp2_with fail
    clear qcb_0 qcb_1 qcb_l
    refine (specFind_any _ ls x y _ ((Rd.of_own OL.out rfl).on (bal (Below.refl _ _) _))).mono ?_; rintro e w3 ⟨⟨f2, ok2, rfl, hf2⟩, hb3⟩
    replace He := Lib.hid (He.out.on (bthen (bal (Below.refl _ _) _) hb3))
    replace OL := Lib.hid (own_below OL.out (bthen (bal (Below.refl _ _) _) hb3))
    replace cb := Lib.hid (cb.out.on (bthen (bal (Below.refl _ _) _) hb3))
    have fb := Lib.hid ((Blk.new w2 29 #[.int .i64 f.a, .int .i64 f.b, .int .i64 f.lo, .int .i64 f.hi, .int .i64 f.«to»]).on hb3)
    have sz3 := Lib.hid (show w2.heap.size + 1 ≤ w3.heap.size by have := hb3.size; (try simp only [World.size_alloc] at this); omega)
    have Hb3 := Lib.hid (bthen (bal (Hb2.out) _) hb3)
    clear hb3
    obtain ⟨rfl, rfl⟩ := Prod.mk.inj (Hf.out.symm.trans hf2); clear hf2
    have qcb_0 : w3.cell? ⟨w1.heap.size, 0, none⟩ = some (.int .i64 x) := cb.out.cell 0
    have qcb_1 : w3.cell? ⟨w1.heap.size, 1, none⟩ = some (.int .i64 y) := cb.out.cell 1
    have qcb_l := cb.out.lt
    go_wp2_with fail
    clear qcb_0 qcb_1 qcb_l
    refine (implDrop_any _ ls x y _ ((Rd.of_own OL.out rfl).on (bal (Below.refl _ _) _))).mono ?_; rintro e w4 ⟨⟨vd, dl, one, rfl, hd, od⟩, hb4⟩
    have OD := Lib.hid od
    have GOD := Lib.hid (World.ownsRow.lt od)
    clear od
    replace He := Lib.hid (He.out.on (bthen (bal (Below.refl _ _) _) hb4))
    replace OL := Lib.hid (own_below OL.out (bthen (bal (Below.refl _ _) _) hb4))
    replace cb := Lib.hid (cb.out.on (bthen (bal (Below.refl _ _) _) hb4))
    replace fb := Lib.hid (fb.out.on (bthen (bal (Below.refl _ _) _) hb4))
    have gb := Lib.hid ((Blk.new w3 29 #[.int .i64 f.a, .int .i64 f.b, .int .i64 f.lo, .int .i64 f.hi, .int .i64 f.«to»]).on hb4)
    have sz4 := Lib.hid (show w3.heap.size + 1 ≤ w4.heap.size by have := hb4.size; (try simp only [World.size_alloc] at this); omega)
    have Hb4 := Lib.hid (bthen (bal (Hb3.out) _) hb4)
    clear hb4
    have Hd := Lib.hid hd; clear hd
    have qcb_0 : w4.cell? ⟨w1.heap.size, 0, none⟩ = some (.int .i64 x) := cb.out.cell 0
    have qcb_1 : w4.cell? ⟨w1.heap.size, 1, none⟩ = some (.int .i64 y) := cb.out.cell 1
    have qcb_l := cb.out.lt
    go_wp2_with fail
    clear qcb_0 qcb_1 qcb_l
    refine (specDrop_any _ ls x y _ (Rd.of_own OL.out rfl)).mono ?_; rintro e w5 ⟨⟨ve, dl2, one2, rfl, hd2, oe⟩, hb5⟩
    have OE := Lib.hid oe
    have GOE := Lib.hid (World.ownsRow.lt oe)
    clear oe
    replace He := Lib.hid (He.out.on (hb5))
    replace OL := Lib.hid (own_below OL.out (hb5))
    replace cb := Lib.hid (cb.out.on (hb5))
    replace fb := Lib.hid (fb.out.on (hb5))
    replace gb := Lib.hid (gb.out.on (hb5))
    replace OD := Lib.hid (own_below OD.out (hb5))
    have sz5 := Lib.hid (show w4.heap.size + 0 ≤ w5.heap.size by have := hb5.size; (try simp only [World.size_alloc] at this); omega)
    have Hb5 := Lib.hid (bthen (Hb4.out) hb5)
    clear hb5
    obtain ⟨rfl, rfl⟩ := Prod.mk.inj (Hd.out.symm.trans hd2); clear hd2
    obtain rfl : one = ok := by have h9 := drop_find (l := ls) (a := x) (b := y); rw [Hd.out, Hf.out] at h9; exact h9
    go_wp2_with fail
    refine (implRanks_any _ ls _ (Rd.of_own OL.out rfl)).mono ?_; rintro e w6 ⟨⟨vr, rk, b3, rfl, hr, orr⟩, hb6⟩
    have OR := Lib.hid orr
    have GOR := Lib.hid (World.ownsRow.lt orr)
    clear orr
    replace He := Lib.hid (He.out.on (hb6))
    replace OL := Lib.hid (own_below OL.out (hb6))
    replace cb := Lib.hid (cb.out.on (hb6))
    replace fb := Lib.hid (fb.out.on (hb6))
    replace gb := Lib.hid (gb.out.on (hb6))
    replace OD := Lib.hid (own_below OD.out (hb6))
    replace OE := Lib.hid (own_below OE.out (hb6))
    have sz6 := Lib.hid (show w5.heap.size + 0 ≤ w6.heap.size by have := hb6.size; (try simp only [World.size_alloc] at this); omega)
    have Hb6 := Lib.hid (bthen (Hb5.out) hb6)
    clear hb6
    have Hr := Lib.hid hr; clear hr
    go_wp2_with fail
    refine (specRanks_any _ ls _ (Rd.of_own OL.out rfl)).mono ?_; rintro e w7 ⟨⟨vs, rk2, b4, rfl, hr2, os⟩, hb7⟩
    have OS := Lib.hid os
    have GOS := Lib.hid (World.ownsRow.lt os)
    clear os
    replace He := Lib.hid (He.out.on (hb7))
    replace OL := Lib.hid (own_below OL.out (hb7))
    replace cb := Lib.hid (cb.out.on (hb7))
    replace fb := Lib.hid (fb.out.on (hb7))
    replace gb := Lib.hid (gb.out.on (hb7))
    replace OD := Lib.hid (own_below OD.out (hb7))
    replace OE := Lib.hid (own_below OE.out (hb7))
    replace OR := Lib.hid (own_below OR.out (hb7))
    have sz7 := Lib.hid (show w6.heap.size + 0 ≤ w7.heap.size by have := hb7.size; (try simp only [World.size_alloc] at this); omega)
    have Hb7 := Lib.hid (bthen (Hb6.out) hb7)
    clear hb7
    obtain ⟨rfl, rfl⟩ := Prod.mk.inj (Hr.out.symm.trans hr2); clear hr2
    obtain rfl : b3 = three := by have h9 := ranks_ok ls; rw [Hr.out, H3.out] at h9; exact h9
    go_wp2_with fail
    refine (implWidest_any _ ls _ (Rd.of_own OL.out rfl)).mono ?_; rintro e w8 ⟨⟨g, five, rfl, hg⟩, hb8⟩
    replace He := Lib.hid (He.out.on (hb8))
    replace OL := Lib.hid (own_below OL.out (hb8))
    replace cb := Lib.hid (cb.out.on (hb8))
    replace fb := Lib.hid (fb.out.on (hb8))
    replace gb := Lib.hid (gb.out.on (hb8))
    replace OD := Lib.hid (own_below OD.out (hb8))
    replace OE := Lib.hid (own_below OE.out (hb8))
    replace OR := Lib.hid (own_below OR.out (hb8))
    replace OS := Lib.hid (own_below OS.out (hb8))
    have sz8 := Lib.hid (show w7.heap.size + 0 ≤ w8.heap.size by have := hb8.size; (try simp only [World.size_alloc] at this); omega)
    have Hb8 := Lib.hid (bthen (Hb7.out) hb8)
    clear hb8
    have Hg := Lib.hid hg; clear hg
    go_wp2_with fail
    refine (specWidest_any _ ls _ ((Rd.of_own OL.out rfl).on (bal (Below.refl _ _) _))).mono ?_; rintro e w9 ⟨⟨g2, five2, rfl, hg2⟩, hb9⟩
    replace He := Lib.hid (He.out.on (bthen (bal (Below.refl _ _) _) hb9))
    replace OL := Lib.hid (own_below OL.out (bthen (bal (Below.refl _ _) _) hb9))
    replace cb := Lib.hid (cb.out.on (bthen (bal (Below.refl _ _) _) hb9))
    replace fb := Lib.hid (fb.out.on (bthen (bal (Below.refl _ _) _) hb9))
    replace gb := Lib.hid (gb.out.on (bthen (bal (Below.refl _ _) _) hb9))
    replace OD := Lib.hid (own_below OD.out (bthen (bal (Below.refl _ _) _) hb9))
    replace OE := Lib.hid (own_below OE.out (bthen (bal (Below.refl _ _) _) hb9))
    replace OR := Lib.hid (own_below OR.out (bthen (bal (Below.refl _ _) _) hb9))
    replace OS := Lib.hid (own_below OS.out (bthen (bal (Below.refl _ _) _) hb9))
    have wb := Lib.hid ((Blk.new w8 29 #[.int .i64 g.a, .int .i64 g.b, .int .i64 g.lo, .int .i64 g.hi, .int .i64 g.«to»]).on hb9)
    have sz9 := Lib.hid (show w8.heap.size + 1 ≤ w9.heap.size by have := hb9.size; (try simp only [World.size_alloc] at this); omega)
    have Hb9 := Lib.hid (bthen (bal (Hb8.out) _) hb9)
    clear hb9
    obtain ⟨rfl, rfl⟩ := Prod.mk.inj (Hg.out.symm.trans hg2); clear hg2
    go_wp2_with fail
    refine (implCatText_is _ ls b3 _ H3.out ((Rd.of_own OL.out rfl).on (bal (Below.refl _ _) _)) (He.out.on (bal (Below.refl _ _) _)).tab).mono ?_; rintro e w10 ⟨rfl, hb10⟩
    replace He := Lib.hid (He.out.on (bthen (bal (Below.refl _ _) _) hb10))
    replace OL := Lib.hid (own_below OL.out (bthen (bal (Below.refl _ _) _) hb10))
    replace cb := Lib.hid (cb.out.on (bthen (bal (Below.refl _ _) _) hb10))
    replace fb := Lib.hid (fb.out.on (bthen (bal (Below.refl _ _) _) hb10))
    replace gb := Lib.hid (gb.out.on (bthen (bal (Below.refl _ _) _) hb10))
    replace OD := Lib.hid (own_below OD.out (bthen (bal (Below.refl _ _) _) hb10))
    replace OE := Lib.hid (own_below OE.out (bthen (bal (Below.refl _ _) _) hb10))
    replace OR := Lib.hid (own_below OR.out (bthen (bal (Below.refl _ _) _) hb10))
    replace OS := Lib.hid (own_below OS.out (bthen (bal (Below.refl _ _) _) hb10))
    replace wb := Lib.hid (wb.out.on (bthen (bal (Below.refl _ _) _) hb10))
    have vb := Lib.hid ((Blk.new w9 29 #[.int .i64 g.a, .int .i64 g.b, .int .i64 g.lo, .int .i64 g.hi, .int .i64 g.«to»]).on hb10)
    have sz10 := Lib.hid (show w9.heap.size + 1 ≤ w10.heap.size by have := hb10.size; (try simp only [World.size_alloc] at this); omega)
    have Hb10 := Lib.hid (bthen (bal (Hb9.out) _) hb10)
    clear hb10
    go_wp2_with fail
    refine (specCatText_is _ ls b3 _ H3.out (Rd.of_own OL.out rfl)).mono ?_; rintro e w11 ⟨rfl, hb11⟩
    replace He := Lib.hid (He.out.on (hb11))
    replace OL := Lib.hid (own_below OL.out (hb11))
    replace cb := Lib.hid (cb.out.on (hb11))
    replace fb := Lib.hid (fb.out.on (hb11))
    replace gb := Lib.hid (gb.out.on (hb11))
    replace OD := Lib.hid (own_below OD.out (hb11))
    replace OE := Lib.hid (own_below OE.out (hb11))
    replace OR := Lib.hid (own_below OR.out (hb11))
    replace OS := Lib.hid (own_below OS.out (hb11))
    replace wb := Lib.hid (wb.out.on (hb11))
    replace vb := Lib.hid (vb.out.on (hb11))
    have sz11 := Lib.hid (show w10.heap.size + 0 ≤ w11.heap.size by have := hb11.size; (try simp only [World.size_alloc] at this); omega)
    have Hb11 := Lib.hid (bthen (Hb10.out) hb11)
    clear hb11
    have Htx := Lib.hid (fun h => cat_text (es := ls) h)
    generalize (catV ls).1 = tx at Htx ⊢
    go_wp2_with fail
    refine (drawPc_any B m d _ (Hb.out.on (Hb11.out))).mono ?_; rintro e w12 ⟨⟨s, hs, rfl⟩, hb12⟩
    replace He := Lib.hid (He.out.on (hb12))
    replace OL := Lib.hid (own_below OL.out (hb12))
    replace cb := Lib.hid (cb.out.on (hb12))
    replace fb := Lib.hid (fb.out.on (hb12))
    replace gb := Lib.hid (gb.out.on (hb12))
    replace OD := Lib.hid (own_below OD.out (hb12))
    replace OE := Lib.hid (own_below OE.out (hb12))
    replace OR := Lib.hid (own_below OR.out (hb12))
    replace OS := Lib.hid (own_below OS.out (hb12))
    replace wb := Lib.hid (wb.out.on (hb12))
    replace vb := Lib.hid (vb.out.on (hb12))
    have sz12 := Lib.hid (show w11.heap.size + 0 ≤ w12.heap.size by have := hb12.size; (try simp only [World.size_alloc] at this); omega)
    have Hb12 := Lib.hid (bthen (Hb11.out) hb12)
    clear hb12
    obtain ⟨pl, pk, hpk⟩ : ∃ pl pk, pkV s = (pl, pk) := ⟨_, _, rfl⟩
    have Hpk := Lib.hid hpk; clear hpk
    go_wp2_with fail
    refine (implPc_any s _ (by omega) He.out).mono ?_; rintro e w13 ⟨hr9, hb13⟩; obtain ⟨vp, rfl, op⟩ := hr9.at Hpk.out; clear hr9
    have Op := Lib.hid op
    have GOp := Lib.hid (World.ownsRow.lt op)
    clear op
    replace He := Lib.hid (He.out.on (hb13))
    replace OL := Lib.hid (own_below OL.out (hb13))
    replace cb := Lib.hid (cb.out.on (hb13))
    replace fb := Lib.hid (fb.out.on (hb13))
    replace gb := Lib.hid (gb.out.on (hb13))
    replace OD := Lib.hid (own_below OD.out (hb13))
    replace OE := Lib.hid (own_below OE.out (hb13))
    replace OR := Lib.hid (own_below OR.out (hb13))
    replace OS := Lib.hid (own_below OS.out (hb13))
    replace wb := Lib.hid (wb.out.on (hb13))
    replace vb := Lib.hid (vb.out.on (hb13))
    have sz13 := Lib.hid (show w12.heap.size + 0 ≤ w13.heap.size by have := hb13.size; (try simp only [World.size_alloc] at this); omega)
    have Hb13 := Lib.hid (bthen (Hb12.out) hb13)
    clear hb13
    go_wp2_with fail
    refine (specPc_any s _ (by omega)).mono ?_; rintro e w14 ⟨hr9, hb14⟩; obtain ⟨vq, rfl, oq⟩ := hr9.at Hpk.out; clear hr9
    have Oq := Lib.hid oq
    have GOq := Lib.hid (World.ownsRow.lt oq)
    clear oq
    replace He := Lib.hid (He.out.on (hb14))
    replace OL := Lib.hid (own_below OL.out (hb14))
    replace cb := Lib.hid (cb.out.on (hb14))
    replace fb := Lib.hid (fb.out.on (hb14))
    replace gb := Lib.hid (gb.out.on (hb14))
    replace OD := Lib.hid (own_below OD.out (hb14))
    replace OE := Lib.hid (own_below OE.out (hb14))
    replace OR := Lib.hid (own_below OR.out (hb14))
    replace OS := Lib.hid (own_below OS.out (hb14))
    replace wb := Lib.hid (wb.out.on (hb14))
    replace vb := Lib.hid (vb.out.on (hb14))
    replace Op := Lib.hid (own_below Op.out (hb14))
    have sz14 := Lib.hid (show w13.heap.size + 0 ≤ w14.heap.size by have := hb14.size; (try simp only [World.size_alloc] at this); omega)
    have Hb14 := Lib.hid (bthen (Hb13.out) hb14)
    clear hb14
    go_wp2_with fail
    refine (drawIsEntry_any B m d _ (Hb.out.on (Hb14.out))).mono ?_; rintro e w15 ⟨⟨e0, e1, e2, e3, e4, rfl⟩, hb15⟩
    replace He := Lib.hid (He.out.on (hb15))
    replace OL := Lib.hid (own_below OL.out (hb15))
    replace cb := Lib.hid (cb.out.on (hb15))
    replace fb := Lib.hid (fb.out.on (hb15))
    replace gb := Lib.hid (gb.out.on (hb15))
    replace OD := Lib.hid (own_below OD.out (hb15))
    replace OE := Lib.hid (own_below OE.out (hb15))
    replace OR := Lib.hid (own_below OR.out (hb15))
    replace OS := Lib.hid (own_below OS.out (hb15))
    replace wb := Lib.hid (wb.out.on (hb15))
    replace vb := Lib.hid (vb.out.on (hb15))
    replace Op := Lib.hid (own_below Op.out (hb15))
    replace Oq := Lib.hid (own_below Oq.out (hb15))
    have sz15 := Lib.hid (show w14.heap.size + 0 ≤ w15.heap.size by have := hb15.size; (try simp only [World.size_alloc] at this); omega)
    have Hb15 := Lib.hid (bthen (Hb14.out) hb15)
    clear hb15
    obtain ⟨ie, hie⟩ : ∃ k, entB e0 e1 e2 e3 e4 = k := ⟨_, rfl⟩
    have Hie := Lib.hid hie; clear hie
    have hql1 := neqEnE_self f
    have hql2 := neqEnE_self g
    as_aux_lemma =>
      have hD : Rd enS (w15.alloc (Obj.cells #[.int .i64 e0, .int .i64 e1, .int .i64 e2, .int .i64 e3, .int .i64 e4] 29)) (w15.alloc (Obj.cells #[.int .i64 e0, .int .i64 e1, .int .i64 e2, .int .i64 e3, .int .i64 e4] 29)).heap.size (vd) dl := (Rd.of_own (S := enS) OD.out rfl).on (bal (Below.refl _ _) _)
      have hE : Rd enS (w15.alloc (Obj.cells #[.int .i64 e0, .int .i64 e1, .int .i64 e2, .int .i64 e3, .int .i64 e4] 29)) (w15.alloc (Obj.cells #[.int .i64 e0, .int .i64 e1, .int .i64 e2, .int .i64 e3, .int .i64 e4] 29)).heap.size (ve) dl := (Rd.of_own (S := enS) OE.out rfl).on (bal (Below.refl _ _) _)
      have hP : Rd enS (w15.alloc (Obj.cells #[.int .i64 e0, .int .i64 e1, .int .i64 e2, .int .i64 e3, .int .i64 e4] 29)) (w15.alloc (Obj.cells #[.int .i64 e0, .int .i64 e1, .int .i64 e2, .int .i64 e3, .int .i64 e4] 29)).heap.size (vp) pl := (Rd.of_own (S := enS) Op.out rfl).on (bal (Below.refl _ _) _)
      have hQ : Rd enS (w15.alloc (Obj.cells #[.int .i64 e0, .int .i64 e1, .int .i64 e2, .int .i64 e3, .int .i64 e4] 29)) (w15.alloc (Obj.cells #[.int .i64 e0, .int .i64 e1, .int .i64 e2, .int .i64 e3, .int .i64 e4] 29)).heap.size (vq) pl := (Rd.of_own (S := enS) Oq.out rfl).on (bal (Below.refl _ _) _)
      have hL : Rd enS (w15.alloc (Obj.cells #[.int .i64 e0, .int .i64 e1, .int .i64 e2, .int .i64 e3, .int .i64 e4] 29)) (w15.alloc (Obj.cells #[.int .i64 e0, .int .i64 e1, .int .i64 e2, .int .i64 e3, .int .i64 e4] 29)).heap.size (.slice Al ls.length cl) ls := (Rd.of_own (S := enS) OL.out rfl).on (bal (Below.refl _ _) _)
      have hR9 : Rd inS (w15.alloc (Obj.cells #[.int .i64 e0, .int .i64 e1, .int .i64 e2, .int .i64 e3, .int .i64 e4] 29)) (w15.alloc (Obj.cells #[.int .i64 e0, .int .i64 e1, .int .i64 e2, .int .i64 e3, .int .i64 e4] 29)).heap.size (vr) rk := (Rd.of_own (S := inS) OR.out rfl).on (bal (Below.refl _ _) _)
      have hS9 : Rd inS (w15.alloc (Obj.cells #[.int .i64 e0, .int .i64 e1, .int .i64 e2, .int .i64 e3, .int .i64 e4] 29)) (w15.alloc (Obj.cells #[.int .i64 e0, .int .i64 e1, .int .i64 e2, .int .i64 e3, .int .i64 e4] 29)).heap.size (vs) rk := (Rd.of_own (S := inS) OS.out rfl).on (bal (Below.refl _ _) _)
      have qfb_0 : w15.cell? ⟨w2.heap.size, 0, none⟩ = some (.int .i64 f.a) := fb.out.cell 0
      have qfb_1 : w15.cell? ⟨w2.heap.size, 1, none⟩ = some (.int .i64 f.b) := fb.out.cell 1
      have qfb_2 : w15.cell? ⟨w2.heap.size, 2, none⟩ = some (.int .i64 f.lo) := fb.out.cell 2
      have qfb_3 : w15.cell? ⟨w2.heap.size, 3, none⟩ = some (.int .i64 f.hi) := fb.out.cell 3
      have qfb_4 : w15.cell? ⟨w2.heap.size, 4, none⟩ = some (.int .i64 f.«to») := fb.out.cell 4
      have qfb_l := fb.out.lt
      have qgb_0 : w15.cell? ⟨w3.heap.size, 0, none⟩ = some (.int .i64 f.a) := gb.out.cell 0
      have qgb_1 : w15.cell? ⟨w3.heap.size, 1, none⟩ = some (.int .i64 f.b) := gb.out.cell 1
      have qgb_2 : w15.cell? ⟨w3.heap.size, 2, none⟩ = some (.int .i64 f.lo) := gb.out.cell 2
      have qgb_3 : w15.cell? ⟨w3.heap.size, 3, none⟩ = some (.int .i64 f.hi) := gb.out.cell 3
      have qgb_4 : w15.cell? ⟨w3.heap.size, 4, none⟩ = some (.int .i64 f.«to») := gb.out.cell 4
      have qgb_l := gb.out.lt
      have qwb_0 : w15.cell? ⟨w8.heap.size, 0, none⟩ = some (.int .i64 g.a) := wb.out.cell 0
      have qwb_1 : w15.cell? ⟨w8.heap.size, 1, none⟩ = some (.int .i64 g.b) := wb.out.cell 1
      have qwb_2 : w15.cell? ⟨w8.heap.size, 2, none⟩ = some (.int .i64 g.lo) := wb.out.cell 2
      have qwb_3 : w15.cell? ⟨w8.heap.size, 3, none⟩ = some (.int .i64 g.hi) := wb.out.cell 3
      have qwb_4 : w15.cell? ⟨w8.heap.size, 4, none⟩ = some (.int .i64 g.«to») := wb.out.cell 4
      have qwb_l := wb.out.lt
      have qvb_0 : w15.cell? ⟨w9.heap.size, 0, none⟩ = some (.int .i64 g.a) := vb.out.cell 0
      have qvb_1 : w15.cell? ⟨w9.heap.size, 1, none⟩ = some (.int .i64 g.b) := vb.out.cell 1
      have qvb_2 : w15.cell? ⟨w9.heap.size, 2, none⟩ = some (.int .i64 g.lo) := vb.out.cell 2
      have qvb_3 : w15.cell? ⟨w9.heap.size, 3, none⟩ = some (.int .i64 g.hi) := vb.out.cell 3
      have qvb_4 : w15.cell? ⟨w9.heap.size, 4, none⟩ = some (.int .i64 g.«to») := vb.out.cell 4
      have qvb_l := vb.out.lt
      go_wp2_with fail
      refine wp_region_tame (by kernel_rfl) (by kernel_rfl) (fun T _ W hT => ?_)
      have hx := hT.cell
      simp only [List.append_eq, List.cons_append, List.nil_append]
      repeat (go_big_quiet_step ((first | (go_at_call 22; exact hT.call (qEnE_same _ _ dl _ (hD.on (hT.below _)) (hE.on (hT.below _)))) | (go_at_call 22; exact hT.call (qEnE_same _ _ pl _ (hP.on (hT.below _)) (hQ.on (hT.below _)))) | (go_at_call 23; exact hT.call (qIn_same _ _ rk _ (hR9.on (hT.below _)) (hS9.on (hT.below _)))) | (go_at_call 24; exact hT.call (isCatE_is _ ls b3 _ H3.out (hL.on (hT.below _)))) | (go_at_call 25; exact hT.call (implIsEn_is _ _ _ _ _ ie _ Hie.out)) | (go_at_call 26; exact hT.call (specIsEn_is _ _ _ _ _ ie _ Hie.out)))))
      refine wpQuiet_nil ?_
      intro tt
      clear hx
      have hb16 := hT.below tt
      generalize W tt = w16 at hb16 ⊢
      clear hT
      clear qfb_0 qfb_1 qfb_2 qfb_3 qfb_4 qfb_l qgb_0 qgb_1 qgb_2 qgb_3 qgb_4 qgb_l qwb_0 qwb_1 qwb_2 qwb_3 qwb_4 qwb_l qvb_0 qvb_1 qvb_2 qvb_3 qvb_4 qvb_l
      clear hD hE hP hQ hL hR9 hS9
      replace He := Lib.hid (He.out.on (bthen (bal (Below.refl _ _) _) hb16))
      replace OL := Lib.hid (own_below OL.out (bthen (bal (Below.refl _ _) _) hb16))
      replace cb := Lib.hid (cb.out.on (bthen (bal (Below.refl _ _) _) hb16))
      replace fb := Lib.hid (fb.out.on (bthen (bal (Below.refl _ _) _) hb16))
      replace gb := Lib.hid (gb.out.on (bthen (bal (Below.refl _ _) _) hb16))
      replace OD := Lib.hid (own_below OD.out (bthen (bal (Below.refl _ _) _) hb16))
      replace OE := Lib.hid (own_below OE.out (bthen (bal (Below.refl _ _) _) hb16))
      replace OR := Lib.hid (own_below OR.out (bthen (bal (Below.refl _ _) _) hb16))
      replace OS := Lib.hid (own_below OS.out (bthen (bal (Below.refl _ _) _) hb16))
      replace wb := Lib.hid (wb.out.on (bthen (bal (Below.refl _ _) _) hb16))
      replace vb := Lib.hid (vb.out.on (bthen (bal (Below.refl _ _) _) hb16))
      replace Op := Lib.hid (own_below Op.out (bthen (bal (Below.refl _ _) _) hb16))
      replace Oq := Lib.hid (own_below Oq.out (bthen (bal (Below.refl _ _) _) hb16))
      have eb := Lib.hid ((Blk.new w15 29 #[.int .i64 e0, .int .i64 e1, .int .i64 e2, .int .i64 e3, .int .i64 e4]).on hb16)
      have sz16 := Lib.hid (show w15.heap.size + 1 ≤ w16.heap.size by have := hb16.size; (try simp only [World.size_alloc] at this); omega)
      have Hb16 := Lib.hid (bthen (bal (Hb15.out) _) hb16)
      clear hb16
      clear Op
      clear Oq
      clear eb
      clear Hpk Hie hql1 hql2
      as_aux_lemma =>
        cases one
        · clear GOL sz1 Hb1 sz2 Hb2 sz3 GOD Hb3 sz4 GOE Hb4 sz5 GOR Hb5 sz6 GOS Hb6 sz7 Hb7 sz8 Hb8 sz9 Hb9 sz10 Hb10 sz11 Hb11 sz12 GOp Hb12 sz13 GOq Hb13 sz14 Hb14 sz15 Hb15 sz16
          cases b3
          · go_wp2
            go_ret
            exact ⟨rfl, Hb16.out⟩
          · as_aux_lemma =>
              have hok := cat_good H3.out
              have hl12 := (cat_ok H3.out).1
              have Hok := Lib.hid hok; clear hok
              have Hrk := Lib.hid (show rkN ls ls.length = rk by have h9 := Hr.out; rw [ranksV_ok H3.out] at h9; exact (Prod.mk.inj h9).1)
              have Hbd := Lib.hid (fun j (hj : j < rk.length) => rk_get ls.length Hrk.out hl12 hj)
              have hrl : rk.length = 21 := by rw [← Hrk.out]; exact rk_len ls _
              obtain ⟨htx1, htx2⟩ := Htx.out H3.out
              have Htx1 := Lib.hid htx1; clear htx1 Htx
              have Hw := Lib.hid (wid_law H3.out)
              clear cb
              clear fb
              clear gb
              clear wb
              clear OD
              clear OE
              clear OR
              obtain ⟨Ar, cr, rfl, hcr, hmr, hAr⟩ := Rd.of_own (S := inS) OS.out rfl; unfold maxLen at hmr
              obtain ⟨gr, fr, rfl, hgr, hcell⟩ := hAr (by omega)
              have hcell := in_cells hcell
              clear hAr
              have Hcell := Lib.hid hcell; clear hcell
              go_wp2
              go_loopw [37, 250] (fun s i wr => ∃ j : Nat, j ≤ rk.length ∧ i = .int .i64 (j : Nat) ∧ s = .int .i64 (sumN rk j) ∧ Below w16.heap.size w16 wr) (fun _ i _ => rk.length - (intOf i).toNat)
              case atStart => exact ⟨0, Nat.zero_le _, rfl, rfl, Below.refl _ _⟩
              case round =>
                obtain ⟨j, hj, rfl, rfl, hbi⟩ := hrel
                by_cases hjl : j < rk.length
                · have hb1 := sumN_bd Hbd.out j hj
                  have hb2 := Hbd.out j hjl
                  have f0 := Hcell.out j hjl
                  rw [← hbi.cell (p := ⟨_, _, _⟩) hgr] at f0
                  have hgt : inS.get rk j = rk[j] := by unfold Shape.get; rw [List.getD_eq_getElem?_getD, List.getElem?_eq_getElem hjl]; rfl
                  rw [hgt] at f0
                  have Hsum := Lib.hid (sumN_succ hjl)
                  generalize rk[j] = z at f0 hb2 Hsum
                  generalize sumN rk j = s0 at hb1 Hsum ⊢
                  clear hgt
                  obtain ⟨hb10, hb11⟩ := hb1; obtain ⟨hb20, hb21⟩ := hb2
                  have hg9 : gr < wr.heap.size := Nat.lt_of_lt_of_le hgr hbi.size
                  have hi0 : (0 : Int) ≤ (j : Int) := by omega
                  have hi1 : (j : Int) < (rk.length : Int) := by omega
                  go_wp2
                  go_roundw
                  case rel => exact ⟨j + 1, by omega, by go_num, by rw [Hsum.out], hbi⟩
                  case measure => simp [intOf]; omega
                · obtain rfl : j = rk.length := by omega
                  as_aux_lemma =>
                    have HS := Lib.hid (show sumN rk rk.length = exN ls ls.length by rw [sumN_all, ← Hrk.out]; exact rk_sum Hok.out _ (Nat.le_refl _))
                    rw [HS.out]
                    clear hj hjl HS Hcell hgr Hbd
                    have Hbi := Lib.hid (bthen Hb16.out hbi); replace OL := Lib.hid (own_below OL.out hbi); replace vb := Lib.hid (vb.out.on hbi); replace He := Lib.hid (He.out.on hbi); clear hbi OS
                    generalize wr = wz at Hbi OL vb He ⊢
                    have Hrl := Lib.hid (Rd.of_own (S := enS) OL.out rfl)
                    have Hex := Lib.hid (exN_bd ls)
                    go_wp2
                    go_loopw [40, 260] (fun s i wr => ∃ j : Nat, j ≤ ls.length ∧ i = .int .i64 (j : Nat) ∧ s = .int .i64 (exN ls j) ∧ Below wz.heap.size wz wr) (fun _ i _ => ls.length - (intOf i).toNat)
                    case atStart => exact ⟨0, Nat.zero_le _, rfl, rfl, Below.refl _ _⟩
                    case round =>
                      obtain ⟨j, hj, rfl, rfl, hbi⟩ := hrel
                      by_cases hjl : j < ls.length
                      · obtain ⟨A9, c9, h9, -, -, hA9⟩ := Hrl.out
                        injection h9 with h91 h92 h93; subst h91; subst h93; clear h92
                        obtain ⟨g9, f9, rfl, hg9, hcell⟩ := hA9 (by omega)
                        obtain ⟨f0, f1, f2, f3, f4⟩ := en_cells hcell j hjl
                        clear hA9 hcell
                        rw [← hbi.cell (p := ⟨_, _, _⟩) hg9] at f0 f1 f2 f3 f4
                        have hv1 := (vb.out.on hbi).cell 2; have hv2 := (vb.out.on hbi).cell 3; have hvl := (vb.out.on hbi).lt
                        simp at hv1 hv2
                        have hwd := (Hw.out.1 (by omega)).symm.trans Hg.out
                        obtain ⟨hg9a, hg9b⟩ := Prod.mk.inj hwd
                        have h5 : five = true := hg9b.symm
                        subst h5
                        have hwide := best_wide (es := ls) ls.length j hjl
                        rw [hg9a] at hwide
                        clear hwd hg9a hg9b
                        have hbx := okAt_bd (Hok.out j hjl)
                        have hbg : 0 ≤ g.lo ∧ g.lo ≤ g.hi ∧ g.hi ≤ 20 := by have h9 := bestAt_bd Hok.out (by omega) ls.length (Nat.le_refl _); rw [show bestAt ls ls.length = g from (Prod.mk.inj ((Hw.out.1 (by omega)).symm.trans Hg.out)).1] at h9; exact h9
                        have hex := Hex.out j
                        have Hes := Lib.hid (show exN ls (j + 1) = if (enS.get ls j).lo = (enS.get ls j).hi then exN ls j + 1 else exN ls j from rfl)
                        generalize enS.get ls j = z at f0 f1 f2 f3 f4 hwide hbx Hes
                        generalize exN ls j = x0 at hex Hes ⊢
                        obtain ⟨hbx0, hbx1, hbx2⟩ := hbx; obtain ⟨hbg0, hbg1, hbg2⟩ := hbg; obtain ⟨hex0, hex1⟩ := hex
                        have hgr9 : g9 < wr.heap.size := Nat.lt_of_lt_of_le hg9 hbi.size
                        have hi0 : (0 : Int) ≤ (j : Int) := by omega
                        have hi1 : (j : Int) < (ls.length : Int) := by omega
                        have hno : ¬ (g.hi - g.lo < z.hi - z.lo) := by omega
                        by_cases hlh : z.lo = z.hi
                        · have hd : decide (z.lo = z.hi) = true := decide_eq_true hlh
                          have Hn := Lib.hid (Hes.out.trans (if_pos hlh))
                          have hbq : (z.lo == z.hi) = true := by rw [hlh]; simp
                          clear hlh
                          go_wp2
                          go_roundw
                          case rel => exact ⟨j + 1, by omega, by go_num, by rw [Hn.out], by (repeat (with_reducible first | exact Below.refl _ _ | assumption | refine bal ?_ _ | refine bst ?_ (by simp <;> omega) _ | refine Below.drew ?_ | refine bthen ?_ (by assumption)))⟩
                          case measure => simp [intOf]; omega
                        · have hd : decide (z.lo = z.hi) = false := decide_eq_false hlh
                          have Hn := Lib.hid (Hes.out.trans (if_neg hlh))
                          have hbq : (z.lo == z.hi) = false := beq_eq_false_iff_ne.2 hlh
                          go_wp2
                          go_roundw
                          case rel => exact ⟨j + 1, by omega, by go_num, by rw [Hn.out], by (repeat (with_reducible first | exact Below.refl _ _ | assumption | refine bal ?_ _ | refine bst ?_ (by simp <;> omega) _ | refine Below.drew ?_ | refine bthen ?_ (by assumption)))⟩
                          case measure => simp [intOf]; omega
                      · obtain rfl : j = ls.length := by omega
                        have HbT := Lib.hid (bthen Hbi.out hbi); replace OL := Lib.hid (own_below OL.out hbi); replace He := Lib.hid (He.out.on hbi); clear hbi hj hjl Hrl vb
                        generalize exN ls ls.length = ex
                        go_wp2_with fail
                        refine (implPc_any tx _ (by omega) He.out).mono ?_; rintro e w17 ⟨hr9, hb17⟩; obtain ⟨vt, rfl, ot⟩ := hr9.at Htx1.out; clear hr9
                        have Ot := Lib.hid ot
                        have GOt := Lib.hid (World.ownsRow.lt ot)
                        clear ot
                        replace He := Lib.hid (He.out.on (hb17))
                        replace OL := Lib.hid (own_below OL.out (hb17))
                        have sz17 := Lib.hid (show wr.heap.size + 0 ≤ w17.heap.size by have := hb17.size; (try simp only [World.size_alloc] at this); omega)
                        have Hb17 := Lib.hid (bthen (HbT.out) hb17)
                        clear hb17
                        go_wp2_with fail
                        refine (qEnE_same _ _ ls _ (Rd.of_own Ot.out rfl) (Rd.of_own OL.out rfl)).mono ?_; rintro e w18 ⟨rfl, hb18⟩
                        replace He := Lib.hid (He.out.on (hb18))
                        replace OL := Lib.hid (own_below OL.out (hb18))
                        replace Ot := Lib.hid (own_below Ot.out (hb18))
                        have sz18 := Lib.hid (show w17.heap.size + 0 ≤ w18.heap.size by have := hb18.size; (try simp only [World.size_alloc] at this); omega)
                        have Hb18 := Lib.hid (bthen (Hb17.out) hb18)
                        clear hb18
                        have hfv : five = decide (0 < ls.length) := by
                          rcases Nat.eq_zero_or_pos ls.length with h0 | h0
                          · rw [decide_eq_false (by omega)]; exact (Prod.mk.inj ((Hw.out.2 h0).symm.trans Hg.out)).2.symm
                          · rw [decide_eq_true h0]; exact (Prod.mk.inj ((Hw.out.1 h0).symm.trans Hg.out)).2.symm
                        subst hfv
                        by_cases h0 : 0 < ls.length
                        · have h0i : (0 : Int) < (ls.length : Int) := by omega
                          have h0d : decide (0 < ls.length) = true := decide_eq_true h0
                          rw [h0d]
                          go_wp2
                          go_ret
                          exact ⟨rfl, Hb18.out⟩
                        · have h0i : ¬ (0 : Int) < (ls.length : Int) := by omega
                          have h0d : decide (0 < ls.length) = false := decide_eq_false h0
                          rw [h0d]
                          go_wp2
                          go_ret
                          exact ⟨rfl, Hb18.out⟩
        · obtain ⟨f9, hff, hfa, hfb, hdl, htg, hnf, -⟩ := cut_law Hd.out
          obtain rfl : f = f9 := (Prod.mk.inj (Hf.out.symm.trans hff)).1
          clear hff
          have hneq := neqCuE hfa hfb
          have Htg := Lib.hid htg; have Hnf := Lib.hid hnf; clear htg hnf hfa hfb
          have qcb_0 : w16.cell? ⟨w1.heap.size, 0, none⟩ = some (.int .i64 x) := cb.out.cell 0
          have qcb_1 : w16.cell? ⟨w1.heap.size, 1, none⟩ = some (.int .i64 y) := cb.out.cell 1
          have qcb_l := cb.out.lt
          go_wp2_with fail
          clear qcb_0 qcb_1 qcb_l
          refine (implFind_any _ dl x y _ (Rd.of_own OD.out rfl)).mono ?_; rintro e w17 ⟨⟨u, uk, rfl, hu⟩, hb17⟩
          replace He := Lib.hid (He.out.on (hb17))
          replace OL := Lib.hid (own_below OL.out (hb17))
          replace cb := Lib.hid (cb.out.on (hb17))
          replace fb := Lib.hid (fb.out.on (hb17))
          replace gb := Lib.hid (gb.out.on (hb17))
          replace OD := Lib.hid (own_below OD.out (hb17))
          replace OE := Lib.hid (own_below OE.out (hb17))
          replace OR := Lib.hid (own_below OR.out (hb17))
          replace OS := Lib.hid (own_below OS.out (hb17))
          replace wb := Lib.hid (wb.out.on (hb17))
          replace vb := Lib.hid (vb.out.on (hb17))
          have sz17 := Lib.hid (show w16.heap.size + 0 ≤ w17.heap.size by have := hb17.size; (try simp only [World.size_alloc] at this); omega)
          have Hb17 := Lib.hid (bthen (Hb16.out) hb17)
          clear hb17
          obtain rfl : uk = false := by have h9 := Hnf.out; rw [hu] at h9; exact h9
          clear hu
          have qfb_0 : w17.cell? ⟨w2.heap.size, 0, none⟩ = some (.int .i64 f.a) := fb.out.cell 0
          have qfb_1 : w17.cell? ⟨w2.heap.size, 1, none⟩ = some (.int .i64 f.b) := fb.out.cell 1
          have qfb_2 : w17.cell? ⟨w2.heap.size, 2, none⟩ = some (.int .i64 f.lo) := fb.out.cell 2
          have qfb_3 : w17.cell? ⟨w2.heap.size, 3, none⟩ = some (.int .i64 f.hi) := fb.out.cell 3
          have qfb_4 : w17.cell? ⟨w2.heap.size, 4, none⟩ = some (.int .i64 f.«to») := fb.out.cell 4
          have qfb_l := fb.out.lt
          go_wp2_with fail
          clear qfb_0 qfb_1 qfb_2 qfb_3 qfb_4 qfb_l
          refine (implTight_any _ dl f _ ((Rd.of_own OD.out rfl).on (bal (Below.refl _ _) _))).mono ?_; rintro e w18 ⟨⟨vk, bk, is, rfl, hk, ok9⟩, hb18⟩
          have OK := Lib.hid ok9
          have GOK := Lib.hid (World.ownsRow.lt ok9)
          clear ok9
          replace He := Lib.hid (He.out.on (bthen (bal (Below.refl _ _) _) hb18))
          replace OL := Lib.hid (own_below OL.out (bthen (bal (Below.refl _ _) _) hb18))
          replace cb := Lib.hid (cb.out.on (bthen (bal (Below.refl _ _) _) hb18))
          replace fb := Lib.hid (fb.out.on (bthen (bal (Below.refl _ _) _) hb18))
          replace gb := Lib.hid (gb.out.on (bthen (bal (Below.refl _ _) _) hb18))
          replace OD := Lib.hid (own_below OD.out (bthen (bal (Below.refl _ _) _) hb18))
          replace OE := Lib.hid (own_below OE.out (bthen (bal (Below.refl _ _) _) hb18))
          replace OR := Lib.hid (own_below OR.out (bthen (bal (Below.refl _ _) _) hb18))
          replace OS := Lib.hid (own_below OS.out (bthen (bal (Below.refl _ _) _) hb18))
          replace wb := Lib.hid (wb.out.on (bthen (bal (Below.refl _ _) _) hb18))
          replace vb := Lib.hid (vb.out.on (bthen (bal (Below.refl _ _) _) hb18))
          have ub := Lib.hid ((Blk.new w17 29 #[.int .i64 u.a, .int .i64 u.b, .int .i64 u.lo, .int .i64 u.hi, .int .i64 u.«to»]).on hb18)
          have sz18 := Lib.hid (show w17.heap.size + 1 ≤ w18.heap.size by have := hb18.size; (try simp only [World.size_alloc] at this); omega)
          have Hb18 := Lib.hid (bthen (bal (Hb17.out) _) hb18)
          clear hb18
          obtain ⟨rfl, rfl⟩ := Prod.mk.inj (Htg.out.symm.trans hk); clear hk
          obtain ⟨Ae, ce, rfl, -, -, -⟩ := Rd.of_own (S := enS) OE.out rfl
          have hsb : (dl.length : Int) = (ls.length : Int) - 1 := by omega
          have hsn : ((dl.length : Int) != (ls.length : Int) - 1) = false := by simp; omega
          go_wp2_with fail
          refine (qEnE_same _ _ ls _ (Rd.of_own OK.out rfl) (Rd.of_own OL.out rfl)).mono ?_; rintro e w19 ⟨rfl, hb19⟩
          replace He := Lib.hid (He.out.on (hb19))
          replace OL := Lib.hid (own_below OL.out (hb19))
          replace cb := Lib.hid (cb.out.on (hb19))
          replace fb := Lib.hid (fb.out.on (hb19))
          replace gb := Lib.hid (gb.out.on (hb19))
          replace OD := Lib.hid (own_below OD.out (hb19))
          replace OE := Lib.hid (own_below OE.out (hb19))
          replace OR := Lib.hid (own_below OR.out (hb19))
          replace OS := Lib.hid (own_below OS.out (hb19))
          replace wb := Lib.hid (wb.out.on (hb19))
          replace vb := Lib.hid (vb.out.on (hb19))
          replace ub := Lib.hid (ub.out.on (hb19))
          replace OK := Lib.hid (own_below OK.out (hb19))
          have sz19 := Lib.hid (show w18.heap.size + 0 ≤ w19.heap.size by have := hb19.size; (try simp only [World.size_alloc] at this); omega)
          have Hb19 := Lib.hid (bthen (Hb18.out) hb19)
          clear hb19
          have hd12 := dropG_len dl true Hd.out
          have qgb_0 : w19.cell? ⟨w3.heap.size, 0, none⟩ = some (.int .i64 f.a) := gb.out.cell 0
          have qgb_1 : w19.cell? ⟨w3.heap.size, 1, none⟩ = some (.int .i64 f.b) := gb.out.cell 1
          have qgb_2 : w19.cell? ⟨w3.heap.size, 2, none⟩ = some (.int .i64 f.lo) := gb.out.cell 2
          have qgb_3 : w19.cell? ⟨w3.heap.size, 3, none⟩ = some (.int .i64 f.hi) := gb.out.cell 3
          have qgb_4 : w19.cell? ⟨w3.heap.size, 4, none⟩ = some (.int .i64 f.«to») := gb.out.cell 4
          have qgb_l := gb.out.lt
          have qcb_0 : w19.cell? ⟨w1.heap.size, 0, none⟩ = some (.int .i64 x) := cb.out.cell 0
          have qcb_1 : w19.cell? ⟨w1.heap.size, 1, none⟩ = some (.int .i64 y) := cb.out.cell 1
          have qcb_l := cb.out.lt
          clear Htg Hnf
          clear ub
          clear OK
          clear GOL sz1 Hb1 sz2 Hb2 sz3 GOD Hb3 sz4 GOE Hb4 sz5 GOR Hb5 sz6 GOS Hb6 sz7 Hb7 sz8 Hb8 sz9 Hb9 sz10 Hb10 sz11 Hb11 sz12 GOp Hb12 sz13 GOq Hb13 sz14 Hb14 sz15 Hb15 sz16 Hb16 sz17 GOK Hb17 sz18 Hb18 sz19
          cases b3
          · go_wp2
            go_ret
            exact ⟨rfl, Hb19.out⟩
          · as_aux_lemma =>
              have hok := cat_good H3.out
              have hl12 := (cat_ok H3.out).1
              have Hok := Lib.hid hok; clear hok
              have Hrk := Lib.hid (show rkN ls ls.length = rk by have h9 := Hr.out; rw [ranksV_ok H3.out] at h9; exact (Prod.mk.inj h9).1)
              have Hbd := Lib.hid (fun j (hj : j < rk.length) => rk_get ls.length Hrk.out hl12 hj)
              have hrl : rk.length = 21 := by rw [← Hrk.out]; exact rk_len ls _
              obtain ⟨htx1, htx2⟩ := Htx.out H3.out
              have Htx1 := Lib.hid htx1; clear htx1 Htx
              have Hw := Lib.hid (wid_law H3.out)
              clear cb
              clear fb
              clear gb
              clear wb
              clear OD
              clear OE
              clear OR
              obtain ⟨Ar, cr, rfl, hcr, hmr, hAr⟩ := Rd.of_own (S := inS) OS.out rfl; unfold maxLen at hmr
              obtain ⟨gr, fr, rfl, hgr, hcell⟩ := hAr (by omega)
              have hcell := in_cells hcell
              clear hAr
              have Hcell := Lib.hid hcell; clear hcell
              go_wp2
              go_loopw [37, 250] (fun s i wr => ∃ j : Nat, j ≤ rk.length ∧ i = .int .i64 (j : Nat) ∧ s = .int .i64 (sumN rk j) ∧ Below w19.heap.size w19 wr) (fun _ i _ => rk.length - (intOf i).toNat)
              case atStart => exact ⟨0, Nat.zero_le _, rfl, rfl, Below.refl _ _⟩
              case round =>
                obtain ⟨j, hj, rfl, rfl, hbi⟩ := hrel
                by_cases hjl : j < rk.length
                · have hb1 := sumN_bd Hbd.out j hj
                  have hb2 := Hbd.out j hjl
                  have f0 := Hcell.out j hjl
                  rw [← hbi.cell (p := ⟨_, _, _⟩) hgr] at f0
                  have hgt : inS.get rk j = rk[j] := by unfold Shape.get; rw [List.getD_eq_getElem?_getD, List.getElem?_eq_getElem hjl]; rfl
                  rw [hgt] at f0
                  have Hsum := Lib.hid (sumN_succ hjl)
                  generalize rk[j] = z at f0 hb2 Hsum
                  generalize sumN rk j = s0 at hb1 Hsum ⊢
                  clear hgt
                  obtain ⟨hb10, hb11⟩ := hb1; obtain ⟨hb20, hb21⟩ := hb2
                  have hg9 : gr < wr.heap.size := Nat.lt_of_lt_of_le hgr hbi.size
                  have hi0 : (0 : Int) ≤ (j : Int) := by omega
                  have hi1 : (j : Int) < (rk.length : Int) := by omega
                  go_wp2
                  go_roundw
                  case rel => exact ⟨j + 1, by omega, by go_num, by rw [Hsum.out], hbi⟩
                  case measure => simp [intOf]; omega
                · obtain rfl : j = rk.length := by omega
                  as_aux_lemma =>
                    have HS := Lib.hid (show sumN rk rk.length = exN ls ls.length by rw [sumN_all, ← Hrk.out]; exact rk_sum Hok.out _ (Nat.le_refl _))
                    rw [HS.out]
                    clear hj hjl HS Hcell hgr Hbd
                    have Hbi := Lib.hid (bthen Hb19.out hbi); replace OL := Lib.hid (own_below OL.out hbi); replace vb := Lib.hid (vb.out.on hbi); replace He := Lib.hid (He.out.on hbi); clear hbi OS
                    generalize wr = wz at Hbi OL vb He ⊢
                    have Hrl := Lib.hid (Rd.of_own (S := enS) OL.out rfl)
                    have Hex := Lib.hid (exN_bd ls)
                    go_wp2
                    go_loopw [40, 260] (fun s i wr => ∃ j : Nat, j ≤ ls.length ∧ i = .int .i64 (j : Nat) ∧ s = .int .i64 (exN ls j) ∧ Below wz.heap.size wz wr) (fun _ i _ => ls.length - (intOf i).toNat)
                    case atStart => exact ⟨0, Nat.zero_le _, rfl, rfl, Below.refl _ _⟩
                    case round =>
                      obtain ⟨j, hj, rfl, rfl, hbi⟩ := hrel
                      by_cases hjl : j < ls.length
                      · obtain ⟨A9, c9, h9, -, -, hA9⟩ := Hrl.out
                        injection h9 with h91 h92 h93; subst h91; subst h93; clear h92
                        obtain ⟨g9, f9, rfl, hg9, hcell⟩ := hA9 (by omega)
                        obtain ⟨f0, f1, f2, f3, f4⟩ := en_cells hcell j hjl
                        clear hA9 hcell
                        rw [← hbi.cell (p := ⟨_, _, _⟩) hg9] at f0 f1 f2 f3 f4
                        have hv1 := (vb.out.on hbi).cell 2; have hv2 := (vb.out.on hbi).cell 3; have hvl := (vb.out.on hbi).lt
                        simp at hv1 hv2
                        have hwd := (Hw.out.1 (by omega)).symm.trans Hg.out
                        obtain ⟨hg9a, hg9b⟩ := Prod.mk.inj hwd
                        have h5 : five = true := hg9b.symm
                        subst h5
                        have hwide := best_wide (es := ls) ls.length j hjl
                        rw [hg9a] at hwide
                        clear hwd hg9a hg9b
                        have hbx := okAt_bd (Hok.out j hjl)
                        have hbg : 0 ≤ g.lo ∧ g.lo ≤ g.hi ∧ g.hi ≤ 20 := by have h9 := bestAt_bd Hok.out (by omega) ls.length (Nat.le_refl _); rw [show bestAt ls ls.length = g from (Prod.mk.inj ((Hw.out.1 (by omega)).symm.trans Hg.out)).1] at h9; exact h9
                        have hex := Hex.out j
                        have Hes := Lib.hid (show exN ls (j + 1) = if (enS.get ls j).lo = (enS.get ls j).hi then exN ls j + 1 else exN ls j from rfl)
                        generalize enS.get ls j = z at f0 f1 f2 f3 f4 hwide hbx Hes
                        generalize exN ls j = x0 at hex Hes ⊢
                        obtain ⟨hbx0, hbx1, hbx2⟩ := hbx; obtain ⟨hbg0, hbg1, hbg2⟩ := hbg; obtain ⟨hex0, hex1⟩ := hex
                        have hgr9 : g9 < wr.heap.size := Nat.lt_of_lt_of_le hg9 hbi.size
                        have hi0 : (0 : Int) ≤ (j : Int) := by omega
                        have hi1 : (j : Int) < (ls.length : Int) := by omega
                        have hno : ¬ (g.hi - g.lo < z.hi - z.lo) := by omega
                        by_cases hlh : z.lo = z.hi
                        · have hd : decide (z.lo = z.hi) = true := decide_eq_true hlh
                          have Hn := Lib.hid (Hes.out.trans (if_pos hlh))
                          have hbq : (z.lo == z.hi) = true := by rw [hlh]; simp
                          clear hlh
                          go_wp2
                          go_roundw
                          case rel => exact ⟨j + 1, by omega, by go_num, by rw [Hn.out], by (repeat (with_reducible first | exact Below.refl _ _ | assumption | refine bal ?_ _ | refine bst ?_ (by simp <;> omega) _ | refine Below.drew ?_ | refine bthen ?_ (by assumption)))⟩
                          case measure => simp [intOf]; omega
                        · have hd : decide (z.lo = z.hi) = false := decide_eq_false hlh
                          have Hn := Lib.hid (Hes.out.trans (if_neg hlh))
                          have hbq : (z.lo == z.hi) = false := beq_eq_false_iff_ne.2 hlh
                          go_wp2
                          go_roundw
                          case rel => exact ⟨j + 1, by omega, by go_num, by rw [Hn.out], by (repeat (with_reducible first | exact Below.refl _ _ | assumption | refine bal ?_ _ | refine bst ?_ (by simp <;> omega) _ | refine Below.drew ?_ | refine bthen ?_ (by assumption)))⟩
                          case measure => simp [intOf]; omega
                      · obtain rfl : j = ls.length := by omega
                        have HbT := Lib.hid (bthen Hbi.out hbi); replace OL := Lib.hid (own_below OL.out hbi); replace He := Lib.hid (He.out.on hbi); clear hbi hj hjl Hrl vb
                        generalize exN ls ls.length = ex
                        go_wp2_with fail
                        refine (implPc_any tx _ (by omega) He.out).mono ?_; rintro e w20 ⟨hr9, hb20⟩; obtain ⟨vt, rfl, ot⟩ := hr9.at Htx1.out; clear hr9
                        have Ot := Lib.hid ot
                        have GOt := Lib.hid (World.ownsRow.lt ot)
                        clear ot
                        replace He := Lib.hid (He.out.on (hb20))
                        replace OL := Lib.hid (own_below OL.out (hb20))
                        have sz20 := Lib.hid (show wr.heap.size + 0 ≤ w20.heap.size by have := hb20.size; (try simp only [World.size_alloc] at this); omega)
                        have Hb20 := Lib.hid (bthen (HbT.out) hb20)
                        clear hb20
                        go_wp2_with fail
                        refine (qEnE_same _ _ ls _ (Rd.of_own Ot.out rfl) (Rd.of_own OL.out rfl)).mono ?_; rintro e w21 ⟨rfl, hb21⟩
                        replace He := Lib.hid (He.out.on (hb21))
                        replace OL := Lib.hid (own_below OL.out (hb21))
                        replace Ot := Lib.hid (own_below Ot.out (hb21))
                        have sz21 := Lib.hid (show w20.heap.size + 0 ≤ w21.heap.size by have := hb21.size; (try simp only [World.size_alloc] at this); omega)
                        have Hb21 := Lib.hid (bthen (Hb20.out) hb21)
                        clear hb21
                        have hfv : five = decide (0 < ls.length) := by
                          rcases Nat.eq_zero_or_pos ls.length with h0 | h0
                          · rw [decide_eq_false (by omega)]; exact (Prod.mk.inj ((Hw.out.2 h0).symm.trans Hg.out)).2.symm
                          · rw [decide_eq_true h0]; exact (Prod.mk.inj ((Hw.out.1 h0).symm.trans Hg.out)).2.symm
                        subst hfv
                        by_cases h0 : 0 < ls.length
                        · have h0i : (0 : Int) < (ls.length : Int) := by omega
                          have h0d : decide (0 < ls.length) = true := decide_eq_true h0
                          rw [h0d]
                          go_wp2
                          go_ret
                          exact ⟨rfl, Hb21.out⟩
                        · have h0i : ¬ (0 : Int) < (ls.length : Int) := by omega
                          have h0d : decide (0 < ls.length) = false := decide_eq_false h0
                          rw [h0d]
                          go_wp2
                          go_ret
                          exact ⟨rfl, Hb21.out⟩
end
section
open Go Go.RowKit Go.ChangeShapes Go.WideShapes Go.Deep

section
variable {H : Type} {enc : TypeId × Value → H} {P : Program} {w : World} {base : Nat} {spare : Nat → Bool} {held : Bool}
theorem bounds_u8 {n : Int} (h : (Lit.int .u8 n).wf = true) : 0 ≤ n ∧ n ≤ 255 := by
  simp [Lit.wf, IntKind.min, IntKind.max, IntKind.signed, IntKind.bits] at h
  omega
theorem open_bytesAt {r : Reach} {b0 : Nat} {t e : TypeId} {v : Value} {d : DataW H} {p : List MemPlace} (ht : P.underlying t = some (.slice e)) (he : P.underlying e = some (.int .u8)) (hc1 : P.cellsOf e = 1)
    (hv : Value.okWide P w r b0 t v) (h : DataW.Trod enc P w base spare held t v d p) : ∃ (A : Option Addr) (n c : Nat), v = .slice A n c ∧ BytesAt w w.heap.size A n := by
  obtain ⟨A, len, cap, rfl⟩ := okWide_slice ht hv
  obtain ⟨fuel, hf⟩ := h
  rcases open_slice ht hf with ⟨hcs, _⟩ | ⟨a, len', cap', m, n, D, Pl, hcs, hb, hl, hm, hmm, hx, hcell⟩
  · obtain ⟨rfl, rfl, rfl⟩ : A = none ∧ len = 0 ∧ cap = 0 := by simpa [Value.cells] using hcs
    exact ⟨none, 0, 0, rfl, by decide, fun h0 => absurd h0 (by decide)⟩
  · obtain ⟨rfl, rfl, rfl⟩ : A = some a ∧ len = len' ∧ cap = cap' := by simpa [Value.cells] using hcs
    have hlm : len ≤ m := by rw [hmm]; split <;> omega
    have key : ∀ i, i < len → ∃ b : Nat, b ≤ 255 ∧ w.cell? (a.add (i * 1)) = some (.int .u8 (b : Int)) := by
      intro i hil
      obtain ⟨cs', hc, ht'⟩ := hcell i (by omega)
      rw [hc1] at hc
      obtain ⟨_, hcl, hat⟩ := World.cells?_some hc
      obtain ⟨q, hq, -, hw⟩ := DataW.trod_int he ht'
      obtain ⟨h1, h2⟩ := bounds_u8 hw
      have h3 := hat 0 (by decide)
      rw [hq] at h3
      refine ⟨q.toNat, by omega, ?_⟩
      rw [show ((q.toNat : Nat) : Int) = q by omega]
      have h4 : (a.add (i * 1)).add 0 = a.add (i * 1) := by simp [Addr.add]
      rw [h4] at h3
      exact h3
    refine ⟨some a, len, cap, rfl, Nat.le_trans hl hm, fun h0 => ?_⟩
    obtain ⟨g, off, spot⟩ := a
    obtain ⟨b0, -, h00⟩ := key 0 h0
    have hspot : spot = none := by
      have := h00
      simp only [Nat.zero_mul] at this
      simpa [Addr.add] using World.cell?_spot this
    subst hspot
    have hadd : ∀ x : Nat, (⟨g, off, none⟩ : Addr).add x = ⟨g, off + x, none⟩ := by
      intro x
      unfold Addr.add
      by_cases hx : x = 0 <;> simp [hx]
    have hlt : g < w.heap.size := by
      rw [hadd] at h00
      exact World.block_lt_of_cell? w _ h00
    refine ⟨g, off, rfl, hlt, hlt, fun j hj => ?_⟩
    obtain ⟨b, hb1, hb2⟩ := key j hj
    rw [hadd, Nat.mul_one] at hb2
    exact ⟨b, hb1, hb2⟩
end
end
section
open Go Go.RowKit Go.ChangeShapes Go.WideShapes

def laid3 : List (String × DataW Unit) := [("math/bits.deBruijn32tab", Rows.laid_math_bits_deBruijn32tab), ("math/bits.deBruijn64tab", Rows.laid_math_bits_deBruijn64tab), ("internal/strconv.uint64pow10", Rows.laid_internal_strconv_uint64pow10)]
theorem gPow : Tryz.prog.globalNamed "internal/strconv.uint64pow10" = some 4 := by kernel_rfl
theorem tPow : (Tryz.prog.globals[4]?).map (·.type) = some 259 := by kernel_rfl
theorem pow_data : (Rows.laid_internal_strconv_uint64pow10 : DataW Unit) = Lib.tabData .u64 Lib.pow10Tab := by kernel_rfl
theorem tab_of_laid3 {W : World} (h : laidMetH Tryz.prog laid3 W) : Tab W := by
  rw [MakeChecks.laidMetH_plain _ _ _ (by kernel_rfl)] at h
  obtain ⟨ps, ⟨g0, t0, cs0, f0, p0, q0, hg0, ht0, hv0, hd0, ⟨g1, t1, cs1, f1, p1, q1, hg1, ht1, hv1, hd1, ⟨g2, t2, cs2, f2, p2, q2, hg2, ht2, hv2, hd2, _⟩, _⟩, _⟩, _⟩ := h
  obtain rfl := Option.some.inj (gPow.symm.trans hg2)
  obtain rfl := Option.some.inj (tPow.symm.trans ht2)
  rw [pow_data] at hd2
  unfold Tab Lib.TabIs
  rw [hv2, ← Lib.cells_of_tab Tryz.underlying259 Tryz.underlying104 (by kernel_rfl) (by kernel_rfl) hd2]
theorem door3 (os : Os) (args : Array Value) : laidMetH Tryz.prog laid3 ((World.doorLaid Tryz.prog 72 os).forCall (fun _ _ => 0) ⟨#[], args, []⟩).memory :=
  laidMetH_of_parts3 (fuel := 8) (laidMet_of_run' 8 (by kernel_rfl) (by kernel_rfl)) (by kernel_rfl) (by kernel_rfl)
end
section
open Go Go.RowKit Go.ChangeShapes Go.WideShapes

def laid7 : List (String × DataW Unit) := [("math/bits.deBruijn32tab", Rows.laid_math_bits_deBruijn32tab), ("math/bits.deBruijn64tab", Rows.laid_math_bits_deBruijn64tab), ("internal/strconv.uint64pow10", Rows.laid_internal_strconv_uint64pow10), ("unicode/utf8.acceptRanges", Rows.laid_unicode_utf8_acceptRanges), ("strconv.ErrRange", Rows.laid_strconv_ErrRange), ("strconv.ErrSyntax", Rows.laid_strconv_ErrSyntax), ("unicode/utf8.first", Rows.laid_unicode_utf8_first)]
theorem iface_of_trod {H : Type} {enc : TypeId × Value → H} {P : Program} {w : World} {base : Nat} {sp : Nat → Bool} {fuel : Nat} {t : TypeId} {cs : List Value} {ms : Array (String × TypeId)} {nm : String} {d : DataW H} {p : List MemPlace}
    (ht : P.underlying t = some (.interface ms)) (h : DataW.trod enc P w base sp false fuel t cs = some (.iface nm d, p)) : ∃ u v, cs = [.iface u v] := by
  cases fuel with
  | zero => simp [DataW.trod] at h
  | succ n =>
    unfold DataW.trod at h
    rw [ht] at h
    split at h <;> first | (simp_all; done) | exact ⟨_, _, rfl⟩
theorem gErrSyntax : Tryz.prog.globalNamed "strconv.ErrSyntax" = some 1 := by kernel_rfl
theorem gErrRange : Tryz.prog.globalNamed "strconv.ErrRange" = some 2 := by kernel_rfl
theorem tErrSyntax : (Tryz.prog.globals[1]?).map (·.type) = some 127 := by kernel_rfl
theorem tErrRange : (Tryz.prog.globals[2]?).map (·.type) = some 127 := by kernel_rfl
theorem uError : ∃ ms, Tryz.prog.underlying 127 = some (.interface ms) := ⟨_, Tryz.underlying127⟩
theorem var_iface {W : World} {n : String} {g : Nat} {nm : String} {d : DataW Unit} (hg : Tryz.prog.globalNamed n = some g) (ht : (Tryz.prog.globals[g]?).map (·.type) = some 127) (h : Lib.VarReads Tryz.prog W n (.iface nm d)) : ∃ tp p, W.var? Tryz.prog n = some #[.iface tp p] := by
  obtain ⟨g', t, cs, fuel, p, hg', ht', hv, hd⟩ := h
  obtain rfl := Option.some.inj (hg.symm.trans hg')
  obtain rfl := Option.some.inj (ht.symm.trans ht')
  obtain ⟨ms, hms⟩ := uError
  obtain ⟨u, v, hc⟩ := iface_of_trod hms hd
  obtain ⟨l⟩ := cs
  simp only at hc
  subst hc
  exact ⟨u, v, hv⟩
theorem env_of_laid7 {W : World} (h : laidMetH Tryz.prog laid7 W) (hs : W.ShapedOpen Tryz.prog) : Env W := by
  rw [MakeChecks.laidMetH_plain _ _ _ (by kernel_rfl)] at h
  refine ⟨?_, hs, var_iface gErrSyntax tErrSyntax (Lib.laidMet.reads h (n := "strconv.ErrSyntax") (d := Rows.laid_strconv_ErrSyntax) (by simp [laid7])), var_iface gErrRange tErrRange (Lib.laidMet.reads h (n := "strconv.ErrRange") (d := Rows.laid_strconv_ErrRange) (by simp [laid7]))⟩
  obtain ⟨g2, t2, cs2, f2, p2, hg2, ht2, hv2, hd2⟩ := Lib.laidMet.reads h (n := "internal/strconv.uint64pow10") (d := Rows.laid_internal_strconv_uint64pow10) (by simp [laid7])
  obtain rfl := Option.some.inj (gPow.symm.trans hg2)
  obtain rfl := Option.some.inj (tPow.symm.trans ht2)
  rw [pow_data] at hd2
  unfold Tab Lib.TabIs
  rw [hv2, ← Lib.cells_of_tab Tryz.underlying259 Tryz.underlying104 (by kernel_rfl) (by kernel_rfl) hd2]
theorem door7 (os : Os) (args : Array Value) : laidMetH Tryz.prog laid7 ((World.laidAll Tryz.prog os laid7).forCall (fun _ _ => 0) ⟨#[], args, []⟩).memory := by
  rw [MakeChecks.laidMetH_plain _ _ _ (by kernel_rfl)]
  exact laidMet_laidAll _ (by kernel_rfl) (by kernel_rfl)

/-- The wrap: the contract is handed X of the world, and the world's shape. -/
theorem returns_shaped_and {H : Type} {enc : TypeId × Value → H} {a : Assume} {C : Checked} {os : Os} {f : FuncId} {fn : Func} {s : ChangeSpec} {conds : List PathCond} {apart fresh handsOn again : Bool} {X : World → Array Value → Prop}
    (hX : ∀ (w w' : World) (args : Array Value), w.heap = w'.heap → X w args → X w' args)
    (own : ownKnob C.prog.godebug = none) (started : os.Started) (noInit : C.prog.inits.idxOf? f = none) (hfn : C.prog.funcs[f]? = some fn)
    (witness : ∃ (w : World) (tape : Tape) (i : Input), w.os = os ∧ (w.forCall tape i).Shaped C.prog ∧ i.vars = [] ∧ Input.okWide C.prog (w.forCall tape i) .any w.heap.size f i ∧
      ((s.pre enc C.prog fn conds apart (w.forCall tape i).memory i.args ∧ X (w.forCall tape i).memory i.args) ∧ sizedMet enc C.prog fn (OpenSpec.ofChange s) apart (w.forCall tape i).memory i.args) ∧ a.holds C.prog (lone (Frame.enter C.prog f i.args .normal) [] (w.forCall tape i)))
    (contract : ∀ (W : World) (base : Nat) (args : Array Value) (ds gs : List (DataW H)) (before : List MemPlace),
      (∀ (j : Nat) t v, fn.params[j]? = some t → args[j]? = some v → Value.okWide C.prog W .any base t v) →
      DataW.Whole enc C.prog fn.params.toList s.vars apart W args.toList ds gs before →
      W.ShapedOpen C.prog →
      (DataW.weightsEach C.prog (fn.params.toList ++ s.plain.varTypes C.prog) (ds ++ gs)).all (· ≤ reachBytes) = true → X W args →
      a.holds C.prog (lone (Frame.enter C.prog f args .normal) [] W) →
      Calls C.prog f args W fun e W' => ∃ v, e = .returned v ∧ s.post enc C.prog fn apart fresh handsOn again W args v W') :
    ReturnsInHanded a C os f .any (fun w args => (s.pre enc C.prog fn conds apart w args ∧ X w args) ∧ sizedMet enc C.prog fn (OpenSpec.ofChange s) apart w args) (s.post enc C.prog fn apart fresh handsOn again) := by
  refine returnsInHanded_of_calls own started noInit witness ?_
  intro w tape i _ hsh _ hok hpre hholds
  obtain ⟨_, _, _, fn', hfn', _, _, _, _, hval⟩ := hok
  have e : fn' = fn := Option.some.inj (hfn'.symm.trans hfn)
  subst e
  obtain ⟨⟨⟨ds, gs, before, hw, hc⟩, hx⟩, hz⟩ := hpre
  have hw' := DataW.Whole.of_heap (w' := w.forCall tape i) (by rfl) hw
  refine (contract (w.forCall tape i) w.heap.size i.args ds gs before hval hw' hsh (hz.weights hw) (hX _ _ _ (by rfl) hx) hholds).mono fun e W' ⟨v, he, hp⟩ => ?_
  subst he
  exact ChangeSpec.post_blind hp
end
section
open Go Go.RowKit Go.ChangeShapes Go.WideShapes Go.Deep
theorem open_jrn {H : Type} {enc : TypeId × Value → H} {P : Program} {w : World} {base : Nat} {spare : Nat → Bool} {held : Bool} {r : Reach} {b0 : Nat} {t : TypeId} {f0 f1 : Field} {v : Value} {d : DataW H} {p : List MemPlace}
    (hs : P.underlying t = some (.struct #[f0, f1])) (u0 : P.underlying f0.type = some .string) (u1 : P.underlying f1.type = some .string) (hone : oneCellFields P #[f0, f1] = true) (hC : P.cellsOf t = 2)
    (hv : Value.okWide P w r b0 t v) (h : DataW.Trod enc P w base spare held t v d p) : ∃ D Q : ByteArray, v = .agg #[.string D, .string Q] ∧ D.size ≤ maxLen ∧ Q.size ≤ maxLen := by
  obtain ⟨v0, v1, y0, y1, n, rfl, -, -, h0, h1⟩ := Joins.open_agg2 hs hone hC hv h
  obtain ⟨D, hD, -, hDs⟩ := DataW.trod_string u0 h0
  obtain ⟨Q, hQ, -, hQs⟩ := DataW.trod_string u1 h1
  simp at hD hQ
  subst hD; subst hQ
  exact ⟨D, Q, rfl, hDs, hQs⟩
end
end Go.Proofs.YtimfoodbolokdaaGreatDoor
