/- Own texts put together: The reference's draws of a curve and a root, and of a point to be carried; Lists of structs of ints compared by the laws; The laws' bound on what they draw from; What the law FnIsogenies calls besides; Own lemmas that know no program: arguments that are ints, structs of ints, slices of structs of ints, opened to values and cells; a law's last step; An argument that is a slice of bytes, opened to its cells; What the frames of the laws share. Conditions: those of each theorem. -/
import Derived.Test.YtacehhcpfollnaaGreatIsM17
import Derived.Test.YtacehhcpfollnaaGreatIsM1
import Derived.Deep.RegionHeld3
import Derived.Test.YtacehhcpfollnaaGreatIsM11
import Derived.Test.YtacehhcpfollnaaGreatIsM12
import Derived.ProofKit
import Derived.Deep.Slices
import Derived.Test.YtacehhcpfollnaaGreatIsM4
import Derived.Test.YtacehhcpfollnaaGreatRows
namespace Go.Proofs.YtacehhcpfollnaaGreat
section
open Go Go.RowKit
theorem Cur.new3 {w : World} {A : Option Addr} {n : Nat} (h : BytesAt w w.heap.size A n) (c : Nat) (o1 o2 o3 : Obj) : Cur ((((w.alloc o1).alloc o2).alloc o3).alloc (.cells #[.slice A n c, .int .i64 0, .int .u64 0] 72)) (w.heap.size + 3) 0 := by
  have h1 := Cur.new0 (((h.al o1).al o2).al o3) c
  simp only [World.size_alloc] at h1
  exact h1

set_option linter.unusedSimpArgs false in
set_option linter.unusedVariables false in
set_option maxRecDepth 8000 in
set_option maxHeartbeats 16000000 in
theorem drawNb_any (A : Option Addr) (n c : Nat) (w : World) (hby : BytesAt w w.heap.size A n) :
    Calls Tryz.prog 7 #[.slice A n c] w fun e w' => (∃ a b y : Int, e = .returned (.tuple #[.agg #[.int .i64 a, .int .i64 b], .int .i64 y])) ∧ Below w.heap.size w w' := by
  have Hb := Lib.hid hby; clear hby
  have Hgl := Lib.hid (Nat.le_refl w.heap.size)
  have Hd := Lib.hid (Dg.refl (w.heap.size + 1) w)
  go_enter Tryz.func7, Tryz.ntmps7
  go_wp2_with fail
  refine (linked_any (w.heap.size + 1) 0 _ (Cur.new1 Hb.out c _) (by omega)).mono ?_; rintro e w1 ⟨⟨a, b, rfl⟩, hc1, hd1⟩
  have S1 := Lib.hid (show w.heap.size + 2 ≤ w1.heap.size by have h9 := hd1.size; (try simp only [World.size_alloc, World.size_setCell] at h9); omega)
  have NR := Lib.hid (((Blk.new w 25 #[.int .i64 0, .int .i64 0]).alloc (Obj.cells #[.slice A n c, .int .i64 0, .int .u64 0] 72)).dg hd1 (show w.heap.size ≠ (w.heap.size + 1) by have := Hgl.out; have := S1.out; omega))
  have R := NR; clear NR
  have Hc1 := Lib.hid (hc1.mono (j := 0 + 50) (by omega))
  have Hd1 := Lib.hid (((Hd.out.alloc (Obj.cells #[.int .i64 0, .int .i64 0] 25)).alloc (Obj.cells #[.slice A n c, .int .i64 0, .int .u64 0] 72)).trans hd1)
  clear hc1 hd1
  go_wp2_with fail
  obtain ⟨wt, hw9⟩ : ∃ x, x = (World.alloc w1 (Obj.cells #[.int .i64 a, .int .i64 b] 25)) := ⟨_, rfl⟩
  rw [← hw9]
  have hd2 : Dg (w.heap.size + 1) (World.alloc w1 (Obj.cells #[.int .i64 a, .int .i64 b] 25)) wt := by rw [hw9]; exact Dg.refl _ _
  have hc2 : Cur wt (w.heap.size + 1) (0 + 50) := by rw [hw9]; exact (Hc1.out.alloc _)
  have S2 := Lib.hid (show w1.heap.size + 1 ≤ wt.heap.size by have h9 := hd2.size; (try simp only [World.size_alloc, World.size_setCell] at h9); omega)
  have NR := Lib.hid ((R.out.alloc _).dg hd2 (show w.heap.size ≠ (w.heap.size + 1) by have := Hgl.out; have := S1.out; have := S2.out; omega))
  have NE := Lib.hid ((Blk.new w1 25 #[.int .i64 a, .int .i64 b]).dg hd2 (show w1.heap.size ≠ (w.heap.size + 1) by have := Hgl.out; have := S1.out; have := S2.out; omega))
  have R := NR; clear NR
  have E := NE; clear NE
  have Hc2 := Lib.hid (hc2.mono (j := 0 + 50) (by omega))
  have Hd2 := Lib.hid ((Hd1.out.alloc _).trans hd2)
  clear hc2 hd2
  clear hw9
  have qE0 := E.out.cell 0
  have qE1 := E.out.cell 1
  simp at qE0 qE1
  have qEl := E.out.lt
  have qR0 := R.out.cell 0
  have qR1 := R.out.cell 1
  simp at qR0 qR1
  have qRl := R.out.lt
  have qRf := R.out.frozen
  have nER : w1.heap.size ≠ w.heap.size := by have := Hgl.out; have := S1.out; have := S2.out; omega
  have nRE : w.heap.size ≠ w1.heap.size := fun e => nER e.symm
  go_region_with (go_at_call 43; refine (rootOf_any (w.heap.size + 1) (0 + 50) a b _ (by first | exact Hc2.out | exact Cur.drewP Hc2.out | exact Cur.drewP (Cur.drewP Hc2.out)) (by omega)).mono ?_; rintro e w9 ⟨⟨y9, rfl⟩, hc9, hd9⟩; have S99 := Lib.hid (show wt.heap.size + 0 ≤ w9.heap.size by have h9 := hd9.size; (try simp only [World.size_alloc, World.size_setCell, World.size_drew] at h9); omega); have Hc99 := Lib.hid hc9; have Hd99 := Lib.hid (Dg.trans (by first | exact Hd2.out | exact Dg.drew Hd2.out | exact Dg.drew (Dg.drew Hd2.out)) hd9); have h9E : Blk w9 (w1.heap.size) 25 #[.int .i64 a, .int .i64 b] := Blk.dg (by first | exact E.out | exact Blk.drew E.out | exact Blk.drew (Blk.drew E.out)) hd9 (show w1.heap.size ≠ (w.heap.size + 1) by have := Hgl.out; have := S1.out; have := S2.out; omega); have zw9E0 := h9E.cell 0; have zw9E1 := h9E.cell 1; simp at zw9E0 zw9E1; have lw9E := h9E.lt; have Nw9E := Lib.hid h9E; clear h9E; have h9R : Blk w9 (w.heap.size) 25 #[.int .i64 0, .int .i64 0] := Blk.dg (by first | exact R.out | exact Blk.drew R.out | exact Blk.drew (Blk.drew R.out)) hd9 (show w.heap.size ≠ (w.heap.size + 1) by have := Hgl.out; have := S1.out; have := S2.out; omega); have zw9R0 := h9R.cell 0; have zw9R1 := h9R.cell 1; simp at zw9R0 zw9R1; have lw9R := h9R.lt; have fw9R := h9R.frozen; have Nw9R := Lib.hid h9R; clear h9R; clear hc9 hd9)
  all_goals
    try go_wp2
    have R := Nw9R
    have HR9 := (show Blk (World.setCell (World.setCell w9 ⟨w.heap.size, 0, none⟩ (.int .i64 a)) ⟨w.heap.size, 1, none⟩ (.int .i64 b)) (w.heap.size) 25 #[.int .i64 a, .int .i64 b] by have h9 := ((R.out.set 0 (.int .i64 a)).set 1 (.int .i64 b)); simpa using h9)
    have k0 := HR9.cell 0; have k1 := HR9.cell 1
    simp at k0 k1
    exact bodyPost_ret (v := .tuple #[.agg #[.int .i64 a, .int .i64 b], .int .i64 y9]) (by simp [results, Tryz.results7, go_sem, k0, k1]) rfl ⟨⟨a, b, y9, rfl⟩, ((Hd99.out.st (p := ⟨w.heap.size, 0, none⟩) (show w.heap.size ≤ w.heap.size by have := Hgl.out; have := S1.out; have := S2.out; have := S99.out; omega) (.int .i64 a)).st (p := ⟨w.heap.size, 1, none⟩) (show w.heap.size ≤ w.heap.size by have := Hgl.out; have := S1.out; have := S2.out; have := S99.out; omega) (.int .i64 b)).below (by have := S1.out; have := S2.out; have := S99.out; omega) (Nat.le_refl _)⟩
set_option linter.unusedSimpArgs false in
set_option linter.unusedVariables false in
set_option maxRecDepth 8000 in
set_option maxHeartbeats 16000000 in
theorem drawCarry_any (A : Option Addr) (n c : Nat) (w : World) (hby : BytesAt w w.heap.size A n) :
    Calls Tryz.prog 18 #[.slice A n c] w fun e w' => (∃ a b y x1 x2 z1 z2 : Int, e = .returned (.tuple #[.agg #[.int .i64 a, .int .i64 b], .int .i64 y, .agg #[.int .i64 x1, .int .i64 x2], .agg #[.int .i64 z1, .int .i64 z2]])) ∧ Below w.heap.size w w' := by
  have Hb := Lib.hid hby; clear hby
  have Hgl := Lib.hid (Nat.le_refl w.heap.size)
  have Hd := Lib.hid (Dg.refl (w.heap.size + 3) w)
  go_enter Tryz.func18, Tryz.ntmps18
  go_wp2_with fail
  refine (linked_any (w.heap.size + 3) 0 _ (Cur.new3 Hb.out c _ _ _) (by omega)).mono ?_; rintro e w1 ⟨⟨a, b, rfl⟩, hc1, hd1⟩
  have S1 := Lib.hid (show w.heap.size + 4 ≤ w1.heap.size by have h9 := hd1.size; (try simp only [World.size_alloc, World.size_setCell] at h9); omega)
  have NR2 := Lib.hid (((((Blk.new w 25 #[.int .i64 0, .int .i64 0]).alloc (Obj.cells #[.int .i64 0, .int .i64 0] 42)).alloc (Obj.cells #[.int .i64 0, .int .i64 0] 42)).alloc (Obj.cells #[.slice A n c, .int .i64 0, .int .u64 0] 72)).dg hd1 (show w.heap.size ≠ (w.heap.size + 3) by have := Hgl.out; have := S1.out; omega))
  have NR4 := Lib.hid ((((show Blk (World.alloc (World.alloc w (Obj.cells #[.int .i64 0, .int .i64 0] 25)) (Obj.cells #[.int .i64 0, .int .i64 0] 42)) (w.heap.size + 1) 42 #[.int .i64 0, .int .i64 0] by have h9 := (Blk.new (World.alloc w (Obj.cells #[.int .i64 0, .int .i64 0] 25)) 42 #[.int .i64 0, .int .i64 0]); (try simp only [World.size_alloc, World.size_setCell] at h9); exact h9).alloc (Obj.cells #[.int .i64 0, .int .i64 0] 42)).alloc (Obj.cells #[.slice A n c, .int .i64 0, .int .u64 0] 72)).dg hd1 (show w.heap.size + 1 ≠ (w.heap.size + 3) by have := Hgl.out; have := S1.out; omega))
  have NR5 := Lib.hid (((show Blk (World.alloc (World.alloc (World.alloc w (Obj.cells #[.int .i64 0, .int .i64 0] 25)) (Obj.cells #[.int .i64 0, .int .i64 0] 42)) (Obj.cells #[.int .i64 0, .int .i64 0] 42)) (w.heap.size + 1 + 1) 42 #[.int .i64 0, .int .i64 0] by have h9 := (Blk.new (World.alloc (World.alloc w (Obj.cells #[.int .i64 0, .int .i64 0] 25)) (Obj.cells #[.int .i64 0, .int .i64 0] 42)) 42 #[.int .i64 0, .int .i64 0]); (try simp only [World.size_alloc, World.size_setCell] at h9); exact h9).alloc (Obj.cells #[.slice A n c, .int .i64 0, .int .u64 0] 72)).dg hd1 (show w.heap.size + 1 + 1 ≠ (w.heap.size + 3) by have := Hgl.out; have := S1.out; omega))
  have R2 := NR2; clear NR2
  have R4 := NR4; clear NR4
  have R5 := NR5; clear NR5
  have Hc1 := Lib.hid (hc1.mono (j := 0 + 50) (by omega))
  have Hd1 := Lib.hid (((((Hd.out.alloc (Obj.cells #[.int .i64 0, .int .i64 0] 25)).alloc (Obj.cells #[.int .i64 0, .int .i64 0] 42)).alloc (Obj.cells #[.int .i64 0, .int .i64 0] 42)).alloc (Obj.cells #[.slice A n c, .int .i64 0, .int .u64 0] 72)).trans hd1)
  clear hc1 hd1
  go_wp2_with fail
  refine (rootOf_any (w.heap.size + 3) (0 + 50) a b _ (Hc1.out.alloc _) (by omega)).mono ?_; rintro e w2 ⟨⟨y, rfl⟩, hc2, hd2⟩
  have S2 := Lib.hid (show w1.heap.size + 1 ≤ w2.heap.size by have h9 := hd2.size; (try simp only [World.size_alloc, World.size_setCell] at h9); omega)
  have NR2 := Lib.hid ((R2.out.alloc _).dg hd2 (show w.heap.size ≠ (w.heap.size + 3) by have := Hgl.out; have := S1.out; have := S2.out; omega))
  have NR4 := Lib.hid ((R4.out.alloc _).dg hd2 (show w.heap.size + 1 ≠ (w.heap.size + 3) by have := Hgl.out; have := S1.out; have := S2.out; omega))
  have NR5 := Lib.hid ((R5.out.alloc _).dg hd2 (show w.heap.size + 1 + 1 ≠ (w.heap.size + 3) by have := Hgl.out; have := S1.out; have := S2.out; omega))
  have NE := Lib.hid ((Blk.new w1 25 #[.int .i64 a, .int .i64 b]).dg hd2 (show w1.heap.size ≠ (w.heap.size + 3) by have := Hgl.out; have := S1.out; have := S2.out; omega))
  have R2 := NR2; clear NR2
  have R4 := NR4; clear NR4
  have R5 := NR5; clear NR5
  have E := NE; clear NE
  have Hc2 := Lib.hid (hc2.mono (j := 0 + 60) (by omega))
  have Hd2 := Lib.hid ((Hd1.out.alloc _).trans hd2)
  clear hc2 hd2
  cases hcv : curveB a b
  · have Hcv := Lib.hid hcv; clear hcv
    have qE0 := E.out.cell 0
    have qE1 := E.out.cell 1
    simp at qE0 qE1
    have qEl := E.out.lt
    go_wp2_with fail
    refine (cvS_lit Hcv.out _).mono ?_; rintro e w3 ⟨rfl, hd3⟩
    clear qE0 qE1 qEl
    have S3 := Lib.hid (show w2.heap.size + 0 ≤ w3.heap.size by have h9 := hd3.size; (try simp only [World.size_alloc, World.size_setCell] at h9); omega)
    have NR2 := Lib.hid (R2.out.dg (Dg.of_below (g := (w.heap.size + 3)) hd3) (show w.heap.size ≠ (w.heap.size + 3) by have := Hgl.out; have := S1.out; have := S2.out; have := S3.out; omega))
    have NR4 := Lib.hid (R4.out.dg (Dg.of_below (g := (w.heap.size + 3)) hd3) (show w.heap.size + 1 ≠ (w.heap.size + 3) by have := Hgl.out; have := S1.out; have := S2.out; have := S3.out; omega))
    have NR5 := Lib.hid (R5.out.dg (Dg.of_below (g := (w.heap.size + 3)) hd3) (show w.heap.size + 1 + 1 ≠ (w.heap.size + 3) by have := Hgl.out; have := S1.out; have := S2.out; have := S3.out; omega))
    have NE := Lib.hid (E.out.dg (Dg.of_below (g := (w.heap.size + 3)) hd3) (show w1.heap.size ≠ (w.heap.size + 3) by have := Hgl.out; have := S1.out; have := S2.out; have := S3.out; omega))
    have R2 := NR2; clear NR2
    have R4 := NR4; clear NR4
    have R5 := NR5; clear NR5
    have E := NE; clear NE
    have Hc3 := Lib.hid (Hc2.out.on hd3)
    have Hd3 := Lib.hid (Hd2.out.trans (Dg.of_below (g := (w.heap.size + 3)) hd3))
    clear hd3
    go_wp2_with fail
    have qE0 := E.out.cell 0
    have qE1 := E.out.cell 1
    simp at qE0 qE1
    have qEl := E.out.lt
    have qR20 := R2.out.cell 0
    have qR21 := R2.out.cell 1
    simp at qR20 qR21
    have qR2l := R2.out.lt
    have qR2f := R2.out.frozen
    have qR40 := R4.out.cell 0
    have qR41 := R4.out.cell 1
    simp at qR40 qR41
    have qR4l := R4.out.lt
    have qR4f := R4.out.frozen
    have qR50 := R5.out.cell 0
    have qR51 := R5.out.cell 1
    simp at qR50 qR51
    have qR5l := R5.out.lt
    have qR5f := R5.out.frozen
    have nER2 : w1.heap.size ≠ w.heap.size := by have := Hgl.out; have := S1.out; have := S2.out; have := S3.out; omega
    have nR2E : w.heap.size ≠ w1.heap.size := fun e => nER2 e.symm
    have nER4 : w1.heap.size ≠ w.heap.size + 1 := by have := Hgl.out; have := S1.out; have := S2.out; have := S3.out; omega
    have nR4E : w.heap.size + 1 ≠ w1.heap.size := fun e => nER4 e.symm
    have nER5 : w1.heap.size ≠ w.heap.size + 1 + 1 := by have := Hgl.out; have := S1.out; have := S2.out; have := S3.out; omega
    have nR5E : w.heap.size + 1 + 1 ≠ w1.heap.size := fun e => nER5 e.symm
    have nR2R4 : w.heap.size ≠ w.heap.size + 1 := by have := Hgl.out; have := S1.out; have := S2.out; have := S3.out; omega
    have nR4R2 : w.heap.size + 1 ≠ w.heap.size := fun e => nR2R4 e.symm
    have nR2R5 : w.heap.size ≠ w.heap.size + 1 + 1 := by have := Hgl.out; have := S1.out; have := S2.out; have := S3.out; omega
    have nR5R2 : w.heap.size + 1 + 1 ≠ w.heap.size := fun e => nR2R5 e.symm
    have nR4R5 : w.heap.size + 1 ≠ w.heap.size + 1 + 1 := by have := Hgl.out; have := S1.out; have := S2.out; have := S3.out; omega
    have nR5R4 : w.heap.size + 1 + 1 ≠ w.heap.size + 1 := fun e => nR4R5 e.symm
    go_region_with (go_at_call 62; first | (refine (anyFraction_any (w.heap.size + 3) ((0 + 60) + 40) _ HcA.out (by omega)).mono ?_; rintro e wB ⟨⟨z1, z2, rfl⟩, hcB, hdB⟩; have SwB := Lib.hid (show wA.heap.size + 0 ≤ wB.heap.size by have h9 := hdB.size; (try simp only [World.size_alloc, World.size_setCell, World.size_drew] at h9); omega); have HcB := Lib.hid hcB; have HdB := Lib.hid (Dg.trans HdA.out hdB); have h9E : Blk wB (w1.heap.size) 25 #[.int .i64 a, .int .i64 b] := Blk.dg NwAE.out hdB (show w1.heap.size ≠ (w.heap.size + 3) by have := Hgl.out; have := S1.out; have := S2.out; have := S3.out; omega); have zwBE0 := h9E.cell 0; have zwBE1 := h9E.cell 1; simp at zwBE0 zwBE1; have lwBE := h9E.lt; have NwBE := Lib.hid h9E; clear h9E; have h9R2 : Blk wB (w.heap.size) 25 #[.int .i64 0, .int .i64 0] := Blk.dg NwAR2.out hdB (show w.heap.size ≠ (w.heap.size + 3) by have := Hgl.out; have := S1.out; have := S2.out; have := S3.out; omega); have zwBR20 := h9R2.cell 0; have zwBR21 := h9R2.cell 1; simp at zwBR20 zwBR21; have lwBR2 := h9R2.lt; have fwBR2 := h9R2.frozen; have NwBR2 := Lib.hid h9R2; clear h9R2; have h9R4 : Blk wB (w.heap.size + 1) 42 #[.int .i64 0, .int .i64 0] := Blk.dg NwAR4.out hdB (show w.heap.size + 1 ≠ (w.heap.size + 3) by have := Hgl.out; have := S1.out; have := S2.out; have := S3.out; omega); have zwBR40 := h9R4.cell 0; have zwBR41 := h9R4.cell 1; simp at zwBR40 zwBR41; have lwBR4 := h9R4.lt; have fwBR4 := h9R4.frozen; have NwBR4 := Lib.hid h9R4; clear h9R4; have h9R5 : Blk wB (w.heap.size + 1 + 1) 42 #[.int .i64 0, .int .i64 0] := Blk.dg NwAR5.out hdB (show w.heap.size + 1 + 1 ≠ (w.heap.size + 3) by have := Hgl.out; have := S1.out; have := S2.out; have := S3.out; omega); have zwBR50 := h9R5.cell 0; have zwBR51 := h9R5.cell 1; simp at zwBR50 zwBR51; have lwBR5 := h9R5.lt; have fwBR5 := h9R5.frozen; have NwBR5 := Lib.hid h9R5; clear h9R5; clear hcB hdB) | (refine (anyFraction_any (w.heap.size + 3) (0 + 60) _ (by first | exact Hc3.out | exact Cur.drewP Hc3.out | exact Cur.drewP (Cur.drewP Hc3.out)) (by omega)).mono ?_; rintro e wA ⟨⟨x1, x2, rfl⟩, hcA, hdA⟩; have SwA := Lib.hid (show w3.heap.size + 0 ≤ wA.heap.size by have h9 := hdA.size; (try simp only [World.size_alloc, World.size_setCell, World.size_drew] at h9); omega); have HcA := Lib.hid hcA; have HdA := Lib.hid (Dg.trans (by first | exact Hd3.out | exact Dg.drew Hd3.out | exact Dg.drew (Dg.drew Hd3.out)) hdA); have h9E : Blk wA (w1.heap.size) 25 #[.int .i64 a, .int .i64 b] := Blk.dg (by first | exact E.out | exact Blk.drew E.out | exact Blk.drew (Blk.drew E.out)) hdA (show w1.heap.size ≠ (w.heap.size + 3) by have := Hgl.out; have := S1.out; have := S2.out; have := S3.out; omega); have zwAE0 := h9E.cell 0; have zwAE1 := h9E.cell 1; simp at zwAE0 zwAE1; have lwAE := h9E.lt; have NwAE := Lib.hid h9E; clear h9E; have h9R2 : Blk wA (w.heap.size) 25 #[.int .i64 0, .int .i64 0] := Blk.dg (by first | exact R2.out | exact Blk.drew R2.out | exact Blk.drew (Blk.drew R2.out)) hdA (show w.heap.size ≠ (w.heap.size + 3) by have := Hgl.out; have := S1.out; have := S2.out; have := S3.out; omega); have zwAR20 := h9R2.cell 0; have zwAR21 := h9R2.cell 1; simp at zwAR20 zwAR21; have lwAR2 := h9R2.lt; have fwAR2 := h9R2.frozen; have NwAR2 := Lib.hid h9R2; clear h9R2; have h9R4 : Blk wA (w.heap.size + 1) 42 #[.int .i64 0, .int .i64 0] := Blk.dg (by first | exact R4.out | exact Blk.drew R4.out | exact Blk.drew (Blk.drew R4.out)) hdA (show w.heap.size + 1 ≠ (w.heap.size + 3) by have := Hgl.out; have := S1.out; have := S2.out; have := S3.out; omega); have zwAR40 := h9R4.cell 0; have zwAR41 := h9R4.cell 1; simp at zwAR40 zwAR41; have lwAR4 := h9R4.lt; have fwAR4 := h9R4.frozen; have NwAR4 := Lib.hid h9R4; clear h9R4; have h9R5 : Blk wA (w.heap.size + 1 + 1) 42 #[.int .i64 0, .int .i64 0] := Blk.dg (by first | exact R5.out | exact Blk.drew R5.out | exact Blk.drew (Blk.drew R5.out)) hdA (show w.heap.size + 1 + 1 ≠ (w.heap.size + 3) by have := Hgl.out; have := S1.out; have := S2.out; have := S3.out; omega); have zwAR50 := h9R5.cell 0; have zwAR51 := h9R5.cell 1; simp at zwAR50 zwAR51; have lwAR5 := h9R5.lt; have fwAR5 := h9R5.frozen; have NwAR5 := Lib.hid h9R5; clear h9R5; clear hcA hdA))
    all_goals
      try go_wp2
      have R2 := NwBR2
      have R4 := NwBR4
      have R5 := NwBR5
      have HR2 := (show Blk (World.setCell (World.setCell (World.setCell (World.setCell (World.setCell (World.setCell wB ⟨w.heap.size, 0, none⟩ (.int .i64 a)) ⟨w.heap.size, 1, none⟩ (.int .i64 b)) ⟨w.heap.size + 1, 0, none⟩ (.int .i64 x1)) ⟨w.heap.size + 1, 1, none⟩ (.int .i64 x2)) ⟨w.heap.size + 1 + 1, 0, none⟩ (.int .i64 z1)) ⟨w.heap.size + 1 + 1, 1, none⟩ (.int .i64 z2)) (w.heap.size) 25 #[.int .i64 a, .int .i64 b] by have h9 := ((((((R2.out.set 0 (.int .i64 a)).set 1 (.int .i64 b)).far (p := ⟨w.heap.size + 1, 0, none⟩) (show w.heap.size ≠ w.heap.size + 1 by have := Hgl.out; have := S1.out; have := S2.out; have := S3.out; have := SwA.out; have := SwB.out; omega) (.int .i64 x1)).far (p := ⟨w.heap.size + 1, 1, none⟩) (show w.heap.size ≠ w.heap.size + 1 by have := Hgl.out; have := S1.out; have := S2.out; have := S3.out; have := SwA.out; have := SwB.out; omega) (.int .i64 x2)).far (p := ⟨w.heap.size + 1 + 1, 0, none⟩) (show w.heap.size ≠ w.heap.size + 1 + 1 by have := Hgl.out; have := S1.out; have := S2.out; have := S3.out; have := SwA.out; have := SwB.out; omega) (.int .i64 z1)).far (p := ⟨w.heap.size + 1 + 1, 1, none⟩) (show w.heap.size ≠ w.heap.size + 1 + 1 by have := Hgl.out; have := S1.out; have := S2.out; have := S3.out; have := SwA.out; have := SwB.out; omega) (.int .i64 z2)); simpa using h9)
      have kR20 := HR2.cell 0; have kR21 := HR2.cell 1
      have HR4 := (show Blk (World.setCell (World.setCell (World.setCell (World.setCell (World.setCell (World.setCell wB ⟨w.heap.size, 0, none⟩ (.int .i64 a)) ⟨w.heap.size, 1, none⟩ (.int .i64 b)) ⟨w.heap.size + 1, 0, none⟩ (.int .i64 x1)) ⟨w.heap.size + 1, 1, none⟩ (.int .i64 x2)) ⟨w.heap.size + 1 + 1, 0, none⟩ (.int .i64 z1)) ⟨w.heap.size + 1 + 1, 1, none⟩ (.int .i64 z2)) (w.heap.size + 1) 42 #[.int .i64 x1, .int .i64 x2] by have h9 := ((((((R4.out.far (p := ⟨w.heap.size, 0, none⟩) (show w.heap.size + 1 ≠ w.heap.size by have := Hgl.out; have := S1.out; have := S2.out; have := S3.out; have := SwA.out; have := SwB.out; omega) (.int .i64 a)).far (p := ⟨w.heap.size, 1, none⟩) (show w.heap.size + 1 ≠ w.heap.size by have := Hgl.out; have := S1.out; have := S2.out; have := S3.out; have := SwA.out; have := SwB.out; omega) (.int .i64 b)).set 0 (.int .i64 x1)).set 1 (.int .i64 x2)).far (p := ⟨w.heap.size + 1 + 1, 0, none⟩) (show w.heap.size + 1 ≠ w.heap.size + 1 + 1 by have := Hgl.out; have := S1.out; have := S2.out; have := S3.out; have := SwA.out; have := SwB.out; omega) (.int .i64 z1)).far (p := ⟨w.heap.size + 1 + 1, 1, none⟩) (show w.heap.size + 1 ≠ w.heap.size + 1 + 1 by have := Hgl.out; have := S1.out; have := S2.out; have := S3.out; have := SwA.out; have := SwB.out; omega) (.int .i64 z2)); simpa using h9)
      have kR40 := HR4.cell 0; have kR41 := HR4.cell 1
      have HR5 := (show Blk (World.setCell (World.setCell (World.setCell (World.setCell (World.setCell (World.setCell wB ⟨w.heap.size, 0, none⟩ (.int .i64 a)) ⟨w.heap.size, 1, none⟩ (.int .i64 b)) ⟨w.heap.size + 1, 0, none⟩ (.int .i64 x1)) ⟨w.heap.size + 1, 1, none⟩ (.int .i64 x2)) ⟨w.heap.size + 1 + 1, 0, none⟩ (.int .i64 z1)) ⟨w.heap.size + 1 + 1, 1, none⟩ (.int .i64 z2)) (w.heap.size + 1 + 1) 42 #[.int .i64 z1, .int .i64 z2] by have h9 := ((((((R5.out.far (p := ⟨w.heap.size, 0, none⟩) (show w.heap.size + 1 + 1 ≠ w.heap.size by have := Hgl.out; have := S1.out; have := S2.out; have := S3.out; have := SwA.out; have := SwB.out; omega) (.int .i64 a)).far (p := ⟨w.heap.size, 1, none⟩) (show w.heap.size + 1 + 1 ≠ w.heap.size by have := Hgl.out; have := S1.out; have := S2.out; have := S3.out; have := SwA.out; have := SwB.out; omega) (.int .i64 b)).far (p := ⟨w.heap.size + 1, 0, none⟩) (show w.heap.size + 1 + 1 ≠ w.heap.size + 1 by have := Hgl.out; have := S1.out; have := S2.out; have := S3.out; have := SwA.out; have := SwB.out; omega) (.int .i64 x1)).far (p := ⟨w.heap.size + 1, 1, none⟩) (show w.heap.size + 1 + 1 ≠ w.heap.size + 1 by have := Hgl.out; have := S1.out; have := S2.out; have := S3.out; have := SwA.out; have := SwB.out; omega) (.int .i64 x2)).set 0 (.int .i64 z1)).set 1 (.int .i64 z2)); simpa using h9)
      have kR50 := HR5.cell 0; have kR51 := HR5.cell 1
      simp at kR20 kR21 kR40 kR41 kR50 kR51
      exact bodyPost_ret (v := .tuple #[.agg #[.int .i64 a, .int .i64 b], .int .i64 y, .agg #[.int .i64 x1, .int .i64 x2], .agg #[.int .i64 z1, .int .i64 z2]]) (by simp [results, Tryz.results18, go_sem, kR20, kR21, kR40, kR41, kR50, kR51]) rfl ⟨⟨a, b, y, _, _, _, _, rfl⟩, ((((((HdB.out.st (p := ⟨w.heap.size, 0, none⟩) (show w.heap.size ≤ w.heap.size by have := Hgl.out; have := S1.out; have := S2.out; have := S3.out; have := SwA.out; have := SwB.out; omega) (.int .i64 a)).st (p := ⟨w.heap.size, 1, none⟩) (show w.heap.size ≤ w.heap.size by have := Hgl.out; have := S1.out; have := S2.out; have := S3.out; have := SwA.out; have := SwB.out; omega) (.int .i64 b)).st (p := ⟨w.heap.size + 1, 0, none⟩) (show w.heap.size ≤ w.heap.size + 1 by have := Hgl.out; have := S1.out; have := S2.out; have := S3.out; have := SwA.out; have := SwB.out; omega) (.int .i64 x1)).st (p := ⟨w.heap.size + 1, 1, none⟩) (show w.heap.size ≤ w.heap.size + 1 by have := Hgl.out; have := S1.out; have := S2.out; have := S3.out; have := SwA.out; have := SwB.out; omega) (.int .i64 x2)).st (p := ⟨w.heap.size + 1 + 1, 0, none⟩) (show w.heap.size ≤ w.heap.size + 1 + 1 by have := Hgl.out; have := S1.out; have := S2.out; have := S3.out; have := SwA.out; have := SwB.out; omega) (.int .i64 z1)).st (p := ⟨w.heap.size + 1 + 1, 1, none⟩) (show w.heap.size ≤ w.heap.size + 1 + 1 by have := Hgl.out; have := S1.out; have := S2.out; have := S3.out; have := SwA.out; have := SwB.out; omega) (.int .i64 z2)).below (by have := S1.out; have := S2.out; have := S3.out; have := SwA.out; have := SwB.out; omega) (Nat.le_refl _)⟩
  · have Hcv := Lib.hid hcv; clear hcv
    have qE0 := E.out.cell 0
    have qE1 := E.out.cell 1
    simp at qE0 qE1
    have qEl := E.out.lt
    go_wp2_with fail
    refine (cvS_lit Hcv.out _).mono ?_; rintro e w4 ⟨rfl, hd4⟩
    clear qE0 qE1 qEl
    have S4 := Lib.hid (show w2.heap.size + 0 ≤ w4.heap.size by have h9 := hd4.size; (try simp only [World.size_alloc, World.size_setCell] at h9); omega)
    have NR2 := Lib.hid (R2.out.dg (Dg.of_below (g := (w.heap.size + 3)) hd4) (show w.heap.size ≠ (w.heap.size + 3) by have := Hgl.out; have := S1.out; have := S2.out; have := S4.out; omega))
    have NR4 := Lib.hid (R4.out.dg (Dg.of_below (g := (w.heap.size + 3)) hd4) (show w.heap.size + 1 ≠ (w.heap.size + 3) by have := Hgl.out; have := S1.out; have := S2.out; have := S4.out; omega))
    have NR5 := Lib.hid (R5.out.dg (Dg.of_below (g := (w.heap.size + 3)) hd4) (show w.heap.size + 1 + 1 ≠ (w.heap.size + 3) by have := Hgl.out; have := S1.out; have := S2.out; have := S4.out; omega))
    have NE := Lib.hid (E.out.dg (Dg.of_below (g := (w.heap.size + 3)) hd4) (show w1.heap.size ≠ (w.heap.size + 3) by have := Hgl.out; have := S1.out; have := S2.out; have := S4.out; omega))
    have R2 := NR2; clear NR2
    have R4 := NR4; clear NR4
    have R5 := NR5; clear NR5
    have E := NE; clear NE
    have Hc4 := Lib.hid (Hc2.out.on hd4)
    have Hd4 := Lib.hid (Hd2.out.trans (Dg.of_below (g := (w.heap.size + 3)) hd4))
    clear hd4
    go_wp2_with fail
    refine (one_any (w.heap.size + 3) (0 + 60) (6) _ Hc4.out (by omega)).mono ?_; rintro e w5 ⟨⟨o, rfl⟩, hc5, hd5⟩
    have S5 := Lib.hid (show w4.heap.size + 0 ≤ w5.heap.size by have h9 := hd5.size; (try simp only [World.size_alloc, World.size_setCell] at h9); omega)
    have NR2 := Lib.hid (R2.out.dg hd5 (show w.heap.size ≠ (w.heap.size + 3) by have := Hgl.out; have := S1.out; have := S2.out; have := S4.out; have := S5.out; omega))
    have NR4 := Lib.hid (R4.out.dg hd5 (show w.heap.size + 1 ≠ (w.heap.size + 3) by have := Hgl.out; have := S1.out; have := S2.out; have := S4.out; have := S5.out; omega))
    have NR5 := Lib.hid (R5.out.dg hd5 (show w.heap.size + 1 + 1 ≠ (w.heap.size + 3) by have := Hgl.out; have := S1.out; have := S2.out; have := S4.out; have := S5.out; omega))
    have NE := Lib.hid (E.out.dg hd5 (show w1.heap.size ≠ (w.heap.size + 3) by have := Hgl.out; have := S1.out; have := S2.out; have := S4.out; have := S5.out; omega))
    have R2 := NR2; clear NR2
    have R4 := NR4; clear NR4
    have R5 := NR5; clear NR5
    have E := NE; clear NE
    have Hc5 := Lib.hid (hc5.mono (j := 0 + 62) (by omega))
    have Hd5 := Lib.hid (Hd4.out.trans hd5)
    clear hc5 hd5
    cases o
    · have qE0 := E.out.cell 0
      have qE1 := E.out.cell 1
      simp at qE0 qE1
      have qEl := E.out.lt
      go_wp2_with fail
      refine (pointOn_any (w.heap.size + 3) (0 + 62) a b _ Hc5.out (by omega)).mono ?_; rintro e w6 ⟨⟨px, py, pe, rfl, pe0, pe1⟩, hc6, hd6⟩
      clear qE0 qE1 qEl
      have S6 := Lib.hid (show w5.heap.size + 0 ≤ w6.heap.size by have h9 := hd6.size; (try simp only [World.size_alloc, World.size_setCell] at h9); omega)
      have NR2 := Lib.hid (R2.out.dg hd6 (show w.heap.size ≠ (w.heap.size + 3) by have := Hgl.out; have := S1.out; have := S2.out; have := S4.out; have := S5.out; have := S6.out; omega))
      have NR4 := Lib.hid (R4.out.dg hd6 (show w.heap.size + 1 ≠ (w.heap.size + 3) by have := Hgl.out; have := S1.out; have := S2.out; have := S4.out; have := S5.out; have := S6.out; omega))
      have NR5 := Lib.hid (R5.out.dg hd6 (show w.heap.size + 1 + 1 ≠ (w.heap.size + 3) by have := Hgl.out; have := S1.out; have := S2.out; have := S4.out; have := S5.out; have := S6.out; omega))
      have NE := Lib.hid (E.out.dg hd6 (show w1.heap.size ≠ (w.heap.size + 3) by have := Hgl.out; have := S1.out; have := S2.out; have := S4.out; have := S5.out; have := S6.out; omega))
      have R2 := NR2; clear NR2
      have R4 := NR4; clear NR4
      have R5 := NR5; clear NR5
      have E := NE; clear NE
      have Hc6 := Lib.hid (hc6.mono (j := 0 + 72) (by omega))
      have Hd6 := Lib.hid (Hd5.out.trans hd6)
      clear hc6 hd6
      by_cases hpe : 0 < pe
      · have hpe2 : decide (0 < pe) = true := decide_eq_true hpe
        obtain ⟨m1, m2⟩ := pos_mul (show 1 ≤ pe by omega) pe1 (show 1 ≤ pe by omega) pe1
        obtain ⟨m3, m4⟩ := pos_mul m1 m2 (show 1 ≤ pe by omega) pe1
        go_wp2_with fail
        refine (frMakeX px (pe * pe) _ (by omega) (by omega)).mono ?_; rintro e w7 ⟨⟨x1, x2, k1, rfl⟩, hd7⟩
        have S7 := Lib.hid (show w6.heap.size + 1 ≤ w7.heap.size by have h9 := hd7.size; (try simp only [World.size_alloc, World.size_setCell] at h9); omega)
        have NR2 := Lib.hid ((R2.out.alloc _).dg (Dg.of_below (g := (w.heap.size + 3)) hd7) (show w.heap.size ≠ (w.heap.size + 3) by have := Hgl.out; have := S1.out; have := S2.out; have := S4.out; have := S5.out; have := S6.out; have := S7.out; omega))
        have NR4 := Lib.hid ((R4.out.alloc _).dg (Dg.of_below (g := (w.heap.size + 3)) hd7) (show w.heap.size + 1 ≠ (w.heap.size + 3) by have := Hgl.out; have := S1.out; have := S2.out; have := S4.out; have := S5.out; have := S6.out; have := S7.out; omega))
        have NR5 := Lib.hid ((R5.out.alloc _).dg (Dg.of_below (g := (w.heap.size + 3)) hd7) (show w.heap.size + 1 + 1 ≠ (w.heap.size + 3) by have := Hgl.out; have := S1.out; have := S2.out; have := S4.out; have := S5.out; have := S6.out; have := S7.out; omega))
        have NE := Lib.hid ((E.out.alloc _).dg (Dg.of_below (g := (w.heap.size + 3)) hd7) (show w1.heap.size ≠ (w.heap.size + 3) by have := Hgl.out; have := S1.out; have := S2.out; have := S4.out; have := S5.out; have := S6.out; have := S7.out; omega))
        have NP1 := Lib.hid ((Blk.new w6 83 #[.int .i64 px, .int .i64 py, .int .i64 pe]).dg (Dg.of_below (g := (w.heap.size + 3)) hd7) (show w6.heap.size ≠ (w.heap.size + 3) by have := Hgl.out; have := S1.out; have := S2.out; have := S4.out; have := S5.out; have := S6.out; have := S7.out; omega))
        have R2 := NR2; clear NR2
        have R4 := NR4; clear NR4
        have R5 := NR5; clear NR5
        have E := NE; clear NE
        have P1 := NP1; clear NP1
        have Hc7 := Lib.hid ((Hc6.out.alloc _).on hd7)
        have Hd7 := Lib.hid ((Hd6.out.alloc _).trans (Dg.of_below (g := (w.heap.size + 3)) hd7))
        clear hd7
        have qP10 := P1.out.cell 0
        have qP11 := P1.out.cell 1
        have qP12 := P1.out.cell 2
        simp at qP10 qP11 qP12
        have qP1l := P1.out.lt
        go_wp2_with fail
        refine (frMakeX py (pe * pe * pe) _ (by omega) (by omega)).mono ?_; rintro e w8 ⟨⟨z1, z2, k2, rfl⟩, hd8⟩
        clear qP10 qP11 qP12 qP1l
        have S8 := Lib.hid (show w7.heap.size + 1 ≤ w8.heap.size by have h9 := hd8.size; (try simp only [World.size_alloc, World.size_setCell] at h9); omega)
        have NR2 := Lib.hid ((R2.out.alloc _).dg (Dg.of_below (g := (w.heap.size + 3)) hd8) (show w.heap.size ≠ (w.heap.size + 3) by have := Hgl.out; have := S1.out; have := S2.out; have := S4.out; have := S5.out; have := S6.out; have := S7.out; have := S8.out; omega))
        have NR4 := Lib.hid ((R4.out.alloc _).dg (Dg.of_below (g := (w.heap.size + 3)) hd8) (show w.heap.size + 1 ≠ (w.heap.size + 3) by have := Hgl.out; have := S1.out; have := S2.out; have := S4.out; have := S5.out; have := S6.out; have := S7.out; have := S8.out; omega))
        have NR5 := Lib.hid ((R5.out.alloc _).dg (Dg.of_below (g := (w.heap.size + 3)) hd8) (show w.heap.size + 1 + 1 ≠ (w.heap.size + 3) by have := Hgl.out; have := S1.out; have := S2.out; have := S4.out; have := S5.out; have := S6.out; have := S7.out; have := S8.out; omega))
        have NE := Lib.hid ((E.out.alloc _).dg (Dg.of_below (g := (w.heap.size + 3)) hd8) (show w1.heap.size ≠ (w.heap.size + 3) by have := Hgl.out; have := S1.out; have := S2.out; have := S4.out; have := S5.out; have := S6.out; have := S7.out; have := S8.out; omega))
        have NP1 := Lib.hid ((P1.out.alloc _).dg (Dg.of_below (g := (w.heap.size + 3)) hd8) (show w6.heap.size ≠ (w.heap.size + 3) by have := Hgl.out; have := S1.out; have := S2.out; have := S4.out; have := S5.out; have := S6.out; have := S7.out; have := S8.out; omega))
        have NX1 := Lib.hid ((Blk.new w7 42 #[.int .i64 x1, .int .i64 x2]).dg (Dg.of_below (g := (w.heap.size + 3)) hd8) (show w7.heap.size ≠ (w.heap.size + 3) by have := Hgl.out; have := S1.out; have := S2.out; have := S4.out; have := S5.out; have := S6.out; have := S7.out; have := S8.out; omega))
        have R2 := NR2; clear NR2
        have R4 := NR4; clear NR4
        have R5 := NR5; clear NR5
        have E := NE; clear NE
        have P1 := NP1; clear NP1
        have X1 := NX1; clear NX1
        have Hc8 := Lib.hid ((Hc7.out.alloc _).on hd8)
        have Hd8 := Lib.hid ((Hd7.out.alloc _).trans (Dg.of_below (g := (w.heap.size + 3)) hd8))
        clear hd8
        cases k1
        · go_wp2_with fail
          obtain ⟨wt, hw9⟩ : ∃ x, x = (World.alloc w8 (Obj.cells #[.int .i64 z1, .int .i64 z2] 42)) := ⟨_, rfl⟩
          rw [← hw9]
          have hd9 : Dg (w.heap.size + 3) (World.alloc w8 (Obj.cells #[.int .i64 z1, .int .i64 z2] 42)) wt := by rw [hw9]; exact Dg.refl _ _
          have hc9 : Cur wt (w.heap.size + 3) (0 + 72) := by rw [hw9]; exact (Hc8.out.alloc _)
          have S9 := Lib.hid (show w8.heap.size + 1 ≤ wt.heap.size by have h9 := hd9.size; (try simp only [World.size_alloc, World.size_setCell] at h9); omega)
          have NR2 := Lib.hid ((R2.out.alloc _).dg hd9 (show w.heap.size ≠ (w.heap.size + 3) by have := Hgl.out; have := S1.out; have := S2.out; have := S4.out; have := S5.out; have := S6.out; have := S7.out; have := S8.out; have := S9.out; omega))
          have NR4 := Lib.hid ((R4.out.alloc _).dg hd9 (show w.heap.size + 1 ≠ (w.heap.size + 3) by have := Hgl.out; have := S1.out; have := S2.out; have := S4.out; have := S5.out; have := S6.out; have := S7.out; have := S8.out; have := S9.out; omega))
          have NR5 := Lib.hid ((R5.out.alloc _).dg hd9 (show w.heap.size + 1 + 1 ≠ (w.heap.size + 3) by have := Hgl.out; have := S1.out; have := S2.out; have := S4.out; have := S5.out; have := S6.out; have := S7.out; have := S8.out; have := S9.out; omega))
          have NE := Lib.hid ((E.out.alloc _).dg hd9 (show w1.heap.size ≠ (w.heap.size + 3) by have := Hgl.out; have := S1.out; have := S2.out; have := S4.out; have := S5.out; have := S6.out; have := S7.out; have := S8.out; have := S9.out; omega))
          have NP1 := Lib.hid ((P1.out.alloc _).dg hd9 (show w6.heap.size ≠ (w.heap.size + 3) by have := Hgl.out; have := S1.out; have := S2.out; have := S4.out; have := S5.out; have := S6.out; have := S7.out; have := S8.out; have := S9.out; omega))
          have NX1 := Lib.hid ((X1.out.alloc _).dg hd9 (show w7.heap.size ≠ (w.heap.size + 3) by have := Hgl.out; have := S1.out; have := S2.out; have := S4.out; have := S5.out; have := S6.out; have := S7.out; have := S8.out; have := S9.out; omega))
          have NX2 := Lib.hid ((Blk.new w8 42 #[.int .i64 z1, .int .i64 z2]).dg hd9 (show w8.heap.size ≠ (w.heap.size + 3) by have := Hgl.out; have := S1.out; have := S2.out; have := S4.out; have := S5.out; have := S6.out; have := S7.out; have := S8.out; have := S9.out; omega))
          have R2 := NR2; clear NR2
          have R4 := NR4; clear NR4
          have R5 := NR5; clear NR5
          have E := NE; clear NE
          have P1 := NP1; clear NP1
          have X1 := NX1; clear NX1
          have X2 := NX2; clear NX2
          have Hc9 := Lib.hid (hc9.mono (j := 0 + 72) (by omega))
          have Hd9 := Lib.hid ((Hd8.out.alloc _).trans hd9)
          clear hc9 hd9
          clear hw9
          have qE0 := E.out.cell 0
          have qE1 := E.out.cell 1
          simp at qE0 qE1
          have qEl := E.out.lt
          have qR20 := R2.out.cell 0
          have qR21 := R2.out.cell 1
          simp at qR20 qR21
          have qR2l := R2.out.lt
          have qR2f := R2.out.frozen
          have qR40 := R4.out.cell 0
          have qR41 := R4.out.cell 1
          simp at qR40 qR41
          have qR4l := R4.out.lt
          have qR4f := R4.out.frozen
          have qR50 := R5.out.cell 0
          have qR51 := R5.out.cell 1
          simp at qR50 qR51
          have qR5l := R5.out.lt
          have qR5f := R5.out.frozen
          have nER2 : w1.heap.size ≠ w.heap.size := by have := Hgl.out; have := S1.out; have := S2.out; have := S4.out; have := S5.out; have := S6.out; have := S7.out; have := S8.out; have := S9.out; omega
          have nR2E : w.heap.size ≠ w1.heap.size := fun e => nER2 e.symm
          have nER4 : w1.heap.size ≠ w.heap.size + 1 := by have := Hgl.out; have := S1.out; have := S2.out; have := S4.out; have := S5.out; have := S6.out; have := S7.out; have := S8.out; have := S9.out; omega
          have nR4E : w.heap.size + 1 ≠ w1.heap.size := fun e => nER4 e.symm
          have nER5 : w1.heap.size ≠ w.heap.size + 1 + 1 := by have := Hgl.out; have := S1.out; have := S2.out; have := S4.out; have := S5.out; have := S6.out; have := S7.out; have := S8.out; have := S9.out; omega
          have nR5E : w.heap.size + 1 + 1 ≠ w1.heap.size := fun e => nER5 e.symm
          have nR2R4 : w.heap.size ≠ w.heap.size + 1 := by have := Hgl.out; have := S1.out; have := S2.out; have := S4.out; have := S5.out; have := S6.out; have := S7.out; have := S8.out; have := S9.out; omega
          have nR4R2 : w.heap.size + 1 ≠ w.heap.size := fun e => nR2R4 e.symm
          have nR2R5 : w.heap.size ≠ w.heap.size + 1 + 1 := by have := Hgl.out; have := S1.out; have := S2.out; have := S4.out; have := S5.out; have := S6.out; have := S7.out; have := S8.out; have := S9.out; omega
          have nR5R2 : w.heap.size + 1 + 1 ≠ w.heap.size := fun e => nR2R5 e.symm
          have nR4R5 : w.heap.size + 1 ≠ w.heap.size + 1 + 1 := by have := Hgl.out; have := S1.out; have := S2.out; have := S4.out; have := S5.out; have := S6.out; have := S7.out; have := S8.out; have := S9.out; omega
          have nR5R4 : w.heap.size + 1 + 1 ≠ w.heap.size + 1 := fun e => nR4R5 e.symm
          go_region_with (go_at_call 62; first | (refine (anyFraction_any (w.heap.size + 3) ((0 + 72) + 40) _ HcA.out (by omega)).mono ?_; rintro e wB ⟨⟨z1, z2, rfl⟩, hcB, hdB⟩; have SwB := Lib.hid (show wA.heap.size + 0 ≤ wB.heap.size by have h9 := hdB.size; (try simp only [World.size_alloc, World.size_setCell, World.size_drew] at h9); omega); have HcB := Lib.hid hcB; have HdB := Lib.hid (Dg.trans HdA.out hdB); have h9E : Blk wB (w1.heap.size) 25 #[.int .i64 a, .int .i64 b] := Blk.dg NwAE.out hdB (show w1.heap.size ≠ (w.heap.size + 3) by have := Hgl.out; have := S1.out; have := S2.out; have := S4.out; have := S5.out; have := S6.out; have := S7.out; have := S8.out; have := S9.out; omega); have zwBE0 := h9E.cell 0; have zwBE1 := h9E.cell 1; simp at zwBE0 zwBE1; have lwBE := h9E.lt; have NwBE := Lib.hid h9E; clear h9E; have h9R2 : Blk wB (w.heap.size) 25 #[.int .i64 0, .int .i64 0] := Blk.dg NwAR2.out hdB (show w.heap.size ≠ (w.heap.size + 3) by have := Hgl.out; have := S1.out; have := S2.out; have := S4.out; have := S5.out; have := S6.out; have := S7.out; have := S8.out; have := S9.out; omega); have zwBR20 := h9R2.cell 0; have zwBR21 := h9R2.cell 1; simp at zwBR20 zwBR21; have lwBR2 := h9R2.lt; have fwBR2 := h9R2.frozen; have NwBR2 := Lib.hid h9R2; clear h9R2; have h9R4 : Blk wB (w.heap.size + 1) 42 #[.int .i64 0, .int .i64 0] := Blk.dg NwAR4.out hdB (show w.heap.size + 1 ≠ (w.heap.size + 3) by have := Hgl.out; have := S1.out; have := S2.out; have := S4.out; have := S5.out; have := S6.out; have := S7.out; have := S8.out; have := S9.out; omega); have zwBR40 := h9R4.cell 0; have zwBR41 := h9R4.cell 1; simp at zwBR40 zwBR41; have lwBR4 := h9R4.lt; have fwBR4 := h9R4.frozen; have NwBR4 := Lib.hid h9R4; clear h9R4; have h9R5 : Blk wB (w.heap.size + 1 + 1) 42 #[.int .i64 0, .int .i64 0] := Blk.dg NwAR5.out hdB (show w.heap.size + 1 + 1 ≠ (w.heap.size + 3) by have := Hgl.out; have := S1.out; have := S2.out; have := S4.out; have := S5.out; have := S6.out; have := S7.out; have := S8.out; have := S9.out; omega); have zwBR50 := h9R5.cell 0; have zwBR51 := h9R5.cell 1; simp at zwBR50 zwBR51; have lwBR5 := h9R5.lt; have fwBR5 := h9R5.frozen; have NwBR5 := Lib.hid h9R5; clear h9R5; clear hcB hdB) | (refine (anyFraction_any (w.heap.size + 3) (0 + 72) _ (by first | exact Hc9.out | exact Cur.drewP Hc9.out | exact Cur.drewP (Cur.drewP Hc9.out)) (by omega)).mono ?_; rintro e wA ⟨⟨x1, x2, rfl⟩, hcA, hdA⟩; have SwA := Lib.hid (show wt.heap.size + 0 ≤ wA.heap.size by have h9 := hdA.size; (try simp only [World.size_alloc, World.size_setCell, World.size_drew] at h9); omega); have HcA := Lib.hid hcA; have HdA := Lib.hid (Dg.trans (by first | exact Hd9.out | exact Dg.drew Hd9.out | exact Dg.drew (Dg.drew Hd9.out)) hdA); have h9E : Blk wA (w1.heap.size) 25 #[.int .i64 a, .int .i64 b] := Blk.dg (by first | exact E.out | exact Blk.drew E.out | exact Blk.drew (Blk.drew E.out)) hdA (show w1.heap.size ≠ (w.heap.size + 3) by have := Hgl.out; have := S1.out; have := S2.out; have := S4.out; have := S5.out; have := S6.out; have := S7.out; have := S8.out; have := S9.out; omega); have zwAE0 := h9E.cell 0; have zwAE1 := h9E.cell 1; simp at zwAE0 zwAE1; have lwAE := h9E.lt; have NwAE := Lib.hid h9E; clear h9E; have h9R2 : Blk wA (w.heap.size) 25 #[.int .i64 0, .int .i64 0] := Blk.dg (by first | exact R2.out | exact Blk.drew R2.out | exact Blk.drew (Blk.drew R2.out)) hdA (show w.heap.size ≠ (w.heap.size + 3) by have := Hgl.out; have := S1.out; have := S2.out; have := S4.out; have := S5.out; have := S6.out; have := S7.out; have := S8.out; have := S9.out; omega); have zwAR20 := h9R2.cell 0; have zwAR21 := h9R2.cell 1; simp at zwAR20 zwAR21; have lwAR2 := h9R2.lt; have fwAR2 := h9R2.frozen; have NwAR2 := Lib.hid h9R2; clear h9R2; have h9R4 : Blk wA (w.heap.size + 1) 42 #[.int .i64 0, .int .i64 0] := Blk.dg (by first | exact R4.out | exact Blk.drew R4.out | exact Blk.drew (Blk.drew R4.out)) hdA (show w.heap.size + 1 ≠ (w.heap.size + 3) by have := Hgl.out; have := S1.out; have := S2.out; have := S4.out; have := S5.out; have := S6.out; have := S7.out; have := S8.out; have := S9.out; omega); have zwAR40 := h9R4.cell 0; have zwAR41 := h9R4.cell 1; simp at zwAR40 zwAR41; have lwAR4 := h9R4.lt; have fwAR4 := h9R4.frozen; have NwAR4 := Lib.hid h9R4; clear h9R4; have h9R5 : Blk wA (w.heap.size + 1 + 1) 42 #[.int .i64 0, .int .i64 0] := Blk.dg (by first | exact R5.out | exact Blk.drew R5.out | exact Blk.drew (Blk.drew R5.out)) hdA (show w.heap.size + 1 + 1 ≠ (w.heap.size + 3) by have := Hgl.out; have := S1.out; have := S2.out; have := S4.out; have := S5.out; have := S6.out; have := S7.out; have := S8.out; have := S9.out; omega); have zwAR50 := h9R5.cell 0; have zwAR51 := h9R5.cell 1; simp at zwAR50 zwAR51; have lwAR5 := h9R5.lt; have fwAR5 := h9R5.frozen; have NwAR5 := Lib.hid h9R5; clear h9R5; clear hcA hdA))
          all_goals
            try go_wp2
            have R2 := NwBR2
            have R4 := NwBR4
            have R5 := NwBR5
            have HR2 := (show Blk (World.setCell (World.setCell (World.setCell (World.setCell (World.setCell (World.setCell wB ⟨w.heap.size, 0, none⟩ (.int .i64 a)) ⟨w.heap.size, 1, none⟩ (.int .i64 b)) ⟨w.heap.size + 1, 0, none⟩ (.int .i64 x1)) ⟨w.heap.size + 1, 1, none⟩ (.int .i64 x2)) ⟨w.heap.size + 1 + 1, 0, none⟩ (.int .i64 z1)) ⟨w.heap.size + 1 + 1, 1, none⟩ (.int .i64 z2)) (w.heap.size) 25 #[.int .i64 a, .int .i64 b] by have h9 := ((((((R2.out.set 0 (.int .i64 a)).set 1 (.int .i64 b)).far (p := ⟨w.heap.size + 1, 0, none⟩) (show w.heap.size ≠ w.heap.size + 1 by have := Hgl.out; have := S1.out; have := S2.out; have := S4.out; have := S5.out; have := S6.out; have := S7.out; have := S8.out; have := S9.out; have := SwA.out; have := SwB.out; omega) (.int .i64 x1)).far (p := ⟨w.heap.size + 1, 1, none⟩) (show w.heap.size ≠ w.heap.size + 1 by have := Hgl.out; have := S1.out; have := S2.out; have := S4.out; have := S5.out; have := S6.out; have := S7.out; have := S8.out; have := S9.out; have := SwA.out; have := SwB.out; omega) (.int .i64 x2)).far (p := ⟨w.heap.size + 1 + 1, 0, none⟩) (show w.heap.size ≠ w.heap.size + 1 + 1 by have := Hgl.out; have := S1.out; have := S2.out; have := S4.out; have := S5.out; have := S6.out; have := S7.out; have := S8.out; have := S9.out; have := SwA.out; have := SwB.out; omega) (.int .i64 z1)).far (p := ⟨w.heap.size + 1 + 1, 1, none⟩) (show w.heap.size ≠ w.heap.size + 1 + 1 by have := Hgl.out; have := S1.out; have := S2.out; have := S4.out; have := S5.out; have := S6.out; have := S7.out; have := S8.out; have := S9.out; have := SwA.out; have := SwB.out; omega) (.int .i64 z2)); simpa using h9)
            have kR20 := HR2.cell 0; have kR21 := HR2.cell 1
            have HR4 := (show Blk (World.setCell (World.setCell (World.setCell (World.setCell (World.setCell (World.setCell wB ⟨w.heap.size, 0, none⟩ (.int .i64 a)) ⟨w.heap.size, 1, none⟩ (.int .i64 b)) ⟨w.heap.size + 1, 0, none⟩ (.int .i64 x1)) ⟨w.heap.size + 1, 1, none⟩ (.int .i64 x2)) ⟨w.heap.size + 1 + 1, 0, none⟩ (.int .i64 z1)) ⟨w.heap.size + 1 + 1, 1, none⟩ (.int .i64 z2)) (w.heap.size + 1) 42 #[.int .i64 x1, .int .i64 x2] by have h9 := ((((((R4.out.far (p := ⟨w.heap.size, 0, none⟩) (show w.heap.size + 1 ≠ w.heap.size by have := Hgl.out; have := S1.out; have := S2.out; have := S4.out; have := S5.out; have := S6.out; have := S7.out; have := S8.out; have := S9.out; have := SwA.out; have := SwB.out; omega) (.int .i64 a)).far (p := ⟨w.heap.size, 1, none⟩) (show w.heap.size + 1 ≠ w.heap.size by have := Hgl.out; have := S1.out; have := S2.out; have := S4.out; have := S5.out; have := S6.out; have := S7.out; have := S8.out; have := S9.out; have := SwA.out; have := SwB.out; omega) (.int .i64 b)).set 0 (.int .i64 x1)).set 1 (.int .i64 x2)).far (p := ⟨w.heap.size + 1 + 1, 0, none⟩) (show w.heap.size + 1 ≠ w.heap.size + 1 + 1 by have := Hgl.out; have := S1.out; have := S2.out; have := S4.out; have := S5.out; have := S6.out; have := S7.out; have := S8.out; have := S9.out; have := SwA.out; have := SwB.out; omega) (.int .i64 z1)).far (p := ⟨w.heap.size + 1 + 1, 1, none⟩) (show w.heap.size + 1 ≠ w.heap.size + 1 + 1 by have := Hgl.out; have := S1.out; have := S2.out; have := S4.out; have := S5.out; have := S6.out; have := S7.out; have := S8.out; have := S9.out; have := SwA.out; have := SwB.out; omega) (.int .i64 z2)); simpa using h9)
            have kR40 := HR4.cell 0; have kR41 := HR4.cell 1
            have HR5 := (show Blk (World.setCell (World.setCell (World.setCell (World.setCell (World.setCell (World.setCell wB ⟨w.heap.size, 0, none⟩ (.int .i64 a)) ⟨w.heap.size, 1, none⟩ (.int .i64 b)) ⟨w.heap.size + 1, 0, none⟩ (.int .i64 x1)) ⟨w.heap.size + 1, 1, none⟩ (.int .i64 x2)) ⟨w.heap.size + 1 + 1, 0, none⟩ (.int .i64 z1)) ⟨w.heap.size + 1 + 1, 1, none⟩ (.int .i64 z2)) (w.heap.size + 1 + 1) 42 #[.int .i64 z1, .int .i64 z2] by have h9 := ((((((R5.out.far (p := ⟨w.heap.size, 0, none⟩) (show w.heap.size + 1 + 1 ≠ w.heap.size by have := Hgl.out; have := S1.out; have := S2.out; have := S4.out; have := S5.out; have := S6.out; have := S7.out; have := S8.out; have := S9.out; have := SwA.out; have := SwB.out; omega) (.int .i64 a)).far (p := ⟨w.heap.size, 1, none⟩) (show w.heap.size + 1 + 1 ≠ w.heap.size by have := Hgl.out; have := S1.out; have := S2.out; have := S4.out; have := S5.out; have := S6.out; have := S7.out; have := S8.out; have := S9.out; have := SwA.out; have := SwB.out; omega) (.int .i64 b)).far (p := ⟨w.heap.size + 1, 0, none⟩) (show w.heap.size + 1 + 1 ≠ w.heap.size + 1 by have := Hgl.out; have := S1.out; have := S2.out; have := S4.out; have := S5.out; have := S6.out; have := S7.out; have := S8.out; have := S9.out; have := SwA.out; have := SwB.out; omega) (.int .i64 x1)).far (p := ⟨w.heap.size + 1, 1, none⟩) (show w.heap.size + 1 + 1 ≠ w.heap.size + 1 by have := Hgl.out; have := S1.out; have := S2.out; have := S4.out; have := S5.out; have := S6.out; have := S7.out; have := S8.out; have := S9.out; have := SwA.out; have := SwB.out; omega) (.int .i64 x2)).set 0 (.int .i64 z1)).set 1 (.int .i64 z2)); simpa using h9)
            have kR50 := HR5.cell 0; have kR51 := HR5.cell 1
            simp at kR20 kR21 kR40 kR41 kR50 kR51
            exact bodyPost_ret (v := .tuple #[.agg #[.int .i64 a, .int .i64 b], .int .i64 y, .agg #[.int .i64 x1, .int .i64 x2], .agg #[.int .i64 z1, .int .i64 z2]]) (by simp [results, Tryz.results18, go_sem, kR20, kR21, kR40, kR41, kR50, kR51]) rfl ⟨⟨a, b, y, _, _, _, _, rfl⟩, ((((((HdB.out.st (p := ⟨w.heap.size, 0, none⟩) (show w.heap.size ≤ w.heap.size by have := Hgl.out; have := S1.out; have := S2.out; have := S4.out; have := S5.out; have := S6.out; have := S7.out; have := S8.out; have := S9.out; have := SwA.out; have := SwB.out; omega) (.int .i64 a)).st (p := ⟨w.heap.size, 1, none⟩) (show w.heap.size ≤ w.heap.size by have := Hgl.out; have := S1.out; have := S2.out; have := S4.out; have := S5.out; have := S6.out; have := S7.out; have := S8.out; have := S9.out; have := SwA.out; have := SwB.out; omega) (.int .i64 b)).st (p := ⟨w.heap.size + 1, 0, none⟩) (show w.heap.size ≤ w.heap.size + 1 by have := Hgl.out; have := S1.out; have := S2.out; have := S4.out; have := S5.out; have := S6.out; have := S7.out; have := S8.out; have := S9.out; have := SwA.out; have := SwB.out; omega) (.int .i64 x1)).st (p := ⟨w.heap.size + 1, 1, none⟩) (show w.heap.size ≤ w.heap.size + 1 by have := Hgl.out; have := S1.out; have := S2.out; have := S4.out; have := S5.out; have := S6.out; have := S7.out; have := S8.out; have := S9.out; have := SwA.out; have := SwB.out; omega) (.int .i64 x2)).st (p := ⟨w.heap.size + 1 + 1, 0, none⟩) (show w.heap.size ≤ w.heap.size + 1 + 1 by have := Hgl.out; have := S1.out; have := S2.out; have := S4.out; have := S5.out; have := S6.out; have := S7.out; have := S8.out; have := S9.out; have := SwA.out; have := SwB.out; omega) (.int .i64 z1)).st (p := ⟨w.heap.size + 1 + 1, 1, none⟩) (show w.heap.size ≤ w.heap.size + 1 + 1 by have := Hgl.out; have := S1.out; have := S2.out; have := S4.out; have := S5.out; have := S6.out; have := S7.out; have := S8.out; have := S9.out; have := SwA.out; have := SwB.out; omega) (.int .i64 z2)).below (by have := S1.out; have := S2.out; have := S4.out; have := S5.out; have := S6.out; have := S7.out; have := S8.out; have := S9.out; have := SwA.out; have := SwB.out; omega) (Nat.le_refl _)⟩
        · cases k2
          · go_wp2_with fail
            obtain ⟨wt, hw9⟩ : ∃ x, x = (World.alloc w8 (Obj.cells #[.int .i64 z1, .int .i64 z2] 42)) := ⟨_, rfl⟩
            rw [← hw9]
            have hd10 : Dg (w.heap.size + 3) (World.alloc w8 (Obj.cells #[.int .i64 z1, .int .i64 z2] 42)) wt := by rw [hw9]; exact Dg.refl _ _
            have hc10 : Cur wt (w.heap.size + 3) (0 + 72) := by rw [hw9]; exact (Hc8.out.alloc _)
            have S10 := Lib.hid (show w8.heap.size + 1 ≤ wt.heap.size by have h9 := hd10.size; (try simp only [World.size_alloc, World.size_setCell] at h9); omega)
            have NR2 := Lib.hid ((R2.out.alloc _).dg hd10 (show w.heap.size ≠ (w.heap.size + 3) by have := Hgl.out; have := S1.out; have := S2.out; have := S4.out; have := S5.out; have := S6.out; have := S7.out; have := S8.out; have := S10.out; omega))
            have NR4 := Lib.hid ((R4.out.alloc _).dg hd10 (show w.heap.size + 1 ≠ (w.heap.size + 3) by have := Hgl.out; have := S1.out; have := S2.out; have := S4.out; have := S5.out; have := S6.out; have := S7.out; have := S8.out; have := S10.out; omega))
            have NR5 := Lib.hid ((R5.out.alloc _).dg hd10 (show w.heap.size + 1 + 1 ≠ (w.heap.size + 3) by have := Hgl.out; have := S1.out; have := S2.out; have := S4.out; have := S5.out; have := S6.out; have := S7.out; have := S8.out; have := S10.out; omega))
            have NE := Lib.hid ((E.out.alloc _).dg hd10 (show w1.heap.size ≠ (w.heap.size + 3) by have := Hgl.out; have := S1.out; have := S2.out; have := S4.out; have := S5.out; have := S6.out; have := S7.out; have := S8.out; have := S10.out; omega))
            have NP1 := Lib.hid ((P1.out.alloc _).dg hd10 (show w6.heap.size ≠ (w.heap.size + 3) by have := Hgl.out; have := S1.out; have := S2.out; have := S4.out; have := S5.out; have := S6.out; have := S7.out; have := S8.out; have := S10.out; omega))
            have NX1 := Lib.hid ((X1.out.alloc _).dg hd10 (show w7.heap.size ≠ (w.heap.size + 3) by have := Hgl.out; have := S1.out; have := S2.out; have := S4.out; have := S5.out; have := S6.out; have := S7.out; have := S8.out; have := S10.out; omega))
            have NX2 := Lib.hid ((Blk.new w8 42 #[.int .i64 z1, .int .i64 z2]).dg hd10 (show w8.heap.size ≠ (w.heap.size + 3) by have := Hgl.out; have := S1.out; have := S2.out; have := S4.out; have := S5.out; have := S6.out; have := S7.out; have := S8.out; have := S10.out; omega))
            have R2 := NR2; clear NR2
            have R4 := NR4; clear NR4
            have R5 := NR5; clear NR5
            have E := NE; clear NE
            have P1 := NP1; clear NP1
            have X1 := NX1; clear NX1
            have X2 := NX2; clear NX2
            have Hc10 := Lib.hid (hc10.mono (j := 0 + 72) (by omega))
            have Hd10 := Lib.hid ((Hd8.out.alloc _).trans hd10)
            clear hc10 hd10
            clear hw9
            have qE0 := E.out.cell 0
            have qE1 := E.out.cell 1
            simp at qE0 qE1
            have qEl := E.out.lt
            have qR20 := R2.out.cell 0
            have qR21 := R2.out.cell 1
            simp at qR20 qR21
            have qR2l := R2.out.lt
            have qR2f := R2.out.frozen
            have qR40 := R4.out.cell 0
            have qR41 := R4.out.cell 1
            simp at qR40 qR41
            have qR4l := R4.out.lt
            have qR4f := R4.out.frozen
            have qR50 := R5.out.cell 0
            have qR51 := R5.out.cell 1
            simp at qR50 qR51
            have qR5l := R5.out.lt
            have qR5f := R5.out.frozen
            have nER2 : w1.heap.size ≠ w.heap.size := by have := Hgl.out; have := S1.out; have := S2.out; have := S4.out; have := S5.out; have := S6.out; have := S7.out; have := S8.out; have := S10.out; omega
            have nR2E : w.heap.size ≠ w1.heap.size := fun e => nER2 e.symm
            have nER4 : w1.heap.size ≠ w.heap.size + 1 := by have := Hgl.out; have := S1.out; have := S2.out; have := S4.out; have := S5.out; have := S6.out; have := S7.out; have := S8.out; have := S10.out; omega
            have nR4E : w.heap.size + 1 ≠ w1.heap.size := fun e => nER4 e.symm
            have nER5 : w1.heap.size ≠ w.heap.size + 1 + 1 := by have := Hgl.out; have := S1.out; have := S2.out; have := S4.out; have := S5.out; have := S6.out; have := S7.out; have := S8.out; have := S10.out; omega
            have nR5E : w.heap.size + 1 + 1 ≠ w1.heap.size := fun e => nER5 e.symm
            have nR2R4 : w.heap.size ≠ w.heap.size + 1 := by have := Hgl.out; have := S1.out; have := S2.out; have := S4.out; have := S5.out; have := S6.out; have := S7.out; have := S8.out; have := S10.out; omega
            have nR4R2 : w.heap.size + 1 ≠ w.heap.size := fun e => nR2R4 e.symm
            have nR2R5 : w.heap.size ≠ w.heap.size + 1 + 1 := by have := Hgl.out; have := S1.out; have := S2.out; have := S4.out; have := S5.out; have := S6.out; have := S7.out; have := S8.out; have := S10.out; omega
            have nR5R2 : w.heap.size + 1 + 1 ≠ w.heap.size := fun e => nR2R5 e.symm
            have nR4R5 : w.heap.size + 1 ≠ w.heap.size + 1 + 1 := by have := Hgl.out; have := S1.out; have := S2.out; have := S4.out; have := S5.out; have := S6.out; have := S7.out; have := S8.out; have := S10.out; omega
            have nR5R4 : w.heap.size + 1 + 1 ≠ w.heap.size + 1 := fun e => nR4R5 e.symm
            go_region_with (go_at_call 62; first | (refine (anyFraction_any (w.heap.size + 3) ((0 + 72) + 40) _ HcA.out (by omega)).mono ?_; rintro e wB ⟨⟨z1, z2, rfl⟩, hcB, hdB⟩; have SwB := Lib.hid (show wA.heap.size + 0 ≤ wB.heap.size by have h9 := hdB.size; (try simp only [World.size_alloc, World.size_setCell, World.size_drew] at h9); omega); have HcB := Lib.hid hcB; have HdB := Lib.hid (Dg.trans HdA.out hdB); have h9E : Blk wB (w1.heap.size) 25 #[.int .i64 a, .int .i64 b] := Blk.dg NwAE.out hdB (show w1.heap.size ≠ (w.heap.size + 3) by have := Hgl.out; have := S1.out; have := S2.out; have := S4.out; have := S5.out; have := S6.out; have := S7.out; have := S8.out; have := S10.out; omega); have zwBE0 := h9E.cell 0; have zwBE1 := h9E.cell 1; simp at zwBE0 zwBE1; have lwBE := h9E.lt; have NwBE := Lib.hid h9E; clear h9E; have h9R2 : Blk wB (w.heap.size) 25 #[.int .i64 0, .int .i64 0] := Blk.dg NwAR2.out hdB (show w.heap.size ≠ (w.heap.size + 3) by have := Hgl.out; have := S1.out; have := S2.out; have := S4.out; have := S5.out; have := S6.out; have := S7.out; have := S8.out; have := S10.out; omega); have zwBR20 := h9R2.cell 0; have zwBR21 := h9R2.cell 1; simp at zwBR20 zwBR21; have lwBR2 := h9R2.lt; have fwBR2 := h9R2.frozen; have NwBR2 := Lib.hid h9R2; clear h9R2; have h9R4 : Blk wB (w.heap.size + 1) 42 #[.int .i64 0, .int .i64 0] := Blk.dg NwAR4.out hdB (show w.heap.size + 1 ≠ (w.heap.size + 3) by have := Hgl.out; have := S1.out; have := S2.out; have := S4.out; have := S5.out; have := S6.out; have := S7.out; have := S8.out; have := S10.out; omega); have zwBR40 := h9R4.cell 0; have zwBR41 := h9R4.cell 1; simp at zwBR40 zwBR41; have lwBR4 := h9R4.lt; have fwBR4 := h9R4.frozen; have NwBR4 := Lib.hid h9R4; clear h9R4; have h9R5 : Blk wB (w.heap.size + 1 + 1) 42 #[.int .i64 0, .int .i64 0] := Blk.dg NwAR5.out hdB (show w.heap.size + 1 + 1 ≠ (w.heap.size + 3) by have := Hgl.out; have := S1.out; have := S2.out; have := S4.out; have := S5.out; have := S6.out; have := S7.out; have := S8.out; have := S10.out; omega); have zwBR50 := h9R5.cell 0; have zwBR51 := h9R5.cell 1; simp at zwBR50 zwBR51; have lwBR5 := h9R5.lt; have fwBR5 := h9R5.frozen; have NwBR5 := Lib.hid h9R5; clear h9R5; clear hcB hdB) | (refine (anyFraction_any (w.heap.size + 3) (0 + 72) _ (by first | exact Hc10.out | exact Cur.drewP Hc10.out | exact Cur.drewP (Cur.drewP Hc10.out)) (by omega)).mono ?_; rintro e wA ⟨⟨x1, x2, rfl⟩, hcA, hdA⟩; have SwA := Lib.hid (show wt.heap.size + 0 ≤ wA.heap.size by have h9 := hdA.size; (try simp only [World.size_alloc, World.size_setCell, World.size_drew] at h9); omega); have HcA := Lib.hid hcA; have HdA := Lib.hid (Dg.trans (by first | exact Hd10.out | exact Dg.drew Hd10.out | exact Dg.drew (Dg.drew Hd10.out)) hdA); have h9E : Blk wA (w1.heap.size) 25 #[.int .i64 a, .int .i64 b] := Blk.dg (by first | exact E.out | exact Blk.drew E.out | exact Blk.drew (Blk.drew E.out)) hdA (show w1.heap.size ≠ (w.heap.size + 3) by have := Hgl.out; have := S1.out; have := S2.out; have := S4.out; have := S5.out; have := S6.out; have := S7.out; have := S8.out; have := S10.out; omega); have zwAE0 := h9E.cell 0; have zwAE1 := h9E.cell 1; simp at zwAE0 zwAE1; have lwAE := h9E.lt; have NwAE := Lib.hid h9E; clear h9E; have h9R2 : Blk wA (w.heap.size) 25 #[.int .i64 0, .int .i64 0] := Blk.dg (by first | exact R2.out | exact Blk.drew R2.out | exact Blk.drew (Blk.drew R2.out)) hdA (show w.heap.size ≠ (w.heap.size + 3) by have := Hgl.out; have := S1.out; have := S2.out; have := S4.out; have := S5.out; have := S6.out; have := S7.out; have := S8.out; have := S10.out; omega); have zwAR20 := h9R2.cell 0; have zwAR21 := h9R2.cell 1; simp at zwAR20 zwAR21; have lwAR2 := h9R2.lt; have fwAR2 := h9R2.frozen; have NwAR2 := Lib.hid h9R2; clear h9R2; have h9R4 : Blk wA (w.heap.size + 1) 42 #[.int .i64 0, .int .i64 0] := Blk.dg (by first | exact R4.out | exact Blk.drew R4.out | exact Blk.drew (Blk.drew R4.out)) hdA (show w.heap.size + 1 ≠ (w.heap.size + 3) by have := Hgl.out; have := S1.out; have := S2.out; have := S4.out; have := S5.out; have := S6.out; have := S7.out; have := S8.out; have := S10.out; omega); have zwAR40 := h9R4.cell 0; have zwAR41 := h9R4.cell 1; simp at zwAR40 zwAR41; have lwAR4 := h9R4.lt; have fwAR4 := h9R4.frozen; have NwAR4 := Lib.hid h9R4; clear h9R4; have h9R5 : Blk wA (w.heap.size + 1 + 1) 42 #[.int .i64 0, .int .i64 0] := Blk.dg (by first | exact R5.out | exact Blk.drew R5.out | exact Blk.drew (Blk.drew R5.out)) hdA (show w.heap.size + 1 + 1 ≠ (w.heap.size + 3) by have := Hgl.out; have := S1.out; have := S2.out; have := S4.out; have := S5.out; have := S6.out; have := S7.out; have := S8.out; have := S10.out; omega); have zwAR50 := h9R5.cell 0; have zwAR51 := h9R5.cell 1; simp at zwAR50 zwAR51; have lwAR5 := h9R5.lt; have fwAR5 := h9R5.frozen; have NwAR5 := Lib.hid h9R5; clear h9R5; clear hcA hdA))
            all_goals
              try go_wp2
              have R2 := NwBR2
              have R4 := NwBR4
              have R5 := NwBR5
              have HR2 := (show Blk (World.setCell (World.setCell (World.setCell (World.setCell (World.setCell (World.setCell wB ⟨w.heap.size, 0, none⟩ (.int .i64 a)) ⟨w.heap.size, 1, none⟩ (.int .i64 b)) ⟨w.heap.size + 1, 0, none⟩ (.int .i64 x1)) ⟨w.heap.size + 1, 1, none⟩ (.int .i64 x2)) ⟨w.heap.size + 1 + 1, 0, none⟩ (.int .i64 z1)) ⟨w.heap.size + 1 + 1, 1, none⟩ (.int .i64 z2)) (w.heap.size) 25 #[.int .i64 a, .int .i64 b] by have h9 := ((((((R2.out.set 0 (.int .i64 a)).set 1 (.int .i64 b)).far (p := ⟨w.heap.size + 1, 0, none⟩) (show w.heap.size ≠ w.heap.size + 1 by have := Hgl.out; have := S1.out; have := S2.out; have := S4.out; have := S5.out; have := S6.out; have := S7.out; have := S8.out; have := S10.out; have := SwA.out; have := SwB.out; omega) (.int .i64 x1)).far (p := ⟨w.heap.size + 1, 1, none⟩) (show w.heap.size ≠ w.heap.size + 1 by have := Hgl.out; have := S1.out; have := S2.out; have := S4.out; have := S5.out; have := S6.out; have := S7.out; have := S8.out; have := S10.out; have := SwA.out; have := SwB.out; omega) (.int .i64 x2)).far (p := ⟨w.heap.size + 1 + 1, 0, none⟩) (show w.heap.size ≠ w.heap.size + 1 + 1 by have := Hgl.out; have := S1.out; have := S2.out; have := S4.out; have := S5.out; have := S6.out; have := S7.out; have := S8.out; have := S10.out; have := SwA.out; have := SwB.out; omega) (.int .i64 z1)).far (p := ⟨w.heap.size + 1 + 1, 1, none⟩) (show w.heap.size ≠ w.heap.size + 1 + 1 by have := Hgl.out; have := S1.out; have := S2.out; have := S4.out; have := S5.out; have := S6.out; have := S7.out; have := S8.out; have := S10.out; have := SwA.out; have := SwB.out; omega) (.int .i64 z2)); simpa using h9)
              have kR20 := HR2.cell 0; have kR21 := HR2.cell 1
              have HR4 := (show Blk (World.setCell (World.setCell (World.setCell (World.setCell (World.setCell (World.setCell wB ⟨w.heap.size, 0, none⟩ (.int .i64 a)) ⟨w.heap.size, 1, none⟩ (.int .i64 b)) ⟨w.heap.size + 1, 0, none⟩ (.int .i64 x1)) ⟨w.heap.size + 1, 1, none⟩ (.int .i64 x2)) ⟨w.heap.size + 1 + 1, 0, none⟩ (.int .i64 z1)) ⟨w.heap.size + 1 + 1, 1, none⟩ (.int .i64 z2)) (w.heap.size + 1) 42 #[.int .i64 x1, .int .i64 x2] by have h9 := ((((((R4.out.far (p := ⟨w.heap.size, 0, none⟩) (show w.heap.size + 1 ≠ w.heap.size by have := Hgl.out; have := S1.out; have := S2.out; have := S4.out; have := S5.out; have := S6.out; have := S7.out; have := S8.out; have := S10.out; have := SwA.out; have := SwB.out; omega) (.int .i64 a)).far (p := ⟨w.heap.size, 1, none⟩) (show w.heap.size + 1 ≠ w.heap.size by have := Hgl.out; have := S1.out; have := S2.out; have := S4.out; have := S5.out; have := S6.out; have := S7.out; have := S8.out; have := S10.out; have := SwA.out; have := SwB.out; omega) (.int .i64 b)).set 0 (.int .i64 x1)).set 1 (.int .i64 x2)).far (p := ⟨w.heap.size + 1 + 1, 0, none⟩) (show w.heap.size + 1 ≠ w.heap.size + 1 + 1 by have := Hgl.out; have := S1.out; have := S2.out; have := S4.out; have := S5.out; have := S6.out; have := S7.out; have := S8.out; have := S10.out; have := SwA.out; have := SwB.out; omega) (.int .i64 z1)).far (p := ⟨w.heap.size + 1 + 1, 1, none⟩) (show w.heap.size + 1 ≠ w.heap.size + 1 + 1 by have := Hgl.out; have := S1.out; have := S2.out; have := S4.out; have := S5.out; have := S6.out; have := S7.out; have := S8.out; have := S10.out; have := SwA.out; have := SwB.out; omega) (.int .i64 z2)); simpa using h9)
              have kR40 := HR4.cell 0; have kR41 := HR4.cell 1
              have HR5 := (show Blk (World.setCell (World.setCell (World.setCell (World.setCell (World.setCell (World.setCell wB ⟨w.heap.size, 0, none⟩ (.int .i64 a)) ⟨w.heap.size, 1, none⟩ (.int .i64 b)) ⟨w.heap.size + 1, 0, none⟩ (.int .i64 x1)) ⟨w.heap.size + 1, 1, none⟩ (.int .i64 x2)) ⟨w.heap.size + 1 + 1, 0, none⟩ (.int .i64 z1)) ⟨w.heap.size + 1 + 1, 1, none⟩ (.int .i64 z2)) (w.heap.size + 1 + 1) 42 #[.int .i64 z1, .int .i64 z2] by have h9 := ((((((R5.out.far (p := ⟨w.heap.size, 0, none⟩) (show w.heap.size + 1 + 1 ≠ w.heap.size by have := Hgl.out; have := S1.out; have := S2.out; have := S4.out; have := S5.out; have := S6.out; have := S7.out; have := S8.out; have := S10.out; have := SwA.out; have := SwB.out; omega) (.int .i64 a)).far (p := ⟨w.heap.size, 1, none⟩) (show w.heap.size + 1 + 1 ≠ w.heap.size by have := Hgl.out; have := S1.out; have := S2.out; have := S4.out; have := S5.out; have := S6.out; have := S7.out; have := S8.out; have := S10.out; have := SwA.out; have := SwB.out; omega) (.int .i64 b)).far (p := ⟨w.heap.size + 1, 0, none⟩) (show w.heap.size + 1 + 1 ≠ w.heap.size + 1 by have := Hgl.out; have := S1.out; have := S2.out; have := S4.out; have := S5.out; have := S6.out; have := S7.out; have := S8.out; have := S10.out; have := SwA.out; have := SwB.out; omega) (.int .i64 x1)).far (p := ⟨w.heap.size + 1, 1, none⟩) (show w.heap.size + 1 + 1 ≠ w.heap.size + 1 by have := Hgl.out; have := S1.out; have := S2.out; have := S4.out; have := S5.out; have := S6.out; have := S7.out; have := S8.out; have := S10.out; have := SwA.out; have := SwB.out; omega) (.int .i64 x2)).set 0 (.int .i64 z1)).set 1 (.int .i64 z2)); simpa using h9)
              have kR50 := HR5.cell 0; have kR51 := HR5.cell 1
              simp at kR20 kR21 kR40 kR41 kR50 kR51
              exact bodyPost_ret (v := .tuple #[.agg #[.int .i64 a, .int .i64 b], .int .i64 y, .agg #[.int .i64 x1, .int .i64 x2], .agg #[.int .i64 z1, .int .i64 z2]]) (by simp [results, Tryz.results18, go_sem, kR20, kR21, kR40, kR41, kR50, kR51]) rfl ⟨⟨a, b, y, _, _, _, _, rfl⟩, ((((((HdB.out.st (p := ⟨w.heap.size, 0, none⟩) (show w.heap.size ≤ w.heap.size by have := Hgl.out; have := S1.out; have := S2.out; have := S4.out; have := S5.out; have := S6.out; have := S7.out; have := S8.out; have := S10.out; have := SwA.out; have := SwB.out; omega) (.int .i64 a)).st (p := ⟨w.heap.size, 1, none⟩) (show w.heap.size ≤ w.heap.size by have := Hgl.out; have := S1.out; have := S2.out; have := S4.out; have := S5.out; have := S6.out; have := S7.out; have := S8.out; have := S10.out; have := SwA.out; have := SwB.out; omega) (.int .i64 b)).st (p := ⟨w.heap.size + 1, 0, none⟩) (show w.heap.size ≤ w.heap.size + 1 by have := Hgl.out; have := S1.out; have := S2.out; have := S4.out; have := S5.out; have := S6.out; have := S7.out; have := S8.out; have := S10.out; have := SwA.out; have := SwB.out; omega) (.int .i64 x1)).st (p := ⟨w.heap.size + 1, 1, none⟩) (show w.heap.size ≤ w.heap.size + 1 by have := Hgl.out; have := S1.out; have := S2.out; have := S4.out; have := S5.out; have := S6.out; have := S7.out; have := S8.out; have := S10.out; have := SwA.out; have := SwB.out; omega) (.int .i64 x2)).st (p := ⟨w.heap.size + 1 + 1, 0, none⟩) (show w.heap.size ≤ w.heap.size + 1 + 1 by have := Hgl.out; have := S1.out; have := S2.out; have := S4.out; have := S5.out; have := S6.out; have := S7.out; have := S8.out; have := S10.out; have := SwA.out; have := SwB.out; omega) (.int .i64 z1)).st (p := ⟨w.heap.size + 1 + 1, 1, none⟩) (show w.heap.size ≤ w.heap.size + 1 + 1 by have := Hgl.out; have := S1.out; have := S2.out; have := S4.out; have := S5.out; have := S6.out; have := S7.out; have := S8.out; have := S10.out; have := SwA.out; have := SwB.out; omega) (.int .i64 z2)).below (by have := S1.out; have := S2.out; have := S4.out; have := S5.out; have := S6.out; have := S7.out; have := S8.out; have := S10.out; have := SwA.out; have := SwB.out; omega) (Nat.le_refl _)⟩
          · go_wp2_with fail
            obtain ⟨wt, hw9⟩ : ∃ x, x = (World.alloc w8 (Obj.cells #[.int .i64 z1, .int .i64 z2] 42)) := ⟨_, rfl⟩
            rw [← hw9]
            have hd11 : Dg (w.heap.size + 3) (World.alloc w8 (Obj.cells #[.int .i64 z1, .int .i64 z2] 42)) wt := by rw [hw9]; exact Dg.refl _ _
            have hc11 : Cur wt (w.heap.size + 3) (0 + 72) := by rw [hw9]; exact (Hc8.out.alloc _)
            have S11 := Lib.hid (show w8.heap.size + 1 ≤ wt.heap.size by have h9 := hd11.size; (try simp only [World.size_alloc, World.size_setCell] at h9); omega)
            have NR2 := Lib.hid ((R2.out.alloc _).dg hd11 (show w.heap.size ≠ (w.heap.size + 3) by have := Hgl.out; have := S1.out; have := S2.out; have := S4.out; have := S5.out; have := S6.out; have := S7.out; have := S8.out; have := S11.out; omega))
            have NR4 := Lib.hid ((R4.out.alloc _).dg hd11 (show w.heap.size + 1 ≠ (w.heap.size + 3) by have := Hgl.out; have := S1.out; have := S2.out; have := S4.out; have := S5.out; have := S6.out; have := S7.out; have := S8.out; have := S11.out; omega))
            have NR5 := Lib.hid ((R5.out.alloc _).dg hd11 (show w.heap.size + 1 + 1 ≠ (w.heap.size + 3) by have := Hgl.out; have := S1.out; have := S2.out; have := S4.out; have := S5.out; have := S6.out; have := S7.out; have := S8.out; have := S11.out; omega))
            have NE := Lib.hid ((E.out.alloc _).dg hd11 (show w1.heap.size ≠ (w.heap.size + 3) by have := Hgl.out; have := S1.out; have := S2.out; have := S4.out; have := S5.out; have := S6.out; have := S7.out; have := S8.out; have := S11.out; omega))
            have NP1 := Lib.hid ((P1.out.alloc _).dg hd11 (show w6.heap.size ≠ (w.heap.size + 3) by have := Hgl.out; have := S1.out; have := S2.out; have := S4.out; have := S5.out; have := S6.out; have := S7.out; have := S8.out; have := S11.out; omega))
            have NX1 := Lib.hid ((X1.out.alloc _).dg hd11 (show w7.heap.size ≠ (w.heap.size + 3) by have := Hgl.out; have := S1.out; have := S2.out; have := S4.out; have := S5.out; have := S6.out; have := S7.out; have := S8.out; have := S11.out; omega))
            have NX2 := Lib.hid ((Blk.new w8 42 #[.int .i64 z1, .int .i64 z2]).dg hd11 (show w8.heap.size ≠ (w.heap.size + 3) by have := Hgl.out; have := S1.out; have := S2.out; have := S4.out; have := S5.out; have := S6.out; have := S7.out; have := S8.out; have := S11.out; omega))
            have R2 := NR2; clear NR2
            have R4 := NR4; clear NR4
            have R5 := NR5; clear NR5
            have E := NE; clear NE
            have P1 := NP1; clear NP1
            have X1 := NX1; clear NX1
            have X2 := NX2; clear NX2
            have Hc11 := Lib.hid (hc11.mono (j := 0 + 72) (by omega))
            have Hd11 := Lib.hid ((Hd8.out.alloc _).trans hd11)
            clear hc11 hd11
            clear hw9
            have qE0 := E.out.cell 0
            have qE1 := E.out.cell 1
            simp at qE0 qE1
            have qEl := E.out.lt
            have qX10 := X1.out.cell 0
            have qX11 := X1.out.cell 1
            simp at qX10 qX11
            have qX1l := X1.out.lt
            have qX20 := X2.out.cell 0
            have qX21 := X2.out.cell 1
            simp at qX20 qX21
            have qX2l := X2.out.lt
            have qR20 := R2.out.cell 0
            have qR21 := R2.out.cell 1
            simp at qR20 qR21
            have qR2l := R2.out.lt
            have qR2f := R2.out.frozen
            have qR40 := R4.out.cell 0
            have qR41 := R4.out.cell 1
            simp at qR40 qR41
            have qR4l := R4.out.lt
            have qR4f := R4.out.frozen
            have qR50 := R5.out.cell 0
            have qR51 := R5.out.cell 1
            simp at qR50 qR51
            have qR5l := R5.out.lt
            have qR5f := R5.out.frozen
            have nEX1 : w1.heap.size ≠ w7.heap.size := by have := Hgl.out; have := S1.out; have := S2.out; have := S4.out; have := S5.out; have := S6.out; have := S7.out; have := S8.out; have := S11.out; omega
            have nX1E : w7.heap.size ≠ w1.heap.size := fun e => nEX1 e.symm
            have nEX2 : w1.heap.size ≠ w8.heap.size := by have := Hgl.out; have := S1.out; have := S2.out; have := S4.out; have := S5.out; have := S6.out; have := S7.out; have := S8.out; have := S11.out; omega
            have nX2E : w8.heap.size ≠ w1.heap.size := fun e => nEX2 e.symm
            have nER2 : w1.heap.size ≠ w.heap.size := by have := Hgl.out; have := S1.out; have := S2.out; have := S4.out; have := S5.out; have := S6.out; have := S7.out; have := S8.out; have := S11.out; omega
            have nR2E : w.heap.size ≠ w1.heap.size := fun e => nER2 e.symm
            have nER4 : w1.heap.size ≠ w.heap.size + 1 := by have := Hgl.out; have := S1.out; have := S2.out; have := S4.out; have := S5.out; have := S6.out; have := S7.out; have := S8.out; have := S11.out; omega
            have nR4E : w.heap.size + 1 ≠ w1.heap.size := fun e => nER4 e.symm
            have nER5 : w1.heap.size ≠ w.heap.size + 1 + 1 := by have := Hgl.out; have := S1.out; have := S2.out; have := S4.out; have := S5.out; have := S6.out; have := S7.out; have := S8.out; have := S11.out; omega
            have nR5E : w.heap.size + 1 + 1 ≠ w1.heap.size := fun e => nER5 e.symm
            have nX1X2 : w7.heap.size ≠ w8.heap.size := by have := Hgl.out; have := S1.out; have := S2.out; have := S4.out; have := S5.out; have := S6.out; have := S7.out; have := S8.out; have := S11.out; omega
            have nX2X1 : w8.heap.size ≠ w7.heap.size := fun e => nX1X2 e.symm
            have nR2X1 : w.heap.size ≠ w7.heap.size := by have := Hgl.out; have := S1.out; have := S2.out; have := S4.out; have := S5.out; have := S6.out; have := S7.out; have := S8.out; have := S11.out; omega
            have nX1R2 : w7.heap.size ≠ w.heap.size := fun e => nR2X1 e.symm
            have nR2X2 : w.heap.size ≠ w8.heap.size := by have := Hgl.out; have := S1.out; have := S2.out; have := S4.out; have := S5.out; have := S6.out; have := S7.out; have := S8.out; have := S11.out; omega
            have nX2R2 : w8.heap.size ≠ w.heap.size := fun e => nR2X2 e.symm
            have nR2R4 : w.heap.size ≠ w.heap.size + 1 := by have := Hgl.out; have := S1.out; have := S2.out; have := S4.out; have := S5.out; have := S6.out; have := S7.out; have := S8.out; have := S11.out; omega
            have nR4R2 : w.heap.size + 1 ≠ w.heap.size := fun e => nR2R4 e.symm
            have nR2R5 : w.heap.size ≠ w.heap.size + 1 + 1 := by have := Hgl.out; have := S1.out; have := S2.out; have := S4.out; have := S5.out; have := S6.out; have := S7.out; have := S8.out; have := S11.out; omega
            have nR5R2 : w.heap.size + 1 + 1 ≠ w.heap.size := fun e => nR2R5 e.symm
            have nR4X1 : w.heap.size + 1 ≠ w7.heap.size := by have := Hgl.out; have := S1.out; have := S2.out; have := S4.out; have := S5.out; have := S6.out; have := S7.out; have := S8.out; have := S11.out; omega
            have nX1R4 : w7.heap.size ≠ w.heap.size + 1 := fun e => nR4X1 e.symm
            have nR4X2 : w.heap.size + 1 ≠ w8.heap.size := by have := Hgl.out; have := S1.out; have := S2.out; have := S4.out; have := S5.out; have := S6.out; have := S7.out; have := S8.out; have := S11.out; omega
            have nX2R4 : w8.heap.size ≠ w.heap.size + 1 := fun e => nR4X2 e.symm
            have nR4R5 : w.heap.size + 1 ≠ w.heap.size + 1 + 1 := by have := Hgl.out; have := S1.out; have := S2.out; have := S4.out; have := S5.out; have := S6.out; have := S7.out; have := S8.out; have := S11.out; omega
            have nR5R4 : w.heap.size + 1 + 1 ≠ w.heap.size + 1 := fun e => nR4R5 e.symm
            have nR5X1 : w.heap.size + 1 + 1 ≠ w7.heap.size := by have := Hgl.out; have := S1.out; have := S2.out; have := S4.out; have := S5.out; have := S6.out; have := S7.out; have := S8.out; have := S11.out; omega
            have nX1R5 : w7.heap.size ≠ w.heap.size + 1 + 1 := fun e => nR5X1 e.symm
            have nR5X2 : w.heap.size + 1 + 1 ≠ w8.heap.size := by have := Hgl.out; have := S1.out; have := S2.out; have := S4.out; have := S5.out; have := S6.out; have := S7.out; have := S8.out; have := S11.out; omega
            have nX2R5 : w8.heap.size ≠ w.heap.size + 1 + 1 := fun e => nR5X2 e.symm
            go_region
            go_wp2
            clear qE0 qE1 qEl qX10 qX11 qX1l qX20 qX21 qX2l qR20 qR21 qR2l qR2f qR40 qR41 qR4l qR4f qR50 qR51 qR5l qR5f nEX1 nX1E nEX2 nX2E nER2 nR2E nER4 nR4E nER5 nR5E nX1X2 nX2X1 nR2X1 nX1R2 nR2X2 nX2R2 nR2R4 nR4R2 nR2R5 nR5R2 nR4X1 nX1R4 nR4X2 nX2R4 nR4R5 nR5R4 nR5X1 nX1R5 nR5X2 nX2R5
            have HR2 := Blk.drew (show Blk (World.setCell (World.setCell (World.setCell (World.setCell (World.setCell (World.setCell wt ⟨w.heap.size, 0, none⟩ (.int .i64 a)) ⟨w.heap.size, 1, none⟩ (.int .i64 b)) ⟨w.heap.size + 1, 0, none⟩ (.int .i64 x1)) ⟨w.heap.size + 1, 1, none⟩ (.int .i64 x2)) ⟨w.heap.size + 1 + 1, 0, none⟩ (.int .i64 z1)) ⟨w.heap.size + 1 + 1, 1, none⟩ (.int .i64 z2)) (w.heap.size) 25 #[.int .i64 a, .int .i64 b] by have h9 := ((((((R2.out.set 0 (.int .i64 a)).set 1 (.int .i64 b)).far (p := ⟨w.heap.size + 1, 0, none⟩) (show w.heap.size ≠ w.heap.size + 1 by have := Hgl.out; have := S1.out; have := S2.out; have := S4.out; have := S5.out; have := S6.out; have := S7.out; have := S8.out; have := S11.out; omega) (.int .i64 x1)).far (p := ⟨w.heap.size + 1, 1, none⟩) (show w.heap.size ≠ w.heap.size + 1 by have := Hgl.out; have := S1.out; have := S2.out; have := S4.out; have := S5.out; have := S6.out; have := S7.out; have := S8.out; have := S11.out; omega) (.int .i64 x2)).far (p := ⟨w.heap.size + 1 + 1, 0, none⟩) (show w.heap.size ≠ w.heap.size + 1 + 1 by have := Hgl.out; have := S1.out; have := S2.out; have := S4.out; have := S5.out; have := S6.out; have := S7.out; have := S8.out; have := S11.out; omega) (.int .i64 z1)).far (p := ⟨w.heap.size + 1 + 1, 1, none⟩) (show w.heap.size ≠ w.heap.size + 1 + 1 by have := Hgl.out; have := S1.out; have := S2.out; have := S4.out; have := S5.out; have := S6.out; have := S7.out; have := S8.out; have := S11.out; omega) (.int .i64 z2)); simpa using h9)
            have kR20 := HR2.cell 0; have kR21 := HR2.cell 1
            have HR4 := Blk.drew (show Blk (World.setCell (World.setCell (World.setCell (World.setCell (World.setCell (World.setCell wt ⟨w.heap.size, 0, none⟩ (.int .i64 a)) ⟨w.heap.size, 1, none⟩ (.int .i64 b)) ⟨w.heap.size + 1, 0, none⟩ (.int .i64 x1)) ⟨w.heap.size + 1, 1, none⟩ (.int .i64 x2)) ⟨w.heap.size + 1 + 1, 0, none⟩ (.int .i64 z1)) ⟨w.heap.size + 1 + 1, 1, none⟩ (.int .i64 z2)) (w.heap.size + 1) 42 #[.int .i64 x1, .int .i64 x2] by have h9 := ((((((R4.out.far (p := ⟨w.heap.size, 0, none⟩) (show w.heap.size + 1 ≠ w.heap.size by have := Hgl.out; have := S1.out; have := S2.out; have := S4.out; have := S5.out; have := S6.out; have := S7.out; have := S8.out; have := S11.out; omega) (.int .i64 a)).far (p := ⟨w.heap.size, 1, none⟩) (show w.heap.size + 1 ≠ w.heap.size by have := Hgl.out; have := S1.out; have := S2.out; have := S4.out; have := S5.out; have := S6.out; have := S7.out; have := S8.out; have := S11.out; omega) (.int .i64 b)).set 0 (.int .i64 x1)).set 1 (.int .i64 x2)).far (p := ⟨w.heap.size + 1 + 1, 0, none⟩) (show w.heap.size + 1 ≠ w.heap.size + 1 + 1 by have := Hgl.out; have := S1.out; have := S2.out; have := S4.out; have := S5.out; have := S6.out; have := S7.out; have := S8.out; have := S11.out; omega) (.int .i64 z1)).far (p := ⟨w.heap.size + 1 + 1, 1, none⟩) (show w.heap.size + 1 ≠ w.heap.size + 1 + 1 by have := Hgl.out; have := S1.out; have := S2.out; have := S4.out; have := S5.out; have := S6.out; have := S7.out; have := S8.out; have := S11.out; omega) (.int .i64 z2)); simpa using h9)
            have kR40 := HR4.cell 0; have kR41 := HR4.cell 1
            have HR5 := Blk.drew (show Blk (World.setCell (World.setCell (World.setCell (World.setCell (World.setCell (World.setCell wt ⟨w.heap.size, 0, none⟩ (.int .i64 a)) ⟨w.heap.size, 1, none⟩ (.int .i64 b)) ⟨w.heap.size + 1, 0, none⟩ (.int .i64 x1)) ⟨w.heap.size + 1, 1, none⟩ (.int .i64 x2)) ⟨w.heap.size + 1 + 1, 0, none⟩ (.int .i64 z1)) ⟨w.heap.size + 1 + 1, 1, none⟩ (.int .i64 z2)) (w.heap.size + 1 + 1) 42 #[.int .i64 z1, .int .i64 z2] by have h9 := ((((((R5.out.far (p := ⟨w.heap.size, 0, none⟩) (show w.heap.size + 1 + 1 ≠ w.heap.size by have := Hgl.out; have := S1.out; have := S2.out; have := S4.out; have := S5.out; have := S6.out; have := S7.out; have := S8.out; have := S11.out; omega) (.int .i64 a)).far (p := ⟨w.heap.size, 1, none⟩) (show w.heap.size + 1 + 1 ≠ w.heap.size by have := Hgl.out; have := S1.out; have := S2.out; have := S4.out; have := S5.out; have := S6.out; have := S7.out; have := S8.out; have := S11.out; omega) (.int .i64 b)).far (p := ⟨w.heap.size + 1, 0, none⟩) (show w.heap.size + 1 + 1 ≠ w.heap.size + 1 by have := Hgl.out; have := S1.out; have := S2.out; have := S4.out; have := S5.out; have := S6.out; have := S7.out; have := S8.out; have := S11.out; omega) (.int .i64 x1)).far (p := ⟨w.heap.size + 1, 1, none⟩) (show w.heap.size + 1 + 1 ≠ w.heap.size + 1 by have := Hgl.out; have := S1.out; have := S2.out; have := S4.out; have := S5.out; have := S6.out; have := S7.out; have := S8.out; have := S11.out; omega) (.int .i64 x2)).set 0 (.int .i64 z1)).set 1 (.int .i64 z2)); simpa using h9)
            have kR50 := HR5.cell 0; have kR51 := HR5.cell 1
            simp at kR20 kR21 kR40 kR41 kR50 kR51
            exact bodyPost_ret (v := .tuple #[.agg #[.int .i64 a, .int .i64 b], .int .i64 y, .agg #[.int .i64 x1, .int .i64 x2], .agg #[.int .i64 z1, .int .i64 z2]]) (by simp [results, Tryz.results18, go_sem, kR20, kR21, kR40, kR41, kR50, kR51]) rfl ⟨⟨a, b, y, _, _, _, _, rfl⟩, ((((((Hd11.out.st (p := ⟨w.heap.size, 0, none⟩) (show w.heap.size ≤ w.heap.size by have := Hgl.out; have := S1.out; have := S2.out; have := S4.out; have := S5.out; have := S6.out; have := S7.out; have := S8.out; have := S11.out; omega) (.int .i64 a)).st (p := ⟨w.heap.size, 1, none⟩) (show w.heap.size ≤ w.heap.size by have := Hgl.out; have := S1.out; have := S2.out; have := S4.out; have := S5.out; have := S6.out; have := S7.out; have := S8.out; have := S11.out; omega) (.int .i64 b)).st (p := ⟨w.heap.size + 1, 0, none⟩) (show w.heap.size ≤ w.heap.size + 1 by have := Hgl.out; have := S1.out; have := S2.out; have := S4.out; have := S5.out; have := S6.out; have := S7.out; have := S8.out; have := S11.out; omega) (.int .i64 x1)).st (p := ⟨w.heap.size + 1, 1, none⟩) (show w.heap.size ≤ w.heap.size + 1 by have := Hgl.out; have := S1.out; have := S2.out; have := S4.out; have := S5.out; have := S6.out; have := S7.out; have := S8.out; have := S11.out; omega) (.int .i64 x2)).st (p := ⟨w.heap.size + 1 + 1, 0, none⟩) (show w.heap.size ≤ w.heap.size + 1 + 1 by have := Hgl.out; have := S1.out; have := S2.out; have := S4.out; have := S5.out; have := S6.out; have := S7.out; have := S8.out; have := S11.out; omega) (.int .i64 z1)).st (p := ⟨w.heap.size + 1 + 1, 1, none⟩) (show w.heap.size ≤ w.heap.size + 1 + 1 by have := Hgl.out; have := S1.out; have := S2.out; have := S4.out; have := S5.out; have := S6.out; have := S7.out; have := S8.out; have := S11.out; omega) (.int .i64 z2)).drew.below (by have := S1.out; have := S2.out; have := S4.out; have := S5.out; have := S6.out; have := S7.out; have := S8.out; have := S11.out; omega) (Nat.le_refl _)⟩
      · have hpe2 : decide (0 < pe) = false := decide_eq_false hpe
        go_wp2_with fail
        obtain ⟨wt, hw9⟩ : ∃ x, x = (World.alloc w6 (Obj.cells #[.int .i64 px, .int .i64 py, .int .i64 pe] 83)) := ⟨_, rfl⟩
        rw [← hw9]
        have hd12 : Dg (w.heap.size + 3) (World.alloc w6 (Obj.cells #[.int .i64 px, .int .i64 py, .int .i64 pe] 83)) wt := by rw [hw9]; exact Dg.refl _ _
        have hc12 : Cur wt (w.heap.size + 3) (0 + 72) := by rw [hw9]; exact (Hc6.out.alloc _)
        have S12 := Lib.hid (show w6.heap.size + 1 ≤ wt.heap.size by have h9 := hd12.size; (try simp only [World.size_alloc, World.size_setCell] at h9); omega)
        have NR2 := Lib.hid ((R2.out.alloc _).dg hd12 (show w.heap.size ≠ (w.heap.size + 3) by have := Hgl.out; have := S1.out; have := S2.out; have := S4.out; have := S5.out; have := S6.out; have := S12.out; omega))
        have NR4 := Lib.hid ((R4.out.alloc _).dg hd12 (show w.heap.size + 1 ≠ (w.heap.size + 3) by have := Hgl.out; have := S1.out; have := S2.out; have := S4.out; have := S5.out; have := S6.out; have := S12.out; omega))
        have NR5 := Lib.hid ((R5.out.alloc _).dg hd12 (show w.heap.size + 1 + 1 ≠ (w.heap.size + 3) by have := Hgl.out; have := S1.out; have := S2.out; have := S4.out; have := S5.out; have := S6.out; have := S12.out; omega))
        have NE := Lib.hid ((E.out.alloc _).dg hd12 (show w1.heap.size ≠ (w.heap.size + 3) by have := Hgl.out; have := S1.out; have := S2.out; have := S4.out; have := S5.out; have := S6.out; have := S12.out; omega))
        have NP1 := Lib.hid ((Blk.new w6 83 #[.int .i64 px, .int .i64 py, .int .i64 pe]).dg hd12 (show w6.heap.size ≠ (w.heap.size + 3) by have := Hgl.out; have := S1.out; have := S2.out; have := S4.out; have := S5.out; have := S6.out; have := S12.out; omega))
        have R2 := NR2; clear NR2
        have R4 := NR4; clear NR4
        have R5 := NR5; clear NR5
        have E := NE; clear NE
        have P1 := NP1; clear NP1
        have Hc12 := Lib.hid (hc12.mono (j := 0 + 72) (by omega))
        have Hd12 := Lib.hid ((Hd6.out.alloc _).trans hd12)
        clear hc12 hd12
        clear hw9
        have qE0 := E.out.cell 0
        have qE1 := E.out.cell 1
        simp at qE0 qE1
        have qEl := E.out.lt
        have qR20 := R2.out.cell 0
        have qR21 := R2.out.cell 1
        simp at qR20 qR21
        have qR2l := R2.out.lt
        have qR2f := R2.out.frozen
        have qR40 := R4.out.cell 0
        have qR41 := R4.out.cell 1
        simp at qR40 qR41
        have qR4l := R4.out.lt
        have qR4f := R4.out.frozen
        have qR50 := R5.out.cell 0
        have qR51 := R5.out.cell 1
        simp at qR50 qR51
        have qR5l := R5.out.lt
        have qR5f := R5.out.frozen
        have nER2 : w1.heap.size ≠ w.heap.size := by have := Hgl.out; have := S1.out; have := S2.out; have := S4.out; have := S5.out; have := S6.out; have := S12.out; omega
        have nR2E : w.heap.size ≠ w1.heap.size := fun e => nER2 e.symm
        have nER4 : w1.heap.size ≠ w.heap.size + 1 := by have := Hgl.out; have := S1.out; have := S2.out; have := S4.out; have := S5.out; have := S6.out; have := S12.out; omega
        have nR4E : w.heap.size + 1 ≠ w1.heap.size := fun e => nER4 e.symm
        have nER5 : w1.heap.size ≠ w.heap.size + 1 + 1 := by have := Hgl.out; have := S1.out; have := S2.out; have := S4.out; have := S5.out; have := S6.out; have := S12.out; omega
        have nR5E : w.heap.size + 1 + 1 ≠ w1.heap.size := fun e => nER5 e.symm
        have nR2R4 : w.heap.size ≠ w.heap.size + 1 := by have := Hgl.out; have := S1.out; have := S2.out; have := S4.out; have := S5.out; have := S6.out; have := S12.out; omega
        have nR4R2 : w.heap.size + 1 ≠ w.heap.size := fun e => nR2R4 e.symm
        have nR2R5 : w.heap.size ≠ w.heap.size + 1 + 1 := by have := Hgl.out; have := S1.out; have := S2.out; have := S4.out; have := S5.out; have := S6.out; have := S12.out; omega
        have nR5R2 : w.heap.size + 1 + 1 ≠ w.heap.size := fun e => nR2R5 e.symm
        have nR4R5 : w.heap.size + 1 ≠ w.heap.size + 1 + 1 := by have := Hgl.out; have := S1.out; have := S2.out; have := S4.out; have := S5.out; have := S6.out; have := S12.out; omega
        have nR5R4 : w.heap.size + 1 + 1 ≠ w.heap.size + 1 := fun e => nR4R5 e.symm
        go_region_with (go_at_call 62; first | (refine (anyFraction_any (w.heap.size + 3) ((0 + 72) + 40) _ HcA.out (by omega)).mono ?_; rintro e wB ⟨⟨z1, z2, rfl⟩, hcB, hdB⟩; have SwB := Lib.hid (show wA.heap.size + 0 ≤ wB.heap.size by have h9 := hdB.size; (try simp only [World.size_alloc, World.size_setCell, World.size_drew] at h9); omega); have HcB := Lib.hid hcB; have HdB := Lib.hid (Dg.trans HdA.out hdB); have h9E : Blk wB (w1.heap.size) 25 #[.int .i64 a, .int .i64 b] := Blk.dg NwAE.out hdB (show w1.heap.size ≠ (w.heap.size + 3) by have := Hgl.out; have := S1.out; have := S2.out; have := S4.out; have := S5.out; have := S6.out; have := S12.out; omega); have zwBE0 := h9E.cell 0; have zwBE1 := h9E.cell 1; simp at zwBE0 zwBE1; have lwBE := h9E.lt; have NwBE := Lib.hid h9E; clear h9E; have h9R2 : Blk wB (w.heap.size) 25 #[.int .i64 0, .int .i64 0] := Blk.dg NwAR2.out hdB (show w.heap.size ≠ (w.heap.size + 3) by have := Hgl.out; have := S1.out; have := S2.out; have := S4.out; have := S5.out; have := S6.out; have := S12.out; omega); have zwBR20 := h9R2.cell 0; have zwBR21 := h9R2.cell 1; simp at zwBR20 zwBR21; have lwBR2 := h9R2.lt; have fwBR2 := h9R2.frozen; have NwBR2 := Lib.hid h9R2; clear h9R2; have h9R4 : Blk wB (w.heap.size + 1) 42 #[.int .i64 0, .int .i64 0] := Blk.dg NwAR4.out hdB (show w.heap.size + 1 ≠ (w.heap.size + 3) by have := Hgl.out; have := S1.out; have := S2.out; have := S4.out; have := S5.out; have := S6.out; have := S12.out; omega); have zwBR40 := h9R4.cell 0; have zwBR41 := h9R4.cell 1; simp at zwBR40 zwBR41; have lwBR4 := h9R4.lt; have fwBR4 := h9R4.frozen; have NwBR4 := Lib.hid h9R4; clear h9R4; have h9R5 : Blk wB (w.heap.size + 1 + 1) 42 #[.int .i64 0, .int .i64 0] := Blk.dg NwAR5.out hdB (show w.heap.size + 1 + 1 ≠ (w.heap.size + 3) by have := Hgl.out; have := S1.out; have := S2.out; have := S4.out; have := S5.out; have := S6.out; have := S12.out; omega); have zwBR50 := h9R5.cell 0; have zwBR51 := h9R5.cell 1; simp at zwBR50 zwBR51; have lwBR5 := h9R5.lt; have fwBR5 := h9R5.frozen; have NwBR5 := Lib.hid h9R5; clear h9R5; clear hcB hdB) | (refine (anyFraction_any (w.heap.size + 3) (0 + 72) _ (by first | exact Hc12.out | exact Cur.drewP Hc12.out | exact Cur.drewP (Cur.drewP Hc12.out)) (by omega)).mono ?_; rintro e wA ⟨⟨x1, x2, rfl⟩, hcA, hdA⟩; have SwA := Lib.hid (show wt.heap.size + 0 ≤ wA.heap.size by have h9 := hdA.size; (try simp only [World.size_alloc, World.size_setCell, World.size_drew] at h9); omega); have HcA := Lib.hid hcA; have HdA := Lib.hid (Dg.trans (by first | exact Hd12.out | exact Dg.drew Hd12.out | exact Dg.drew (Dg.drew Hd12.out)) hdA); have h9E : Blk wA (w1.heap.size) 25 #[.int .i64 a, .int .i64 b] := Blk.dg (by first | exact E.out | exact Blk.drew E.out | exact Blk.drew (Blk.drew E.out)) hdA (show w1.heap.size ≠ (w.heap.size + 3) by have := Hgl.out; have := S1.out; have := S2.out; have := S4.out; have := S5.out; have := S6.out; have := S12.out; omega); have zwAE0 := h9E.cell 0; have zwAE1 := h9E.cell 1; simp at zwAE0 zwAE1; have lwAE := h9E.lt; have NwAE := Lib.hid h9E; clear h9E; have h9R2 : Blk wA (w.heap.size) 25 #[.int .i64 0, .int .i64 0] := Blk.dg (by first | exact R2.out | exact Blk.drew R2.out | exact Blk.drew (Blk.drew R2.out)) hdA (show w.heap.size ≠ (w.heap.size + 3) by have := Hgl.out; have := S1.out; have := S2.out; have := S4.out; have := S5.out; have := S6.out; have := S12.out; omega); have zwAR20 := h9R2.cell 0; have zwAR21 := h9R2.cell 1; simp at zwAR20 zwAR21; have lwAR2 := h9R2.lt; have fwAR2 := h9R2.frozen; have NwAR2 := Lib.hid h9R2; clear h9R2; have h9R4 : Blk wA (w.heap.size + 1) 42 #[.int .i64 0, .int .i64 0] := Blk.dg (by first | exact R4.out | exact Blk.drew R4.out | exact Blk.drew (Blk.drew R4.out)) hdA (show w.heap.size + 1 ≠ (w.heap.size + 3) by have := Hgl.out; have := S1.out; have := S2.out; have := S4.out; have := S5.out; have := S6.out; have := S12.out; omega); have zwAR40 := h9R4.cell 0; have zwAR41 := h9R4.cell 1; simp at zwAR40 zwAR41; have lwAR4 := h9R4.lt; have fwAR4 := h9R4.frozen; have NwAR4 := Lib.hid h9R4; clear h9R4; have h9R5 : Blk wA (w.heap.size + 1 + 1) 42 #[.int .i64 0, .int .i64 0] := Blk.dg (by first | exact R5.out | exact Blk.drew R5.out | exact Blk.drew (Blk.drew R5.out)) hdA (show w.heap.size + 1 + 1 ≠ (w.heap.size + 3) by have := Hgl.out; have := S1.out; have := S2.out; have := S4.out; have := S5.out; have := S6.out; have := S12.out; omega); have zwAR50 := h9R5.cell 0; have zwAR51 := h9R5.cell 1; simp at zwAR50 zwAR51; have lwAR5 := h9R5.lt; have fwAR5 := h9R5.frozen; have NwAR5 := Lib.hid h9R5; clear h9R5; clear hcA hdA))
        all_goals
          try go_wp2
          have R2 := NwBR2
          have R4 := NwBR4
          have R5 := NwBR5
          have HR2 := (show Blk (World.setCell (World.setCell (World.setCell (World.setCell (World.setCell (World.setCell wB ⟨w.heap.size, 0, none⟩ (.int .i64 a)) ⟨w.heap.size, 1, none⟩ (.int .i64 b)) ⟨w.heap.size + 1, 0, none⟩ (.int .i64 x1)) ⟨w.heap.size + 1, 1, none⟩ (.int .i64 x2)) ⟨w.heap.size + 1 + 1, 0, none⟩ (.int .i64 z1)) ⟨w.heap.size + 1 + 1, 1, none⟩ (.int .i64 z2)) (w.heap.size) 25 #[.int .i64 a, .int .i64 b] by have h9 := ((((((R2.out.set 0 (.int .i64 a)).set 1 (.int .i64 b)).far (p := ⟨w.heap.size + 1, 0, none⟩) (show w.heap.size ≠ w.heap.size + 1 by have := Hgl.out; have := S1.out; have := S2.out; have := S4.out; have := S5.out; have := S6.out; have := S12.out; have := SwA.out; have := SwB.out; omega) (.int .i64 x1)).far (p := ⟨w.heap.size + 1, 1, none⟩) (show w.heap.size ≠ w.heap.size + 1 by have := Hgl.out; have := S1.out; have := S2.out; have := S4.out; have := S5.out; have := S6.out; have := S12.out; have := SwA.out; have := SwB.out; omega) (.int .i64 x2)).far (p := ⟨w.heap.size + 1 + 1, 0, none⟩) (show w.heap.size ≠ w.heap.size + 1 + 1 by have := Hgl.out; have := S1.out; have := S2.out; have := S4.out; have := S5.out; have := S6.out; have := S12.out; have := SwA.out; have := SwB.out; omega) (.int .i64 z1)).far (p := ⟨w.heap.size + 1 + 1, 1, none⟩) (show w.heap.size ≠ w.heap.size + 1 + 1 by have := Hgl.out; have := S1.out; have := S2.out; have := S4.out; have := S5.out; have := S6.out; have := S12.out; have := SwA.out; have := SwB.out; omega) (.int .i64 z2)); simpa using h9)
          have kR20 := HR2.cell 0; have kR21 := HR2.cell 1
          have HR4 := (show Blk (World.setCell (World.setCell (World.setCell (World.setCell (World.setCell (World.setCell wB ⟨w.heap.size, 0, none⟩ (.int .i64 a)) ⟨w.heap.size, 1, none⟩ (.int .i64 b)) ⟨w.heap.size + 1, 0, none⟩ (.int .i64 x1)) ⟨w.heap.size + 1, 1, none⟩ (.int .i64 x2)) ⟨w.heap.size + 1 + 1, 0, none⟩ (.int .i64 z1)) ⟨w.heap.size + 1 + 1, 1, none⟩ (.int .i64 z2)) (w.heap.size + 1) 42 #[.int .i64 x1, .int .i64 x2] by have h9 := ((((((R4.out.far (p := ⟨w.heap.size, 0, none⟩) (show w.heap.size + 1 ≠ w.heap.size by have := Hgl.out; have := S1.out; have := S2.out; have := S4.out; have := S5.out; have := S6.out; have := S12.out; have := SwA.out; have := SwB.out; omega) (.int .i64 a)).far (p := ⟨w.heap.size, 1, none⟩) (show w.heap.size + 1 ≠ w.heap.size by have := Hgl.out; have := S1.out; have := S2.out; have := S4.out; have := S5.out; have := S6.out; have := S12.out; have := SwA.out; have := SwB.out; omega) (.int .i64 b)).set 0 (.int .i64 x1)).set 1 (.int .i64 x2)).far (p := ⟨w.heap.size + 1 + 1, 0, none⟩) (show w.heap.size + 1 ≠ w.heap.size + 1 + 1 by have := Hgl.out; have := S1.out; have := S2.out; have := S4.out; have := S5.out; have := S6.out; have := S12.out; have := SwA.out; have := SwB.out; omega) (.int .i64 z1)).far (p := ⟨w.heap.size + 1 + 1, 1, none⟩) (show w.heap.size + 1 ≠ w.heap.size + 1 + 1 by have := Hgl.out; have := S1.out; have := S2.out; have := S4.out; have := S5.out; have := S6.out; have := S12.out; have := SwA.out; have := SwB.out; omega) (.int .i64 z2)); simpa using h9)
          have kR40 := HR4.cell 0; have kR41 := HR4.cell 1
          have HR5 := (show Blk (World.setCell (World.setCell (World.setCell (World.setCell (World.setCell (World.setCell wB ⟨w.heap.size, 0, none⟩ (.int .i64 a)) ⟨w.heap.size, 1, none⟩ (.int .i64 b)) ⟨w.heap.size + 1, 0, none⟩ (.int .i64 x1)) ⟨w.heap.size + 1, 1, none⟩ (.int .i64 x2)) ⟨w.heap.size + 1 + 1, 0, none⟩ (.int .i64 z1)) ⟨w.heap.size + 1 + 1, 1, none⟩ (.int .i64 z2)) (w.heap.size + 1 + 1) 42 #[.int .i64 z1, .int .i64 z2] by have h9 := ((((((R5.out.far (p := ⟨w.heap.size, 0, none⟩) (show w.heap.size + 1 + 1 ≠ w.heap.size by have := Hgl.out; have := S1.out; have := S2.out; have := S4.out; have := S5.out; have := S6.out; have := S12.out; have := SwA.out; have := SwB.out; omega) (.int .i64 a)).far (p := ⟨w.heap.size, 1, none⟩) (show w.heap.size + 1 + 1 ≠ w.heap.size by have := Hgl.out; have := S1.out; have := S2.out; have := S4.out; have := S5.out; have := S6.out; have := S12.out; have := SwA.out; have := SwB.out; omega) (.int .i64 b)).far (p := ⟨w.heap.size + 1, 0, none⟩) (show w.heap.size + 1 + 1 ≠ w.heap.size + 1 by have := Hgl.out; have := S1.out; have := S2.out; have := S4.out; have := S5.out; have := S6.out; have := S12.out; have := SwA.out; have := SwB.out; omega) (.int .i64 x1)).far (p := ⟨w.heap.size + 1, 1, none⟩) (show w.heap.size + 1 + 1 ≠ w.heap.size + 1 by have := Hgl.out; have := S1.out; have := S2.out; have := S4.out; have := S5.out; have := S6.out; have := S12.out; have := SwA.out; have := SwB.out; omega) (.int .i64 x2)).set 0 (.int .i64 z1)).set 1 (.int .i64 z2)); simpa using h9)
          have kR50 := HR5.cell 0; have kR51 := HR5.cell 1
          simp at kR20 kR21 kR40 kR41 kR50 kR51
          exact bodyPost_ret (v := .tuple #[.agg #[.int .i64 a, .int .i64 b], .int .i64 y, .agg #[.int .i64 x1, .int .i64 x2], .agg #[.int .i64 z1, .int .i64 z2]]) (by simp [results, Tryz.results18, go_sem, kR20, kR21, kR40, kR41, kR50, kR51]) rfl ⟨⟨a, b, y, _, _, _, _, rfl⟩, ((((((HdB.out.st (p := ⟨w.heap.size, 0, none⟩) (show w.heap.size ≤ w.heap.size by have := Hgl.out; have := S1.out; have := S2.out; have := S4.out; have := S5.out; have := S6.out; have := S12.out; have := SwA.out; have := SwB.out; omega) (.int .i64 a)).st (p := ⟨w.heap.size, 1, none⟩) (show w.heap.size ≤ w.heap.size by have := Hgl.out; have := S1.out; have := S2.out; have := S4.out; have := S5.out; have := S6.out; have := S12.out; have := SwA.out; have := SwB.out; omega) (.int .i64 b)).st (p := ⟨w.heap.size + 1, 0, none⟩) (show w.heap.size ≤ w.heap.size + 1 by have := Hgl.out; have := S1.out; have := S2.out; have := S4.out; have := S5.out; have := S6.out; have := S12.out; have := SwA.out; have := SwB.out; omega) (.int .i64 x1)).st (p := ⟨w.heap.size + 1, 1, none⟩) (show w.heap.size ≤ w.heap.size + 1 by have := Hgl.out; have := S1.out; have := S2.out; have := S4.out; have := S5.out; have := S6.out; have := S12.out; have := SwA.out; have := SwB.out; omega) (.int .i64 x2)).st (p := ⟨w.heap.size + 1 + 1, 0, none⟩) (show w.heap.size ≤ w.heap.size + 1 + 1 by have := Hgl.out; have := S1.out; have := S2.out; have := S4.out; have := S5.out; have := S6.out; have := S12.out; have := SwA.out; have := SwB.out; omega) (.int .i64 z1)).st (p := ⟨w.heap.size + 1 + 1, 1, none⟩) (show w.heap.size ≤ w.heap.size + 1 + 1 by have := Hgl.out; have := S1.out; have := S2.out; have := S4.out; have := S5.out; have := S6.out; have := S12.out; have := SwA.out; have := SwB.out; omega) (.int .i64 z2)).below (by have := S1.out; have := S2.out; have := S4.out; have := S5.out; have := S6.out; have := S12.out; have := SwA.out; have := SwB.out; omega) (Nat.le_refl _)⟩
    · go_wp2_with fail
      have qE0 := E.out.cell 0
      have qE1 := E.out.cell 1
      simp at qE0 qE1
      have qEl := E.out.lt
      have qR20 := R2.out.cell 0
      have qR21 := R2.out.cell 1
      simp at qR20 qR21
      have qR2l := R2.out.lt
      have qR2f := R2.out.frozen
      have qR40 := R4.out.cell 0
      have qR41 := R4.out.cell 1
      simp at qR40 qR41
      have qR4l := R4.out.lt
      have qR4f := R4.out.frozen
      have qR50 := R5.out.cell 0
      have qR51 := R5.out.cell 1
      simp at qR50 qR51
      have qR5l := R5.out.lt
      have qR5f := R5.out.frozen
      have nER2 : w1.heap.size ≠ w.heap.size := by have := Hgl.out; have := S1.out; have := S2.out; have := S4.out; have := S5.out; omega
      have nR2E : w.heap.size ≠ w1.heap.size := fun e => nER2 e.symm
      have nER4 : w1.heap.size ≠ w.heap.size + 1 := by have := Hgl.out; have := S1.out; have := S2.out; have := S4.out; have := S5.out; omega
      have nR4E : w.heap.size + 1 ≠ w1.heap.size := fun e => nER4 e.symm
      have nER5 : w1.heap.size ≠ w.heap.size + 1 + 1 := by have := Hgl.out; have := S1.out; have := S2.out; have := S4.out; have := S5.out; omega
      have nR5E : w.heap.size + 1 + 1 ≠ w1.heap.size := fun e => nER5 e.symm
      have nR2R4 : w.heap.size ≠ w.heap.size + 1 := by have := Hgl.out; have := S1.out; have := S2.out; have := S4.out; have := S5.out; omega
      have nR4R2 : w.heap.size + 1 ≠ w.heap.size := fun e => nR2R4 e.symm
      have nR2R5 : w.heap.size ≠ w.heap.size + 1 + 1 := by have := Hgl.out; have := S1.out; have := S2.out; have := S4.out; have := S5.out; omega
      have nR5R2 : w.heap.size + 1 + 1 ≠ w.heap.size := fun e => nR2R5 e.symm
      have nR4R5 : w.heap.size + 1 ≠ w.heap.size + 1 + 1 := by have := Hgl.out; have := S1.out; have := S2.out; have := S4.out; have := S5.out; omega
      have nR5R4 : w.heap.size + 1 + 1 ≠ w.heap.size + 1 := fun e => nR4R5 e.symm
      go_region_with (go_at_call 62; first | (refine (anyFraction_any (w.heap.size + 3) ((0 + 62) + 40) _ HcA.out (by omega)).mono ?_; rintro e wB ⟨⟨z1, z2, rfl⟩, hcB, hdB⟩; have SwB := Lib.hid (show wA.heap.size + 0 ≤ wB.heap.size by have h9 := hdB.size; (try simp only [World.size_alloc, World.size_setCell, World.size_drew] at h9); omega); have HcB := Lib.hid hcB; have HdB := Lib.hid (Dg.trans HdA.out hdB); have h9E : Blk wB (w1.heap.size) 25 #[.int .i64 a, .int .i64 b] := Blk.dg NwAE.out hdB (show w1.heap.size ≠ (w.heap.size + 3) by have := Hgl.out; have := S1.out; have := S2.out; have := S4.out; have := S5.out; omega); have zwBE0 := h9E.cell 0; have zwBE1 := h9E.cell 1; simp at zwBE0 zwBE1; have lwBE := h9E.lt; have NwBE := Lib.hid h9E; clear h9E; have h9R2 : Blk wB (w.heap.size) 25 #[.int .i64 0, .int .i64 0] := Blk.dg NwAR2.out hdB (show w.heap.size ≠ (w.heap.size + 3) by have := Hgl.out; have := S1.out; have := S2.out; have := S4.out; have := S5.out; omega); have zwBR20 := h9R2.cell 0; have zwBR21 := h9R2.cell 1; simp at zwBR20 zwBR21; have lwBR2 := h9R2.lt; have fwBR2 := h9R2.frozen; have NwBR2 := Lib.hid h9R2; clear h9R2; have h9R4 : Blk wB (w.heap.size + 1) 42 #[.int .i64 0, .int .i64 0] := Blk.dg NwAR4.out hdB (show w.heap.size + 1 ≠ (w.heap.size + 3) by have := Hgl.out; have := S1.out; have := S2.out; have := S4.out; have := S5.out; omega); have zwBR40 := h9R4.cell 0; have zwBR41 := h9R4.cell 1; simp at zwBR40 zwBR41; have lwBR4 := h9R4.lt; have fwBR4 := h9R4.frozen; have NwBR4 := Lib.hid h9R4; clear h9R4; have h9R5 : Blk wB (w.heap.size + 1 + 1) 42 #[.int .i64 0, .int .i64 0] := Blk.dg NwAR5.out hdB (show w.heap.size + 1 + 1 ≠ (w.heap.size + 3) by have := Hgl.out; have := S1.out; have := S2.out; have := S4.out; have := S5.out; omega); have zwBR50 := h9R5.cell 0; have zwBR51 := h9R5.cell 1; simp at zwBR50 zwBR51; have lwBR5 := h9R5.lt; have fwBR5 := h9R5.frozen; have NwBR5 := Lib.hid h9R5; clear h9R5; clear hcB hdB) | (refine (anyFraction_any (w.heap.size + 3) (0 + 62) _ (by first | exact Hc5.out | exact Cur.drewP Hc5.out | exact Cur.drewP (Cur.drewP Hc5.out)) (by omega)).mono ?_; rintro e wA ⟨⟨x1, x2, rfl⟩, hcA, hdA⟩; have SwA := Lib.hid (show w5.heap.size + 0 ≤ wA.heap.size by have h9 := hdA.size; (try simp only [World.size_alloc, World.size_setCell, World.size_drew] at h9); omega); have HcA := Lib.hid hcA; have HdA := Lib.hid (Dg.trans (by first | exact Hd5.out | exact Dg.drew Hd5.out | exact Dg.drew (Dg.drew Hd5.out)) hdA); have h9E : Blk wA (w1.heap.size) 25 #[.int .i64 a, .int .i64 b] := Blk.dg (by first | exact E.out | exact Blk.drew E.out | exact Blk.drew (Blk.drew E.out)) hdA (show w1.heap.size ≠ (w.heap.size + 3) by have := Hgl.out; have := S1.out; have := S2.out; have := S4.out; have := S5.out; omega); have zwAE0 := h9E.cell 0; have zwAE1 := h9E.cell 1; simp at zwAE0 zwAE1; have lwAE := h9E.lt; have NwAE := Lib.hid h9E; clear h9E; have h9R2 : Blk wA (w.heap.size) 25 #[.int .i64 0, .int .i64 0] := Blk.dg (by first | exact R2.out | exact Blk.drew R2.out | exact Blk.drew (Blk.drew R2.out)) hdA (show w.heap.size ≠ (w.heap.size + 3) by have := Hgl.out; have := S1.out; have := S2.out; have := S4.out; have := S5.out; omega); have zwAR20 := h9R2.cell 0; have zwAR21 := h9R2.cell 1; simp at zwAR20 zwAR21; have lwAR2 := h9R2.lt; have fwAR2 := h9R2.frozen; have NwAR2 := Lib.hid h9R2; clear h9R2; have h9R4 : Blk wA (w.heap.size + 1) 42 #[.int .i64 0, .int .i64 0] := Blk.dg (by first | exact R4.out | exact Blk.drew R4.out | exact Blk.drew (Blk.drew R4.out)) hdA (show w.heap.size + 1 ≠ (w.heap.size + 3) by have := Hgl.out; have := S1.out; have := S2.out; have := S4.out; have := S5.out; omega); have zwAR40 := h9R4.cell 0; have zwAR41 := h9R4.cell 1; simp at zwAR40 zwAR41; have lwAR4 := h9R4.lt; have fwAR4 := h9R4.frozen; have NwAR4 := Lib.hid h9R4; clear h9R4; have h9R5 : Blk wA (w.heap.size + 1 + 1) 42 #[.int .i64 0, .int .i64 0] := Blk.dg (by first | exact R5.out | exact Blk.drew R5.out | exact Blk.drew (Blk.drew R5.out)) hdA (show w.heap.size + 1 + 1 ≠ (w.heap.size + 3) by have := Hgl.out; have := S1.out; have := S2.out; have := S4.out; have := S5.out; omega); have zwAR50 := h9R5.cell 0; have zwAR51 := h9R5.cell 1; simp at zwAR50 zwAR51; have lwAR5 := h9R5.lt; have fwAR5 := h9R5.frozen; have NwAR5 := Lib.hid h9R5; clear h9R5; clear hcA hdA))
      all_goals
        try go_wp2
        have R2 := NwBR2
        have R4 := NwBR4
        have R5 := NwBR5
        have HR2 := (show Blk (World.setCell (World.setCell (World.setCell (World.setCell (World.setCell (World.setCell wB ⟨w.heap.size, 0, none⟩ (.int .i64 a)) ⟨w.heap.size, 1, none⟩ (.int .i64 b)) ⟨w.heap.size + 1, 0, none⟩ (.int .i64 x1)) ⟨w.heap.size + 1, 1, none⟩ (.int .i64 x2)) ⟨w.heap.size + 1 + 1, 0, none⟩ (.int .i64 z1)) ⟨w.heap.size + 1 + 1, 1, none⟩ (.int .i64 z2)) (w.heap.size) 25 #[.int .i64 a, .int .i64 b] by have h9 := ((((((R2.out.set 0 (.int .i64 a)).set 1 (.int .i64 b)).far (p := ⟨w.heap.size + 1, 0, none⟩) (show w.heap.size ≠ w.heap.size + 1 by have := Hgl.out; have := S1.out; have := S2.out; have := S4.out; have := S5.out; have := SwA.out; have := SwB.out; omega) (.int .i64 x1)).far (p := ⟨w.heap.size + 1, 1, none⟩) (show w.heap.size ≠ w.heap.size + 1 by have := Hgl.out; have := S1.out; have := S2.out; have := S4.out; have := S5.out; have := SwA.out; have := SwB.out; omega) (.int .i64 x2)).far (p := ⟨w.heap.size + 1 + 1, 0, none⟩) (show w.heap.size ≠ w.heap.size + 1 + 1 by have := Hgl.out; have := S1.out; have := S2.out; have := S4.out; have := S5.out; have := SwA.out; have := SwB.out; omega) (.int .i64 z1)).far (p := ⟨w.heap.size + 1 + 1, 1, none⟩) (show w.heap.size ≠ w.heap.size + 1 + 1 by have := Hgl.out; have := S1.out; have := S2.out; have := S4.out; have := S5.out; have := SwA.out; have := SwB.out; omega) (.int .i64 z2)); simpa using h9)
        have kR20 := HR2.cell 0; have kR21 := HR2.cell 1
        have HR4 := (show Blk (World.setCell (World.setCell (World.setCell (World.setCell (World.setCell (World.setCell wB ⟨w.heap.size, 0, none⟩ (.int .i64 a)) ⟨w.heap.size, 1, none⟩ (.int .i64 b)) ⟨w.heap.size + 1, 0, none⟩ (.int .i64 x1)) ⟨w.heap.size + 1, 1, none⟩ (.int .i64 x2)) ⟨w.heap.size + 1 + 1, 0, none⟩ (.int .i64 z1)) ⟨w.heap.size + 1 + 1, 1, none⟩ (.int .i64 z2)) (w.heap.size + 1) 42 #[.int .i64 x1, .int .i64 x2] by have h9 := ((((((R4.out.far (p := ⟨w.heap.size, 0, none⟩) (show w.heap.size + 1 ≠ w.heap.size by have := Hgl.out; have := S1.out; have := S2.out; have := S4.out; have := S5.out; have := SwA.out; have := SwB.out; omega) (.int .i64 a)).far (p := ⟨w.heap.size, 1, none⟩) (show w.heap.size + 1 ≠ w.heap.size by have := Hgl.out; have := S1.out; have := S2.out; have := S4.out; have := S5.out; have := SwA.out; have := SwB.out; omega) (.int .i64 b)).set 0 (.int .i64 x1)).set 1 (.int .i64 x2)).far (p := ⟨w.heap.size + 1 + 1, 0, none⟩) (show w.heap.size + 1 ≠ w.heap.size + 1 + 1 by have := Hgl.out; have := S1.out; have := S2.out; have := S4.out; have := S5.out; have := SwA.out; have := SwB.out; omega) (.int .i64 z1)).far (p := ⟨w.heap.size + 1 + 1, 1, none⟩) (show w.heap.size + 1 ≠ w.heap.size + 1 + 1 by have := Hgl.out; have := S1.out; have := S2.out; have := S4.out; have := S5.out; have := SwA.out; have := SwB.out; omega) (.int .i64 z2)); simpa using h9)
        have kR40 := HR4.cell 0; have kR41 := HR4.cell 1
        have HR5 := (show Blk (World.setCell (World.setCell (World.setCell (World.setCell (World.setCell (World.setCell wB ⟨w.heap.size, 0, none⟩ (.int .i64 a)) ⟨w.heap.size, 1, none⟩ (.int .i64 b)) ⟨w.heap.size + 1, 0, none⟩ (.int .i64 x1)) ⟨w.heap.size + 1, 1, none⟩ (.int .i64 x2)) ⟨w.heap.size + 1 + 1, 0, none⟩ (.int .i64 z1)) ⟨w.heap.size + 1 + 1, 1, none⟩ (.int .i64 z2)) (w.heap.size + 1 + 1) 42 #[.int .i64 z1, .int .i64 z2] by have h9 := ((((((R5.out.far (p := ⟨w.heap.size, 0, none⟩) (show w.heap.size + 1 + 1 ≠ w.heap.size by have := Hgl.out; have := S1.out; have := S2.out; have := S4.out; have := S5.out; have := SwA.out; have := SwB.out; omega) (.int .i64 a)).far (p := ⟨w.heap.size, 1, none⟩) (show w.heap.size + 1 + 1 ≠ w.heap.size by have := Hgl.out; have := S1.out; have := S2.out; have := S4.out; have := S5.out; have := SwA.out; have := SwB.out; omega) (.int .i64 b)).far (p := ⟨w.heap.size + 1, 0, none⟩) (show w.heap.size + 1 + 1 ≠ w.heap.size + 1 by have := Hgl.out; have := S1.out; have := S2.out; have := S4.out; have := S5.out; have := SwA.out; have := SwB.out; omega) (.int .i64 x1)).far (p := ⟨w.heap.size + 1, 1, none⟩) (show w.heap.size + 1 + 1 ≠ w.heap.size + 1 by have := Hgl.out; have := S1.out; have := S2.out; have := S4.out; have := S5.out; have := SwA.out; have := SwB.out; omega) (.int .i64 x2)).set 0 (.int .i64 z1)).set 1 (.int .i64 z2)); simpa using h9)
        have kR50 := HR5.cell 0; have kR51 := HR5.cell 1
        simp at kR20 kR21 kR40 kR41 kR50 kR51
        exact bodyPost_ret (v := .tuple #[.agg #[.int .i64 a, .int .i64 b], .int .i64 y, .agg #[.int .i64 x1, .int .i64 x2], .agg #[.int .i64 z1, .int .i64 z2]]) (by simp [results, Tryz.results18, go_sem, kR20, kR21, kR40, kR41, kR50, kR51]) rfl ⟨⟨a, b, y, _, _, _, _, rfl⟩, ((((((HdB.out.st (p := ⟨w.heap.size, 0, none⟩) (show w.heap.size ≤ w.heap.size by have := Hgl.out; have := S1.out; have := S2.out; have := S4.out; have := S5.out; have := SwA.out; have := SwB.out; omega) (.int .i64 a)).st (p := ⟨w.heap.size, 1, none⟩) (show w.heap.size ≤ w.heap.size by have := Hgl.out; have := S1.out; have := S2.out; have := S4.out; have := S5.out; have := SwA.out; have := SwB.out; omega) (.int .i64 b)).st (p := ⟨w.heap.size + 1, 0, none⟩) (show w.heap.size ≤ w.heap.size + 1 by have := Hgl.out; have := S1.out; have := S2.out; have := S4.out; have := S5.out; have := SwA.out; have := SwB.out; omega) (.int .i64 x1)).st (p := ⟨w.heap.size + 1, 1, none⟩) (show w.heap.size ≤ w.heap.size + 1 by have := Hgl.out; have := S1.out; have := S2.out; have := S4.out; have := S5.out; have := SwA.out; have := SwB.out; omega) (.int .i64 x2)).st (p := ⟨w.heap.size + 1 + 1, 0, none⟩) (show w.heap.size ≤ w.heap.size + 1 + 1 by have := Hgl.out; have := S1.out; have := S2.out; have := S4.out; have := S5.out; have := SwA.out; have := SwB.out; omega) (.int .i64 z1)).st (p := ⟨w.heap.size + 1 + 1, 1, none⟩) (show w.heap.size ≤ w.heap.size + 1 + 1 by have := Hgl.out; have := S1.out; have := S2.out; have := S4.out; have := S5.out; have := SwA.out; have := SwB.out; omega) (.int .i64 z2)).below (by have := S1.out; have := S2.out; have := S4.out; have := S5.out; have := SwA.out; have := SwB.out; omega) (Nat.le_refl _)⟩
end
section
open Go Go.RowKit
theorem take_getQC {E : Type} {S : Shape E} {es : List E} {k : Nat} (h : k < es.length) : es.take (k + 1) = es.take k ++ [S.get es k] := by
  rw [List.take_succ_eq_append_getElem h]
  unfold Shape.get
  rw [List.getD_eq_getElem?_getD, List.getElem?_eq_getElem h]; rfl
set_option maxRecDepth 8000 in
theorem neqCuQ (x y : Cu) (W : World) : (binOp .neq 25 (.agg #[.int .i64 x.a, .int .i64 x.b]) (.agg #[.int .i64 y.a, .int .i64 y.b])).run Tryz.prog W = .ok (.bool (!decide (x = y))) W := by
  obtain ⟨a0, a1⟩ := x
  obtain ⟨b0, b1⟩ := y
  by_cases h0 : a0 = b0
  · by_cases h1 : a1 = b1
    · simp [go_sem, h0, h1]
    · simp [go_sem, h0, h1]
  · simp [go_sem, h0]
set_option maxRecDepth 8000 in
set_option maxHeartbeats 4000000 in
theorem qCu_any (u v : Value) (es fs : List Cu) (w : World) (hu : Rd cuS w w.heap.size u es) (hv : Rd cuS w w.heap.size v fs) :
    Calls Tryz.prog 15 #[u, v] w fun r w' => r = .returned (.bool (decide (es = fs))) ∧ Below w.heap.size w w' := by
  obtain ⟨A, c, rfl, hc, hm, hA⟩ := hu
  obtain ⟨A', c', rfl, hc', hm', hA'⟩ := hv
  unfold maxLen at hm hm'
  by_cases hlen : es.length = fs.length
  · have hne : ((es.length : Int) != (fs.length : Int)) = false := by simp [hlen]
    rcases Nat.eq_zero_or_pos es.length with h0 | h0
    · obtain rfl : es = [] := List.eq_nil_of_length_eq_zero h0
      obtain rfl : fs = [] := List.eq_nil_of_length_eq_zero (by rw [← hlen]; exact h0)
      clear hA hA' hlen hne
      go_enter Tryz.func15, Tryz.ntmps15
      go_wp2
      refine wp_loop_rounds 1 ?_
      rw [rounds_succ]
      go_wp2
      go_ret
      exact ⟨rfl, by (repeat (with_reducible first | exact Below.refl _ _ | assumption | refine bal ?_ _ | refine bst ?_ (by simp <;> omega) _ | refine Below.drew ?_ | refine bthen ?_ (by assumption)))⟩
    · obtain ⟨g, off, rfl, hg, hcell⟩ := hA h0
      obtain ⟨g', off', rfl, hg', hcell'⟩ := hA' (by omega)
      clear hA hA'
      have hcell := cu_cells hcell
      have hcell' := cu_cells hcell'
      rw [← hlen] at hcell' hc'
      have Hlen := Lib.hid hlen
      rw [← hlen]
      clear hlen hne
      go_enter Tryz.func15, Tryz.ntmps15
      go_wp2
      go_loopw [13] (fun i wr => ∃ k : Nat, k ≤ es.length ∧ i = .int .i64 k ∧ Hid (es.take k = fs.take k) ∧ Below w.heap.size w wr) (fun i _ => es.length - (intOf i).toNat)
      case atStart => exact ⟨0, Nat.zero_le _, rfl, Lib.hid (by simp), Below.refl _ _⟩
      case round =>
        obtain ⟨k, hk, rfl, Heq, hb⟩ := hrel
        by_cases hlt : k < es.length
        · obtain ⟨f0, f1⟩ := hcell k hlt
          obtain ⟨p0, p1⟩ := hcell' k hlt
          rw [← hb.cell (p := ⟨_, _, _⟩) hg] at f0 f1
          rw [← hb.cell (p := ⟨_, _, _⟩) hg'] at p0 p1
          obtain ⟨x, hx⟩ : ∃ e, cuS.get es k = e := ⟨_, rfl⟩
          obtain ⟨y, hy⟩ : ∃ e, cuS.get fs k = e := ⟨_, rfl⟩
          rw [hx] at f0 f1
          rw [hy] at p0 p1
          have Hx := Lib.hid hx; have Hy := Lib.hid hy
          have hgr : g < wr.heap.size := Nat.lt_of_lt_of_le hg hb.size
          have hgr' : g' < wr.heap.size := Nat.lt_of_lt_of_le hg' hb.size
          have hi0 : (0 : Int) ≤ (k : Int) := by omega
          have hi1 : (k : Int) < (es.length : Int) := by omega
          have hql := neqCuQ x y
          clear hcell hcell' hx hy
          by_cases hd : x = y
          · have hql2 : ∀ W, (binOp .neq 25 (.agg #[.int .i64 x.a, .int .i64 x.b]) (.agg #[.int .i64 y.a, .int .i64 y.b])).run Tryz.prog W = .ok (.bool false) W := fun W => by rw [hql W, decide_eq_true hd]; rfl
            have Hnext := Lib.hid (show es.take (k + 1) = fs.take (k + 1) by rw [take_getQC (S := cuS) hlt, take_getQC (S := cuS) (by have := Hlen.out; omega), Heq.out, Hx.out, Hy.out, hd])
            clear hql hd
            go_wp2
            refine wp_region_tame (by kernel_rfl) (by kernel_rfl) (fun T _ W hT => ?_)
            have hz := hT.cell
            repeat (go_big_quiet_step (fail))
            refine wpQuiet_nil ?_
            intro t
            clear hz
            go_wp2
            go_roundw
            case rel => exact ⟨k + 1, by omega, by go_num, Hnext, bthen hb (hT.below t)⟩
            case measure => simp [intOf]; omega
          · have hql2 : ∀ W, (binOp .neq 25 (.agg #[.int .i64 x.a, .int .i64 x.b]) (.agg #[.int .i64 y.a, .int .i64 y.b])).run Tryz.prog W = .ok (.bool true) W := fun W => by rw [hql W, decide_eq_false hd]; rfl
            have Hno := Lib.hid (show decide (es = fs) = false from decide_eq_false (fun e => hd (by rw [← Hx.out, ← Hy.out, e])))
            clear hql hd
            go_wp2
            refine wp_region_tame (by kernel_rfl) (by kernel_rfl) (fun T _ W hT => ?_)
            have hz := hT.cell
            repeat (go_big_quiet_step (fail))
            refine wpQuiet_nil ?_
            intro t
            clear hz
            go_wp2
            go_ret
            exact ⟨ret_bool Hno.out.symm, bthen hb (hT.below t)⟩
        · obtain rfl : k = es.length := by omega
          have Hyes := Lib.hid (show decide (es = fs) = true from decide_eq_true (by have h := Heq.out; rw [List.take_length, Hlen.out, List.take_length] at h; exact h))
          clear hcell hcell'
          go_wp2
          go_ret
          exact ⟨ret_bool Hyes.out.symm, hb⟩
  · have hne : ((es.length : Int) != (fs.length : Int)) = true := by simp; omega
    have Hno := Lib.hid (show decide (es = fs) = false from decide_eq_false (fun e => hlen (by rw [e])))
    clear hA hA'
    have Hlen := Lib.hid hlen; clear hlen
    go_enter Tryz.func15, Tryz.ntmps15
    go_wp2
    go_ret
    exact ⟨ret_bool Hno.out.symm, by (repeat (with_reducible first | exact Below.refl _ _ | assumption | refine bal ?_ _ | refine bst ?_ (by simp <;> omega) _ | refine Below.drew ?_ | refine bthen ?_ (by assumption)))⟩
end
section
open Go Go.RowKit
def bigB (n m : Nat) : Bool := decide (1048576 < (n : Int)) || decide (1048576 - (n : Int) < (m : Int))
theorem big_any (A : Option Addr) (n c : Nat) (B : Option Addr) (m d : Nat) (w : World) :
    Calls Tryz.prog 6 #[.slice A n c, .slice B m d] w fun r w' => r = .returned (.bool (bigB n m)) ∧ Below w.heap.size w w' := by
  by_cases h1 : (1048576 : Int) < (n : Int)
  · have h1' : 1048576 < n := by omega
    have hv : bigB n m = true := by unfold bigB; rw [decide_eq_true h1]; rfl
    rw [hv]; clear hv
    go_enter Tryz.func6, Tryz.ntmps6
    go_wp2
    go_ret
    exact ⟨rfl, Below.refl _ _⟩
  · have h1' : ¬ 1048576 < n := by omega
    have hv : bigB n m = decide (1048576 - (n : Int) < (m : Int)) := by unfold bigB; rw [decide_eq_false h1]; rfl
    rw [hv]; clear hv
    go_enter Tryz.func6, Tryz.ntmps6
    go_wp2
    go_ret
    exact ⟨rfl, Below.refl _ _⟩
end
section
open Go Go.RowKit

set_option linter.unusedSimpArgs false in
set_option maxHeartbeats 1600000 in
theorem prodS_lit {a b c d x y : Int} {ok : Bool} (h : FrQ (mulG (a, b) (c, d)) x y ok) (w : World) :
    Calls Tryz.prog 21 #[.agg #[.int .i64 a, .int .i64 b], .agg #[.int .i64 c, .int .i64 d]] w fun e w' => e = .returned (.tuple #[.agg #[.int .i64 x, .int .i64 y], .bool ok]) ∧ Below w.heap.size w w' := by
  cases h1 : (frB 1000000000 a b && frB 1000000000 c d)
  · obtain ⟨rfl, rfl, rfl⟩ : x = 0 ∧ y = 0 ∧ ok = false := by unfold mulG at h; rw [if_neg (by show ¬ (frB 1000000000 a b && frB 1000000000 c d) = true; rw [h1]; simp)] at h; exact h
    have H1 := Lib.hid h1; clear h1 h
    go_enter Tryz.func21, Tryz.ntmps21
    go_wp2_with fail
    refine (two_lit H1.out _).mono ?_; rintro e w1 ⟨rfl, hb1⟩
    have S1 := Lib.hid (show w.heap.size + 3 ≤ w1.heap.size by have h9 := hb1.size; (try simp only [World.size_alloc, World.size_setCell, World.size_drew] at h9); omega)
    have NA := Lib.hid ((((Blk.new w 42 #[.int .i64 a, .int .i64 b]).alloc (Obj.cells #[.int .i64 c, .int .i64 d] 42)).alloc (Obj.cells #[.int .i64 0, .int .i64 0] 42)).on hb1)
    have NB := Lib.hid (((show Blk (World.alloc (World.alloc w (Obj.cells #[.int .i64 a, .int .i64 b] 42)) (Obj.cells #[.int .i64 c, .int .i64 d] 42)) (w.heap.size + 1) 42 #[.int .i64 c, .int .i64 d] by have h9 := (Blk.new (World.alloc w (Obj.cells #[.int .i64 a, .int .i64 b] 42)) 42 #[.int .i64 c, .int .i64 d]); (try simp only [World.size_alloc, World.size_setCell] at h9); exact h9).alloc (Obj.cells #[.int .i64 0, .int .i64 0] 42)).on hb1)
    have NR := Lib.hid ((show Blk (World.alloc (World.alloc (World.alloc w (Obj.cells #[.int .i64 a, .int .i64 b] 42)) (Obj.cells #[.int .i64 c, .int .i64 d] 42)) (Obj.cells #[.int .i64 0, .int .i64 0] 42)) (w.heap.size + 1 + 1) 42 #[.int .i64 0, .int .i64 0] by have h9 := (Blk.new (World.alloc (World.alloc w (Obj.cells #[.int .i64 a, .int .i64 b] 42)) (Obj.cells #[.int .i64 c, .int .i64 d] 42)) 42 #[.int .i64 0, .int .i64 0]); (try simp only [World.size_alloc, World.size_setCell] at h9); exact h9).on hb1)
    have A := NA; clear NA
    have B := NB; clear NB
    have R := NR; clear NR
    have Hb1 := Lib.hid (bthen (bal (bal (bal (Below.refl w.heap.size w) (Obj.cells #[.int .i64 a, .int .i64 b] 42)) (Obj.cells #[.int .i64 c, .int .i64 d] 42)) (Obj.cells #[.int .i64 0, .int .i64 0] 42)) hb1)
    clear hb1
    have qR0 : w1.cell? ⟨w.heap.size + 1 + 1, 0, none⟩ = some (.int .i64 0) := R.out.cell 0
    have qR1 : w1.cell? ⟨w.heap.size + 1 + 1, 1, none⟩ = some (.int .i64 0) := R.out.cell 1
    have qRl := R.out.lt
    have qRf0 := R.out.frozen 0
    have qRf1 := R.out.frozen 1
    go_wp2
    clear qR0 qR1 qRl qRf0 qRf1
    have R9R := (show Blk (World.setCell (World.setCell w1 ⟨w.heap.size + 1 + 1, 0, none⟩ (.int .i64 0)) ⟨w.heap.size + 1 + 1, 1, none⟩ (.int .i64 0)) (w.heap.size + 1 + 1) 42 #[.int .i64 0, .int .i64 0] by have h9 := ((R.out.set 0 (.int .i64 0)).set 1 (.int .i64 0)); simpa using h9)
    have kR0 := R9R.cell 0
    have kR1 := R9R.cell 1
    simp at kR0 kR1
    exact bodyPost_ret (v := .tuple #[.agg #[.int .i64 0, .int .i64 0], .bool false]) (by simp [results, Tryz.results21, go_sem, kR0, kR1]) rfl ⟨rfl, (bst (bst Hb1.out (p := ⟨w.heap.size + 1 + 1, 0, none⟩) (show w.heap.size ≤ w.heap.size + 1 + 1 by have := S1.out; (try simp only [World.size_alloc, World.size_setCell, World.size_drew]); omega) (.int .i64 0)) (p := ⟨w.heap.size + 1 + 1, 1, none⟩) (show w.heap.size ≤ w.heap.size + 1 + 1 by have := S1.out; (try simp only [World.size_alloc, World.size_setCell, World.size_drew]); omega) (.int .i64 0))⟩
  · replace h : FrQ (mulF 1000000000 (a, b) (c, d)) x y ok := by unfold mulG at h; rw [if_pos (by show (frB 1000000000 a b && frB 1000000000 c d) = true; rw [h1])] at h; exact h
    have H := Lib.hid h; have H1 := Lib.hid h1; have Hg := Lib.hid (Bool.and_eq_true_iff.1 h1); clear h h1
    go_enter Tryz.func21, Tryz.ntmps21
    go_wp2_with fail
    refine (two_lit H1.out _).mono ?_; rintro e w2 ⟨rfl, hb2⟩
    have S2 := Lib.hid (show w.heap.size + 3 ≤ w2.heap.size by have h9 := hb2.size; (try simp only [World.size_alloc, World.size_setCell, World.size_drew] at h9); omega)
    have NA := Lib.hid ((((Blk.new w 42 #[.int .i64 a, .int .i64 b]).alloc (Obj.cells #[.int .i64 c, .int .i64 d] 42)).alloc (Obj.cells #[.int .i64 0, .int .i64 0] 42)).on hb2)
    have NB := Lib.hid (((show Blk (World.alloc (World.alloc w (Obj.cells #[.int .i64 a, .int .i64 b] 42)) (Obj.cells #[.int .i64 c, .int .i64 d] 42)) (w.heap.size + 1) 42 #[.int .i64 c, .int .i64 d] by have h9 := (Blk.new (World.alloc w (Obj.cells #[.int .i64 a, .int .i64 b] 42)) 42 #[.int .i64 c, .int .i64 d]); (try simp only [World.size_alloc, World.size_setCell] at h9); exact h9).alloc (Obj.cells #[.int .i64 0, .int .i64 0] 42)).on hb2)
    have NR := Lib.hid ((show Blk (World.alloc (World.alloc (World.alloc w (Obj.cells #[.int .i64 a, .int .i64 b] 42)) (Obj.cells #[.int .i64 c, .int .i64 d] 42)) (Obj.cells #[.int .i64 0, .int .i64 0] 42)) (w.heap.size + 1 + 1) 42 #[.int .i64 0, .int .i64 0] by have h9 := (Blk.new (World.alloc (World.alloc w (Obj.cells #[.int .i64 a, .int .i64 b] 42)) (Obj.cells #[.int .i64 c, .int .i64 d] 42)) 42 #[.int .i64 0, .int .i64 0]); (try simp only [World.size_alloc, World.size_setCell] at h9); exact h9).on hb2)
    have A := NA; clear NA
    have B := NB; clear NB
    have R := NR; clear NR
    have Hb2 := Lib.hid (bthen (bal (bal (bal (Below.refl w.heap.size w) (Obj.cells #[.int .i64 a, .int .i64 b] 42)) (Obj.cells #[.int .i64 c, .int .i64 d] 42)) (Obj.cells #[.int .i64 0, .int .i64 0] 42)) hb2)
    clear hb2
    have qA0 : w2.cell? ⟨w.heap.size, 0, none⟩ = some (.int .i64 a) := A.out.cell 0
    have qA1 : w2.cell? ⟨w.heap.size, 1, none⟩ = some (.int .i64 b) := A.out.cell 1
    have qAl := A.out.lt
    have qB0 : w2.cell? ⟨w.heap.size + 1, 0, none⟩ = some (.int .i64 c) := B.out.cell 0
    have qB1 : w2.cell? ⟨w.heap.size + 1, 1, none⟩ = some (.int .i64 d) := B.out.cell 1
    have qBl := B.out.lt
    go_wp2_with fail
    clear qA0 qA1 qAl qB0 qB1 qBl
    refine (mulS_lit H.out Hg.out.1 Hg.out.2 _).mono ?_; rintro e w3 ⟨rfl, hb3⟩
    have S3 := Lib.hid (show w2.heap.size + 0 ≤ w3.heap.size by have h9 := hb3.size; (try simp only [World.size_alloc, World.size_setCell, World.size_drew] at h9); omega)
    have NA := Lib.hid (A.out.on hb3)
    have NB := Lib.hid (B.out.on hb3)
    have NR := Lib.hid (R.out.on hb3)
    have A := NA; clear NA
    have B := NB; clear NB
    have R := NR; clear NR
    have Hb3 := Lib.hid (bthen Hb2.out hb3)
    clear hb3
    have qR0 : w3.cell? ⟨w.heap.size + 1 + 1, 0, none⟩ = some (.int .i64 0) := R.out.cell 0
    have qR1 : w3.cell? ⟨w.heap.size + 1 + 1, 1, none⟩ = some (.int .i64 0) := R.out.cell 1
    have qRl := R.out.lt
    have qRf0 := R.out.frozen 0
    have qRf1 := R.out.frozen 1
    go_wp2
    clear qR0 qR1 qRl qRf0 qRf1
    have R9R := (show Blk (World.setCell (World.setCell w3 ⟨w.heap.size + 1 + 1, 0, none⟩ (.int .i64 x)) ⟨w.heap.size + 1 + 1, 1, none⟩ (.int .i64 y)) (w.heap.size + 1 + 1) 42 #[.int .i64 x, .int .i64 y] by have h9 := ((R.out.set 0 (.int .i64 x)).set 1 (.int .i64 y)); simpa using h9)
    have kR0 := R9R.cell 0
    have kR1 := R9R.cell 1
    simp at kR0 kR1
    exact bodyPost_ret (v := .tuple #[.agg #[.int .i64 x, .int .i64 y], .bool ok]) (by simp [results, Tryz.results21, go_sem, kR0, kR1]) rfl ⟨rfl, (bst (bst Hb3.out (p := ⟨w.heap.size + 1 + 1, 0, none⟩) (show w.heap.size ≤ w.heap.size + 1 + 1 by have := S2.out; have := S3.out; (try simp only [World.size_alloc, World.size_setCell, World.size_drew]); omega) (.int .i64 x)) (p := ⟨w.heap.size + 1 + 1, 1, none⟩) (show w.heap.size ≤ w.heap.size + 1 + 1 by have := S2.out; have := S3.out; (try simp only [World.size_alloc, World.size_setCell, World.size_drew]); omega) (.int .i64 y))⟩
set_option linter.unusedSimpArgs false in
set_option maxHeartbeats 1600000 in
theorem sumS_lit {a b c d x y : Int} {ok : Bool} (h : FrQ (sumG (a, b) (c, d)) x y ok) (w : World) :
    Calls Tryz.prog 22 #[.agg #[.int .i64 a, .int .i64 b], .agg #[.int .i64 c, .int .i64 d]] w fun e w' => e = .returned (.tuple #[.agg #[.int .i64 x, .int .i64 y], .bool ok]) ∧ Below w.heap.size w w' := by
  cases h1 : (frB 1000000000 a b && frB 1000000000 c d)
  · obtain ⟨rfl, rfl, rfl⟩ : x = 0 ∧ y = 0 ∧ ok = false := by unfold sumG at h; rw [if_neg (by show ¬ (frB 1000000000 a b && frB 1000000000 c d) = true; rw [h1]; simp)] at h; exact h
    have H1 := Lib.hid h1; clear h1 h
    go_enter Tryz.func22, Tryz.ntmps22
    go_wp2_with fail
    refine (two_lit H1.out _).mono ?_; rintro e w1 ⟨rfl, hb1⟩
    have S1 := Lib.hid (show w.heap.size + 3 ≤ w1.heap.size by have h9 := hb1.size; (try simp only [World.size_alloc, World.size_setCell, World.size_drew] at h9); omega)
    have NA := Lib.hid ((((Blk.new w 42 #[.int .i64 a, .int .i64 b]).alloc (Obj.cells #[.int .i64 c, .int .i64 d] 42)).alloc (Obj.cells #[.int .i64 0, .int .i64 0] 42)).on hb1)
    have NB := Lib.hid (((show Blk (World.alloc (World.alloc w (Obj.cells #[.int .i64 a, .int .i64 b] 42)) (Obj.cells #[.int .i64 c, .int .i64 d] 42)) (w.heap.size + 1) 42 #[.int .i64 c, .int .i64 d] by have h9 := (Blk.new (World.alloc w (Obj.cells #[.int .i64 a, .int .i64 b] 42)) 42 #[.int .i64 c, .int .i64 d]); (try simp only [World.size_alloc, World.size_setCell] at h9); exact h9).alloc (Obj.cells #[.int .i64 0, .int .i64 0] 42)).on hb1)
    have NR := Lib.hid ((show Blk (World.alloc (World.alloc (World.alloc w (Obj.cells #[.int .i64 a, .int .i64 b] 42)) (Obj.cells #[.int .i64 c, .int .i64 d] 42)) (Obj.cells #[.int .i64 0, .int .i64 0] 42)) (w.heap.size + 1 + 1) 42 #[.int .i64 0, .int .i64 0] by have h9 := (Blk.new (World.alloc (World.alloc w (Obj.cells #[.int .i64 a, .int .i64 b] 42)) (Obj.cells #[.int .i64 c, .int .i64 d] 42)) 42 #[.int .i64 0, .int .i64 0]); (try simp only [World.size_alloc, World.size_setCell] at h9); exact h9).on hb1)
    have A := NA; clear NA
    have B := NB; clear NB
    have R := NR; clear NR
    have Hb1 := Lib.hid (bthen (bal (bal (bal (Below.refl w.heap.size w) (Obj.cells #[.int .i64 a, .int .i64 b] 42)) (Obj.cells #[.int .i64 c, .int .i64 d] 42)) (Obj.cells #[.int .i64 0, .int .i64 0] 42)) hb1)
    clear hb1
    have qR0 : w1.cell? ⟨w.heap.size + 1 + 1, 0, none⟩ = some (.int .i64 0) := R.out.cell 0
    have qR1 : w1.cell? ⟨w.heap.size + 1 + 1, 1, none⟩ = some (.int .i64 0) := R.out.cell 1
    have qRl := R.out.lt
    have qRf0 := R.out.frozen 0
    have qRf1 := R.out.frozen 1
    go_wp2
    clear qR0 qR1 qRl qRf0 qRf1
    have R9R := (show Blk (World.setCell (World.setCell w1 ⟨w.heap.size + 1 + 1, 0, none⟩ (.int .i64 0)) ⟨w.heap.size + 1 + 1, 1, none⟩ (.int .i64 0)) (w.heap.size + 1 + 1) 42 #[.int .i64 0, .int .i64 0] by have h9 := ((R.out.set 0 (.int .i64 0)).set 1 (.int .i64 0)); simpa using h9)
    have kR0 := R9R.cell 0
    have kR1 := R9R.cell 1
    simp at kR0 kR1
    exact bodyPost_ret (v := .tuple #[.agg #[.int .i64 0, .int .i64 0], .bool false]) (by simp [results, Tryz.results22, go_sem, kR0, kR1]) rfl ⟨rfl, (bst (bst Hb1.out (p := ⟨w.heap.size + 1 + 1, 0, none⟩) (show w.heap.size ≤ w.heap.size + 1 + 1 by have := S1.out; (try simp only [World.size_alloc, World.size_setCell, World.size_drew]); omega) (.int .i64 0)) (p := ⟨w.heap.size + 1 + 1, 1, none⟩) (show w.heap.size ≤ w.heap.size + 1 + 1 by have := S1.out; (try simp only [World.size_alloc, World.size_setCell, World.size_drew]); omega) (.int .i64 0))⟩
  · replace h : FrQ (addF 1000000000 (a, b) (c, d)) x y ok := by unfold sumG at h; rw [if_pos (by show (frB 1000000000 a b && frB 1000000000 c d) = true; rw [h1])] at h; exact h
    have H := Lib.hid h; have H1 := Lib.hid h1; have Hg := Lib.hid (Bool.and_eq_true_iff.1 h1); clear h h1
    go_enter Tryz.func22, Tryz.ntmps22
    go_wp2_with fail
    refine (two_lit H1.out _).mono ?_; rintro e w2 ⟨rfl, hb2⟩
    have S2 := Lib.hid (show w.heap.size + 3 ≤ w2.heap.size by have h9 := hb2.size; (try simp only [World.size_alloc, World.size_setCell, World.size_drew] at h9); omega)
    have NA := Lib.hid ((((Blk.new w 42 #[.int .i64 a, .int .i64 b]).alloc (Obj.cells #[.int .i64 c, .int .i64 d] 42)).alloc (Obj.cells #[.int .i64 0, .int .i64 0] 42)).on hb2)
    have NB := Lib.hid (((show Blk (World.alloc (World.alloc w (Obj.cells #[.int .i64 a, .int .i64 b] 42)) (Obj.cells #[.int .i64 c, .int .i64 d] 42)) (w.heap.size + 1) 42 #[.int .i64 c, .int .i64 d] by have h9 := (Blk.new (World.alloc w (Obj.cells #[.int .i64 a, .int .i64 b] 42)) 42 #[.int .i64 c, .int .i64 d]); (try simp only [World.size_alloc, World.size_setCell] at h9); exact h9).alloc (Obj.cells #[.int .i64 0, .int .i64 0] 42)).on hb2)
    have NR := Lib.hid ((show Blk (World.alloc (World.alloc (World.alloc w (Obj.cells #[.int .i64 a, .int .i64 b] 42)) (Obj.cells #[.int .i64 c, .int .i64 d] 42)) (Obj.cells #[.int .i64 0, .int .i64 0] 42)) (w.heap.size + 1 + 1) 42 #[.int .i64 0, .int .i64 0] by have h9 := (Blk.new (World.alloc (World.alloc w (Obj.cells #[.int .i64 a, .int .i64 b] 42)) (Obj.cells #[.int .i64 c, .int .i64 d] 42)) 42 #[.int .i64 0, .int .i64 0]); (try simp only [World.size_alloc, World.size_setCell] at h9); exact h9).on hb2)
    have A := NA; clear NA
    have B := NB; clear NB
    have R := NR; clear NR
    have Hb2 := Lib.hid (bthen (bal (bal (bal (Below.refl w.heap.size w) (Obj.cells #[.int .i64 a, .int .i64 b] 42)) (Obj.cells #[.int .i64 c, .int .i64 d] 42)) (Obj.cells #[.int .i64 0, .int .i64 0] 42)) hb2)
    clear hb2
    have qA0 : w2.cell? ⟨w.heap.size, 0, none⟩ = some (.int .i64 a) := A.out.cell 0
    have qA1 : w2.cell? ⟨w.heap.size, 1, none⟩ = some (.int .i64 b) := A.out.cell 1
    have qAl := A.out.lt
    have qB0 : w2.cell? ⟨w.heap.size + 1, 0, none⟩ = some (.int .i64 c) := B.out.cell 0
    have qB1 : w2.cell? ⟨w.heap.size + 1, 1, none⟩ = some (.int .i64 d) := B.out.cell 1
    have qBl := B.out.lt
    go_wp2_with fail
    clear qA0 qA1 qAl qB0 qB1 qBl
    refine (addS_lit H.out Hg.out.1 Hg.out.2 _).mono ?_; rintro e w3 ⟨rfl, hb3⟩
    have S3 := Lib.hid (show w2.heap.size + 0 ≤ w3.heap.size by have h9 := hb3.size; (try simp only [World.size_alloc, World.size_setCell, World.size_drew] at h9); omega)
    have NA := Lib.hid (A.out.on hb3)
    have NB := Lib.hid (B.out.on hb3)
    have NR := Lib.hid (R.out.on hb3)
    have A := NA; clear NA
    have B := NB; clear NB
    have R := NR; clear NR
    have Hb3 := Lib.hid (bthen Hb2.out hb3)
    clear hb3
    have qR0 : w3.cell? ⟨w.heap.size + 1 + 1, 0, none⟩ = some (.int .i64 0) := R.out.cell 0
    have qR1 : w3.cell? ⟨w.heap.size + 1 + 1, 1, none⟩ = some (.int .i64 0) := R.out.cell 1
    have qRl := R.out.lt
    have qRf0 := R.out.frozen 0
    have qRf1 := R.out.frozen 1
    go_wp2
    clear qR0 qR1 qRl qRf0 qRf1
    have R9R := (show Blk (World.setCell (World.setCell w3 ⟨w.heap.size + 1 + 1, 0, none⟩ (.int .i64 x)) ⟨w.heap.size + 1 + 1, 1, none⟩ (.int .i64 y)) (w.heap.size + 1 + 1) 42 #[.int .i64 x, .int .i64 y] by have h9 := ((R.out.set 0 (.int .i64 x)).set 1 (.int .i64 y)); simpa using h9)
    have kR0 := R9R.cell 0
    have kR1 := R9R.cell 1
    simp at kR0 kR1
    exact bodyPost_ret (v := .tuple #[.agg #[.int .i64 x, .int .i64 y], .bool ok]) (by simp [results, Tryz.results22, go_sem, kR0, kR1]) rfl ⟨rfl, (bst (bst Hb3.out (p := ⟨w.heap.size + 1 + 1, 0, none⟩) (show w.heap.size ≤ w.heap.size + 1 + 1 by have := S2.out; have := S3.out; (try simp only [World.size_alloc, World.size_setCell, World.size_drew]); omega) (.int .i64 x)) (p := ⟨w.heap.size + 1 + 1, 1, none⟩) (show w.heap.size ≤ w.heap.size + 1 + 1 by have := S2.out; have := S3.out; (try simp only [World.size_alloc, World.size_setCell, World.size_drew]); omega) (.int .i64 y))⟩
set_option linter.unusedSimpArgs false in
set_option maxHeartbeats 1600000 in
theorem smallS_any (a b : Int) (w : World) (hc : curveB a b = true) :
    Calls Tryz.prog 12 #[.agg #[.int .i64 a, .int .i64 b]] w fun e w' => (∃ u : Int, e = .returned (.tuple #[.agg #[.int .i64 (smC a b).a, .int .i64 (smC a b).b], .int .i64 u, .bool true])) ∧ Below w.heap.size w w' := by
  have Hc := Lib.hid hc; clear hc
  go_enter Tryz.func12, Tryz.ntmps12
  go_wp2_with fail
  refine (cvS_lit Hc.out _).mono ?_; rintro e w1 ⟨rfl, hb1⟩
  have S1 := Lib.hid (show w.heap.size + 2 ≤ w1.heap.size by have h9 := hb1.size; (try simp only [World.size_alloc, World.size_setCell, World.size_drew] at h9); omega)
  have NA := Lib.hid (((Blk.new w 25 #[.int .i64 a, .int .i64 b]).alloc (Obj.cells #[.int .i64 0, .int .i64 0] 25)).on hb1)
  have NR := Lib.hid ((show Blk (World.alloc (World.alloc w (Obj.cells #[.int .i64 a, .int .i64 b] 25)) (Obj.cells #[.int .i64 0, .int .i64 0] 25)) (w.heap.size + 1) 25 #[.int .i64 0, .int .i64 0] by have h9 := (Blk.new (World.alloc w (Obj.cells #[.int .i64 a, .int .i64 b] 25)) 25 #[.int .i64 0, .int .i64 0]); (try simp only [World.size_alloc, World.size_setCell] at h9); exact h9).on hb1)
  have A := NA; clear NA
  have R := NR; clear NR
  have Hb1 := Lib.hid (bthen (bal (bal (Below.refl w.heap.size w) (Obj.cells #[.int .i64 a, .int .i64 b] 25)) (Obj.cells #[.int .i64 0, .int .i64 0] 25)) hb1)
  clear hb1
  have qA0 : w1.cell? ⟨w.heap.size, 0, none⟩ = some (.int .i64 a) := A.out.cell 0
  have qA1 : w1.cell? ⟨w.heap.size, 1, none⟩ = some (.int .i64 b) := A.out.cell 1
  have qAl := A.out.lt
  go_wp2_with fail
  clear qA0 qA1 qAl
  refine (ecSmallest_any a b _ Hc.out).mono ?_; rintro e w2 ⟨rfl, hb2⟩
  have S2 := Lib.hid (show w1.heap.size + 0 ≤ w2.heap.size by have h9 := hb2.size; (try simp only [World.size_alloc, World.size_setCell, World.size_drew] at h9); omega)
  have NA := Lib.hid (A.out.on hb2)
  have NR := Lib.hid (R.out.on hb2)
  have A := NA; clear NA
  have R := NR; clear NR
  have Hb2 := Lib.hid (bthen Hb1.out hb2)
  clear hb2
  generalize smU a b = u
  have qR0 : w2.cell? ⟨w.heap.size + 1, 0, none⟩ = some (.int .i64 0) := R.out.cell 0
  have qR1 : w2.cell? ⟨w.heap.size + 1, 1, none⟩ = some (.int .i64 0) := R.out.cell 1
  have qRl := R.out.lt
  have qRf0 := R.out.frozen 0
  have qRf1 := R.out.frozen 1
  go_wp2
  clear qR0 qR1 qRl qRf0 qRf1
  have R9R := (show Blk (World.alloc (World.setCell (World.setCell w2 ⟨w.heap.size + 1, 0, none⟩ (.int .i64 (smC a b).a)) ⟨w.heap.size + 1, 1, none⟩ (.int .i64 (smC a b).b)) (Obj.cells #[.int .i64 (smC a b).a, .int .i64 (smC a b).b] 25)) (w.heap.size + 1) 25 #[.int .i64 (smC a b).a, .int .i64 (smC a b).b] by have h9 := (((R.out.set 0 (.int .i64 (smC a b).a)).set 1 (.int .i64 (smC a b).b)).alloc (Obj.cells #[.int .i64 (smC a b).a, .int .i64 (smC a b).b] 25)); simpa using h9)
  have kR0 := R9R.cell 0
  have kR1 := R9R.cell 1
  simp at kR0 kR1
  exact bodyPost_ret (v := .tuple #[.agg #[.int .i64 (smC a b).a, .int .i64 (smC a b).b], .int .i64 u, .bool true]) (by simp [results, Tryz.results12, go_sem, kR0, kR1]) rfl ⟨⟨u, rfl⟩, (bal (bst (bst Hb2.out (p := ⟨w.heap.size + 1, 0, none⟩) (show w.heap.size ≤ w.heap.size + 1 by have := S1.out; have := S2.out; (try simp only [World.size_alloc, World.size_setCell, World.size_drew]); omega) (.int .i64 (smC a b).a)) (p := ⟨w.heap.size + 1, 1, none⟩) (show w.heap.size ≤ w.heap.size + 1 by have := S1.out; have := S2.out; (try simp only [World.size_alloc, World.size_setCell, World.size_drew]); omega) (.int .i64 (smC a b).b)) (Obj.cells #[.int .i64 (smC a b).a, .int .i64 (smC a b).b] 25))⟩
theorem Rd.formC9 {w : World} {v : Value} {L : List Cu} (h : Rd cuS w w.heap.size v L) : ∃ A c, v = .slice A L.length c := by
  obtain ⟨A, c, rfl, -⟩ := h
  exact ⟨A, c, rfl⟩
theorem Rd.cuAt9 {w : World} {A : Option Addr} {c : Nat} {L : List Cu} (h : Rd cuS w w.heap.size (.slice A L.length c) L) {k : Nat} (hk : k < L.length) :
    ∃ g off, A = some ⟨g, off, none⟩ ∧ g < w.heap.size ∧ w.cell? ⟨g, off + k * 2, none⟩ = some (.int .i64 (cuS.get L k).a) ∧ w.cell? ⟨g, off + k * 2 + 1, none⟩ = some (.int .i64 (cuS.get L k).b) := by
  obtain ⟨A', c', e, -, -, hA⟩ := h
  cases e
  obtain ⟨g, off, rfl, hg, hcell⟩ := hA (by omega)
  obtain ⟨h1, h2⟩ := cu_cells hcell k hk
  exact ⟨g, off, rfl, hg, h1, h2⟩
set_option linter.unusedSimpArgs false in
set_option maxHeartbeats 1600000 in
theorem tnI_any (a b : Int) (w : World) (hc : curveB a b = true) :
    Calls Tryz.prog 13 #[.agg #[.int .i64 a, .int .i64 b]] w fun e w' => (∃ v : Value, e = .returned (.tuple #[v, .bool (allV a b).2]) ∧ Rd cuS w' w'.heap.size v (allV a b).1) ∧ Below w.heap.size w w' := by
  have Hc := Lib.hid hc; clear hc
  go_enter Tryz.func13, Tryz.ntmps13
  go_wp2_with fail
  refine (cvI_lit Hc.out _).mono ?_; rintro e w1 ⟨rfl, hb1⟩
  have S1 := Lib.hid (show w.heap.size + 1 ≤ w1.heap.size by have h9 := hb1.size; (try simp only [World.size_alloc, World.size_setCell, World.size_drew] at h9); omega)
  have NA := Lib.hid ((Blk.new w 25 #[.int .i64 a, .int .i64 b]).on hb1)
  have A := NA; clear NA
  have Hb1 := Lib.hid (bthen (bal (Below.refl w.heap.size w) (Obj.cells #[.int .i64 a, .int .i64 b] 25)) hb1)
  clear hb1
  have qA0 : w1.cell? ⟨w.heap.size, 0, none⟩ = some (.int .i64 a) := A.out.cell 0
  have qA1 : w1.cell? ⟨w.heap.size, 1, none⟩ = some (.int .i64 b) := A.out.cell 1
  have qAl := A.out.lt
  go_wp2_with fail
  clear qA0 qA1 qAl
  refine (twoNb_any a b _ Hc.out).mono ?_; rintro e w2 ⟨⟨v, rfl, ho⟩, hb2⟩
  have S2 := Lib.hid (show w1.heap.size + 0 ≤ w2.heap.size by have h9 := hb2.size; (try simp only [World.size_alloc, World.size_setCell, World.size_drew] at h9); omega)
  have NA := Lib.hid (A.out.on hb2)
  have A := NA; clear NA
  have Hb2 := Lib.hid (bthen Hb1.out hb2)
  clear hb2
  have hr := Rd.of_own (S := cuS) ho rfl
  clear ho
  obtain ⟨A9, c9, rfl⟩ := hr.formC9
  have Hr := Lib.hid hr; clear hr
  go_wp2
  go_ret2
  exact ⟨⟨_, rfl, Hr.out⟩, Hb2.out⟩
set_option linter.unusedSimpArgs false in
set_option maxHeartbeats 1600000 in
theorem tnS_any (a b : Int) (w : World) (hc : curveB a b = true) :
    Calls Tryz.prog 14 #[.agg #[.int .i64 a, .int .i64 b]] w fun e w' => (∃ v : Value, e = .returned (.tuple #[v, .bool (allV a b).2]) ∧ Rd cuS w' w'.heap.size v (allV a b).1) ∧ Below w.heap.size w w' := by
  have Hc := Lib.hid hc; clear hc
  go_enter Tryz.func14, Tryz.ntmps14
  go_wp2_with fail
  refine (cvS_lit Hc.out _).mono ?_; rintro e w1 ⟨rfl, hb1⟩
  have S1 := Lib.hid (show w.heap.size + 1 ≤ w1.heap.size by have h9 := hb1.size; (try simp only [World.size_alloc, World.size_setCell, World.size_drew] at h9); omega)
  have NA := Lib.hid ((Blk.new w 25 #[.int .i64 a, .int .i64 b]).on hb1)
  have A := NA; clear NA
  have Hb1 := Lib.hid (bthen (bal (Below.refl w.heap.size w) (Obj.cells #[.int .i64 a, .int .i64 b] 25)) hb1)
  clear hb1
  have qA0 : w1.cell? ⟨w.heap.size, 0, none⟩ = some (.int .i64 a) := A.out.cell 0
  have qA1 : w1.cell? ⟨w.heap.size, 1, none⟩ = some (.int .i64 b) := A.out.cell 1
  have qAl := A.out.lt
  go_wp2_with fail
  clear qA0 qA1 qAl
  refine (icAll_any a b _ Hc.out).mono ?_; rintro e w2 ⟨⟨v, rfl, ho⟩, hb2⟩
  have S2 := Lib.hid (show w1.heap.size + 0 ≤ w2.heap.size by have h9 := hb2.size; (try simp only [World.size_alloc, World.size_setCell, World.size_drew] at h9); omega)
  have NA := Lib.hid (A.out.on hb2)
  have A := NA; clear NA
  have Hb2 := Lib.hid (bthen Hb1.out hb2)
  clear hb2
  have hr := Rd.of_own (S := cuS) ho rfl
  clear ho
  obtain ⟨A9, c9, rfl⟩ := hr.formC9
  have Hr := Lib.hid hr; clear hr
  go_wp2
  go_ret2
  exact ⟨⟨_, rfl, Hr.out⟩, Hb2.out⟩
theorem qCuSame (u v : Value) (es : List Cu) (w : World) (hu : Rd cuS w w.heap.size u es) (hv : Rd cuS w w.heap.size v es) :
    Calls Tryz.prog 15 #[u, v] w fun r w' => r = .returned (.bool true) ∧ Below w.heap.size w w' := by
  have h := qCu_any u v es es w hu hv
  rwa [decide_eq_true rfl] at h
end
section
open Go Go.RowKit Go.ChangeShapes Go.WideShapes Go.Deep

/-- A type all of whose cells are of type int64 (an int, or a struct of such). -/
def intsB (P : Program) : Nat → TypeId → Bool
  | 0, _ => false
  | n + 1, t => match P.underlying t with
    | some (.int k) => k == .i64
    | some (.struct fs) => fs.toList.all (fun f => intsB P n f.type) && (fs.toList.flatMap (fun f => List.range' f.offset (P.cellsOf f.type)) == List.range (P.cellsOf t))
    | _ => false

section
variable {H : Type} {enc : TypeId × Value → H} {P : Program} {w : World} {base : Nat} {spare : Nat → Bool} {held : Bool}

theorem ints_of_trod : ∀ (n : Nat) (t : TypeId) (fuel : Nat) (cs : List Value) (x : DataW H × List MemPlace), intsB P n t = true → DataW.trod enc P w base spare held fuel t cs = some x →
    ∀ c ∈ cs, ∃ m, c = .int .i64 m ∧ (Lit.int .i64 m).wf = true := by
  intro n
  induction n with
  | zero => intro t fuel cs x h; simp [intsB] at h
  | succ n ih =>
    intro t fuel cs x h ht c hc
    unfold intsB at h
    split at h
    · rename_i k hk
      obtain rfl : k = .i64 := by simpa using h
      obtain ⟨fuel, rfl⟩ : ∃ f, fuel = f + 1 := by cases fuel with
        | zero => simp [DataW.trod] at ht
        | succ f => exact ⟨f, rfl⟩
      unfold DataW.trod at ht
      rw [hk] at ht
      split at ht <;> simp_all
    · rename_i fs hk
      simp only [Bool.and_eq_true, beq_iff_eq] at h
      obtain ⟨xs, n', hn', hx, hlen, hxl, hf⟩ := DataW.trod_struct hk ht
      obtain ⟨j, hj, rfl⟩ := List.mem_iff_getElem.1 hc
      have hmem : j ∈ fs.toList.flatMap (fun f => List.range' f.offset (P.cellsOf f.type)) := by
        rw [h.2]; exact List.mem_range.2 (by omega)
      obtain ⟨f, hfm, hjr⟩ := List.mem_flatMap.1 hmem
      obtain ⟨i, hi, hfi⟩ := List.mem_iff_getElem.1 hfm
      have hfs : fs[i]? = some f := by
        have : fs.toList[i]? = some f := by rw [List.getElem?_eq_getElem hi, hfi]
        simpa using this
      have h1 := hf i f hfs
      have hil : i < xs.length := by rw [hxl]; simpa using hi
      rw [List.getElem?_eq_getElem hil] at h1
      refine ih f.type n' _ _ (by have := List.all_eq_true.1 h.1 f hfm; exact this) h1 _ ?_
      obtain ⟨hlo, hhi⟩ := List.mem_range'_1.1 hjr
      rw [List.mem_iff_getElem?]
      refine ⟨j - f.offset, ?_⟩
      rw [List.getElem?_take_of_lt (by omega), List.getElem?_drop]
      have : f.offset + (j - f.offset) = j := by omega
      rw [this, List.getElem?_eq_getElem hj]
    · cases h

/-- A struct of ints by value. -/
theorem open_ints_agg {r : Reach} {b0 : Nat} {t : TypeId} {fs : Array Field} {v : Value} {d : DataW H} {p : List MemPlace} (hs : P.underlying t = some (.struct fs)) (k : Nat) (hi : intsB P k t = true)
    (hv : Value.okWide P w r b0 t v) (h : DataW.Trod enc P w base spare held t v d p) :
    ∃ ns : List Int, ns.length = P.cellsOf t ∧ v = .agg (ns.map (Value.int .i64)).toArray ∧ ∀ n ∈ ns, (Lit.int .i64 n).wf = true := by
  obtain ⟨cs, rfl, hsz⟩ := okWide_struct hs hv
  obtain ⟨fuel, hf⟩ := h
  have hall := ints_of_trod k t fuel _ _ hi hf
  have : ∀ l : List Value, (∀ c ∈ l, ∃ m, c = .int .i64 m ∧ (Lit.int .i64 m).wf = true) → ∃ ns : List Int, l = ns.map (Value.int .i64) ∧ ∀ n ∈ ns, (Lit.int .i64 n).wf = true := by
    intro l
    induction l with
    | nil => exact fun _ => ⟨[], rfl, by simp⟩
    | cons c l ih =>
      intro hl
      obtain ⟨m, rfl, hm⟩ := hl c (by simp)
      obtain ⟨ns, rfl, hns⟩ := ih (fun c hc => hl c (by simp [hc]))
      exact ⟨m :: ns, rfl, by simp [hm]; exact hns⟩
  obtain ⟨ns, hns, hwf⟩ := this cs.toList hall
  refine ⟨ns, ?_, ?_, hwf⟩
  · have : cs.toList.length = ns.length := by rw [hns]; simp
    simp at this
    omega
  · rw [← hns]

theorem choose_list {E : Type} (S : Shape E) (p : Nat → E → Prop) : ∀ n : Nat, (∀ i, i < n → ∃ e, p i e) → ∃ es : List E, es.length = n ∧ ∀ i, i < n → p i (S.get es i)
  | 0, _ => ⟨[], rfl, fun i hi => absurd hi (by omega)⟩
  | n + 1, h => by
    obtain ⟨es, hl, hes⟩ := choose_list S p n (fun i hi => h i (by omega))
    obtain ⟨e, he⟩ := h n (by omega)
    refine ⟨es ++ [e], by simp [hl], fun i hi => ?_⟩
    rcases Nat.lt_or_ge i n with h1 | h1
    · have := hes i h1
      unfold Shape.get at this ⊢
      rw [List.getD_eq_getElem?_getD, List.getElem?_append_left (by omega), ← List.getD_eq_getElem?_getD]
      exact this
    · obtain rfl : i = n := by omega
      unfold Shape.get
      rw [List.getD_eq_getElem?_getD, List.getElem?_append_right (by omega), hl]
      simpa using he

/-- A slice of structs of ints. -/
theorem open_ints_slice {E : Type} (S : Shape E) (mk : (Nat → Int) → E) (hmk : ∀ c j, j < S.size → S.cell (mk c) j = .int .i64 (c j)) {r : Reach} {b0 : Nat} {t e : TypeId} {v : Value} {d : DataW H} {p : List MemPlace}
    (ht : P.underlying t = some (.slice e)) (hpos : 0 < S.size) (hsz : P.cellsOf e = S.size) (k : Nat) (hi : intsB P k e = true)
    (hv : Value.okWide P w r b0 t v) (h : DataW.Trod enc P w base spare held t v d p) :
    ∃ es : List E, Rd S w w.heap.size v es := by
  obtain ⟨A, len, cap, rfl⟩ := okWide_slice ht hv
  obtain ⟨fuel, hf⟩ := h
  rcases open_slice ht hf with ⟨hcs, _⟩ | ⟨a, len', cap', m, n, D, Pl, hcs, hb, hl, hm, hmm, hx, hcell⟩
  · obtain ⟨rfl, rfl, rfl⟩ : A = none ∧ len = 0 ∧ cap = 0 := by simpa [Value.cells] using hcs
    exact ⟨[], Rd.nil _ _⟩
  · obtain ⟨rfl, rfl, rfl⟩ : A = some a ∧ len = len' ∧ cap = cap' := by simpa [Value.cells] using hcs
    have hlm : len ≤ m := by rw [hmm]; split <;> omega
    have key : ∀ i, i < len → ∃ e : E, ∀ j, j < S.size → w.cell? ((a.add (i * S.size)).add j) = some (S.cell e j) := by
      intro i hil
      obtain ⟨cs', hc, ht'⟩ := hcell i (by omega)
      rw [hsz] at hc
      obtain ⟨_, hcl, hat⟩ := World.cells?_some hc
      have hall := ints_of_trod k e n _ _ hi ht'
      refine ⟨mk (fun j => match cs'[j]? with | some (.int _ q) => q | _ => 0), fun j hj => ?_⟩
      rw [hat j hj, hmk _ j hj]
      have hjl : j < cs'.length := by omega
      rw [List.getElem?_eq_getElem hjl]
      obtain ⟨q, hq, _⟩ := hall cs'[j] (List.getElem_mem hjl)
      rw [hq]
    obtain ⟨es, hlen, hes⟩ := choose_list S (fun i e => ∀ j, j < S.size → w.cell? ((a.add (i * S.size)).add j) = some (S.cell e j)) len key
    subst hlen
    refine ⟨es, some a, cap, rfl, hl, hm, fun h0 => ?_⟩
    have h00 := hes 0 h0 0 hpos
    obtain ⟨g, off, spot⟩ := a
    have hspot : spot = none := by
      have := h00
      simp only [Nat.zero_mul] at this
      simpa [Addr.add] using World.cell?_spot this
    subst hspot
    have hadd : ∀ x y : Nat, ((⟨g, off, none⟩ : Addr).add x).add y = ⟨g, off + x + y, none⟩ := by
      intro x y
      unfold Addr.add
      by_cases hx : x = 0 <;> by_cases hy : y = 0 <;> simp [hx, hy]
    refine ⟨g, off, rfl, ?_, fun q hq j hj => ?_⟩
    · rw [hadd] at h00
      exact World.block_lt_of_cell? w _ h00
    · have := hes q hq j hj
      rw [hadd] at this
      exact this

/-- A law's last step: of what was there nothing has turned. -/
theorem post_below {f : Func} {s : ChangeSpec} {W W' : World} {args : Array Value} {v : Value} {ds : List (DataW H)} {before pa : List MemPlace}
    (hW : DataW.Whole enc P f.params.toList s.vars false W args.toList ds [] before)
    (hres : DataW.TrodAll enc P W' W.heap.size (fun _ => false) false f.resultTypes.toList (v.resultList f.resultTypes.size) (s.fn H (ds ++ [])).results [])
    (hargs : DataW.TrodAll enc P W' 0 (fun b => decide (b < W.heap.size)) true f.params.toList args.toList (s.fn H (ds ++ [])).args pa)
    (hvars : DataW.TrodVars enc P W' (fun b => decide (b < W.heap.size)) s.vars (s.fn H (ds ++ [])).vars [])
    (hps : before = pa) (hb : Below W.heap.size W W') :
    s.post enc P f false true false false W args v W' := by
  have hlt : ∀ p ∈ before, p.block < W.heap.size := fun p hp => hW.lt p hp
  refine ⟨ds, [], before, [], pa, [], hW, hres, hargs, hvars, World.keptBut_mono (fun p hp => ⟨hp, ?_⟩) (hb.frame (· ∈ before)), fun h => by cases h⟩
  rw [hps] at hp
  exact Or.inr (by simpa using hp)

theorem list2 {l : List Int} (h : l.length = 2) : ∃ a b, l = [a, b] := by
  match l, h with
  | [a, b], _ => exact ⟨a, b, rfl⟩
theorem list3 {l : List Int} (h : l.length = 3) : ∃ a b c, l = [a, b, c] := by
  match l, h with
  | [a, b, c], _ => exact ⟨a, b, c, rfl⟩
theorem list4 {l : List Int} (h : l.length = 4) : ∃ a b c d, l = [a, b, c, d] := by
  match l, h with
  | [a, b, c, d], _ => exact ⟨a, b, c, d, rfl⟩
theorem list5 {l : List Int} (h : l.length = 5) : ∃ a b c d e, l = [a, b, c, d, e] := by
  match l, h with
  | [a, b, c, d, e], _ => exact ⟨a, b, c, d, e, rfl⟩
theorem list7 {l : List Int} (h : l.length = 7) : ∃ a b c d e f g, l = [a, b, c, d, e, f, g] := by
  match l, h with
  | [a, b, c, d, e, f, g], _ => exact ⟨a, b, c, d, e, f, g, rfl⟩
end
end
section
open Go Go.RowKit Go.ChangeShapes Go.WideShapes Go.Deep

section
variable {H : Type} {enc : TypeId × Value → H} {P : Program} {w : World} {base : Nat} {spare : Nat → Bool} {held : Bool}
theorem bounds_u8 {n : Int} (h : (Lit.int .u8 n).wf = true) : 0 ≤ n ∧ n ≤ 255 := by
  simp [Lit.wf, IntKind.min, IntKind.max, IntKind.signed, IntKind.bits] at h
  omega
theorem open_bytesAt {r : Reach} {b0 : Nat} {t e : TypeId} {v : Value} {d : DataW H} {p : List MemPlace} (ht : P.underlying t = some (.slice e)) (he : P.underlying e = some (.int .u8)) (hc1 : P.cellsOf e = 1)
    (hv : Value.okWide P w r b0 t v) (h : DataW.Trod enc P w base spare held t v d p) : ∃ (A : Option Addr) (n c : Nat), v = .slice A n c ∧ BytesAt w w.heap.size A n := by
  obtain ⟨A, len, cap, rfl⟩ := okWide_slice ht hv
  obtain ⟨fuel, hf⟩ := h
  rcases open_slice ht hf with ⟨hcs, _⟩ | ⟨a, len', cap', m, n, D, Pl, hcs, hb, hl, hm, hmm, hx, hcell⟩
  · obtain ⟨rfl, rfl, rfl⟩ : A = none ∧ len = 0 ∧ cap = 0 := by simpa [Value.cells] using hcs
    exact ⟨none, 0, 0, rfl, by decide, fun h0 => absurd h0 (by decide)⟩
  · obtain ⟨rfl, rfl, rfl⟩ : A = some a ∧ len = len' ∧ cap = cap' := by simpa [Value.cells] using hcs
    have hlm : len ≤ m := by rw [hmm]; split <;> omega
    have key : ∀ i, i < len → ∃ b : Nat, b ≤ 255 ∧ w.cell? (a.add (i * 1)) = some (.int .u8 (b : Int)) := by
      intro i hil
      obtain ⟨cs', hc, ht'⟩ := hcell i (by omega)
      rw [hc1] at hc
      obtain ⟨_, hcl, hat⟩ := World.cells?_some hc
      obtain ⟨q, hq, -, hw⟩ := DataW.trod_int he ht'
      obtain ⟨h1, h2⟩ := bounds_u8 hw
      have h3 := hat 0 (by decide)
      rw [hq] at h3
      refine ⟨q.toNat, by omega, ?_⟩
      rw [show ((q.toNat : Nat) : Int) = q by omega]
      have h4 : (a.add (i * 1)).add 0 = a.add (i * 1) := by simp [Addr.add]
      rw [h4] at h3
      exact h3
    refine ⟨some a, len, cap, rfl, Nat.le_trans hl hm, fun h0 => ?_⟩
    obtain ⟨g, off, spot⟩ := a
    obtain ⟨b0, -, h00⟩ := key 0 h0
    have hspot : spot = none := by
      have := h00
      simp only [Nat.zero_mul] at this
      simpa [Addr.add] using World.cell?_spot this
    subst hspot
    have hadd : ∀ x : Nat, (⟨g, off, none⟩ : Addr).add x = ⟨g, off + x, none⟩ := by
      intro x
      unfold Addr.add
      by_cases hx : x = 0 <;> simp [hx]
    have hlt : g < w.heap.size := by
      rw [hadd] at h00
      exact World.block_lt_of_cell? w _ h00
    refine ⟨g, off, rfl, hlt, hlt, fun j hj => ?_⟩
    obtain ⟨b, hb1, hb2⟩ := key j hj
    rw [hadd, Nat.mul_one] at hb2
    exact ⟨b, hb1, hb2⟩
end
end
section
open Go Go.RowKit Go.ChangeShapes Go.WideShapes
theorem own_knob : ownKnob Tryz.prog.godebug = none := by kernel_rfl
theorem laid_out : laidOutB Tryz.prog = true := by kernel_rfl
theorem bounds_i64 {n : Int} (h : (Lit.int .i64 n).wf = true) : -9223372036854775808 ≤ n ∧ n ≤ 9223372036854775807 := by
  simp [Lit.wf, IntKind.min, IntKind.max, IntKind.signed, IntKind.bits] at h
  omega
def cuMk (c : Nat → Int) : Cu := ⟨c 0, c 1⟩
def enMk (c : Nat → Int) : En := ⟨c 0, c 1, c 2, c 3, c 4⟩
def rpMk (c : Nat → Int) : Rp := ⟨c 0, c 1, c 2, c 3, c 4, c 5, c 6⟩
def ptMk (c : Nat → Int) : Pt := ⟨c 0, c 1, c 2⟩
theorem ptMk_cell (c : Nat → Int) (j : Nat) (hj : j < ptS.size) : ptS.cell (ptMk c) j = .int .i64 (c j) := by
  match j, hj with
  | 0, _ => rfl
  | 1, _ => rfl
  | 2, _ => rfl
theorem cuMk_cell (c : Nat → Int) (j : Nat) (hj : j < cuS.size) : cuS.cell (cuMk c) j = .int .i64 (c j) := by
  match j, hj with
  | 0, _ => rfl
  | 1, _ => rfl
theorem enMk_cell (c : Nat → Int) (j : Nat) (hj : j < enS.size) : enS.cell (enMk c) j = .int .i64 (c j) := by
  match j, hj with
  | 0, _ => rfl
  | 1, _ => rfl
  | 2, _ => rfl
  | 3, _ => rfl
  | 4, _ => rfl
theorem rpMk_cell (c : Nat → Int) (j : Nat) (hj : j < rpS.size) : rpS.cell (rpMk c) j = .int .i64 (c j) := by
  match j, hj with
  | 0, _ => rfl
  | 1, _ => rfl
  | 2, _ => rfl
  | 3, _ => rfl
  | 4, _ => rfl
  | 5, _ => rfl
  | 6, _ => rfl
theorem farC {w : World} {g o b j : Nat} {v : Value} (h : b ≠ g) : (w.setCell ⟨g, o, none⟩ v).cell? ⟨b, j, none⟩ = w.cell? ⟨b, j, none⟩ :=
  World.cell?_setCell_other _ _ _ _ (by intro e; injection e with e1; exact h e1.symm)

theorem new_cell {w : World} {G : Nat} {cs : Array Value} {T : TypeId} {j : Nat} {v : Value} (hG : w.heap.size = G) (hv : cs[j]? = some v) : (w.alloc (.cells cs T)).cell? ⟨G, j, none⟩ = some v := by
  subst hG
  rw [← hv]; exact (Blk.new w T cs).cell j
theorem new_frozen {w : World} {G : Nat} {cs : Array Value} {T : TypeId} {j : Nat} (hG : w.heap.size = G) : (w.alloc (.cells cs T)).frozen? ⟨G, j, none⟩ = false := by
  subst hG
  exact (Blk.new w T cs).frozen j

theorem bfar5 {w : World} {b g : Nat} {T : TypeId} {cs : Array Value} {v0 v1 v2 v3 v4 : Value} (h : Blk w b T cs) (hg : b ≠ g) :
    Blk (((((w.setCell ⟨g, 0, none⟩ v0).setCell ⟨g, 1, none⟩ v1).setCell ⟨g, 2, none⟩ v2).setCell ⟨g, 3, none⟩ v3).setCell ⟨g, 4, none⟩ v4) b T cs :=
  ((((h.far (p := ⟨g, 0, none⟩) hg _).far (p := ⟨g, 1, none⟩) hg _).far (p := ⟨g, 2, none⟩) hg _).far (p := ⟨g, 3, none⟩) hg _).far (p := ⟨g, 4, none⟩) hg _

theorem own_apart {u v : Value} (H : ∀ k, v.ownBlock = some k → u.ownBlock = some k → False) : v.ownBlock = none ∨ v.ownBlock ≠ u.ownBlock := by
  cases h : v.ownBlock with
  | none => exact .inl rfl
  | some k => exact .inr (fun e => H k h e.symm)
end
end Go.Proofs.YtacehhcpfollnaaGreat
