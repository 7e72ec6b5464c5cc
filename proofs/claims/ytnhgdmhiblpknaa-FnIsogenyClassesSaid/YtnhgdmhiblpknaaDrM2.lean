/- The reference's draw of two curves. Conditions: a slice of bytes. Printed by gen_drm2.py. -/
import Derived.Test.YtnhgdmhiblpknaaDrM
import Derived.Deep.DeepCutAuto
import Derived.Deep.RegionHeld3
import Derived.RegionTactic
import Derived.BigRegion
namespace Go.Proofs.Ytnhgdmhiblpknaa
open Go Go.RowKit

theorem Cur.new2 {w : World} {A : Option Addr} {n : Nat} (h : BytesAt w w.heap.size A n) (c : Nat) (o p : Obj) : Cur (((w.alloc o).alloc p).alloc (.cells #[.slice A n c, .int .i64 0, .int .u64 0] 67)) (w.heap.size + 2) 0 := by
  have := Cur.new0 ((h.al o).al p) c
  simpa only [World.size_alloc] using this
theorem Cur.drewM {w : World} {g k : Nat} (h : Cur w g k) : Cur w.drew g k := h.on ((Below.refl _ _).drew)
theorem neS_ex (a b e : Int) (w : World) :
    Calls Try.prog 60 #[.agg #[.int .i64 a, .int .i64 b], .int .i64 e] w fun r w' => (∃ (x y : Int) (q : Bool), r = .returned (.tuple #[.agg #[.int .i64 x, .int .i64 y], .bool q])) ∧ Below w.heap.size w w' := by
  refine (neS_any a b e w).mono ?_
  rintro r w1 ⟨hr, hb⟩
  refine ⟨?_, hb⟩
  cases hv : nqV a b e with
  | none => rw [hv] at hr; exact ⟨_, _, _, hr⟩
  | some d => rw [hv] at hr; exact ⟨_, _, _, hr⟩

set_option linter.unusedSimpArgs false in
set_option maxRecDepth 8000 in
set_option maxHeartbeats 16000000 in
theorem drawTwoIso_any (A : Option Addr) (n c : Nat) (w : World) (hby : BytesAt w w.heap.size A n) :
    Calls Try.prog 27 #[.slice A n c] w fun e w' => (∃ a b x y : Int, e = .returned (.tuple #[.agg #[.int .i64 a, .int .i64 b], .agg #[.int .i64 x, .int .i64 y]])) ∧ Below w.heap.size w w' := by
  have Hb := Lib.hid hby; clear hby
  have Hgl := Lib.hid (Nat.le_refl w.heap.size)
  have Hd := Lib.hid (Dg.refl (w.heap.size + 2) w)
  go_enter Try.func27, Try.ntmps27
  go_wp2_with fail
  refine (linked_any (w.heap.size + 2) 0 _ (Cur.new2 Hb.out c _ _) (by omega)).mono ?_; rintro e w1 ⟨⟨a, b, rfl⟩, hc1, hd1⟩
  have S1 := Lib.hid (show w.heap.size + 3 ≤ w1.heap.size by have h9 := hd1.size; (try simp only [World.size_alloc, World.size_setCell] at h9); omega)
  have NR2 := Lib.hid ((((Blk.new w 37 #[.int .i64 0, .int .i64 0]).alloc (Obj.cells #[.int .i64 0, .int .i64 0] 37)).alloc (Obj.cells #[.slice A n c, .int .i64 0, .int .u64 0] 67)).dg hd1 (show w.heap.size ≠ (w.heap.size + 2) by have := Hgl.out; have := S1.out; omega))
  have NR3 := Lib.hid (((show Blk (World.alloc (World.alloc w (Obj.cells #[.int .i64 0, .int .i64 0] 37)) (Obj.cells #[.int .i64 0, .int .i64 0] 37)) (w.heap.size + 1) 37 #[.int .i64 0, .int .i64 0] by have h9 := (Blk.new (World.alloc w (Obj.cells #[.int .i64 0, .int .i64 0] 37)) 37 #[.int .i64 0, .int .i64 0]); (try simp only [World.size_alloc, World.size_setCell] at h9); exact h9).alloc (Obj.cells #[.slice A n c, .int .i64 0, .int .u64 0] 67)).dg hd1 (show w.heap.size + 1 ≠ (w.heap.size + 2) by have := Hgl.out; have := S1.out; omega))
  have R2 := NR2; clear NR2
  have R3 := NR3; clear NR3
  have Hc1 := Lib.hid (hc1.mono (j := 0 + 50) (by omega))
  have Hd1 := Lib.hid ((((Hd.out.alloc (Obj.cells #[.int .i64 0, .int .i64 0] 37)).alloc (Obj.cells #[.int .i64 0, .int .i64 0] 37)).alloc (Obj.cells #[.slice A n c, .int .i64 0, .int .u64 0] 67)).trans hd1)
  clear hc1 hd1
  go_wp2_with fail
  obtain ⟨wt, hw9⟩ : ∃ x, x = (World.alloc w1 (Obj.cells #[.int .i64 a, .int .i64 b] 37)) := ⟨_, rfl⟩
  rw [← hw9]
  have hd2 : Dg (w.heap.size + 2) (World.alloc w1 (Obj.cells #[.int .i64 a, .int .i64 b] 37)) wt := by rw [hw9]; exact Dg.refl _ _
  have hc2 : Cur wt (w.heap.size + 2) (0 + 50) := by rw [hw9]; exact (Hc1.out.alloc _)
  have S2 := Lib.hid (show w1.heap.size + 1 ≤ wt.heap.size by have h9 := hd2.size; (try simp only [World.size_alloc, World.size_setCell] at h9); omega)
  have NR2 := Lib.hid ((R2.out.alloc _).dg hd2 (show w.heap.size ≠ (w.heap.size + 2) by have := Hgl.out; have := S1.out; have := S2.out; omega))
  have NR3 := Lib.hid ((R3.out.alloc _).dg hd2 (show w.heap.size + 1 ≠ (w.heap.size + 2) by have := Hgl.out; have := S1.out; have := S2.out; omega))
  have NE := Lib.hid ((Blk.new w1 37 #[.int .i64 a, .int .i64 b]).dg hd2 (show w1.heap.size ≠ (w.heap.size + 2) by have := Hgl.out; have := S1.out; have := S2.out; omega))
  have R2 := NR2; clear NR2
  have R3 := NR3; clear NR3
  have E := NE; clear NE
  have Hc2 := Lib.hid (hc2.mono (j := 0 + 50) (by omega))
  have Hd2 := Lib.hid ((Hd1.out.alloc _).trans hd2)
  clear hc2 hd2
  clear hw9
  have hE0 := E.out.cell 0; have hE1 := E.out.cell 1; have hEl := E.out.lt; have hEg : w1.heap.size ≠ (w.heap.size + 2) := by have := Hgl.out; have := S1.out; have := S2.out; omega
  simp at hE0 hE1
  have HS : Hid (∀ w', Dg (w.heap.size + 2) wt w' → (w'.cell? ⟨w1.heap.size, 0, none⟩ = some (.int .i64 a) ∧ w'.cell? ⟨w1.heap.size, 1, none⟩ = some (.int .i64 b) ∧ Dg (w.heap.size + 2) wt w')) := Lib.hid (fun w' hw => ⟨(dcell (p := ⟨w1.heap.size, 0, none⟩) hw hEl hEg).trans hE0, (dcell (p := ⟨w1.heap.size, 1, none⟩) hw hEl hEg).trans hE1, hw⟩)
  have hdt := Dg.refl (w.heap.size + 2) wt
  have hgt := Lib.hid (show w.heap.size + 2 < wt.heap.size by have := Hgl.out; have := S1.out; have := S2.out; omega)
  go_cut [6, 7] (fun p q wx => ∃ (n : Nat) (x y : Int) (ok : Bool), p = .pointer (some ⟨n, 0, none⟩) ∧ q = .bool ok ∧ Blk wx n 37 #[.int .i64 x, .int .i64 y] ∧ wt.heap.size ≤ n ∧ Cur wx (w.heap.size + 2) 60 ∧ Dg (w.heap.size + 2) wt wx)
  have hcK := Hc2.out
  case first =>
    go_region_held3 (fun w' => w'.cell? ⟨w1.heap.size, 0, none⟩ = some (.int .i64 a) ∧ w'.cell? ⟨w1.heap.size, 1, none⟩ = some (.int .i64 b) ∧ Dg (w.heap.size + 2) wt w') (((go_split_ands; refine HS.out _ ?_; repeat (first | (with_reducible assumption) | (with_reducible refine Dg.drew ?_) | (with_reducible refine Dg.alloc ?_ _) | (with_reducible refine Dg.st ?_ (by dsimp only; first | omega | (have h9 := sA.out; omega)) _) | (with_reducible refine Dg.trans ?_ (by with_reducible assumption)))))) ((first | (go_at_call 61; refine (rootOf_any (w.heap.size + 2) 50 a b _ (by repeat (first | with_reducible exact hcK | (with_reducible refine Cur.drewM ?_) | (with_reducible refine Cur.alloc ?_ _))) (by omega)).mono ?_; rintro e wa ⟨⟨y9, rfl⟩, hca, hda⟩; have sA := Lib.hid (show wt.heap.size ≤ wa.heap.size by have h9 := hda.size; (try simp at h9); omega); first | (have hz3 : Blk wa wt.heap.size 37 #[.int .i64 0, .int .i64 0] := Blk.dg (Blk.new wt 37 #[.int .i64 0, .int .i64 0]) hda (by have := hgt.out; omega); have Hz3 := Lib.hid hz3; clear hz3) | (have hz3 : Blk wa wt.heap.size 37 #[.int .i64 0, .int .i64 0] := Blk.dg (Blk.new wt.drew 37 #[.int .i64 0, .int .i64 0]) hda (by have := hgt.out; omega); have Hz3 := Lib.hid hz3; clear hz3) | (have hz3 : Blk wa wt.heap.size 37 #[.int .i64 0, .int .i64 0] := Blk.dg (Blk.drew (Blk.new wt 37 #[.int .i64 0, .int .i64 0])) hda (by have := hgt.out; omega); have Hz3 := Lib.hid hz3; clear hz3) | (have hz3 : Blk wa wt.heap.size 37 #[.int .i64 0, .int .i64 0] := Blk.dg (Blk.drew (Blk.new wt.drew 37 #[.int .i64 0, .int .i64 0])) hda (by have := hgt.out; omega); have Hz3 := Lib.hid hz3; clear hz3) | skip) | (go_at_call 60; refine (neS_ex a b y9 _).mono ?_; rintro e wp ⟨⟨x8, y8, q8, rfl⟩, hbp⟩; have hdp := Dg.of_below (g := w.heap.size + 2) hbp; have hcp : Cur wp (w.heap.size + 2) 60 := Cur.on (by repeat (first | with_reducible exact hca | (with_reducible refine Cur.drewM ?_) | (with_reducible refine Cur.alloc ?_ _))) hbp; have sP := Lib.hid (show wa.heap.size ≤ wp.heap.size by have h9 := hbp.size; (try simp at h9); omega); clear hbp; first | (have hz4 := Blk.dg Hz3.out hdp (by have := hgt.out; omega); clear Hz3; have zc0 := hz4.cell 0; have zc1 := hz4.cell 1; have zf0 := hz4.frozen 0; have zf1 := hz4.frozen 1; have zl := hz4.lt; simp at zc0 zc1; have Hz4 := Lib.hid hz4; clear hz4) | (have hz4 : Blk wp wa.heap.size 37 #[.int .i64 0, .int .i64 0] := Blk.dg (Blk.new wa 37 #[.int .i64 0, .int .i64 0]) hdp (by have := hgt.out; have := sA.out; omega); have zc0 := hz4.cell 0; have zc1 := hz4.cell 1; have zf0 := hz4.frozen 0; have zf1 := hz4.frozen 1; have zl := hz4.lt; simp at zc0 zc1; have Hz4 := Lib.hid hz4; clear hz4) | (have hz4 : Blk wp wa.heap.size 37 #[.int .i64 0, .int .i64 0] := Blk.dg (Blk.new wa.drew 37 #[.int .i64 0, .int .i64 0]) hdp (by have := hgt.out; have := sA.out; omega); have zc0 := hz4.cell 0; have zc1 := hz4.cell 1; have zf0 := hz4.frozen 0; have zf1 := hz4.frozen 1; have zl := hz4.lt; simp at zc0 zc1; have Hz4 := Lib.hid hz4; clear hz4) | (have hz4 : Blk wp wa.heap.size 37 #[.int .i64 0, .int .i64 0] := Blk.dg (Blk.drew (Blk.new wa 37 #[.int .i64 0, .int .i64 0])) hdp (by have := hgt.out; have := sA.out; omega); have zc0 := hz4.cell 0; have zc1 := hz4.cell 1; have zf0 := hz4.frozen 0; have zf1 := hz4.frozen 1; have zl := hz4.lt; simp at zc0 zc1; have Hz4 := Lib.hid hz4; clear hz4) | (have hz4 : Blk wp wa.heap.size 37 #[.int .i64 0, .int .i64 0] := Blk.dg (Blk.drew (Blk.new wa.drew 37 #[.int .i64 0, .int .i64 0])) hdp (by have := hgt.out; have := sA.out; omega); have zc0 := hz4.cell 0; have zc1 := hz4.cell 1; have zf0 := hz4.frozen 0; have zf1 := hz4.frozen 1; have zl := hz4.lt; simp at zc0 zc1; have Hz4 := Lib.hid hz4; clear hz4) | skip)))
    all_goals go_wp2_with fail
    all_goals go_meet
    all_goals first
      | with_reducible exact ⟨_, _, _, _, rfl, rfl, Blk.new _ _ _, (by have := hgt.out; have := sA.out; have := sP.out; (try simp only [World.size_alloc, World.size_drew, World.size_setCell]); omega), (by repeat (first | with_reducible exact hcp | (with_reducible refine Cur.drewM ?_) | (with_reducible refine Cur.alloc ?_ _) | (with_reducible refine Cur.st ?_ (by dsimp only; have := hgt.out; have := sA.out; have := sP.out; (try simp only [World.size_alloc, World.size_drew, World.size_setCell]); omega) _))), (by repeat (first | (with_reducible assumption) | (with_reducible refine Dg.drew ?_) | (with_reducible refine Dg.alloc ?_ _) | (with_reducible refine Dg.st ?_ (by dsimp only; have := hgt.out; have := sA.out; have := sP.out; (try simp only [World.size_alloc, World.size_drew, World.size_setCell]); omega) _) | (with_reducible refine Dg.trans ?_ (by with_reducible assumption))))⟩
      | exact ⟨_, _, _, _, rfl, rfl, Blk.set2 Hz4.out, (by have := hgt.out; have := sA.out; have := sP.out; (try simp only [World.size_alloc, World.size_drew, World.size_setCell]); omega), (by repeat (first | with_reducible exact hcp | (with_reducible refine Cur.drewM ?_) | (with_reducible refine Cur.alloc ?_ _) | (with_reducible refine Cur.st ?_ (by dsimp only; have := hgt.out; have := sA.out; have := sP.out; (try simp only [World.size_alloc, World.size_drew, World.size_setCell]); omega) _))), (by repeat (first | (with_reducible assumption) | (with_reducible refine Dg.drew ?_) | (with_reducible refine Dg.alloc ?_ _) | (with_reducible refine Dg.st ?_ (by dsimp only; have := hgt.out; have := sA.out; have := sP.out; (try simp only [World.size_alloc, World.size_drew, World.size_setCell]); omega) _) | (with_reducible refine Dg.trans ?_ (by with_reducible assumption))))⟩
  obtain ⟨q, x, y, ok, rfl, rfl, hBq, hq, hcc, hdc⟩ := hcut
  clear HS hdt hE0 hE1 hEl hEg
  obtain ⟨w5, hw5⟩ : ∃ x, x = wc := ⟨_, rfl⟩; subst hw5
  have hc3 := hcc; have hd3 := hdc; clear hcc hdc
  have S3 := Lib.hid (show wt.heap.size + 0 ≤ w5.heap.size by have h9 := hd3.size; (try simp only [World.size_alloc, World.size_setCell] at h9); omega)
  have NR2 := Lib.hid (R2.out.dg hd3 (show w.heap.size ≠ (w.heap.size + 2) by have := Hgl.out; have := S1.out; have := S2.out; have := S3.out; omega))
  have NR3 := Lib.hid (R3.out.dg hd3 (show w.heap.size + 1 ≠ (w.heap.size + 2) by have := Hgl.out; have := S1.out; have := S2.out; have := S3.out; omega))
  have NE := Lib.hid (E.out.dg hd3 (show w1.heap.size ≠ (w.heap.size + 2) by have := Hgl.out; have := S1.out; have := S2.out; have := S3.out; omega))
  have R2 := NR2; clear NR2
  have R3 := NR3; clear NR3
  have E := NE; clear NE
  have Hc3 := Lib.hid (hc3.mono (j := 0 + 60) (by omega))
  have Hd3 := Lib.hid (Hd2.out.trans hd3)
  clear hc3 hd3
  have Qq := Lib.hid hq; have Q := Lib.hid hBq; have Qw := Lib.hid hBq.lt; clear hq hBq
  cases ok
  · have qE0 := E.out.cell 0
    have qE1 := E.out.cell 1
    simp at qE0 qE1
    have qEl := E.out.lt
    have qR20 := R2.out.cell 0
    have qR21 := R2.out.cell 1
    simp at qR20 qR21
    have qR2l := R2.out.lt
    have qR2f := R2.out.frozen
    have qR30 := R3.out.cell 0
    have qR31 := R3.out.cell 1
    simp at qR30 qR31
    have qR3l := R3.out.lt
    have qR3f := R3.out.frozen
    have nER2 : w1.heap.size ≠ w.heap.size := by have := Hgl.out; have := S1.out; have := S2.out; have := S3.out; have := Qq.out; have := Qw.out; omega
    have nR2E : w.heap.size ≠ w1.heap.size := fun e => nER2 e.symm
    have nER3 : w1.heap.size ≠ w.heap.size + 1 := by have := Hgl.out; have := S1.out; have := S2.out; have := S3.out; have := Qq.out; have := Qw.out; omega
    have nR3E : w.heap.size + 1 ≠ w1.heap.size := fun e => nER3 e.symm
    have nR2R3 : w.heap.size ≠ w.heap.size + 1 := by have := Hgl.out; have := S1.out; have := S2.out; have := S3.out; have := Qq.out; have := Qw.out; omega
    have nR3R2 : w.heap.size + 1 ≠ w.heap.size := fun e => nR2R3 e.symm
    go_wp2_with fail
    go_region_with (go_at_call 59; refine (linked_any (w.heap.size + 2) (0 + 60) _ (by first | exact Hc3.out | exact Cur.drewM Hc3.out | exact Cur.drewM (Cur.drewM Hc3.out)) (by omega)).mono ?_; rintro e w9 ⟨⟨x9, y9, rfl⟩, hc9, hd9⟩; have S4 := Lib.hid (show w5.heap.size + 0 ≤ w9.heap.size by have h9 := hd9.size; (try simp only [World.size_alloc, World.size_setCell, World.size_drew] at h9); omega); have Hc4 := Lib.hid hc9; have Hd4 := Lib.hid (Dg.trans (by first | exact Hd3.out | exact Dg.drew Hd3.out | exact Dg.drew (Dg.drew Hd3.out)) hd9); have h9E : Blk w9 (w1.heap.size) 37 #[.int .i64 a, .int .i64 b] := Blk.dg (by first | exact E.out | exact Blk.drew E.out | exact Blk.drew (Blk.drew E.out)) hd9 (show w1.heap.size ≠ (w.heap.size + 2) by have := Hgl.out; have := S1.out; have := S2.out; have := S3.out; have := Qq.out; have := Qw.out; omega); have z9E0 := h9E.cell 0; have z9E1 := h9E.cell 1; simp at z9E0 z9E1; have l9E := h9E.lt; have N9E := Lib.hid h9E; clear h9E; have h9R2 : Blk w9 (w.heap.size) 37 #[.int .i64 0, .int .i64 0] := Blk.dg (by first | exact R2.out | exact Blk.drew R2.out | exact Blk.drew (Blk.drew R2.out)) hd9 (show w.heap.size ≠ (w.heap.size + 2) by have := Hgl.out; have := S1.out; have := S2.out; have := S3.out; have := Qq.out; have := Qw.out; omega); have z9R20 := h9R2.cell 0; have z9R21 := h9R2.cell 1; simp at z9R20 z9R21; have l9R2 := h9R2.lt; have f9R2 := h9R2.frozen; have N9R2 := Lib.hid h9R2; clear h9R2; have h9R3 : Blk w9 (w.heap.size + 1) 37 #[.int .i64 0, .int .i64 0] := Blk.dg (by first | exact R3.out | exact Blk.drew R3.out | exact Blk.drew (Blk.drew R3.out)) hd9 (show w.heap.size + 1 ≠ (w.heap.size + 2) by have := Hgl.out; have := S1.out; have := S2.out; have := S3.out; have := Qq.out; have := Qw.out; omega); have z9R30 := h9R3.cell 0; have z9R31 := h9R3.cell 1; simp at z9R30 z9R31; have l9R3 := h9R3.lt; have f9R3 := h9R3.frozen; have N9R3 := Lib.hid h9R3; clear h9R3; clear hc9 hd9)
    all_goals
      try go_wp2
      have R2 := N9R2
      have R3 := N9R3
      have HR9 := (show Blk (World.setCell (World.setCell (World.setCell (World.setCell w9 ⟨w.heap.size, 0, none⟩ (.int .i64 a)) ⟨w.heap.size, 1, none⟩ (.int .i64 b)) ⟨w.heap.size + 1, 0, none⟩ (.int .i64 x9)) ⟨w.heap.size + 1, 1, none⟩ (.int .i64 y9)) (w.heap.size) 37 #[.int .i64 a, .int .i64 b] by have h9 := ((((R2.out.set 0 (.int .i64 a)).set 1 (.int .i64 b)).far (p := ⟨w.heap.size + 1, 0, none⟩) (show w.heap.size ≠ w.heap.size + 1 by have := Hgl.out; have := S1.out; have := S2.out; have := S3.out; have := Qq.out; have := Qw.out; have := S4.out; omega) (.int .i64 x9)).far (p := ⟨w.heap.size + 1, 1, none⟩) (show w.heap.size ≠ w.heap.size + 1 by have := Hgl.out; have := S1.out; have := S2.out; have := S3.out; have := Qq.out; have := Qw.out; have := S4.out; omega) (.int .i64 y9)); simpa using h9)
      have HR8 := (show Blk (World.setCell (World.setCell (World.setCell (World.setCell w9 ⟨w.heap.size, 0, none⟩ (.int .i64 a)) ⟨w.heap.size, 1, none⟩ (.int .i64 b)) ⟨w.heap.size + 1, 0, none⟩ (.int .i64 x9)) ⟨w.heap.size + 1, 1, none⟩ (.int .i64 y9)) (w.heap.size + 1) 37 #[.int .i64 x9, .int .i64 y9] by have h9 := ((((R3.out.far (p := ⟨w.heap.size, 0, none⟩) (show w.heap.size + 1 ≠ w.heap.size by have := Hgl.out; have := S1.out; have := S2.out; have := S3.out; have := Qq.out; have := Qw.out; have := S4.out; omega) (.int .i64 a)).far (p := ⟨w.heap.size, 1, none⟩) (show w.heap.size + 1 ≠ w.heap.size by have := Hgl.out; have := S1.out; have := S2.out; have := S3.out; have := Qq.out; have := Qw.out; have := S4.out; omega) (.int .i64 b)).set 0 (.int .i64 x9)).set 1 (.int .i64 y9)); simpa using h9)
      have k0 := HR9.cell 0; have k1 := HR9.cell 1; have k2 := HR8.cell 0; have k3 := HR8.cell 1
      simp at k0 k1 k2 k3
      exact bodyPost_ret (v := .tuple #[.agg #[.int .i64 a, .int .i64 b], .agg #[.int .i64 x9, .int .i64 y9]]) (by simp [results, Try.results27, go_sem, k0, k1, k2, k3]) rfl ⟨⟨a, b, _, _, rfl⟩, ((((Hd4.out.st (p := ⟨w.heap.size, 0, none⟩) (show w.heap.size ≤ w.heap.size by have := Hgl.out; have := S1.out; have := S2.out; have := S3.out; have := Qq.out; have := Qw.out; have := S4.out; omega) (.int .i64 a)).st (p := ⟨w.heap.size, 1, none⟩) (show w.heap.size ≤ w.heap.size by have := Hgl.out; have := S1.out; have := S2.out; have := S3.out; have := Qq.out; have := Qw.out; have := S4.out; omega) (.int .i64 b)).st (p := ⟨w.heap.size + 1, 0, none⟩) (show w.heap.size ≤ w.heap.size + 1 by have := Hgl.out; have := S1.out; have := S2.out; have := S3.out; have := Qq.out; have := Qw.out; have := S4.out; omega) (.int .i64 x9)).st (p := ⟨w.heap.size + 1, 1, none⟩) (show w.heap.size ≤ w.heap.size + 1 by have := Hgl.out; have := S1.out; have := S2.out; have := S3.out; have := Qq.out; have := Qw.out; have := S4.out; omega) (.int .i64 y9)).below (by have := S1.out; have := S2.out; have := S3.out; have := Qq.out; have := Qw.out; have := S4.out; omega) (Nat.le_refl _)⟩
  · go_wp2_with fail
    refine (one_any (w.heap.size + 2) (0 + 60) (3) _ Hc3.out (by omega)).mono ?_; rintro e w5 ⟨⟨o, rfl⟩, hc5, hd5⟩
    have S5 := Lib.hid (show w5.heap.size + 0 ≤ w5.heap.size by have h9 := hd5.size; (try simp only [World.size_alloc, World.size_setCell] at h9); omega)
    have NR2 := Lib.hid (R2.out.dg hd5 (show w.heap.size ≠ (w.heap.size + 2) by have := Hgl.out; have := S1.out; have := S2.out; have := S3.out; have := Qq.out; have := Qw.out; have := S5.out; omega))
    have NR3 := Lib.hid (R3.out.dg hd5 (show w.heap.size + 1 ≠ (w.heap.size + 2) by have := Hgl.out; have := S1.out; have := S2.out; have := S3.out; have := Qq.out; have := Qw.out; have := S5.out; omega))
    have NE := Lib.hid (E.out.dg hd5 (show w1.heap.size ≠ (w.heap.size + 2) by have := Hgl.out; have := S1.out; have := S2.out; have := S3.out; have := Qq.out; have := Qw.out; have := S5.out; omega))
    have NQ := Lib.hid (Q.out.dg hd5 (show q ≠ (w.heap.size + 2) by have := Hgl.out; have := S1.out; have := S2.out; have := S3.out; have := Qq.out; have := Qw.out; have := S5.out; omega))
    have R2 := NR2; clear NR2
    have R3 := NR3; clear NR3
    have E := NE; clear NE
    have Q := NQ; clear NQ
    have Hc5 := Lib.hid (hc5.mono (j := 0 + 62) (by omega))
    have Hd5 := Lib.hid (Hd3.out.trans hd5)
    clear hc5 hd5
    cases o
    · have qE0 := E.out.cell 0
      have qE1 := E.out.cell 1
      simp at qE0 qE1
      have qEl := E.out.lt
      have qQ0 := Q.out.cell 0
      have qQ1 := Q.out.cell 1
      simp at qQ0 qQ1
      have qQl := Q.out.lt
      have qR20 := R2.out.cell 0
      have qR21 := R2.out.cell 1
      simp at qR20 qR21
      have qR2l := R2.out.lt
      have qR2f := R2.out.frozen
      have qR30 := R3.out.cell 0
      have qR31 := R3.out.cell 1
      simp at qR30 qR31
      have qR3l := R3.out.lt
      have qR3f := R3.out.frozen
      have nEQ : w1.heap.size ≠ q := by have := Hgl.out; have := S1.out; have := S2.out; have := S3.out; have := Qq.out; have := Qw.out; have := S5.out; omega
      have nQE : q ≠ w1.heap.size := fun e => nEQ e.symm
      have nER2 : w1.heap.size ≠ w.heap.size := by have := Hgl.out; have := S1.out; have := S2.out; have := S3.out; have := Qq.out; have := Qw.out; have := S5.out; omega
      have nR2E : w.heap.size ≠ w1.heap.size := fun e => nER2 e.symm
      have nER3 : w1.heap.size ≠ w.heap.size + 1 := by have := Hgl.out; have := S1.out; have := S2.out; have := S3.out; have := Qq.out; have := Qw.out; have := S5.out; omega
      have nR3E : w.heap.size + 1 ≠ w1.heap.size := fun e => nER3 e.symm
      have nQR2 : q ≠ w.heap.size := by have := Hgl.out; have := S1.out; have := S2.out; have := S3.out; have := Qq.out; have := Qw.out; have := S5.out; omega
      have nR2Q : w.heap.size ≠ q := fun e => nQR2 e.symm
      have nQR3 : q ≠ w.heap.size + 1 := by have := Hgl.out; have := S1.out; have := S2.out; have := S3.out; have := Qq.out; have := Qw.out; have := S5.out; omega
      have nR3Q : w.heap.size + 1 ≠ q := fun e => nQR3 e.symm
      have nR2R3 : w.heap.size ≠ w.heap.size + 1 := by have := Hgl.out; have := S1.out; have := S2.out; have := S3.out; have := Qq.out; have := Qw.out; have := S5.out; omega
      have nR3R2 : w.heap.size + 1 ≠ w.heap.size := fun e => nR2R3 e.symm
      go_wp2_with fail
      go_region
      go_wp2
      clear qE0 qE1 qEl qQ0 qQ1 qQl qR20 qR21 qR2l qR2f qR30 qR31 qR3l qR3f nEQ nQE nER2 nR2E nER3 nR3E nQR2 nR2Q nQR3 nR3Q nR2R3 nR3R2
      have HR9 := Blk.drew (show Blk (World.setCell (World.setCell (World.setCell (World.setCell w5 ⟨w.heap.size, 0, none⟩ (.int .i64 a)) ⟨w.heap.size, 1, none⟩ (.int .i64 b)) ⟨w.heap.size + 1, 0, none⟩ (.int .i64 x)) ⟨w.heap.size + 1, 1, none⟩ (.int .i64 y)) (w.heap.size) 37 #[.int .i64 a, .int .i64 b] by have h9 := ((((R2.out.set 0 (.int .i64 a)).set 1 (.int .i64 b)).far (p := ⟨w.heap.size + 1, 0, none⟩) (show w.heap.size ≠ w.heap.size + 1 by have := Hgl.out; have := S1.out; have := S2.out; have := S3.out; have := Qq.out; have := Qw.out; have := S5.out; omega) (.int .i64 x)).far (p := ⟨w.heap.size + 1, 1, none⟩) (show w.heap.size ≠ w.heap.size + 1 by have := Hgl.out; have := S1.out; have := S2.out; have := S3.out; have := Qq.out; have := Qw.out; have := S5.out; omega) (.int .i64 y)); simpa using h9)
      have HR8 := Blk.drew (show Blk (World.setCell (World.setCell (World.setCell (World.setCell w5 ⟨w.heap.size, 0, none⟩ (.int .i64 a)) ⟨w.heap.size, 1, none⟩ (.int .i64 b)) ⟨w.heap.size + 1, 0, none⟩ (.int .i64 x)) ⟨w.heap.size + 1, 1, none⟩ (.int .i64 y)) (w.heap.size + 1) 37 #[.int .i64 x, .int .i64 y] by have h9 := ((((R3.out.far (p := ⟨w.heap.size, 0, none⟩) (show w.heap.size + 1 ≠ w.heap.size by have := Hgl.out; have := S1.out; have := S2.out; have := S3.out; have := Qq.out; have := Qw.out; have := S5.out; omega) (.int .i64 a)).far (p := ⟨w.heap.size, 1, none⟩) (show w.heap.size + 1 ≠ w.heap.size by have := Hgl.out; have := S1.out; have := S2.out; have := S3.out; have := Qq.out; have := Qw.out; have := S5.out; omega) (.int .i64 b)).set 0 (.int .i64 x)).set 1 (.int .i64 y)); simpa using h9)
      have k0 := HR9.cell 0; have k1 := HR9.cell 1; have k2 := HR8.cell 0; have k3 := HR8.cell 1
      simp at k0 k1 k2 k3
      exact bodyPost_ret (v := .tuple #[.agg #[.int .i64 a, .int .i64 b], .agg #[.int .i64 x, .int .i64 y]]) (by simp [results, Try.results27, go_sem, k0, k1, k2, k3]) rfl ⟨⟨a, b, _, _, rfl⟩, ((((Hd5.out.st (p := ⟨w.heap.size, 0, none⟩) (show w.heap.size ≤ w.heap.size by have := Hgl.out; have := S1.out; have := S2.out; have := S3.out; have := Qq.out; have := Qw.out; have := S5.out; omega) (.int .i64 a)).st (p := ⟨w.heap.size, 1, none⟩) (show w.heap.size ≤ w.heap.size by have := Hgl.out; have := S1.out; have := S2.out; have := S3.out; have := Qq.out; have := Qw.out; have := S5.out; omega) (.int .i64 b)).st (p := ⟨w.heap.size + 1, 0, none⟩) (show w.heap.size ≤ w.heap.size + 1 by have := Hgl.out; have := S1.out; have := S2.out; have := S3.out; have := Qq.out; have := Qw.out; have := S5.out; omega) (.int .i64 x)).st (p := ⟨w.heap.size + 1, 1, none⟩) (show w.heap.size ≤ w.heap.size + 1 by have := Hgl.out; have := S1.out; have := S2.out; have := S3.out; have := Qq.out; have := Qw.out; have := S5.out; omega) (.int .i64 y)).drew.below (by have := S1.out; have := S2.out; have := S3.out; have := Qq.out; have := Qw.out; have := S5.out; omega) (Nat.le_refl _)⟩
    · have qE0 := E.out.cell 0
      have qE1 := E.out.cell 1
      simp at qE0 qE1
      have qEl := E.out.lt
      have qR20 := R2.out.cell 0
      have qR21 := R2.out.cell 1
      simp at qR20 qR21
      have qR2l := R2.out.lt
      have qR2f := R2.out.frozen
      have qR30 := R3.out.cell 0
      have qR31 := R3.out.cell 1
      simp at qR30 qR31
      have qR3l := R3.out.lt
      have qR3f := R3.out.frozen
      have nER2 : w1.heap.size ≠ w.heap.size := by have := Hgl.out; have := S1.out; have := S2.out; have := S3.out; have := Qq.out; have := Qw.out; have := S5.out; omega
      have nR2E : w.heap.size ≠ w1.heap.size := fun e => nER2 e.symm
      have nER3 : w1.heap.size ≠ w.heap.size + 1 := by have := Hgl.out; have := S1.out; have := S2.out; have := S3.out; have := Qq.out; have := Qw.out; have := S5.out; omega
      have nR3E : w.heap.size + 1 ≠ w1.heap.size := fun e => nER3 e.symm
      have nR2R3 : w.heap.size ≠ w.heap.size + 1 := by have := Hgl.out; have := S1.out; have := S2.out; have := S3.out; have := Qq.out; have := Qw.out; have := S5.out; omega
      have nR3R2 : w.heap.size + 1 ≠ w.heap.size := fun e => nR2R3 e.symm
      go_wp2_with fail
      go_region_with (go_at_call 59; refine (linked_any (w.heap.size + 2) (0 + 62) _ (by first | exact Hc5.out | exact Cur.drewM Hc5.out | exact Cur.drewM (Cur.drewM Hc5.out)) (by omega)).mono ?_; rintro e w9 ⟨⟨x9, y9, rfl⟩, hc9, hd9⟩; have S6 := Lib.hid (show w5.heap.size + 0 ≤ w9.heap.size by have h9 := hd9.size; (try simp only [World.size_alloc, World.size_setCell, World.size_drew] at h9); omega); have Hc6 := Lib.hid hc9; have Hd6 := Lib.hid (Dg.trans (by first | exact Hd5.out | exact Dg.drew Hd5.out | exact Dg.drew (Dg.drew Hd5.out)) hd9); have h9E : Blk w9 (w1.heap.size) 37 #[.int .i64 a, .int .i64 b] := Blk.dg (by first | exact E.out | exact Blk.drew E.out | exact Blk.drew (Blk.drew E.out)) hd9 (show w1.heap.size ≠ (w.heap.size + 2) by have := Hgl.out; have := S1.out; have := S2.out; have := S3.out; have := Qq.out; have := Qw.out; have := S5.out; omega); have z9E0 := h9E.cell 0; have z9E1 := h9E.cell 1; simp at z9E0 z9E1; have l9E := h9E.lt; have N9E := Lib.hid h9E; clear h9E; have h9R2 : Blk w9 (w.heap.size) 37 #[.int .i64 0, .int .i64 0] := Blk.dg (by first | exact R2.out | exact Blk.drew R2.out | exact Blk.drew (Blk.drew R2.out)) hd9 (show w.heap.size ≠ (w.heap.size + 2) by have := Hgl.out; have := S1.out; have := S2.out; have := S3.out; have := Qq.out; have := Qw.out; have := S5.out; omega); have z9R20 := h9R2.cell 0; have z9R21 := h9R2.cell 1; simp at z9R20 z9R21; have l9R2 := h9R2.lt; have f9R2 := h9R2.frozen; have N9R2 := Lib.hid h9R2; clear h9R2; have h9R3 : Blk w9 (w.heap.size + 1) 37 #[.int .i64 0, .int .i64 0] := Blk.dg (by first | exact R3.out | exact Blk.drew R3.out | exact Blk.drew (Blk.drew R3.out)) hd9 (show w.heap.size + 1 ≠ (w.heap.size + 2) by have := Hgl.out; have := S1.out; have := S2.out; have := S3.out; have := Qq.out; have := Qw.out; have := S5.out; omega); have z9R30 := h9R3.cell 0; have z9R31 := h9R3.cell 1; simp at z9R30 z9R31; have l9R3 := h9R3.lt; have f9R3 := h9R3.frozen; have N9R3 := Lib.hid h9R3; clear h9R3; clear hc9 hd9)
      all_goals
        try go_wp2
        have R2 := N9R2
        have R3 := N9R3
        have HR9 := (show Blk (World.setCell (World.setCell (World.setCell (World.setCell w9 ⟨w.heap.size, 0, none⟩ (.int .i64 a)) ⟨w.heap.size, 1, none⟩ (.int .i64 b)) ⟨w.heap.size + 1, 0, none⟩ (.int .i64 x9)) ⟨w.heap.size + 1, 1, none⟩ (.int .i64 y9)) (w.heap.size) 37 #[.int .i64 a, .int .i64 b] by have h9 := ((((R2.out.set 0 (.int .i64 a)).set 1 (.int .i64 b)).far (p := ⟨w.heap.size + 1, 0, none⟩) (show w.heap.size ≠ w.heap.size + 1 by have := Hgl.out; have := S1.out; have := S2.out; have := S3.out; have := Qq.out; have := Qw.out; have := S5.out; have := S6.out; omega) (.int .i64 x9)).far (p := ⟨w.heap.size + 1, 1, none⟩) (show w.heap.size ≠ w.heap.size + 1 by have := Hgl.out; have := S1.out; have := S2.out; have := S3.out; have := Qq.out; have := Qw.out; have := S5.out; have := S6.out; omega) (.int .i64 y9)); simpa using h9)
        have HR8 := (show Blk (World.setCell (World.setCell (World.setCell (World.setCell w9 ⟨w.heap.size, 0, none⟩ (.int .i64 a)) ⟨w.heap.size, 1, none⟩ (.int .i64 b)) ⟨w.heap.size + 1, 0, none⟩ (.int .i64 x9)) ⟨w.heap.size + 1, 1, none⟩ (.int .i64 y9)) (w.heap.size + 1) 37 #[.int .i64 x9, .int .i64 y9] by have h9 := ((((R3.out.far (p := ⟨w.heap.size, 0, none⟩) (show w.heap.size + 1 ≠ w.heap.size by have := Hgl.out; have := S1.out; have := S2.out; have := S3.out; have := Qq.out; have := Qw.out; have := S5.out; have := S6.out; omega) (.int .i64 a)).far (p := ⟨w.heap.size, 1, none⟩) (show w.heap.size + 1 ≠ w.heap.size by have := Hgl.out; have := S1.out; have := S2.out; have := S3.out; have := Qq.out; have := Qw.out; have := S5.out; have := S6.out; omega) (.int .i64 b)).set 0 (.int .i64 x9)).set 1 (.int .i64 y9)); simpa using h9)
        have k0 := HR9.cell 0; have k1 := HR9.cell 1; have k2 := HR8.cell 0; have k3 := HR8.cell 1
        simp at k0 k1 k2 k3
        exact bodyPost_ret (v := .tuple #[.agg #[.int .i64 a, .int .i64 b], .agg #[.int .i64 x9, .int .i64 y9]]) (by simp [results, Try.results27, go_sem, k0, k1, k2, k3]) rfl ⟨⟨a, b, _, _, rfl⟩, ((((Hd6.out.st (p := ⟨w.heap.size, 0, none⟩) (show w.heap.size ≤ w.heap.size by have := Hgl.out; have := S1.out; have := S2.out; have := S3.out; have := Qq.out; have := Qw.out; have := S5.out; have := S6.out; omega) (.int .i64 a)).st (p := ⟨w.heap.size, 1, none⟩) (show w.heap.size ≤ w.heap.size by have := Hgl.out; have := S1.out; have := S2.out; have := S3.out; have := Qq.out; have := Qw.out; have := S5.out; have := S6.out; omega) (.int .i64 b)).st (p := ⟨w.heap.size + 1, 0, none⟩) (show w.heap.size ≤ w.heap.size + 1 by have := Hgl.out; have := S1.out; have := S2.out; have := S3.out; have := Qq.out; have := Qw.out; have := S5.out; have := S6.out; omega) (.int .i64 x9)).st (p := ⟨w.heap.size + 1, 1, none⟩) (show w.heap.size ≤ w.heap.size + 1 by have := Hgl.out; have := S1.out; have := S2.out; have := S3.out; have := Qq.out; have := Qw.out; have := S5.out; have := S6.out; omega) (.int .i64 y9)).below (by have := S1.out; have := S2.out; have := S3.out; have := Qq.out; have := Qw.out; have := S5.out; have := S6.out; omega) (Nat.le_refl _)⟩
end Go.Proofs.Ytnhgdmhiblpknaa
