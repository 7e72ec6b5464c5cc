/- The reference's draw of a journal and a curve. Conditions: a slice of bytes. Printed by gen_drbn.py. -/
import Derived.Test.YtimfoodbolokdaaGreatDoorDrQ2
namespace Go.Proofs.YtimfoodbolokdaaGreatDoor
open Go Go.RowKit

set_option maxRecDepth 100000 in
theorem fieldCu2 (a b lo hi t : Int) (W : World) : (Instr.field 29 (.agg #[.int .i64 a, .int .i64 b, .int .i64 lo, .int .i64 hi, .int .i64 t]) 0).run Tryz.prog W = .ok (.agg #[.int .i64 a, .int .i64 b]) W := by kernel_rfl
theorem rc_allI (es : List Rc) : AllI (rcS.flat es) := by
  intro u hu
  simp only [Shape.flat, List.mem_flatMap, Shape.cells, List.mem_map, List.mem_range] at hu
  obtain ⟨x, -, j, -, rfl⟩ := hu
  unfold rcS
  match j with
  | 0 => exact ⟨_, rfl⟩
  | 1 => exact ⟨_, rfl⟩
  | 2 => exact ⟨_, rfl⟩
  | j + 3 => exact ⟨_, rfl⟩
theorem IR.of_rc {w : World} {B : Nat} {t : TypeId} {v : Value} {es : List Rc} (h : w.ownsRow B t 4 v es.length (rcS.flat es)) : IR w B t 4 v es.length := ⟨_, h, rc_allI es⟩

set_option linter.unusedSimpArgs false in
set_option maxRecDepth 8000 in
set_option maxHeartbeats 16000000 in
theorem drawBounds_any (A : Option Addr) (n c : Nat) (w : World) (hby : BytesAt w w.heap.size A n) :
    Calls Tryz.prog 64 #[.slice A n c] w fun e w' => (∃ (D P : ByteArray) (a b : Int), D.size + P.size ≤ 3000 ∧ e = .returned (.tuple #[.agg #[.string D, .string P], .agg #[.int .i64 a, .int .i64 b]])) ∧ Below w.heap.size w w' := by
  have Hb := Lib.hid hby; clear hby
  have Hgl := Lib.hid (Nat.le_refl w.heap.size)
  have Hd := Lib.hid (Dg.refl (w.heap.size + 2) w)
  go_enter Tryz.func64, Tryz.ntmps64
  go_wp2_with fail
  refine (anyJournal_any (w.heap.size + 2) 0 _ (Cur.new2 Hb.out c _ _) (by omega)).mono ?_; rintro e w1 ⟨⟨D, P, hDP, rfl⟩, hc1, hd1⟩
  have S1 := Lib.hid (show w.heap.size + 3 ≤ w1.heap.size by have h9 := hd1.size; (try simp only [World.size_alloc, World.size_setCell] at h9); omega)
  have NR := Lib.hid ((((Blk.new w 76 #[.string (⟨#[]⟩ : ByteArray), .string (⟨#[]⟩ : ByteArray)]).alloc (Obj.cells #[.int .i64 0, .int .i64 0] 25)).alloc (Obj.cells #[.slice A n c, .int .i64 0, .int .u64 0] 106)).dg hd1 (show w.heap.size ≠ (w.heap.size + 2) by have := Hgl.out; have := S1.out; omega))
  have NU := Lib.hid (((show Blk (World.alloc (World.alloc w (Obj.cells #[.string (⟨#[]⟩ : ByteArray), .string (⟨#[]⟩ : ByteArray)] 76)) (Obj.cells #[.int .i64 0, .int .i64 0] 25)) (w.heap.size + 1) 25 #[.int .i64 0, .int .i64 0] by have h9 := (Blk.new (World.alloc w (Obj.cells #[.string (⟨#[]⟩ : ByteArray), .string (⟨#[]⟩ : ByteArray)] 76)) 25 #[.int .i64 0, .int .i64 0]); (try simp only [World.size_alloc, World.size_setCell] at h9); exact h9).alloc (Obj.cells #[.slice A n c, .int .i64 0, .int .u64 0] 106)).dg hd1 (show w.heap.size + 1 ≠ (w.heap.size + 2) by have := Hgl.out; have := S1.out; omega))
  have R := NR; clear NR
  have U := NU; clear NU
  have Hc1 := Lib.hid (hc1.mono (j := 0 + 3100) (by omega))
  have Hd1 := Lib.hid ((((Hd.out.alloc (Obj.cells #[.string (⟨#[]⟩ : ByteArray), .string (⟨#[]⟩ : ByteArray)] 76)).alloc (Obj.cells #[.int .i64 0, .int .i64 0] 25)).alloc (Obj.cells #[.slice A n c, .int .i64 0, .int .u64 0] 106)).trans hd1)
  clear hc1 hd1
  have hD0 : D.size ≤ 3000 := by omega
  have hP0 : P.size ≤ 3000 := by omega
  have hsz : (D ++ P).size ≤ 3000 := by rw [ByteArray.size_append]; exact hDP
  go_wp2_with fail
  refine (jrOpen_any (D ++ P) _ (by omega)).mono ?_; rintro e w2 ⟨⟨v, rfl, hv⟩, hd2⟩
  have S2 := Lib.hid (show w1.heap.size + 1 ≤ w2.heap.size by have h9 := hd2.size; (try simp only [World.size_alloc, World.size_setCell] at h9); omega)
  have NR := Lib.hid ((R.out.alloc _).dg (Dg.of_below (g := (w.heap.size + 2)) hd2) (show w.heap.size ≠ (w.heap.size + 2) by have := Hgl.out; have := S1.out; have := S2.out; omega))
  have NU := Lib.hid ((U.out.alloc _).dg (Dg.of_below (g := (w.heap.size + 2)) hd2) (show w.heap.size + 1 ≠ (w.heap.size + 2) by have := Hgl.out; have := S1.out; have := S2.out; omega))
  have NQ := Lib.hid ((Blk.new w1 76 #[.string D, .string P]).dg (Dg.of_below (g := (w.heap.size + 2)) hd2) (show w1.heap.size ≠ (w.heap.size + 2) by have := Hgl.out; have := S1.out; have := S2.out; omega))
  have R := NR; clear NR
  have U := NU; clear NU
  have Q := NQ; clear NQ
  have Hc2 := Lib.hid ((Hc1.out.alloc _).on hd2)
  have Hd2 := Lib.hid ((Hd1.out.alloc _).trans (Dg.of_below (g := (w.heap.size + 2)) hd2))
  clear hd2
  have hm30 := (jrA_le (D ++ P)).1
  have HI := IR.of_rc hv
  clear hv
  generalize (jrA (D ++ P)).1.length = m at HI hm30 ⊢
  have HV := Lib.hid (HI.mono (B' := w.heap.size + 3) (by (try simp only [World.size_alloc]); have := S1.out; have := S2.out; omega)); have GHV := Lib.hid (IR.lt (HI.mono (B' := w.heap.size + 3) (by (try simp only [World.size_alloc]); have := S1.out; have := S2.out; omega)))
  clear HI hsz
  obtain ⟨A9, c9, rfl, hmc, hcm⟩ := HV.out.form
  unfold maxLen at hcm
  by_cases hm0 : 0 < m
  · obtain ⟨gl, cl, hfl, hgl1, hgl2, hmcl, hcml⟩ := HV.out.pos hm0
    injection hfl with hf1 hf2 hf3; subst hf1; subst hf3; clear hf2
    have hmi : (0 : Int) < (m : Int) := by omega
    go_wp2_with fail
    refine (one_any (w.heap.size + 2) (0 + 3100) (4) _ Hc2.out (by omega)).mono ?_; rintro e w3 ⟨⟨o, rfl⟩, hc3, hd3⟩
    have S3 := Lib.hid (show w2.heap.size + 0 ≤ w3.heap.size by have h9 := hd3.size; (try simp only [World.size_alloc, World.size_setCell] at h9); omega)
    have NR := Lib.hid (R.out.dg hd3 (show w.heap.size ≠ (w.heap.size + 2) by have := Hgl.out; have := S1.out; have := S2.out; have := S3.out; omega))
    have NU := Lib.hid (U.out.dg hd3 (show w.heap.size + 1 ≠ (w.heap.size + 2) by have := Hgl.out; have := S1.out; have := S2.out; have := S3.out; omega))
    have NQ := Lib.hid (Q.out.dg hd3 (show w1.heap.size ≠ (w.heap.size + 2) by have := Hgl.out; have := S1.out; have := S2.out; have := S3.out; omega))
    have R := NR; clear NR
    have U := NU; clear NU
    have Q := NQ; clear NQ
    have HV := Lib.hid (HV.out.dg hd3 (show (w.heap.size + 2) < (w.heap.size + 3) by have := Hgl.out; have := S1.out; have := S2.out; have := S3.out; omega))
    have Hc3 := Lib.hid (hc3.mono (j := 0 + 3102) (by omega))
    have Hd3 := Lib.hid (Hd2.out.trans hd3)
    clear hc3 hd3
    cases o
    · go_wp2_with fail
      have hQg : w1.heap.size ≠ (w.heap.size + 2) := by have := Hgl.out; have := S1.out; have := S2.out; have := S3.out; omega
      have hRg : w.heap.size ≠ (w.heap.size + 2) := by omega
      have hUg : w.heap.size + 1 ≠ (w.heap.size + 2) := by omega
      have hQR : w1.heap.size ≠ w.heap.size := by have := Hgl.out; have := S1.out; have := S2.out; have := S3.out; omega
      have hQU : w1.heap.size ≠ w.heap.size + 1 := by have := Hgl.out; have := S1.out; have := S2.out; have := S3.out; omega
      refine wp_region_heldT (z := 10) (S := fun w' => Blk w' (w1.heap.size) 76 #[.string D, .string P] ∧ ∀ j, j < m * 4 → w'.cell? ⟨gl, j, none⟩ = w3.cell? ⟨gl, j, none⟩) (by kernel_rfl) ⟨Q.out.drew, fun _ _ => rfl⟩ (fun hH => ?_)
      refine wpAnyT_take (i := 0) (v := .agg #[.string D, .string P]) rfl (by kernel_rfl) (by kernel_rfl) (by kernel_rfl) (by kernel_rfl) (fun _ _ _ h => h) (Or.inl ⟨by rfl, ?_⟩) hH ?_
      · intro w hw; have f0 := hw.1.cell 0; have f1 := hw.1.cell 1; simp at f0 f1; go_simp
      try simp only [Act.put, List.setIfInBounds_toArray, List.set_cons_zero, List.set_cons_succ]
      refine wpAnyT_take (i := 1) (v := .slice (some ⟨gl, 0, none⟩) m c9) rfl (by kernel_rfl) (by kernel_rfl) (by kernel_rfl) (by kernel_rfl) (fun _ _ _ h => h) (Or.inl ⟨by rfl, ?_⟩) hH ?_
      · intro w _; go_simp
      try simp only [Act.put, List.setIfInBounds_toArray, List.set_cons_zero, List.set_cons_succ]
      refine wpAnyT_take (i := 2) (v := .pointer (some ⟨(w.heap.size + 2), 0, none⟩)) rfl (by kernel_rfl) (by kernel_rfl) (by kernel_rfl) (by kernel_rfl) (fun _ _ _ h => h) (Or.inl ⟨by rfl, ?_⟩) hH ?_
      · intro w _; go_simp
      try simp only [Act.put, List.setIfInBounds_toArray, List.set_cons_zero, List.set_cons_succ]
      refine wpAnyT_take (i := 3) (v := .slice (some ⟨gl, 0, none⟩) m c9) rfl (by kernel_rfl) (by kernel_rfl) (by kernel_rfl) (by kernel_rfl) (fun _ _ _ h => h) (Or.inl ⟨by rfl, ?_⟩) hH ?_
      · intro w _; go_simp
      try simp only [Act.put, List.setIfInBounds_toArray, List.set_cons_zero, List.set_cons_succ]
      refine wpAnyT_take (i := 4) (v := .int .i64 (m : Int)) rfl (by kernel_rfl) (by kernel_rfl) (by kernel_rfl) (by kernel_rfl) (fun _ _ _ h => h) (Or.inl ⟨by rfl, ?_⟩) hH ?_
      · intro w _; go_simp
      try simp only [Act.put, List.setIfInBounds_toArray, List.set_cons_zero, List.set_cons_succ]
      have hglg : gl ≠ (w.heap.size + 2) := by omega
      have hglR : gl ≠ w.heap.size := by omega
      have hglU : gl ≠ w.heap.size + 1 := by omega
      refine wpAnyT_one (i := 5) (by kernel_rfl) rfl (fun K hK => ?_)
      go_simp
      refine (pick_any (w.heap.size + 2) (0 + 3102) (m : Int) _ (Cur.drewQ Hc3.out) (by omega)).mono ?_
      rintro e8 wa ⟨⟨y, hy0, hy1, rfl⟩, hcy, hdy⟩
      go_wp2_with fail
      have hH6 := (show _ ∧ _ from ⟨hH.1.dg hdy hQg, fun j hj => (dcell (p := ⟨gl, j, none⟩) hdy (HV.out.lt gl rfl).2 hglg).trans (hH.2 j hj)⟩)
      refine hK.out _ _ (fun _ => hH6) ?_
      clear hK K
      try simp only [Act.put, List.setIfInBounds_toArray, List.set_cons_zero, List.set_cons_succ]
      obtain ⟨y, rfl⟩ : ∃ q : Nat, y = q := ⟨y.toNat, by omega⟩
      have hym : y < m := by omega
      clear hy1 hy0
      have hy0 : (0 : Int) ≤ (y : Int) := by omega
      have hyi : (y : Int) < (m : Int) := by omega
      replace hdy := (Dg.drew (Dg.refl (w.heap.size + 2) w3)).trans hdy
      obtain ⟨u0, hu0⟩ := HV.out.cell (j := y * 4) (by omega)
      obtain ⟨u1, hu1⟩ := HV.out.cell (j := y * 4 + 1) (by omega)
      refine wpAnyT_take (i := 6) (v := .pointer (some ⟨gl, y * 4, none⟩)) rfl (by kernel_rfl) (by kernel_rfl) (by kernel_rfl) (by kernel_rfl) (fun _ _ _ h => h) (Or.inl ⟨by rfl, ?_⟩) hH6 ?_
      · intro w _; go_simp
      try simp only [Act.put, List.setIfInBounds_toArray, List.set_cons_zero, List.set_cons_succ]
      refine wpAnyT_take (i := 7) (v := .pointer (some ⟨gl, y * 4, none⟩)) rfl (by kernel_rfl) (by kernel_rfl) (by kernel_rfl) (by kernel_rfl) (fun _ _ _ h => h) (Or.inl ⟨by rfl, ?_⟩) hH6 ?_
      · intro w _; go_simp
      try simp only [Act.put, List.setIfInBounds_toArray, List.set_cons_zero, List.set_cons_succ]
      refine wpAnyT_take (i := 8) (v := .agg #[.int .i64 u0, .int .i64 u1]) rfl (by kernel_rfl) (by kernel_rfl) (by kernel_rfl) (by kernel_rfl) (fun _ _ _ h => h) (Or.inl ⟨by rfl, ?_⟩) hH6 ?_
      · intro w hw; have f0 := (hw.2 (y * 4) (by omega)).trans hu0; have f1 := (hw.2 (y * 4 + 1) (by omega)).trans hu1; go_simp
      try simp only [Act.put, List.setIfInBounds_toArray, List.set_cons_zero, List.set_cons_succ]
      clear hu0 hu1 hy0 hyi hym
      have HRa := R.out.dg hdy hRg
      have hR0 := HRa.frozen; have hRl := HRa.lt; have r0 := HRa.cell 0; have r1 := HRa.cell 1
      simp at r0 r1
      have HUa := (U.out.dg hdy hUg)
      have hU0 := HUa.frozen; have hUl := HUa.lt; have s0 := HUa.cell 0; have s1 := HUa.cell 1
      simp at s0 s1
      have nRU : w.heap.size ≠ w.heap.size + 1 := by omega
      have nUR : w.heap.size + 1 ≠ w.heap.size := by omega
      have hH7 := (show _ ∧ _ from ⟨(hH6.1.far (p := ⟨w.heap.size, 0, none⟩) hQR (.string D)).far (p := ⟨w.heap.size, 1, none⟩) hQR (.string P), fun j hj => ((World.cell?_setCell_other _ ⟨w.heap.size, 1, none⟩ ⟨gl, j, none⟩ (.string P) (by intro e; injection e with e1; exact hglR e1.symm)).trans (World.cell?_setCell_other _ ⟨w.heap.size, 0, none⟩ ⟨gl, j, none⟩ (.string D) (by intro e; injection e with e1; exact hglR e1.symm))).trans (hH6.2 j hj)⟩)
      refine wpAnyT_one (i := 9) (by kernel_rfl) rfl (fun K hK => ?_)
      go_simp
      refine hK.out _ _ (fun _ => hH7) ?_
      clear hK K
      try simp only [Act.put, List.setIfInBounds_toArray, List.set_cons_zero, List.set_cons_succ]
      refine wpAnyT_one (i := 10) (by kernel_rfl) rfl (fun K hK => ?_)
      go_simp
      refine hK.out _ _ (fun h9 => absurd rfl h9) ?_
      clear hK K
      try simp only [Act.put, List.setIfInBounds_toArray, List.set_cons_zero, List.set_cons_succ]
      refine wpAnyT_done (by kernel_rfl) ?_ _
      clear r0 r1 s0 s1 hR0 hRl hU0 hUl HRa HUa hH7 hH6 hH
      have hc4 := hcy.mono (j := 0 + 3104) (by omega); have hd4 := hdy; clear hcy hdy
      have S4 := Lib.hid (show w3.heap.size + 0 ≤ wa.heap.size by have h9 := hd4.size; (try simp only [World.size_alloc, World.size_setCell] at h9); omega)
      have NR := Lib.hid (R.out.dg hd4 (show w.heap.size ≠ (w.heap.size + 2) by have := Hgl.out; have := S1.out; have := S2.out; have := S3.out; have := S4.out; omega))
      have NU := Lib.hid (U.out.dg hd4 (show w.heap.size + 1 ≠ (w.heap.size + 2) by have := Hgl.out; have := S1.out; have := S2.out; have := S3.out; have := S4.out; omega))
      have NQ := Lib.hid (Q.out.dg hd4 (show w1.heap.size ≠ (w.heap.size + 2) by have := Hgl.out; have := S1.out; have := S2.out; have := S3.out; have := S4.out; omega))
      have R := NR; clear NR
      have U := NU; clear NU
      have Q := NQ; clear NQ
      have HV := Lib.hid (HV.out.dg hd4 (show (w.heap.size + 2) < (w.heap.size + 3) by have := Hgl.out; have := S1.out; have := S2.out; have := S3.out; have := S4.out; omega))
      have Hc4 := Lib.hid (hc4.mono (j := 0 + 3104) (by omega))
      have Hd4 := Lib.hid (Hd3.out.trans hd4)
      clear hc4 hd4
      have HR9 := (show Blk (World.setCell (World.setCell (World.setCell (World.setCell wa ⟨w.heap.size, 0, none⟩ (.string D)) ⟨w.heap.size, 1, none⟩ (.string P)) ⟨w.heap.size + 1, 0, none⟩ (.int .i64 u0)) ⟨w.heap.size + 1, 1, none⟩ (.int .i64 u1)) (w.heap.size) 76 #[.string D, .string P] by have h9 := ((((R.out.set 0 (.string D)).set 1 (.string P)).far (p := ⟨w.heap.size + 1, 0, none⟩) (show w.heap.size ≠ w.heap.size + 1 by have := Hgl.out; have := S1.out; have := S2.out; have := S3.out; have := S4.out; omega) (.int .i64 u0)).far (p := ⟨w.heap.size + 1, 1, none⟩) (show w.heap.size ≠ w.heap.size + 1 by have := Hgl.out; have := S1.out; have := S2.out; have := S3.out; have := S4.out; omega) (.int .i64 u1)); simpa using h9)
      have HU9 := (show Blk (World.setCell (World.setCell (World.setCell (World.setCell wa ⟨w.heap.size, 0, none⟩ (.string D)) ⟨w.heap.size, 1, none⟩ (.string P)) ⟨w.heap.size + 1, 0, none⟩ (.int .i64 u0)) ⟨w.heap.size + 1, 1, none⟩ (.int .i64 u1)) (w.heap.size + 1) 25 #[.int .i64 u0, .int .i64 u1] by have h9 := ((((U.out.far (p := ⟨w.heap.size, 0, none⟩) (show w.heap.size + 1 ≠ w.heap.size by have := Hgl.out; have := S1.out; have := S2.out; have := S3.out; have := S4.out; omega) (.string D)).far (p := ⟨w.heap.size, 1, none⟩) (show w.heap.size + 1 ≠ w.heap.size by have := Hgl.out; have := S1.out; have := S2.out; have := S3.out; have := S4.out; omega) (.string P)).set 0 (.int .i64 u0)).set 1 (.int .i64 u1)); simpa using h9)
      have k0 := HR9.cell 0; have k1 := HR9.cell 1; have j0 := HU9.cell 0; have j1 := HU9.cell 1
      simp at k0 k1 j0 j1
      go_wp2
      exact bodyPost_ret (v := .tuple #[.agg #[.string D, .string P], .agg #[.int .i64 u0, .int .i64 u1]]) (by simp [results, Tryz.results64, go_sem, k0, k1, j0, j1]) rfl ⟨⟨D, P, u0, u1, hDP, rfl⟩, ((((Hd4.out.st (p := ⟨w.heap.size, 0, none⟩) (show w.heap.size ≤ w.heap.size by have := Hgl.out; have := S1.out; have := S2.out; have := S3.out; have := S4.out; omega) (.string D)).st (p := ⟨w.heap.size, 1, none⟩) (show w.heap.size ≤ w.heap.size by have := Hgl.out; have := S1.out; have := S2.out; have := S3.out; have := S4.out; omega) (.string P)).st (p := ⟨w.heap.size + 1, 0, none⟩) (show w.heap.size ≤ w.heap.size + 1 by have := Hgl.out; have := S1.out; have := S2.out; have := S3.out; have := S4.out; omega) (.int .i64 u0)).st (p := ⟨w.heap.size + 1, 1, none⟩) (show w.heap.size ≤ w.heap.size + 1 by have := Hgl.out; have := S1.out; have := S2.out; have := S3.out; have := S4.out; omega) (.int .i64 u1)).below (by have := S1.out; have := S2.out; have := S3.out; have := S4.out; omega) (Nat.le_refl _)⟩
    · go_wp2_with fail
      have hQg : w1.heap.size ≠ (w.heap.size + 2) := by have := Hgl.out; have := S1.out; have := S2.out; have := S3.out; omega
      have hRg : w.heap.size ≠ (w.heap.size + 2) := by omega
      have hUg : w.heap.size + 1 ≠ (w.heap.size + 2) := by omega
      have hQR : w1.heap.size ≠ w.heap.size := by have := Hgl.out; have := S1.out; have := S2.out; have := S3.out; omega
      have hQU : w1.heap.size ≠ w.heap.size + 1 := by have := Hgl.out; have := S1.out; have := S2.out; have := S3.out; omega
      refine wp_region_heldT (z := 5) (S := fun w' => Blk w' (w1.heap.size) 76 #[.string D, .string P]) (by kernel_rfl) Q.out.drew (fun hH => ?_)
      refine wpAnyT_take (i := 0) (v := .agg #[.string D, .string P]) rfl (by kernel_rfl) (by kernel_rfl) (by kernel_rfl) (by kernel_rfl) (fun _ _ _ h => h) (Or.inl ⟨by rfl, ?_⟩) hH ?_
      · intro w hw; have f0 := hw.cell 0; have f1 := hw.cell 1; simp at f0 f1; go_simp
      try simp only [Act.put, List.setIfInBounds_toArray, List.set_cons_zero, List.set_cons_succ]
      refine wpAnyT_take (i := 1) (v := .pointer (some ⟨(w.heap.size + 2), 0, none⟩)) rfl (by kernel_rfl) (by kernel_rfl) (by kernel_rfl) (by kernel_rfl) (fun _ _ _ h => h) (Or.inl ⟨by rfl, ?_⟩) hH ?_
      · intro w _; go_simp
      try simp only [Act.put, List.setIfInBounds_toArray, List.set_cons_zero, List.set_cons_succ]
      refine wpAnyT_one (i := 2) (by kernel_rfl) rfl (fun K hK => ?_)
      go_simp
      refine (anyEntry_any (w.heap.size + 2) (0 + 3102) _ (Cur.drewQ Hc3.out) (by omega)).mono ?_
      rintro e8 wa ⟨⟨ea, eb, elo, ehi, et, rfl⟩, hcy, hdy⟩
      go_wp2_with fail
      have hH6 := hH.dg hdy hQg
      refine hK.out _ _ (fun _ => hH6) ?_
      clear hK K
      try simp only [Act.put, List.setIfInBounds_toArray, List.set_cons_zero, List.set_cons_succ]
      replace hdy := (Dg.drew (Dg.refl (w.heap.size + 2) w3)).trans hdy
      have hfl := fieldCu2 ea eb elo ehi et
      refine wpAnyT_take (i := 3) (v := .agg #[.int .i64 ea, .int .i64 eb]) rfl (by kernel_rfl) (by kernel_rfl) (by kernel_rfl) (by kernel_rfl) (fun _ _ _ h => h) (Or.inl ⟨by rfl, ?_⟩) hH6 ?_
      · intro w _; go_simp
      try simp only [Act.put, List.setIfInBounds_toArray, List.set_cons_zero, List.set_cons_succ]
      have HRa := R.out.dg hdy hRg
      have hR0 := HRa.frozen; have hRl := HRa.lt; have r0 := HRa.cell 0; have r1 := HRa.cell 1
      simp at r0 r1
      have HUa := (U.out.dg hdy hUg)
      have hU0 := HUa.frozen; have hUl := HUa.lt; have s0 := HUa.cell 0; have s1 := HUa.cell 1
      simp at s0 s1
      have nRU : w.heap.size ≠ w.heap.size + 1 := by omega
      have nUR : w.heap.size + 1 ≠ w.heap.size := by omega
      have hH7 := (hH6.far (p := ⟨w.heap.size, 0, none⟩) hQR (.string D)).far (p := ⟨w.heap.size, 1, none⟩) hQR (.string P)
      refine wpAnyT_one (i := 4) (by kernel_rfl) rfl (fun K hK => ?_)
      go_simp
      refine hK.out _ _ (fun _ => hH7) ?_
      clear hK K
      try simp only [Act.put, List.setIfInBounds_toArray, List.set_cons_zero, List.set_cons_succ]
      refine wpAnyT_one (i := 5) (by kernel_rfl) rfl (fun K hK => ?_)
      go_simp
      refine hK.out _ _ (fun h9 => absurd rfl h9) ?_
      clear hK K
      try simp only [Act.put, List.setIfInBounds_toArray, List.set_cons_zero, List.set_cons_succ]
      refine wpAnyT_done (by kernel_rfl) ?_ _
      clear r0 r1 s0 s1 hR0 hRl hU0 hUl HRa HUa hH7 hH6 hH
      have hc5 := hcy.mono (j := 0 + 3162) (by omega); have hd5 := hdy; clear hcy hdy
      have S5 := Lib.hid (show w3.heap.size + 0 ≤ wa.heap.size by have h9 := hd5.size; (try simp only [World.size_alloc, World.size_setCell] at h9); omega)
      have NR := Lib.hid (R.out.dg hd5 (show w.heap.size ≠ (w.heap.size + 2) by have := Hgl.out; have := S1.out; have := S2.out; have := S3.out; have := S5.out; omega))
      have NU := Lib.hid (U.out.dg hd5 (show w.heap.size + 1 ≠ (w.heap.size + 2) by have := Hgl.out; have := S1.out; have := S2.out; have := S3.out; have := S5.out; omega))
      have NQ := Lib.hid (Q.out.dg hd5 (show w1.heap.size ≠ (w.heap.size + 2) by have := Hgl.out; have := S1.out; have := S2.out; have := S3.out; have := S5.out; omega))
      have R := NR; clear NR
      have U := NU; clear NU
      have Q := NQ; clear NQ
      have HV := Lib.hid (HV.out.dg hd5 (show (w.heap.size + 2) < (w.heap.size + 3) by have := Hgl.out; have := S1.out; have := S2.out; have := S3.out; have := S5.out; omega))
      have Hc5 := Lib.hid (hc5.mono (j := 0 + 3162) (by omega))
      have Hd5 := Lib.hid (Hd3.out.trans hd5)
      clear hc5 hd5
      have HR9 := (show Blk (World.setCell (World.setCell (World.setCell (World.setCell wa ⟨w.heap.size, 0, none⟩ (.string D)) ⟨w.heap.size, 1, none⟩ (.string P)) ⟨w.heap.size + 1, 0, none⟩ (.int .i64 ea)) ⟨w.heap.size + 1, 1, none⟩ (.int .i64 eb)) (w.heap.size) 76 #[.string D, .string P] by have h9 := ((((R.out.set 0 (.string D)).set 1 (.string P)).far (p := ⟨w.heap.size + 1, 0, none⟩) (show w.heap.size ≠ w.heap.size + 1 by have := Hgl.out; have := S1.out; have := S2.out; have := S3.out; have := S5.out; omega) (.int .i64 ea)).far (p := ⟨w.heap.size + 1, 1, none⟩) (show w.heap.size ≠ w.heap.size + 1 by have := Hgl.out; have := S1.out; have := S2.out; have := S3.out; have := S5.out; omega) (.int .i64 eb)); simpa using h9)
      have HU9 := (show Blk (World.setCell (World.setCell (World.setCell (World.setCell wa ⟨w.heap.size, 0, none⟩ (.string D)) ⟨w.heap.size, 1, none⟩ (.string P)) ⟨w.heap.size + 1, 0, none⟩ (.int .i64 ea)) ⟨w.heap.size + 1, 1, none⟩ (.int .i64 eb)) (w.heap.size + 1) 25 #[.int .i64 ea, .int .i64 eb] by have h9 := ((((U.out.far (p := ⟨w.heap.size, 0, none⟩) (show w.heap.size + 1 ≠ w.heap.size by have := Hgl.out; have := S1.out; have := S2.out; have := S3.out; have := S5.out; omega) (.string D)).far (p := ⟨w.heap.size, 1, none⟩) (show w.heap.size + 1 ≠ w.heap.size by have := Hgl.out; have := S1.out; have := S2.out; have := S3.out; have := S5.out; omega) (.string P)).set 0 (.int .i64 ea)).set 1 (.int .i64 eb)); simpa using h9)
      have k0 := HR9.cell 0; have k1 := HR9.cell 1; have j0 := HU9.cell 0; have j1 := HU9.cell 1
      simp at k0 k1 j0 j1
      go_wp2
      exact bodyPost_ret (v := .tuple #[.agg #[.string D, .string P], .agg #[.int .i64 ea, .int .i64 eb]]) (by simp [results, Tryz.results64, go_sem, k0, k1, j0, j1]) rfl ⟨⟨D, P, ea, eb, hDP, rfl⟩, ((((Hd5.out.st (p := ⟨w.heap.size, 0, none⟩) (show w.heap.size ≤ w.heap.size by have := Hgl.out; have := S1.out; have := S2.out; have := S3.out; have := S5.out; omega) (.string D)).st (p := ⟨w.heap.size, 1, none⟩) (show w.heap.size ≤ w.heap.size by have := Hgl.out; have := S1.out; have := S2.out; have := S3.out; have := S5.out; omega) (.string P)).st (p := ⟨w.heap.size + 1, 0, none⟩) (show w.heap.size ≤ w.heap.size + 1 by have := Hgl.out; have := S1.out; have := S2.out; have := S3.out; have := S5.out; omega) (.int .i64 ea)).st (p := ⟨w.heap.size + 1, 1, none⟩) (show w.heap.size ≤ w.heap.size + 1 by have := Hgl.out; have := S1.out; have := S2.out; have := S3.out; have := S5.out; omega) (.int .i64 eb)).below (by have := S1.out; have := S2.out; have := S3.out; have := S5.out; omega) (Nat.le_refl _)⟩
  · have hmi : ¬ (0 : Int) < (m : Int) := by omega
    go_wp2_with fail
    have hQg : w1.heap.size ≠ (w.heap.size + 2) := by have := Hgl.out; have := S1.out; have := S2.out; omega
    have hRg : w.heap.size ≠ (w.heap.size + 2) := by omega
    have hUg : w.heap.size + 1 ≠ (w.heap.size + 2) := by omega
    have hQR : w1.heap.size ≠ w.heap.size := by have := Hgl.out; have := S1.out; have := S2.out; omega
    have hQU : w1.heap.size ≠ w.heap.size + 1 := by have := Hgl.out; have := S1.out; have := S2.out; omega
    refine wp_region_heldT (z := 5) (S := fun w' => Blk w' (w1.heap.size) 76 #[.string D, .string P]) (by kernel_rfl) Q.out.drew (fun hH => ?_)
    refine wpAnyT_take (i := 0) (v := .agg #[.string D, .string P]) rfl (by kernel_rfl) (by kernel_rfl) (by kernel_rfl) (by kernel_rfl) (fun _ _ _ h => h) (Or.inl ⟨by rfl, ?_⟩) hH ?_
    · intro w hw; have f0 := hw.cell 0; have f1 := hw.cell 1; simp at f0 f1; go_simp
    try simp only [Act.put, List.setIfInBounds_toArray, List.set_cons_zero, List.set_cons_succ]
    refine wpAnyT_take (i := 1) (v := .pointer (some ⟨(w.heap.size + 2), 0, none⟩)) rfl (by kernel_rfl) (by kernel_rfl) (by kernel_rfl) (by kernel_rfl) (fun _ _ _ h => h) (Or.inl ⟨by rfl, ?_⟩) hH ?_
    · intro w _; go_simp
    try simp only [Act.put, List.setIfInBounds_toArray, List.set_cons_zero, List.set_cons_succ]
    refine wpAnyT_one (i := 2) (by kernel_rfl) rfl (fun K hK => ?_)
    go_simp
    refine (anyEntry_any (w.heap.size + 2) (0 + 3100) _ (Cur.drewQ Hc2.out) (by omega)).mono ?_
    rintro e8 wa ⟨⟨ea, eb, elo, ehi, et, rfl⟩, hcy, hdy⟩
    go_wp2_with fail
    have hH6 := hH.dg hdy hQg
    refine hK.out _ _ (fun _ => hH6) ?_
    clear hK K
    try simp only [Act.put, List.setIfInBounds_toArray, List.set_cons_zero, List.set_cons_succ]
    replace hdy := (Dg.drew (Dg.refl (w.heap.size + 2) w2)).trans hdy
    have hfl := fieldCu2 ea eb elo ehi et
    refine wpAnyT_take (i := 3) (v := .agg #[.int .i64 ea, .int .i64 eb]) rfl (by kernel_rfl) (by kernel_rfl) (by kernel_rfl) (by kernel_rfl) (fun _ _ _ h => h) (Or.inl ⟨by rfl, ?_⟩) hH6 ?_
    · intro w _; go_simp
    try simp only [Act.put, List.setIfInBounds_toArray, List.set_cons_zero, List.set_cons_succ]
    have HRa := R.out.dg hdy hRg
    have hR0 := HRa.frozen; have hRl := HRa.lt; have r0 := HRa.cell 0; have r1 := HRa.cell 1
    simp at r0 r1
    have HUa := (U.out.dg hdy hUg)
    have hU0 := HUa.frozen; have hUl := HUa.lt; have s0 := HUa.cell 0; have s1 := HUa.cell 1
    simp at s0 s1
    have nRU : w.heap.size ≠ w.heap.size + 1 := by omega
    have nUR : w.heap.size + 1 ≠ w.heap.size := by omega
    have hH7 := (hH6.far (p := ⟨w.heap.size, 0, none⟩) hQR (.string D)).far (p := ⟨w.heap.size, 1, none⟩) hQR (.string P)
    refine wpAnyT_one (i := 4) (by kernel_rfl) rfl (fun K hK => ?_)
    go_simp
    refine hK.out _ _ (fun _ => hH7) ?_
    clear hK K
    try simp only [Act.put, List.setIfInBounds_toArray, List.set_cons_zero, List.set_cons_succ]
    refine wpAnyT_one (i := 5) (by kernel_rfl) rfl (fun K hK => ?_)
    go_simp
    refine hK.out _ _ (fun h9 => absurd rfl h9) ?_
    clear hK K
    try simp only [Act.put, List.setIfInBounds_toArray, List.set_cons_zero, List.set_cons_succ]
    refine wpAnyT_done (by kernel_rfl) ?_ _
    clear r0 r1 s0 s1 hR0 hRl hU0 hUl HRa HUa hH7 hH6 hH
    have hc6 := hcy.mono (j := 0 + 3160) (by omega); have hd6 := hdy; clear hcy hdy
    have S6 := Lib.hid (show w2.heap.size + 0 ≤ wa.heap.size by have h9 := hd6.size; (try simp only [World.size_alloc, World.size_setCell] at h9); omega)
    have NR := Lib.hid (R.out.dg hd6 (show w.heap.size ≠ (w.heap.size + 2) by have := Hgl.out; have := S1.out; have := S2.out; have := S6.out; omega))
    have NU := Lib.hid (U.out.dg hd6 (show w.heap.size + 1 ≠ (w.heap.size + 2) by have := Hgl.out; have := S1.out; have := S2.out; have := S6.out; omega))
    have NQ := Lib.hid (Q.out.dg hd6 (show w1.heap.size ≠ (w.heap.size + 2) by have := Hgl.out; have := S1.out; have := S2.out; have := S6.out; omega))
    have R := NR; clear NR
    have U := NU; clear NU
    have Q := NQ; clear NQ
    have HV := Lib.hid (HV.out.dg hd6 (show (w.heap.size + 2) < (w.heap.size + 3) by have := Hgl.out; have := S1.out; have := S2.out; have := S6.out; omega))
    have Hc6 := Lib.hid (hc6.mono (j := 0 + 3160) (by omega))
    have Hd6 := Lib.hid (Hd2.out.trans hd6)
    clear hc6 hd6
    have HR9 := (show Blk (World.setCell (World.setCell (World.setCell (World.setCell wa ⟨w.heap.size, 0, none⟩ (.string D)) ⟨w.heap.size, 1, none⟩ (.string P)) ⟨w.heap.size + 1, 0, none⟩ (.int .i64 ea)) ⟨w.heap.size + 1, 1, none⟩ (.int .i64 eb)) (w.heap.size) 76 #[.string D, .string P] by have h9 := ((((R.out.set 0 (.string D)).set 1 (.string P)).far (p := ⟨w.heap.size + 1, 0, none⟩) (show w.heap.size ≠ w.heap.size + 1 by have := Hgl.out; have := S1.out; have := S2.out; have := S6.out; omega) (.int .i64 ea)).far (p := ⟨w.heap.size + 1, 1, none⟩) (show w.heap.size ≠ w.heap.size + 1 by have := Hgl.out; have := S1.out; have := S2.out; have := S6.out; omega) (.int .i64 eb)); simpa using h9)
    have HU9 := (show Blk (World.setCell (World.setCell (World.setCell (World.setCell wa ⟨w.heap.size, 0, none⟩ (.string D)) ⟨w.heap.size, 1, none⟩ (.string P)) ⟨w.heap.size + 1, 0, none⟩ (.int .i64 ea)) ⟨w.heap.size + 1, 1, none⟩ (.int .i64 eb)) (w.heap.size + 1) 25 #[.int .i64 ea, .int .i64 eb] by have h9 := ((((U.out.far (p := ⟨w.heap.size, 0, none⟩) (show w.heap.size + 1 ≠ w.heap.size by have := Hgl.out; have := S1.out; have := S2.out; have := S6.out; omega) (.string D)).far (p := ⟨w.heap.size, 1, none⟩) (show w.heap.size + 1 ≠ w.heap.size by have := Hgl.out; have := S1.out; have := S2.out; have := S6.out; omega) (.string P)).set 0 (.int .i64 ea)).set 1 (.int .i64 eb)); simpa using h9)
    have k0 := HR9.cell 0; have k1 := HR9.cell 1; have j0 := HU9.cell 0; have j1 := HU9.cell 1
    simp at k0 k1 j0 j1
    go_wp2
    exact bodyPost_ret (v := .tuple #[.agg #[.string D, .string P], .agg #[.int .i64 ea, .int .i64 eb]]) (by simp [results, Tryz.results64, go_sem, k0, k1, j0, j1]) rfl ⟨⟨D, P, ea, eb, hDP, rfl⟩, ((((Hd6.out.st (p := ⟨w.heap.size, 0, none⟩) (show w.heap.size ≤ w.heap.size by have := Hgl.out; have := S1.out; have := S2.out; have := S6.out; omega) (.string D)).st (p := ⟨w.heap.size, 1, none⟩) (show w.heap.size ≤ w.heap.size by have := Hgl.out; have := S1.out; have := S2.out; have := S6.out; omega) (.string P)).st (p := ⟨w.heap.size + 1, 0, none⟩) (show w.heap.size ≤ w.heap.size + 1 by have := Hgl.out; have := S1.out; have := S2.out; have := S6.out; omega) (.int .i64 ea)).st (p := ⟨w.heap.size + 1, 1, none⟩) (show w.heap.size ≤ w.heap.size + 1 by have := Hgl.out; have := S1.out; have := S2.out; have := S6.out; omega) (.int .i64 eb)).below (by have := S1.out; have := S2.out; have := S6.out; omega) (Nat.le_refl _)⟩
end Go.Proofs.YtimfoodbolokdaaGreatDoor
