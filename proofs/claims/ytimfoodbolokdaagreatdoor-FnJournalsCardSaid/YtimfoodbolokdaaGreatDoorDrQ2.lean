/- The reference's draws of records and journals, out of a slice of bytes. Conditions: a slice of bytes. Printed by gen_drq.py. -/
import Derived.Test.YtimfoodbolokdaaGreatDoorDrQ
import Derived.Test.YtimfoodbolokdaaGreatDoorHeldT
namespace Go.Proofs.YtimfoodbolokdaaGreatDoor
open Go Go.RowKit

theorem Cur.drewQ {w : World} {g k : Nat} (h : Cur w g k) : Cur w.drew g k := h.on (Below.drew (Below.refl _ _))
set_option linter.unusedSimpArgs false in
set_option maxRecDepth 8000 in
set_option maxHeartbeats 16000000 in
theorem drawSeal_any (A : Option Addr) (n c : Nat) (w : World) (hby : BytesAt w w.heap.size A n) :
    Calls Tryz.prog 77 #[.slice A n c] w fun e w' => (∃ k a b lo hi : Int, -1 ≤ k ∧ k ≤ 30 ∧ e = .returned (.tuple #[.int .i64 k, .agg #[.int .i64 a, .int .i64 b, .int .i64 lo, .int .i64 hi]])) ∧ Below w.heap.size w w' := by
  have Hb := Lib.hid hby; clear hby
  have Hgl := Lib.hid (Nat.le_refl w.heap.size)
  have Hd := Lib.hid (Dg.refl (w.heap.size + 1) w)
  go_enter Tryz.func77, Tryz.ntmps77
  go_wp2_with fail
  refine (among_lit (w.heap.size + 1) 0 (w.heap.size + 1 + 1) [-1, 30] (World.alloc (World.alloc w (Obj.cells #[.int .i64 0, .int .i64 0, .int .i64 0, .int .i64 0] 78)) (Obj.cells #[.slice A n c, .int .i64 0, .int .u64 0] 106)) (by simp) (Cur.new1 Hb.out c _) (by simp) (by simp) (by omega)).mono ?_; rintro e w1 ⟨⟨x0, hx0, rfl⟩, hc1, hd1⟩
  have S1 := Lib.hid (show w.heap.size + 3 ≤ w1.heap.size by have h9 := hd1.size; (try simp only [World.size_alloc, World.size_setCell] at h9); omega)
  have NR := Lib.hid ((((Blk.new w 78 #[.int .i64 0, .int .i64 0, .int .i64 0, .int .i64 0]).alloc (Obj.cells #[.slice A n c, .int .i64 0, .int .u64 0] 106)).alloc (Obj.cells #[.int .i64 (-1), .int .i64 30] 3)).dg hd1 (show w.heap.size ≠ (w.heap.size + 1) by have := Hgl.out; have := S1.out; omega))
  have R := NR; clear NR
  have Hc1 := Lib.hid (hc1.mono (j := 0 + 2) (by omega))
  have Hd1 := Lib.hid ((((Hd.out.alloc (Obj.cells #[.int .i64 0, .int .i64 0, .int .i64 0, .int .i64 0] 78)).alloc (Obj.cells #[.slice A n c, .int .i64 0, .int .u64 0] 106)).alloc (Obj.cells #[.int .i64 (-1), .int .i64 30] 3)).trans hd1)
  clear hc1 hd1
  have B0 := Lib.hid (ag2 hx0 (lo := -1) (hi := 30) (by simp))
  clear hx0
  go_wp2_with fail
  refine (among_lit (w.heap.size + 1) (0 + 2) (w1.heap.size) [0, 1, 9, 10, 29, x0] w1 (by simp) Hc1.out (by simp) (by simp) (by omega)).mono ?_; rintro e w2 ⟨⟨x1, hx1, rfl⟩, hc2, hd2⟩
  have S2 := Lib.hid (show w1.heap.size + 1 ≤ w2.heap.size by have h9 := hd2.size; (try simp only [World.size_alloc, World.size_setCell] at h9); omega)
  have NR := Lib.hid ((R.out.alloc _).dg hd2 (show w.heap.size ≠ (w.heap.size + 1) by have := Hgl.out; have := S1.out; have := S2.out; omega))
  have R := NR; clear NR
  have Hc2 := Lib.hid (hc2.mono (j := 0 + 4) (by omega))
  have Hd2 := Lib.hid ((Hd1.out.alloc _).trans hd2)
  clear hc2 hd2
  have B1 := Lib.hid (ag2 hx1 (lo := -1) (hi := 30) (by have := B0.out; simp; omega))
  clear hx1
  go_wp2_with fail
  refine (record_any (w.heap.size + 1) (0 + 4) _ Hc2.out (by omega)).mono ?_; rintro e w3 ⟨⟨a, b, lo, hi, rfl⟩, hc3, hd3⟩
  have S3 := Lib.hid (show w2.heap.size + 0 ≤ w3.heap.size by have h9 := hd3.size; (try simp only [World.size_alloc, World.size_setCell] at h9); omega)
  have NR := Lib.hid (R.out.dg hd3 (show w.heap.size ≠ (w.heap.size + 1) by have := Hgl.out; have := S1.out; have := S2.out; have := S3.out; omega))
  have R := NR; clear NR
  have Hc3 := Lib.hid (hc3.mono (j := 0 + 64) (by omega))
  have Hd3 := Lib.hid (Hd2.out.trans hd3)
  clear hc3 hd3
  have qR0 := R.out.cell 0
  have qR1 := R.out.cell 1
  have qR2 := R.out.cell 2
  have qR3 := R.out.cell 3
  simp at qR0 qR1 qR2 qR3
  have qRl := R.out.lt
  have qRf := R.out.frozen
  go_wp2
  clear qR0 qR1 qR2 qR3 qRl qRf
  have HR9 := (show Blk (World.setCell (World.setCell (World.setCell (World.setCell w3 ⟨w.heap.size, 0, none⟩ (.int .i64 a)) ⟨w.heap.size, 1, none⟩ (.int .i64 b)) ⟨w.heap.size, 2, none⟩ (.int .i64 lo)) ⟨w.heap.size, 3, none⟩ (.int .i64 hi)) (w.heap.size) 78 #[.int .i64 a, .int .i64 b, .int .i64 lo, .int .i64 hi] by have h9 := ((((R.out.set 0 (.int .i64 a)).set 1 (.int .i64 b)).set 2 (.int .i64 lo)).set 3 (.int .i64 hi)); simpa using h9)
  have k0 := HR9.cell 0
  have k1 := HR9.cell 1
  have k2 := HR9.cell 2
  have k3 := HR9.cell 3
  simp at k0 k1 k2 k3
  exact bodyPost_ret (v := .tuple #[.int .i64 x1, .agg #[.int .i64 a, .int .i64 b, .int .i64 lo, .int .i64 hi]]) (by simp [results, Tryz.results77, go_sem, k0, k1, k2, k3]) rfl ⟨⟨x1, a, b, lo, hi, B1.out.1, B1.out.2, rfl⟩, ((((Hd3.out.st (p := ⟨w.heap.size, 0, none⟩) (show w.heap.size ≤ w.heap.size by have := Hgl.out; have := S1.out; have := S2.out; have := S3.out; omega) (.int .i64 a)).st (p := ⟨w.heap.size, 1, none⟩) (show w.heap.size ≤ w.heap.size by have := Hgl.out; have := S1.out; have := S2.out; have := S3.out; omega) (.int .i64 b)).st (p := ⟨w.heap.size, 2, none⟩) (show w.heap.size ≤ w.heap.size by have := Hgl.out; have := S1.out; have := S2.out; have := S3.out; omega) (.int .i64 lo)).st (p := ⟨w.heap.size, 3, none⟩) (show w.heap.size ≤ w.heap.size by have := Hgl.out; have := S1.out; have := S2.out; have := S3.out; omega) (.int .i64 hi)).below (by have := S1.out; have := S2.out; have := S3.out; omega) (Nat.le_refl _)⟩
set_option linter.unusedSimpArgs false in
set_option maxRecDepth 8000 in
set_option maxHeartbeats 16000000 in
theorem drawIsJournal_any (A : Option Addr) (n c : Nat) (w : World) (hby : BytesAt w w.heap.size A n) :
    Calls Tryz.prog 143 #[.slice A n c] w fun e w' => (∃ D P : ByteArray, D.size + P.size ≤ 3000 ∧ e = .returned (.agg #[.string D, .string P])) ∧ Below w.heap.size w w' := by
  have Hb := Lib.hid hby; clear hby
  have Hgl := Lib.hid (Nat.le_refl w.heap.size)
  have Hd := Lib.hid (Dg.refl (w.heap.size + 1) w)
  go_enter Tryz.func143, Tryz.ntmps143
  go_wp2_with fail
  refine (anyJournal_any (w.heap.size + 1) 0 _ (Cur.new1 Hb.out c _) (by omega)).mono ?_; rintro e w1 ⟨⟨D, P, hDP, rfl⟩, hc1, hd1⟩
  have S1 := Lib.hid (show w.heap.size + 2 ≤ w1.heap.size by have h9 := hd1.size; (try simp only [World.size_alloc, World.size_setCell] at h9); omega)
  have NR := Lib.hid (((Blk.new w 76 #[.string (⟨#[]⟩ : ByteArray), .string (⟨#[]⟩ : ByteArray)]).alloc (Obj.cells #[.slice A n c, .int .i64 0, .int .u64 0] 106)).dg hd1 (show w.heap.size ≠ (w.heap.size + 1) by have := Hgl.out; have := S1.out; omega))
  have R := NR; clear NR
  have Hc1 := Lib.hid (hc1.mono (j := 0 + 3100) (by omega))
  have Hd1 := Lib.hid (((Hd.out.alloc (Obj.cells #[.string (⟨#[]⟩ : ByteArray), .string (⟨#[]⟩ : ByteArray)] 76)).alloc (Obj.cells #[.slice A n c, .int .i64 0, .int .u64 0] 106)).trans hd1)
  clear hc1 hd1
  have qR0 := R.out.cell 0
  have qR1 := R.out.cell 1
  simp at qR0 qR1
  have qRl := R.out.lt
  have qRf := R.out.frozen
  go_wp2
  clear qR0 qR1 qRl qRf
  have HR9 := (show Blk (World.setCell (World.setCell w1 ⟨w.heap.size, 0, none⟩ (.string D)) ⟨w.heap.size, 1, none⟩ (.string P)) (w.heap.size) 76 #[.string D, .string P] by have h9 := ((R.out.set 0 (.string D)).set 1 (.string P)); simpa using h9)
  have k0 := HR9.cell 0
  have k1 := HR9.cell 1
  simp at k0 k1
  exact bodyPost_ret (v := .agg #[.string D, .string P]) (by simp [results, Tryz.results143, go_sem, k0, k1]) rfl ⟨⟨D, P, hDP, rfl⟩, ((Hd1.out.st (p := ⟨w.heap.size, 0, none⟩) (show w.heap.size ≤ w.heap.size by have := Hgl.out; have := S1.out; omega) (.string D)).st (p := ⟨w.heap.size, 1, none⟩) (show w.heap.size ≤ w.heap.size by have := Hgl.out; have := S1.out; omega) (.string P)).below (by have := S1.out; omega) (Nat.le_refl _)⟩
set_option linter.unusedSimpArgs false in
set_option maxRecDepth 8000 in
set_option maxHeartbeats 16000000 in
theorem drawCompact_any (A : Option Addr) (n c : Nat) (w : World) (hby : BytesAt w w.heap.size A n) :
    Calls Tryz.prog 59 #[.slice A n c] w fun e w' => (∃ D P : ByteArray, D.size + P.size ≤ 3000 ∧ e = .returned (.agg #[.string D, .string P])) ∧ Below w.heap.size w w' := by
  have Hb := Lib.hid hby; clear hby
  go_enter Tryz.func59, Tryz.ntmps59
  go_wp2_with fail
  refine (drawIsJournal_any A n c _ (Hb.out.on (bal (Below.refl _ _) _))).mono ?_; rintro e w1 ⟨⟨D, P, hDP, rfl⟩, hb1⟩
  have R := Lib.hid ((Blk.new w 76 #[.string (⟨#[]⟩ : ByteArray), .string (⟨#[]⟩ : ByteArray)]).on hb1)
  have q0 := R.out.cell 0; have q1 := R.out.cell 1; have ql := R.out.lt; have qf := R.out.frozen
  simp at q0 q1
  have Hb1 := Lib.hid (bthen (bal (Below.refl _ _) _) hb1); clear hb1
  go_wp2
  have HR9 := R.out.set2 (b0 := .string D) (b1 := .string P)
  have k0 := HR9.cell 0; have k1 := HR9.cell 1
  simp at k0 k1
  exact bodyPost_ret (v := .agg #[.string D, .string P]) (by simp [results, Tryz.results59, go_sem, k0, k1]) rfl ⟨⟨D, P, hDP, rfl⟩, bst (bst Hb1.out (Nat.le_refl _) _) (Nat.le_refl _) _⟩
set_option linter.unusedSimpArgs false in
set_option maxRecDepth 8000 in
set_option maxHeartbeats 16000000 in
theorem drawAppend_any (A : Option Addr) (n c : Nat) (w : World) (hby : BytesAt w w.heap.size A n) :
    Calls Tryz.prog 52 #[.slice A n c] w fun e w' => (∃ (D P : ByteArray) (a b lo hi : Int), D.size + P.size ≤ 3000 ∧ e = .returned (.tuple #[.agg #[.string D, .string P], .agg #[.int .i64 a, .int .i64 b, .int .i64 lo, .int .i64 hi]])) ∧ Below w.heap.size w w' := by
  have Hb := Lib.hid hby; clear hby
  have Hgl := Lib.hid (Nat.le_refl w.heap.size)
  have Hd := Lib.hid (Dg.refl (w.heap.size + 2) w)
  go_enter Tryz.func52, Tryz.ntmps52
  go_wp2_with fail
  refine (anyJournal_any (w.heap.size + 2) 0 _ (Cur.new2 Hb.out c _ _) (by omega)).mono ?_; rintro e w1 ⟨⟨D, P, hDP, rfl⟩, hc1, hd1⟩
  have S1 := Lib.hid (show w.heap.size + 3 ≤ w1.heap.size by have h9 := hd1.size; (try simp only [World.size_alloc, World.size_setCell] at h9); omega)
  have NR := Lib.hid ((((Blk.new w 76 #[.string (⟨#[]⟩ : ByteArray), .string (⟨#[]⟩ : ByteArray)]).alloc (Obj.cells #[.int .i64 0, .int .i64 0, .int .i64 0, .int .i64 0] 78)).alloc (Obj.cells #[.slice A n c, .int .i64 0, .int .u64 0] 106)).dg hd1 (show w.heap.size ≠ (w.heap.size + 2) by have := Hgl.out; have := S1.out; omega))
  have NQ := Lib.hid (((show Blk (World.alloc (World.alloc w (Obj.cells #[.string (⟨#[]⟩ : ByteArray), .string (⟨#[]⟩ : ByteArray)] 76)) (Obj.cells #[.int .i64 0, .int .i64 0, .int .i64 0, .int .i64 0] 78)) (w.heap.size + 1) 78 #[.int .i64 0, .int .i64 0, .int .i64 0, .int .i64 0] by have h9 := (Blk.new (World.alloc w (Obj.cells #[.string (⟨#[]⟩ : ByteArray), .string (⟨#[]⟩ : ByteArray)] 76)) 78 #[.int .i64 0, .int .i64 0, .int .i64 0, .int .i64 0]); (try simp only [World.size_alloc, World.size_setCell] at h9); exact h9).alloc (Obj.cells #[.slice A n c, .int .i64 0, .int .u64 0] 106)).dg hd1 (show w.heap.size + 1 ≠ (w.heap.size + 2) by have := Hgl.out; have := S1.out; omega))
  have R := NR; clear NR
  have Q := NQ; clear NQ
  have Hc1 := Lib.hid (hc1.mono (j := 0 + 3100) (by omega))
  have Hd1 := Lib.hid ((((Hd.out.alloc (Obj.cells #[.string (⟨#[]⟩ : ByteArray), .string (⟨#[]⟩ : ByteArray)] 76)).alloc (Obj.cells #[.int .i64 0, .int .i64 0, .int .i64 0, .int .i64 0] 78)).alloc (Obj.cells #[.slice A n c, .int .i64 0, .int .u64 0] 106)).trans hd1)
  clear hc1 hd1
  go_wp2_with fail
  refine (record_any (w.heap.size + 2) (0 + 3100) _ Hc1.out (by omega)).mono ?_; rintro e w2 ⟨⟨a, b, lo, hi, rfl⟩, hc2, hd2⟩
  have S2 := Lib.hid (show w1.heap.size + 0 ≤ w2.heap.size by have h9 := hd2.size; (try simp only [World.size_alloc, World.size_setCell] at h9); omega)
  have NR := Lib.hid (R.out.dg hd2 (show w.heap.size ≠ (w.heap.size + 2) by have := Hgl.out; have := S1.out; have := S2.out; omega))
  have NQ := Lib.hid (Q.out.dg hd2 (show w.heap.size + 1 ≠ (w.heap.size + 2) by have := Hgl.out; have := S1.out; have := S2.out; omega))
  have R := NR; clear NR
  have Q := NQ; clear NQ
  have Hc2 := Lib.hid (hc2.mono (j := 0 + 3160) (by omega))
  have Hd2 := Lib.hid (Hd1.out.trans hd2)
  clear hc2 hd2
  have qR0 := R.out.cell 0
  have qR1 := R.out.cell 1
  simp at qR0 qR1
  have qRl := R.out.lt
  have qRf := R.out.frozen
  have qQ0 := Q.out.cell 0
  have qQ1 := Q.out.cell 1
  have qQ2 := Q.out.cell 2
  have qQ3 := Q.out.cell 3
  simp at qQ0 qQ1 qQ2 qQ3
  have qQl := Q.out.lt
  have qQf := Q.out.frozen
  have nQR : w.heap.size + 1 ≠ w.heap.size := by have := Hgl.out; have := S1.out; have := S2.out; omega
  have nRQ : w.heap.size ≠ w.heap.size + 1 := fun e => nQR e.symm
  go_wp2
  clear qR0 qR1 qRl qRf qQ0 qQ1 qQ2 qQ3 qQl qQf nQR nRQ
  have HR9 := (show Blk (World.setCell (World.setCell (World.setCell (World.setCell (World.setCell (World.setCell w2 ⟨w.heap.size, 0, none⟩ (.string D)) ⟨w.heap.size, 1, none⟩ (.string P)) ⟨w.heap.size + 1, 0, none⟩ (.int .i64 a)) ⟨w.heap.size + 1, 1, none⟩ (.int .i64 b)) ⟨w.heap.size + 1, 2, none⟩ (.int .i64 lo)) ⟨w.heap.size + 1, 3, none⟩ (.int .i64 hi)) (w.heap.size) 76 #[.string D, .string P] by have h9 := ((((((R.out.set 0 (.string D)).set 1 (.string P)).far (p := ⟨w.heap.size + 1, 0, none⟩) (show w.heap.size ≠ w.heap.size + 1 by have := Hgl.out; have := S1.out; have := S2.out; omega) (.int .i64 a)).far (p := ⟨w.heap.size + 1, 1, none⟩) (show w.heap.size ≠ w.heap.size + 1 by have := Hgl.out; have := S1.out; have := S2.out; omega) (.int .i64 b)).far (p := ⟨w.heap.size + 1, 2, none⟩) (show w.heap.size ≠ w.heap.size + 1 by have := Hgl.out; have := S1.out; have := S2.out; omega) (.int .i64 lo)).far (p := ⟨w.heap.size + 1, 3, none⟩) (show w.heap.size ≠ w.heap.size + 1 by have := Hgl.out; have := S1.out; have := S2.out; omega) (.int .i64 hi)); simpa using h9)
  have HQ9 := (show Blk (World.setCell (World.setCell (World.setCell (World.setCell (World.setCell (World.setCell w2 ⟨w.heap.size, 0, none⟩ (.string D)) ⟨w.heap.size, 1, none⟩ (.string P)) ⟨w.heap.size + 1, 0, none⟩ (.int .i64 a)) ⟨w.heap.size + 1, 1, none⟩ (.int .i64 b)) ⟨w.heap.size + 1, 2, none⟩ (.int .i64 lo)) ⟨w.heap.size + 1, 3, none⟩ (.int .i64 hi)) (w.heap.size + 1) 78 #[.int .i64 a, .int .i64 b, .int .i64 lo, .int .i64 hi] by have h9 := ((((((Q.out.far (p := ⟨w.heap.size, 0, none⟩) (show w.heap.size + 1 ≠ w.heap.size by have := Hgl.out; have := S1.out; have := S2.out; omega) (.string D)).far (p := ⟨w.heap.size, 1, none⟩) (show w.heap.size + 1 ≠ w.heap.size by have := Hgl.out; have := S1.out; have := S2.out; omega) (.string P)).set 0 (.int .i64 a)).set 1 (.int .i64 b)).set 2 (.int .i64 lo)).set 3 (.int .i64 hi)); simpa using h9)
  have k0 := HR9.cell 0; have k1 := HR9.cell 1; have j0 := HQ9.cell 0; have j1 := HQ9.cell 1; have j2 := HQ9.cell 2; have j3 := HQ9.cell 3
  simp at k0 k1 j0 j1 j2 j3
  exact bodyPost_ret (v := .tuple #[.agg #[.string D, .string P], .agg #[.int .i64 a, .int .i64 b, .int .i64 lo, .int .i64 hi]]) (by simp [results, Tryz.results52, go_sem, k0, k1, j0, j1, j2, j3]) rfl ⟨⟨D, P, a, b, lo, hi, hDP, rfl⟩, ((((((Hd2.out.st (p := ⟨w.heap.size, 0, none⟩) (show w.heap.size ≤ w.heap.size by have := Hgl.out; have := S1.out; have := S2.out; omega) (.string D)).st (p := ⟨w.heap.size, 1, none⟩) (show w.heap.size ≤ w.heap.size by have := Hgl.out; have := S1.out; have := S2.out; omega) (.string P)).st (p := ⟨w.heap.size + 1, 0, none⟩) (show w.heap.size ≤ w.heap.size + 1 by have := Hgl.out; have := S1.out; have := S2.out; omega) (.int .i64 a)).st (p := ⟨w.heap.size + 1, 1, none⟩) (show w.heap.size ≤ w.heap.size + 1 by have := Hgl.out; have := S1.out; have := S2.out; omega) (.int .i64 b)).st (p := ⟨w.heap.size + 1, 2, none⟩) (show w.heap.size ≤ w.heap.size + 1 by have := Hgl.out; have := S1.out; have := S2.out; omega) (.int .i64 lo)).st (p := ⟨w.heap.size + 1, 3, none⟩) (show w.heap.size ≤ w.heap.size + 1 by have := Hgl.out; have := S1.out; have := S2.out; omega) (.int .i64 hi)).below (by have := S1.out; have := S2.out; omega) (Nat.le_refl _)⟩
set_option linter.unusedSimpArgs false in
set_option maxRecDepth 8000 in
set_option maxHeartbeats 16000000 in
theorem drawCrash_any (A : Option Addr) (n c : Nat) (w : World) (hby : BytesAt w w.heap.size A n) :
    Calls Tryz.prog 71 #[.slice A n c] w fun e w' => (∃ (D P : ByteArray) (k : Int) (tn : Bool), D.size + P.size ≤ 3000 ∧ -1 ≤ k ∧ k ≤ 3002 ∧ e = .returned (.tuple #[.agg #[.string D, .string P], .int .i64 k, .bool tn])) ∧ Below w.heap.size w w' := by
  have Hb := Lib.hid hby; clear hby
  have Hgl := Lib.hid (Nat.le_refl w.heap.size)
  have Hd := Lib.hid (Dg.refl (w.heap.size + 1) w)
  go_enter Tryz.func71, Tryz.ntmps71
  go_wp2_with fail
  refine (anyJournal_any (w.heap.size + 1) 0 _ (Cur.new1 Hb.out c _) (by omega)).mono ?_; rintro e w1 ⟨⟨D, P, hDP, rfl⟩, hc1, hd1⟩
  have S1 := Lib.hid (show w.heap.size + 2 ≤ w1.heap.size by have h9 := hd1.size; (try simp only [World.size_alloc, World.size_setCell] at h9); omega)
  have NR := Lib.hid (((Blk.new w 76 #[.string (⟨#[]⟩ : ByteArray), .string (⟨#[]⟩ : ByteArray)]).alloc (Obj.cells #[.slice A n c, .int .i64 0, .int .u64 0] 106)).dg hd1 (show w.heap.size ≠ (w.heap.size + 1) by have := Hgl.out; have := S1.out; omega))
  have R := NR; clear NR
  have Hc1 := Lib.hid (hc1.mono (j := 0 + 3100) (by omega))
  have Hd1 := Lib.hid (((Hd.out.alloc (Obj.cells #[.string (⟨#[]⟩ : ByteArray), .string (⟨#[]⟩ : ByteArray)] 76)).alloc (Obj.cells #[.slice A n c, .int .i64 0, .int .u64 0] 106)).trans hd1)
  clear hc1 hd1
  have hD0 : D.size ≤ 3000 := by omega
  have hP0 : P.size ≤ 3000 := by omega
  go_wp2_with fail
  obtain ⟨w2, hw2⟩ : ∃ w9, (World.alloc w1 (Obj.cells #[.string D, .string P] 76)) = w9 := ⟨_, rfl⟩
  have hd2 : Below (World.alloc w1 (Obj.cells #[.string D, .string P] 76)).heap.size (World.alloc w1 (Obj.cells #[.string D, .string P] 76)) w2 := by rw [← hw2]; exact Below.refl _ _
  rw [hw2]
  have S2 := Lib.hid (show w1.heap.size + 1 ≤ w2.heap.size by have h9 := hd2.size; (try simp only [World.size_alloc, World.size_setCell] at h9); omega)
  have NR := Lib.hid ((R.out.alloc _).dg (Dg.of_below (g := (w.heap.size + 1)) hd2) (show w.heap.size ≠ (w.heap.size + 1) by have := Hgl.out; have := S1.out; have := S2.out; omega))
  have NQ := Lib.hid ((Blk.new w1 76 #[.string D, .string P]).dg (Dg.of_below (g := (w.heap.size + 1)) hd2) (show w1.heap.size ≠ (w.heap.size + 1) by have := Hgl.out; have := S1.out; have := S2.out; omega))
  have R := NR; clear NR
  have Q := NQ; clear NQ
  have Hc2 := Lib.hid ((Hc1.out.alloc _).on hd2)
  have Hd2 := Lib.hid ((Hd1.out.alloc _).trans (Dg.of_below (g := (w.heap.size + 1)) hd2))
  clear hd2
  clear hw2
  have hQg : w1.heap.size ≠ (w.heap.size + 1) := by have := Hgl.out; have := S1.out; have := S2.out; omega
  have hRg : w.heap.size ≠ (w.heap.size + 1) := by omega
  have hQR : w1.heap.size ≠ w.heap.size := by have := Hgl.out; have := S1.out; have := S2.out; omega
  have hw1 : IntKind.i64.wrap ((P.size : Int) + 3) = (P.size : Int) + 3 := by rw [IntKind.wrap_i64]; omega
  refine wp_region_heldT (z := 12) (S := fun w' => Blk w' (w1.heap.size) 76 #[.string D, .string P]) (by kernel_rfl) Q.out.drew (fun hH => ?_)
  refine wpAnyT_take (i := 0) (v := .agg #[.string D, .string P]) rfl (by kernel_rfl) (by kernel_rfl) (by kernel_rfl) (by kernel_rfl) (fun _ _ _ h => h) (Or.inl ⟨by rfl, ?_⟩) hH ?_
  · intro w hw; have f0 := hw.cell 0; have f1 := hw.cell 1; simp at f0 f1; go_simp
  try simp only [Act.put, List.setIfInBounds_toArray, List.set_cons_zero, List.set_cons_succ]
  refine wpAnyT_take (i := 1) (v := .pointer (some ⟨(w.heap.size + 1), 0, none⟩)) rfl (by kernel_rfl) (by kernel_rfl) (by kernel_rfl) (by kernel_rfl) (fun _ _ _ h => h) (Or.inl ⟨by rfl, ?_⟩) hH ?_
  · intro w _; go_simp
  try simp only [Act.put, List.setIfInBounds_toArray, List.set_cons_zero, List.set_cons_succ]
  refine wpAnyT_take (i := 2) (v := .pointer (some ⟨w1.heap.size, 1, none⟩)) rfl (by kernel_rfl) (by kernel_rfl) (by kernel_rfl) (by kernel_rfl) (fun _ _ _ h => h) (Or.inl ⟨by rfl, ?_⟩) hH ?_
  · intro w _; go_simp
  try simp only [Act.put, List.setIfInBounds_toArray, List.set_cons_zero, List.set_cons_succ]
  refine wpAnyT_take (i := 3) (v := .string P) rfl (by kernel_rfl) (by kernel_rfl) (by kernel_rfl) (by kernel_rfl) (fun _ _ _ h => h) (Or.inl ⟨by rfl, ?_⟩) hH ?_
  · intro w hw; have f0 := hw.cell 0; have f1 := hw.cell 1; simp at f0 f1; go_simp
  try simp only [Act.put, List.setIfInBounds_toArray, List.set_cons_zero, List.set_cons_succ]
  refine wpAnyT_take (i := 4) (v := .int .i64 (P.size : Int)) rfl (by kernel_rfl) (by kernel_rfl) (by kernel_rfl) (by kernel_rfl) (fun _ _ _ h => h) (Or.inl ⟨by rfl, ?_⟩) hH ?_
  · intro w _; go_simp
  try simp only [Act.put, List.setIfInBounds_toArray, List.set_cons_zero, List.set_cons_succ]
  refine wpAnyT_take (i := 5) (v := .int .i64 ((P.size : Int) + 3)) rfl (by kernel_rfl) (by kernel_rfl) (by kernel_rfl) (by kernel_rfl) (fun _ _ _ h => h) (Or.inl ⟨by rfl, ?_⟩) hH ?_
  · intro w _; go_simp
  try simp only [Act.put, List.setIfInBounds_toArray, List.set_cons_zero, List.set_cons_succ]
  refine wpAnyT_take (i := 8) (v := .pointer (some ⟨(w.heap.size + 1), 0, none⟩)) rfl (by kernel_rfl) (by kernel_rfl) (by kernel_rfl) (by kernel_rfl) (fun _ _ _ h => h) (Or.inl ⟨by rfl, ?_⟩) hH ?_
  · intro w _; go_simp
  try simp only [Act.put, List.setIfInBounds_toArray, List.set_cons_zero, List.set_cons_succ]
  refine wpAnyT_one (i := 6) (by kernel_rfl) rfl (fun K hK => ?_)
  go_simp
  refine (pick_any (w.heap.size + 1) (0 + 3100) ((P.size : Int) + 3) _ (Cur.drewQ Hc2.out) (by omega)).mono ?_
  rintro e8 wp ⟨⟨x, hx0, hx1, rfl⟩, hcx, hdx⟩
  go_wp2_with fail
  have hH3 := hH.dg hdx hQg
  refine hK.out _ _ (fun _ => hH3) ?_
  clear hK K
  try simp only [Act.put, List.setIfInBounds_toArray, List.set_cons_zero, List.set_cons_succ]
  have hx2 : x < (P.size : Int) + 3 := by omega
  clear hx1
  have hw2 : IntKind.i64.wrap (x - 1) = x - 1 := by rw [IntKind.wrap_i64]; omega
  refine wpAnyT_take (i := 7) (v := .int .i64 (x - 1)) rfl (by kernel_rfl) (by kernel_rfl) (by kernel_rfl) (by kernel_rfl) (fun _ _ _ h => h) (Or.inl ⟨by rfl, ?_⟩) hH3 ?_
  · intro w _; go_simp
  try simp only [Act.put, List.setIfInBounds_toArray, List.set_cons_zero, List.set_cons_succ]
  refine wpAnyT_one (i := 9) (by kernel_rfl) rfl (fun K hK => ?_)
  go_simp
  refine (one_any (w.heap.size + 1) ((0 + 3100) + 2) 2 _ hcx (by omega)).mono ?_
  rintro e8 wa ⟨⟨o, rfl⟩, hcy, hdy⟩
  go_wp2_with fail
  have hH6 := hH3.dg hdy hQg
  refine hK.out _ _ (fun _ => hH6) ?_
  clear hK K
  try simp only [Act.put, List.setIfInBounds_toArray, List.set_cons_zero, List.set_cons_succ]
  replace hdy := ((Dg.drew (Dg.refl (w.heap.size + 1) w2)).trans hdx).trans hdy
  have HRa := R.out.dg hdy hRg
  have hR0 := HRa.frozen; have hRl := HRa.lt; have r0 := HRa.cell 0; have r1 := HRa.cell 1
  simp at r0 r1
  have hH7 := (hH6.far (p := ⟨w.heap.size, 0, none⟩) hQR (.string D)).far (p := ⟨w.heap.size, 1, none⟩) hQR (.string P)
  refine wpAnyT_one (i := 10) (by kernel_rfl) rfl (fun K hK => ?_)
  go_simp
  refine hK.out _ _ (fun _ => hH7) ?_
  clear hK K
  try simp only [Act.put, List.setIfInBounds_toArray, List.set_cons_zero, List.set_cons_succ]
  refine wpAnyT_one (i := 11) (by kernel_rfl) rfl (fun K hK => ?_)
  go_simp
  refine hK.out _ _ (fun _ => hH7) ?_
  clear hK K
  try simp only [Act.put, List.setIfInBounds_toArray, List.set_cons_zero, List.set_cons_succ]
  refine wpAnyT_one (i := 12) (by kernel_rfl) rfl (fun K hK => ?_)
  go_simp
  refine hK.out _ _ (fun h9 => absurd rfl h9) ?_
  clear hK K
  try simp only [Act.put, List.setIfInBounds_toArray, List.set_cons_zero, List.set_cons_succ]
  refine wpAnyT_done (by kernel_rfl) ?_ _
  clear r0 r1 hR0 hRl HRa hH7 hH6 hH3 hH
  have hc3 := hcy.mono (j := 0 + 3104) (by omega); have hd3 := hdy; clear hcy hdy hcx hdx
  have S3 := Lib.hid (show w2.heap.size + 0 ≤ wa.heap.size by have h9 := hd3.size; (try simp only [World.size_alloc, World.size_setCell] at h9); omega)
  have NR := Lib.hid (R.out.dg hd3 (show w.heap.size ≠ (w.heap.size + 1) by have := Hgl.out; have := S1.out; have := S2.out; have := S3.out; omega))
  have NQ := Lib.hid (Q.out.dg hd3 (show w1.heap.size ≠ (w.heap.size + 1) by have := Hgl.out; have := S1.out; have := S2.out; have := S3.out; omega))
  have R := NR; clear NR
  have Q := NQ; clear NQ
  have Hc3 := Lib.hid (hc3.mono (j := 0 + 3104) (by omega))
  have Hd3 := Lib.hid (Hd2.out.trans hd3)
  clear hc3 hd3
  have HR9 := (show Blk (World.setCell (World.setCell wa ⟨w.heap.size, 0, none⟩ (.string D)) ⟨w.heap.size, 1, none⟩ (.string P)) (w.heap.size) 76 #[.string D, .string P] by have h9 := ((R.out.set 0 (.string D)).set 1 (.string P)); simpa using h9)
  have k0 := HR9.cell 0; have k1 := HR9.cell 1
  simp at k0 k1
  go_wp2
  exact bodyPost_ret (v := .tuple #[.agg #[.string D, .string P], .int .i64 (x - 1), .bool o]) (by simp [results, Tryz.results71, go_sem, k0, k1]) rfl ⟨⟨D, P, x - 1, o, hDP, by omega, by omega, rfl⟩, ((Hd3.out.st (p := ⟨w.heap.size, 0, none⟩) (show w.heap.size ≤ w.heap.size by have := Hgl.out; have := S1.out; have := S2.out; have := S3.out; omega) (.string D)).st (p := ⟨w.heap.size, 1, none⟩) (show w.heap.size ≤ w.heap.size by have := Hgl.out; have := S1.out; have := S2.out; have := S3.out; omega) (.string P)).below (by have := S1.out; have := S2.out; have := S3.out; omega) (Nat.le_refl _)⟩
def strLen : Value → Nat | .string s => s.size | _ => 0
set_option linter.unusedSimpArgs false in
set_option maxRecDepth 8000 in
set_option maxHeartbeats 16000000 in
theorem drawRecover_any (A : Option Addr) (n c : Nat) (w : World) (hby : BytesAt w w.heap.size A n) :
    Calls Tryz.prog 74 #[.slice A n c] w fun e w' => (∃ s : ByteArray, s.size ≤ 5000 ∧ e = .returned (.string s)) ∧ Below w.heap.size w w' := by
  have Hb := Lib.hid hby; clear hby
  have Hgl := Lib.hid (Nat.le_refl w.heap.size)
  have Hd := Lib.hid (Dg.refl w.heap.size w)
  go_enter Tryz.func74, Tryz.ntmps74
  go_wp2_with fail
  refine (journal_any w.heap.size 0 _ (Cur.new0 Hb.out c) (by omega)).mono ?_; rintro e w1 ⟨⟨D, P, hDP, rfl⟩, hc1, hd1⟩
  have S1 := Lib.hid (show w.heap.size + 1 ≤ w1.heap.size by have h9 := hd1.size; (try simp only [World.size_alloc, World.size_setCell] at h9); omega)
  have Hc1 := Lib.hid (hc1.mono (j := 0 + 3000) (by omega))
  have Hd1 := Lib.hid ((Hd.out.alloc _).trans hd1)
  clear hc1 hd1
  have hD0 : D.size ≤ 1240 := by omega
  have hP0 : P.size ≤ 1240 := by omega
  go_wp2_with fail
  refine (pick_any w.heap.size (0 + 3000) (5) _ (Hc1.out.alloc _) (by omega)).mono ?_; rintro e w2 ⟨⟨x, lx, ux, rfl⟩, hc2, hd2⟩
  have S2 := Lib.hid (show w1.heap.size + 1 ≤ w2.heap.size by have h9 := hd2.size; (try simp only [World.size_alloc, World.size_setCell] at h9); omega)
  have NJ := Lib.hid ((Blk.new w1 76 #[.string D, .string P]).dg hd2 (show w1.heap.size ≠ w.heap.size by have := Hgl.out; have := S1.out; have := S2.out; omega))
  have J := NJ; clear NJ
  have Hc2 := Lib.hid (hc2.mono (j := 0 + 3002) (by omega))
  have Hd2 := Lib.hid ((Hd1.out.alloc _).trans hd2)
  clear hc2 hd2
  have hsz : (D ++ P).size ≤ 1240 := by rw [ByteArray.size_append]; omega
  generalize D ++ P = s at hsz ⊢
  clear hDP hD0 hP0
  have hs0 : (0 : Int) ≤ (s.size : Int) := by omega
  by_cases ex0 : x = 0
  · have zx0 : (x == 0) = true := by rw [ex0]; rfl
    clear ex0
    go_wp2_with fail
    refine (spoilt_any w.heap.size (0 + 3002) s ⟨#[35, 48, 49, 57, 32, 10]⟩ _ Hc2.out (by omega) (by decide) (by decide) (by omega)).mono ?_; rintro e w3 ⟨⟨s2, hs2, rfl⟩, hc3, hd3⟩
    have S3 := Lib.hid (show w2.heap.size + 0 ≤ w3.heap.size by have h9 := hd3.size; (try simp only [World.size_alloc, World.size_setCell] at h9); omega)
    have NJ := Lib.hid (J.out.dg hd3 (show w1.heap.size ≠ w.heap.size by have := Hgl.out; have := S1.out; have := S2.out; have := S3.out; omega))
    have J := NJ; clear NJ
    have Hc3 := Lib.hid (hc3.mono (j := 0 + 3022) (by omega))
    have Hd3 := Lib.hid (Hd2.out.trans hd3)
    clear hc3 hd3
    go_wp2
    go_ret
    exact ⟨⟨s2, by omega, rfl⟩, Hd3.out.below (by have := S1.out; have := S2.out; have := S3.out; omega) (Nat.le_refl _)⟩
  · by_cases ex1 : x = 1
    · have zx1 : (x == 1) = true := by rw [ex1]; rfl
      have zx0 : (x == 0) = false := by rw [ex1]; rfl
      clear ex0 ex1
      have hs1 : (s.size : Int) + 1 ≤ 2000 := by omega
      go_wp2_with fail
      refine (pick_any w.heap.size (0 + 3002) (((s.size : Int) + 1)) _ Hc2.out (by omega)).mono ?_; rintro e w4 ⟨⟨p, lp, up, rfl⟩, hc4, hd4⟩
      have S4 := Lib.hid (show w2.heap.size + 0 ≤ w4.heap.size by have h9 := hd4.size; (try simp only [World.size_alloc, World.size_setCell] at h9); omega)
      have NJ := Lib.hid (J.out.dg hd4 (show w1.heap.size ≠ w.heap.size by have := Hgl.out; have := S1.out; have := S2.out; have := S4.out; omega))
      have J := NJ; clear NJ
      have Hc4 := Lib.hid (hc4.mono (j := 0 + 3004) (by omega))
      have Hd4 := Lib.hid (Hd2.out.trans hd4)
      clear hc4 hd4
      have hp1 : p ≤ (s.size : Int) := by omega
      clear up
      go_wp2
      go_ret
      exact ⟨⟨_, by rw [ByteArray.size_extract]; omega, rfl⟩, Hd4.out.below (by have := S1.out; have := S2.out; have := S4.out; omega) (Nat.le_refl _)⟩
    · by_cases ex2 : x = 2
      · have zx2 : (x == 2) = true := by rw [ex2]; rfl
        have zx0 : (x == 0) = false := by rw [ex2]; rfl
        have zx1 : (x == 1) = false := by rw [ex2]; rfl
        clear ex0 ex1 ex2
        go_wp2_with fail
        refine (pick_any w.heap.size (0 + 3002) (4) _ Hc2.out (by omega)).mono ?_; rintro e w5 ⟨⟨p, lp, up, rfl⟩, hc5, hd5⟩
        have S5 := Lib.hid (show w2.heap.size + 0 ≤ w5.heap.size by have h9 := hd5.size; (try simp only [World.size_alloc, World.size_setCell] at h9); omega)
        have NJ := Lib.hid (J.out.dg hd5 (show w1.heap.size ≠ w.heap.size by have := Hgl.out; have := S1.out; have := S2.out; have := S5.out; omega))
        have J := NJ; clear NJ
        have Hc5 := Lib.hid (hc5.mono (j := 0 + 3004) (by omega))
        have Hd5 := Lib.hid (Hd2.out.trans hd5)
        clear hc5 hd5
        have hp1 : p ≤ 3 := by omega
        clear up
        have hln : ∀ W, _ := fun W => jrLine_any p 1 1 0 0 W ⟨by omega, by omega, by omega, by omega, by omega⟩
        have hls := line_len (k := p) (r := ⟨1, 1, 0, 0⟩) (by decide) (by omega)
        have Hln := Lib.hid hln; clear hln
        change (lineS p 1 1 0 0).size ≤ 40 at hls
        generalize lineS p 1 1 0 0 = l at Hln hls
        go_wp2_with fail
        refine (Hln.out _).mono ?_; rintro e w6 ⟨rfl, hd6⟩
        have S6 := Lib.hid (show w5.heap.size + 0 ≤ w6.heap.size by have h9 := hd6.size; (try simp only [World.size_alloc, World.size_setCell] at h9); omega)
        have NJ := Lib.hid (J.out.dg (Dg.of_below (g := w.heap.size) hd6) (show w1.heap.size ≠ w.heap.size by have := Hgl.out; have := S1.out; have := S2.out; have := S5.out; have := S6.out; omega))
        have J := NJ; clear NJ
        have Hc6 := Lib.hid (Hc5.out.on hd6)
        have Hd6 := Lib.hid (Hd5.out.trans (Dg.of_below (g := w.heap.size) hd6))
        clear hd6
        go_wp2
        go_ret
        exact ⟨⟨_, by rw [ByteArray.size_append]; omega, rfl⟩, Hd6.out.below (by have := S1.out; have := S2.out; have := S5.out; have := S6.out; omega) (Nat.le_refl _)⟩
      · by_cases ex3 : x = 3
        · have zx3 : (x == 3) = true := by rw [ex3]; rfl
          have zx0 : (x == 0) = false := by rw [ex3]; rfl
          have zx1 : (x == 1) = false := by rw [ex3]; rfl
          have zx2 : (x == 2) = false := by rw [ex3]; rfl
          clear ex0 ex1 ex2 ex3
          go_wp2_with fail
          refine (one_any w.heap.size (0 + 3002) (6) _ Hc2.out (by omega)).mono ?_; rintro e w7 ⟨⟨c, rfl⟩, hc7, hd7⟩
          have S7 := Lib.hid (show w2.heap.size + 0 ≤ w7.heap.size by have h9 := hd7.size; (try simp only [World.size_alloc, World.size_setCell] at h9); omega)
          have NJ := Lib.hid (J.out.dg hd7 (show w1.heap.size ≠ w.heap.size by have := Hgl.out; have := S1.out; have := S2.out; have := S7.out; omega))
          have J := NJ; clear NJ
          have Hc7 := Lib.hid (hc7.mono (j := 0 + 3004) (by omega))
          have Hd7 := Lib.hid (Hd2.out.trans hd7)
          clear hc7 hd7
          cases c
          · go_wp2
            go_ret
            exact ⟨⟨s, by omega, rfl⟩, Hd7.out.below (by have := S1.out; have := S2.out; have := S7.out; omega) (Nat.le_refl _)⟩
          · go_wp2_with fail
            refine (pick_any w.heap.size (0 + 3004) (2) _ Hc7.out (by omega)).mono ?_; rintro e w8 ⟨⟨p, lp, up, rfl⟩, hc8, hd8⟩
            have S8 := Lib.hid (show w7.heap.size + 0 ≤ w8.heap.size by have h9 := hd8.size; (try simp only [World.size_alloc, World.size_setCell] at h9); omega)
            have NJ := Lib.hid (J.out.dg hd8 (show w1.heap.size ≠ w.heap.size by have := Hgl.out; have := S1.out; have := S2.out; have := S7.out; have := S8.out; omega))
            have J := NJ; clear NJ
            have Hc8 := Lib.hid (hc8.mono (j := 0 + 3006) (by omega))
            have Hd8 := Lib.hid (Hd7.out.trans hd8)
            clear hc8 hd8
            have hp1 : p ≤ 1 := by omega
            clear up
            obtain ⟨m, hm⟩ : ∃ m : Nat, 4000 + p = (m : Int) := ⟨(4000 + p).toNat, by omega⟩
            have hm1 : 4000 ≤ m ∧ m ≤ 4001 := by omega
            go_wp2
            go_loopw [5] (fun t wr => ∃ s' : ByteArray, t = .string s' ∧ s'.size ≤ m ∧ wr = w8) (fun t _ => m - strLen t)
            case atStart => exact ⟨s, rfl, by omega, rfl⟩
            case round =>
              obtain ⟨s', rfl, hs', rfl⟩ := hrel
              by_cases hlt : s'.size < m
              · have hlti : (s'.size : Int) < (m : Int) := by omega
                go_wp2
                go_roundw
                case rel => exact ⟨_, rfl, by rw [ByteArray.size_append]; show s'.size + 1 ≤ m; omega, by first | trivial | rfl⟩
                case measure => simp only [strLen, ByteArray.size_append]; show m - (s'.size + 1) < m - s'.size; omega
              · have hlti : ¬ (s'.size : Int) < (m : Int) := by omega
                go_wp2
                go_ret
                exact ⟨⟨s', by omega, rfl⟩, Hd8.out.below (by have := S1.out; have := S2.out; have := S7.out; have := S8.out; omega) (Nat.le_refl _)⟩
        · have zx0 : (x == 0) = false := beq_eq_false_iff_ne.2 ex0
          have zx1 : (x == 1) = false := beq_eq_false_iff_ne.2 ex1
          have zx2 : (x == 2) = false := beq_eq_false_iff_ne.2 ex2
          have zx3 : (x == 3) = false := beq_eq_false_iff_ne.2 ex3
          clear ex0 ex1 ex2 ex3
          go_wp2
          go_ret
          exact ⟨⟨s, by omega, rfl⟩, Hd2.out.below (by have := S1.out; have := S2.out; omega) (Nat.le_refl _)⟩
end Go.Proofs.YtimfoodbolokdaaGreatDoor
