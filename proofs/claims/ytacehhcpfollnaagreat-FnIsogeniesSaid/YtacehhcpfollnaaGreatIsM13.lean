/- Own texts put together: The reference's source of drawn curves and entries. Conditions: those of each theorem. -/
import Derived.Test.YtacehhcpfollnaaGreatIsM4
namespace Go.Proofs.YtacehhcpfollnaaGreat
section
open Go Go.RowKit

theorem among_lit (g k b : Nat) (es : List Int) (w : World) (hb : b = w.heap.size) (hc : Cur w g k) (hne : es ≠ []) (hl : es.length ≤ 1000) (hk : k ≤ 900000) :
    Calls Tryz.prog 95 #[.pointer (some ⟨g, 0, none⟩), .slice (some ⟨b, 0, none⟩) es.length es.length] (w.alloc (Obj.cells (es.map (Value.int .i64)).toArray 3)) fun e w' => (∃ y : Int, y ∈ es ∧ e = .returned (.int .i64 y)) ∧ Cur w' g (k + 2) ∧ Dg g (w.alloc (Obj.cells (es.map (Value.int .i64)).toArray 3)) w' := by
  subst hb
  have hl2 := hc.lt
  refine among_any g k _ es _ (hc.alloc _) (rdI w 3 es hl) hne (fun A n c e => ?_) hk
  injection e with e1 e2 e3
  injection e1 with e1
  subst e1
  show w.heap.size ≠ g
  omega
theorem ag2 {es : List Int} {x : Int} (h : x ∈ es) {lo hi : Int} (hall : ∀ y ∈ es, lo ≤ y ∧ y ≤ hi) : lo ≤ x ∧ x ≤ hi := hall x h
theorem own_st {w : World} {base : Nat} {e : TypeId} {size n : Nat} {v : Value} {xs : List Value} (h : w.ownsRow base e size v n xs) {p : Addr} (hp : ∀ k, v.ownBlock = some k → k ≠ p.block) (u : Value) : (w.setCell p u).ownsRow base e size v n xs := by
  refine World.ownsRow.kept (row := some p.block) h ⟨rfl, rfl, rfl, by rw [World.size_setCell]; exact Nat.le_refl _, fun i hi hne => Below.heap_setCell w p u i (fun e => hne (by rw [e]))⟩ ?_
  cases hv : v.ownBlock with
  | none => exact .inl rfl
  | some k => exact .inr (fun e => hp k hv (by injection e))

set_option linter.unusedSimpArgs false in
set_option maxRecDepth 8000 in
set_option maxHeartbeats 8000000 in
theorem curve_any (g k : Nat) (w : World) (hc : Cur w g k) (hk : k ≤ 800000) :
    Calls Tryz.prog 155 #[.pointer (some ⟨g, 0, none⟩)] w fun e w' => (∃ a b : Int, e = .returned (.agg #[.int .i64 a, .int .i64 b])) ∧ Cur w' g (k + 30) ∧ Dg g w w' := by
  have Hgl := Lib.hid hc.lt
  have Hc := Lib.hid hc; have Hk := Lib.hid hk; have Hd := Lib.hid (Dg.refl g w); clear hc hk
  go_enter Tryz.func155, Tryz.ntmps155
  go_wp2_with fail
  refine (pick_any g k (41) _ (Hc.out.alloc _) (by have := Hk.out; omega)).mono ?_; rintro e w1 ⟨⟨p1, lp1, up1, rfl⟩, hc1, hd1⟩
  have S1 := Lib.hid (show w.heap.size + 1 ≤ w1.heap.size by have h9 := hd1.size; (try simp only [World.size_alloc, World.size_setCell] at h9); omega)
  have NR := Lib.hid ((Blk.new w 25 #[.int .i64 0, .int .i64 0]).dg hd1 (show w.heap.size ≠ g by have := Hgl.out; have := S1.out; omega))
  have R := NR; clear NR
  have Hc1 := Lib.hid (hc1.mono (j := k + 2) (by omega))
  have Hd1 := Lib.hid ((Hd.out.alloc _).trans hd1)
  clear hc1 hd1
  have u1 : p1 ≤ 40 := by omega
  go_wp2_with fail
  refine (pick_any g (k + 2) (2001) _ Hc1.out (by have := Hk.out; omega)).mono ?_; rintro e w2 ⟨⟨p2, lp2, up2, rfl⟩, hc2, hd2⟩
  have S2 := Lib.hid (show w1.heap.size + 0 ≤ w2.heap.size by have h9 := hd2.size; (try simp only [World.size_alloc, World.size_setCell] at h9); omega)
  have NR := Lib.hid (R.out.dg hd2 (show w.heap.size ≠ g by have := Hgl.out; have := S1.out; have := S2.out; omega))
  have R := NR; clear NR
  have Hc2 := Lib.hid (hc2.mono (j := k + 4) (by omega))
  have Hd2 := Lib.hid (Hd1.out.trans hd2)
  clear hc2 hd2
  have u2 : p2 ≤ 2000 := by omega
  go_wp2_with fail
  refine (among_lit g (k + 4) (w2.heap.size) [-16, -1, 0, 1, -2, -7, -25, 4, (p1 - 20), (p2 - 1000)] w2 (by simp) Hc2.out (by simp) (by simp) (by have := Hk.out; omega)).mono ?_; rintro e w3 ⟨⟨a, ha, rfl⟩, hc3, hd3⟩
  have S3 := Lib.hid (show w2.heap.size + 1 ≤ w3.heap.size by have h9 := hd3.size; (try simp only [World.size_alloc, World.size_setCell] at h9); omega)
  have NR := Lib.hid ((R.out.alloc _).dg hd3 (show w.heap.size ≠ g by have := Hgl.out; have := S1.out; have := S2.out; have := S3.out; omega))
  have R := NR; clear NR
  have Hc3 := Lib.hid (hc3.mono (j := k + 6) (by omega))
  have Hd3 := Lib.hid ((Hd2.out.alloc _).trans hd3)
  clear hc3 hd3
  clear lp1 up1 lp2 up2 u1 u2 ha
  go_wp2_with fail
  refine (pick_any g (k + 6) (41) _ Hc3.out (by have := Hk.out; omega)).mono ?_; rintro e w4 ⟨⟨p3, lp3, up3, rfl⟩, hc4, hd4⟩
  have S4 := Lib.hid (show w3.heap.size + 0 ≤ w4.heap.size by have h9 := hd4.size; (try simp only [World.size_alloc, World.size_setCell] at h9); omega)
  have NR := Lib.hid (R.out.dg hd4 (show w.heap.size ≠ g by have := Hgl.out; have := S1.out; have := S2.out; have := S3.out; have := S4.out; omega))
  have R := NR; clear NR
  have Hc4 := Lib.hid (hc4.mono (j := k + 8) (by omega))
  have Hd4 := Lib.hid (Hd3.out.trans hd4)
  clear hc4 hd4
  have u3 : p3 ≤ 40 := by omega
  go_wp2_with fail
  refine (pick_any g (k + 8) (20001) _ Hc4.out (by have := Hk.out; omega)).mono ?_; rintro e w5 ⟨⟨p4, lp4, up4, rfl⟩, hc5, hd5⟩
  have S5 := Lib.hid (show w4.heap.size + 0 ≤ w5.heap.size by have h9 := hd5.size; (try simp only [World.size_alloc, World.size_setCell] at h9); omega)
  have NR := Lib.hid (R.out.dg hd5 (show w.heap.size ≠ g by have := Hgl.out; have := S1.out; have := S2.out; have := S3.out; have := S4.out; have := S5.out; omega))
  have R := NR; clear NR
  have Hc5 := Lib.hid (hc5.mono (j := k + 10) (by omega))
  have Hd5 := Lib.hid (Hd4.out.trans hd5)
  clear hc5 hd5
  have u4 : p4 ≤ 20000 := by omega
  go_wp2_with fail
  refine (among_lit g (k + 10) (w5.heap.size) [16, 0, 0, 1, -1, 10, 36, (p3 - 20), (p4 - 10000)] w5 (by simp) Hc5.out (by simp) (by simp) (by have := Hk.out; omega)).mono ?_; rintro e w6 ⟨⟨b, hb, rfl⟩, hc6, hd6⟩
  have S6 := Lib.hid (show w5.heap.size + 1 ≤ w6.heap.size by have h9 := hd6.size; (try simp only [World.size_alloc, World.size_setCell] at h9); omega)
  have NR := Lib.hid ((R.out.alloc _).dg hd6 (show w.heap.size ≠ g by have := Hgl.out; have := S1.out; have := S2.out; have := S3.out; have := S4.out; have := S5.out; have := S6.out; omega))
  have R := NR; clear NR
  have Hc6 := Lib.hid (hc6.mono (j := k + 12) (by omega))
  have Hd6 := Lib.hid ((Hd5.out.alloc _).trans hd6)
  clear hc6 hd6
  clear lp3 up3 lp4 up4 u3 u4 hb
  go_wp2_with fail
  refine (one_any g (k + 12) (8) _ (Hc6.out.alloc _) (by have := Hk.out; omega)).mono ?_; rintro e w7 ⟨⟨c1, rfl⟩, hc7, hd7⟩
  have S7 := Lib.hid (show w6.heap.size + 1 ≤ w7.heap.size by have h9 := hd7.size; (try simp only [World.size_alloc, World.size_setCell] at h9); omega)
  have NR := Lib.hid ((R.out.alloc _).dg hd7 (show w.heap.size ≠ g by have := Hgl.out; have := S1.out; have := S2.out; have := S3.out; have := S4.out; have := S5.out; have := S6.out; have := S7.out; omega))
  have NE := Lib.hid ((Blk.new w6 25 #[.int .i64 a, .int .i64 b]).dg hd7 (show w6.heap.size ≠ g by have := Hgl.out; have := S1.out; have := S2.out; have := S3.out; have := S4.out; have := S5.out; have := S6.out; have := S7.out; omega))
  have R := NR; clear NR
  have E := NE; clear NE
  have Hc7 := Lib.hid (hc7.mono (j := k + 14) (by omega))
  have Hd7 := Lib.hid ((Hd6.out.alloc _).trans hd7)
  clear hc7 hd7
  cases c1
  · go_wp2_with fail
    refine (one_any g (k + 14) (16) _ Hc7.out (by have := Hk.out; omega)).mono ?_; rintro e w8 ⟨⟨c2, rfl⟩, hc8, hd8⟩
    have S8 := Lib.hid (show w7.heap.size + 0 ≤ w8.heap.size by have h9 := hd8.size; (try simp only [World.size_alloc, World.size_setCell] at h9); omega)
    have NR := Lib.hid (R.out.dg hd8 (show w.heap.size ≠ g by have := Hgl.out; have := S1.out; have := S2.out; have := S3.out; have := S4.out; have := S5.out; have := S6.out; have := S7.out; have := S8.out; omega))
    have NE := Lib.hid (E.out.dg hd8 (show w6.heap.size ≠ g by have := Hgl.out; have := S1.out; have := S2.out; have := S3.out; have := S4.out; have := S5.out; have := S6.out; have := S7.out; have := S8.out; omega))
    have R := NR; clear NR
    have E := NE; clear NE
    have Hc8 := Lib.hid (hc8.mono (j := k + 16) (by omega))
    have Hd8 := Lib.hid (Hd7.out.trans hd8)
    clear hc8 hd8
    cases c2
    · have qE0 := E.out.cell 0
      have qE1 := E.out.cell 1
      simp at qE0 qE1
      have qEl := E.out.lt
      go_wp2_with fail
      refine (ecGood_any a b _).mono ?_; rintro e w9 ⟨rfl, hd9⟩
      clear qE0 qE1 qEl
      have S9 := Lib.hid (show w8.heap.size + 0 ≤ w9.heap.size by have h9 := hd9.size; (try simp only [World.size_alloc, World.size_setCell] at h9); omega)
      have NR := Lib.hid (R.out.dg (Dg.of_below (g := g) hd9) (show w.heap.size ≠ g by have := Hgl.out; have := S1.out; have := S2.out; have := S3.out; have := S4.out; have := S5.out; have := S6.out; have := S7.out; have := S8.out; have := S9.out; omega))
      have NE := Lib.hid (E.out.dg (Dg.of_below (g := g) hd9) (show w6.heap.size ≠ g by have := Hgl.out; have := S1.out; have := S2.out; have := S3.out; have := S4.out; have := S5.out; have := S6.out; have := S7.out; have := S8.out; have := S9.out; omega))
      have R := NR; clear NR
      have E := NE; clear NE
      have Hc9 := Lib.hid (Hc8.out.on hd9)
      have Hd9 := Lib.hid (Hd8.out.trans (Dg.of_below (g := g) hd9))
      clear hd9
      cases hg : curveB a b
      · clear hg
        have qE0 := E.out.cell 0
        have qE1 := E.out.cell 1
        simp at qE0 qE1
        have qEl := E.out.lt
        have qR0 := R.out.cell 0
        have qR1 := R.out.cell 1
        simp at qR0 qR1
        have qRl := R.out.lt
        have qRf := R.out.frozen
        have nER : w6.heap.size ≠ w.heap.size := by have := Hgl.out; have := S1.out; have := S2.out; have := S3.out; have := S4.out; have := S5.out; have := S6.out; have := S7.out; have := S8.out; have := S9.out; omega
        have nRE : w.heap.size ≠ w6.heap.size := fun e => nER e.symm
        go_wp2
        clear qE0 qE1 qEl qR0 qR1 qRl qRf nER nRE
        have HR9 := (show Blk (World.setCell (World.setCell w9 ⟨w.heap.size, 0, none⟩ (.int .i64 (-16))) ⟨w.heap.size, 1, none⟩ (.int .i64 16)) (w.heap.size) 25 #[.int .i64 (-16), .int .i64 16] by have h9 := ((R.out.set 0 (.int .i64 (-16))).set 1 (.int .i64 16)); simpa using h9)
        have k0 := HR9.cell 0
        have k1 := HR9.cell 1
        simp at k0 k1
        exact bodyPost_ret (v := .agg #[.int .i64 (-16), .int .i64 16]) (by simp [results, Tryz.results155, go_sem, k0, k1]) rfl ⟨⟨-16, 16, rfl⟩, ((Hc9.out.st (p := ⟨w.heap.size, 0, none⟩) (show g < w.heap.size by have := Hgl.out; have := S1.out; have := S2.out; have := S3.out; have := S4.out; have := S5.out; have := S6.out; have := S7.out; have := S8.out; have := S9.out; omega) (.int .i64 (-16))).st (p := ⟨w.heap.size, 1, none⟩) (show g < w.heap.size by have := Hgl.out; have := S1.out; have := S2.out; have := S3.out; have := S4.out; have := S5.out; have := S6.out; have := S7.out; have := S8.out; have := S9.out; omega) (.int .i64 16)).mono (by omega), ((Hd9.out.st (p := ⟨w.heap.size, 0, none⟩) (show w.heap.size ≤ w.heap.size by have := Hgl.out; have := S1.out; have := S2.out; have := S3.out; have := S4.out; have := S5.out; have := S6.out; have := S7.out; have := S8.out; have := S9.out; omega) (.int .i64 (-16))).st (p := ⟨w.heap.size, 1, none⟩) (show w.heap.size ≤ w.heap.size by have := Hgl.out; have := S1.out; have := S2.out; have := S3.out; have := S4.out; have := S5.out; have := S6.out; have := S7.out; have := S8.out; have := S9.out; omega) (.int .i64 16))⟩
      · clear hg
        have qE0 := E.out.cell 0
        have qE1 := E.out.cell 1
        simp at qE0 qE1
        have qEl := E.out.lt
        have qR0 := R.out.cell 0
        have qR1 := R.out.cell 1
        simp at qR0 qR1
        have qRl := R.out.lt
        have qRf := R.out.frozen
        have nER : w6.heap.size ≠ w.heap.size := by have := Hgl.out; have := S1.out; have := S2.out; have := S3.out; have := S4.out; have := S5.out; have := S6.out; have := S7.out; have := S8.out; have := S9.out; omega
        have nRE : w.heap.size ≠ w6.heap.size := fun e => nER e.symm
        go_wp2
        clear qE0 qE1 qEl qR0 qR1 qRl qRf nER nRE
        have HR9 := (show Blk (World.setCell (World.setCell w9 ⟨w.heap.size, 0, none⟩ (.int .i64 a)) ⟨w.heap.size, 1, none⟩ (.int .i64 b)) (w.heap.size) 25 #[.int .i64 a, .int .i64 b] by have h9 := ((R.out.set 0 (.int .i64 a)).set 1 (.int .i64 b)); simpa using h9)
        have k0 := HR9.cell 0
        have k1 := HR9.cell 1
        simp at k0 k1
        exact bodyPost_ret (v := .agg #[.int .i64 a, .int .i64 b]) (by simp [results, Tryz.results155, go_sem, k0, k1]) rfl ⟨⟨_, _, rfl⟩, ((Hc9.out.st (p := ⟨w.heap.size, 0, none⟩) (show g < w.heap.size by have := Hgl.out; have := S1.out; have := S2.out; have := S3.out; have := S4.out; have := S5.out; have := S6.out; have := S7.out; have := S8.out; have := S9.out; omega) (.int .i64 a)).st (p := ⟨w.heap.size, 1, none⟩) (show g < w.heap.size by have := Hgl.out; have := S1.out; have := S2.out; have := S3.out; have := S4.out; have := S5.out; have := S6.out; have := S7.out; have := S8.out; have := S9.out; omega) (.int .i64 b)).mono (by omega), ((Hd9.out.st (p := ⟨w.heap.size, 0, none⟩) (show w.heap.size ≤ w.heap.size by have := Hgl.out; have := S1.out; have := S2.out; have := S3.out; have := S4.out; have := S5.out; have := S6.out; have := S7.out; have := S8.out; have := S9.out; omega) (.int .i64 a)).st (p := ⟨w.heap.size, 1, none⟩) (show w.heap.size ≤ w.heap.size by have := Hgl.out; have := S1.out; have := S2.out; have := S3.out; have := S4.out; have := S5.out; have := S6.out; have := S7.out; have := S8.out; have := S9.out; omega) (.int .i64 b))⟩
    · go_wp2_with fail
      refine (among_lit g (k + 16) (w8.heap.size) [-1000, 1000] w8 (by simp) Hc8.out (by simp) (by simp) (by have := Hk.out; omega)).mono ?_; rintro e w10 ⟨⟨a2, ha2, rfl⟩, hc10, hd10⟩
      have S10 := Lib.hid (show w8.heap.size + 1 ≤ w10.heap.size by have h9 := hd10.size; (try simp only [World.size_alloc, World.size_setCell] at h9); omega)
      have NR := Lib.hid ((R.out.alloc _).dg hd10 (show w.heap.size ≠ g by have := Hgl.out; have := S1.out; have := S2.out; have := S3.out; have := S4.out; have := S5.out; have := S6.out; have := S7.out; have := S8.out; have := S10.out; omega))
      have NE := Lib.hid ((E.out.alloc _).dg hd10 (show w6.heap.size ≠ g by have := Hgl.out; have := S1.out; have := S2.out; have := S3.out; have := S4.out; have := S5.out; have := S6.out; have := S7.out; have := S8.out; have := S10.out; omega))
      have R := NR; clear NR
      have E := NE; clear NE
      have Hc10 := Lib.hid (hc10.mono (j := k + 18) (by omega))
      have Hd10 := Lib.hid ((Hd8.out.alloc _).trans hd10)
      clear hc10 hd10
      go_wp2_with fail
      refine (among_lit g (k + 18) (w10.heap.size) [-10000, 10000] w10 (by simp) Hc10.out (by simp) (by simp) (by have := Hk.out; omega)).mono ?_; rintro e w11 ⟨⟨b2, hb2, rfl⟩, hc11, hd11⟩
      have S11 := Lib.hid (show w10.heap.size + 1 ≤ w11.heap.size by have h9 := hd11.size; (try simp only [World.size_alloc, World.size_setCell] at h9); omega)
      have NR := Lib.hid ((R.out.alloc _).dg hd11 (show w.heap.size ≠ g by have := Hgl.out; have := S1.out; have := S2.out; have := S3.out; have := S4.out; have := S5.out; have := S6.out; have := S7.out; have := S8.out; have := S10.out; have := S11.out; omega))
      have NE := Lib.hid ((E.out.alloc _).dg hd11 (show w6.heap.size ≠ g by have := Hgl.out; have := S1.out; have := S2.out; have := S3.out; have := S4.out; have := S5.out; have := S6.out; have := S7.out; have := S8.out; have := S10.out; have := S11.out; omega))
      have R := NR; clear NR
      have E := NE; clear NE
      have Hc11 := Lib.hid (hc11.mono (j := k + 20) (by omega))
      have Hd11 := Lib.hid ((Hd10.out.alloc _).trans hd11)
      clear hc11 hd11
      have qE0 := E.out.cell 0
      have qE1 := E.out.cell 1
      simp at qE0 qE1
      have qEl := E.out.lt
      have qEf := E.out.frozen
      go_wp2_with fail
      refine (ecGood_any a2 b2 _).mono ?_; rintro e w12 ⟨rfl, hd12⟩
      clear qE0 qE1 qEl qEf
      have S12 := Lib.hid (show w11.heap.size + 0 ≤ w12.heap.size by have h9 := hd12.size; (try simp only [World.size_alloc, World.size_setCell] at h9); omega)
      have NR := Lib.hid (((R.out.far (p := ⟨w6.heap.size, 0, none⟩) (show w.heap.size ≠ w6.heap.size by have := Hgl.out; have := S1.out; have := S2.out; have := S3.out; have := S4.out; have := S5.out; have := S6.out; have := S7.out; have := S8.out; have := S10.out; have := S11.out; have := S12.out; omega) (.int .i64 a2)).far (p := ⟨w6.heap.size, 1, none⟩) (show w.heap.size ≠ w6.heap.size by have := Hgl.out; have := S1.out; have := S2.out; have := S3.out; have := S4.out; have := S5.out; have := S6.out; have := S7.out; have := S8.out; have := S10.out; have := S11.out; have := S12.out; omega) (.int .i64 b2)).dg (Dg.of_below (g := g) hd12) (show w.heap.size ≠ g by have := Hgl.out; have := S1.out; have := S2.out; have := S3.out; have := S4.out; have := S5.out; have := S6.out; have := S7.out; have := S8.out; have := S10.out; have := S11.out; have := S12.out; omega))
      have NE := Lib.hid ((show Blk (World.setCell (World.setCell w11 ⟨w6.heap.size, 0, none⟩ (.int .i64 a2)) ⟨w6.heap.size, 1, none⟩ (.int .i64 b2)) (w6.heap.size) 25 #[.int .i64 a2, .int .i64 b2] by have h9 := ((E.out.set 0 (.int .i64 a2)).set 1 (.int .i64 b2)); simpa using h9).dg (Dg.of_below (g := g) hd12) (show w6.heap.size ≠ g by have := Hgl.out; have := S1.out; have := S2.out; have := S3.out; have := S4.out; have := S5.out; have := S6.out; have := S7.out; have := S8.out; have := S10.out; have := S11.out; have := S12.out; omega))
      have R := NR; clear NR
      have E := NE; clear NE
      have Hc12 := Lib.hid (((Hc11.out.st (p := ⟨w6.heap.size, 0, none⟩) (show g < w6.heap.size by have := Hgl.out; have := S1.out; have := S2.out; have := S3.out; have := S4.out; have := S5.out; have := S6.out; have := S7.out; have := S8.out; have := S10.out; have := S11.out; have := S12.out; omega) (.int .i64 a2)).st (p := ⟨w6.heap.size, 1, none⟩) (show g < w6.heap.size by have := Hgl.out; have := S1.out; have := S2.out; have := S3.out; have := S4.out; have := S5.out; have := S6.out; have := S7.out; have := S8.out; have := S10.out; have := S11.out; have := S12.out; omega) (.int .i64 b2)).on hd12)
      have Hd12 := Lib.hid (((Hd11.out.st (p := ⟨w6.heap.size, 0, none⟩) (show w.heap.size ≤ w6.heap.size by have := Hgl.out; have := S1.out; have := S2.out; have := S3.out; have := S4.out; have := S5.out; have := S6.out; have := S7.out; have := S8.out; have := S10.out; have := S11.out; have := S12.out; omega) (.int .i64 a2)).st (p := ⟨w6.heap.size, 1, none⟩) (show w.heap.size ≤ w6.heap.size by have := Hgl.out; have := S1.out; have := S2.out; have := S3.out; have := S4.out; have := S5.out; have := S6.out; have := S7.out; have := S8.out; have := S10.out; have := S11.out; have := S12.out; omega) (.int .i64 b2)).trans (Dg.of_below (g := g) hd12))
      clear hd12
      cases hg : curveB a2 b2
      · clear hg
        have qE0 := E.out.cell 0
        have qE1 := E.out.cell 1
        simp at qE0 qE1
        have qEl := E.out.lt
        have qR0 := R.out.cell 0
        have qR1 := R.out.cell 1
        simp at qR0 qR1
        have qRl := R.out.lt
        have qRf := R.out.frozen
        have nER : w6.heap.size ≠ w.heap.size := by have := Hgl.out; have := S1.out; have := S2.out; have := S3.out; have := S4.out; have := S5.out; have := S6.out; have := S7.out; have := S8.out; have := S10.out; have := S11.out; have := S12.out; omega
        have nRE : w.heap.size ≠ w6.heap.size := fun e => nER e.symm
        go_wp2
        clear qE0 qE1 qEl qR0 qR1 qRl qRf nER nRE
        have HR9 := (show Blk (World.setCell (World.setCell w12 ⟨w.heap.size, 0, none⟩ (.int .i64 (-16))) ⟨w.heap.size, 1, none⟩ (.int .i64 16)) (w.heap.size) 25 #[.int .i64 (-16), .int .i64 16] by have h9 := ((R.out.set 0 (.int .i64 (-16))).set 1 (.int .i64 16)); simpa using h9)
        have k0 := HR9.cell 0
        have k1 := HR9.cell 1
        simp at k0 k1
        exact bodyPost_ret (v := .agg #[.int .i64 (-16), .int .i64 16]) (by simp [results, Tryz.results155, go_sem, k0, k1]) rfl ⟨⟨-16, 16, rfl⟩, ((Hc12.out.st (p := ⟨w.heap.size, 0, none⟩) (show g < w.heap.size by have := Hgl.out; have := S1.out; have := S2.out; have := S3.out; have := S4.out; have := S5.out; have := S6.out; have := S7.out; have := S8.out; have := S10.out; have := S11.out; have := S12.out; omega) (.int .i64 (-16))).st (p := ⟨w.heap.size, 1, none⟩) (show g < w.heap.size by have := Hgl.out; have := S1.out; have := S2.out; have := S3.out; have := S4.out; have := S5.out; have := S6.out; have := S7.out; have := S8.out; have := S10.out; have := S11.out; have := S12.out; omega) (.int .i64 16)).mono (by omega), ((Hd12.out.st (p := ⟨w.heap.size, 0, none⟩) (show w.heap.size ≤ w.heap.size by have := Hgl.out; have := S1.out; have := S2.out; have := S3.out; have := S4.out; have := S5.out; have := S6.out; have := S7.out; have := S8.out; have := S10.out; have := S11.out; have := S12.out; omega) (.int .i64 (-16))).st (p := ⟨w.heap.size, 1, none⟩) (show w.heap.size ≤ w.heap.size by have := Hgl.out; have := S1.out; have := S2.out; have := S3.out; have := S4.out; have := S5.out; have := S6.out; have := S7.out; have := S8.out; have := S10.out; have := S11.out; have := S12.out; omega) (.int .i64 16))⟩
      · clear hg
        have qE0 := E.out.cell 0
        have qE1 := E.out.cell 1
        simp at qE0 qE1
        have qEl := E.out.lt
        have qR0 := R.out.cell 0
        have qR1 := R.out.cell 1
        simp at qR0 qR1
        have qRl := R.out.lt
        have qRf := R.out.frozen
        have nER : w6.heap.size ≠ w.heap.size := by have := Hgl.out; have := S1.out; have := S2.out; have := S3.out; have := S4.out; have := S5.out; have := S6.out; have := S7.out; have := S8.out; have := S10.out; have := S11.out; have := S12.out; omega
        have nRE : w.heap.size ≠ w6.heap.size := fun e => nER e.symm
        go_wp2
        clear qE0 qE1 qEl qR0 qR1 qRl qRf nER nRE
        have HR9 := (show Blk (World.setCell (World.setCell w12 ⟨w.heap.size, 0, none⟩ (.int .i64 a2)) ⟨w.heap.size, 1, none⟩ (.int .i64 b2)) (w.heap.size) 25 #[.int .i64 a2, .int .i64 b2] by have h9 := ((R.out.set 0 (.int .i64 a2)).set 1 (.int .i64 b2)); simpa using h9)
        have k0 := HR9.cell 0
        have k1 := HR9.cell 1
        simp at k0 k1
        exact bodyPost_ret (v := .agg #[.int .i64 a2, .int .i64 b2]) (by simp [results, Tryz.results155, go_sem, k0, k1]) rfl ⟨⟨_, _, rfl⟩, ((Hc12.out.st (p := ⟨w.heap.size, 0, none⟩) (show g < w.heap.size by have := Hgl.out; have := S1.out; have := S2.out; have := S3.out; have := S4.out; have := S5.out; have := S6.out; have := S7.out; have := S8.out; have := S10.out; have := S11.out; have := S12.out; omega) (.int .i64 a2)).st (p := ⟨w.heap.size, 1, none⟩) (show g < w.heap.size by have := Hgl.out; have := S1.out; have := S2.out; have := S3.out; have := S4.out; have := S5.out; have := S6.out; have := S7.out; have := S8.out; have := S10.out; have := S11.out; have := S12.out; omega) (.int .i64 b2)).mono (by omega), ((Hd12.out.st (p := ⟨w.heap.size, 0, none⟩) (show w.heap.size ≤ w.heap.size by have := Hgl.out; have := S1.out; have := S2.out; have := S3.out; have := S4.out; have := S5.out; have := S6.out; have := S7.out; have := S8.out; have := S10.out; have := S11.out; have := S12.out; omega) (.int .i64 a2)).st (p := ⟨w.heap.size, 1, none⟩) (show w.heap.size ≤ w.heap.size by have := Hgl.out; have := S1.out; have := S2.out; have := S3.out; have := S4.out; have := S5.out; have := S6.out; have := S7.out; have := S8.out; have := S10.out; have := S11.out; have := S12.out; omega) (.int .i64 b2))⟩
  · go_wp2_with fail
    refine (pick_any g (k + 14) (21) _ Hc7.out (by have := Hk.out; omega)).mono ?_; rintro e w13 ⟨⟨p5, lp5, up5, rfl⟩, hc13, hd13⟩
    have S13 := Lib.hid (show w7.heap.size + 0 ≤ w13.heap.size by have h9 := hd13.size; (try simp only [World.size_alloc, World.size_setCell] at h9); omega)
    have NR := Lib.hid (R.out.dg hd13 (show w.heap.size ≠ g by have := Hgl.out; have := S1.out; have := S2.out; have := S3.out; have := S4.out; have := S5.out; have := S6.out; have := S7.out; have := S13.out; omega))
    have NE := Lib.hid (E.out.dg hd13 (show w6.heap.size ≠ g by have := Hgl.out; have := S1.out; have := S2.out; have := S3.out; have := S4.out; have := S5.out; have := S6.out; have := S7.out; have := S13.out; omega))
    have R := NR; clear NR
    have E := NE; clear NE
    have Hc13 := Lib.hid (hc13.mono (j := k + 16) (by omega))
    have Hd13 := Lib.hid (Hd7.out.trans hd13)
    clear hc13 hd13
    have u5 : p5 ≤ 20 := by omega
    go_wp2_with fail
    refine (pick_any g (k + 16) (21) _ Hc13.out (by have := Hk.out; omega)).mono ?_; rintro e w14 ⟨⟨p6, lp6, up6, rfl⟩, hc14, hd14⟩
    have S14 := Lib.hid (show w13.heap.size + 0 ≤ w14.heap.size by have h9 := hd14.size; (try simp only [World.size_alloc, World.size_setCell] at h9); omega)
    have NR := Lib.hid (R.out.dg hd14 (show w.heap.size ≠ g by have := Hgl.out; have := S1.out; have := S2.out; have := S3.out; have := S4.out; have := S5.out; have := S6.out; have := S7.out; have := S13.out; have := S14.out; omega))
    have NE := Lib.hid (E.out.dg hd14 (show w6.heap.size ≠ g by have := Hgl.out; have := S1.out; have := S2.out; have := S3.out; have := S4.out; have := S5.out; have := S6.out; have := S7.out; have := S13.out; have := S14.out; omega))
    have R := NR; clear NR
    have E := NE; clear NE
    have Hc14 := Lib.hid (hc14.mono (j := k + 18) (by omega))
    have Hd14 := Lib.hid (Hd13.out.trans hd14)
    clear hc14 hd14
    have u6 : p6 ≤ 20 := by omega
    have qE0 := E.out.cell 0
    have qE1 := E.out.cell 1
    simp at qE0 qE1
    have qEl := E.out.lt
    have qEf := E.out.frozen
    go_wp2_with fail
    refine (one_any g (k + 18) (16) _ ((Hc14.out.st (p := ⟨w6.heap.size, 0, none⟩) (show g < w6.heap.size by have := Hgl.out; have := S1.out; have := S2.out; have := S3.out; have := S4.out; have := S5.out; have := S6.out; have := S7.out; have := S13.out; have := S14.out; omega) (.int .i64 (16 * (p5 - 10)))).st (p := ⟨w6.heap.size, 1, none⟩) (show g < w6.heap.size by have := Hgl.out; have := S1.out; have := S2.out; have := S3.out; have := S4.out; have := S5.out; have := S6.out; have := S7.out; have := S13.out; have := S14.out; omega) (.int .i64 (64 * (p6 - 10)))) (by have := Hk.out; omega)).mono ?_; rintro e w15 ⟨⟨c2, rfl⟩, hc15, hd15⟩
    clear qE0 qE1 qEl qEf
    have S15 := Lib.hid (show w14.heap.size + 0 ≤ w15.heap.size by have h9 := hd15.size; (try simp only [World.size_alloc, World.size_setCell] at h9); omega)
    have NR := Lib.hid (((R.out.far (p := ⟨w6.heap.size, 0, none⟩) (show w.heap.size ≠ w6.heap.size by have := Hgl.out; have := S1.out; have := S2.out; have := S3.out; have := S4.out; have := S5.out; have := S6.out; have := S7.out; have := S13.out; have := S14.out; have := S15.out; omega) (.int .i64 (16 * (p5 - 10)))).far (p := ⟨w6.heap.size, 1, none⟩) (show w.heap.size ≠ w6.heap.size by have := Hgl.out; have := S1.out; have := S2.out; have := S3.out; have := S4.out; have := S5.out; have := S6.out; have := S7.out; have := S13.out; have := S14.out; have := S15.out; omega) (.int .i64 (64 * (p6 - 10)))).dg hd15 (show w.heap.size ≠ g by have := Hgl.out; have := S1.out; have := S2.out; have := S3.out; have := S4.out; have := S5.out; have := S6.out; have := S7.out; have := S13.out; have := S14.out; have := S15.out; omega))
    have NE := Lib.hid ((show Blk (World.setCell (World.setCell w14 ⟨w6.heap.size, 0, none⟩ (.int .i64 (16 * (p5 - 10)))) ⟨w6.heap.size, 1, none⟩ (.int .i64 (64 * (p6 - 10)))) (w6.heap.size) 25 #[.int .i64 (16 * (p5 - 10)), .int .i64 (64 * (p6 - 10))] by have h9 := ((E.out.set 0 (.int .i64 (16 * (p5 - 10)))).set 1 (.int .i64 (64 * (p6 - 10)))); simpa using h9).dg hd15 (show w6.heap.size ≠ g by have := Hgl.out; have := S1.out; have := S2.out; have := S3.out; have := S4.out; have := S5.out; have := S6.out; have := S7.out; have := S13.out; have := S14.out; have := S15.out; omega))
    have R := NR; clear NR
    have E := NE; clear NE
    have Hc15 := Lib.hid (hc15.mono (j := k + 20) (by omega))
    have Hd15 := Lib.hid (((Hd14.out.st (p := ⟨w6.heap.size, 0, none⟩) (show w.heap.size ≤ w6.heap.size by have := Hgl.out; have := S1.out; have := S2.out; have := S3.out; have := S4.out; have := S5.out; have := S6.out; have := S7.out; have := S13.out; have := S14.out; have := S15.out; omega) (.int .i64 (16 * (p5 - 10)))).st (p := ⟨w6.heap.size, 1, none⟩) (show w.heap.size ≤ w6.heap.size by have := Hgl.out; have := S1.out; have := S2.out; have := S3.out; have := S4.out; have := S5.out; have := S6.out; have := S7.out; have := S13.out; have := S14.out; have := S15.out; omega) (.int .i64 (64 * (p6 - 10)))).trans hd15)
    clear hc15 hd15
    cases c2
    · have qE0 := E.out.cell 0
      have qE1 := E.out.cell 1
      simp at qE0 qE1
      have qEl := E.out.lt
      go_wp2_with fail
      refine (ecGood_any (16 * (p5 - 10)) (64 * (p6 - 10)) _).mono ?_; rintro e w16 ⟨rfl, hd16⟩
      clear qE0 qE1 qEl
      have S16 := Lib.hid (show w15.heap.size + 0 ≤ w16.heap.size by have h9 := hd16.size; (try simp only [World.size_alloc, World.size_setCell] at h9); omega)
      have NR := Lib.hid (R.out.dg (Dg.of_below (g := g) hd16) (show w.heap.size ≠ g by have := Hgl.out; have := S1.out; have := S2.out; have := S3.out; have := S4.out; have := S5.out; have := S6.out; have := S7.out; have := S13.out; have := S14.out; have := S15.out; have := S16.out; omega))
      have NE := Lib.hid (E.out.dg (Dg.of_below (g := g) hd16) (show w6.heap.size ≠ g by have := Hgl.out; have := S1.out; have := S2.out; have := S3.out; have := S4.out; have := S5.out; have := S6.out; have := S7.out; have := S13.out; have := S14.out; have := S15.out; have := S16.out; omega))
      have R := NR; clear NR
      have E := NE; clear NE
      have Hc16 := Lib.hid (Hc15.out.on hd16)
      have Hd16 := Lib.hid (Hd15.out.trans (Dg.of_below (g := g) hd16))
      clear hd16
      cases hg : curveB (16 * (p5 - 10)) (64 * (p6 - 10))
      · clear hg
        have qE0 := E.out.cell 0
        have qE1 := E.out.cell 1
        simp at qE0 qE1
        have qEl := E.out.lt
        have qR0 := R.out.cell 0
        have qR1 := R.out.cell 1
        simp at qR0 qR1
        have qRl := R.out.lt
        have qRf := R.out.frozen
        have nER : w6.heap.size ≠ w.heap.size := by have := Hgl.out; have := S1.out; have := S2.out; have := S3.out; have := S4.out; have := S5.out; have := S6.out; have := S7.out; have := S13.out; have := S14.out; have := S15.out; have := S16.out; omega
        have nRE : w.heap.size ≠ w6.heap.size := fun e => nER e.symm
        go_wp2
        clear qE0 qE1 qEl qR0 qR1 qRl qRf nER nRE
        have HR9 := (show Blk (World.setCell (World.setCell w16 ⟨w.heap.size, 0, none⟩ (.int .i64 (-16))) ⟨w.heap.size, 1, none⟩ (.int .i64 16)) (w.heap.size) 25 #[.int .i64 (-16), .int .i64 16] by have h9 := ((R.out.set 0 (.int .i64 (-16))).set 1 (.int .i64 16)); simpa using h9)
        have k0 := HR9.cell 0
        have k1 := HR9.cell 1
        simp at k0 k1
        exact bodyPost_ret (v := .agg #[.int .i64 (-16), .int .i64 16]) (by simp [results, Tryz.results155, go_sem, k0, k1]) rfl ⟨⟨-16, 16, rfl⟩, ((Hc16.out.st (p := ⟨w.heap.size, 0, none⟩) (show g < w.heap.size by have := Hgl.out; have := S1.out; have := S2.out; have := S3.out; have := S4.out; have := S5.out; have := S6.out; have := S7.out; have := S13.out; have := S14.out; have := S15.out; have := S16.out; omega) (.int .i64 (-16))).st (p := ⟨w.heap.size, 1, none⟩) (show g < w.heap.size by have := Hgl.out; have := S1.out; have := S2.out; have := S3.out; have := S4.out; have := S5.out; have := S6.out; have := S7.out; have := S13.out; have := S14.out; have := S15.out; have := S16.out; omega) (.int .i64 16)).mono (by omega), ((Hd16.out.st (p := ⟨w.heap.size, 0, none⟩) (show w.heap.size ≤ w.heap.size by have := Hgl.out; have := S1.out; have := S2.out; have := S3.out; have := S4.out; have := S5.out; have := S6.out; have := S7.out; have := S13.out; have := S14.out; have := S15.out; have := S16.out; omega) (.int .i64 (-16))).st (p := ⟨w.heap.size, 1, none⟩) (show w.heap.size ≤ w.heap.size by have := Hgl.out; have := S1.out; have := S2.out; have := S3.out; have := S4.out; have := S5.out; have := S6.out; have := S7.out; have := S13.out; have := S14.out; have := S15.out; have := S16.out; omega) (.int .i64 16))⟩
      · clear hg
        have qE0 := E.out.cell 0
        have qE1 := E.out.cell 1
        simp at qE0 qE1
        have qEl := E.out.lt
        have qR0 := R.out.cell 0
        have qR1 := R.out.cell 1
        simp at qR0 qR1
        have qRl := R.out.lt
        have qRf := R.out.frozen
        have nER : w6.heap.size ≠ w.heap.size := by have := Hgl.out; have := S1.out; have := S2.out; have := S3.out; have := S4.out; have := S5.out; have := S6.out; have := S7.out; have := S13.out; have := S14.out; have := S15.out; have := S16.out; omega
        have nRE : w.heap.size ≠ w6.heap.size := fun e => nER e.symm
        go_wp2
        clear qE0 qE1 qEl qR0 qR1 qRl qRf nER nRE
        have HR9 := (show Blk (World.setCell (World.setCell w16 ⟨w.heap.size, 0, none⟩ (.int .i64 (16 * (p5 - 10)))) ⟨w.heap.size, 1, none⟩ (.int .i64 (64 * (p6 - 10)))) (w.heap.size) 25 #[.int .i64 (16 * (p5 - 10)), .int .i64 (64 * (p6 - 10))] by have h9 := ((R.out.set 0 (.int .i64 (16 * (p5 - 10)))).set 1 (.int .i64 (64 * (p6 - 10)))); simpa using h9)
        have k0 := HR9.cell 0
        have k1 := HR9.cell 1
        simp at k0 k1
        exact bodyPost_ret (v := .agg #[.int .i64 (16 * (p5 - 10)), .int .i64 (64 * (p6 - 10))]) (by simp [results, Tryz.results155, go_sem, k0, k1]) rfl ⟨⟨_, _, rfl⟩, ((Hc16.out.st (p := ⟨w.heap.size, 0, none⟩) (show g < w.heap.size by have := Hgl.out; have := S1.out; have := S2.out; have := S3.out; have := S4.out; have := S5.out; have := S6.out; have := S7.out; have := S13.out; have := S14.out; have := S15.out; have := S16.out; omega) (.int .i64 (16 * (p5 - 10)))).st (p := ⟨w.heap.size, 1, none⟩) (show g < w.heap.size by have := Hgl.out; have := S1.out; have := S2.out; have := S3.out; have := S4.out; have := S5.out; have := S6.out; have := S7.out; have := S13.out; have := S14.out; have := S15.out; have := S16.out; omega) (.int .i64 (64 * (p6 - 10)))).mono (by omega), ((Hd16.out.st (p := ⟨w.heap.size, 0, none⟩) (show w.heap.size ≤ w.heap.size by have := Hgl.out; have := S1.out; have := S2.out; have := S3.out; have := S4.out; have := S5.out; have := S6.out; have := S7.out; have := S13.out; have := S14.out; have := S15.out; have := S16.out; omega) (.int .i64 (16 * (p5 - 10)))).st (p := ⟨w.heap.size, 1, none⟩) (show w.heap.size ≤ w.heap.size by have := Hgl.out; have := S1.out; have := S2.out; have := S3.out; have := S4.out; have := S5.out; have := S6.out; have := S7.out; have := S13.out; have := S14.out; have := S15.out; have := S16.out; omega) (.int .i64 (64 * (p6 - 10))))⟩
    · go_wp2_with fail
      refine (among_lit g (k + 20) (w15.heap.size) [-1000, 1000] w15 (by simp) Hc15.out (by simp) (by simp) (by have := Hk.out; omega)).mono ?_; rintro e w17 ⟨⟨a2, ha2, rfl⟩, hc17, hd17⟩
      have S17 := Lib.hid (show w15.heap.size + 1 ≤ w17.heap.size by have h9 := hd17.size; (try simp only [World.size_alloc, World.size_setCell] at h9); omega)
      have NR := Lib.hid ((R.out.alloc _).dg hd17 (show w.heap.size ≠ g by have := Hgl.out; have := S1.out; have := S2.out; have := S3.out; have := S4.out; have := S5.out; have := S6.out; have := S7.out; have := S13.out; have := S14.out; have := S15.out; have := S17.out; omega))
      have NE := Lib.hid ((E.out.alloc _).dg hd17 (show w6.heap.size ≠ g by have := Hgl.out; have := S1.out; have := S2.out; have := S3.out; have := S4.out; have := S5.out; have := S6.out; have := S7.out; have := S13.out; have := S14.out; have := S15.out; have := S17.out; omega))
      have R := NR; clear NR
      have E := NE; clear NE
      have Hc17 := Lib.hid (hc17.mono (j := k + 22) (by omega))
      have Hd17 := Lib.hid ((Hd15.out.alloc _).trans hd17)
      clear hc17 hd17
      go_wp2_with fail
      refine (among_lit g (k + 22) (w17.heap.size) [-10000, 10000] w17 (by simp) Hc17.out (by simp) (by simp) (by have := Hk.out; omega)).mono ?_; rintro e w18 ⟨⟨b2, hb2, rfl⟩, hc18, hd18⟩
      have S18 := Lib.hid (show w17.heap.size + 1 ≤ w18.heap.size by have h9 := hd18.size; (try simp only [World.size_alloc, World.size_setCell] at h9); omega)
      have NR := Lib.hid ((R.out.alloc _).dg hd18 (show w.heap.size ≠ g by have := Hgl.out; have := S1.out; have := S2.out; have := S3.out; have := S4.out; have := S5.out; have := S6.out; have := S7.out; have := S13.out; have := S14.out; have := S15.out; have := S17.out; have := S18.out; omega))
      have NE := Lib.hid ((E.out.alloc _).dg hd18 (show w6.heap.size ≠ g by have := Hgl.out; have := S1.out; have := S2.out; have := S3.out; have := S4.out; have := S5.out; have := S6.out; have := S7.out; have := S13.out; have := S14.out; have := S15.out; have := S17.out; have := S18.out; omega))
      have R := NR; clear NR
      have E := NE; clear NE
      have Hc18 := Lib.hid (hc18.mono (j := k + 24) (by omega))
      have Hd18 := Lib.hid ((Hd17.out.alloc _).trans hd18)
      clear hc18 hd18
      have qE0 := E.out.cell 0
      have qE1 := E.out.cell 1
      simp at qE0 qE1
      have qEl := E.out.lt
      have qEf := E.out.frozen
      go_wp2_with fail
      refine (ecGood_any a2 b2 _).mono ?_; rintro e w19 ⟨rfl, hd19⟩
      clear qE0 qE1 qEl qEf
      have S19 := Lib.hid (show w18.heap.size + 0 ≤ w19.heap.size by have h9 := hd19.size; (try simp only [World.size_alloc, World.size_setCell] at h9); omega)
      have NR := Lib.hid (((R.out.far (p := ⟨w6.heap.size, 0, none⟩) (show w.heap.size ≠ w6.heap.size by have := Hgl.out; have := S1.out; have := S2.out; have := S3.out; have := S4.out; have := S5.out; have := S6.out; have := S7.out; have := S13.out; have := S14.out; have := S15.out; have := S17.out; have := S18.out; have := S19.out; omega) (.int .i64 a2)).far (p := ⟨w6.heap.size, 1, none⟩) (show w.heap.size ≠ w6.heap.size by have := Hgl.out; have := S1.out; have := S2.out; have := S3.out; have := S4.out; have := S5.out; have := S6.out; have := S7.out; have := S13.out; have := S14.out; have := S15.out; have := S17.out; have := S18.out; have := S19.out; omega) (.int .i64 b2)).dg (Dg.of_below (g := g) hd19) (show w.heap.size ≠ g by have := Hgl.out; have := S1.out; have := S2.out; have := S3.out; have := S4.out; have := S5.out; have := S6.out; have := S7.out; have := S13.out; have := S14.out; have := S15.out; have := S17.out; have := S18.out; have := S19.out; omega))
      have NE := Lib.hid ((show Blk (World.setCell (World.setCell w18 ⟨w6.heap.size, 0, none⟩ (.int .i64 a2)) ⟨w6.heap.size, 1, none⟩ (.int .i64 b2)) (w6.heap.size) 25 #[.int .i64 a2, .int .i64 b2] by have h9 := ((E.out.set 0 (.int .i64 a2)).set 1 (.int .i64 b2)); simpa using h9).dg (Dg.of_below (g := g) hd19) (show w6.heap.size ≠ g by have := Hgl.out; have := S1.out; have := S2.out; have := S3.out; have := S4.out; have := S5.out; have := S6.out; have := S7.out; have := S13.out; have := S14.out; have := S15.out; have := S17.out; have := S18.out; have := S19.out; omega))
      have R := NR; clear NR
      have E := NE; clear NE
      have Hc19 := Lib.hid (((Hc18.out.st (p := ⟨w6.heap.size, 0, none⟩) (show g < w6.heap.size by have := Hgl.out; have := S1.out; have := S2.out; have := S3.out; have := S4.out; have := S5.out; have := S6.out; have := S7.out; have := S13.out; have := S14.out; have := S15.out; have := S17.out; have := S18.out; have := S19.out; omega) (.int .i64 a2)).st (p := ⟨w6.heap.size, 1, none⟩) (show g < w6.heap.size by have := Hgl.out; have := S1.out; have := S2.out; have := S3.out; have := S4.out; have := S5.out; have := S6.out; have := S7.out; have := S13.out; have := S14.out; have := S15.out; have := S17.out; have := S18.out; have := S19.out; omega) (.int .i64 b2)).on hd19)
      have Hd19 := Lib.hid (((Hd18.out.st (p := ⟨w6.heap.size, 0, none⟩) (show w.heap.size ≤ w6.heap.size by have := Hgl.out; have := S1.out; have := S2.out; have := S3.out; have := S4.out; have := S5.out; have := S6.out; have := S7.out; have := S13.out; have := S14.out; have := S15.out; have := S17.out; have := S18.out; have := S19.out; omega) (.int .i64 a2)).st (p := ⟨w6.heap.size, 1, none⟩) (show w.heap.size ≤ w6.heap.size by have := Hgl.out; have := S1.out; have := S2.out; have := S3.out; have := S4.out; have := S5.out; have := S6.out; have := S7.out; have := S13.out; have := S14.out; have := S15.out; have := S17.out; have := S18.out; have := S19.out; omega) (.int .i64 b2)).trans (Dg.of_below (g := g) hd19))
      clear hd19
      cases hg : curveB a2 b2
      · clear hg
        have qE0 := E.out.cell 0
        have qE1 := E.out.cell 1
        simp at qE0 qE1
        have qEl := E.out.lt
        have qR0 := R.out.cell 0
        have qR1 := R.out.cell 1
        simp at qR0 qR1
        have qRl := R.out.lt
        have qRf := R.out.frozen
        have nER : w6.heap.size ≠ w.heap.size := by have := Hgl.out; have := S1.out; have := S2.out; have := S3.out; have := S4.out; have := S5.out; have := S6.out; have := S7.out; have := S13.out; have := S14.out; have := S15.out; have := S17.out; have := S18.out; have := S19.out; omega
        have nRE : w.heap.size ≠ w6.heap.size := fun e => nER e.symm
        go_wp2
        clear qE0 qE1 qEl qR0 qR1 qRl qRf nER nRE
        have HR9 := (show Blk (World.setCell (World.setCell w19 ⟨w.heap.size, 0, none⟩ (.int .i64 (-16))) ⟨w.heap.size, 1, none⟩ (.int .i64 16)) (w.heap.size) 25 #[.int .i64 (-16), .int .i64 16] by have h9 := ((R.out.set 0 (.int .i64 (-16))).set 1 (.int .i64 16)); simpa using h9)
        have k0 := HR9.cell 0
        have k1 := HR9.cell 1
        simp at k0 k1
        exact bodyPost_ret (v := .agg #[.int .i64 (-16), .int .i64 16]) (by simp [results, Tryz.results155, go_sem, k0, k1]) rfl ⟨⟨-16, 16, rfl⟩, ((Hc19.out.st (p := ⟨w.heap.size, 0, none⟩) (show g < w.heap.size by have := Hgl.out; have := S1.out; have := S2.out; have := S3.out; have := S4.out; have := S5.out; have := S6.out; have := S7.out; have := S13.out; have := S14.out; have := S15.out; have := S17.out; have := S18.out; have := S19.out; omega) (.int .i64 (-16))).st (p := ⟨w.heap.size, 1, none⟩) (show g < w.heap.size by have := Hgl.out; have := S1.out; have := S2.out; have := S3.out; have := S4.out; have := S5.out; have := S6.out; have := S7.out; have := S13.out; have := S14.out; have := S15.out; have := S17.out; have := S18.out; have := S19.out; omega) (.int .i64 16)).mono (by omega), ((Hd19.out.st (p := ⟨w.heap.size, 0, none⟩) (show w.heap.size ≤ w.heap.size by have := Hgl.out; have := S1.out; have := S2.out; have := S3.out; have := S4.out; have := S5.out; have := S6.out; have := S7.out; have := S13.out; have := S14.out; have := S15.out; have := S17.out; have := S18.out; have := S19.out; omega) (.int .i64 (-16))).st (p := ⟨w.heap.size, 1, none⟩) (show w.heap.size ≤ w.heap.size by have := Hgl.out; have := S1.out; have := S2.out; have := S3.out; have := S4.out; have := S5.out; have := S6.out; have := S7.out; have := S13.out; have := S14.out; have := S15.out; have := S17.out; have := S18.out; have := S19.out; omega) (.int .i64 16))⟩
      · clear hg
        have qE0 := E.out.cell 0
        have qE1 := E.out.cell 1
        simp at qE0 qE1
        have qEl := E.out.lt
        have qR0 := R.out.cell 0
        have qR1 := R.out.cell 1
        simp at qR0 qR1
        have qRl := R.out.lt
        have qRf := R.out.frozen
        have nER : w6.heap.size ≠ w.heap.size := by have := Hgl.out; have := S1.out; have := S2.out; have := S3.out; have := S4.out; have := S5.out; have := S6.out; have := S7.out; have := S13.out; have := S14.out; have := S15.out; have := S17.out; have := S18.out; have := S19.out; omega
        have nRE : w.heap.size ≠ w6.heap.size := fun e => nER e.symm
        go_wp2
        clear qE0 qE1 qEl qR0 qR1 qRl qRf nER nRE
        have HR9 := (show Blk (World.setCell (World.setCell w19 ⟨w.heap.size, 0, none⟩ (.int .i64 a2)) ⟨w.heap.size, 1, none⟩ (.int .i64 b2)) (w.heap.size) 25 #[.int .i64 a2, .int .i64 b2] by have h9 := ((R.out.set 0 (.int .i64 a2)).set 1 (.int .i64 b2)); simpa using h9)
        have k0 := HR9.cell 0
        have k1 := HR9.cell 1
        simp at k0 k1
        exact bodyPost_ret (v := .agg #[.int .i64 a2, .int .i64 b2]) (by simp [results, Tryz.results155, go_sem, k0, k1]) rfl ⟨⟨_, _, rfl⟩, ((Hc19.out.st (p := ⟨w.heap.size, 0, none⟩) (show g < w.heap.size by have := Hgl.out; have := S1.out; have := S2.out; have := S3.out; have := S4.out; have := S5.out; have := S6.out; have := S7.out; have := S13.out; have := S14.out; have := S15.out; have := S17.out; have := S18.out; have := S19.out; omega) (.int .i64 a2)).st (p := ⟨w.heap.size, 1, none⟩) (show g < w.heap.size by have := Hgl.out; have := S1.out; have := S2.out; have := S3.out; have := S4.out; have := S5.out; have := S6.out; have := S7.out; have := S13.out; have := S14.out; have := S15.out; have := S17.out; have := S18.out; have := S19.out; omega) (.int .i64 b2)).mono (by omega), ((Hd19.out.st (p := ⟨w.heap.size, 0, none⟩) (show w.heap.size ≤ w.heap.size by have := Hgl.out; have := S1.out; have := S2.out; have := S3.out; have := S4.out; have := S5.out; have := S6.out; have := S7.out; have := S13.out; have := S14.out; have := S15.out; have := S17.out; have := S18.out; have := S19.out; omega) (.int .i64 a2)).st (p := ⟨w.heap.size, 1, none⟩) (show w.heap.size ≤ w.heap.size by have := Hgl.out; have := S1.out; have := S2.out; have := S3.out; have := S4.out; have := S5.out; have := S6.out; have := S7.out; have := S13.out; have := S14.out; have := S15.out; have := S17.out; have := S18.out; have := S19.out; omega) (.int .i64 b2))⟩
set_option linter.unusedSimpArgs false in
set_option maxRecDepth 8000 in
set_option maxHeartbeats 8000000 in
theorem anyCurve_any (g k : Nat) (w : World) (hc : Cur w g k) (hk : k ≤ 700000) :
    Calls Tryz.prog 103 #[.pointer (some ⟨g, 0, none⟩)] w fun e w' => (∃ a b : Int, e = .returned (.agg #[.int .i64 a, .int .i64 b])) ∧ Cur w' g (k + 40) ∧ Dg g w w' := by
  have Hgl := Lib.hid hc.lt
  have Hc := Lib.hid hc; have Hk := Lib.hid hk; have Hd := Lib.hid (Dg.refl g w); clear hc hk
  go_enter Tryz.func103, Tryz.ntmps103
  go_wp2_with fail
  refine (curve_any g k _ (Hc.out.alloc _) (by have := Hk.out; omega)).mono ?_; rintro e w1 ⟨⟨a, b, rfl⟩, hc1, hd1⟩
  have S1 := Lib.hid (show w.heap.size + 1 ≤ w1.heap.size by have h9 := hd1.size; (try simp only [World.size_alloc, World.size_setCell] at h9); omega)
  have NR := Lib.hid ((Blk.new w 25 #[.int .i64 0, .int .i64 0]).dg hd1 (show w.heap.size ≠ g by have := Hgl.out; have := S1.out; omega))
  have R := NR; clear NR
  have Hc1 := Lib.hid (hc1.mono (j := k + 30) (by omega))
  have Hd1 := Lib.hid ((Hd.out.alloc _).trans hd1)
  clear hc1 hd1
  go_wp2_with fail
  refine (pick_any g (k + 30) (30) _ (Hc1.out.alloc _) (by have := Hk.out; omega)).mono ?_; rintro e w2 ⟨⟨x, lx, ux, rfl⟩, hc2, hd2⟩
  have S2 := Lib.hid (show w1.heap.size + 1 ≤ w2.heap.size by have h9 := hd2.size; (try simp only [World.size_alloc, World.size_setCell] at h9); omega)
  have NR := Lib.hid ((R.out.alloc _).dg hd2 (show w.heap.size ≠ g by have := Hgl.out; have := S1.out; have := S2.out; omega))
  have NE := Lib.hid ((Blk.new w1 25 #[.int .i64 a, .int .i64 b]).dg hd2 (show w1.heap.size ≠ g by have := Hgl.out; have := S1.out; have := S2.out; omega))
  have R := NR; clear NR
  have E := NE; clear NE
  have Hc2 := Lib.hid (hc2.mono (j := k + 32) (by omega))
  have Hd2 := Lib.hid ((Hd1.out.alloc _).trans hd2)
  clear hc2 hd2
  by_cases ex0 : x = 0
  · have zx0 : (x == 0) = true := by rw [ex0]; rfl
    clear ex0
    go_wp2_with fail
    refine (among_lit g (k + 32) (w2.heap.size) [-1001, -1000, 1000, 1001, -9223372036854775808] w2 (by simp) Hc2.out (by simp) (by simp) (by have := Hk.out; omega)).mono ?_; rintro e w3 ⟨⟨a2, ha2, rfl⟩, hc3, hd3⟩
    have S3 := Lib.hid (show w2.heap.size + 1 ≤ w3.heap.size by have h9 := hd3.size; (try simp only [World.size_alloc, World.size_setCell] at h9); omega)
    have NR := Lib.hid ((R.out.alloc _).dg hd3 (show w.heap.size ≠ g by have := Hgl.out; have := S1.out; have := S2.out; have := S3.out; omega))
    have NE := Lib.hid ((E.out.alloc _).dg hd3 (show w1.heap.size ≠ g by have := Hgl.out; have := S1.out; have := S2.out; have := S3.out; omega))
    have R := NR; clear NR
    have E := NE; clear NE
    have Hc3 := Lib.hid (hc3.mono (j := k + 34) (by omega))
    have Hd3 := Lib.hid ((Hd2.out.alloc _).trans hd3)
    clear hc3 hd3
    have qE0 := E.out.cell 0
    have qE1 := E.out.cell 1
    simp at qE0 qE1
    have qEl := E.out.lt
    have qEf := E.out.frozen
    have qR0 := R.out.cell 0
    have qR1 := R.out.cell 1
    simp at qR0 qR1
    have qRl := R.out.lt
    have qRf := R.out.frozen
    have nER : w1.heap.size ≠ w.heap.size := by have := Hgl.out; have := S1.out; have := S2.out; have := S3.out; omega
    have nRE : w.heap.size ≠ w1.heap.size := fun e => nER e.symm
    go_wp2
    clear qE0 qE1 qEl qEf qR0 qR1 qRl qRf nER nRE
    have HR9 := (show Blk (World.setCell (World.setCell (World.setCell w3 ⟨w1.heap.size, 0, none⟩ (.int .i64 a2)) ⟨w.heap.size, 0, none⟩ (.int .i64 a2)) ⟨w.heap.size, 1, none⟩ (.int .i64 b)) (w.heap.size) 25 #[.int .i64 a2, .int .i64 b] by have h9 := (((R.out.far (p := ⟨w1.heap.size, 0, none⟩) (show w.heap.size ≠ w1.heap.size by have := Hgl.out; have := S1.out; have := S2.out; have := S3.out; omega) (.int .i64 a2)).set 0 (.int .i64 a2)).set 1 (.int .i64 b)); simpa using h9)
    have k0 := HR9.cell 0
    have k1 := HR9.cell 1
    simp at k0 k1
    exact bodyPost_ret (v := .agg #[.int .i64 a2, .int .i64 b]) (by simp [results, Tryz.results103, go_sem, k0, k1]) rfl ⟨⟨_, _, rfl⟩, (((Hc3.out.st (p := ⟨w1.heap.size, 0, none⟩) (show g < w1.heap.size by have := Hgl.out; have := S1.out; have := S2.out; have := S3.out; omega) (.int .i64 a2)).st (p := ⟨w.heap.size, 0, none⟩) (show g < w.heap.size by have := Hgl.out; have := S1.out; have := S2.out; have := S3.out; omega) (.int .i64 a2)).st (p := ⟨w.heap.size, 1, none⟩) (show g < w.heap.size by have := Hgl.out; have := S1.out; have := S2.out; have := S3.out; omega) (.int .i64 b)).mono (by omega), (((Hd3.out.st (p := ⟨w1.heap.size, 0, none⟩) (show w.heap.size ≤ w1.heap.size by have := Hgl.out; have := S1.out; have := S2.out; have := S3.out; omega) (.int .i64 a2)).st (p := ⟨w.heap.size, 0, none⟩) (show w.heap.size ≤ w.heap.size by have := Hgl.out; have := S1.out; have := S2.out; have := S3.out; omega) (.int .i64 a2)).st (p := ⟨w.heap.size, 1, none⟩) (show w.heap.size ≤ w.heap.size by have := Hgl.out; have := S1.out; have := S2.out; have := S3.out; omega) (.int .i64 b))⟩
  · by_cases ex1 : x = 1
    · have zx1 : (x == 1) = true := by rw [ex1]; rfl
      have zx0 : (x == 0) = false := by rw [ex1]; rfl
      clear ex0 ex1
      go_wp2_with fail
      refine (among_lit g (k + 32) (w2.heap.size) [-10001, -10000, 10000, 10001, 9223372036854775807] w2 (by simp) Hc2.out (by simp) (by simp) (by have := Hk.out; omega)).mono ?_; rintro e w4 ⟨⟨b2, hb2, rfl⟩, hc4, hd4⟩
      have S4 := Lib.hid (show w2.heap.size + 1 ≤ w4.heap.size by have h9 := hd4.size; (try simp only [World.size_alloc, World.size_setCell] at h9); omega)
      have NR := Lib.hid ((R.out.alloc _).dg hd4 (show w.heap.size ≠ g by have := Hgl.out; have := S1.out; have := S2.out; have := S4.out; omega))
      have NE := Lib.hid ((E.out.alloc _).dg hd4 (show w1.heap.size ≠ g by have := Hgl.out; have := S1.out; have := S2.out; have := S4.out; omega))
      have R := NR; clear NR
      have E := NE; clear NE
      have Hc4 := Lib.hid (hc4.mono (j := k + 34) (by omega))
      have Hd4 := Lib.hid ((Hd2.out.alloc _).trans hd4)
      clear hc4 hd4
      have qE0 := E.out.cell 0
      have qE1 := E.out.cell 1
      simp at qE0 qE1
      have qEl := E.out.lt
      have qEf := E.out.frozen
      have qR0 := R.out.cell 0
      have qR1 := R.out.cell 1
      simp at qR0 qR1
      have qRl := R.out.lt
      have qRf := R.out.frozen
      have nER : w1.heap.size ≠ w.heap.size := by have := Hgl.out; have := S1.out; have := S2.out; have := S4.out; omega
      have nRE : w.heap.size ≠ w1.heap.size := fun e => nER e.symm
      go_wp2
      clear qE0 qE1 qEl qEf qR0 qR1 qRl qRf nER nRE
      have HR9 := (show Blk (World.setCell (World.setCell (World.setCell w4 ⟨w1.heap.size, 1, none⟩ (.int .i64 b2)) ⟨w.heap.size, 0, none⟩ (.int .i64 a)) ⟨w.heap.size, 1, none⟩ (.int .i64 b2)) (w.heap.size) 25 #[.int .i64 a, .int .i64 b2] by have h9 := (((R.out.far (p := ⟨w1.heap.size, 1, none⟩) (show w.heap.size ≠ w1.heap.size by have := Hgl.out; have := S1.out; have := S2.out; have := S4.out; omega) (.int .i64 b2)).set 0 (.int .i64 a)).set 1 (.int .i64 b2)); simpa using h9)
      have k0 := HR9.cell 0
      have k1 := HR9.cell 1
      simp at k0 k1
      exact bodyPost_ret (v := .agg #[.int .i64 a, .int .i64 b2]) (by simp [results, Tryz.results103, go_sem, k0, k1]) rfl ⟨⟨_, _, rfl⟩, (((Hc4.out.st (p := ⟨w1.heap.size, 1, none⟩) (show g < w1.heap.size by have := Hgl.out; have := S1.out; have := S2.out; have := S4.out; omega) (.int .i64 b2)).st (p := ⟨w.heap.size, 0, none⟩) (show g < w.heap.size by have := Hgl.out; have := S1.out; have := S2.out; have := S4.out; omega) (.int .i64 a)).st (p := ⟨w.heap.size, 1, none⟩) (show g < w.heap.size by have := Hgl.out; have := S1.out; have := S2.out; have := S4.out; omega) (.int .i64 b2)).mono (by omega), (((Hd4.out.st (p := ⟨w1.heap.size, 1, none⟩) (show w.heap.size ≤ w1.heap.size by have := Hgl.out; have := S1.out; have := S2.out; have := S4.out; omega) (.int .i64 b2)).st (p := ⟨w.heap.size, 0, none⟩) (show w.heap.size ≤ w.heap.size by have := Hgl.out; have := S1.out; have := S2.out; have := S4.out; omega) (.int .i64 a)).st (p := ⟨w.heap.size, 1, none⟩) (show w.heap.size ≤ w.heap.size by have := Hgl.out; have := S1.out; have := S2.out; have := S4.out; omega) (.int .i64 b2))⟩
    · by_cases ex2 : x = 2
      · have zx2 : (x == 2) = true := by rw [ex2]; rfl
        have zx0 : (x == 0) = false := by rw [ex2]; rfl
        have zx1 : (x == 1) = false := by rw [ex2]; rfl
        clear ex0 ex1 ex2
        go_wp2_with fail
        refine (among_lit g (k + 32) (w2.heap.size) [0, -3, -12] w2 (by simp) Hc2.out (by simp) (by simp) (by have := Hk.out; omega)).mono ?_; rintro e w5 ⟨⟨a2, ha2, rfl⟩, hc5, hd5⟩
        have S5 := Lib.hid (show w2.heap.size + 1 ≤ w5.heap.size by have h9 := hd5.size; (try simp only [World.size_alloc, World.size_setCell] at h9); omega)
        have NR := Lib.hid ((R.out.alloc _).dg hd5 (show w.heap.size ≠ g by have := Hgl.out; have := S1.out; have := S2.out; have := S5.out; omega))
        have NE := Lib.hid ((E.out.alloc _).dg hd5 (show w1.heap.size ≠ g by have := Hgl.out; have := S1.out; have := S2.out; have := S5.out; omega))
        have R := NR; clear NR
        have E := NE; clear NE
        have Hc5 := Lib.hid (hc5.mono (j := k + 34) (by omega))
        have Hd5 := Lib.hid ((Hd2.out.alloc _).trans hd5)
        clear hc5 hd5
        go_wp2_with fail
        refine (among_lit g (k + 34) (w5.heap.size) [0, 2, 16] w5 (by simp) Hc5.out (by simp) (by simp) (by have := Hk.out; omega)).mono ?_; rintro e w6 ⟨⟨b2, hb2, rfl⟩, hc6, hd6⟩
        have S6 := Lib.hid (show w5.heap.size + 1 ≤ w6.heap.size by have h9 := hd6.size; (try simp only [World.size_alloc, World.size_setCell] at h9); omega)
        have NR := Lib.hid ((R.out.alloc _).dg hd6 (show w.heap.size ≠ g by have := Hgl.out; have := S1.out; have := S2.out; have := S5.out; have := S6.out; omega))
        have NE := Lib.hid ((E.out.alloc _).dg hd6 (show w1.heap.size ≠ g by have := Hgl.out; have := S1.out; have := S2.out; have := S5.out; have := S6.out; omega))
        have R := NR; clear NR
        have E := NE; clear NE
        have Hc6 := Lib.hid (hc6.mono (j := k + 36) (by omega))
        have Hd6 := Lib.hid ((Hd5.out.alloc _).trans hd6)
        clear hc6 hd6
        have qE0 := E.out.cell 0
        have qE1 := E.out.cell 1
        simp at qE0 qE1
        have qEl := E.out.lt
        have qEf := E.out.frozen
        have qR0 := R.out.cell 0
        have qR1 := R.out.cell 1
        simp at qR0 qR1
        have qRl := R.out.lt
        have qRf := R.out.frozen
        have nER : w1.heap.size ≠ w.heap.size := by have := Hgl.out; have := S1.out; have := S2.out; have := S5.out; have := S6.out; omega
        have nRE : w.heap.size ≠ w1.heap.size := fun e => nER e.symm
        go_wp2
        clear qE0 qE1 qEl qEf qR0 qR1 qRl qRf nER nRE
        have HR9 := (show Blk (World.setCell (World.setCell (World.setCell (World.setCell w6 ⟨w1.heap.size, 0, none⟩ (.int .i64 a2)) ⟨w1.heap.size, 1, none⟩ (.int .i64 b2)) ⟨w.heap.size, 0, none⟩ (.int .i64 a2)) ⟨w.heap.size, 1, none⟩ (.int .i64 b2)) (w.heap.size) 25 #[.int .i64 a2, .int .i64 b2] by have h9 := ((((R.out.far (p := ⟨w1.heap.size, 0, none⟩) (show w.heap.size ≠ w1.heap.size by have := Hgl.out; have := S1.out; have := S2.out; have := S5.out; have := S6.out; omega) (.int .i64 a2)).far (p := ⟨w1.heap.size, 1, none⟩) (show w.heap.size ≠ w1.heap.size by have := Hgl.out; have := S1.out; have := S2.out; have := S5.out; have := S6.out; omega) (.int .i64 b2)).set 0 (.int .i64 a2)).set 1 (.int .i64 b2)); simpa using h9)
        have k0 := HR9.cell 0
        have k1 := HR9.cell 1
        simp at k0 k1
        exact bodyPost_ret (v := .agg #[.int .i64 a2, .int .i64 b2]) (by simp [results, Tryz.results103, go_sem, k0, k1]) rfl ⟨⟨_, _, rfl⟩, ((((Hc6.out.st (p := ⟨w1.heap.size, 0, none⟩) (show g < w1.heap.size by have := Hgl.out; have := S1.out; have := S2.out; have := S5.out; have := S6.out; omega) (.int .i64 a2)).st (p := ⟨w1.heap.size, 1, none⟩) (show g < w1.heap.size by have := Hgl.out; have := S1.out; have := S2.out; have := S5.out; have := S6.out; omega) (.int .i64 b2)).st (p := ⟨w.heap.size, 0, none⟩) (show g < w.heap.size by have := Hgl.out; have := S1.out; have := S2.out; have := S5.out; have := S6.out; omega) (.int .i64 a2)).st (p := ⟨w.heap.size, 1, none⟩) (show g < w.heap.size by have := Hgl.out; have := S1.out; have := S2.out; have := S5.out; have := S6.out; omega) (.int .i64 b2)).mono (by omega), ((((Hd6.out.st (p := ⟨w1.heap.size, 0, none⟩) (show w.heap.size ≤ w1.heap.size by have := Hgl.out; have := S1.out; have := S2.out; have := S5.out; have := S6.out; omega) (.int .i64 a2)).st (p := ⟨w1.heap.size, 1, none⟩) (show w.heap.size ≤ w1.heap.size by have := Hgl.out; have := S1.out; have := S2.out; have := S5.out; have := S6.out; omega) (.int .i64 b2)).st (p := ⟨w.heap.size, 0, none⟩) (show w.heap.size ≤ w.heap.size by have := Hgl.out; have := S1.out; have := S2.out; have := S5.out; have := S6.out; omega) (.int .i64 a2)).st (p := ⟨w.heap.size, 1, none⟩) (show w.heap.size ≤ w.heap.size by have := Hgl.out; have := S1.out; have := S2.out; have := S5.out; have := S6.out; omega) (.int .i64 b2))⟩
      · have zx0 : (x == 0) = false := beq_eq_false_iff_ne.2 ex0
        have zx1 : (x == 1) = false := beq_eq_false_iff_ne.2 ex1
        have zx2 : (x == 2) = false := beq_eq_false_iff_ne.2 ex2
        clear ex0 ex1 ex2
        have qE0 := E.out.cell 0
        have qE1 := E.out.cell 1
        simp at qE0 qE1
        have qEl := E.out.lt
        have qR0 := R.out.cell 0
        have qR1 := R.out.cell 1
        simp at qR0 qR1
        have qRl := R.out.lt
        have qRf := R.out.frozen
        have nER : w1.heap.size ≠ w.heap.size := by have := Hgl.out; have := S1.out; have := S2.out; omega
        have nRE : w.heap.size ≠ w1.heap.size := fun e => nER e.symm
        go_wp2
        clear qE0 qE1 qEl qR0 qR1 qRl qRf nER nRE
        have HR9 := (show Blk (World.setCell (World.setCell w2 ⟨w.heap.size, 0, none⟩ (.int .i64 a)) ⟨w.heap.size, 1, none⟩ (.int .i64 b)) (w.heap.size) 25 #[.int .i64 a, .int .i64 b] by have h9 := ((R.out.set 0 (.int .i64 a)).set 1 (.int .i64 b)); simpa using h9)
        have k0 := HR9.cell 0
        have k1 := HR9.cell 1
        simp at k0 k1
        exact bodyPost_ret (v := .agg #[.int .i64 a, .int .i64 b]) (by simp [results, Tryz.results103, go_sem, k0, k1]) rfl ⟨⟨_, _, rfl⟩, ((Hc2.out.st (p := ⟨w.heap.size, 0, none⟩) (show g < w.heap.size by have := Hgl.out; have := S1.out; have := S2.out; omega) (.int .i64 a)).st (p := ⟨w.heap.size, 1, none⟩) (show g < w.heap.size by have := Hgl.out; have := S1.out; have := S2.out; omega) (.int .i64 b)).mono (by omega), ((Hd2.out.st (p := ⟨w.heap.size, 0, none⟩) (show w.heap.size ≤ w.heap.size by have := Hgl.out; have := S1.out; have := S2.out; omega) (.int .i64 a)).st (p := ⟨w.heap.size, 1, none⟩) (show w.heap.size ≤ w.heap.size by have := Hgl.out; have := S1.out; have := S2.out; omega) (.int .i64 b))⟩
end
end Go.Proofs.YtacehhcpfollnaaGreat
