/- The reference's source of drawn records and journals. Conditions: a bound on how far the cursor has come; a slice of bytes. Printed by gen_drq.py. -/
import Derived.Test.YtimfoodbolokdaaGreatDoorEtM10
import Derived.Test.YtimfoodbolokdaaGreatDoorRvP
import Derived.Test.YtimfoodbolokdaaGreatDoorAppR
import Derived.Deep.DeepCutAuto
import Derived.Deep.RegionHeld3
namespace Go.Proofs.YtimfoodbolokdaaGreatDoor
open Go Go.RowKit

theorem Cur.new2 {w : World} {A : Option Addr} {n : Nat} (h : BytesAt w w.heap.size A n) (c : Nat) (o p : Obj) : Cur (((w.alloc o).alloc p).alloc (.cells #[.slice A n c, .int .i64 0, .int .u64 0] 106)) (w.heap.size + 2) 0 := by
  have := Cur.new1 (h.al o) c p
  rwa [World.size_alloc] at this
theorem jr_app_size {D P X Y : ByteArray} {a b lo hi : Int} (h : apV D P a b lo hi = (X, Y, true)) : X.size + Y.size ≤ 1240 := by
  unfold apV at h
  split at h
  · rename_i hh
    simp only [Prod.mk.injEq, and_true] at h
    obtain ⟨rfl, rfl⟩ := h
    unfold apOk at hh
    simp only [Bool.and_eq_true, decide_eq_true_eq] at hh
    obtain ⟨hok, hr, hn⟩ := hh
    have hs := jr_size hok
    have hl := line_len (k := ((jrV D P).length : Int)) (r := ⟨a, b, lo, hi⟩) hr (by rw [jrV_ok hok] at hn ⊢; have := jrRecs_len D P; omega)
    rw [ByteArray.size_append]
    have e : (Rc.line ((jrV D P).length : Int) ⟨a, b, lo, hi⟩) = lineS (jrV D P).length a b lo hi := rfl
    rw [e] at hl
    omega
  · simp at h

set_option linter.unusedSimpArgs false in
set_option maxRecDepth 8000 in
set_option maxHeartbeats 16000000 in
theorem record_any (g k : Nat) (w : World) (hc : Cur w g k) (hk : k ≤ 600000) :
    Calls Tryz.prog 135 #[.pointer (some ⟨g, 0, none⟩)] w fun e w' => (∃ a b lo hi : Int, e = .returned (.agg #[.int .i64 a, .int .i64 b, .int .i64 lo, .int .i64 hi])) ∧ Cur w' g (k + 60) ∧ Dg g w w' := by
  have Hgl := Lib.hid hc.lt
  have Hc := Lib.hid hc; have Hk := Lib.hid hk; have Hd := Lib.hid (Dg.refl g w); clear hc hk
  go_enter Tryz.func135, Tryz.ntmps135
  go_wp2_with fail
  refine (anyEntry_any g k _ (Hc.out.alloc _) (by have := Hk.out; omega)).mono ?_; rintro e w1 ⟨⟨a, b, lo, hi, t, rfl⟩, hc1, hd1⟩
  have S1 := Lib.hid (show w.heap.size + 1 ≤ w1.heap.size by have h9 := hd1.size; (try simp only [World.size_alloc, World.size_setCell] at h9); omega)
  have NR := Lib.hid ((Blk.new w 78 #[.int .i64 0, .int .i64 0, .int .i64 0, .int .i64 0]).dg hd1 (show w.heap.size ≠ g by have := Hgl.out; have := S1.out; omega))
  have R := NR; clear NR
  have Hc1 := Lib.hid (hc1.mono (j := k + 60) (by omega))
  have Hd1 := Lib.hid ((Hd.out.alloc _).trans hd1)
  clear hc1 hd1
  have qR0 := R.out.cell 0
  have qR1 := R.out.cell 1
  have qR2 := R.out.cell 2
  have qR3 := R.out.cell 3
  simp at qR0 qR1 qR2 qR3
  have qRl := R.out.lt
  have qRf := R.out.frozen
  go_wp2
  clear qR0 qR1 qR2 qR3 qRl qRf
  have HR9 := (show Blk (World.alloc (World.setCell (World.setCell (World.setCell (World.setCell w1 ⟨w.heap.size, 0, none⟩ (.int .i64 a)) ⟨w.heap.size, 1, none⟩ (.int .i64 b)) ⟨w.heap.size, 2, none⟩ (.int .i64 lo)) ⟨w.heap.size, 3, none⟩ (.int .i64 hi)) (Obj.cells #[.int .i64 a, .int .i64 b, .int .i64 lo, .int .i64 hi, .int .i64 t] 29)) (w.heap.size) 78 #[.int .i64 a, .int .i64 b, .int .i64 lo, .int .i64 hi] by have h9 := (((((R.out.set 0 (.int .i64 a)).set 1 (.int .i64 b)).set 2 (.int .i64 lo)).set 3 (.int .i64 hi)).alloc (Obj.cells #[.int .i64 a, .int .i64 b, .int .i64 lo, .int .i64 hi, .int .i64 t] 29)); simpa using h9)
  have k0 := HR9.cell 0
  have k1 := HR9.cell 1
  have k2 := HR9.cell 2
  have k3 := HR9.cell 3
  simp at k0 k1 k2 k3
  exact bodyPost_ret (v := .agg #[.int .i64 a, .int .i64 b, .int .i64 lo, .int .i64 hi]) (by simp [results, Tryz.results135, go_sem, k0, k1, k2, k3]) rfl ⟨⟨a, b, lo, hi, rfl⟩, (((((Hc1.out.st (p := ⟨w.heap.size, 0, none⟩) (show g < w.heap.size by have := Hgl.out; have := S1.out; omega) (.int .i64 a)).st (p := ⟨w.heap.size, 1, none⟩) (show g < w.heap.size by have := Hgl.out; have := S1.out; omega) (.int .i64 b)).st (p := ⟨w.heap.size, 2, none⟩) (show g < w.heap.size by have := Hgl.out; have := S1.out; omega) (.int .i64 lo)).st (p := ⟨w.heap.size, 3, none⟩) (show g < w.heap.size by have := Hgl.out; have := S1.out; omega) (.int .i64 hi)).alloc (Obj.cells #[.int .i64 a, .int .i64 b, .int .i64 lo, .int .i64 hi, .int .i64 t] 29)).mono (by omega), (((((Hd1.out.st (p := ⟨w.heap.size, 0, none⟩) (show w.heap.size ≤ w.heap.size by have := Hgl.out; have := S1.out; omega) (.int .i64 a)).st (p := ⟨w.heap.size, 1, none⟩) (show w.heap.size ≤ w.heap.size by have := Hgl.out; have := S1.out; omega) (.int .i64 b)).st (p := ⟨w.heap.size, 2, none⟩) (show w.heap.size ≤ w.heap.size by have := Hgl.out; have := S1.out; omega) (.int .i64 lo)).st (p := ⟨w.heap.size, 3, none⟩) (show w.heap.size ≤ w.heap.size by have := Hgl.out; have := S1.out; omega) (.int .i64 hi)).alloc (Obj.cells #[.int .i64 a, .int .i64 b, .int .i64 lo, .int .i64 hi, .int .i64 t] 29))⟩
set_option linter.unusedSimpArgs false in
set_option maxRecDepth 8000 in
set_option maxHeartbeats 16000000 in
theorem journal_any (g k : Nat) (w : World) (hc : Cur w g k) (hk : k ≤ 400000) :
    Calls Tryz.prog 154 #[.pointer (some ⟨g, 0, none⟩)] w fun e w' => (∃ D P : ByteArray, D.size + P.size ≤ 1240 ∧ e = .returned (.agg #[.string D, .string P])) ∧ Cur w' g (k + 3000) ∧ Dg g w w' := by
  have Hgl := Lib.hid hc.lt
  have Hc := Lib.hid hc; have Hk := Lib.hid hk; have Hd := Lib.hid (Dg.refl g w); clear hc hk
  go_enter Tryz.func154, Tryz.ntmps154
  go_wp2_with fail
  refine (pick_any g k (7) _ ((Hc.out.alloc (Obj.cells #[.string (⟨#[]⟩ : ByteArray), .string (⟨#[]⟩ : ByteArray)] 76)).alloc (Obj.cells #[.string (⟨#[]⟩ : ByteArray), .string (⟨#[]⟩ : ByteArray)] 76)) (by have := Hk.out; omega)).mono ?_; rintro e w1 ⟨⟨x, lx, ux, rfl⟩, hc1, hd1⟩
  have S1 := Lib.hid (show w.heap.size + 2 ≤ w1.heap.size by have h9 := hd1.size; (try simp only [World.size_alloc, World.size_setCell] at h9); omega)
  have NR := Lib.hid (((Blk.new w 76 #[.string (⟨#[]⟩ : ByteArray), .string (⟨#[]⟩ : ByteArray)]).alloc (Obj.cells #[.string (⟨#[]⟩ : ByteArray), .string (⟨#[]⟩ : ByteArray)] 76)).dg hd1 (show w.heap.size ≠ g by have := Hgl.out; have := S1.out; omega))
  have NJ := Lib.hid ((show Blk (World.alloc (World.alloc w (Obj.cells #[.string (⟨#[]⟩ : ByteArray), .string (⟨#[]⟩ : ByteArray)] 76)) (Obj.cells #[.string (⟨#[]⟩ : ByteArray), .string (⟨#[]⟩ : ByteArray)] 76)) (w.heap.size + 1) 76 #[.string (⟨#[]⟩ : ByteArray), .string (⟨#[]⟩ : ByteArray)] by have h9 := (Blk.new (World.alloc w (Obj.cells #[.string (⟨#[]⟩ : ByteArray), .string (⟨#[]⟩ : ByteArray)] 76)) 76 #[.string (⟨#[]⟩ : ByteArray), .string (⟨#[]⟩ : ByteArray)]); (try simp only [World.size_alloc, World.size_setCell] at h9); exact h9).dg hd1 (show w.heap.size + 1 ≠ g by have := Hgl.out; have := S1.out; omega))
  have R := NR; clear NR
  have J := NJ; clear NJ
  have Hc1 := Lib.hid (hc1.mono (j := k + 2) (by omega))
  have Hd1 := Lib.hid (((Hd.out.alloc (Obj.cells #[.string (⟨#[]⟩ : ByteArray), .string (⟨#[]⟩ : ByteArray)] 76)).alloc (Obj.cells #[.string (⟨#[]⟩ : ByteArray), .string (⟨#[]⟩ : ByteArray)] 76)).trans hd1)
  clear hc1 hd1
  obtain ⟨x, rfl⟩ : ∃ q : Nat, x = q := ⟨x.toNat, by omega⟩
  have hx6 : x ≤ 6 := by omega
  clear lx ux
  go_wp2_with fail
  refine (one_any g (k + 2) (16) _ Hc1.out (by have := Hk.out; omega)).mono ?_; rintro e w2 ⟨⟨c, rfl⟩, hc2, hd2⟩
  have S2 := Lib.hid (show w1.heap.size + 0 ≤ w2.heap.size by have h9 := hd2.size; (try simp only [World.size_alloc, World.size_setCell] at h9); omega)
  have NR := Lib.hid (R.out.dg hd2 (show w.heap.size ≠ g by have := Hgl.out; have := S1.out; have := S2.out; omega))
  have NJ := Lib.hid (J.out.dg hd2 (show w.heap.size + 1 ≠ g by have := Hgl.out; have := S1.out; have := S2.out; omega))
  have R := NR; clear NR
  have J := NJ; clear NJ
  have Hc2 := Lib.hid (hc2.mono (j := k + 4) (by omega))
  have Hd2 := Lib.hid (Hd1.out.trans hd2)
  clear hc2 hd2
  have hst : ∃ y : Nat, y ≤ 30 ∧ (if c = true then (30 : Int) else (x : Int)) = (y : Int) := by cases c; exact ⟨x, by omega, rfl⟩; exact ⟨30, by omega, rfl⟩
  clear hst
  cases c
  · go_wp2
    go_loopw [4] (fun n wr => ∃ (q : Nat) (D P : ByteArray), q ≤ 30 ∧ n = .int .i64 (q : Int) ∧ D.size + P.size ≤ 1240 ∧ Hid (Blk wr (w.heap.size + 1) 76 #[.string D, .string P]) ∧ Hid (Blk wr w.heap.size 76 #[.string (⟨#[]⟩ : ByteArray), .string (⟨#[]⟩ : ByteArray)]) ∧ Hid (Cur wr g (k + 4 + 70 * (30 - q))) ∧ Hid (Dg g w wr)) (fun n _ => (intOf n).toNat)
    case atStart => exact ⟨x, ⟨#[]⟩, ⟨#[]⟩, by omega, rfl, by decide, J, R, Lib.hid (Hc2.out.mono (by omega)), Hd2⟩
    case round =>
      obtain ⟨q, D, P, hq30, rfl, hDP, J, R, Hcr, Hdr⟩ := hrel
      have Sr := Lib.hid (show w.heap.size + 2 ≤ wr.heap.size by have := J.out.lt; omega)
      have hD0 : D.size ≤ 1240 := by omega
      have hP0 : P.size ≤ 1240 := by omega
      by_cases hq0 : 0 < q
      · have hq1 : (0 : Int) < (q : Int) := by omega
        have qJ0 := J.out.cell 0
        have qJ1 := J.out.cell 1
        simp at qJ0 qJ1
        have qJl := J.out.lt
        go_wp2_with fail
        refine (record_any g (k + 4 + 70 * (30 - q)) _ Hcr.out (by have := Hk.out; omega)).mono ?_; rintro e w3 ⟨⟨a, b, lo, hi, rfl⟩, hc3, hd3⟩
        clear qJ0 qJ1 qJl
        have S3 := Lib.hid (show wr.heap.size + 0 ≤ w3.heap.size by have h9 := hd3.size; (try simp only [World.size_alloc, World.size_setCell] at h9); omega)
        have NJ := Lib.hid (J.out.dg hd3 (show w.heap.size + 1 ≠ g by have := Hgl.out; have := Sr.out; have := S3.out; omega))
        have NR := Lib.hid (R.out.dg hd3 (show w.heap.size ≠ g by have := Hgl.out; have := Sr.out; have := S3.out; omega))
        have J := NJ; clear NJ
        have R := NR; clear NR
        have Hc3 := Lib.hid (hc3.mono (j := (k + 4 + 70 * (30 - q)) + 60) (by omega))
        have Hd3 := Lib.hid (Hdr.out.trans hd3)
        clear hc3 hd3
        by_cases hq7 : 7 < q
        · have hq8 : (7 : Int) < (q : Int) := by omega
          have e14 : 0 ≤ ((q : Int)).tmod 14 ∧ ((q : Int)).tmod 14 ≤ 13 := by rw [Int.tmod_eq_emod_of_nonneg (by omega)]; omega
          have e2 : 0 ≤ ((q : Int)).tmod 2 ∧ ((q : Int)).tmod 2 ≤ 1 := by rw [Int.tmod_eq_emod_of_nonneg (by omega)]; omega
          have e3 : 0 ≤ ((q : Int)).tmod 3 ∧ ((q : Int)).tmod 3 ≤ 2 := by rw [Int.tmod_eq_emod_of_nonneg (by omega)]; omega
          obtain ⟨e30, e31⟩ := e3
          obtain ⟨X, Y, ok, hap⟩ : ∃ X Y ok, apV D P (1) ((q : Int) % 14) ((q : Int) % 2) (2 + (q : Int) % 3) = (X, Y, ok) := ⟨_, _, _, rfl⟩
          have hsp := fun W => specApp_any D P (1) ((q : Int) % 14) ((q : Int) % 2) (2 + (q : Int) % 3) W ⟨by omega⟩
          rw [hap] at hsp
          have Hsp := Lib.hid hsp; clear hsp
          have qJ0 := J.out.cell 0
          have qJ1 := J.out.cell 1
          simp at qJ0 qJ1
          have qJl := J.out.lt
          go_wp2_with fail
          refine (Hsp.out _).mono ?_; rintro e w4 ⟨rfl, hd4⟩
          clear qJ0 qJ1 qJl
          have S4 := Lib.hid (show w3.heap.size + 1 ≤ w4.heap.size by have h9 := hd4.size; (try simp only [World.size_alloc, World.size_setCell] at h9); omega)
          have NJ := Lib.hid ((J.out.alloc _).dg (Dg.of_below (g := g) hd4) (show w.heap.size + 1 ≠ g by have := Hgl.out; have := Sr.out; have := S3.out; have := S4.out; omega))
          have NR := Lib.hid ((R.out.alloc _).dg (Dg.of_below (g := g) hd4) (show w.heap.size ≠ g by have := Hgl.out; have := Sr.out; have := S3.out; have := S4.out; omega))
          have NE := Lib.hid ((Blk.new w3 78 #[.int .i64 1, .int .i64 ((q : Int) % 14), .int .i64 ((q : Int) % 2), .int .i64 (2 + (q : Int) % 3)]).dg (Dg.of_below (g := g) hd4) (show w3.heap.size ≠ g by have := Hgl.out; have := Sr.out; have := S3.out; have := S4.out; omega))
          have J := NJ; clear NJ
          have R := NR; clear NR
          have E := NE; clear NE
          have Hc4 := Lib.hid ((Hc3.out.alloc _).on hd4)
          have Hd4 := Lib.hid ((Hd3.out.alloc _).trans (Dg.of_below (g := g) hd4))
          clear hd4
          clear Hsp
          cases ok
          · clear hap
            have qJ0 := J.out.cell 0
            have qJ1 := J.out.cell 1
            simp at qJ0 qJ1
            have qJl := J.out.lt
            go_wp2_with fail
            refine (one_any g ((k + 4 + 70 * (30 - q)) + 60) (4) _ (Hc4.out.alloc _) (by have := Hk.out; omega)).mono ?_; rintro e w5 ⟨⟨c4, rfl⟩, hc5, hd5⟩
            clear qJ0 qJ1 qJl
            have S5 := Lib.hid (show w4.heap.size + 1 ≤ w5.heap.size by have h9 := hd5.size; (try simp only [World.size_alloc, World.size_setCell] at h9); omega)
            have NJ := Lib.hid ((J.out.alloc _).dg hd5 (show w.heap.size + 1 ≠ g by have := Hgl.out; have := Sr.out; have := S3.out; have := S4.out; have := S5.out; omega))
            have NR := Lib.hid ((R.out.alloc _).dg hd5 (show w.heap.size ≠ g by have := Hgl.out; have := Sr.out; have := S3.out; have := S4.out; have := S5.out; omega))
            have NE := Lib.hid ((E.out.alloc _).dg hd5 (show w3.heap.size ≠ g by have := Hgl.out; have := Sr.out; have := S3.out; have := S4.out; have := S5.out; omega))
            have NN := Lib.hid ((Blk.new w4 76 #[.string X, .string Y]).dg hd5 (show w4.heap.size ≠ g by have := Hgl.out; have := Sr.out; have := S3.out; have := S4.out; have := S5.out; omega))
            have J := NJ; clear NJ
            have R := NR; clear NR
            have E := NE; clear NE
            have N := NN; clear NN
            have Hc5 := Lib.hid (hc5.mono (j := (k + 4 + 70 * (30 - q)) + 62) (by omega))
            have Hd5 := Lib.hid ((Hd4.out.alloc _).trans hd5)
            clear hc5 hd5
            cases c4
            · go_wp2
              go_roundw
              case rel => exact ⟨q - 1, D, P, by omega, by go_num, by omega, Lib.hid J.out, Lib.hid R.out, Lib.hid (Hc5.out.mono (by omega)), Lib.hid Hd5.out⟩
              case measure => simp [intOf]; omega
            · have qJ0 := J.out.cell 0
              have qJ1 := J.out.cell 1
              simp at qJ0 qJ1
              have qJl := J.out.lt
              have qJf := J.out.frozen
              go_wp2
              go_roundw
              case rel => exact ⟨q - 1, (D ++ P), ⟨#[]⟩, by omega, by go_num, by rw [ByteArray.size_append]; show D.size + P.size + 0 ≤ 1240; omega, Lib.hid (show Blk (World.setCell (World.setCell w5 ⟨w.heap.size + 1, 0, none⟩ (.string (D ++ P))) ⟨w.heap.size + 1, 1, none⟩ (.string (⟨#[]⟩ : ByteArray))) (w.heap.size + 1) 76 #[.string (D ++ P), .string (⟨#[]⟩ : ByteArray)] by have h9 := ((J.out.set 0 (.string (D ++ P))).set 1 (.string (⟨#[]⟩ : ByteArray))); simpa using h9), Lib.hid ((R.out.far (p := ⟨w.heap.size + 1, 0, none⟩) (show w.heap.size ≠ w.heap.size + 1 by have := Hgl.out; have := Sr.out; have := S3.out; have := S4.out; have := S5.out; omega) (.string (D ++ P))).far (p := ⟨w.heap.size + 1, 1, none⟩) (show w.heap.size ≠ w.heap.size + 1 by have := Hgl.out; have := Sr.out; have := S3.out; have := S4.out; have := S5.out; omega) (.string (⟨#[]⟩ : ByteArray))), Lib.hid (((Hc5.out.st (p := ⟨w.heap.size + 1, 0, none⟩) (show g < w.heap.size + 1 by have := Hgl.out; have := Sr.out; have := S3.out; have := S4.out; have := S5.out; omega) (.string (D ++ P))).st (p := ⟨w.heap.size + 1, 1, none⟩) (show g < w.heap.size + 1 by have := Hgl.out; have := Sr.out; have := S3.out; have := S4.out; have := S5.out; omega) (.string (⟨#[]⟩ : ByteArray))).mono (by omega)), Lib.hid ((Hd5.out.st (p := ⟨w.heap.size + 1, 0, none⟩) (show w.heap.size ≤ w.heap.size + 1 by have := Hgl.out; have := Sr.out; have := S3.out; have := S4.out; have := S5.out; omega) (.string (D ++ P))).st (p := ⟨w.heap.size + 1, 1, none⟩) (show w.heap.size ≤ w.heap.size + 1 by have := Hgl.out; have := Sr.out; have := S3.out; have := S4.out; have := S5.out; omega) (.string (⟨#[]⟩ : ByteArray)))⟩
              case measure => simp [intOf]; omega
          · have hXY := jr_app_size hap
            have hX0 : X.size ≤ 1240 := by omega
            have hY0 : Y.size ≤ 1240 := by omega
            clear hap
            have qJ0 := J.out.cell 0
            have qJ1 := J.out.cell 1
            simp at qJ0 qJ1
            have qJl := J.out.lt
            have qJf := J.out.frozen
            go_wp2_with fail
            refine (one_any g ((k + 4 + 70 * (30 - q)) + 60) (4) _ (((Hc4.out.st (p := ⟨w.heap.size + 1, 0, none⟩) (show g < w.heap.size + 1 by have := Hgl.out; have := Sr.out; have := S3.out; have := S4.out; omega) (.string X)).st (p := ⟨w.heap.size + 1, 1, none⟩) (show g < w.heap.size + 1 by have := Hgl.out; have := Sr.out; have := S3.out; have := S4.out; omega) (.string Y)).alloc (Obj.cells #[.string X, .string Y] 76)) (by have := Hk.out; omega)).mono ?_; rintro e w6 ⟨⟨c4, rfl⟩, hc6, hd6⟩
            clear qJ0 qJ1 qJl qJf
            have S6 := Lib.hid (show w4.heap.size + 1 ≤ w6.heap.size by have h9 := hd6.size; (try simp only [World.size_alloc, World.size_setCell] at h9); omega)
            have NJ := Lib.hid ((show Blk (World.alloc (World.setCell (World.setCell w4 ⟨w.heap.size + 1, 0, none⟩ (.string X)) ⟨w.heap.size + 1, 1, none⟩ (.string Y)) (Obj.cells #[.string X, .string Y] 76)) (w.heap.size + 1) 76 #[.string X, .string Y] by have h9 := (((J.out.set 0 (.string X)).set 1 (.string Y)).alloc (Obj.cells #[.string X, .string Y] 76)); simpa using h9).dg hd6 (show w.heap.size + 1 ≠ g by have := Hgl.out; have := Sr.out; have := S3.out; have := S4.out; have := S6.out; omega))
            have NR := Lib.hid ((((R.out.far (p := ⟨w.heap.size + 1, 0, none⟩) (show w.heap.size ≠ w.heap.size + 1 by have := Hgl.out; have := Sr.out; have := S3.out; have := S4.out; have := S6.out; omega) (.string X)).far (p := ⟨w.heap.size + 1, 1, none⟩) (show w.heap.size ≠ w.heap.size + 1 by have := Hgl.out; have := Sr.out; have := S3.out; have := S4.out; have := S6.out; omega) (.string Y)).alloc (Obj.cells #[.string X, .string Y] 76)).dg hd6 (show w.heap.size ≠ g by have := Hgl.out; have := Sr.out; have := S3.out; have := S4.out; have := S6.out; omega))
            have NE := Lib.hid ((((E.out.far (p := ⟨w.heap.size + 1, 0, none⟩) (show w3.heap.size ≠ w.heap.size + 1 by have := Hgl.out; have := Sr.out; have := S3.out; have := S4.out; have := S6.out; omega) (.string X)).far (p := ⟨w.heap.size + 1, 1, none⟩) (show w3.heap.size ≠ w.heap.size + 1 by have := Hgl.out; have := Sr.out; have := S3.out; have := S4.out; have := S6.out; omega) (.string Y)).alloc (Obj.cells #[.string X, .string Y] 76)).dg hd6 (show w3.heap.size ≠ g by have := Hgl.out; have := Sr.out; have := S3.out; have := S4.out; have := S6.out; omega))
            have NN := Lib.hid ((show Blk (World.alloc (World.setCell (World.setCell w4 ⟨w.heap.size + 1, 0, none⟩ (.string X)) ⟨w.heap.size + 1, 1, none⟩ (.string Y)) (Obj.cells #[.string X, .string Y] 76)) (w4.heap.size) 76 #[.string X, .string Y] by have h9 := (Blk.new (World.setCell (World.setCell w4 ⟨w.heap.size + 1, 0, none⟩ (.string X)) ⟨w.heap.size + 1, 1, none⟩ (.string Y)) 76 #[.string X, .string Y]); (try simp only [World.size_alloc, World.size_setCell] at h9); exact h9).dg hd6 (show w4.heap.size ≠ g by have := Hgl.out; have := Sr.out; have := S3.out; have := S4.out; have := S6.out; omega))
            have J := NJ; clear NJ
            have R := NR; clear NR
            have E := NE; clear NE
            have N := NN; clear NN
            have Hc6 := Lib.hid (hc6.mono (j := (k + 4 + 70 * (30 - q)) + 62) (by omega))
            have Hd6 := Lib.hid ((((Hd4.out.st (p := ⟨w.heap.size + 1, 0, none⟩) (show w.heap.size ≤ w.heap.size + 1 by have := Hgl.out; have := Sr.out; have := S3.out; have := S4.out; have := S6.out; omega) (.string X)).st (p := ⟨w.heap.size + 1, 1, none⟩) (show w.heap.size ≤ w.heap.size + 1 by have := Hgl.out; have := Sr.out; have := S3.out; have := S4.out; have := S6.out; omega) (.string Y)).alloc (Obj.cells #[.string X, .string Y] 76)).trans hd6)
            clear hc6 hd6
            cases c4
            · go_wp2
              go_roundw
              case rel => exact ⟨q - 1, X, Y, by omega, by go_num, by omega, Lib.hid J.out, Lib.hid R.out, Lib.hid (Hc6.out.mono (by omega)), Lib.hid Hd6.out⟩
              case measure => simp [intOf]; omega
            · have qJ0 := J.out.cell 0
              have qJ1 := J.out.cell 1
              simp at qJ0 qJ1
              have qJl := J.out.lt
              have qJf := J.out.frozen
              go_wp2
              go_roundw
              case rel => exact ⟨q - 1, (X ++ Y), ⟨#[]⟩, by omega, by go_num, by rw [ByteArray.size_append]; show X.size + Y.size + 0 ≤ 1240; omega, Lib.hid (show Blk (World.setCell (World.setCell w6 ⟨w.heap.size + 1, 0, none⟩ (.string (X ++ Y))) ⟨w.heap.size + 1, 1, none⟩ (.string (⟨#[]⟩ : ByteArray))) (w.heap.size + 1) 76 #[.string (X ++ Y), .string (⟨#[]⟩ : ByteArray)] by have h9 := ((J.out.set 0 (.string (X ++ Y))).set 1 (.string (⟨#[]⟩ : ByteArray))); simpa using h9), Lib.hid ((R.out.far (p := ⟨w.heap.size + 1, 0, none⟩) (show w.heap.size ≠ w.heap.size + 1 by have := Hgl.out; have := Sr.out; have := S3.out; have := S4.out; have := S6.out; omega) (.string (X ++ Y))).far (p := ⟨w.heap.size + 1, 1, none⟩) (show w.heap.size ≠ w.heap.size + 1 by have := Hgl.out; have := Sr.out; have := S3.out; have := S4.out; have := S6.out; omega) (.string (⟨#[]⟩ : ByteArray))), Lib.hid (((Hc6.out.st (p := ⟨w.heap.size + 1, 0, none⟩) (show g < w.heap.size + 1 by have := Hgl.out; have := Sr.out; have := S3.out; have := S4.out; have := S6.out; omega) (.string (X ++ Y))).st (p := ⟨w.heap.size + 1, 1, none⟩) (show g < w.heap.size + 1 by have := Hgl.out; have := Sr.out; have := S3.out; have := S4.out; have := S6.out; omega) (.string (⟨#[]⟩ : ByteArray))).mono (by omega)), Lib.hid ((Hd6.out.st (p := ⟨w.heap.size + 1, 0, none⟩) (show w.heap.size ≤ w.heap.size + 1 by have := Hgl.out; have := Sr.out; have := S3.out; have := S4.out; have := S6.out; omega) (.string (X ++ Y))).st (p := ⟨w.heap.size + 1, 1, none⟩) (show w.heap.size ≤ w.heap.size + 1 by have := Hgl.out; have := Sr.out; have := S3.out; have := S4.out; have := S6.out; omega) (.string (⟨#[]⟩ : ByteArray)))⟩
              case measure => simp [intOf]; omega
        · have hq8 : ¬ (7 : Int) < (q : Int) := by omega
          obtain ⟨X, Y, ok, hap⟩ : ∃ X Y ok, apV D P (a) (b) (lo) (hi) = (X, Y, ok) := ⟨_, _, _, rfl⟩
          have hsp := fun W => specApp_any D P (a) (b) (lo) (hi) W ⟨by omega⟩
          rw [hap] at hsp
          have Hsp := Lib.hid hsp; clear hsp
          have qJ0 := J.out.cell 0
          have qJ1 := J.out.cell 1
          simp at qJ0 qJ1
          have qJl := J.out.lt
          go_wp2_with fail
          refine (Hsp.out _).mono ?_; rintro e w7 ⟨rfl, hd7⟩
          clear qJ0 qJ1 qJl
          have S7 := Lib.hid (show w3.heap.size + 1 ≤ w7.heap.size by have h9 := hd7.size; (try simp only [World.size_alloc, World.size_setCell] at h9); omega)
          have NJ := Lib.hid ((J.out.alloc _).dg (Dg.of_below (g := g) hd7) (show w.heap.size + 1 ≠ g by have := Hgl.out; have := Sr.out; have := S3.out; have := S7.out; omega))
          have NR := Lib.hid ((R.out.alloc _).dg (Dg.of_below (g := g) hd7) (show w.heap.size ≠ g by have := Hgl.out; have := Sr.out; have := S3.out; have := S7.out; omega))
          have NE := Lib.hid ((Blk.new w3 78 #[.int .i64 a, .int .i64 b, .int .i64 lo, .int .i64 hi]).dg (Dg.of_below (g := g) hd7) (show w3.heap.size ≠ g by have := Hgl.out; have := Sr.out; have := S3.out; have := S7.out; omega))
          have J := NJ; clear NJ
          have R := NR; clear NR
          have E := NE; clear NE
          have Hc7 := Lib.hid ((Hc3.out.alloc _).on hd7)
          have Hd7 := Lib.hid ((Hd3.out.alloc _).trans (Dg.of_below (g := g) hd7))
          clear hd7
          clear Hsp
          cases ok
          · clear hap
            have qJ0 := J.out.cell 0
            have qJ1 := J.out.cell 1
            simp at qJ0 qJ1
            have qJl := J.out.lt
            go_wp2_with fail
            refine (one_any g ((k + 4 + 70 * (30 - q)) + 60) (4) _ (Hc7.out.alloc _) (by have := Hk.out; omega)).mono ?_; rintro e w8 ⟨⟨c4, rfl⟩, hc8, hd8⟩
            clear qJ0 qJ1 qJl
            have S8 := Lib.hid (show w7.heap.size + 1 ≤ w8.heap.size by have h9 := hd8.size; (try simp only [World.size_alloc, World.size_setCell] at h9); omega)
            have NJ := Lib.hid ((J.out.alloc _).dg hd8 (show w.heap.size + 1 ≠ g by have := Hgl.out; have := Sr.out; have := S3.out; have := S7.out; have := S8.out; omega))
            have NR := Lib.hid ((R.out.alloc _).dg hd8 (show w.heap.size ≠ g by have := Hgl.out; have := Sr.out; have := S3.out; have := S7.out; have := S8.out; omega))
            have NE := Lib.hid ((E.out.alloc _).dg hd8 (show w3.heap.size ≠ g by have := Hgl.out; have := Sr.out; have := S3.out; have := S7.out; have := S8.out; omega))
            have NN := Lib.hid ((Blk.new w7 76 #[.string X, .string Y]).dg hd8 (show w7.heap.size ≠ g by have := Hgl.out; have := Sr.out; have := S3.out; have := S7.out; have := S8.out; omega))
            have J := NJ; clear NJ
            have R := NR; clear NR
            have E := NE; clear NE
            have N := NN; clear NN
            have Hc8 := Lib.hid (hc8.mono (j := (k + 4 + 70 * (30 - q)) + 62) (by omega))
            have Hd8 := Lib.hid ((Hd7.out.alloc _).trans hd8)
            clear hc8 hd8
            cases c4
            · go_wp2
              go_roundw
              case rel => exact ⟨q - 1, D, P, by omega, by go_num, by omega, Lib.hid J.out, Lib.hid R.out, Lib.hid (Hc8.out.mono (by omega)), Lib.hid Hd8.out⟩
              case measure => simp [intOf]; omega
            · have qJ0 := J.out.cell 0
              have qJ1 := J.out.cell 1
              simp at qJ0 qJ1
              have qJl := J.out.lt
              have qJf := J.out.frozen
              go_wp2
              go_roundw
              case rel => exact ⟨q - 1, (D ++ P), ⟨#[]⟩, by omega, by go_num, by rw [ByteArray.size_append]; show D.size + P.size + 0 ≤ 1240; omega, Lib.hid (show Blk (World.setCell (World.setCell w8 ⟨w.heap.size + 1, 0, none⟩ (.string (D ++ P))) ⟨w.heap.size + 1, 1, none⟩ (.string (⟨#[]⟩ : ByteArray))) (w.heap.size + 1) 76 #[.string (D ++ P), .string (⟨#[]⟩ : ByteArray)] by have h9 := ((J.out.set 0 (.string (D ++ P))).set 1 (.string (⟨#[]⟩ : ByteArray))); simpa using h9), Lib.hid ((R.out.far (p := ⟨w.heap.size + 1, 0, none⟩) (show w.heap.size ≠ w.heap.size + 1 by have := Hgl.out; have := Sr.out; have := S3.out; have := S7.out; have := S8.out; omega) (.string (D ++ P))).far (p := ⟨w.heap.size + 1, 1, none⟩) (show w.heap.size ≠ w.heap.size + 1 by have := Hgl.out; have := Sr.out; have := S3.out; have := S7.out; have := S8.out; omega) (.string (⟨#[]⟩ : ByteArray))), Lib.hid (((Hc8.out.st (p := ⟨w.heap.size + 1, 0, none⟩) (show g < w.heap.size + 1 by have := Hgl.out; have := Sr.out; have := S3.out; have := S7.out; have := S8.out; omega) (.string (D ++ P))).st (p := ⟨w.heap.size + 1, 1, none⟩) (show g < w.heap.size + 1 by have := Hgl.out; have := Sr.out; have := S3.out; have := S7.out; have := S8.out; omega) (.string (⟨#[]⟩ : ByteArray))).mono (by omega)), Lib.hid ((Hd8.out.st (p := ⟨w.heap.size + 1, 0, none⟩) (show w.heap.size ≤ w.heap.size + 1 by have := Hgl.out; have := Sr.out; have := S3.out; have := S7.out; have := S8.out; omega) (.string (D ++ P))).st (p := ⟨w.heap.size + 1, 1, none⟩) (show w.heap.size ≤ w.heap.size + 1 by have := Hgl.out; have := Sr.out; have := S3.out; have := S7.out; have := S8.out; omega) (.string (⟨#[]⟩ : ByteArray)))⟩
              case measure => simp [intOf]; omega
          · have hXY := jr_app_size hap
            have hX0 : X.size ≤ 1240 := by omega
            have hY0 : Y.size ≤ 1240 := by omega
            clear hap
            have qJ0 := J.out.cell 0
            have qJ1 := J.out.cell 1
            simp at qJ0 qJ1
            have qJl := J.out.lt
            have qJf := J.out.frozen
            go_wp2_with fail
            refine (one_any g ((k + 4 + 70 * (30 - q)) + 60) (4) _ (((Hc7.out.st (p := ⟨w.heap.size + 1, 0, none⟩) (show g < w.heap.size + 1 by have := Hgl.out; have := Sr.out; have := S3.out; have := S7.out; omega) (.string X)).st (p := ⟨w.heap.size + 1, 1, none⟩) (show g < w.heap.size + 1 by have := Hgl.out; have := Sr.out; have := S3.out; have := S7.out; omega) (.string Y)).alloc (Obj.cells #[.string X, .string Y] 76)) (by have := Hk.out; omega)).mono ?_; rintro e w9 ⟨⟨c4, rfl⟩, hc9, hd9⟩
            clear qJ0 qJ1 qJl qJf
            have S9 := Lib.hid (show w7.heap.size + 1 ≤ w9.heap.size by have h9 := hd9.size; (try simp only [World.size_alloc, World.size_setCell] at h9); omega)
            have NJ := Lib.hid ((show Blk (World.alloc (World.setCell (World.setCell w7 ⟨w.heap.size + 1, 0, none⟩ (.string X)) ⟨w.heap.size + 1, 1, none⟩ (.string Y)) (Obj.cells #[.string X, .string Y] 76)) (w.heap.size + 1) 76 #[.string X, .string Y] by have h9 := (((J.out.set 0 (.string X)).set 1 (.string Y)).alloc (Obj.cells #[.string X, .string Y] 76)); simpa using h9).dg hd9 (show w.heap.size + 1 ≠ g by have := Hgl.out; have := Sr.out; have := S3.out; have := S7.out; have := S9.out; omega))
            have NR := Lib.hid ((((R.out.far (p := ⟨w.heap.size + 1, 0, none⟩) (show w.heap.size ≠ w.heap.size + 1 by have := Hgl.out; have := Sr.out; have := S3.out; have := S7.out; have := S9.out; omega) (.string X)).far (p := ⟨w.heap.size + 1, 1, none⟩) (show w.heap.size ≠ w.heap.size + 1 by have := Hgl.out; have := Sr.out; have := S3.out; have := S7.out; have := S9.out; omega) (.string Y)).alloc (Obj.cells #[.string X, .string Y] 76)).dg hd9 (show w.heap.size ≠ g by have := Hgl.out; have := Sr.out; have := S3.out; have := S7.out; have := S9.out; omega))
            have NE := Lib.hid ((((E.out.far (p := ⟨w.heap.size + 1, 0, none⟩) (show w3.heap.size ≠ w.heap.size + 1 by have := Hgl.out; have := Sr.out; have := S3.out; have := S7.out; have := S9.out; omega) (.string X)).far (p := ⟨w.heap.size + 1, 1, none⟩) (show w3.heap.size ≠ w.heap.size + 1 by have := Hgl.out; have := Sr.out; have := S3.out; have := S7.out; have := S9.out; omega) (.string Y)).alloc (Obj.cells #[.string X, .string Y] 76)).dg hd9 (show w3.heap.size ≠ g by have := Hgl.out; have := Sr.out; have := S3.out; have := S7.out; have := S9.out; omega))
            have NN := Lib.hid ((show Blk (World.alloc (World.setCell (World.setCell w7 ⟨w.heap.size + 1, 0, none⟩ (.string X)) ⟨w.heap.size + 1, 1, none⟩ (.string Y)) (Obj.cells #[.string X, .string Y] 76)) (w7.heap.size) 76 #[.string X, .string Y] by have h9 := (Blk.new (World.setCell (World.setCell w7 ⟨w.heap.size + 1, 0, none⟩ (.string X)) ⟨w.heap.size + 1, 1, none⟩ (.string Y)) 76 #[.string X, .string Y]); (try simp only [World.size_alloc, World.size_setCell] at h9); exact h9).dg hd9 (show w7.heap.size ≠ g by have := Hgl.out; have := Sr.out; have := S3.out; have := S7.out; have := S9.out; omega))
            have J := NJ; clear NJ
            have R := NR; clear NR
            have E := NE; clear NE
            have N := NN; clear NN
            have Hc9 := Lib.hid (hc9.mono (j := (k + 4 + 70 * (30 - q)) + 62) (by omega))
            have Hd9 := Lib.hid ((((Hd7.out.st (p := ⟨w.heap.size + 1, 0, none⟩) (show w.heap.size ≤ w.heap.size + 1 by have := Hgl.out; have := Sr.out; have := S3.out; have := S7.out; have := S9.out; omega) (.string X)).st (p := ⟨w.heap.size + 1, 1, none⟩) (show w.heap.size ≤ w.heap.size + 1 by have := Hgl.out; have := Sr.out; have := S3.out; have := S7.out; have := S9.out; omega) (.string Y)).alloc (Obj.cells #[.string X, .string Y] 76)).trans hd9)
            clear hc9 hd9
            cases c4
            · go_wp2
              go_roundw
              case rel => exact ⟨q - 1, X, Y, by omega, by go_num, by omega, Lib.hid J.out, Lib.hid R.out, Lib.hid (Hc9.out.mono (by omega)), Lib.hid Hd9.out⟩
              case measure => simp [intOf]; omega
            · have qJ0 := J.out.cell 0
              have qJ1 := J.out.cell 1
              simp at qJ0 qJ1
              have qJl := J.out.lt
              have qJf := J.out.frozen
              go_wp2
              go_roundw
              case rel => exact ⟨q - 1, (X ++ Y), ⟨#[]⟩, by omega, by go_num, by rw [ByteArray.size_append]; show X.size + Y.size + 0 ≤ 1240; omega, Lib.hid (show Blk (World.setCell (World.setCell w9 ⟨w.heap.size + 1, 0, none⟩ (.string (X ++ Y))) ⟨w.heap.size + 1, 1, none⟩ (.string (⟨#[]⟩ : ByteArray))) (w.heap.size + 1) 76 #[.string (X ++ Y), .string (⟨#[]⟩ : ByteArray)] by have h9 := ((J.out.set 0 (.string (X ++ Y))).set 1 (.string (⟨#[]⟩ : ByteArray))); simpa using h9), Lib.hid ((R.out.far (p := ⟨w.heap.size + 1, 0, none⟩) (show w.heap.size ≠ w.heap.size + 1 by have := Hgl.out; have := Sr.out; have := S3.out; have := S7.out; have := S9.out; omega) (.string (X ++ Y))).far (p := ⟨w.heap.size + 1, 1, none⟩) (show w.heap.size ≠ w.heap.size + 1 by have := Hgl.out; have := Sr.out; have := S3.out; have := S7.out; have := S9.out; omega) (.string (⟨#[]⟩ : ByteArray))), Lib.hid (((Hc9.out.st (p := ⟨w.heap.size + 1, 0, none⟩) (show g < w.heap.size + 1 by have := Hgl.out; have := Sr.out; have := S3.out; have := S7.out; have := S9.out; omega) (.string (X ++ Y))).st (p := ⟨w.heap.size + 1, 1, none⟩) (show g < w.heap.size + 1 by have := Hgl.out; have := Sr.out; have := S3.out; have := S7.out; have := S9.out; omega) (.string (⟨#[]⟩ : ByteArray))).mono (by omega)), Lib.hid ((Hd9.out.st (p := ⟨w.heap.size + 1, 0, none⟩) (show w.heap.size ≤ w.heap.size + 1 by have := Hgl.out; have := Sr.out; have := S3.out; have := S7.out; have := S9.out; omega) (.string (X ++ Y))).st (p := ⟨w.heap.size + 1, 1, none⟩) (show w.heap.size ≤ w.heap.size + 1 by have := Hgl.out; have := Sr.out; have := S3.out; have := S7.out; have := S9.out; omega) (.string (⟨#[]⟩ : ByteArray)))⟩
              case measure => simp [intOf]; omega
      · obtain rfl : q = 0 := by omega
        clear hq0
        have Hc9 := Lib.hid (Hcr.out.mono (j := k + 2104) (by omega)); clear Hcr
        have qJ0 := J.out.cell 0
        have qJ1 := J.out.cell 1
        simp at qJ0 qJ1
        have qJl := J.out.lt
        have qR0 := R.out.cell 0
        have qR1 := R.out.cell 1
        simp at qR0 qR1
        have qRl := R.out.lt
        have qRf := R.out.frozen
        have nJR : w.heap.size + 1 ≠ w.heap.size := by have := Hgl.out; have := Sr.out; omega
        have nRJ : w.heap.size ≠ w.heap.size + 1 := fun e => nJR e.symm
        go_wp2
        clear qJ0 qJ1 qJl qR0 qR1 qRl qRf nJR nRJ
        have HR9 := (show Blk (World.setCell (World.setCell wr ⟨w.heap.size, 0, none⟩ (.string D)) ⟨w.heap.size, 1, none⟩ (.string P)) (w.heap.size) 76 #[.string D, .string P] by have h9 := ((R.out.set 0 (.string D)).set 1 (.string P)); simpa using h9)
        have k0 := HR9.cell 0
        have k1 := HR9.cell 1
        simp at k0 k1
        exact bodyPost_ret (v := .agg #[.string D, .string P]) (by simp [results, Tryz.results154, go_sem, k0, k1]) rfl ⟨⟨D, P, hDP, rfl⟩, ((Hc9.out.st (p := ⟨w.heap.size, 0, none⟩) (show g < w.heap.size by have := Hgl.out; have := Sr.out; omega) (.string D)).st (p := ⟨w.heap.size, 1, none⟩) (show g < w.heap.size by have := Hgl.out; have := Sr.out; omega) (.string P)).mono (by omega), ((Hdr.out.st (p := ⟨w.heap.size, 0, none⟩) (show w.heap.size ≤ w.heap.size by have := Hgl.out; have := Sr.out; omega) (.string D)).st (p := ⟨w.heap.size, 1, none⟩) (show w.heap.size ≤ w.heap.size by have := Hgl.out; have := Sr.out; omega) (.string P))⟩
  · go_wp2
    go_loopw [4] (fun n wr => ∃ (q : Nat) (D P : ByteArray), q ≤ 30 ∧ n = .int .i64 (q : Int) ∧ D.size + P.size ≤ 1240 ∧ Hid (Blk wr (w.heap.size + 1) 76 #[.string D, .string P]) ∧ Hid (Blk wr w.heap.size 76 #[.string (⟨#[]⟩ : ByteArray), .string (⟨#[]⟩ : ByteArray)]) ∧ Hid (Cur wr g (k + 4 + 70 * (30 - q))) ∧ Hid (Dg g w wr)) (fun n _ => (intOf n).toNat)
    case atStart => exact ⟨30, ⟨#[]⟩, ⟨#[]⟩, by omega, rfl, by decide, J, R, Lib.hid (Hc2.out.mono (by omega)), Hd2⟩
    case round =>
      obtain ⟨q, D, P, hq30, rfl, hDP, J, R, Hcr, Hdr⟩ := hrel
      have Sr := Lib.hid (show w.heap.size + 2 ≤ wr.heap.size by have := J.out.lt; omega)
      have hD0 : D.size ≤ 1240 := by omega
      have hP0 : P.size ≤ 1240 := by omega
      by_cases hq0 : 0 < q
      · have hq1 : (0 : Int) < (q : Int) := by omega
        have qJ0 := J.out.cell 0
        have qJ1 := J.out.cell 1
        simp at qJ0 qJ1
        have qJl := J.out.lt
        go_wp2_with fail
        refine (record_any g (k + 4 + 70 * (30 - q)) _ Hcr.out (by have := Hk.out; omega)).mono ?_; rintro e w10 ⟨⟨a, b, lo, hi, rfl⟩, hc10, hd10⟩
        clear qJ0 qJ1 qJl
        have S10 := Lib.hid (show wr.heap.size + 0 ≤ w10.heap.size by have h9 := hd10.size; (try simp only [World.size_alloc, World.size_setCell] at h9); omega)
        have NJ := Lib.hid (J.out.dg hd10 (show w.heap.size + 1 ≠ g by have := Hgl.out; have := Sr.out; have := S10.out; omega))
        have NR := Lib.hid (R.out.dg hd10 (show w.heap.size ≠ g by have := Hgl.out; have := Sr.out; have := S10.out; omega))
        have J := NJ; clear NJ
        have R := NR; clear NR
        have Hc10 := Lib.hid (hc10.mono (j := (k + 4 + 70 * (30 - q)) + 60) (by omega))
        have Hd10 := Lib.hid (Hdr.out.trans hd10)
        clear hc10 hd10
        by_cases hq7 : 7 < q
        · have hq8 : (7 : Int) < (q : Int) := by omega
          have e14 : 0 ≤ ((q : Int)).tmod 14 ∧ ((q : Int)).tmod 14 ≤ 13 := by rw [Int.tmod_eq_emod_of_nonneg (by omega)]; omega
          have e2 : 0 ≤ ((q : Int)).tmod 2 ∧ ((q : Int)).tmod 2 ≤ 1 := by rw [Int.tmod_eq_emod_of_nonneg (by omega)]; omega
          have e3 : 0 ≤ ((q : Int)).tmod 3 ∧ ((q : Int)).tmod 3 ≤ 2 := by rw [Int.tmod_eq_emod_of_nonneg (by omega)]; omega
          obtain ⟨e30, e31⟩ := e3
          obtain ⟨X, Y, ok, hap⟩ : ∃ X Y ok, apV D P (1) ((q : Int) % 14) ((q : Int) % 2) (2 + (q : Int) % 3) = (X, Y, ok) := ⟨_, _, _, rfl⟩
          have hsp := fun W => specApp_any D P (1) ((q : Int) % 14) ((q : Int) % 2) (2 + (q : Int) % 3) W ⟨by omega⟩
          rw [hap] at hsp
          have Hsp := Lib.hid hsp; clear hsp
          have qJ0 := J.out.cell 0
          have qJ1 := J.out.cell 1
          simp at qJ0 qJ1
          have qJl := J.out.lt
          go_wp2_with fail
          refine (Hsp.out _).mono ?_; rintro e w11 ⟨rfl, hd11⟩
          clear qJ0 qJ1 qJl
          have S11 := Lib.hid (show w10.heap.size + 1 ≤ w11.heap.size by have h9 := hd11.size; (try simp only [World.size_alloc, World.size_setCell] at h9); omega)
          have NJ := Lib.hid ((J.out.alloc _).dg (Dg.of_below (g := g) hd11) (show w.heap.size + 1 ≠ g by have := Hgl.out; have := Sr.out; have := S10.out; have := S11.out; omega))
          have NR := Lib.hid ((R.out.alloc _).dg (Dg.of_below (g := g) hd11) (show w.heap.size ≠ g by have := Hgl.out; have := Sr.out; have := S10.out; have := S11.out; omega))
          have NE := Lib.hid ((Blk.new w10 78 #[.int .i64 1, .int .i64 ((q : Int) % 14), .int .i64 ((q : Int) % 2), .int .i64 (2 + (q : Int) % 3)]).dg (Dg.of_below (g := g) hd11) (show w10.heap.size ≠ g by have := Hgl.out; have := Sr.out; have := S10.out; have := S11.out; omega))
          have J := NJ; clear NJ
          have R := NR; clear NR
          have E := NE; clear NE
          have Hc11 := Lib.hid ((Hc10.out.alloc _).on hd11)
          have Hd11 := Lib.hid ((Hd10.out.alloc _).trans (Dg.of_below (g := g) hd11))
          clear hd11
          clear Hsp
          cases ok
          · clear hap
            have qJ0 := J.out.cell 0
            have qJ1 := J.out.cell 1
            simp at qJ0 qJ1
            have qJl := J.out.lt
            go_wp2_with fail
            refine (one_any g ((k + 4 + 70 * (30 - q)) + 60) (4) _ (Hc11.out.alloc _) (by have := Hk.out; omega)).mono ?_; rintro e w12 ⟨⟨c4, rfl⟩, hc12, hd12⟩
            clear qJ0 qJ1 qJl
            have S12 := Lib.hid (show w11.heap.size + 1 ≤ w12.heap.size by have h9 := hd12.size; (try simp only [World.size_alloc, World.size_setCell] at h9); omega)
            have NJ := Lib.hid ((J.out.alloc _).dg hd12 (show w.heap.size + 1 ≠ g by have := Hgl.out; have := Sr.out; have := S10.out; have := S11.out; have := S12.out; omega))
            have NR := Lib.hid ((R.out.alloc _).dg hd12 (show w.heap.size ≠ g by have := Hgl.out; have := Sr.out; have := S10.out; have := S11.out; have := S12.out; omega))
            have NE := Lib.hid ((E.out.alloc _).dg hd12 (show w10.heap.size ≠ g by have := Hgl.out; have := Sr.out; have := S10.out; have := S11.out; have := S12.out; omega))
            have NN := Lib.hid ((Blk.new w11 76 #[.string X, .string Y]).dg hd12 (show w11.heap.size ≠ g by have := Hgl.out; have := Sr.out; have := S10.out; have := S11.out; have := S12.out; omega))
            have J := NJ; clear NJ
            have R := NR; clear NR
            have E := NE; clear NE
            have N := NN; clear NN
            have Hc12 := Lib.hid (hc12.mono (j := (k + 4 + 70 * (30 - q)) + 62) (by omega))
            have Hd12 := Lib.hid ((Hd11.out.alloc _).trans hd12)
            clear hc12 hd12
            cases c4
            · go_wp2
              go_roundw
              case rel => exact ⟨q - 1, D, P, by omega, by go_num, by omega, Lib.hid J.out, Lib.hid R.out, Lib.hid (Hc12.out.mono (by omega)), Lib.hid Hd12.out⟩
              case measure => simp [intOf]; omega
            · have qJ0 := J.out.cell 0
              have qJ1 := J.out.cell 1
              simp at qJ0 qJ1
              have qJl := J.out.lt
              have qJf := J.out.frozen
              go_wp2
              go_roundw
              case rel => exact ⟨q - 1, (D ++ P), ⟨#[]⟩, by omega, by go_num, by rw [ByteArray.size_append]; show D.size + P.size + 0 ≤ 1240; omega, Lib.hid (show Blk (World.setCell (World.setCell w12 ⟨w.heap.size + 1, 0, none⟩ (.string (D ++ P))) ⟨w.heap.size + 1, 1, none⟩ (.string (⟨#[]⟩ : ByteArray))) (w.heap.size + 1) 76 #[.string (D ++ P), .string (⟨#[]⟩ : ByteArray)] by have h9 := ((J.out.set 0 (.string (D ++ P))).set 1 (.string (⟨#[]⟩ : ByteArray))); simpa using h9), Lib.hid ((R.out.far (p := ⟨w.heap.size + 1, 0, none⟩) (show w.heap.size ≠ w.heap.size + 1 by have := Hgl.out; have := Sr.out; have := S10.out; have := S11.out; have := S12.out; omega) (.string (D ++ P))).far (p := ⟨w.heap.size + 1, 1, none⟩) (show w.heap.size ≠ w.heap.size + 1 by have := Hgl.out; have := Sr.out; have := S10.out; have := S11.out; have := S12.out; omega) (.string (⟨#[]⟩ : ByteArray))), Lib.hid (((Hc12.out.st (p := ⟨w.heap.size + 1, 0, none⟩) (show g < w.heap.size + 1 by have := Hgl.out; have := Sr.out; have := S10.out; have := S11.out; have := S12.out; omega) (.string (D ++ P))).st (p := ⟨w.heap.size + 1, 1, none⟩) (show g < w.heap.size + 1 by have := Hgl.out; have := Sr.out; have := S10.out; have := S11.out; have := S12.out; omega) (.string (⟨#[]⟩ : ByteArray))).mono (by omega)), Lib.hid ((Hd12.out.st (p := ⟨w.heap.size + 1, 0, none⟩) (show w.heap.size ≤ w.heap.size + 1 by have := Hgl.out; have := Sr.out; have := S10.out; have := S11.out; have := S12.out; omega) (.string (D ++ P))).st (p := ⟨w.heap.size + 1, 1, none⟩) (show w.heap.size ≤ w.heap.size + 1 by have := Hgl.out; have := Sr.out; have := S10.out; have := S11.out; have := S12.out; omega) (.string (⟨#[]⟩ : ByteArray)))⟩
              case measure => simp [intOf]; omega
          · have hXY := jr_app_size hap
            have hX0 : X.size ≤ 1240 := by omega
            have hY0 : Y.size ≤ 1240 := by omega
            clear hap
            have qJ0 := J.out.cell 0
            have qJ1 := J.out.cell 1
            simp at qJ0 qJ1
            have qJl := J.out.lt
            have qJf := J.out.frozen
            go_wp2_with fail
            refine (one_any g ((k + 4 + 70 * (30 - q)) + 60) (4) _ (((Hc11.out.st (p := ⟨w.heap.size + 1, 0, none⟩) (show g < w.heap.size + 1 by have := Hgl.out; have := Sr.out; have := S10.out; have := S11.out; omega) (.string X)).st (p := ⟨w.heap.size + 1, 1, none⟩) (show g < w.heap.size + 1 by have := Hgl.out; have := Sr.out; have := S10.out; have := S11.out; omega) (.string Y)).alloc (Obj.cells #[.string X, .string Y] 76)) (by have := Hk.out; omega)).mono ?_; rintro e w13 ⟨⟨c4, rfl⟩, hc13, hd13⟩
            clear qJ0 qJ1 qJl qJf
            have S13 := Lib.hid (show w11.heap.size + 1 ≤ w13.heap.size by have h9 := hd13.size; (try simp only [World.size_alloc, World.size_setCell] at h9); omega)
            have NJ := Lib.hid ((show Blk (World.alloc (World.setCell (World.setCell w11 ⟨w.heap.size + 1, 0, none⟩ (.string X)) ⟨w.heap.size + 1, 1, none⟩ (.string Y)) (Obj.cells #[.string X, .string Y] 76)) (w.heap.size + 1) 76 #[.string X, .string Y] by have h9 := (((J.out.set 0 (.string X)).set 1 (.string Y)).alloc (Obj.cells #[.string X, .string Y] 76)); simpa using h9).dg hd13 (show w.heap.size + 1 ≠ g by have := Hgl.out; have := Sr.out; have := S10.out; have := S11.out; have := S13.out; omega))
            have NR := Lib.hid ((((R.out.far (p := ⟨w.heap.size + 1, 0, none⟩) (show w.heap.size ≠ w.heap.size + 1 by have := Hgl.out; have := Sr.out; have := S10.out; have := S11.out; have := S13.out; omega) (.string X)).far (p := ⟨w.heap.size + 1, 1, none⟩) (show w.heap.size ≠ w.heap.size + 1 by have := Hgl.out; have := Sr.out; have := S10.out; have := S11.out; have := S13.out; omega) (.string Y)).alloc (Obj.cells #[.string X, .string Y] 76)).dg hd13 (show w.heap.size ≠ g by have := Hgl.out; have := Sr.out; have := S10.out; have := S11.out; have := S13.out; omega))
            have NE := Lib.hid ((((E.out.far (p := ⟨w.heap.size + 1, 0, none⟩) (show w10.heap.size ≠ w.heap.size + 1 by have := Hgl.out; have := Sr.out; have := S10.out; have := S11.out; have := S13.out; omega) (.string X)).far (p := ⟨w.heap.size + 1, 1, none⟩) (show w10.heap.size ≠ w.heap.size + 1 by have := Hgl.out; have := Sr.out; have := S10.out; have := S11.out; have := S13.out; omega) (.string Y)).alloc (Obj.cells #[.string X, .string Y] 76)).dg hd13 (show w10.heap.size ≠ g by have := Hgl.out; have := Sr.out; have := S10.out; have := S11.out; have := S13.out; omega))
            have NN := Lib.hid ((show Blk (World.alloc (World.setCell (World.setCell w11 ⟨w.heap.size + 1, 0, none⟩ (.string X)) ⟨w.heap.size + 1, 1, none⟩ (.string Y)) (Obj.cells #[.string X, .string Y] 76)) (w11.heap.size) 76 #[.string X, .string Y] by have h9 := (Blk.new (World.setCell (World.setCell w11 ⟨w.heap.size + 1, 0, none⟩ (.string X)) ⟨w.heap.size + 1, 1, none⟩ (.string Y)) 76 #[.string X, .string Y]); (try simp only [World.size_alloc, World.size_setCell] at h9); exact h9).dg hd13 (show w11.heap.size ≠ g by have := Hgl.out; have := Sr.out; have := S10.out; have := S11.out; have := S13.out; omega))
            have J := NJ; clear NJ
            have R := NR; clear NR
            have E := NE; clear NE
            have N := NN; clear NN
            have Hc13 := Lib.hid (hc13.mono (j := (k + 4 + 70 * (30 - q)) + 62) (by omega))
            have Hd13 := Lib.hid ((((Hd11.out.st (p := ⟨w.heap.size + 1, 0, none⟩) (show w.heap.size ≤ w.heap.size + 1 by have := Hgl.out; have := Sr.out; have := S10.out; have := S11.out; have := S13.out; omega) (.string X)).st (p := ⟨w.heap.size + 1, 1, none⟩) (show w.heap.size ≤ w.heap.size + 1 by have := Hgl.out; have := Sr.out; have := S10.out; have := S11.out; have := S13.out; omega) (.string Y)).alloc (Obj.cells #[.string X, .string Y] 76)).trans hd13)
            clear hc13 hd13
            cases c4
            · go_wp2
              go_roundw
              case rel => exact ⟨q - 1, X, Y, by omega, by go_num, by omega, Lib.hid J.out, Lib.hid R.out, Lib.hid (Hc13.out.mono (by omega)), Lib.hid Hd13.out⟩
              case measure => simp [intOf]; omega
            · have qJ0 := J.out.cell 0
              have qJ1 := J.out.cell 1
              simp at qJ0 qJ1
              have qJl := J.out.lt
              have qJf := J.out.frozen
              go_wp2
              go_roundw
              case rel => exact ⟨q - 1, (X ++ Y), ⟨#[]⟩, by omega, by go_num, by rw [ByteArray.size_append]; show X.size + Y.size + 0 ≤ 1240; omega, Lib.hid (show Blk (World.setCell (World.setCell w13 ⟨w.heap.size + 1, 0, none⟩ (.string (X ++ Y))) ⟨w.heap.size + 1, 1, none⟩ (.string (⟨#[]⟩ : ByteArray))) (w.heap.size + 1) 76 #[.string (X ++ Y), .string (⟨#[]⟩ : ByteArray)] by have h9 := ((J.out.set 0 (.string (X ++ Y))).set 1 (.string (⟨#[]⟩ : ByteArray))); simpa using h9), Lib.hid ((R.out.far (p := ⟨w.heap.size + 1, 0, none⟩) (show w.heap.size ≠ w.heap.size + 1 by have := Hgl.out; have := Sr.out; have := S10.out; have := S11.out; have := S13.out; omega) (.string (X ++ Y))).far (p := ⟨w.heap.size + 1, 1, none⟩) (show w.heap.size ≠ w.heap.size + 1 by have := Hgl.out; have := Sr.out; have := S10.out; have := S11.out; have := S13.out; omega) (.string (⟨#[]⟩ : ByteArray))), Lib.hid (((Hc13.out.st (p := ⟨w.heap.size + 1, 0, none⟩) (show g < w.heap.size + 1 by have := Hgl.out; have := Sr.out; have := S10.out; have := S11.out; have := S13.out; omega) (.string (X ++ Y))).st (p := ⟨w.heap.size + 1, 1, none⟩) (show g < w.heap.size + 1 by have := Hgl.out; have := Sr.out; have := S10.out; have := S11.out; have := S13.out; omega) (.string (⟨#[]⟩ : ByteArray))).mono (by omega)), Lib.hid ((Hd13.out.st (p := ⟨w.heap.size + 1, 0, none⟩) (show w.heap.size ≤ w.heap.size + 1 by have := Hgl.out; have := Sr.out; have := S10.out; have := S11.out; have := S13.out; omega) (.string (X ++ Y))).st (p := ⟨w.heap.size + 1, 1, none⟩) (show w.heap.size ≤ w.heap.size + 1 by have := Hgl.out; have := Sr.out; have := S10.out; have := S11.out; have := S13.out; omega) (.string (⟨#[]⟩ : ByteArray)))⟩
              case measure => simp [intOf]; omega
        · have hq8 : ¬ (7 : Int) < (q : Int) := by omega
          obtain ⟨X, Y, ok, hap⟩ : ∃ X Y ok, apV D P (a) (b) (lo) (hi) = (X, Y, ok) := ⟨_, _, _, rfl⟩
          have hsp := fun W => specApp_any D P (a) (b) (lo) (hi) W ⟨by omega⟩
          rw [hap] at hsp
          have Hsp := Lib.hid hsp; clear hsp
          have qJ0 := J.out.cell 0
          have qJ1 := J.out.cell 1
          simp at qJ0 qJ1
          have qJl := J.out.lt
          go_wp2_with fail
          refine (Hsp.out _).mono ?_; rintro e w14 ⟨rfl, hd14⟩
          clear qJ0 qJ1 qJl
          have S14 := Lib.hid (show w10.heap.size + 1 ≤ w14.heap.size by have h9 := hd14.size; (try simp only [World.size_alloc, World.size_setCell] at h9); omega)
          have NJ := Lib.hid ((J.out.alloc _).dg (Dg.of_below (g := g) hd14) (show w.heap.size + 1 ≠ g by have := Hgl.out; have := Sr.out; have := S10.out; have := S14.out; omega))
          have NR := Lib.hid ((R.out.alloc _).dg (Dg.of_below (g := g) hd14) (show w.heap.size ≠ g by have := Hgl.out; have := Sr.out; have := S10.out; have := S14.out; omega))
          have NE := Lib.hid ((Blk.new w10 78 #[.int .i64 a, .int .i64 b, .int .i64 lo, .int .i64 hi]).dg (Dg.of_below (g := g) hd14) (show w10.heap.size ≠ g by have := Hgl.out; have := Sr.out; have := S10.out; have := S14.out; omega))
          have J := NJ; clear NJ
          have R := NR; clear NR
          have E := NE; clear NE
          have Hc14 := Lib.hid ((Hc10.out.alloc _).on hd14)
          have Hd14 := Lib.hid ((Hd10.out.alloc _).trans (Dg.of_below (g := g) hd14))
          clear hd14
          clear Hsp
          cases ok
          · clear hap
            have qJ0 := J.out.cell 0
            have qJ1 := J.out.cell 1
            simp at qJ0 qJ1
            have qJl := J.out.lt
            go_wp2_with fail
            refine (one_any g ((k + 4 + 70 * (30 - q)) + 60) (4) _ (Hc14.out.alloc _) (by have := Hk.out; omega)).mono ?_; rintro e w15 ⟨⟨c4, rfl⟩, hc15, hd15⟩
            clear qJ0 qJ1 qJl
            have S15 := Lib.hid (show w14.heap.size + 1 ≤ w15.heap.size by have h9 := hd15.size; (try simp only [World.size_alloc, World.size_setCell] at h9); omega)
            have NJ := Lib.hid ((J.out.alloc _).dg hd15 (show w.heap.size + 1 ≠ g by have := Hgl.out; have := Sr.out; have := S10.out; have := S14.out; have := S15.out; omega))
            have NR := Lib.hid ((R.out.alloc _).dg hd15 (show w.heap.size ≠ g by have := Hgl.out; have := Sr.out; have := S10.out; have := S14.out; have := S15.out; omega))
            have NE := Lib.hid ((E.out.alloc _).dg hd15 (show w10.heap.size ≠ g by have := Hgl.out; have := Sr.out; have := S10.out; have := S14.out; have := S15.out; omega))
            have NN := Lib.hid ((Blk.new w14 76 #[.string X, .string Y]).dg hd15 (show w14.heap.size ≠ g by have := Hgl.out; have := Sr.out; have := S10.out; have := S14.out; have := S15.out; omega))
            have J := NJ; clear NJ
            have R := NR; clear NR
            have E := NE; clear NE
            have N := NN; clear NN
            have Hc15 := Lib.hid (hc15.mono (j := (k + 4 + 70 * (30 - q)) + 62) (by omega))
            have Hd15 := Lib.hid ((Hd14.out.alloc _).trans hd15)
            clear hc15 hd15
            cases c4
            · go_wp2
              go_roundw
              case rel => exact ⟨q - 1, D, P, by omega, by go_num, by omega, Lib.hid J.out, Lib.hid R.out, Lib.hid (Hc15.out.mono (by omega)), Lib.hid Hd15.out⟩
              case measure => simp [intOf]; omega
            · have qJ0 := J.out.cell 0
              have qJ1 := J.out.cell 1
              simp at qJ0 qJ1
              have qJl := J.out.lt
              have qJf := J.out.frozen
              go_wp2
              go_roundw
              case rel => exact ⟨q - 1, (D ++ P), ⟨#[]⟩, by omega, by go_num, by rw [ByteArray.size_append]; show D.size + P.size + 0 ≤ 1240; omega, Lib.hid (show Blk (World.setCell (World.setCell w15 ⟨w.heap.size + 1, 0, none⟩ (.string (D ++ P))) ⟨w.heap.size + 1, 1, none⟩ (.string (⟨#[]⟩ : ByteArray))) (w.heap.size + 1) 76 #[.string (D ++ P), .string (⟨#[]⟩ : ByteArray)] by have h9 := ((J.out.set 0 (.string (D ++ P))).set 1 (.string (⟨#[]⟩ : ByteArray))); simpa using h9), Lib.hid ((R.out.far (p := ⟨w.heap.size + 1, 0, none⟩) (show w.heap.size ≠ w.heap.size + 1 by have := Hgl.out; have := Sr.out; have := S10.out; have := S14.out; have := S15.out; omega) (.string (D ++ P))).far (p := ⟨w.heap.size + 1, 1, none⟩) (show w.heap.size ≠ w.heap.size + 1 by have := Hgl.out; have := Sr.out; have := S10.out; have := S14.out; have := S15.out; omega) (.string (⟨#[]⟩ : ByteArray))), Lib.hid (((Hc15.out.st (p := ⟨w.heap.size + 1, 0, none⟩) (show g < w.heap.size + 1 by have := Hgl.out; have := Sr.out; have := S10.out; have := S14.out; have := S15.out; omega) (.string (D ++ P))).st (p := ⟨w.heap.size + 1, 1, none⟩) (show g < w.heap.size + 1 by have := Hgl.out; have := Sr.out; have := S10.out; have := S14.out; have := S15.out; omega) (.string (⟨#[]⟩ : ByteArray))).mono (by omega)), Lib.hid ((Hd15.out.st (p := ⟨w.heap.size + 1, 0, none⟩) (show w.heap.size ≤ w.heap.size + 1 by have := Hgl.out; have := Sr.out; have := S10.out; have := S14.out; have := S15.out; omega) (.string (D ++ P))).st (p := ⟨w.heap.size + 1, 1, none⟩) (show w.heap.size ≤ w.heap.size + 1 by have := Hgl.out; have := Sr.out; have := S10.out; have := S14.out; have := S15.out; omega) (.string (⟨#[]⟩ : ByteArray)))⟩
              case measure => simp [intOf]; omega
          · have hXY := jr_app_size hap
            have hX0 : X.size ≤ 1240 := by omega
            have hY0 : Y.size ≤ 1240 := by omega
            clear hap
            have qJ0 := J.out.cell 0
            have qJ1 := J.out.cell 1
            simp at qJ0 qJ1
            have qJl := J.out.lt
            have qJf := J.out.frozen
            go_wp2_with fail
            refine (one_any g ((k + 4 + 70 * (30 - q)) + 60) (4) _ (((Hc14.out.st (p := ⟨w.heap.size + 1, 0, none⟩) (show g < w.heap.size + 1 by have := Hgl.out; have := Sr.out; have := S10.out; have := S14.out; omega) (.string X)).st (p := ⟨w.heap.size + 1, 1, none⟩) (show g < w.heap.size + 1 by have := Hgl.out; have := Sr.out; have := S10.out; have := S14.out; omega) (.string Y)).alloc (Obj.cells #[.string X, .string Y] 76)) (by have := Hk.out; omega)).mono ?_; rintro e w16 ⟨⟨c4, rfl⟩, hc16, hd16⟩
            clear qJ0 qJ1 qJl qJf
            have S16 := Lib.hid (show w14.heap.size + 1 ≤ w16.heap.size by have h9 := hd16.size; (try simp only [World.size_alloc, World.size_setCell] at h9); omega)
            have NJ := Lib.hid ((show Blk (World.alloc (World.setCell (World.setCell w14 ⟨w.heap.size + 1, 0, none⟩ (.string X)) ⟨w.heap.size + 1, 1, none⟩ (.string Y)) (Obj.cells #[.string X, .string Y] 76)) (w.heap.size + 1) 76 #[.string X, .string Y] by have h9 := (((J.out.set 0 (.string X)).set 1 (.string Y)).alloc (Obj.cells #[.string X, .string Y] 76)); simpa using h9).dg hd16 (show w.heap.size + 1 ≠ g by have := Hgl.out; have := Sr.out; have := S10.out; have := S14.out; have := S16.out; omega))
            have NR := Lib.hid ((((R.out.far (p := ⟨w.heap.size + 1, 0, none⟩) (show w.heap.size ≠ w.heap.size + 1 by have := Hgl.out; have := Sr.out; have := S10.out; have := S14.out; have := S16.out; omega) (.string X)).far (p := ⟨w.heap.size + 1, 1, none⟩) (show w.heap.size ≠ w.heap.size + 1 by have := Hgl.out; have := Sr.out; have := S10.out; have := S14.out; have := S16.out; omega) (.string Y)).alloc (Obj.cells #[.string X, .string Y] 76)).dg hd16 (show w.heap.size ≠ g by have := Hgl.out; have := Sr.out; have := S10.out; have := S14.out; have := S16.out; omega))
            have NE := Lib.hid ((((E.out.far (p := ⟨w.heap.size + 1, 0, none⟩) (show w10.heap.size ≠ w.heap.size + 1 by have := Hgl.out; have := Sr.out; have := S10.out; have := S14.out; have := S16.out; omega) (.string X)).far (p := ⟨w.heap.size + 1, 1, none⟩) (show w10.heap.size ≠ w.heap.size + 1 by have := Hgl.out; have := Sr.out; have := S10.out; have := S14.out; have := S16.out; omega) (.string Y)).alloc (Obj.cells #[.string X, .string Y] 76)).dg hd16 (show w10.heap.size ≠ g by have := Hgl.out; have := Sr.out; have := S10.out; have := S14.out; have := S16.out; omega))
            have NN := Lib.hid ((show Blk (World.alloc (World.setCell (World.setCell w14 ⟨w.heap.size + 1, 0, none⟩ (.string X)) ⟨w.heap.size + 1, 1, none⟩ (.string Y)) (Obj.cells #[.string X, .string Y] 76)) (w14.heap.size) 76 #[.string X, .string Y] by have h9 := (Blk.new (World.setCell (World.setCell w14 ⟨w.heap.size + 1, 0, none⟩ (.string X)) ⟨w.heap.size + 1, 1, none⟩ (.string Y)) 76 #[.string X, .string Y]); (try simp only [World.size_alloc, World.size_setCell] at h9); exact h9).dg hd16 (show w14.heap.size ≠ g by have := Hgl.out; have := Sr.out; have := S10.out; have := S14.out; have := S16.out; omega))
            have J := NJ; clear NJ
            have R := NR; clear NR
            have E := NE; clear NE
            have N := NN; clear NN
            have Hc16 := Lib.hid (hc16.mono (j := (k + 4 + 70 * (30 - q)) + 62) (by omega))
            have Hd16 := Lib.hid ((((Hd14.out.st (p := ⟨w.heap.size + 1, 0, none⟩) (show w.heap.size ≤ w.heap.size + 1 by have := Hgl.out; have := Sr.out; have := S10.out; have := S14.out; have := S16.out; omega) (.string X)).st (p := ⟨w.heap.size + 1, 1, none⟩) (show w.heap.size ≤ w.heap.size + 1 by have := Hgl.out; have := Sr.out; have := S10.out; have := S14.out; have := S16.out; omega) (.string Y)).alloc (Obj.cells #[.string X, .string Y] 76)).trans hd16)
            clear hc16 hd16
            cases c4
            · go_wp2
              go_roundw
              case rel => exact ⟨q - 1, X, Y, by omega, by go_num, by omega, Lib.hid J.out, Lib.hid R.out, Lib.hid (Hc16.out.mono (by omega)), Lib.hid Hd16.out⟩
              case measure => simp [intOf]; omega
            · have qJ0 := J.out.cell 0
              have qJ1 := J.out.cell 1
              simp at qJ0 qJ1
              have qJl := J.out.lt
              have qJf := J.out.frozen
              go_wp2
              go_roundw
              case rel => exact ⟨q - 1, (X ++ Y), ⟨#[]⟩, by omega, by go_num, by rw [ByteArray.size_append]; show X.size + Y.size + 0 ≤ 1240; omega, Lib.hid (show Blk (World.setCell (World.setCell w16 ⟨w.heap.size + 1, 0, none⟩ (.string (X ++ Y))) ⟨w.heap.size + 1, 1, none⟩ (.string (⟨#[]⟩ : ByteArray))) (w.heap.size + 1) 76 #[.string (X ++ Y), .string (⟨#[]⟩ : ByteArray)] by have h9 := ((J.out.set 0 (.string (X ++ Y))).set 1 (.string (⟨#[]⟩ : ByteArray))); simpa using h9), Lib.hid ((R.out.far (p := ⟨w.heap.size + 1, 0, none⟩) (show w.heap.size ≠ w.heap.size + 1 by have := Hgl.out; have := Sr.out; have := S10.out; have := S14.out; have := S16.out; omega) (.string (X ++ Y))).far (p := ⟨w.heap.size + 1, 1, none⟩) (show w.heap.size ≠ w.heap.size + 1 by have := Hgl.out; have := Sr.out; have := S10.out; have := S14.out; have := S16.out; omega) (.string (⟨#[]⟩ : ByteArray))), Lib.hid (((Hc16.out.st (p := ⟨w.heap.size + 1, 0, none⟩) (show g < w.heap.size + 1 by have := Hgl.out; have := Sr.out; have := S10.out; have := S14.out; have := S16.out; omega) (.string (X ++ Y))).st (p := ⟨w.heap.size + 1, 1, none⟩) (show g < w.heap.size + 1 by have := Hgl.out; have := Sr.out; have := S10.out; have := S14.out; have := S16.out; omega) (.string (⟨#[]⟩ : ByteArray))).mono (by omega)), Lib.hid ((Hd16.out.st (p := ⟨w.heap.size + 1, 0, none⟩) (show w.heap.size ≤ w.heap.size + 1 by have := Hgl.out; have := Sr.out; have := S10.out; have := S14.out; have := S16.out; omega) (.string (X ++ Y))).st (p := ⟨w.heap.size + 1, 1, none⟩) (show w.heap.size ≤ w.heap.size + 1 by have := Hgl.out; have := Sr.out; have := S10.out; have := S14.out; have := S16.out; omega) (.string (⟨#[]⟩ : ByteArray)))⟩
              case measure => simp [intOf]; omega
      · obtain rfl : q = 0 := by omega
        clear hq0
        have Hc9 := Lib.hid (Hcr.out.mono (j := k + 2104) (by omega)); clear Hcr
        have qJ0 := J.out.cell 0
        have qJ1 := J.out.cell 1
        simp at qJ0 qJ1
        have qJl := J.out.lt
        have qR0 := R.out.cell 0
        have qR1 := R.out.cell 1
        simp at qR0 qR1
        have qRl := R.out.lt
        have qRf := R.out.frozen
        have nJR : w.heap.size + 1 ≠ w.heap.size := by have := Hgl.out; have := Sr.out; omega
        have nRJ : w.heap.size ≠ w.heap.size + 1 := fun e => nJR e.symm
        go_wp2
        clear qJ0 qJ1 qJl qR0 qR1 qRl qRf nJR nRJ
        have HR9 := (show Blk (World.setCell (World.setCell wr ⟨w.heap.size, 0, none⟩ (.string D)) ⟨w.heap.size, 1, none⟩ (.string P)) (w.heap.size) 76 #[.string D, .string P] by have h9 := ((R.out.set 0 (.string D)).set 1 (.string P)); simpa using h9)
        have k0 := HR9.cell 0
        have k1 := HR9.cell 1
        simp at k0 k1
        exact bodyPost_ret (v := .agg #[.string D, .string P]) (by simp [results, Tryz.results154, go_sem, k0, k1]) rfl ⟨⟨D, P, hDP, rfl⟩, ((Hc9.out.st (p := ⟨w.heap.size, 0, none⟩) (show g < w.heap.size by have := Hgl.out; have := Sr.out; omega) (.string D)).st (p := ⟨w.heap.size, 1, none⟩) (show g < w.heap.size by have := Hgl.out; have := Sr.out; omega) (.string P)).mono (by omega), ((Hdr.out.st (p := ⟨w.heap.size, 0, none⟩) (show w.heap.size ≤ w.heap.size by have := Hgl.out; have := Sr.out; omega) (.string D)).st (p := ⟨w.heap.size, 1, none⟩) (show w.heap.size ≤ w.heap.size by have := Hgl.out; have := Sr.out; omega) (.string P))⟩
set_option linter.unusedSimpArgs false in
set_option maxRecDepth 8000 in
set_option maxHeartbeats 16000000 in
theorem anyJournal_any (g k : Nat) (w : World) (hc : Cur w g k) (hk : k ≤ 300000) :
    Calls Tryz.prog 134 #[.pointer (some ⟨g, 0, none⟩)] w fun e w' => (∃ D P : ByteArray, D.size + P.size ≤ 3000 ∧ e = .returned (.agg #[.string D, .string P])) ∧ Cur w' g (k + 3100) ∧ Dg g w w' := by
  have Hgl := Lib.hid hc.lt
  have Hc := Lib.hid hc; have Hk := Lib.hid hk; have Hd := Lib.hid (Dg.refl g w); clear hc hk
  go_enter Tryz.func134, Tryz.ntmps134
  go_wp2_with fail
  refine (journal_any g k _ (Hc.out.alloc _) (by have := Hk.out; omega)).mono ?_; rintro e w1 ⟨⟨D, P, hDP, rfl⟩, hc1, hd1⟩
  have S1 := Lib.hid (show w.heap.size + 1 ≤ w1.heap.size by have h9 := hd1.size; (try simp only [World.size_alloc, World.size_setCell] at h9); omega)
  have NR := Lib.hid ((Blk.new w 76 #[.string (⟨#[]⟩ : ByteArray), .string (⟨#[]⟩ : ByteArray)]).dg hd1 (show w.heap.size ≠ g by have := Hgl.out; have := S1.out; omega))
  have R := NR; clear NR
  have Hc1 := Lib.hid (hc1.mono (j := k + 3000) (by omega))
  have Hd1 := Lib.hid ((Hd.out.alloc _).trans hd1)
  clear hc1 hd1
  have hD0 : D.size ≤ 1240 := by omega
  have hP0 : P.size ≤ 1240 := by omega
  go_wp2_with fail
  refine (pick_any g (k + 3000) (20) _ (Hc1.out.alloc _) (by have := Hk.out; omega)).mono ?_; rintro e w2 ⟨⟨x, lx, ux, rfl⟩, hc2, hd2⟩
  have S2 := Lib.hid (show w1.heap.size + 1 ≤ w2.heap.size by have h9 := hd2.size; (try simp only [World.size_alloc, World.size_setCell] at h9); omega)
  have NR := Lib.hid ((R.out.alloc _).dg hd2 (show w.heap.size ≠ g by have := Hgl.out; have := S1.out; have := S2.out; omega))
  have NJ := Lib.hid ((Blk.new w1 76 #[.string D, .string P]).dg hd2 (show w1.heap.size ≠ g by have := Hgl.out; have := S1.out; have := S2.out; omega))
  have R := NR; clear NR
  have J := NJ; clear NJ
  have Hc2 := Lib.hid (hc2.mono (j := k + 3002) (by omega))
  have Hd2 := Lib.hid ((Hd1.out.alloc _).trans hd2)
  clear hc2 hd2
  by_cases ex0 : x = 0
  · have zx0 : (x == 0) = true := by rw [ex0]; rfl
    clear ex0
    have qJ0 := J.out.cell 0
    have qJ1 := J.out.cell 1
    simp at qJ0 qJ1
    have qJl := J.out.lt
    go_wp2_with fail
    refine (spoilt_any g (k + 3002) P ⟨#[35, 48, 49, 57, 32, 10]⟩ _ Hc2.out (by have := Hk.out; omega) (by decide) (by decide) (by omega)).mono ?_; rintro e w3 ⟨⟨s2, hs2, rfl⟩, hc3, hd3⟩
    clear qJ0 qJ1 qJl
    have S3 := Lib.hid (show w2.heap.size + 0 ≤ w3.heap.size by have h9 := hd3.size; (try simp only [World.size_alloc, World.size_setCell] at h9); omega)
    have NR := Lib.hid (R.out.dg hd3 (show w.heap.size ≠ g by have := Hgl.out; have := S1.out; have := S2.out; have := S3.out; omega))
    have NJ := Lib.hid (J.out.dg hd3 (show w1.heap.size ≠ g by have := Hgl.out; have := S1.out; have := S2.out; have := S3.out; omega))
    have R := NR; clear NR
    have J := NJ; clear NJ
    have Hc3 := Lib.hid (hc3.mono (j := k + 3022) (by omega))
    have Hd3 := Lib.hid (Hd2.out.trans hd3)
    clear hc3 hd3
    have qJ0 := J.out.cell 0
    have qJ1 := J.out.cell 1
    simp at qJ0 qJ1
    have qJl := J.out.lt
    have qJf := J.out.frozen
    have qR0 := R.out.cell 0
    have qR1 := R.out.cell 1
    simp at qR0 qR1
    have qRl := R.out.lt
    have qRf := R.out.frozen
    have nJR : w1.heap.size ≠ w.heap.size := by have := Hgl.out; have := S1.out; have := S2.out; have := S3.out; omega
    have nRJ : w.heap.size ≠ w1.heap.size := fun e => nJR e.symm
    go_wp2
    clear qJ0 qJ1 qJl qJf qR0 qR1 qRl qRf nJR nRJ
    have HR9 := (show Blk (World.setCell (World.setCell (World.setCell w3 ⟨w1.heap.size, 1, none⟩ (.string s2)) ⟨w.heap.size, 0, none⟩ (.string D)) ⟨w.heap.size, 1, none⟩ (.string s2)) (w.heap.size) 76 #[.string D, .string s2] by have h9 := (((R.out.far (p := ⟨w1.heap.size, 1, none⟩) (show w.heap.size ≠ w1.heap.size by have := Hgl.out; have := S1.out; have := S2.out; have := S3.out; omega) (.string s2)).set 0 (.string D)).set 1 (.string s2)); simpa using h9)
    have k0 := HR9.cell 0
    have k1 := HR9.cell 1
    simp at k0 k1
    exact bodyPost_ret (v := .agg #[.string D, .string s2]) (by simp [results, Tryz.results134, go_sem, k0, k1]) rfl ⟨⟨D, s2, by omega, rfl⟩, (((Hc3.out.st (p := ⟨w1.heap.size, 1, none⟩) (show g < w1.heap.size by have := Hgl.out; have := S1.out; have := S2.out; have := S3.out; omega) (.string s2)).st (p := ⟨w.heap.size, 0, none⟩) (show g < w.heap.size by have := Hgl.out; have := S1.out; have := S2.out; have := S3.out; omega) (.string D)).st (p := ⟨w.heap.size, 1, none⟩) (show g < w.heap.size by have := Hgl.out; have := S1.out; have := S2.out; have := S3.out; omega) (.string s2)).mono (by omega), (((Hd3.out.st (p := ⟨w1.heap.size, 1, none⟩) (show w.heap.size ≤ w1.heap.size by have := Hgl.out; have := S1.out; have := S2.out; have := S3.out; omega) (.string s2)).st (p := ⟨w.heap.size, 0, none⟩) (show w.heap.size ≤ w.heap.size by have := Hgl.out; have := S1.out; have := S2.out; have := S3.out; omega) (.string D)).st (p := ⟨w.heap.size, 1, none⟩) (show w.heap.size ≤ w.heap.size by have := Hgl.out; have := S1.out; have := S2.out; have := S3.out; omega) (.string s2))⟩
  · by_cases ex1 : x = 1
    · have zx1 : (x == 1) = true := by rw [ex1]; rfl
      have zx0 : (x == 0) = false := by rw [ex1]; rfl
      clear ex0 ex1
      have qJ0 := J.out.cell 0
      have qJ1 := J.out.cell 1
      simp at qJ0 qJ1
      have qJl := J.out.lt
      have qJf := J.out.frozen
      have qR0 := R.out.cell 0
      have qR1 := R.out.cell 1
      simp at qR0 qR1
      have qRl := R.out.lt
      have qRf := R.out.frozen
      have nJR : w1.heap.size ≠ w.heap.size := by have := Hgl.out; have := S1.out; have := S2.out; omega
      have nRJ : w.heap.size ≠ w1.heap.size := fun e => nJR e.symm
      go_wp2
      clear qJ0 qJ1 qJl qJf qR0 qR1 qRl qRf nJR nRJ
      have HR9 := (show Blk (World.setCell (World.setCell (World.setCell w2 ⟨w1.heap.size, 0, none⟩ (.string (D ++ P))) ⟨w.heap.size, 0, none⟩ (.string (D ++ P))) ⟨w.heap.size, 1, none⟩ (.string P)) (w.heap.size) 76 #[.string (D ++ P), .string P] by have h9 := (((R.out.far (p := ⟨w1.heap.size, 0, none⟩) (show w.heap.size ≠ w1.heap.size by have := Hgl.out; have := S1.out; have := S2.out; omega) (.string (D ++ P))).set 0 (.string (D ++ P))).set 1 (.string P)); simpa using h9)
      have k0 := HR9.cell 0
      have k1 := HR9.cell 1
      simp at k0 k1
      exact bodyPost_ret (v := .agg #[.string (D ++ P), .string P]) (by simp [results, Tryz.results134, go_sem, k0, k1]) rfl ⟨⟨D ++ P, P, by rw [ByteArray.size_append]; omega, rfl⟩, (((Hc2.out.st (p := ⟨w1.heap.size, 0, none⟩) (show g < w1.heap.size by have := Hgl.out; have := S1.out; have := S2.out; omega) (.string (D ++ P))).st (p := ⟨w.heap.size, 0, none⟩) (show g < w.heap.size by have := Hgl.out; have := S1.out; have := S2.out; omega) (.string (D ++ P))).st (p := ⟨w.heap.size, 1, none⟩) (show g < w.heap.size by have := Hgl.out; have := S1.out; have := S2.out; omega) (.string P)).mono (by omega), (((Hd2.out.st (p := ⟨w1.heap.size, 0, none⟩) (show w.heap.size ≤ w1.heap.size by have := Hgl.out; have := S1.out; have := S2.out; omega) (.string (D ++ P))).st (p := ⟨w.heap.size, 0, none⟩) (show w.heap.size ≤ w.heap.size by have := Hgl.out; have := S1.out; have := S2.out; omega) (.string (D ++ P))).st (p := ⟨w.heap.size, 1, none⟩) (show w.heap.size ≤ w.heap.size by have := Hgl.out; have := S1.out; have := S2.out; omega) (.string P))⟩
    · by_cases ex2 : x = 2
      · have zx2 : (x == 2) = true := by rw [ex2]; rfl
        have zx0 : (x == 0) = false := by rw [ex2]; rfl
        have zx1 : (x == 1) = false := by rw [ex2]; rfl
        clear ex0 ex1 ex2
        by_cases hd0 : 0 < D.size
        · have hd1 : (0 : Int) < (D.size : Int) := by omega
          have hd2 : (0 : Int) ≤ (D.size : Int) - 1 := by omega
          have qJ0 := J.out.cell 0
          have qJ1 := J.out.cell 1
          simp at qJ0 qJ1
          have qJl := J.out.lt
          have qJf := J.out.frozen
          have qR0 := R.out.cell 0
          have qR1 := R.out.cell 1
          simp at qR0 qR1
          have qRl := R.out.lt
          have qRf := R.out.frozen
          have nJR : w1.heap.size ≠ w.heap.size := by have := Hgl.out; have := S1.out; have := S2.out; omega
          have nRJ : w.heap.size ≠ w1.heap.size := fun e => nJR e.symm
          go_wp2
          clear qJ0 qJ1 qJl qJf qR0 qR1 qRl qRf nJR nRJ
          have HR9 := (show Blk (World.setCell (World.setCell (World.setCell w2 ⟨w1.heap.size, 0, none⟩ (.string (D.extract 0 (D.size - 1)))) ⟨w.heap.size, 0, none⟩ (.string (D.extract 0 (D.size - 1)))) ⟨w.heap.size, 1, none⟩ (.string P)) (w.heap.size) 76 #[.string (D.extract 0 (D.size - 1)), .string P] by have h9 := (((R.out.far (p := ⟨w1.heap.size, 0, none⟩) (show w.heap.size ≠ w1.heap.size by have := Hgl.out; have := S1.out; have := S2.out; omega) (.string (D.extract 0 (D.size - 1)))).set 0 (.string (D.extract 0 (D.size - 1)))).set 1 (.string P)); simpa using h9)
          have k0 := HR9.cell 0
          have k1 := HR9.cell 1
          simp at k0 k1
          exact bodyPost_ret (v := .agg #[.string (D.extract 0 (D.size - 1)), .string P]) (by simp [results, Tryz.results134, go_sem, k0, k1]) rfl ⟨⟨_, P, by rw [ByteArray.size_extract]; omega, rfl⟩, (((Hc2.out.st (p := ⟨w1.heap.size, 0, none⟩) (show g < w1.heap.size by have := Hgl.out; have := S1.out; have := S2.out; omega) (.string (D.extract 0 (D.size - 1)))).st (p := ⟨w.heap.size, 0, none⟩) (show g < w.heap.size by have := Hgl.out; have := S1.out; have := S2.out; omega) (.string (D.extract 0 (D.size - 1)))).st (p := ⟨w.heap.size, 1, none⟩) (show g < w.heap.size by have := Hgl.out; have := S1.out; have := S2.out; omega) (.string P)).mono (by omega), (((Hd2.out.st (p := ⟨w1.heap.size, 0, none⟩) (show w.heap.size ≤ w1.heap.size by have := Hgl.out; have := S1.out; have := S2.out; omega) (.string (D.extract 0 (D.size - 1)))).st (p := ⟨w.heap.size, 0, none⟩) (show w.heap.size ≤ w.heap.size by have := Hgl.out; have := S1.out; have := S2.out; omega) (.string (D.extract 0 (D.size - 1)))).st (p := ⟨w.heap.size, 1, none⟩) (show w.heap.size ≤ w.heap.size by have := Hgl.out; have := S1.out; have := S2.out; omega) (.string P))⟩
        · have hd1 : ¬ (0 : Int) < (D.size : Int) := by omega
          have qJ0 := J.out.cell 0
          have qJ1 := J.out.cell 1
          simp at qJ0 qJ1
          have qJl := J.out.lt
          have qR0 := R.out.cell 0
          have qR1 := R.out.cell 1
          simp at qR0 qR1
          have qRl := R.out.lt
          have qRf := R.out.frozen
          have nJR : w1.heap.size ≠ w.heap.size := by have := Hgl.out; have := S1.out; have := S2.out; omega
          have nRJ : w.heap.size ≠ w1.heap.size := fun e => nJR e.symm
          go_wp2
          clear qJ0 qJ1 qJl qR0 qR1 qRl qRf nJR nRJ
          have HR9 := (show Blk (World.setCell (World.setCell w2 ⟨w.heap.size, 0, none⟩ (.string D)) ⟨w.heap.size, 1, none⟩ (.string P)) (w.heap.size) 76 #[.string D, .string P] by have h9 := ((R.out.set 0 (.string D)).set 1 (.string P)); simpa using h9)
          have k0 := HR9.cell 0
          have k1 := HR9.cell 1
          simp at k0 k1
          exact bodyPost_ret (v := .agg #[.string D, .string P]) (by simp [results, Tryz.results134, go_sem, k0, k1]) rfl ⟨⟨D, P, by omega, rfl⟩, ((Hc2.out.st (p := ⟨w.heap.size, 0, none⟩) (show g < w.heap.size by have := Hgl.out; have := S1.out; have := S2.out; omega) (.string D)).st (p := ⟨w.heap.size, 1, none⟩) (show g < w.heap.size by have := Hgl.out; have := S1.out; have := S2.out; omega) (.string P)).mono (by omega), ((Hd2.out.st (p := ⟨w.heap.size, 0, none⟩) (show w.heap.size ≤ w.heap.size by have := Hgl.out; have := S1.out; have := S2.out; omega) (.string D)).st (p := ⟨w.heap.size, 1, none⟩) (show w.heap.size ≤ w.heap.size by have := Hgl.out; have := S1.out; have := S2.out; omega) (.string P))⟩
      · have zx0 : (x == 0) = false := beq_eq_false_iff_ne.2 ex0
        have zx1 : (x == 1) = false := beq_eq_false_iff_ne.2 ex1
        have zx2 : (x == 2) = false := beq_eq_false_iff_ne.2 ex2
        clear ex0 ex1 ex2
        have qJ0 := J.out.cell 0
        have qJ1 := J.out.cell 1
        simp at qJ0 qJ1
        have qJl := J.out.lt
        have qR0 := R.out.cell 0
        have qR1 := R.out.cell 1
        simp at qR0 qR1
        have qRl := R.out.lt
        have qRf := R.out.frozen
        have nJR : w1.heap.size ≠ w.heap.size := by have := Hgl.out; have := S1.out; have := S2.out; omega
        have nRJ : w.heap.size ≠ w1.heap.size := fun e => nJR e.symm
        go_wp2
        clear qJ0 qJ1 qJl qR0 qR1 qRl qRf nJR nRJ
        have HR9 := (show Blk (World.setCell (World.setCell w2 ⟨w.heap.size, 0, none⟩ (.string D)) ⟨w.heap.size, 1, none⟩ (.string P)) (w.heap.size) 76 #[.string D, .string P] by have h9 := ((R.out.set 0 (.string D)).set 1 (.string P)); simpa using h9)
        have k0 := HR9.cell 0
        have k1 := HR9.cell 1
        simp at k0 k1
        exact bodyPost_ret (v := .agg #[.string D, .string P]) (by simp [results, Tryz.results134, go_sem, k0, k1]) rfl ⟨⟨D, P, by omega, rfl⟩, ((Hc2.out.st (p := ⟨w.heap.size, 0, none⟩) (show g < w.heap.size by have := Hgl.out; have := S1.out; have := S2.out; omega) (.string D)).st (p := ⟨w.heap.size, 1, none⟩) (show g < w.heap.size by have := Hgl.out; have := S1.out; have := S2.out; omega) (.string P)).mono (by omega), ((Hd2.out.st (p := ⟨w.heap.size, 0, none⟩) (show w.heap.size ≤ w.heap.size by have := Hgl.out; have := S1.out; have := S2.out; omega) (.string D)).st (p := ⟨w.heap.size, 1, none⟩) (show w.heap.size ≤ w.heap.size by have := Hgl.out; have := S1.out; have := S2.out; omega) (.string P))⟩
end Go.Proofs.YtimfoodbolokdaaGreatDoor
