/- AppendRecord of both. Conditions: Env; bounds. -/
import Derived.Test.YtimfoodbolokdaaGreatDoorJRecs
import Derived.Deep.RegionHeld3
namespace Go.Proofs.YtimfoodbolokdaaGreatDoor
open Go Go.RowKit

def apOk (D P : ByteArray) (a b lo hi : Int) : Bool := jrOk D P && (recB a b lo hi && decide ((jrV D P).length ≠ 30))
/-- What both hand back. -/
def apV (D P : ByteArray) (a b lo hi : Int) : ByteArray × ByteArray × Bool := if apOk D P a b lo hi = true then (D, P ++ lineS (jrV D P).length a b lo hi, true) else (⟨#[]⟩, ⟨#[]⟩, false)
theorem apV_no {D P : ByteArray} {a b lo hi : Int} (h : apOk D P a b lo hi = false) : apV D P a b lo hi = (⟨#[]⟩, ⟨#[]⟩, false) := by unfold apV; rw [h]; rfl
theorem apV_yes {D P : ByteArray} {a b lo hi : Int} (h1 : jrOk D P = true) (h2 : recB a b lo hi = true) (h3 : (jrV D P).length ≠ 30) : apV D P a b lo hi = (D, P ++ lineS (jrV D P).length a b lo hi, true) := by
  unfold apV apOk; rw [h1, h2, decide_eq_true h3]; rfl
theorem sz_al {w x : World} {o : Obj} (h : (w.alloc o).heap.size ≤ x.heap.size) : w.heap.size ≤ x.heap.size := by
  rw [World.size_alloc] at h; omega
theorem line_sz {k a b lo hi : Int} (h : RcB k a b lo hi) : (lineS k a b lo hi).size ≤ 1300000 := by
  have h1 := h.size
  have h2 := sumL_bd (nText [k, a, b, lo, hi]).data.toList
  have h3 := itS_size (sumL (nText [k, a, b, lo, hi]).data.toList)
  unfold lineS
  simp only [ByteArray.size_append]
  have e1 : (⟨#[35]⟩ : ByteArray).size = 1 := rfl
  have e2 : (⟨#[10]⟩ : ByteArray).size = 1 := rfl
  omega
set_option linter.unusedSimpArgs false in
set_option maxRecDepth 8000 in
set_option maxHeartbeats 4000000 in
theorem implApp_any (D P : ByteArray) (a b lo hi : Int) (w : World) (h : JB D P) (he : Env w) : Calls Tryz.prog 53 #[.agg #[.string D, .string P], .agg #[.int .i64 a, .int .i64 b, .int .i64 lo, .int .i64 hi]] w fun e w' => e = .returned (.tuple #[.agg #[.string (apV D P a b lo hi).1, .string (apV D P a b lo hi).2.1], .bool (apV D P a b lo hi).2.2]) ∧ Below w.heap.size w w' := by
  have hd := h.d; have hp := h.p
  have hbx := bal (bal (bal (Below.refl w.heap.size w) (Obj.cells #[.string D, .string P] 76)) (Obj.cells #[.int .i64 a, .int .i64 b, .int .i64 lo, .int .i64 hi] 78)) (Obj.cells #[.string (⟨#[]⟩ : ByteArray), .string (⟨#[]⟩ : ByteArray)] 76)
  have He := Lib.hid (he.on hbx); clear he
  have HX := Lib.hid (((Blk.new w 76 #[.string D, .string P]).alloc (Obj.cells #[.int .i64 a, .int .i64 b, .int .i64 lo, .int .i64 hi] 78)).alloc (Obj.cells #[.string (⟨#[]⟩ : ByteArray), .string (⟨#[]⟩ : ByteArray)] 76))
  have HY := Lib.hid ((Blk.new1 w (Obj.cells #[.string D, .string P] 76) 78 #[.int .i64 a, .int .i64 b, .int .i64 lo, .int .i64 hi]).alloc (Obj.cells #[.string (⟨#[]⟩ : ByteArray), .string (⟨#[]⟩ : ByteArray)] 76))
  have hZ := Blk.new1 (w.alloc (Obj.cells #[.string D, .string P] 76)) (Obj.cells #[.int .i64 a, .int .i64 b, .int .i64 lo, .int .i64 hi] 78) 76 #[.string (⟨#[]⟩ : ByteArray), .string (⟨#[]⟩ : ByteArray)]
  rw [World.size_alloc w] at hZ
  have HZ := Lib.hid hZ; clear hZ
  have Hbx := Lib.hid hbx; clear hbx
  have hrl := jrV_len D P
  have Hro := Lib.hid (fun W he => recordsOf_any D P W (by omega) (by omega) he)
  go_enter Tryz.func53, Tryz.ntmps53
  go_wp2_with fail
  refine (Hro.out _ He.out).mono ?_; rintro e w1 ⟨⟨v, rfl, hown⟩, hb1⟩
  obtain ⟨A, c, rfl⟩ := own_form hown
  clear hown
  have HX1 := Lib.hid (HX.out.on hb1); have HY1 := Lib.hid (HY.out.on hb1); have HZ1 := Lib.hid (HZ.out.on hb1); have He1 := Lib.hid (He.out.on hb1); have Hb1 := Lib.hid (bthen Hbx.out hb1)
  clear hb1
  have x0 := HX1.out.cell 0
  have x1 := HX1.out.cell 1
  have xl := HX1.out.lt
  have y0 := HY1.out.cell 0
  have y1 := HY1.out.cell 1
  have y2 := HY1.out.cell 2
  have y3 := HY1.out.cell 3
  have yl := HY1.out.lt
  have z0 := HZ1.out.cell 0
  have z1 := HZ1.out.cell 1
  have zl := HZ1.out.lt
  have zf := HZ1.out.frozen
  simp at x0 x1 y0 y1 y2 y3 z0 z1
  cases hok : jrOk D P
  · have HV := Lib.hid (apV_no (D := D) (P := P) (a := a) (b := b) (lo := lo) (hi := hi) (by unfold apOk; rw [hok]; rfl))
    clear hok
    go_wp2
    have HR4 := HZ1.out.set2 (b0 := .string (⟨#[]⟩ : ByteArray)) (b1 := .string (⟨#[]⟩ : ByteArray))
    have r0 := HR4.cell 0
    have r1 := HR4.cell 1
    simp at r0 r1
    exact bodyPost_ret (v := .tuple #[.agg #[.string (⟨#[]⟩ : ByteArray), .string (⟨#[]⟩ : ByteArray)], .bool false]) (by simp [results, Tryz.results53, go_sem, r0, r1]) rfl ⟨by rw [HV.out] <;> rfl, bst (bst Hb1.out (by simp; omega) _) (by simp; omega) _⟩
  · go_wp2_with fail
    refine (isRecord_any a b lo hi _).mono ?_; rintro e w2 ⟨rfl, hb2⟩
    clear x0 x1 xl y0 y1 y2 y3 yl z0 z1 zl zf
    have HX2 := Lib.hid (HX1.out.on hb2); have HY2 := Lib.hid (HY1.out.on hb2); have HZ2 := Lib.hid (HZ1.out.on hb2); have He2 := Lib.hid (He1.out.on hb2); have Hb2 := Lib.hid (bthen Hb1.out hb2)
    clear hb2
    have x0 := HX2.out.cell 0
    have x1 := HX2.out.cell 1
    have xl := HX2.out.lt
    have y0 := HY2.out.cell 0
    have y1 := HY2.out.cell 1
    have y2 := HY2.out.cell 2
    have y3 := HY2.out.cell 3
    have yl := HY2.out.lt
    have z0 := HZ2.out.cell 0
    have z1 := HZ2.out.cell 1
    have zl := HZ2.out.lt
    have zf := HZ2.out.frozen
    simp at x0 x1 y0 y1 y2 y3 z0 z1
    cases hrc : recB a b lo hi
    · have HV := Lib.hid (apV_no (D := D) (P := P) (a := a) (b := b) (lo := lo) (hi := hi) (by unfold apOk; rw [hok, hrc]; rfl))
      clear hok hrc
      go_wp2
      have HR4 := HZ2.out.set2 (b0 := .string (⟨#[]⟩ : ByteArray)) (b1 := .string (⟨#[]⟩ : ByteArray))
      have r0 := HR4.cell 0
      have r1 := HR4.cell 1
      simp at r0 r1
      exact bodyPost_ret (v := .tuple #[.agg #[.string (⟨#[]⟩ : ByteArray), .string (⟨#[]⟩ : ByteArray)], .bool false]) (by simp [results, Tryz.results53, go_sem, r0, r1]) rfl ⟨by rw [HV.out] <;> rfl, bst (bst Hb2.out (by simp; omega) _) (by simp; omega) _⟩
    · by_cases h30 : (jrV D P).length = 30
      · have HV := Lib.hid (apV_no (D := D) (P := P) (a := a) (b := b) (lo := lo) (hi := hi) (by unfold apOk; rw [hok, hrc, decide_eq_false (fun hh => hh h30)]; rfl))
        have h31 : (((jrV D P).length : Int) == 30) = true := beq_iff_eq.2 (by omega)
        clear hok hrc h30
        go_wp2
        have HR4 := HZ2.out.set2 (b0 := .string (⟨#[]⟩ : ByteArray)) (b1 := .string (⟨#[]⟩ : ByteArray))
        have r0 := HR4.cell 0
        have r1 := HR4.cell 1
        simp at r0 r1
        exact bodyPost_ret (v := .tuple #[.agg #[.string (⟨#[]⟩ : ByteArray), .string (⟨#[]⟩ : ByteArray)], .bool false]) (by simp [results, Tryz.results53, go_sem, r0, r1]) rfl ⟨by rw [HV.out] <;> rfl, bst (bst Hb2.out (by simp; omega) _) (by simp; omega) _⟩
      · have HV := Lib.hid (apV_yes hok hrc h30)
        have h31 : (((jrV D P).length : Int) == 30) = false := beq_eq_false_iff_ne.2 (by omega)
        have hrcb := recB_bd hrc (k := ((jrV D P).length : Int)) (by omega)
        have hlz := line_sz hrcb
        have Hrc := Lib.hid hrcb; clear hrcb
        clear hok hrc h30
        generalize hL : lineS ((jrV D P).length : Int) a b lo hi = L at HV hlz
        have HL := Lib.hid hL; clear hL
        have hadd := str_add4 P L (by omega) (by omega)
        have Hse := Lib.hid (fun W ht => sealRecord_any ((jrV D P).length : Int) a b lo hi W Hrc.out ht)
        rw [HL.out] at Hse
        generalize (jrV D P).length = n at Hse h31 ⊢
        have HXb := HX2.out; have HYb := HY2.out; have HZb := HZ2.out; have hbw := Hb2.out
        have Htb := Lib.hid (fun W (hW : Below w2.heap.size w2 W) => (He2.out.on hW).tab)
        have hb22 := Below.refl w2.heap.size w2
        have Hn1 : Hid (w.heap.size ≠ w.heap.size + 1 + 1) := Lib.hid (by omega)
        have Hn2 : Hid (w.heap.size + 1 ≠ w.heap.size + 1 + 1) := Lib.hid (by omega)
        have HS : Hid (∀ w', Blk w' w.heap.size 76 #[.string D, .string P] → Blk w' (w.heap.size + 1) 78 #[.int .i64 a, .int .i64 b, .int .i64 lo, .int .i64 hi] → Below w.heap.size w w' → ((w'.cell? ⟨w.heap.size, 0, none⟩ = some (.string D) ∧ w'.cell? ⟨w.heap.size, 1, none⟩ = some (.string P)) ∧ (w'.cell? ⟨w.heap.size + 1, 0, none⟩ = some (.int .i64 a) ∧ w'.cell? ⟨w.heap.size + 1, 1, none⟩ = some (.int .i64 b) ∧ w'.cell? ⟨w.heap.size + 1, 2, none⟩ = some (.int .i64 lo) ∧ w'.cell? ⟨w.heap.size + 1, 3, none⟩ = some (.int .i64 hi)) ∧ Blk w' w.heap.size 76 #[.string D, .string P] ∧ Blk w' (w.heap.size + 1) 78 #[.int .i64 a, .int .i64 b, .int .i64 lo, .int .i64 hi] ∧ Below w.heap.size w w')) := Lib.hid (fun w' h1 h2 h3 => ⟨⟨h1.cell 0, h1.cell 1⟩, ⟨h2.cell 0, h2.cell 1, h2.cell 2, h2.cell 3⟩, h1, h2, h3⟩)
        clear x0 x1 xl y0 y1 y2 y3 yl z0 z1 zl zf
        go_wp2
        go_region_held3 (fun w' => (w'.cell? ⟨w.heap.size, 0, none⟩ = some (.string D) ∧ w'.cell? ⟨w.heap.size, 1, none⟩ = some (.string P)) ∧ (w'.cell? ⟨w.heap.size + 1, 0, none⟩ = some (.int .i64 a) ∧ w'.cell? ⟨w.heap.size + 1, 1, none⟩ = some (.int .i64 b) ∧ w'.cell? ⟨w.heap.size + 1, 2, none⟩ = some (.int .i64 lo) ∧ w'.cell? ⟨w.heap.size + 1, 3, none⟩ = some (.int .i64 hi)) ∧ Blk w' w.heap.size 76 #[.string D, .string P] ∧ Blk w' (w.heap.size + 1) 78 #[.int .i64 a, .int .i64 b, .int .i64 lo, .int .i64 hi] ∧ Below w.heap.size w w')
          ((go_split_ands; refine HS.out _ ?_ ?_ ?_ <;> repeat (first | (with_reducible assumption) | (with_reducible refine Below.drew ?_) | (with_reducible refine bst ?_ (by simp; omega) _) | (with_reducible refine bthen ?_ (by with_reducible assumption)) | (with_reducible refine Blk.drew ?_) | (with_reducible refine Blk.on ?_ (by with_reducible assumption)) | (with_reducible refine Blk.far ?_ Hn1.out _) | (with_reducible refine Blk.far ?_ Hn2.out _))))
          ((first
            | (go_at_call 138; (with_reducible refine (Hse.out _ (Htb.out _ hb22.drew)).mono ?_); rintro e wa ⟨rfl, hba⟩; have HZ_wa := HZb.drew.on hba; have z0 := HZ_wa.cell 0; have z1 := HZ_wa.cell 1; have zf := HZ_wa.frozen; have zl := HZ_wa.lt; simp at z0 z1)))
        all_goals
          go_wp2
          have HR4 := HZ_wa.set2 (b0 := .string D) (b1 := .string (P ++ L))
          have r0 := HR4.cell 0
          have r1 := HR4.cell 1
          simp at r0 r1
          have hb_wa := bthen hbw.drew hba
          exact bodyPost_ret (v := .tuple #[.agg #[.string D, .string (P ++ L)], .bool true]) (by simp [results, Tryz.results53, go_sem, r0, r1]) rfl ⟨by rw [HV.out] <;> rfl, bst (bst hb_wa (by simp; omega) _) (by simp; omega) _⟩
set_option linter.unusedSimpArgs false in
set_option maxRecDepth 8000 in
set_option maxHeartbeats 4000000 in
theorem specApp_any (D P : ByteArray) (a b lo hi : Int) (w : World) (h : JB D P) : Calls Tryz.prog 54 #[.agg #[.string D, .string P], .agg #[.int .i64 a, .int .i64 b, .int .i64 lo, .int .i64 hi]] w fun e w' => e = .returned (.tuple #[.agg #[.string (apV D P a b lo hi).1, .string (apV D P a b lo hi).2.1], .bool (apV D P a b lo hi).2.2]) ∧ Below w.heap.size w w' := by
  have hd := h.d; have hp := h.p
  have hbx := bal (bal (bal (Below.refl w.heap.size w) (Obj.cells #[.string D, .string P] 76)) (Obj.cells #[.int .i64 a, .int .i64 b, .int .i64 lo, .int .i64 hi] 78)) (Obj.cells #[.string (⟨#[]⟩ : ByteArray), .string (⟨#[]⟩ : ByteArray)] 76)
  have HX := Lib.hid (((Blk.new w 76 #[.string D, .string P]).alloc (Obj.cells #[.int .i64 a, .int .i64 b, .int .i64 lo, .int .i64 hi] 78)).alloc (Obj.cells #[.string (⟨#[]⟩ : ByteArray), .string (⟨#[]⟩ : ByteArray)] 76))
  have HY := Lib.hid ((Blk.new1 w (Obj.cells #[.string D, .string P] 76) 78 #[.int .i64 a, .int .i64 b, .int .i64 lo, .int .i64 hi]).alloc (Obj.cells #[.string (⟨#[]⟩ : ByteArray), .string (⟨#[]⟩ : ByteArray)] 76))
  have hZ := Blk.new1 (w.alloc (Obj.cells #[.string D, .string P] 76)) (Obj.cells #[.int .i64 a, .int .i64 b, .int .i64 lo, .int .i64 hi] 78) 76 #[.string (⟨#[]⟩ : ByteArray), .string (⟨#[]⟩ : ByteArray)]
  rw [World.size_alloc w] at hZ
  have HZ := Lib.hid hZ; clear hZ
  have Hbx := Lib.hid hbx; clear hbx
  have hrl := jrV_len D P
  have Hgo := Lib.hid (fun W => jrGood_any D P W h)
  go_enter Tryz.func54, Tryz.ntmps54
  go_wp2_with fail
  refine (Hgo.out _).mono ?_; rintro e w1 ⟨rfl, hb1⟩
  have HX1 := Lib.hid (HX.out.on hb1); have HY1 := Lib.hid (HY.out.on hb1); have HZ1 := Lib.hid (HZ.out.on hb1); have Hb1 := Lib.hid (bthen Hbx.out hb1)
  clear hb1
  have x0 := HX1.out.cell 0
  have x1 := HX1.out.cell 1
  have xl := HX1.out.lt
  have y0 := HY1.out.cell 0
  have y1 := HY1.out.cell 1
  have y2 := HY1.out.cell 2
  have y3 := HY1.out.cell 3
  have yl := HY1.out.lt
  have z0 := HZ1.out.cell 0
  have z1 := HZ1.out.cell 1
  have zl := HZ1.out.lt
  have zf := HZ1.out.frozen
  simp at x0 x1 y0 y1 y2 y3 z0 z1
  cases hok : jrOk D P
  · have HV := Lib.hid (apV_no (D := D) (P := P) (a := a) (b := b) (lo := lo) (hi := hi) (by unfold apOk; rw [hok]; rfl))
    clear hok
    go_wp2
    have HR4 := HZ1.out.set2 (b0 := .string (⟨#[]⟩ : ByteArray)) (b1 := .string (⟨#[]⟩ : ByteArray))
    have r0 := HR4.cell 0
    have r1 := HR4.cell 1
    simp at r0 r1
    exact bodyPost_ret (v := .tuple #[.agg #[.string (⟨#[]⟩ : ByteArray), .string (⟨#[]⟩ : ByteArray)], .bool false]) (by simp [results, Tryz.results54, go_sem, r0, r1]) rfl ⟨by rw [HV.out] <;> rfl, bst (bst Hb1.out (by simp; omega) _) (by simp; omega) _⟩
  · have Hall := Lib.hid (fun W => jrAll_any D P W h hok)
    rw [← jrV_ok hok] at Hall
    go_wp2_with fail
    refine (jrRecord_any a b lo hi _).mono ?_; rintro e w2 ⟨rfl, hb2⟩
    clear x0 x1 xl y0 y1 y2 y3 yl z0 z1 zl zf
    have HX2 := Lib.hid (HX1.out.on hb2); have HY2 := Lib.hid (HY1.out.on hb2); have HZ2 := Lib.hid (HZ1.out.on hb2); have Hb2 := Lib.hid (bthen Hb1.out hb2)
    clear hb2
    have x0 := HX2.out.cell 0
    have x1 := HX2.out.cell 1
    have xl := HX2.out.lt
    have y0 := HY2.out.cell 0
    have y1 := HY2.out.cell 1
    have y2 := HY2.out.cell 2
    have y3 := HY2.out.cell 3
    have yl := HY2.out.lt
    have z0 := HZ2.out.cell 0
    have z1 := HZ2.out.cell 1
    have zl := HZ2.out.lt
    have zf := HZ2.out.frozen
    simp at x0 x1 y0 y1 y2 y3 z0 z1
    cases hrc : recB a b lo hi
    · have HV := Lib.hid (apV_no (D := D) (P := P) (a := a) (b := b) (lo := lo) (hi := hi) (by unfold apOk; rw [hok, hrc]; rfl))
      clear hok hrc
      go_wp2
      have HR4 := HZ2.out.set2 (b0 := .string (⟨#[]⟩ : ByteArray)) (b1 := .string (⟨#[]⟩ : ByteArray))
      have r0 := HR4.cell 0
      have r1 := HR4.cell 1
      simp at r0 r1
      exact bodyPost_ret (v := .tuple #[.agg #[.string (⟨#[]⟩ : ByteArray), .string (⟨#[]⟩ : ByteArray)], .bool false]) (by simp [results, Tryz.results54, go_sem, r0, r1]) rfl ⟨by rw [HV.out] <;> rfl, bst (bst Hb2.out (by simp; omega) _) (by simp; omega) _⟩
    · go_wp2_with fail
      refine (Hall.out _).mono ?_; rintro e w3 ⟨⟨v3, rfl, hown3⟩, hb3⟩
      obtain ⟨A3, c3, rfl⟩ := own_form hown3
      clear x0 x1 xl y0 y1 y2 y3 yl z0 z1 zl zf hown3
      have HX3 := Lib.hid (HX2.out.on hb3); have HY3 := Lib.hid (HY2.out.on hb3); have HZ3 := Lib.hid (HZ2.out.on hb3); have Hb3 := Lib.hid (bthen Hb2.out hb3)
      clear hb3
      have x0 := HX3.out.cell 0
      have x1 := HX3.out.cell 1
      have xl := HX3.out.lt
      have y0 := HY3.out.cell 0
      have y1 := HY3.out.cell 1
      have y2 := HY3.out.cell 2
      have y3 := HY3.out.cell 3
      have yl := HY3.out.lt
      have z0 := HZ3.out.cell 0
      have z1 := HZ3.out.cell 1
      have zl := HZ3.out.lt
      have zf := HZ3.out.frozen
      simp at x0 x1 y0 y1 y2 y3 z0 z1
      by_cases h30 : (jrV D P).length = 30
      · have HV := Lib.hid (apV_no (D := D) (P := P) (a := a) (b := b) (lo := lo) (hi := hi) (by unfold apOk; rw [hok, hrc, decide_eq_false (fun hh => hh h30)]; rfl))
        have h31 : (((jrV D P).length : Int) == 30) = true := beq_iff_eq.2 (by omega)
        clear hok hrc h30
        go_wp2
        have HR4 := HZ3.out.set2 (b0 := .string (⟨#[]⟩ : ByteArray)) (b1 := .string (⟨#[]⟩ : ByteArray))
        have r0 := HR4.cell 0
        have r1 := HR4.cell 1
        simp at r0 r1
        exact bodyPost_ret (v := .tuple #[.agg #[.string (⟨#[]⟩ : ByteArray), .string (⟨#[]⟩ : ByteArray)], .bool false]) (by simp [results, Tryz.results54, go_sem, r0, r1]) rfl ⟨by rw [HV.out] <;> rfl, bst (bst Hb3.out (by simp; omega) _) (by simp; omega) _⟩
      · have HV := Lib.hid (apV_yes hok hrc h30)
        have h31 : (((jrV D P).length : Int) == 30) = false := beq_eq_false_iff_ne.2 (by omega)
        have hrcb := recB_bd hrc (k := ((jrV D P).length : Int)) (by omega)
        have hlz := line_sz hrcb
        have Hrc := Lib.hid hrcb; clear hrcb
        clear hok hrc h30
        generalize hL : lineS ((jrV D P).length : Int) a b lo hi = L at HV hlz
        have HL := Lib.hid hL; clear hL
        have hadd := str_add4 P L (by omega) (by omega)
        have Hse := Lib.hid (fun W => jrLine_any ((jrV D P).length : Int) a b lo hi W Hrc.out)
        rw [HL.out] at Hse
        generalize jrV D P = ys at Hse h31 Hall ⊢
        have HXb := HX3.out; have HYb := HY3.out; have HZb := HZ3.out; have hbw := Hb3.out
        clear hrl
        have Hn1 : Hid (w.heap.size ≠ w.heap.size + 1 + 1) := Lib.hid (by omega)
        have Hn2 : Hid (w.heap.size + 1 ≠ w.heap.size + 1 + 1) := Lib.hid (by omega)
        have HS : Hid (∀ w', Blk w' w.heap.size 76 #[.string D, .string P] → Blk w' (w.heap.size + 1) 78 #[.int .i64 a, .int .i64 b, .int .i64 lo, .int .i64 hi] → Below w.heap.size w w' → ((w'.cell? ⟨w.heap.size, 0, none⟩ = some (.string D) ∧ w'.cell? ⟨w.heap.size, 1, none⟩ = some (.string P)) ∧ (w'.cell? ⟨w.heap.size + 1, 0, none⟩ = some (.int .i64 a) ∧ w'.cell? ⟨w.heap.size + 1, 1, none⟩ = some (.int .i64 b) ∧ w'.cell? ⟨w.heap.size + 1, 2, none⟩ = some (.int .i64 lo) ∧ w'.cell? ⟨w.heap.size + 1, 3, none⟩ = some (.int .i64 hi)) ∧ Blk w' w.heap.size 76 #[.string D, .string P] ∧ Blk w' (w.heap.size + 1) 78 #[.int .i64 a, .int .i64 b, .int .i64 lo, .int .i64 hi] ∧ Below w.heap.size w w')) := Lib.hid (fun w' h1 h2 h3 => ⟨⟨h1.cell 0, h1.cell 1⟩, ⟨h2.cell 0, h2.cell 1, h2.cell 2, h2.cell 3⟩, h1, h2, h3⟩)
        clear x0 x1 xl y0 y1 y2 y3 yl z0 z1 zl zf
        go_wp2
        go_region_held3 (fun w' => (w'.cell? ⟨w.heap.size, 0, none⟩ = some (.string D) ∧ w'.cell? ⟨w.heap.size, 1, none⟩ = some (.string P)) ∧ (w'.cell? ⟨w.heap.size + 1, 0, none⟩ = some (.int .i64 a) ∧ w'.cell? ⟨w.heap.size + 1, 1, none⟩ = some (.int .i64 b) ∧ w'.cell? ⟨w.heap.size + 1, 2, none⟩ = some (.int .i64 lo) ∧ w'.cell? ⟨w.heap.size + 1, 3, none⟩ = some (.int .i64 hi)) ∧ Blk w' w.heap.size 76 #[.string D, .string P] ∧ Blk w' (w.heap.size + 1) 78 #[.int .i64 a, .int .i64 b, .int .i64 lo, .int .i64 hi] ∧ Below w.heap.size w w')
          ((go_split_ands; refine HS.out _ ?_ ?_ ?_ <;> repeat (first | (with_reducible assumption) | (with_reducible refine Below.drew ?_) | (with_reducible refine bst ?_ (by simp; omega) _) | (with_reducible refine bthen ?_ (by with_reducible assumption)) | (with_reducible refine Blk.drew ?_) | (with_reducible refine Blk.on ?_ (by with_reducible assumption)) | (with_reducible refine Blk.far ?_ Hn1.out _) | (with_reducible refine Blk.far ?_ Hn2.out _))))
          ((first
            | (go_at_call 141; (with_reducible refine (Hall.out _).mono ?_); rintro e wy ⟨⟨vy, rfl, howny⟩, hby⟩; obtain ⟨Ay, cy, rfl⟩ := own_form howny; clear howny; have HZ_wy := HZb.drew.on hby; have Hb_wy := Lib.hid (bthen hbw.drew hby))
            | (go_at_call 142; (with_reducible refine (Hse.out _).mono ?_); rintro e wa ⟨rfl, hba⟩; have HZ_wa := HZ_wy.on hba; have z0 := HZ_wa.cell 0; have z1 := HZ_wa.cell 1; have zf := HZ_wa.frozen; have zl := HZ_wa.lt; simp at z0 z1)))
        all_goals
          go_wp2
          have HR4 := HZ_wa.set2 (b0 := .string D) (b1 := .string (P ++ L))
          have r0 := HR4.cell 0
          have r1 := HR4.cell 1
          simp at r0 r1
          have hb_wa := bthen Hb_wy.out hba
          exact bodyPost_ret (v := .tuple #[.agg #[.string D, .string (P ++ L)], .bool true]) (by simp [results, Tryz.results54, go_sem, r0, r1]) rfl ⟨by rw [HV.out] <;> rfl, bst (bst hb_wa (by simp; omega) _) (by simp; omega) _⟩
end Go.Proofs.YtimfoodbolokdaaGreatDoor
