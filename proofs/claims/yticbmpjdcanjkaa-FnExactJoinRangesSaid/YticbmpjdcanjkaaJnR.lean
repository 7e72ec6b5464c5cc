/- The reference's JoinRanges: how often a list has a range; up to where all is done. Conditions: none. Printed by gen_jn.py. -/
import Derived.Test.YticbmpjdcanjkaaJnI
namespace Go.Proofs.Yticbmpjdcanjkaa
open Go Go.RowKit

theorem count_take_succ {R : List LI} {r : LI} {k : Nat} (hk : k < R.length) : (R.take (k + 1)).count r = (R.take k).count r + (if cat' R k = r then 1 else 0) := by
  rw [List.take_succ_eq_append_getElem hk, List.count_append, ← cat_get hk]
  by_cases h : cat' R k = r
  · rw [if_pos h, h]; simp
  · rw [if_neg h, show ([cat' R k] : List LI).count r = 0 from not_mem_count (by simp; exact fun e => h e.symm)]
set_option maxRecDepth 8000 in
set_option maxHeartbeats 4000000 in
theorem skHas_any (u v : Value) (R : List (List Int)) (r : List Int) (w : World) (hu : NRd w w.heap.size u R) (hv : Rd inS w w.heap.size v r) (hl : R.length ≤ 8) :
    Calls Try.prog 42 #[u, v] w fun e w' => e = .returned (.int .i64 (R.count r : Int)) ∧ Below w.heap.size w w' := by
  obtain ⟨A, c, rfl, hc, hm⟩ := nrd_form hu
  unfold maxLen at hm
  have Hu := Lib.hid hu; have Hv := Lib.hid hv; clear hu hv
  rcases Nat.eq_zero_or_pos R.length with h0 | h0
  · obtain rfl : R = [] := List.eq_nil_of_length_eq_zero h0
    go_enter Try.func42, Try.ntmps42
    go_wp2
    refine wp_loop_rounds 1 ?_
    rw [rounds_succ]
    go_wp2
    go_ret
    exact ⟨rfl, Below.refl _ _⟩
  · obtain ⟨us, g, off, rfl, hg, hcell, hrow⟩ := nrd_cell Hu.out h0
    have Hcell := Lib.hid hcell; have Hrow := Lib.hid hrow; clear hcell hrow
    have Hle := Lib.hid (fun k => (List.count_le_length (a := r) (l := R.take k)))
    go_enter Try.func42, Try.ntmps42
    go_wp2
    go_loopw [10, 5] (fun i n wr => ∃ k : Nat, k ≤ R.length ∧ i = .int .i64 k ∧ n = .int .i64 ((R.take k).count r : Int) ∧ Below w.heap.size w wr) (fun i _ _ => R.length - (intOf i).toNat)
    case atStart => exact ⟨0, Nat.zero_le _, rfl, by simp, Below.refl _ _⟩
    case round =>
      obtain ⟨k, hk, rfl, rfl, hb⟩ := hrel
      by_cases hlt : k < R.length
      · have f0 := Hcell.out k hlt
        rw [← hb.cell (p := ⟨_, _, _⟩) hg] at f0
        have hgr : g < wr.heap.size := Nat.lt_of_lt_of_le hg hb.size
        have Hr := Lib.hid ((Hrow.out k hlt).on hb)
        generalize vat us k = x at f0 Hr
        have hi0 : (0 : Int) ≤ (k : Int) := by omega
        have hi1 : (k : Int) < (R.length : Int) := by omega
        have Hsc := Lib.hid (count_take_succ (r := r) hlt)
        have hle := Hle.out k
        rw [List.length_take] at hle
        generalize (R.take k).count r = n at Hsc hle
        have hn8 : (n : Int) ≤ 8 := by omega
        go_wp2_with fail
        refine (l1Same_any _ _ _ r _ Hr.out (Hv.out.on hb)).mono ?_; rintro e w1 ⟨rfl, hb1⟩
        by_cases hd : cat' R k = r
        · rw [decide_eq_true hd]
          rw [if_pos hd] at Hsc
          clear hd f0
          go_wp2
          go_roundw
          case rel => exact ⟨k + 1, by omega, by go_num, by rw [Hsc.out]; go_num, bthen hb hb1⟩
          case measure => simp [intOf]; omega
        · rw [decide_eq_false hd]
          have Hsc := Lib.hid (show (R.take (k + 1)).count r = n by have h9 := Hsc.out; rw [if_neg hd] at h9; omega)
          clear hd f0
          go_wp2
          go_roundw
          case rel => exact ⟨k + 1, by omega, by go_num, by rw [Hsc.out], bthen hb hb1⟩
          case measure => simp [intOf]; omega
      · obtain rfl : k = R.length := by omega
        go_wp2
        go_ret
        exact ⟨ret_int (by rw [List.take_length]), hb⟩
def knw (R L : List LI) (k : Nat) : Nat := ((L.take k).map (fun r => R.count r)).sum
theorem knw_succ {R L : List LI} {k : Nat} (hk : k < L.length) : knw R L (k + 1) = knw R L k + R.count (cat' L k) := by
  unfold knw
  rw [List.take_succ_eq_append_getElem hk, List.map_append, List.sum_append, ← cat_get hk]
  simp
theorem knw_le {R L : List LI} : ∀ k, k ≤ L.length → (∀ j, j < k → R.count (cat' L j) ≤ 1) → knw R L k ≤ k
  | 0, _, _ => by simp [knw]
  | k + 1, hk, h => by
    have ih := knw_le (R := R) (L := L) k (by omega) (fun j hj => h j (by omega))
    have := h k (by omega)
    rw [knw_succ (by omega)]
    omega
theorem skOk_no1 {R L : List LI} {k : Nat} (hk : k < L.length) (h : 1 < R.count (cat' L k)) : skOk R L = false := by
  cases hs : skOk R L with
  | false => rfl
  | true =>
    rw [skOk_iff] at hs
    have := hs.1 _ (cat_mem hk)
    omega
theorem skOk_no2 {R L : List LI} (h : knw R L L.length ≠ R.length) : skOk R L = false := by
  cases hs : skOk R L with
  | false => rfl
  | true =>
    rw [skOk_iff] at hs
    unfold knw at h
    rw [List.take_length] at h
    exact absurd hs.2 h
theorem skOk_yes {R L : List LI} (h1 : ∀ j, j < L.length → R.count (cat' L j) ≤ 1) (h : knw R L L.length = R.length) : skOk R L = true := by
  rw [skOk_iff]
  unfold knw at h
  rw [List.take_length] at h
  refine ⟨fun r hr => ?_, h⟩
  obtain ⟨j, hj, rfl⟩ := List.mem_iff_getElem.1 hr
  have := h1 j hj
  rwa [cat_get hj] at this
theorem count_one_mem {R : List LI} {r : LI} (h : R.count r ≤ 1) : (((R.count r : Int) == 1) = true ↔ r ∈ R) := by
  rw [beq_iff_eq]
  constructor
  · intro e; exact List.count_pos_iff.1 (by omega)
  · intro hm; have := mem_count hm; omega
/-- What the reference's search for one number of workers hands back. -/
def skJ (R L : List LI) (t : Int) : Int := if skOk R L = true then jAt R L t else -1
theorem skJ_no {R L : List LI} {t : Int} (h : skOk R L = false) : skJ R L t = -1 := by unfold skJ; rw [h]; rfl
theorem skJ_yes {R L : List LI} {t : Int} (h : skOk R L = true) : skJ R L t = jAt R L t := by unfold skJ; rw [if_pos h]
set_option maxRecDepth 8000 in
set_option maxHeartbeats 8000000 in
theorem skJoin_any (a b m d t z : Int) (v u : Value) (R : List (List Int)) (w : World) (ht : TkB a b m d) (htt : 0 ≤ t ∧ t ≤ totI m d) (hz : 1 ≤ z ∧ z ≤ 8) (hu : NRd w w.heap.size u R) (hl : R.length ≤ 8) :
    Calls Try.prog 18 #[.agg #[.int .i64 a, .int .i64 b, .int .i64 m, .int .i64 d, .int .i64 t, v], u, .int .i64 z] w fun e w' => e = .returned (.int .i64 (skJ R (rangesL m d t z) t)) ∧ Below w.heap.size w w' := by
  have Hb := Lib.hid (Blk.new w 33 #[.int .i64 a, .int .i64 b, .int .i64 m, .int .i64 d, .int .i64 t, v])
  have hb0 := bal (Below.refl w.heap.size w) (Obj.cells #[.int .i64 a, .int .i64 b, .int .i64 m, .int .i64 d, .int .i64 t, v] 33)
  have Hu := Lib.hid (hu.on hb0)
  have HbA := Lib.hid hb0; clear hb0
  obtain ⟨Au, cu, rfl, hcu, hmu⟩ := nrd_form hu
  clear hu hcu hmu
  have Hrin := Lib.hid (rangesL_in (m := m) (d := d) (t := t) (w := z) (by omega) hz.1)
  have Hrg := Lib.hid (fun W => skRanges_any a b m d t z v W ht htt hz)
  have hll := rangesL_len8 (m := m) (d := d) (t := t) (w := z) hz.2
  generalize rangesL m d t z = L at Hrg Hrin hll
  clear ht hz
  go_enter Try.func18, Try.ntmps18
  go_wp2_with fail
  refine (Hrg.out _).mono ?_; rintro r w2 ⟨⟨v2, vs2, rfl, hn2⟩, hb2⟩
  have Hn2 := Lib.hid (NRd.of_own hn2); clear hn2
  have HB2 := Lib.hid (Hb.out.on hb2); have Hu2 := Lib.hid (Hu.out.on hb2); have Hb2 := Lib.hid (bthen HbA.out hb2); clear hb2
  obtain ⟨A2, c2, rfl, hc2, hm2⟩ := nrd_form Hn2.out
  have Hcl : Hid (0 < L.length → ∃ (vs : List Value) (g off : Nat), A2 = some ⟨g, off, none⟩ ∧ g < w2.heap.size ∧ (∀ k, k < L.length → w2.cell? ⟨g, off + k, none⟩ = some (vat vs k)) ∧ ∀ k, k < L.length → Rd inS w2 w2.heap.size (vat vs k) (cat' L k)) := Lib.hid (fun h0 => nrd_cell Hn2.out h0)
  have q4 := HB2.out.cell 4
  have ql := HB2.out.lt
  simp at q4
  have Htt := Lib.hid htt; clear htt
  go_wp2
  go_loopw [21, 8, 9, 10] (fun i n kn o wr => ∃ j : Nat, j ≤ L.length ∧ i = .int .i64 j ∧ n = .int .i64 (jAt R (L.take j) t) ∧ kn = .int .i64 (knw R L j : Int) ∧ o = .bool (opn R L j) ∧ Hid (∀ i, i < j → R.count (cat' L i) ≤ 1) ∧ Below w2.heap.size w2 wr) (fun i _ _ _ _ => L.length - (intOf i).toNat)
  case atStart => exact ⟨0, Nat.zero_le _, rfl, rfl, rfl, rfl, Lib.hid (fun i h => absurd h (by omega)), Below.refl _ _⟩
  case round =>
    obtain ⟨j, hj, rfl, rfl, rfl, rfl, Hone, hbj⟩ := hrel
    have Huj := Lib.hid (Hu2.out.on hbj); have Hbj := Lib.hid (bthen Hb2.out hbj)
    have hkl := knw_le (R := R) j hj Hone.out
    by_cases hjl : j < L.length
    · obtain ⟨vs, g, off, rfl, hg, hcell, hrow⟩ := Hcl.out (by omega)
      have f0 := hcell j hjl
      rw [← hbj.cell (p := ⟨_, _, _⟩) hg] at f0
      have hgr : g < wr.heap.size := Nat.lt_of_lt_of_le hg hbj.size
      have Hrw := Lib.hid ((hrow j hjl).on hbj)
      clear hcell hrow
      generalize vat vs j = x at f0 Hrw
      have hi0 : (0 : Int) ≤ (j : Int) := by omega
      have hi1 : (j : Int) < (L.length : Int) := by omega
      obtain ⟨X, Y, hXY, -, -, -⟩ := Hrin.out.el _ (cat_mem hjl)
      have Hn1 := Lib.hid (fun h => skJ_no (t := t) (skOk_no1 (R := R) hjl h))
      have Hks := Lib.hid (knw_succ (R := R) hjl)
      have Hal := Lib.hid (fun h => all_lt_succ Hone.out (h : R.count (cat' L j) ≤ 1))
      have Hstep := Lib.hid (jAt_step (R := R) (t := t) hjl)
      have Hopn := Lib.hid (opn_step (R := R) hjl)
      have hcl := List.count_le_length (a := cat' L j) (l := R)
      have Hcm := Lib.hid (fun h => count_one_mem (R := R) (r := cat' L j) h)
      rw [hXY] at Hrw Hstep Hopn Hn1 Hks Hal hcl Hcm
      clear hXY
      obtain ⟨Ax, cx, rfl, hcx, hmx, hAx⟩ := Hrw.out
      obtain ⟨gx, offx, rfl, hgx, hcellx⟩ := hAx (by simp)
      have y1 := in_cells hcellx 1 (by simp)
      rw [show inS.get [X, Y] 1 = Y from rfl] at y1
      clear hAx hcellx
      have Y1 := Lib.hid y1; clear y1
      go_wp2_with fail
      refine (skHas_any _ _ R [X, Y] _ Huj.out Hrw.out hl).mono ?_; rintro e w5 ⟨rfl, hb5⟩
      clear f0
      have y1 := (hb5.cell (p := ⟨gx, offx + 1, none⟩) hgx).trans Y1.out
      have hgx5 := Nat.lt_of_lt_of_le hgx hb5.size
      have Hb5 := Lib.hid (bthen Hbj.out hb5); have Hbj5 := Lib.hid (bthen hbj hb5); clear hb5
      generalize R.count [X, Y] = n at Hn1 Hks Hal hcl Hcm
      generalize knw R L j = kk at Hks hkl
      by_cases h1 : 1 < n
      · have h1' : (1 : Int) < (n : Int) := by omega
        have HN := Lib.hid (Hn1.out h1)
        go_wp2
        go_ret
        exact ⟨ret_int HN.out.symm, Hb5.out⟩
      · have h1' : ¬ (1 : Int) < (n : Int) := by omega
        have Hal2 := Lib.hid (Hal.out (by omega))
        have hcm := Hcm.out (by omega)
        have hk8 : (kk : Int) + (n : Int) ≤ 100 := by omega
        have hk0 : (0 : Int) ≤ (kk : Int) + (n : Int) := by omega
        have Hks2 := Lib.hid (show ((knw R L (j + 1) : Nat) : Int) = (kk : Int) + (n : Int) by rw [Hks.out]; omega)
        clear Hks hkl hcl Hal Hn1 Hcm h1
        cases ho : opn R L j
        · have Ho2 := Lib.hid (show opn R L (j + 1) = false by rw [Hopn.out, ho]; rfl)
          have Hst2 := Lib.hid (show jAt R (L.take (j + 1)) t = jAt R (L.take j) t by rw [Hstep.out, if_neg (by rw [Ho2.out]; exact Bool.false_ne_true)])
          clear ho hcm
          go_wp2
          go_roundw
          case rel => exact ⟨j + 1, by omega, by go_num, by rw [Hst2.out], by rw [Hks2.out], by rw [Ho2.out], Hal2, Hbj5.out⟩
          case measure => simp [intOf]; omega
        · cases hn : ((n : Int) == 1)
          · have Ho2 := Lib.hid (show opn R L (j + 1) = false by rw [Hopn.out, ho, decide_eq_false (fun h => by rw [hcm.2 h] at hn; cases hn)]; rfl)
            have Hst2 := Lib.hid (show jAt R (L.take (j + 1)) t = jAt R (L.take j) t by rw [Hstep.out, if_neg (by rw [Ho2.out]; exact Bool.false_ne_true)])
            clear ho hcm
            go_wp2
            go_roundw
            case rel => exact ⟨j + 1, by omega, by go_num, by rw [Hst2.out], by rw [Hks2.out], by rw [Ho2.out], Hal2, Hbj5.out⟩
            case measure => simp [intOf]; omega
          · have Ho2 := Lib.hid (show opn R L (j + 1) = true by rw [Hopn.out, ho, decide_eq_true (hcm.1 hn)]; rfl)
            have Hst2 := Lib.hid (show jAt R (L.take (j + 1)) t = Y by rw [Hstep.out, if_pos Ho2.out]; rfl)
            clear ho hcm
            go_wp2
            go_roundw
            case rel => exact ⟨j + 1, by omega, by go_num, by rw [Hst2.out], by rw [Hks2.out], by rw [Ho2.out], Hal2, Hbj5.out⟩
            case measure => simp [intOf]; omega
    · obtain rfl : j = L.length := by omega
      by_cases hkn : knw R L L.length = R.length
      · have HY := Lib.hid (skJ_yes (t := t) (skOk_yes Hone.out hkn))
        have hq : (((knw R L L.length : Nat) : Int) != (R.length : Int)) = false := by rw [hkn]; simp
        clear hkn
        go_wp2
        go_ret
        exact ⟨ret_int (by rw [HY.out, List.take_length]), Hbj.out⟩
      · have HN := Lib.hid (skJ_no (t := t) (skOk_no2 hkn))
        have hq : (((knw R L L.length : Nat) : Int) != (R.length : Int)) = true := by simp; omega
        clear hkn
        go_wp2
        go_ret
        exact ⟨ret_int HN.out.symm, Hbj.out⟩
set_option linter.unusedSimpArgs false in
set_option maxRecDepth 20000 in
set_option maxHeartbeats 8000000 in
theorem specJoinR_any (a b m d t : Int) (v u : Value) (fs : List Pt) (R : List (List Int)) (w : World) (hv : Rd ptS w w.heap.size v fs) (hu : NRd w w.heap.size u R) :
    Calls Try.prog 6 #[.agg #[.int .i64 a, .int .i64 b, .int .i64 m, .int .i64 d, .int .i64 t, v], u] w fun r w' => TkRet (joinV a b m d t fs R) w.heap.size r w' ∧ Below w.heap.size w w' := by
  have Hb := Lib.hid ((Blk.new w 33 #[.int .i64 a, .int .i64 b, .int .i64 m, .int .i64 d, .int .i64 t, v]).alloc (Obj.cells #[.int .i64 0, .int .i64 0, .int .i64 0, .int .i64 0, .int .i64 0, .slice none 0 0] 33))
  have HR := Lib.hid (Blk.new1 w (Obj.cells #[.int .i64 a, .int .i64 b, .int .i64 m, .int .i64 d, .int .i64 t, v] 33) 33 #[.int .i64 0, .int .i64 0, .int .i64 0, .int .i64 0, .int .i64 0, .slice none 0 0])
  have hb0 := bal (bal (Below.refl w.heap.size w) (Obj.cells #[.int .i64 a, .int .i64 b, .int .i64 m, .int .i64 d, .int .i64 t, v] 33)) (Obj.cells #[.int .i64 0, .int .i64 0, .int .i64 0, .int .i64 0, .int .i64 0, .slice none 0 0] 33)
  have Hrd := Lib.hid (hv.on hb0)
  have Hu := Lib.hid (hu.on hb0)
  have HbA := Lib.hid hb0; clear hb0 hv
  have Hsp := Lib.hid (tkG_spec (a := a) (b := b) (m := m) (d := d) (t := t) (fs := fs))
  obtain ⟨Au, cu, rfl, hcu, hmu⟩ := nrd_form hu
  unfold maxLen at hmu
  clear hu
  have hrl : R.length ≤ 9223372036854775807 := by omega
  clear hcu hmu
  go_enter Try.func6, Try.ntmps6
  go_wp2_with fail
  refine (skGood_any a b m d t v fs _ Hrd.out).mono ?_; rintro r w1 ⟨rfl, hb1⟩
  have HB1 := Lib.hid (Hb.out.on hb1); have HR1 := Lib.hid (HR.out.on hb1); have Hu1 := Lib.hid (Hu.out.on hb1); have Hb1 := Lib.hid (bthen HbA.out hb1); clear hb1
  cases hk : tkG a b m d t fs
  · have HN := Lib.hid (joinV_bad (R := R) hk)
    clear hk
    have r0 := HR1.out.cell 0
    have r1 := HR1.out.cell 1
    have r2 := HR1.out.cell 2
    have r3 := HR1.out.cell 3
    have r4 := HR1.out.cell 4
    have r5 := HR1.out.cell 5
    simp at r0 r1 r2 r3 r4 r5
    have rl := HR1.out.lt
    have rf := HR1.out.frozen
    go_wp2
    clear r0 r1 r2 r3 r4 r5 rf
    have HR6 := HR1.out.set6 (b0 := .int .i64 0) (b1 := .int .i64 0) (b2 := .int .i64 0) (b3 := .int .i64 0) (b4 := .int .i64 0) (b5 := .slice none 0 0)
    have k0 := HR6.cell 0
    have k1 := HR6.cell 1
    have k2 := HR6.cell 2
    have k3 := HR6.cell 3
    have k4 := HR6.cell 4
    have k5 := HR6.cell 5
    simp at k0 k1 k2 k3 k4 k5
    exact bodyPost_ret (v := .tuple #[.agg #[.int .i64 0, .int .i64 0, .int .i64 0, .int .i64 0, .int .i64 0, .slice none 0 0], .bool false]) (by simp [results, Try.results6, go_sem, k0, k1, k2, k3, k4, k5]) rfl ⟨TkRet.zero HN.out, bst (bst (bst (bst (bst (bst (Hb1.out) (Nat.le_succ _) _) (Nat.le_succ _) _) (Nat.le_succ _) _) (Nat.le_succ _) _) (Nat.le_succ _) _) (Nat.le_succ _) _⟩
  · have Hs := Lib.hid (Hsp.out hk)
    have Hsm := Lib.hid (fun n h => joinV_some (R := R) (n := n) hk h)
    have Hk := Lib.hid hk; clear hk
    have Hrest : Hid (0 ≤ totI m d - t) := Lib.hid (by have := Hs.out.2.1; omega)
    by_cases hl : 8 < R.length
    · have hl' : (8 : Int) < (R.length : Int) := by omega
      have HN := Lib.hid (joinV_none (a := a) (b := b) (fs := fs) (jnF_long (m := m) (d := d) (t := t) Hrest.out hl 8 1 (by decide) (by decide)))
      have r0 := HR1.out.cell 0
      have r1 := HR1.out.cell 1
      have r2 := HR1.out.cell 2
      have r3 := HR1.out.cell 3
      have r4 := HR1.out.cell 4
      have r5 := HR1.out.cell 5
      simp at r0 r1 r2 r3 r4 r5
      have rl := HR1.out.lt
      have rf := HR1.out.frozen
      go_wp2
      clear r0 r1 r2 r3 r4 r5 rf
      have HR6 := HR1.out.set6 (b0 := .int .i64 0) (b1 := .int .i64 0) (b2 := .int .i64 0) (b3 := .int .i64 0) (b4 := .int .i64 0) (b5 := .slice none 0 0)
      have k0 := HR6.cell 0
      have k1 := HR6.cell 1
      have k2 := HR6.cell 2
      have k3 := HR6.cell 3
      have k4 := HR6.cell 4
      have k5 := HR6.cell 5
      simp at k0 k1 k2 k3 k4 k5
      exact bodyPost_ret (v := .tuple #[.agg #[.int .i64 0, .int .i64 0, .int .i64 0, .int .i64 0, .int .i64 0, .slice none 0 0], .bool false]) (by simp [results, Try.results6, go_sem, k0, k1, k2, k3, k4, k5]) rfl ⟨TkRet.zero HN.out, bst (bst (bst (bst (bst (bst (Hb1.out) (Nat.le_succ _) _) (Nat.le_succ _) _) (Nat.le_succ _) _) (Nat.le_succ _) _) (Nat.le_succ _) _) (Nat.le_succ _) _⟩
    · have hl' : ¬ (8 : Int) < (R.length : Int) := by omega
      have Hl8 : Hid (R.length ≤ 8) := Lib.hid (by omega)
      have q0 := HB1.out.cell 0
      have q1 := HB1.out.cell 1
      have q2 := HB1.out.cell 2
      have q3 := HB1.out.cell 3
      have q4 := HB1.out.cell 4
      have q5 := HB1.out.cell 5
      simp at q0 q1 q2 q3 q4 q5
      have ql := HB1.out.lt
      go_wp2
      clear q0 q1 q2 q3 q4 q5 ql hl hl' hrl
      go_loopw [6] (fun q wr => ∃ k : Nat, q = .int .i64 ((k : Int) + 1) ∧ k ≤ 8 ∧ Hid (jnF m d t R 8 1 = jnF m d t R (8 - k) ((k : Int) + 1)) ∧ Below w1.heap.size w1 wr) (fun q _ => 10 - (intOf q).toNat)
      case atStart => exact ⟨0, rfl, by omega, Lib.hid rfl, Below.refl _ _⟩
      case round =>
        obtain ⟨k, rfl, hk8, Hj, hb⟩ := hrel
        have HBr := Lib.hid (HB1.out.on hb); have HRr := Lib.hid (HR1.out.on hb); have Hur := Lib.hid (Hu1.out.on hb); have Hbr := Lib.hid (bthen Hb1.out hb)
        by_cases hlt : k < 8
        · have hq1 : (1 : Int) ≤ (k : Int) + 1 ∧ (k : Int) + 1 ≤ 8 := by omega
          have hq2 : (k : Int) + 1 ≤ 8 := hq1.2
          have Hrin := Lib.hid (rangesL_in (m := m) (d := d) (t := t) (w := (k : Int) + 1) Hrest.out hq1.1)
          obtain ⟨f, hf⟩ : ∃ f, 8 - k = f + 1 := ⟨7 - k, by omega⟩
          have Hhit := Lib.hid (fun h => Hj.out.trans (show jnF m d t R (8 - k) ((k : Int) + 1) = some (jAt R (rangesL m d t ((k : Int) + 1)) t) by rw [hf]; exact jnF_hit (m := m) (d := d) (t := t) (R := R) (f := f) (w := (k : Int) + 1) h))
          have Hmiss := Lib.hid (fun h => Hj.out.trans (show jnF m d t R (8 - k) ((k : Int) + 1) = jnF m d t R f ((k : Int) + 1 + 1) by rw [hf]; exact jnF_miss (m := m) (d := d) (t := t) (R := R) (f := f) (w := (k : Int) + 1) h))
          have Hf := Lib.hid hf; clear hf
          have Hsj := Lib.hid (skJoin_any a b m d t ((k : Int) + 1) v _ R wr Hs.out.1 Hs.out.2.1 hq1 Hur.out Hl8.out)
          generalize rangesL m d t ((k : Int) + 1) = L at Hsj Hrin Hhit Hmiss
          have q0 := HBr.out.cell 0
          have q1 := HBr.out.cell 1
          have q2 := HBr.out.cell 2
          have q3 := HBr.out.cell 3
          have q4 := HBr.out.cell 4
          have q5 := HBr.out.cell 5
          simp at q0 q1 q2 q3 q4 q5
          have ql := HBr.out.lt
          go_wp2_with fail
          refine Hsj.out.mono ?_; rintro r w3 ⟨rfl, hb3⟩
          clear q0 q1 q2 q3 q4 q5 ql
          have HB3 := Lib.hid (HBr.out.on hb3); have HR3 := Lib.hid (HRr.out.on hb3); have Hb3 := Lib.hid (bthen Hbr.out hb3); have Hb13 := Lib.hid (bthen hb hb3); clear hb3
          cases hsm : smB R L
          · have Hnx := Lib.hid (Hmiss.out hsm)
            rw [skJ_no (t := t) (by rw [← sm_sk Hrin.out.cnt]; exact hsm)]
            clear hsm
            go_wp2
            go_roundw
            case rel => exact ⟨k + 1, by go_num, by omega, Lib.hid (by rw [Hnx.out, show 8 - (k + 1) = f by have := Hf.out; omega, show ((k + 1 : Nat) : Int) + 1 = (k : Int) + 1 + 1 by omega]), Hb13.out⟩
            case measure => simp [intOf]; omega
          · have HV := Lib.hid (Hsm.out _ (Hhit.out hsm))
            rw [skJ_yes (t := t) (by rw [← sm_sk Hrin.out.cnt]; exact hsm)]
            clear hsm
            have hbda := jAt_bd R (at0 := t) (F := totI m d) L t Hrin.out.el (Int.le_refl _) Hs.out.2.1.2
            have ht0 := Hs.out.2.1.1
            generalize jAt R L t = n at HV hbda
            have hn0 : 0 ≤ n := by omega
            have Hnb : Hid (0 ≤ n ∧ n ≤ totI m d) := Lib.hid ⟨hn0, hbda.2⟩
            clear hbda ht0
            have q0 := HB3.out.cell 0
            have q1 := HB3.out.cell 1
            have q2 := HB3.out.cell 2
            have q3 := HB3.out.cell 3
            have q4 := HB3.out.cell 4
            have q5 := HB3.out.cell 5
            simp at q0 q1 q2 q3 q4 q5
            have ql := HB3.out.lt
            go_wp2_with fail
            refine (skAt_any a b m d t n v _ Hs.out.1 Hnb.out).mono ?_; rintro e w9 ⟨⟨v9, rfl, hown9⟩, hb9⟩
            obtain ⟨A9, c9, rfl, -, -, -⟩ := Rd.of_own (S := ptS) hown9 rfl
            have HR9 := Lib.hid (HR3.out.on hb9); have Hb9 := Lib.hid (bthen Hb3.out hb9); have Hrl := Lib.hid HR3.out.lt; have Hown9 := Lib.hid hown9; clear hown9 hb9
            have r0 := HR9.out.cell 0
            have r1 := HR9.out.cell 1
            have r2 := HR9.out.cell 2
            have r3 := HR9.out.cell 3
            have r4 := HR9.out.cell 4
            have r5 := HR9.out.cell 5
            simp at r0 r1 r2 r3 r4 r5
            have rl := HR9.out.lt
            have rf := HR9.out.frozen
            go_wp2
            clear r0 r1 r2 r3 r4 r5 rf
            have HR6 := HR9.out.set6 (b0 := .int .i64 a) (b1 := .int .i64 b) (b2 := .int .i64 m) (b3 := .int .i64 d) (b4 := .int .i64 n) (b5 := .slice A9 (hitsZ a b m 0 n).length c9)
            have k0 := HR6.cell 0
            have k1 := HR6.cell 1
            have k2 := HR6.cell 2
            have k3 := HR6.cell 3
            have k4 := HR6.cell 4
            have k5 := HR6.cell 5
            simp at k0 k1 k2 k3 k4 k5
            exact bodyPost_ret (v := .tuple #[.agg #[.int .i64 a, .int .i64 b, .int .i64 m, .int .i64 d, .int .i64 n, .slice A9 (hitsZ a b m 0 n).length c9], .bool true]) (by simp [results, Try.results6, go_sem, k0, k1, k2, k3, k4, k5]) rfl ⟨TkRet.mk HV.out (own_far (g := w.heap.size + 1) Hown9.out (by repeat (first | (with_reducible exact grefl _ _) | (with_reducible refine only_cell ?_) | (with_reducible refine only_drew ?_))) Hrl.out) (by have := Hrl.out; omega), bst (bst (bst (bst (bst (bst (Hb9.out) (Nat.le_succ _) _) (Nat.le_succ _) _) (Nat.le_succ _) _) (Nat.le_succ _) _) (Nat.le_succ _) _) (Nat.le_succ _) _⟩
        · obtain rfl : k = 8 := by omega
          have HN := Lib.hid (joinV_none (a := a) (b := b) (fs := fs) (show jnF m d t R 8 1 = none by rw [Hj.out]; rfl))
          have r0 := HRr.out.cell 0
          have r1 := HRr.out.cell 1
          have r2 := HRr.out.cell 2
          have r3 := HRr.out.cell 3
          have r4 := HRr.out.cell 4
          have r5 := HRr.out.cell 5
          simp at r0 r1 r2 r3 r4 r5
          have rl := HRr.out.lt
          have rf := HRr.out.frozen
          go_wp2
          clear r0 r1 r2 r3 r4 r5 rf
          have HR6 := HRr.out.set6 (b0 := .int .i64 0) (b1 := .int .i64 0) (b2 := .int .i64 0) (b3 := .int .i64 0) (b4 := .int .i64 0) (b5 := .slice none 0 0)
          have k0 := HR6.cell 0
          have k1 := HR6.cell 1
          have k2 := HR6.cell 2
          have k3 := HR6.cell 3
          have k4 := HR6.cell 4
          have k5 := HR6.cell 5
          simp at k0 k1 k2 k3 k4 k5
          exact bodyPost_ret (v := .tuple #[.agg #[.int .i64 0, .int .i64 0, .int .i64 0, .int .i64 0, .int .i64 0, .slice none 0 0], .bool false]) (by simp [results, Try.results6, go_sem, k0, k1, k2, k3, k4, k5]) rfl ⟨TkRet.zero HN.out, bst (bst (bst (bst (bst (bst (Hbr.out) (Nat.le_succ _) _) (Nat.le_succ _) _) (Nat.le_succ _) _) (Nat.le_succ _) _) (Nat.le_succ _) _) (Nat.le_succ _) _⟩
end Go.Proofs.Yticbmpjdcanjkaa
