/- The walk of the reference's ParseTask. Conditions: bounds. Printed by gen_pss.py. -/
import Derived.Test.YticbmpjdcanjkaaGreatDoorPsI
import Derived.Test.YticbmpjdcanjkaaGreatDoorRdS3
namespace Go.Proofs.YticbmpjdcanjkaaGreatDoor
open Go Go.RowKit

theorem str_add5 (a b : ByteArray) (ha : a.size ≤ 8388608) (hb : b.size ≤ 8388608) : ∀ W, (Op.stringOp .add a b).run Tryz.prog W = .ok (.string (a ++ b)) W := fun W =>
  run_string_add W a b (by omega) (by omega)
theorem psS_not5 {s : ByteArray} (h : (spl 32 s.data.toList).length ≠ 5) : psV s = zeroT := by
  refine psV_none ?_
  rw [← ps_eq]
  unfold psS
  split
  · rename_i hh; rw [hh] at h; exact absurd rfl h
  · rfl
theorem psS_five {s : ByteArray} {x0 x1 x2 x3 x4 : List UInt8} (h : spl 32 s.data.toList = [x0, x1, x2, x3, x4]) : psI s = match paC (x0 ++ 32 :: x1) with
    | none => none
    | some (a, b) => if tk5 a b (rdN x2) (rdN x3) (rdN x4) = true ∧ (nText [a, b, rdN x2, rdN x3, rdN x4]).data.toList = s.data.toList then some (a, b, rdN x2, rdN x3, rdN x4) else none := by
  rw [← ps_eq]; unfold psS; rw [h]; rfl
theorem psS_pc {s : ByteArray} {x0 x1 x2 x3 x4 : List UInt8} (h : spl 32 s.data.toList = [x0, x1, x2, x3, x4]) (hp : (pcV (x0 ++ 32 :: x1)).2.2 = false) : psV s = zeroT := by
  refine psV_none ?_
  rw [psS_five h]
  unfold pcV at hp
  cases hc : paC (x0 ++ 32 :: x1) with
  | none => rfl
  | some p => rw [hc] at hp; cases hp
theorem psS_pc1 {s : ByteArray} {x0 x1 x2 x3 x4 : List UInt8} (h : spl 32 s.data.toList = [x0, x1, x2, x3, x4]) (hp : (pcV (x0 ++ 32 :: x1)).2.2 = true) :
    psI s = if tk5 (pcV (x0 ++ 32 :: x1)).1 (pcV (x0 ++ 32 :: x1)).2.1 (rdN x2) (rdN x3) (rdN x4) = true ∧ (nText [(pcV (x0 ++ 32 :: x1)).1, (pcV (x0 ++ 32 :: x1)).2.1, rdN x2, rdN x3, rdN x4]).data.toList = s.data.toList then some ((pcV (x0 ++ 32 :: x1)).1, (pcV (x0 ++ 32 :: x1)).2.1, rdN x2, rdN x3, rdN x4) else none := by
  rw [psS_five h]
  unfold pcV at hp ⊢
  cases hc : paC (x0 ++ 32 :: x1) with
  | none => rw [hc] at hp; cases hp
  | some p => rfl
set_option linter.unusedSimpArgs false in
set_option maxRecDepth 20000 in
set_option maxHeartbeats 4000000 in
theorem specParse_any (s : ByteArray) (w : World) (hs : s.size ≤ 2000000) :
    Calls Tryz.prog 5 #[.string s] w fun r w' => TkRet (psV s) w.heap.size r w' ∧ Below w.heap.size w w' := by
  have hlen : s.data.toList.length = s.size := rfl
  have HR := Lib.hid (Blk.new w 26 #[.int .i64 0, .int .i64 0, .int .i64 0, .int .i64 0, .int .i64 0, .slice none 0 0])
  have hA := bal (Below.refl w.heap.size w) (Obj.cells #[.int .i64 0, .int .i64 0, .int .i64 0, .int .i64 0, .int .i64 0, .slice none 0 0] 26)
  have HbA := Lib.hid hA; clear hA
  have Hsp := Lib.hid (fun W => l1Split_any s 32 W (by omega))
  have Hno := Lib.hid (psS_not5 (s := s))
  have Hlong := Lib.hid (fun h => psV_none (ps_long (s := s) h))
  have Hmem := Lib.hid (spl_mem 32 s.data.toList)
  have hspl := spl_len 32 s.data.toList
  rw [hlen] at hspl
  have Hpc := Lib.hid (fun x0 x1 x2 x3 x4 h hp => psS_pc (s := s) (x0 := x0) (x1 := x1) (x2 := x2) (x3 := x3) (x4 := x4) h hp)
  have Hpc1 := Lib.hid (fun x0 x1 x2 x3 x4 h hp => psS_pc1 (s := s) (x0 := x0) (x1 := x1) (x2 := x2) (x3 := x3) (x4 := x4) h hp)
  generalize spl 32 s.data.toList = ps at Hsp Hno Hmem hspl Hpc Hpc1
  go_enter Tryz.func5, Tryz.ntmps5
  go_wp2_with fail
  refine (Hsp.out _).mono ?_; rintro e w2 ⟨⟨v2, rfl, hown⟩, hb1⟩
  have HR2 := Lib.hid (HR.out.on hb1); have Hb2 := Lib.hid (bthen HbA.out hb1); clear hb1
  obtain ⟨A2, c2, rfl⟩ := own_form hown
  have Hown2 := Lib.hid hown; clear hown
  by_cases h40 : 40 < s.size
  · have HN := Lib.hid (Hlong.out h40)
    have h41 : (40 : Int) < (s.size : Int) := by omega
    have h42 : decide ((40 : Int) < (s.size : Int)) = true := decide_eq_true h41
    clear Hpc Hpc1 Hno Hlong
    have r0 := HR2.out.cell 0
    have r1 := HR2.out.cell 1
    have r2 := HR2.out.cell 2
    have r3 := HR2.out.cell 3
    have r4 := HR2.out.cell 4
    have r5 := HR2.out.cell 5
    simp at r0 r1 r2 r3 r4 r5
    have rl := HR2.out.lt
    have rf := HR2.out.frozen
    go_wp2
    clear r0 r1 r2 r3 r4 r5 rf
    have HR6 := HR2.out.set6 (b0 := .int .i64 0) (b1 := .int .i64 0) (b2 := .int .i64 0) (b3 := .int .i64 0) (b4 := .int .i64 0) (b5 := .slice none 0 0)
    have k0 := HR6.cell 0
    have k1 := HR6.cell 1
    have k2 := HR6.cell 2
    have k3 := HR6.cell 3
    have k4 := HR6.cell 4
    have k5 := HR6.cell 5
    simp at k0 k1 k2 k3 k4 k5
    exact bodyPost_ret (v := .tuple #[.agg #[.int .i64 0, .int .i64 0, .int .i64 0, .int .i64 0, .int .i64 0, .slice none 0 0], .bool false]) (by simp [results, Tryz.results5, go_sem, k0, k1, k2, k3, k4, k5]) rfl ⟨TkRet.zero HN.out, bst (bst (bst (bst (bst (bst (Hb2.out) (Nat.le_refl _) _) (Nat.le_refl _) _) (Nat.le_refl _) _) (Nat.le_refl _) _) (Nat.le_refl _) _) (Nat.le_refl _) _⟩
  · have h41 : ¬ (40 : Int) < (s.size : Int) := by omega
    have h42 : decide ((40 : Int) < (s.size : Int)) = false := decide_eq_false h41
    by_cases h5 : ps.length = 5
    · obtain ⟨x0, x1, x2, x3, x4, rfl⟩ := list5g h5
      clear h5
      have Hp0 := Lib.hid (Hpc.out x0 x1 x2 x3 x4 rfl)
      have Hp1 := Lib.hid (Hpc1.out x0 x1 x2 x3 x4 rfl)
      have hx0 : (⟨x0.toArray⟩ : ByteArray).size ≤ 40 := by have h7 := Hmem.out x0 (by simp); show x0.toArray.size ≤ _; rw [List.size_toArray]; omega
      have hx1 : (⟨x1.toArray⟩ : ByteArray).size ≤ 40 := by have h7 := Hmem.out x1 (by simp); show x1.toArray.size ≤ _; rw [List.size_toArray]; omega
      have hx2 : (⟨x2.toArray⟩ : ByteArray).size ≤ 40 := by have h7 := Hmem.out x2 (by simp); show x2.toArray.size ≤ _; rw [List.size_toArray]; omega
      have hx3 : (⟨x3.toArray⟩ : ByteArray).size ≤ 40 := by have h7 := Hmem.out x3 (by simp); show x3.toArray.size ≤ _; rw [List.size_toArray]; omega
      have hx4 : (⟨x4.toArray⟩ : ByteArray).size ≤ 40 := by have h7 := Hmem.out x4 (by simp); show x4.toArray.size ≤ _; rw [List.size_toArray]; omega
      have H2 := Lib.hid (fun W => l1Read_any ⟨x2.toArray⟩ W (by omega))
      rw [show (⟨x2.toArray⟩ : ByteArray).data.toList = x2 from rfl] at H2
      have H3 := Lib.hid (fun W => l1Read_any ⟨x3.toArray⟩ W (by omega))
      rw [show (⟨x3.toArray⟩ : ByteArray).data.toList = x3 from rfl] at H3
      have H4 := Lib.hid (fun W => l1Read_any ⟨x4.toArray⟩ W (by omega))
      rw [show (⟨x4.toArray⟩ : ByteArray).data.toList = x4 from rfl] at H4
      have hT : ((⟨x0.toArray⟩ : ByteArray) ++ (⟨#[32]⟩ : ByteArray) ++ (⟨x1.toArray⟩ : ByteArray)).data.toList = x0 ++ 32 :: x1 := by simp
      have s1 : ((⟨x0.toArray⟩ : ByteArray) ++ (⟨#[32]⟩ : ByteArray)).size ≤ 41 := by rw [ByteArray.size_append]; exact Nat.add_le_add hx0 (Nat.le_refl _)
      have s2 : ((⟨x0.toArray⟩ : ByteArray) ++ (⟨#[32]⟩ : ByteArray) ++ (⟨x1.toArray⟩ : ByteArray)).size ≤ 4000000 := by rw [ByteArray.size_append]; omega
      have Hec := Lib.hid (fun W => ecParse_det ((⟨x0.toArray⟩ : ByteArray) ++ (⟨#[32]⟩ : ByteArray) ++ (⟨x1.toArray⟩ : ByteArray)) W s2)
      rw [hT] at Hec
      have a1 := str_add5 (⟨x0.toArray⟩ : ByteArray) (⟨#[32]⟩ : ByteArray) (by omega) (by decide)
      have a2 := str_add5 ((⟨x0.toArray⟩ : ByteArray) ++ (⟨#[32]⟩ : ByteArray)) (⟨x1.toArray⟩ : ByteArray) (by omega) (by omega)
      clear hT Hmem hspl Hno Hpc Hpc1 Hlong
      have hcap := own_cap Hown2.out
      rcases own_two Hown2.out with ⟨h0, -, -⟩ | ⟨g2, rfl, hbg, hlg⟩
      · cases h0
      have f0 := Hown2.out.cellAt 0 (show 0 < 5 * 1 by decide)
      have f1 := Hown2.out.cellAt 1 (show 1 < 5 * 1 by decide)
      have f2 := Hown2.out.cellAt 2 (show 2 < 5 * 1 by decide)
      have f3 := Hown2.out.cellAt 3 (show 3 < 5 * 1 by decide)
      have f4 := Hown2.out.cellAt 4 (show 4 < 5 * 1 by decide)
      clear Hown2
      simp only [bsv, List.map_cons, List.map_nil, List.getElem?_cons_zero, List.getElem?_cons_succ] at f0 f1 f2 f3 f4
      rw [show [x0, x1, x2, x3, x4].length = 5 from rfl] at hcap ⊢
      generalize ((⟨x0.toArray⟩ : ByteArray) ++ (⟨#[32]⟩ : ByteArray) ++ (⟨x1.toArray⟩ : ByteArray)) = T at Hec a2 s2
      generalize ((⟨x0.toArray⟩ : ByteArray) ++ (⟨#[32]⟩ : ByteArray)) = Y at a1 a2 s1
      generalize (⟨x0.toArray⟩ : ByteArray) = X0 at a1 f0 hx0
      generalize (⟨x1.toArray⟩ : ByteArray) = X1 at a2 f1 hx1
      generalize (⟨x2.toArray⟩ : ByteArray) = X2 at H2 f2 hx2
      generalize (⟨x3.toArray⟩ : ByteArray) = X3 at H3 f3 hx3
      generalize (⟨x4.toArray⟩ : ByteArray) = X4 at H4 f4 hx4
      generalize rdN x2 = m at H2 Hp1
      generalize rdN x3 = d at H3 Hp1
      generalize rdN x4 = t at H4 Hp1
      generalize pcV (x0 ++ 32 :: x1) = pv at Hec Hp0 Hp1
      obtain ⟨a, b, ok⟩ := pv
      simp only at Hec Hp0 Hp1
      have HS : Hid (∀ w', Below w2.heap.size w2 w' → (w'.cell? ⟨g2, 0, none⟩ = some (.string X0) ∧ w'.cell? ⟨g2, 1, none⟩ = some (.string X1) ∧ Below w2.heap.size w2 w')) := Lib.hid (fun w' hw => ⟨(hw.cell (p := ⟨g2, 0, none⟩) hlg).trans f0, (hw.cell (p := ⟨g2, 1, none⟩) hlg).trans f1, hw⟩)
      have F2 := Lib.hid f2; have F3 := Lib.hid f3; have F4 := Lib.hid f4; clear f2 f3 f4
      go_wp2_with fail
      go_cut [5, 6] (fun p o wx => ∃ (q : Nat), p = .pointer (some ⟨q, 0, none⟩) ∧ o = .bool ok ∧ Blk wx q 23 #[.int .i64 a, .int .i64 b] ∧ w2.heap.size ≤ q ∧ Below w2.heap.size w2 wx)
      case first =>
        go_region_held3 (fun w' => w'.cell? ⟨g2, 0, none⟩ = some (.string X0) ∧ w'.cell? ⟨g2, 1, none⟩ = some (.string X1) ∧ Below w2.heap.size w2 w')
          ((go_split_ands; refine HS.out _ ?_; repeat (first | (with_reducible assumption) | (with_reducible exact Below.refl _ _) | (with_reducible refine Below.drew ?_) | (with_reducible refine bal ?_ _) | (with_reducible refine bst ?_ (by first | omega | (simp; done) | (simp; omega)) _) | (with_reducible refine bthen ?_ (by with_reducible assumption)))))
          ((first | (go_at_call 18; (with_reducible refine (Hec.out _).mono ?_); rintro e w3 ⟨rfl, hb3⟩; (try (have hz3 : Blk w3 w2.heap.size 23 #[.int .i64 0, .int .i64 0] := (Blk.drew (Blk.new w2 23 #[.int .i64 0, .int .i64 0])).on hb3; have zc0 := hz3.cell 0; have zc1 := hz3.cell 1; have zf0 := hz3.frozen 0; have zf1 := hz3.frozen 1; have zl := hz3.lt; have Hz3 := Lib.hid hz3; clear hz3)))))
        all_goals
          go_wp2_with fail
          go_meet
          have hsz3 : Hid (w2.drew.heap.size ≤ w3.heap.size → w2.heap.size ≤ w3.heap.size) := Lib.hid (fun h => h)
          first
            | with_reducible exact ⟨_, rfl, rfl, Blk.new _ _ _, hsz3.out hb3.size, by repeat (with_reducible first | exact Below.refl _ _ | refine Below.drew ?_ | refine bal ?_ _ | refine bthen ?_ hb3)⟩
            | exact ⟨_, rfl, rfl, Blk.set2 Hz3.out, Nat.le_refl _, by repeat (with_reducible first | exact Below.refl _ _ | refine Below.drew ?_ | refine bal ?_ _ | (refine bst ?_ (by first | omega | (simp; done) | (simp; omega)) _) | refine bthen ?_ hb3)⟩
      obtain ⟨q, rfl, rfl, hBq, hq, hbc⟩ := hcut
      have HR3 := Lib.hid (HR2.out.on hbc); have Hb3 := Lib.hid (bthen Hb2.out hbc)
      have f2 := (hbc.cell (p := ⟨g2, 2, none⟩) hlg).trans F2.out
      have f3 := (hbc.cell (p := ⟨g2, 3, none⟩) hlg).trans F3.out
      have f4 := (hbc.cell (p := ⟨g2, 4, none⟩) hlg).trans F4.out
      have hlg3 := Nat.lt_of_lt_of_le hlg hbc.size
      have c0 := hBq.cell 0
      have c1' := hBq.cell 1
      have hql := hBq.lt
      simp at c0 c1'
      clear HS F2 F3 F4 f0 f1 a1 a2 hBq hq hbc Hec hbg hlg
      cases ok
      · have HN := Lib.hid (Hp0.out rfl)
        have r0 := HR3.out.cell 0
        have r1 := HR3.out.cell 1
        have r2 := HR3.out.cell 2
        have r3 := HR3.out.cell 3
        have r4 := HR3.out.cell 4
        have r5 := HR3.out.cell 5
        simp at r0 r1 r2 r3 r4 r5
        have rl := HR3.out.lt
        have rf := HR3.out.frozen
        go_wp2
        clear r0 r1 r2 r3 r4 r5 rf
        have HR6 := HR3.out.set6 (b0 := .int .i64 0) (b1 := .int .i64 0) (b2 := .int .i64 0) (b3 := .int .i64 0) (b4 := .int .i64 0) (b5 := .slice none 0 0)
        have k0 := HR6.cell 0
        have k1 := HR6.cell 1
        have k2 := HR6.cell 2
        have k3 := HR6.cell 3
        have k4 := HR6.cell 4
        have k5 := HR6.cell 5
        simp at k0 k1 k2 k3 k4 k5
        exact bodyPost_ret (v := .tuple #[.agg #[.int .i64 0, .int .i64 0, .int .i64 0, .int .i64 0, .int .i64 0, .slice none 0 0], .bool false]) (by simp [results, Tryz.results5, go_sem, k0, k1, k2, k3, k4, k5]) rfl ⟨TkRet.zero HN.out, bst (bst (bst (bst (bst (bst (Hb3.out) (Nat.le_refl _) _) (Nat.le_refl _) _) (Nat.le_refl _) _) (Nat.le_refl _) _) (Nat.le_refl _) _) (Nat.le_refl _) _⟩
      · have Hq := Lib.hid (Hp1.out rfl)
        have HS : Hid (∀ w', Below wc.heap.size wc w' → (w'.cell? ⟨g2, 2, none⟩ = some (.string X2) ∧ w'.cell? ⟨g2, 3, none⟩ = some (.string X3) ∧ w'.cell? ⟨g2, 4, none⟩ = some (.string X4) ∧ w'.cell? ⟨q, 0, none⟩ = some (.int .i64 a) ∧ w'.cell? ⟨q, 1, none⟩ = some (.int .i64 b) ∧ Below wc.heap.size wc w')) := Lib.hid (fun w' hw => ⟨(hw.cell (p := ⟨g2, 2, none⟩) hlg3).trans f2, (hw.cell (p := ⟨g2, 3, none⟩) hlg3).trans f3, (hw.cell (p := ⟨g2, 4, none⟩) hlg3).trans f4, (hw.cell (p := ⟨q, 0, none⟩) hql).trans c0, (hw.cell (p := ⟨q, 1, none⟩) hql).trans c1', hw⟩)
        go_wp2_with fail
        go_cut [7] (fun p wx => ∃ (q7 : Nat), p = .pointer (some ⟨q7, 0, none⟩) ∧ Blk wx q7 26 #[.int .i64 a, .int .i64 b, .int .i64 m, .int .i64 d, .int .i64 t, .slice none 0 0] ∧ wc.heap.size ≤ q7 ∧ Below wc.heap.size wc wx)
        case first =>
          go_region_held3 (fun w' => w'.cell? ⟨g2, 2, none⟩ = some (.string X2) ∧ w'.cell? ⟨g2, 3, none⟩ = some (.string X3) ∧ w'.cell? ⟨g2, 4, none⟩ = some (.string X4) ∧ w'.cell? ⟨q, 0, none⟩ = some (.int .i64 a) ∧ w'.cell? ⟨q, 1, none⟩ = some (.int .i64 b) ∧ Below wc.heap.size wc w')
            ((go_split_ands; refine HS.out _ ?_; repeat (first | (with_reducible assumption) | (with_reducible exact Below.refl _ _) | (with_reducible refine Below.drew ?_) | (with_reducible refine bal ?_ _) | (with_reducible refine bst ?_ (by first | omega | (simp; done) | (simp; omega)) _) | (with_reducible refine bthen ?_ (by with_reducible assumption)))))
            ((first | (go_at_call 19; (with_reducible refine (H2.out _).mono ?_); rintro e wa ⟨rfl, rfl⟩) | (go_at_call 19; (with_reducible refine (H3.out _).mono ?_); rintro e wa ⟨rfl, rfl⟩) | (go_at_call 19; (with_reducible refine (H4.out _).mono ?_); rintro e wa ⟨rfl, rfl⟩)))
          all_goals
            go_wp2_with fail
            go_meet
            first
              | with_reducible exact ⟨_, rfl, Blk.new _ _ _, Nat.le_refl _, by repeat (first | (with_reducible assumption) | (with_reducible exact Below.refl _ _) | (with_reducible refine Below.drew ?_) | (with_reducible refine bal ?_ _) | (with_reducible refine bst ?_ (by first | omega | (simp; done) | (simp; omega)) _) | (with_reducible refine bthen ?_ (by with_reducible assumption)))⟩
              | with_reducible exact ⟨_, rfl, (Blk.new _ _ _).drew, Nat.le_refl _, by repeat (first | (with_reducible assumption) | (with_reducible exact Below.refl _ _) | (with_reducible refine Below.drew ?_) | (with_reducible refine bal ?_ _) | (with_reducible refine bst ?_ (by first | omega | (simp; done) | (simp; omega)) _) | (with_reducible refine bthen ?_ (by with_reducible assumption)))⟩
              | exact ⟨_, rfl, Blk.set6 (Blk.drew (Blk.new _ _ _)), Nat.le_refl _, by repeat (first | (with_reducible assumption) | (with_reducible exact Below.refl _ _) | (with_reducible refine Below.drew ?_) | (with_reducible refine bal ?_ _) | (with_reducible refine bst ?_ (by first | omega | (simp; done) | (simp; omega)) _) | (with_reducible refine bthen ?_ (by with_reducible assumption)))⟩
        obtain ⟨q7, rfl, hB7, hq7, hbd⟩ := hcut
        have HR4 := Lib.hid (HR3.out.on hbd); have Hb4 := Lib.hid (bthen Hb3.out hbd); have HB7 := Lib.hid hB7
        clear HS f2 f3 f4 c0 c1' hlg3 hql hbd H2 H3 H4 hB7 hq7
        skip
        have b0 := HB7.out.cell 0
        have b1 := HB7.out.cell 1
        have b2 := HB7.out.cell 2
        have b3 := HB7.out.cell 3
        have b4 := HB7.out.cell 4
        have b5 := HB7.out.cell 5
        simp at b0 b1 b2 b3 b4 b5
        have bl := HB7.out.lt
        have HB8 := Lib.hid (fun w' => skBounds_any a b m d t (.slice none 0 0) w')
        cases hk : tkB a b m d
        all_goals rw [hk] at HB8
        · have HN := Lib.hid (psV_none (show psI s = none by rw [Hq.out, if_neg (fun hh => by have h9 := hh.1; unfold tk5 at h9; rw [hk] at h9; cases h9)]))
          clear hk
          go_wp2
          refine wp_region_tame (by kernel_rfl) (by kernel_rfl) (fun T _ W hT => ?_)
          have hx := hT.cell
          repeat (go_big_quiet_step ((first | (go_at_call 20; exact hT.call (HB8.out _)))))
          refine wpQuiet_nil ?_
          intro tt
          clear hx
          have hbt := hT.below tt
          have HR5 := Lib.hid (HR4.out.on hbt); have Hb5 := Lib.hid (bthen Hb4.out hbt); clear hbt b0 b1 b2 b3 b4 b5
          have r0 := HR5.out.cell 0
          have r1 := HR5.out.cell 1
          have r2 := HR5.out.cell 2
          have r3 := HR5.out.cell 3
          have r4 := HR5.out.cell 4
          have r5 := HR5.out.cell 5
          simp at r0 r1 r2 r3 r4 r5
          have rl := HR5.out.lt
          have rf := HR5.out.frozen
          go_wp2
          clear r0 r1 r2 r3 r4 r5 rf
          have HR6 := HR5.out.set6 (b0 := .int .i64 0) (b1 := .int .i64 0) (b2 := .int .i64 0) (b3 := .int .i64 0) (b4 := .int .i64 0) (b5 := .slice none 0 0)
          have k0 := HR6.cell 0
          have k1 := HR6.cell 1
          have k2 := HR6.cell 2
          have k3 := HR6.cell 3
          have k4 := HR6.cell 4
          have k5 := HR6.cell 5
          simp at k0 k1 k2 k3 k4 k5
          exact bodyPost_ret (v := .tuple #[.agg #[.int .i64 0, .int .i64 0, .int .i64 0, .int .i64 0, .int .i64 0, .slice none 0 0], .bool false]) (by simp [results, Tryz.results5, go_sem, k0, k1, k2, k3, k4, k5]) rfl ⟨TkRet.zero HN.out, bst (bst (bst (bst (bst (bst (Hb5.out) (Nat.le_refl _) _) (Nat.le_refl _) _) (Nat.le_refl _) _) (Nat.le_refl _) _) (Nat.le_refl _) _) (Nat.le_refl _) _⟩
        · have Htk := Lib.hid (tkB_tk hk)
          have HC8 := Lib.hid (fun w' => skCount_any a b m d t (.slice none 0 0) w' Htk.out)
          have inB : ∀ (n lo hi : Int) (w' : World), Calls Tryz.prog 21 #[.int .i64 n, .int .i64 lo, .int .i64 hi] w' fun r w'' => r = .returned (.bool (insB n lo hi)) ∧ Below w'.heap.size w' w'' := fun n lo hi w' => (l1In_any n lo hi w').mono (fun _ _ h => ⟨h.1, h.2 ▸ Below.refl _ _⟩)
          have HL8 := Lib.hid (fun w' => inB t 0 (totI m d) w')
          clear inB
          cases hin : insB t 0 (totI m d)
          all_goals rw [hin] at HL8
          · have HN := Lib.hid (psV_none (show psI s = none by rw [Hq.out, if_neg (fun hh => by have h9 := hh.1; unfold tk5 at h9; rw [hin] at h9; simp at h9)]))
            clear hk hin
            go_wp2
            refine wp_region_tame (by kernel_rfl) (by kernel_rfl) (fun T _ W hT => ?_)
            have hx := hT.cell
            repeat (go_big_quiet_step ((first | (go_at_call 20; exact hT.call (HB8.out _)) | (go_at_call 21; with_reducible exact hT.call (HL8.out _)) | (go_at_call 22; exact hT.call (HC8.out _)))))
            refine wpQuiet_nil ?_
            intro tt
            clear hx
            have hbt := hT.below tt
            have HR5 := Lib.hid (HR4.out.on hbt); have Hb5 := Lib.hid (bthen Hb4.out hbt); clear hbt b0 b1 b2 b3 b4 b5
            have r0 := HR5.out.cell 0
            have r1 := HR5.out.cell 1
            have r2 := HR5.out.cell 2
            have r3 := HR5.out.cell 3
            have r4 := HR5.out.cell 4
            have r5 := HR5.out.cell 5
            simp at r0 r1 r2 r3 r4 r5
            have rl := HR5.out.lt
            have rf := HR5.out.frozen
            go_wp2
            clear r0 r1 r2 r3 r4 r5 rf
            have HR6 := HR5.out.set6 (b0 := .int .i64 0) (b1 := .int .i64 0) (b2 := .int .i64 0) (b3 := .int .i64 0) (b4 := .int .i64 0) (b5 := .slice none 0 0)
            have k0 := HR6.cell 0
            have k1 := HR6.cell 1
            have k2 := HR6.cell 2
            have k3 := HR6.cell 3
            have k4 := HR6.cell 4
            have k5 := HR6.cell 5
            simp at k0 k1 k2 k3 k4 k5
            exact bodyPost_ret (v := .tuple #[.agg #[.int .i64 0, .int .i64 0, .int .i64 0, .int .i64 0, .int .i64 0, .slice none 0 0], .bool false]) (by simp [results, Tryz.results5, go_sem, k0, k1, k2, k3, k4, k5]) rfl ⟨TkRet.zero HN.out, bst (bst (bst (bst (bst (bst (Hb5.out) (Nat.le_refl _) _) (Nat.le_refl _) _) (Nat.le_refl _) _) (Nat.le_refl _) _) (Nat.le_refl _) _) (Nat.le_refl _) _⟩
          · have Hin := Lib.hid (insB_true hin)
            have h5k := Lib.hid (show tk5 a b m d t = true by unfold tk5; rw [hk, hin]; rfl)
            clear hk hin
            have HT8 := Lib.hid (fun w' => skText_any a b m d t (.slice none 0 0) w' Htk.out (tk5_small h5k.out).2.2.2.2)
            by_cases htx : nText [a, b, m, d, t] = s
            · have HV := Lib.hid (psV_some (show psI s = some (a, b, m, d, t) by rw [Hq.out, if_pos ⟨h5k.out, by rw [htx]⟩]))
              have hq : ((nText [a, b, m, d, t]).toList == s.toList) = true := by rw [htx]; simp
              clear htx
              go_wp2
              refine wp_region_tame (by kernel_rfl) (by kernel_rfl) (fun T _ W hT => ?_)
              have hx := hT.cell
              repeat (go_big_quiet_step ((first | (go_at_call 20; exact hT.call (HB8.out _)) | (go_at_call 21; with_reducible exact hT.call (HL8.out _)) | (go_at_call 22; exact hT.call (HC8.out _)) | (go_at_call 23; exact hT.call (HT8.out _)))))
              refine wpQuiet_nil ?_
              intro tt
              clear hx
              have hbt := hT.below tt
              have HR5 := Lib.hid (HR4.out.on hbt); have Hb5 := Lib.hid (bthen Hb4.out hbt); have HB5 := Lib.hid (HB7.out.on hbt); clear hbt b0 b1 b2 b3 b4 b5 bl
              have b0 := HB5.out.cell 0
              have b1 := HB5.out.cell 1
              have b2 := HB5.out.cell 2
              have b3 := HB5.out.cell 3
              have b4 := HB5.out.cell 4
              have b5 := HB5.out.cell 5
              simp at b0 b1 b2 b3 b4 b5
              have bl := HB5.out.lt
              go_wp2_with fail
              refine (skAt_any a b m d t t (.slice none 0 0) _ Htk.out Hin.out).mono ?_; rintro e w6 ⟨⟨v6, rfl, hown6⟩, hb6⟩
              obtain ⟨A6, c6, rfl⟩ := own_form hown6
              have HR6 := Lib.hid (HR5.out.on hb6); have Hb6 := Lib.hid (bthen Hb5.out hb6); have Hrl := Lib.hid HR5.out.lt
              have Hown6 := Lib.hid hown6; clear hown6 hb6 b0 b1 b2 b3 b4 b5 bl
              have r0 := HR6.out.cell 0
              have r1 := HR6.out.cell 1
              have r2 := HR6.out.cell 2
              have r3 := HR6.out.cell 3
              have r4 := HR6.out.cell 4
              have r5 := HR6.out.cell 5
              simp at r0 r1 r2 r3 r4 r5
              have rl := HR6.out.lt
              have rf := HR6.out.frozen
              go_wp2
              clear r0 r1 r2 r3 r4 r5 rf
              have HR6 := HR6.out.set6 (b0 := .int .i64 a) (b1 := .int .i64 b) (b2 := .int .i64 m) (b3 := .int .i64 d) (b4 := .int .i64 t) (b5 := .slice A6 (hitsZ a b m 0 t).length c6)
              have k0 := HR6.cell 0
              have k1 := HR6.cell 1
              have k2 := HR6.cell 2
              have k3 := HR6.cell 3
              have k4 := HR6.cell 4
              have k5 := HR6.cell 5
              simp at k0 k1 k2 k3 k4 k5
              exact bodyPost_ret (v := .tuple #[.agg #[.int .i64 a, .int .i64 b, .int .i64 m, .int .i64 d, .int .i64 t, .slice A6 (hitsZ a b m 0 t).length c6], .bool true]) (by simp [results, Tryz.results5, go_sem, k0, k1, k2, k3, k4, k5]) rfl ⟨TkRet.mk HV.out (own_far (g := w.heap.size) Hown6.out (by repeat (first | (with_reducible exact grefl _ _) | (with_reducible refine only_cell ?_) | (with_reducible refine only_drew ?_))) Hrl.out) (Nat.le_of_lt Hrl.out), bst (bst (bst (bst (bst (bst (Hb6.out) (Nat.le_refl _) _) (Nat.le_refl _) _) (Nat.le_refl _) _) (Nat.le_refl _) _) (Nat.le_refl _) _) (Nat.le_refl _) _⟩
            · have HN := Lib.hid (psV_none (show psI s = none by rw [Hq.out, if_neg (fun hh => htx (bytes_ext hh.2))]))
              have hq : ((nText [a, b, m, d, t]).toList == s.toList) = false := beq_eq_false_iff_ne.2 (fun e => htx (bytes_inj e))
              clear htx
              go_wp2
              refine wp_region_tame (by kernel_rfl) (by kernel_rfl) (fun T _ W hT => ?_)
              have hx := hT.cell
              repeat (go_big_quiet_step ((first | (go_at_call 20; exact hT.call (HB8.out _)) | (go_at_call 21; with_reducible exact hT.call (HL8.out _)) | (go_at_call 22; exact hT.call (HC8.out _)) | (go_at_call 23; exact hT.call (HT8.out _)))))
              refine wpQuiet_nil ?_
              intro tt
              clear hx
              have hbt := hT.below tt
              have HR5 := Lib.hid (HR4.out.on hbt); have Hb5 := Lib.hid (bthen Hb4.out hbt); clear hbt b0 b1 b2 b3 b4 b5
              have r0 := HR5.out.cell 0
              have r1 := HR5.out.cell 1
              have r2 := HR5.out.cell 2
              have r3 := HR5.out.cell 3
              have r4 := HR5.out.cell 4
              have r5 := HR5.out.cell 5
              simp at r0 r1 r2 r3 r4 r5
              have rl := HR5.out.lt
              have rf := HR5.out.frozen
              go_wp2
              clear r0 r1 r2 r3 r4 r5 rf
              have HR6 := HR5.out.set6 (b0 := .int .i64 0) (b1 := .int .i64 0) (b2 := .int .i64 0) (b3 := .int .i64 0) (b4 := .int .i64 0) (b5 := .slice none 0 0)
              have k0 := HR6.cell 0
              have k1 := HR6.cell 1
              have k2 := HR6.cell 2
              have k3 := HR6.cell 3
              have k4 := HR6.cell 4
              have k5 := HR6.cell 5
              simp at k0 k1 k2 k3 k4 k5
              exact bodyPost_ret (v := .tuple #[.agg #[.int .i64 0, .int .i64 0, .int .i64 0, .int .i64 0, .int .i64 0, .slice none 0 0], .bool false]) (by simp [results, Tryz.results5, go_sem, k0, k1, k2, k3, k4, k5]) rfl ⟨TkRet.zero HN.out, bst (bst (bst (bst (bst (bst (Hb5.out) (Nat.le_refl _) _) (Nat.le_refl _) _) (Nat.le_refl _) _) (Nat.le_refl _) _) (Nat.le_refl _) _) (Nat.le_refl _) _⟩
    · have HN := Lib.hid (Hno.out h5)
      have h3 : ((ps.length : Int) == 5) = false := beq_eq_false_iff_ne.2 (by omega)
      have h4 : ((ps.length : Int) != 5) = true := by simp [bne, h3]
      have r0 := HR2.out.cell 0
      have r1 := HR2.out.cell 1
      have r2 := HR2.out.cell 2
      have r3 := HR2.out.cell 3
      have r4 := HR2.out.cell 4
      have r5 := HR2.out.cell 5
      simp at r0 r1 r2 r3 r4 r5
      have rl := HR2.out.lt
      have rf := HR2.out.frozen
      go_wp2
      clear r0 r1 r2 r3 r4 r5 rf
      have HR6 := HR2.out.set6 (b0 := .int .i64 0) (b1 := .int .i64 0) (b2 := .int .i64 0) (b3 := .int .i64 0) (b4 := .int .i64 0) (b5 := .slice none 0 0)
      have k0 := HR6.cell 0
      have k1 := HR6.cell 1
      have k2 := HR6.cell 2
      have k3 := HR6.cell 3
      have k4 := HR6.cell 4
      have k5 := HR6.cell 5
      simp at k0 k1 k2 k3 k4 k5
      exact bodyPost_ret (v := .tuple #[.agg #[.int .i64 0, .int .i64 0, .int .i64 0, .int .i64 0, .int .i64 0, .slice none 0 0], .bool false]) (by simp [results, Tryz.results5, go_sem, k0, k1, k2, k3, k4, k5]) rfl ⟨TkRet.zero HN.out, bst (bst (bst (bst (bst (bst (Hb2.out) (Nat.le_refl _) _) (Nat.le_refl _) _) (Nat.le_refl _) _) (Nat.le_refl _) _) (Nat.le_refl _) _) (Nat.le_refl _) _⟩
end Go.Proofs.YticbmpjdcanjkaaGreatDoor
