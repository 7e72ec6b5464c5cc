/- The reference's reader of a record's line: the walk. Conditions: bounds. -/
import Derived.Test.YtimfoodbolokdaaGreatDoorEtM8
import Derived.Deep.DeepCutAuto
namespace Go.Proofs.YtimfoodbolokdaaGreatDoor
open Go Go.RowKit

def RsP (k : Int) (s : List UInt8) (e : Ending) : Prop :=
  (∃ r : Rc, rdS k s = some r ∧ e = .returned (.tuple #[.agg #[.int .i64 r.a, .int .i64 r.b, .int .i64 r.lo, .int .i64 r.hi], .bool true])) ∨
  (rdS k s = none ∧ e = .returned (.tuple #[.agg #[.int .i64 0, .int .i64 0, .int .i64 0, .int .i64 0], .bool false]))
theorem RsP.no {k : Int} {s : List UInt8} (h : rdS k s = none) : RsP k s (.returned (.tuple #[.agg #[.int .i64 0, .int .i64 0, .int .i64 0, .int .i64 0], .bool false])) := Or.inr ⟨h, rfl⟩
theorem RsP.yes {k : Int} {s : List UInt8} {a b lo hi : Int} (h : rdS k s = some ⟨a, b, lo, hi⟩) : RsP k s (.returned (.tuple #[.agg #[.int .i64 a, .int .i64 b, .int .i64 lo, .int .i64 hi], .bool true])) := Or.inl ⟨_, h, rfl⟩
theorem rdS_not5 {k : Int} {s : List UInt8} (h : (jwS s).length ≠ 5) : rdS k s = none := by
  unfold rdS
  split
  · rename_i hh; rw [hh] at h; exact absurd rfl h
  · rfl
theorem rdS_five {k : Int} {s x0 x1 x2 x3 x4 : List UInt8} (h : jwS s = [x0, x1, x2, x3, x4]) : rdS k s = match paC (x1 ++ 32 :: x2) with
    | none => none
    | some (x, y) => if recB x y (rdN x3) (rdN x4) = true ∧ (lineS k x y (rdN x3) (rdN x4)).data.toList = s ++ [10] then some ⟨x, y, rdN x3, rdN x4⟩ else none := by
  unfold rdS; rw [h]; rfl
theorem rdS_pc {k : Int} {s x0 x1 x2 x3 x4 : List UInt8} (h : jwS s = [x0, x1, x2, x3, x4]) (hp : (pcV (x1 ++ 32 :: x2)).2.2 = false) : rdS k s = none := by
  rw [rdS_five h]
  unfold pcV at hp
  cases hc : paC (x1 ++ 32 :: x2) with
  | none => rfl
  | some p => rw [hc] at hp; cases hp
theorem rdS_pc1 {k : Int} {s x0 x1 x2 x3 x4 : List UInt8} (h : jwS s = [x0, x1, x2, x3, x4]) (hp : (pcV (x1 ++ 32 :: x2)).2.2 = true) :
    rdS k s = if recB (pcV (x1 ++ 32 :: x2)).1 (pcV (x1 ++ 32 :: x2)).2.1 (rdN x3) (rdN x4) = true ∧ (lineS k (pcV (x1 ++ 32 :: x2)).1 (pcV (x1 ++ 32 :: x2)).2.1 (rdN x3) (rdN x4)).data.toList = s ++ [10] then some ⟨(pcV (x1 ++ 32 :: x2)).1, (pcV (x1 ++ 32 :: x2)).2.1, rdN x3, rdN x4⟩ else none := by
  rw [rdS_five h]
  unfold pcV at hp ⊢
  cases hc : paC (x1 ++ 32 :: x2) with
  | none => rw [hc] at hp; cases hp
  | some p => rfl
theorem str_add4 (a b : ByteArray) (ha : a.size ≤ 8388608) (hb : b.size ≤ 8388608) : ∀ W, (Op.stringOp .add a b).run Tryz.prog W = .ok (.string (a ++ b)) W := fun W =>
  run_string_add W a b (by omega) (by omega)
theorem head_len (s : List UInt8) : ((spl 35 s).headD []).length ≤ s.length := by
  cases h : spl 35 s with
  | nil => exact Nat.zero_le _
  | cons x r => exact spl_mem 35 s x (by rw [h]; simp)
set_option linter.unusedSimpArgs false in
set_option maxRecDepth 8000 in
set_option maxHeartbeats 4000000 in
theorem jrRead_any (s : ByteArray) (k : Int) (w : World) (hk : 0 ≤ k ∧ k ≤ 29) (hs : s.size ≤ 1900000) :
    Calls Tryz.prog 199 #[.string s, .int .i64 k] w fun e w' => RsP k s.data.toList e ∧ Below w.heap.size w w' := by
  have hlen : s.data.toList.length = s.size := rfl
  have HR := Lib.hid (Blk.new w 78 #[.int .i64 0, .int .i64 0, .int .i64 0, .int .i64 0])
  have hA := bal (Below.refl w.heap.size w) (Obj.cells #[.int .i64 0, .int .i64 0, .int .i64 0, .int .i64 0] 78)
  have HbA := Lib.hid hA; clear hA
  have Hsp := Lib.hid (fun W => l1Split_any s 35 W (by omega))
  have hhl := head_len s.data.toList
  obtain ⟨y0, ry, hy⟩ : ∃ y0 ry, spl 35 s.data.toList = y0 :: ry := by
    cases h : spl 35 s.data.toList with
    | nil => exact absurd h (spl_ne _ _)
    | cons x r => exact ⟨x, r, rfl⟩
  rw [hy] at Hsp hhl
  have hy0 : (⟨y0.toArray⟩ : ByteArray).size ≤ 1900000 := by show y0.toArray.size ≤ _; rw [List.size_toArray]; exact Nat.le_trans hhl (by omega)
  have Hsp2 := Lib.hid (fun W => l1Split_any ⟨y0.toArray⟩ 32 W (by omega))
  have hw : jwS s.data.toList = spl 32 y0 := by unfold jwS; rw [hy]; rfl
  rw [show (⟨y0.toArray⟩ : ByteArray).data.toList = y0 from rfl] at Hsp2
  have hspl := spl_len 32 y0
  have Hmem := Lib.hid (spl_mem 32 y0)
  have hy1 : y0.length ≤ 1900000 := Nat.le_trans hhl (by omega)
  rw [← hw] at Hsp2 hspl Hmem
  have Hno := Lib.hid (fun h => RsP.no (k := k) (rdS_not5 (k := k) (s := s.data.toList) h))
  have Hpc := Lib.hid (fun x0 x1 x2 x3 x4 h hp => RsP.no (k := k) (rdS_pc (k := k) (s := s.data.toList) (x0 := x0) (x1 := x1) (x2 := x2) (x3 := x3) (x4 := x4) h hp))
  have Hpc1 := Lib.hid (fun x0 x1 x2 x3 x4 h hp => (rdS_pc1 (k := k) (s := s.data.toList) (x0 := x0) (x1 := x1) (x2 := x2) (x3 := x3) (x4 := x4) h hp))
  clear hy hw hhl
  generalize jwS s.data.toList = ps at Hsp2 hspl Hmem Hno Hpc Hpc1
  go_enter Tryz.func199, Tryz.ntmps199
  go_wp2_with fail
  refine (Hsp.out _).mono ?_; rintro e w1 ⟨⟨v1, rfl, hown⟩, hb1⟩
  have HR1 := Lib.hid (HR.out.on hb1); have Hb1 := Lib.hid (bthen HbA.out hb1); clear hb1
  obtain ⟨A1, c1, rfl⟩ := own_form hown
  rcases own_two hown with ⟨h0, -, -⟩ | ⟨g1, rfl, hbg, hlg⟩
  · cases h0
  have f0 := hown.cellAt 0 (by rw [List.length_cons, Nat.mul_one]; omega)
  simp only [bsv, List.map_cons, List.getElem?_cons_zero] at f0
  have hpos : (0 : Int) < (((y0 :: ry).length : Nat) : Int) := by rw [List.length_cons]; omega
  generalize (y0 :: ry).length = n1 at hpos hown ⊢
  have Hown := Lib.hid hown; clear hown
  go_wp2_with fail
  refine (Hsp2.out _).mono ?_; rintro e w2 ⟨⟨v2, rfl, hown2⟩, hb2⟩
  clear f0 hlg hbg hpos Hown
  have HR2 := Lib.hid (HR1.out.on hb2); have Hb2 := Lib.hid (bthen Hb1.out hb2); clear hb2
  obtain ⟨A2, c2, rfl⟩ := own_form hown2
  have Hown2 := Lib.hid hown2; clear hown2
  by_cases h5 : ps.length = 5
  · obtain ⟨x0, x1, x2, x3, x4, rfl⟩ := list5g h5
    clear h5
    have Hp0 := Lib.hid (Hpc.out x0 x1 x2 x3 x4 rfl)
    have Hp1 := Lib.hid (Hpc1.out x0 x1 x2 x3 x4 rfl)
    have hx1 : (⟨x1.toArray⟩ : ByteArray).size ≤ 1900000 := by have h7 := Hmem.out x1 (by simp); show x1.toArray.size ≤ _; rw [List.size_toArray]; omega
    have hx2 : (⟨x2.toArray⟩ : ByteArray).size ≤ 1900000 := by have h7 := Hmem.out x2 (by simp); show x2.toArray.size ≤ _; rw [List.size_toArray]; omega
    have hx3 : (⟨x3.toArray⟩ : ByteArray).size ≤ 1900000 := by have h7 := Hmem.out x3 (by simp); show x3.toArray.size ≤ _; rw [List.size_toArray]; omega
    have hx4 : (⟨x4.toArray⟩ : ByteArray).size ≤ 1900000 := by have h7 := Hmem.out x4 (by simp); show x4.toArray.size ≤ _; rw [List.size_toArray]; omega
    have H3 := Lib.hid (fun W => l1Read_any ⟨x3.toArray⟩ W (by omega))
    have H4 := Lib.hid (fun W => l1Read_any ⟨x4.toArray⟩ W (by omega))
    rw [show (⟨x3.toArray⟩ : ByteArray).data.toList = x3 from rfl] at H3
    rw [show (⟨x4.toArray⟩ : ByteArray).data.toList = x4 from rfl] at H4
    have hT : ((⟨x1.toArray⟩ : ByteArray) ++ (⟨#[32]⟩ : ByteArray) ++ (⟨x2.toArray⟩ : ByteArray)).data.toList = x1 ++ 32 :: x2 := by simp
    have s1 : ((⟨x1.toArray⟩ : ByteArray) ++ (⟨#[32]⟩ : ByteArray)).size ≤ 1900001 := by rw [ByteArray.size_append]; exact Nat.add_le_add hx1 (Nat.le_refl _)
    have s2 : ((⟨x1.toArray⟩ : ByteArray) ++ (⟨#[32]⟩ : ByteArray) ++ (⟨x2.toArray⟩ : ByteArray)).size ≤ 4000000 := by rw [ByteArray.size_append]; omega
    have Hec := Lib.hid (fun W => ecParse_det ((⟨x1.toArray⟩ : ByteArray) ++ (⟨#[32]⟩ : ByteArray) ++ (⟨x2.toArray⟩ : ByteArray)) W s2)
    rw [hT] at Hec
    have a1 := str_add4 (⟨x1.toArray⟩ : ByteArray) (⟨#[32]⟩ : ByteArray) (by omega) (by decide)
    have a2 := str_add4 ((⟨x1.toArray⟩ : ByteArray) ++ (⟨#[32]⟩ : ByteArray)) (⟨x2.toArray⟩ : ByteArray) (by omega) (by omega)
    clear hT Hmem hspl Hno Hpc Hpc1
    have hcap := own_cap Hown2.out
    rcases own_two Hown2.out with ⟨h0, -, -⟩ | ⟨g2, rfl, hbg, hlg⟩
    · cases h0
    have f1 := Hown2.out.cellAt 1 (show 1 < 5 * 1 by decide)
    have f2 := Hown2.out.cellAt 2 (show 2 < 5 * 1 by decide)
    have f3 := Hown2.out.cellAt 3 (show 3 < 5 * 1 by decide)
    have f4 := Hown2.out.cellAt 4 (show 4 < 5 * 1 by decide)
    clear Hown2
    simp only [bsv, List.map_cons, List.map_nil, List.getElem?_cons_zero, List.getElem?_cons_succ] at f1 f2 f3 f4
    rw [show [x0, x1, x2, x3, x4].length = 5 from rfl] at hcap ⊢
    generalize ((⟨x1.toArray⟩ : ByteArray) ++ (⟨#[32]⟩ : ByteArray) ++ (⟨x2.toArray⟩ : ByteArray)) = T at Hec a2 s2
    generalize ((⟨x1.toArray⟩ : ByteArray) ++ (⟨#[32]⟩ : ByteArray)) = Y at a1 a2 s1
    generalize (⟨x1.toArray⟩ : ByteArray) = X1 at a1 f1 hx1
    generalize (⟨x2.toArray⟩ : ByteArray) = X2 at a2 f2 hx2
    generalize (⟨x3.toArray⟩ : ByteArray) = X3 at H3 f3 hx3
    generalize (⟨x4.toArray⟩ : ByteArray) = X4 at H4 f4 hx4
    have h3b := rdN_bd x3
    have h4b := rdN_bd x4
    generalize rdN x3 = lo at H3 Hp1 h3b
    generalize rdN x4 = hi at H4 Hp1 h4b
    generalize pcV (x1 ++ 32 :: x2) = pv at Hec Hp0 Hp1
    obtain ⟨a, b, ok⟩ := pv
    simp only at Hec Hp0 Hp1
    have HS : Hid (∀ w', Below w2.heap.size w2 w' → (w'.cell? ⟨g2, 1, none⟩ = some (.string X1) ∧ w'.cell? ⟨g2, 2, none⟩ = some (.string X2) ∧ Below w2.heap.size w2 w')) := Lib.hid (fun w' hw => ⟨(hw.cell (p := ⟨g2, 1, none⟩) hlg).trans f1, (hw.cell (p := ⟨g2, 2, none⟩) hlg).trans f2, hw⟩)
    have F3 := Lib.hid f3; have F4 := Lib.hid f4; clear f3 f4
    go_wp2_with fail
    go_cut [7, 8] (fun p o wx => ∃ (q : Nat), p = .pointer (some ⟨q, 0, none⟩) ∧ o = .bool ok ∧ Blk wx q 25 #[.int .i64 a, .int .i64 b] ∧ w2.heap.size ≤ q ∧ Below w2.heap.size w2 wx)
    case first =>
      go_region_held3 (fun w' => w'.cell? ⟨g2, 1, none⟩ = some (.string X1) ∧ w'.cell? ⟨g2, 2, none⟩ = some (.string X2) ∧ Below w2.heap.size w2 w')
        ((go_split_ands; refine HS.out _ ?_; repeat (first | (with_reducible assumption) | (with_reducible exact Below.refl _ _) | (with_reducible refine Below.drew ?_) | (with_reducible refine bal ?_ _) | (with_reducible refine bst ?_ (by first | omega | (simp; done) | (simp; omega)) _) | (with_reducible refine bthen ?_ (by with_reducible assumption)))))
        ((first
          | (go_at_call 130; (with_reducible refine (Hec.out _).mono ?_); rintro e w3 ⟨rfl, hb3⟩; (try (have hz3 : Blk w3 w2.heap.size 25 #[.int .i64 0, .int .i64 0] := (Blk.drew (Blk.new w2 25 #[.int .i64 0, .int .i64 0])).on hb3; have zc0 := hz3.cell 0; have zc1 := hz3.cell 1; have zf0 := hz3.frozen 0; have zf1 := hz3.frozen 1; have zl := hz3.lt; have Hz3 := Lib.hid hz3; clear hz3)))))
      all_goals
        go_wp2_with fail
        go_meet
        have hsz3 : Hid (w2.drew.heap.size ≤ w3.heap.size → w2.heap.size ≤ w3.heap.size) := Lib.hid (fun h => h)
        first
          | with_reducible exact ⟨_, rfl, rfl, Blk.new _ _ _, hsz3.out hb3.size, by repeat (with_reducible first | exact Below.refl _ _ | refine Below.drew ?_ | refine bal ?_ _ | refine bthen ?_ hb3)⟩
          | exact ⟨_, rfl, rfl, Blk.set2 Hz3.out, Nat.le_refl _, by repeat (with_reducible first | exact Below.refl _ _ | refine Below.drew ?_ | refine bal ?_ _ | (refine bst ?_ (by first | omega | (simp; done) | (simp; omega)) _) | refine bthen ?_ hb3)⟩
    obtain ⟨q, rfl, rfl, hBq, hq, hbc⟩ := hcut
    have HR3 := Lib.hid (HR2.out.on hbc); have Hb3 := Lib.hid (bthen Hb2.out hbc)
    have f3 := (hbc.cell (p := ⟨g2, 3, none⟩) hlg).trans F3.out
    have f4 := (hbc.cell (p := ⟨g2, 4, none⟩) hlg).trans F4.out
    have hlg3 := Nat.lt_of_lt_of_le hlg hbc.size
    have c0 := hBq.cell 0
    have c1' := hBq.cell 1
    have HBq := Lib.hid hBq
    have hql := hBq.lt
    simp at c0 c1'
    clear HS F3 F4 f1 f2 a1 a2 hBq hq hbc Hec
    have HS : Hid (∀ w', Below wc.heap.size wc w' → (w'.cell? ⟨g2, 3, none⟩ = some (.string X3) ∧ w'.cell? ⟨g2, 4, none⟩ = some (.string X4) ∧ w'.cell? ⟨q, 0, none⟩ = some (.int .i64 a) ∧ w'.cell? ⟨q, 1, none⟩ = some (.int .i64 b) ∧ Below wc.heap.size wc w')) := Lib.hid (fun w' hw => ⟨(hw.cell (p := ⟨g2, 3, none⟩) hlg3).trans f3, (hw.cell (p := ⟨g2, 4, none⟩) hlg3).trans f4, (hw.cell (p := ⟨q, 0, none⟩) hql).trans c0, (hw.cell (p := ⟨q, 1, none⟩) hql).trans c1', hw⟩)
    go_wp2_with fail
    go_region_held3 (fun w' => w'.cell? ⟨g2, 3, none⟩ = some (.string X3) ∧ w'.cell? ⟨g2, 4, none⟩ = some (.string X4) ∧ w'.cell? ⟨q, 0, none⟩ = some (.int .i64 a) ∧ w'.cell? ⟨q, 1, none⟩ = some (.int .i64 b) ∧ Below wc.heap.size wc w')
      ((go_split_ands; refine HS.out _ ?_; repeat (first | (with_reducible assumption) | (with_reducible exact Below.refl _ _) | (with_reducible refine Below.drew ?_) | (with_reducible refine bal ?_ _) | (with_reducible refine bst ?_ (by first | omega | (simp; done) | (simp; omega)) _) | (with_reducible refine bthen ?_ (by with_reducible assumption)))))
      ((first
        | (go_at_call 131; (with_reducible refine (H3.out _).mono ?_); rintro e wa ⟨rfl, rfl⟩)
        | (go_at_call 131; (with_reducible refine (H4.out _).mono ?_); rintro e wa ⟨rfl, rfl⟩)))
    all_goals (
      have HB := (Blk.new wc 78 #[.int .i64 a, .int .i64 b, .int .i64 lo, .int .i64 hi]).drew
      have HZ := (HR3.out.alloc (Obj.cells #[.int .i64 a, .int .i64 b, .int .i64 lo, .int .i64 hi] 78)).drew
      have Hbq := (bal Hb3.out (Obj.cells #[.int .i64 a, .int .i64 b, .int .i64 lo, .int .i64 hi] 78)).drew
      generalize World.drew (wc.alloc (Obj.cells #[.int .i64 a, .int .i64 b, .int .i64 lo, .int .i64 hi] 78)) = wq at HB HZ Hbq ⊢
      clear HS f3 f4 H3 H4 c0 c1' hlg3 hql
      replace HB := Lib.hid HB; replace HZ := Lib.hid HZ; replace Hbq := Lib.hid Hbq
      cases ok
      · have HN := Lib.hid (Hp0.out rfl)
        have z0 := HZ.out.cell 0
        have z1 := HZ.out.cell 1
        have z2 := HZ.out.cell 2
        have z3 := HZ.out.cell 3
        have zl := HZ.out.lt
        have zf := HZ.out.frozen
        simp at z0 z1 z2 z3
        go_wp2
        have HR4 := HZ.out.set4 (b0 := .int .i64 0) (b1 := .int .i64 0) (b2 := .int .i64 0) (b3 := .int .i64 0)
        have q0 := HR4.cell 0
        have q1 := HR4.cell 1
        have q2 := HR4.cell 2
        have q3 := HR4.cell 3
        simp at q0 q1 q2 q3
        exact bodyPost_ret (v := .tuple #[.agg #[.int .i64 0, .int .i64 0, .int .i64 0, .int .i64 0], .bool false]) (by simp [results, Tryz.results199, go_sem, q0, q1, q2, q3]) rfl ⟨HN.out, bst (bst (bst (bst Hbq.out (Nat.le_refl _) _) (Nat.le_refl _) _) (Nat.le_refl _) _) (Nat.le_refl _) _⟩
      · have Hq := Lib.hid (Hp1.out rfl)
        have g0 := HB.out.cell 0
        have g1' := HB.out.cell 1
        have g2' := HB.out.cell 2
        have g3' := HB.out.cell 3
        simp at g0 g1' g2' g3'
        go_wp2_with fail
        refine (jrRecord_any a b lo hi _).mono ?_; rintro e w5 ⟨rfl, hb5⟩
        clear g0 g1' g2' g3'
        have HB5 := Lib.hid (HB.out.on hb5); have HZ5 := Lib.hid (HZ.out.on hb5); have Hb5 := Lib.hid (bthen Hbq.out hb5); clear hb5
        cases hrc : recB a b lo hi
        · have HN := Lib.hid (RsP.no (k := k) (show rdS k s.data.toList = none by rw [Hq.out, if_neg (fun hh => by rw [hrc] at hh; cases hh.1)]))
          have z0 := HZ5.out.cell 0
          have z1 := HZ5.out.cell 1
          have z2 := HZ5.out.cell 2
          have z3 := HZ5.out.cell 3
          have zl := HZ5.out.lt
          have zf := HZ5.out.frozen
          simp at z0 z1 z2 z3
          go_wp2
          have HR4 := HZ5.out.set4 (b0 := .int .i64 0) (b1 := .int .i64 0) (b2 := .int .i64 0) (b3 := .int .i64 0)
          have q0 := HR4.cell 0
          have q1 := HR4.cell 1
          have q2 := HR4.cell 2
          have q3 := HR4.cell 3
          simp at q0 q1 q2 q3
          exact bodyPost_ret (v := .tuple #[.agg #[.int .i64 0, .int .i64 0, .int .i64 0, .int .i64 0], .bool false]) (by simp [results, Tryz.results199, go_sem, q0, q1, q2, q3]) rfl ⟨HN.out, bst (bst (bst (bst Hb5.out (Nat.le_refl _) _) (Nat.le_refl _) _) (Nat.le_refl _) _) (Nat.le_refl _) _⟩
        · have Hrb := Lib.hid (recB_bd hrc hk)
          have g0 := HB5.out.cell 0
          have g1' := HB5.out.cell 1
          have g2' := HB5.out.cell 2
          have g3' := HB5.out.cell 3
          simp at g0 g1' g2' g3'
          go_wp2_with fail
          refine (jrLine_any k a b lo hi _ Hrb.out).mono ?_; rintro e w6 ⟨rfl, hb6⟩
          clear g0 g1' g2' g3'
          have HB6 := Lib.hid (HB5.out.on hb6); have HZ6 := Lib.hid (HZ5.out.on hb6); have Hb6 := Lib.hid (bthen Hb5.out hb6); clear hb6
          have g0 := HB6.out.cell 0
          have g1' := HB6.out.cell 1
          have g2' := HB6.out.cell 2
          have g3' := HB6.out.cell 3
          have z0 := HZ6.out.cell 0
          have z1 := HZ6.out.cell 1
          have z2 := HZ6.out.cell 2
          have z3 := HZ6.out.cell 3
          have zl := HZ6.out.lt
          have zf := HZ6.out.frozen
          simp at z0 z1 z2 z3 g0 g1' g2' g3'
          have hsd : (s ++ (⟨#[10]⟩ : ByteArray)).data.toList = s.data.toList ++ [10] := by simp
          by_cases htx : lineS k a b lo hi = s ++ (⟨#[10]⟩ : ByteArray)
          · have HN := Lib.hid (RsP.yes (k := k) (show rdS k s.data.toList = some ⟨a, b, lo, hi⟩ by rw [Hq.out, if_pos ⟨hrc, by rw [htx, hsd]⟩]))
            have hq : ((lineS k a b lo hi).toList == (s ++ (⟨#[10]⟩ : ByteArray)).toList) = true := by rw [htx]; simp
            clear htx hsd
            go_wp2
            have HR4 := HZ6.out.set4 (b0 := .int .i64 a) (b1 := .int .i64 b) (b2 := .int .i64 lo) (b3 := .int .i64 hi)
            have q0 := HR4.cell 0
            have q1 := HR4.cell 1
            have q2 := HR4.cell 2
            have q3 := HR4.cell 3
            simp at q0 q1 q2 q3
            exact bodyPost_ret (v := .tuple #[.agg #[.int .i64 a, .int .i64 b, .int .i64 lo, .int .i64 hi], .bool true]) (by simp [results, Tryz.results199, go_sem, q0, q1, q2, q3]) rfl ⟨HN.out, bst (bst (bst (bst Hb6.out (Nat.le_refl _) _) (Nat.le_refl _) _) (Nat.le_refl _) _) (Nat.le_refl _) _⟩
          · have HN := Lib.hid (RsP.no (k := k) (show rdS k s.data.toList = none by rw [Hq.out, if_neg (fun hh => htx (bytes_ext (by rw [hh.2, hsd])))]))
            have hq : ((lineS k a b lo hi).toList == (s ++ (⟨#[10]⟩ : ByteArray)).toList) = false := beq_eq_false_iff_ne.2 (fun e => htx (bytes_inj e))
            clear htx hsd
            go_wp2
            have HR4 := HZ6.out.set4 (b0 := .int .i64 0) (b1 := .int .i64 0) (b2 := .int .i64 0) (b3 := .int .i64 0)
            have q0 := HR4.cell 0
            have q1 := HR4.cell 1
            have q2 := HR4.cell 2
            have q3 := HR4.cell 3
            simp at q0 q1 q2 q3
            exact bodyPost_ret (v := .tuple #[.agg #[.int .i64 0, .int .i64 0, .int .i64 0, .int .i64 0], .bool false]) (by simp [results, Tryz.results199, go_sem, q0, q1, q2, q3]) rfl ⟨HN.out, bst (bst (bst (bst Hb6.out (Nat.le_refl _) _) (Nat.le_refl _) _) (Nat.le_refl _) _) (Nat.le_refl _) _⟩)
  · have h3 : ((ps.length : Int) == 5) = false := beq_eq_false_iff_ne.2 (by omega)
    have h4 : ((ps.length : Int) != 5) = true := by simp [bne, h3]
    have HN := Lib.hid (Hno.out h5)
    have r0 := HR2.out.cell 0
    have r1 := HR2.out.cell 1
    have r2 := HR2.out.cell 2
    have r3 := HR2.out.cell 3
    have rl := HR2.out.lt
    have rf := HR2.out.frozen
    simp at r0 r1 r2 r3
    go_wp2
    have HR4 := HR2.out.set4 (b0 := .int .i64 0) (b1 := .int .i64 0) (b2 := .int .i64 0) (b3 := .int .i64 0)
    have q0 := HR4.cell 0
    have q1 := HR4.cell 1
    have q2 := HR4.cell 2
    have q3 := HR4.cell 3
    simp at q0 q1 q2 q3
    exact bodyPost_ret (v := .tuple #[.agg #[.int .i64 0, .int .i64 0, .int .i64 0, .int .i64 0], .bool false]) (by simp [results, Tryz.results199, go_sem, q0, q1, q2, q3]) rfl ⟨HN.out, bst (bst (bst (bst Hb2.out (Nat.le_refl _) _) (Nat.le_refl _) _) (Nat.le_refl _) _) (Nat.le_refl _) _⟩
end Go.Proofs.YtimfoodbolokdaaGreatDoor
