/- The walk of the program's reader of a curve's text. Conditions: Env. Printed by gen_pcc.py. -/
import Derived.Test.YticbmpjdcanjkaaDoorRead2
import Derived.Test.YticbmpjdcanjkaaDoorRdS3
import Derived.Test.YticbmpjdcanjkaaDoorCatT
namespace Go.Proofs.YticbmpjdcanjkaaDoor
open Go Go.RowKit

theorem cut1_here (c : UInt8) (w r : List UInt8) (h : c ∉ w) : Lib.cut (w ++ c :: r) [c] = (w, r, true) := by
  unfold Lib.cut
  rw [ix_here c r w h, if_pos (by omega)]
  simp only [Int.toNat_natCast, List.take_left', List.length_cons, List.length_nil, Nat.zero_add]
  rw [show (w ++ c :: r).drop (w.length + 1) = r by rw [← List.drop_drop, List.drop_left]; rfl]
theorem cut_sizes (s sep : List UInt8) : (Lib.cut s sep).1.length ≤ s.length ∧ (Lib.cut s sep).2.1.length ≤ s.length := by
  unfold Lib.cut
  split
  · exact ⟨by rw [List.length_take]; exact Nat.min_le_right _ _, by rw [List.length_drop]; omega⟩
  · exact ⟨Nat.le_refl _, Nat.zero_le _⟩
theorem paC_cut {s : List UInt8} {a b : Int} (h : paC s = some (a, b)) : Lib.atoiAll (Lib.cut s [32]).1 = .ok a ∧ Lib.atoiAll (Lib.cut s [32]).2.1 = .ok b := by
  obtain ⟨h1, h2⟩ := paC_spec h
  obtain ⟨h3, h4⟩ := curveB_bd h1
  rw [nTextD] at h2
  rw [← h2, cut1_here 32 _ _ (itoa_no32 a)]
  exact ⟨atoiAll_itS a (by omega), atoiAll_itS b (by omega)⟩
theorem paC_in {s : List UInt8} {a b : Int} (h : paC s = some (a, b)) : insB a (-1000) 1000 = true ∧ insB b (-10000) 10000 = true ∧ curveB a b = true ∧ nText [a, b] = ⟨s.toArray⟩ := by
  obtain ⟨h1, h2⟩ := paC_spec h
  obtain ⟨h3, h4⟩ := curveB_bd h1
  refine ⟨insB_mk (by omega) (by omega), insB_mk (by omega) (by omega), h1, bytes_ext h2⟩
/-- The two words are read as v1, v2: what the text is. -/
theorem paC_two_no {s : List UInt8} {v1 v2 : Int} (h1 : Lib.atoiAll (Lib.cut s [32]).1 = .ok v1) (h2 : Lib.atoiAll (Lib.cut s [32]).2.1 = .ok v2)
    (h : insB v1 (-1000) 1000 = false ∨ insB v2 (-10000) 10000 = false ∨ curveB v1 v2 = false ∨ nText [v1, v2] ≠ ⟨s.toArray⟩) : paC s = none := by
  cases hp : paC s with
  | none => rfl
  | some p =>
    obtain ⟨a, b⟩ := p
    obtain ⟨h3, h4⟩ := paC_cut hp
    rw [h1] at h3; rw [h2] at h4
    injection h3 with h3; injection h4 with h4
    subst h3; subst h4
    obtain ⟨k1, k2, k3, k4⟩ := paC_in hp
    rcases h with h | h | h | h
    · rw [k1] at h; cases h
    · rw [k2] at h; cases h
    · rw [k3] at h; cases h
    · exact absurd k4 h
theorem paC_no1 {s : List UInt8} (h : ∀ v : Int, Lib.atoiAll (Lib.cut s [32]).1 ≠ .ok v) : paC s = none := by
  cases hp : paC s with
  | none => rfl
  | some p => exact absurd (paC_cut hp).1 (h _)
theorem paC_no2 {s : List UInt8} (h : ∀ v : Int, Lib.atoiAll (Lib.cut s [32]).2.1 ≠ .ok v) : paC s = none := by
  cases hp : paC s with
  | none => rfl
  | some p => exact absurd (paC_cut hp).2 (h _)
set_option maxHeartbeats 800000 in
theorem curveResult_no (a b : Int) (w : World) (h : curveB a b = false) :
    Calls Tryd.prog 32 #[.agg #[.int .i64 a, .int .i64 b]] w fun e w' => e = .returned (.tuple #[.agg #[.int .i64 0, .int .i64 0], .bool false]) ∧ Below w.heap.size w w' := by
  have HB := Lib.hid (Blk.new w 31 #[.int .i64 a, .int .i64 b])
  have HR := Lib.hid (Blk.new1 w (.cells #[.int .i64 a, .int .i64 b] 31) 31 #[.int .i64 0, .int .i64 0])
  have HB := Lib.hid (HB.out.alloc (.cells #[.int .i64 0, .int .i64 0] 31))
  have HbA := Lib.hid (bal (bal (Below.refl w.heap.size w) (.cells #[.int .i64 a, .int .i64 b] 31)) (.cells #[.int .i64 0, .int .i64 0] 31))
  have H := Lib.hid (fun W => isCurve_any a b W)
  rw [h] at H
  clear h
  go_enter Tryd.func32, Tryd.ntmps32
  go_wp2_with fail
  refine (H.out _).mono ?_; rintro e w2 ⟨rfl, hb2⟩
  have HB2 := Lib.hid (HB.out.on hb2); have HR2 := Lib.hid (HR.out.on hb2); have Hb2 := Lib.hid (bthen HbA.out hb2); clear hb2
  have g0 := HB2.out.cell 0
  have g1 := HB2.out.cell 1
  have r0 := HR2.out.cell 0
  have r1 := HR2.out.cell 1
  have rl := HR2.out.lt
  have rf := HR2.out.frozen
  simp at g0 g1 r0 r1
  go_wp2
  have HR4 := HR2.out.set2 (b0 := .int .i64 0) (b1 := .int .i64 0)
  have q0 := HR4.cell 0
  have q1 := HR4.cell 1
  simp at q0 q1
  exact bodyPost_ret (v := .tuple #[.agg #[.int .i64 0, .int .i64 0], .bool false]) (by simp [results, Tryd.results32, go_sem, q0, q1]) rfl ⟨rfl, bst (bst Hb2.out (Nat.le_succ _) _) (Nat.le_succ _) _⟩
set_option maxHeartbeats 800000 in
theorem curveResult_yes (a b : Int) (w : World) (h : curveB a b = true) :
    Calls Tryd.prog 32 #[.agg #[.int .i64 a, .int .i64 b]] w fun e w' => e = .returned (.tuple #[.agg #[.int .i64 a, .int .i64 b], .bool true]) ∧ Below w.heap.size w w' := by
  have HB := Lib.hid (Blk.new w 31 #[.int .i64 a, .int .i64 b])
  have HR := Lib.hid (Blk.new1 w (.cells #[.int .i64 a, .int .i64 b] 31) 31 #[.int .i64 0, .int .i64 0])
  have HB := Lib.hid (HB.out.alloc (.cells #[.int .i64 0, .int .i64 0] 31))
  have HbA := Lib.hid (bal (bal (Below.refl w.heap.size w) (.cells #[.int .i64 a, .int .i64 b] 31)) (.cells #[.int .i64 0, .int .i64 0] 31))
  have H := Lib.hid (fun W => isCurve_any a b W)
  rw [h] at H
  clear h
  go_enter Tryd.func32, Tryd.ntmps32
  go_wp2_with fail
  refine (H.out _).mono ?_; rintro e w2 ⟨rfl, hb2⟩
  have HB2 := Lib.hid (HB.out.on hb2); have HR2 := Lib.hid (HR.out.on hb2); have Hb2 := Lib.hid (bthen HbA.out hb2); clear hb2
  have g0 := HB2.out.cell 0
  have g1 := HB2.out.cell 1
  have r0 := HR2.out.cell 0
  have r1 := HR2.out.cell 1
  have rl := HR2.out.lt
  have rf := HR2.out.frozen
  simp at g0 g1 r0 r1
  go_wp2
  have HR4 := HR2.out.set2 (b0 := .int .i64 a) (b1 := .int .i64 b)
  have q0 := HR4.cell 0
  have q1 := HR4.cell 1
  simp at q0 q1
  exact bodyPost_ret (v := .tuple #[.agg #[.int .i64 a, .int .i64 b], .bool true]) (by simp [results, Tryd.results32, go_sem, q0, q1]) rfl ⟨rfl, bst (bst Hb2.out (Nat.le_succ _) _) (Nat.le_succ _) _⟩
theorem cut_gen (s sep : ByteArray) (w : World) (hs : s.size ≤ 100000000) (h : Env w) : Calls Tryd.prog 17 #[.string s, .string sep] w fun e w' => e = .returned (.tuple #[.string ⟨(Lib.cut s.data.toList sep.data.toList).1.toArray⟩, .string ⟨(Lib.cut s.data.toList sep.data.toList).2.1.toArray⟩, .bool (Lib.cut s.data.toList sep.data.toList).2.2]) ∧ Below w.heap.size w w' := by
  refine (Tryd.strings_Cut_shaped s sep w h.sh (by omega)).mono fun e w' hp => ?_
  obtain ⟨he, n, rfl⟩ := hp
  exact ⟨he, drewN_below w n⟩
set_option linter.unusedSimpArgs false in
set_option maxRecDepth 8000 in
set_option maxHeartbeats 4000000 in
theorem parseCurve_any (s : ByteArray) (w : World) (hs : s.size ≤ 4000000) (h : Env w) :
    Calls Tryd.prog 16 #[.string s] w fun e w' => PaP s.data.toList e ∧ Below w.heap.size w w' := by
  have hlen : s.data.toList.length = s.size := rfl
  have HR := Lib.hid (Blk.new w 31 #[.int .i64 0, .int .i64 0])
  have hA := bal (Below.refl w.heap.size w) (Obj.cells #[.int .i64 0, .int .i64 0] 31)
  have He := Lib.hid (h.on hA); have HbA := Lib.hid hA; clear h hA
  have Hcut := Lib.hid (fun W h => cut_gen s ⟨#[32]⟩ W (by omega) h)
  rw [show (⟨#[32]⟩ : ByteArray).data.toList = [32] from rfl] at Hcut
  have Hn1 := Lib.hid (fun h => paC_no1 (s := s.data.toList) h)
  have Hn2 := Lib.hid (fun h => paC_no2 (s := s.data.toList) h)
  have Hno := Lib.hid (fun v1 v2 h1 h2 h => paC_two_no (s := s.data.toList) (v1 := v1) (v2 := v2) h1 h2 h)
  have hcs := cut_sizes s.data.toList [32]
  rw [hlen] at hcs
  generalize Lib.cut s.data.toList [32] = cu at Hcut Hn1 Hn2 Hno hcs
  obtain ⟨x1, x2, x3⟩ := cu
  simp only at Hcut Hn1 Hn2 Hno hcs
  have hx1 : (⟨x1.toArray⟩ : ByteArray).size ≤ 4000000 := by show x1.toArray.size ≤ _; rw [List.size_toArray]; omega
  have hx2 : (⟨x2.toArray⟩ : ByteArray).size ≤ 4000000 := by show x2.toArray.size ≤ _; rw [List.size_toArray]; omega
  have Hat1 := Lib.hid (fun W h => atoi_any ⟨x1.toArray⟩ W (by omega) h)
  have Hat2 := Lib.hid (fun W h => atoi_any ⟨x2.toArray⟩ W (by omega) h)
  unfold AtP at Hat1 Hat2
  rw [show (⟨x1.toArray⟩ : ByteArray).data.toList = x1 from rfl] at Hat1
  rw [show (⟨x2.toArray⟩ : ByteArray).data.toList = x2 from rfl] at Hat2
  generalize (⟨x1.toArray⟩ : ByteArray) = X1 at Hcut Hat1
  generalize (⟨x2.toArray⟩ : ByteArray) = X2 at Hcut Hat2
  clear hcs hlen hx1 hx2
  go_enter Tryd.func16, Tryd.ntmps16
  go_wp2_with fail
  refine (Hcut.out _ He.out).mono ?_; rintro e w1 ⟨rfl, hb1⟩
  have HR1 := Lib.hid (HR.out.on hb1); have He1 := Lib.hid (He.out.on hb1); have Hb1 := Lib.hid (bthen HbA.out hb1); clear hb1
  go_wp2_with fail
  refine (Hat1.out _ He1.out).mono ?_; rintro e w2 ⟨hat1, hb2⟩
  have HR2 := Lib.hid (HR1.out.on hb2); have He2 := Lib.hid (He1.out.on hb2); have Hb2 := Lib.hid (bthen Hb1.out hb2); clear hb2
  rcases hat1 with ⟨v1, hv1, l1, u1, rfl⟩ | ⟨hno1, v1, t1, N1, rfl⟩
  · have Hv1 := Lib.hid hv1; clear hv1
    go_wp2_with fail
    refine (Hat2.out _ He2.out).mono ?_; rintro e w3 ⟨hat2, hb3⟩
    have HR3 := Lib.hid (HR2.out.on hb3); have He3 := Lib.hid (He2.out.on hb3); have Hb3 := Lib.hid (bthen Hb2.out hb3); clear hb3
    rcases hat2 with ⟨v2, hv2, l2, u2, rfl⟩ | ⟨hno2, v2, t2, N2, rfl⟩
    · have Hv2 := Lib.hid hv2; clear hv2
      have Hno := Lib.hid (Hno.out v1 v2 Hv1.out Hv2.out)
      cases hi1 : insB v1 (-1000) 1000
      · have HN := Lib.hid (Hno.out (Or.inl hi1))
        go_wp2_with fail
        refine (inside_any v1 (-1000) 1000 _).mono ?_; rintro e w9 ⟨rfl, rfl⟩
        rw [hi1]
        clear hi1
        have r0 := HR3.out.cell 0
        have r1 := HR3.out.cell 1
        simp at r0 r1
        have rl := HR3.out.lt
        have rf := HR3.out.frozen
        go_wp2
        clear r0 r1 rf
        have HR6 := HR3.out.set2 (b0 := .int .i64 0) (b1 := .int .i64 0)
        have k0 := HR6.cell 0
        have k1 := HR6.cell 1
        simp at k0 k1
        exact bodyPost_ret (v := .tuple #[.agg #[.int .i64 0, .int .i64 0], .bool false]) (by simp [results, Tryd.results16, go_sem, k0, k1]) rfl ⟨PaP.no HN.out, bst (bst Hb3.out (Nat.le_refl _) _) (Nat.le_refl _) _⟩
      · have hb1 := insB_true hi1
        cases hi2 : insB v2 (-10000) 10000
        · have HN := Lib.hid (Hno.out (Or.inr (Or.inl hi2)))
          go_wp2_with fail
          refine (inside_any v1 (-1000) 1000 _).mono ?_; rintro e w9 ⟨rfl, rfl⟩
          rw [hi1]
          go_wp2_with fail
          refine (inside_any v2 (-10000) 10000 _).mono ?_; rintro e w9 ⟨rfl, rfl⟩
          rw [hi2]
          clear hi1 hi2 hb1
          have r0 := HR3.out.cell 0
          have r1 := HR3.out.cell 1
          simp at r0 r1
          have rl := HR3.out.lt
          have rf := HR3.out.frozen
          go_wp2
          clear r0 r1 rf
          have HR6 := HR3.out.set2 (b0 := .int .i64 0) (b1 := .int .i64 0)
          have k0 := HR6.cell 0
          have k1 := HR6.cell 1
          simp at k0 k1
          exact bodyPost_ret (v := .tuple #[.agg #[.int .i64 0, .int .i64 0], .bool false]) (by simp [results, Tryd.results16, go_sem, k0, k1]) rfl ⟨PaP.no HN.out, bst (bst Hb3.out (Nat.le_refl _) _) (Nat.le_refl _) _⟩
        · have hb2 := insB_true hi2
          go_wp2_with fail
          refine (inside_any v1 (-1000) 1000 _).mono ?_; rintro e w9 ⟨rfl, rfl⟩
          rw [hi1]
          go_wp2_with fail
          refine (inside_any v2 (-10000) 10000 _).mono ?_; rintro e w9 ⟨rfl, rfl⟩
          rw [hi2]
          go_wp2_with fail
          have Hb1 := Lib.hid hb1; have Hb2 := Lib.hid hb2; clear hi1 hi2 hb1 hb2
          refine (numbersText_any (.slice (some ⟨w3.heap.size, 0, none⟩) 2 2) [v1, v2] _ (rd_ints w3 3 [v1, v2] (by simp)) (by simp) (by
            intro j hj
            rw [inS_get hj]
            have h6 : [v1, v2][j] ∈ [v1, v2] := List.getElem_mem hj
            generalize [v1, v2][j] = y at h6
            simp at h6
            have := Hb1.out; have := Hb2.out
            omega) (He3.out.on (bal (Below.refl _ _) _)).tab).mono ?_; rintro e w4 ⟨rfl, hb4⟩
          have HR4 := Lib.hid ((HR3.out.alloc (Obj.cells #[.int .i64 v1, .int .i64 v2] 3)).on hb4); have Hb4 := Lib.hid (bthen (bal Hb3.out (Obj.cells #[.int .i64 v1, .int .i64 v2] 3)) hb4); clear hb4
          by_cases htx : nText [v1, v2] = s
          · have hq : ((nText [v1, v2]).toList == s.toList) = true := by rw [htx]; simp
            cases hcv : curveB v1 v2
            · have HN := Lib.hid (Hno.out (Or.inr (Or.inr (Or.inl hcv))))
              clear htx
              go_wp2_with fail
              refine (curveResult_no v1 v2 _ hcv).mono ?_; rintro e w5 ⟨rfl, hb5⟩
              clear hcv
              have HR5 := Lib.hid (HR4.out.on hb5); have Hb5 := Lib.hid (bthen Hb4.out hb5); clear hb5
              have r0 := HR5.out.cell 0
              have r1 := HR5.out.cell 1
              simp at r0 r1
              have rl := HR5.out.lt
              have rf := HR5.out.frozen
              go_wp2
              clear r0 r1 rf
              have HR6 := HR5.out.set2 (b0 := .int .i64 0) (b1 := .int .i64 0)
              have k0 := HR6.cell 0
              have k1 := HR6.cell 1
              simp at k0 k1
              exact bodyPost_ret (v := .tuple #[.agg #[.int .i64 0, .int .i64 0], .bool false]) (by simp [results, Tryd.results16, go_sem, k0, k1]) rfl ⟨PaP.no HN.out, bst (bst Hb5.out (Nat.le_refl _) _) (Nat.le_refl _) _⟩
            · have HN := Lib.hid (PaP.yes (show paC s.data.toList = some (v1, v2) by rw [← htx]; exact paC_text hcv))
              clear htx
              go_wp2_with fail
              refine (curveResult_yes v1 v2 _ hcv).mono ?_; rintro e w5 ⟨rfl, hb5⟩
              clear hcv
              have HR5 := Lib.hid (HR4.out.on hb5); have Hb5 := Lib.hid (bthen Hb4.out hb5); clear hb5
              have r0 := HR5.out.cell 0
              have r1 := HR5.out.cell 1
              simp at r0 r1
              have rl := HR5.out.lt
              have rf := HR5.out.frozen
              go_wp2
              clear r0 r1 rf
              have HR6 := HR5.out.set2 (b0 := .int .i64 v1) (b1 := .int .i64 v2)
              have k0 := HR6.cell 0
              have k1 := HR6.cell 1
              simp at k0 k1
              exact bodyPost_ret (v := .tuple #[.agg #[.int .i64 v1, .int .i64 v2], .bool true]) (by simp [results, Tryd.results16, go_sem, k0, k1]) rfl ⟨HN.out, bst (bst Hb5.out (Nat.le_refl _) _) (Nat.le_refl _) _⟩
          · have HN := Lib.hid (Hno.out (Or.inr (Or.inr (Or.inr (fun e => htx (by rw [e]))))))
            have hq : ((nText [v1, v2]).toList == s.toList) = false := beq_eq_false_iff_ne.2 (fun e => htx (bytes_inj e))
            clear htx
            have r0 := HR4.out.cell 0
            have r1 := HR4.out.cell 1
            simp at r0 r1
            have rl := HR4.out.lt
            have rf := HR4.out.frozen
            go_wp2
            clear r0 r1 rf
            have HR6 := HR4.out.set2 (b0 := .int .i64 0) (b1 := .int .i64 0)
            have k0 := HR6.cell 0
            have k1 := HR6.cell 1
            simp at k0 k1
            exact bodyPost_ret (v := .tuple #[.agg #[.int .i64 0, .int .i64 0], .bool false]) (by simp [results, Tryd.results16, go_sem, k0, k1]) rfl ⟨PaP.no HN.out, bst (bst Hb4.out (Nat.le_refl _) _) (Nat.le_refl _) _⟩
    · have HN := Lib.hid (Hn2.out hno2)
      clear hno2
      have r0 := HR3.out.cell 0
      have r1 := HR3.out.cell 1
      simp at r0 r1
      have rl := HR3.out.lt
      have rf := HR3.out.frozen
      go_wp2
      clear r0 r1 rf
      have HR6 := HR3.out.set2 (b0 := .int .i64 0) (b1 := .int .i64 0)
      have k0 := HR6.cell 0
      have k1 := HR6.cell 1
      simp at k0 k1
      exact bodyPost_ret (v := .tuple #[.agg #[.int .i64 0, .int .i64 0], .bool false]) (by simp [results, Tryd.results16, go_sem, k0, k1]) rfl ⟨PaP.no HN.out, bst (bst Hb3.out (Nat.le_refl _) _) (Nat.le_refl _) _⟩
  · have HN := Lib.hid (Hn1.out hno1)
    clear hno1
    go_wp2_with fail
    refine (Hat2.out _ He2.out).mono ?_; rintro e w3 ⟨hat2, hb3⟩
    have HR3 := Lib.hid (HR2.out.on hb3); have He3 := Lib.hid (He2.out.on hb3); have Hb3 := Lib.hid (bthen Hb2.out hb3); clear hb3
    rcases hat2 with ⟨v2, hv2, l2, u2, rfl⟩ | ⟨hno2, v2, t2, N2, rfl⟩
    · skip
      have r0 := HR3.out.cell 0
      have r1 := HR3.out.cell 1
      simp at r0 r1
      have rl := HR3.out.lt
      have rf := HR3.out.frozen
      go_wp2
      clear r0 r1 rf
      have HR6 := HR3.out.set2 (b0 := .int .i64 0) (b1 := .int .i64 0)
      have k0 := HR6.cell 0
      have k1 := HR6.cell 1
      simp at k0 k1
      exact bodyPost_ret (v := .tuple #[.agg #[.int .i64 0, .int .i64 0], .bool false]) (by simp [results, Tryd.results16, go_sem, k0, k1]) rfl ⟨PaP.no HN.out, bst (bst Hb3.out (Nat.le_refl _) _) (Nat.le_refl _) _⟩
    · skip
      have r0 := HR3.out.cell 0
      have r1 := HR3.out.cell 1
      simp at r0 r1
      have rl := HR3.out.lt
      have rf := HR3.out.frozen
      go_wp2
      clear r0 r1 rf
      have HR6 := HR3.out.set2 (b0 := .int .i64 0) (b1 := .int .i64 0)
      have k0 := HR6.cell 0
      have k1 := HR6.cell 1
      simp at k0 k1
      exact bodyPost_ret (v := .tuple #[.agg #[.int .i64 0, .int .i64 0], .bool false]) (by simp [results, Tryd.results16, go_sem, k0, k1]) rfl ⟨PaP.no HN.out, bst (bst Hb3.out (Nat.le_refl _) _) (Nat.le_refl _) _⟩
end Go.Proofs.YticbmpjdcanjkaaDoor
