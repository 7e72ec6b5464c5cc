/- One record for each curve: the walks of both. Conditions: the list's length. -/
import Derived.Test.YtimfoodbolokdaaGreatDoorBest
namespace Go.Proofs.YtimfoodbolokdaaGreatDoor
open Go Go.RowKit
theorem bestV_some {all l : List Rc} (h : bestO all = some l) : bestV all = (l, true) := by unfold bestV; rw [h]
theorem bestV_none {all : List Rc} (h : bestO all = none) : bestV all = ([], false) := by unfold bestV; rw [h]
theorem get_mem {es : List Rc} {k : Nat} (h : k < es.length) : rcS.get es k ∈ es := by
  unfold Shape.get; rw [List.getD_eq_getElem?_getD, List.getElem?_eq_getElem h]; exact List.getElem_mem h
set_option linter.unusedSimpArgs false in
set_option maxRecDepth 8000 in
set_option maxHeartbeats 4000000 in
theorem bestRecords_any (v : Value) (es : List Rc) (w : World) (hr : Rd rcS w w.heap.size v es) (hlen : es.length ≤ 1000) : Calls Tryz.prog 144 #[v] w fun e w' => (∃ v' : Value, e = .returned (.tuple #[v', .bool (bestV es).2]) ∧ w'.ownsRow w.heap.size 78 4 v' (bestV es).1.length (rcS.flat (bestV es).1)) ∧ Below w.heap.size w w' := by
  obtain ⟨i0, hi, hz0, hz1, hz2⟩ := info_parts infoRecord
  have Hr := Lib.hid hr
  obtain ⟨A, c, rfl, hc, hm, hA⟩ := hr
  unfold maxLen at hm
  rcases Nat.eq_zero_or_pos es.length with h0 | h0
  · obtain rfl : es = [] := List.eq_nil_of_length_eq_zero h0
    clear hA h0
    go_enter Tryz.func144, Tryz.ntmps144
    go_wp2
    refine wp_loop_rounds 1 ?_
    rw [rounds_succ]
    go_wp2
    go_ret2
    exact ⟨⟨_, rfl, rfl, Or.inl ⟨rfl, rfl⟩⟩, Below.refl _ _⟩
  · obtain ⟨g, off, rfl, hg, hcell⟩ := hA h0
    clear hA h0
    have Hcell := Lib.hid (rc_cells hcell); clear hcell
    go_enter Tryz.func144, Tryz.ntmps144
    go_wp2
    go_loopw [12, 4] (fun i o wr => ∃ (k : Nat) (acc : List Rc), k ≤ es.length ∧ i = .int .i64 k ∧ acc.length ≤ k ∧ Hid (bestO es = bestL es (es.drop k) acc) ∧ Hid (Inv es acc) ∧ Below w.heap.size w wr ∧ Hid (wr.ownsRow w.heap.size 78 4 o acc.length (rcS.flat acc))) (fun i _ _ => es.length - (intOf i).toNat)
    case atStart => exact ⟨0, [], Nat.zero_le _, rfl, Nat.le_refl _, Lib.hid rfl, Lib.hid (Inv.nil _), Below.refl _ _, Lib.hid ⟨rfl, Or.inl ⟨rfl, rfl⟩⟩⟩
    case round =>
      obtain ⟨k, acc, hk, rfl, hak, Ho, Hi, hb, Hown⟩ := hrel
      obtain ⟨A9, c9, rfl⟩ := own_form Hown.out
      by_cases hlt : k < es.length
      · obtain ⟨f0, f1, f2, f3⟩ := Hcell.out k hlt
        rw [← hb.cell (p := ⟨_, _, _⟩) hg] at f0 f1 f2 f3
        have Hhave := Lib.hid (fun h => bestL_have (all := es) (acc := acc) hlt h)
        have Hnews := Lib.hid (fun h hb => bestL_new (all := es) (acc := acc) hlt h hb)
        have Hstop := Lib.hid (fun h hb => bestL_stop (all := es) (acc := acc) hlt h hb)
        generalize rcS.get es k = x at f0 f1 f2 f3 Hhave Hnews Hstop
        have hgr : g < wr.heap.size := Nat.lt_of_lt_of_le hg hb.size
        have hi0 : (0 : Int) ≤ (k : Int) := by omega
        have hi1 : (k : Int) < (es.length : Int) := by omega
        have HN := Lib.hid (Blk.new wr 78 #[.int .i64 x.a, .int .i64 x.b, .int .i64 x.lo, .int .i64 x.hi])
        have hbA := bal (Below.refl wr.heap.size wr) (Obj.cells #[.int .i64 x.a, .int .i64 x.b, .int .i64 x.lo, .int .i64 x.hi] 78)
        have HownA := Lib.hid (Hown.out.alloc (Obj.cells #[.int .i64 x.a, .int .i64 x.b, .int .i64 x.lo, .int .i64 x.hi] 78))
        have HrA := Lib.hid (Hr.out.on (bthen hb hbA))
        have HbA := Lib.hid (bthen hb hbA); clear hbA
        go_wp2_with fail
        refine (containsFunc_rc acc _ x.a x.b x.lo x.hi wr.heap.size _ (Rd.of_own (S := rcS) HownA.out rfl) HN.out).mono ?_; rintro e w1 ⟨rfl, hb1⟩
        clear f0 f1 f2 f3
        have HN1 := Lib.hid (HN.out.on hb1); have Hown1 := Lib.hid (own_below HownA.out hb1); have Hr1 := Lib.hid (HrA.out.on hb1); have Hb1 := Lib.hid (bthen HbA.out hb1); clear hb1
        cases hany : acc.any (sameC x.a x.b)
        · have q0 := HN1.out.cell 0
          have q1 := HN1.out.cell 1
          have ql := HN1.out.lt
          simp at q0 q1
          go_wp2_with fail
          refine (boundsIn_any _ es x.a x.b _ Hr1.out).mono ?_; rintro e w2 ⟨rfl, hb2⟩
          clear q0 q1 ql
          have HN2 := Lib.hid (HN1.out.on hb2); have Hown2 := Lib.hid (own_below Hown1.out hb2); have Hb2 := Lib.hid (bthen Hb1.out hb2); clear hb2
          have Hnews2 := Lib.hid (Hnews.out hany); have Hstop2 := Lib.hid (Hstop.out hany)
          have Hsn := Lib.hid (fun hb => Inv.snoc (a := x.a) (b := x.b) Hi.out hb)
          clear hany
          generalize bndV x.a x.b es = bv at Hnews2 Hstop2 Hsn ⊢
          obtain ⟨l, h, ok⟩ := bv
          simp only at Hnews2 Hstop2 Hsn
          have q0 := HN2.out.cell 0
          have q1 := HN2.out.cell 1
          have ql := HN2.out.lt
          simp at q0 q1
          cases ok
          · have Hfin := Lib.hid (bestV_none (all := es) (by rw [Ho.out]; exact Hstop2.out rfl))
            go_wp2
            go_ret2
            exact ⟨⟨_, by rw [Hfin.out] <;> rfl, by rw [Hfin.out]; exact ⟨rfl, Or.inl ⟨rfl, rfl⟩⟩⟩, Hb2.out⟩
          · have Hnew := Lib.hid (show bestO es = bestL es (es.drop (k + 1)) (acc ++ [(⟨x.a, x.b, l, h⟩ : Rc)]) by rw [Ho.out]; exact Hnews2.out (by first | rfl | trivial))
            have Hinv := Lib.hid (Hsn.out (by first | rfl | trivial))
            go_wp2_with (at_builtin; refine wpList_append_own _ rfl _ _ 83 rfl w.heap.size 78 i0 (.agg #[.int .i64 0, .int .i64 0, .int .i64 0, .int .i64 0]) 4 32 Tryz.underlying83 hi hz0 hz1 hz2 rfl (by decide) _ _ _ rfl (Hown2.out.alloc _) ⟨w2.heap.size, 0, none⟩ 1 1 (rcS.flat [(⟨x.a, x.b, l, h⟩ : Rc)]) rfl rfl ?c1 ?c2 ?c3 ?c4 ?c5 ?_)
            case c1 =>
              intro j u hj
              rw [rc4] at hj
              match j, hj with
              | 0, hj => simp at hj; subst hj; simp [Addr.add]
              | 1, hj => simp at hj; subst hj; simp [Addr.add]
              | 2, hj => simp at hj; subst hj; simp [Addr.add]
              | 3, hj => simp at hj; subst hj; simp [Addr.add]
            case c2 => intro u hu; rw [rc4] at hu; simp at hu; rcases hu with rfl | rfl | rfl | rfl <;> rfl
            case c3 => unfold maxLen; omega
            case c4 => omega
            case c5 => have := Hb2.out.size; simp; omega
            intro v' w3 hown' hgrow _
            have hbn : Below w.heap.size w w3 := Below.grown (bal Hb2.out _) hgrow (by have := Hb2.out.size; simp; omega) (fun j hj => (Hown2.out.lt j hj).1)
            have Hown' := Lib.hid (show w3.ownsRow w.heap.size 78 4 v' (acc ++ [(⟨x.a, x.b, l, h⟩ : Rc)]).length (rcS.flat (acc ++ [(⟨x.a, x.b, l, h⟩ : Rc)])) by rw [Shape.flat_append, List.length_append]; exact hown')
            clear hown' hgrow
            go_wp2
            go_roundw
            case rel => exact ⟨k + 1, acc ++ [(⟨x.a, x.b, l, h⟩ : Rc)], by omega, by go_num, by rw [List.length_append, List.length_singleton]; omega, Hnew, Hinv, hbn, Hown'⟩
            case measure => simp [intOf]; omega
        · have Hnew := Lib.hid (show bestO es = bestL es (es.drop (k + 1)) acc by rw [Ho.out]; exact Hhave.out hany)
          clear hany
          go_wp2
          go_roundw
          case rel => exact ⟨k + 1, acc, by omega, by go_num, by omega, Hnew, Hi, Hb1.out, Hown1⟩
          case measure => simp [intOf]; omega
      · obtain rfl : k = es.length := by omega
        have Hfin := Lib.hid (bestV_some (all := es) (l := acc) (by rw [Ho.out, List.drop_eq_nil_of_le (Nat.le_refl _)]; rfl))
        go_wp2
        go_ret2
        exact ⟨⟨_, by rw [Hfin.out] <;> rfl, by rw [Hfin.out]; exact Hown.out⟩, hb⟩
set_option linter.unusedSimpArgs false in
set_option maxRecDepth 8000 in
set_option maxHeartbeats 4000000 in
theorem jrShorter_any (v : Value) (es : List Rc) (w : World) (hr : Rd rcS w w.heap.size v es) (hlen : es.length ≤ 1000) : Calls Tryz.prog 145 #[v] w fun e w' => (∃ v' : Value, e = .returned (.tuple #[v', .bool (bestV es).2]) ∧ w'.ownsRow w.heap.size 78 4 v' (bestV es).1.length (rcS.flat (bestV es).1)) ∧ Below w.heap.size w w' := by
  obtain ⟨i0, hi, hz0, hz1, hz2⟩ := info_parts infoRecord
  have Hr := Lib.hid hr
  obtain ⟨A, c, rfl, hc, hm, hA⟩ := hr
  unfold maxLen at hm
  rcases Nat.eq_zero_or_pos es.length with h0 | h0
  · obtain rfl : es = [] := List.eq_nil_of_length_eq_zero h0
    clear hA h0
    go_enter Tryz.func145, Tryz.ntmps145
    go_wp2
    refine wp_loop_rounds 1 ?_
    rw [rounds_succ]
    go_wp2
    go_ret2
    exact ⟨⟨_, rfl, rfl, Or.inl ⟨rfl, rfl⟩⟩, Below.refl _ _⟩
  · obtain ⟨g, off, rfl, hg, hcell⟩ := hA h0
    clear hA h0
    have Hcell := Lib.hid (rc_cells hcell); clear hcell
    go_enter Tryz.func145, Tryz.ntmps145
    go_wp2
    go_loopw [15, 4] (fun i o wr => ∃ (k : Nat) (acc : List Rc), k ≤ es.length ∧ i = .int .i64 k ∧ acc.length ≤ k ∧ Hid (bestO es = bestL es (es.drop k) acc) ∧ Hid (Inv es acc) ∧ Below w.heap.size w wr ∧ Hid (wr.ownsRow w.heap.size 78 4 o acc.length (rcS.flat acc))) (fun i _ _ => es.length - (intOf i).toNat)
    case atStart => exact ⟨0, [], Nat.zero_le _, rfl, Nat.le_refl _, Lib.hid rfl, Lib.hid (Inv.nil _), Below.refl _ _, Lib.hid ⟨rfl, Or.inl ⟨rfl, rfl⟩⟩⟩
    case round =>
      obtain ⟨k, acc, hk, rfl, hak, Ho, Hi, hb, Hown⟩ := hrel
      obtain ⟨A9, c9, rfl⟩ := own_form Hown.out
      by_cases hlt : k < es.length
      · obtain ⟨f0, f1, f2, f3⟩ := Hcell.out k hlt
        rw [← hb.cell (p := ⟨_, _, _⟩) hg] at f0 f1 f2 f3
        have Hhave := Lib.hid (fun h => bestL_have (all := es) (acc := acc) hlt h)
        have Hnews := Lib.hid (fun h hb => bestL_new (all := es) (acc := acc) hlt h hb)
        have Hstop := Lib.hid (fun h hb => bestL_stop (all := es) (acc := acc) hlt h hb)
        generalize rcS.get es k = x at f0 f1 f2 f3 Hhave Hnews Hstop
        have hgr : g < wr.heap.size := Nat.lt_of_lt_of_le hg hb.size
        have hi0 : (0 : Int) ≤ (k : Int) := by omega
        have hi1 : (k : Int) < (es.length : Int) := by omega
        have HN := Lib.hid (Blk.new wr 78 #[.int .i64 x.a, .int .i64 x.b, .int .i64 x.lo, .int .i64 x.hi])
        have hbA := bal (Below.refl wr.heap.size wr) (Obj.cells #[.int .i64 x.a, .int .i64 x.b, .int .i64 x.lo, .int .i64 x.hi] 78)
        have HownA := Lib.hid (Hown.out.alloc (Obj.cells #[.int .i64 x.a, .int .i64 x.b, .int .i64 x.lo, .int .i64 x.hi] 78))
        have HrA := Lib.hid (Hr.out.on (bthen hb hbA))
        have HbA := Lib.hid (bthen hb hbA); clear hbA
        have q0 := HN.out.cell 0
        have q1 := HN.out.cell 1
        simp at q0 q1
        go_wp2_with fail
        refine (jrBounds_any _ es x.a x.b _ HrA.out).mono ?_; rintro e w1 ⟨rfl, hb1⟩
        clear f0 f1 f2 f3 q0 q1
        have HN1 := Lib.hid (HN.out.on hb1); have Hown1 := Lib.hid (own_below HownA.out hb1); have Hb1 := Lib.hid (bthen HbA.out hb1); clear hb1
        have Hacc := Lib.hid (fun hb => bndV_acc (a := x.a) (b := x.b) Hi.out hb)
        have Hai := Lib.hid (fun h => any_inv (a := x.a) (b := x.b) Hi.out h)
        have Hsn := Lib.hid (fun hb => Inv.snoc (a := x.a) (b := x.b) Hi.out hb)
        generalize bndV x.a x.b es = bv at Hnews Hstop Hsn Hacc Hai ⊢
        obtain ⟨l, h, ok⟩ := bv
        simp only at Hnews Hstop Hsn Hacc Hai
        have q0 := HN1.out.cell 0
        have q1 := HN1.out.cell 1
        have ql := HN1.out.lt
        simp at q0 q1
        cases ok
        · have hany : acc.any (sameC x.a x.b) = false := by
            cases ha : acc.any (sameC x.a x.b) with
            | false => rfl
            | true => have := Hai.out ha; cases this
          have Hfin := Lib.hid (bestV_none (all := es) (by rw [Ho.out]; exact Hstop.out hany rfl))
          clear hany
          go_wp2
          go_ret2
          exact ⟨⟨_, by rw [Hfin.out] <;> rfl, by rw [Hfin.out]; exact ⟨rfl, Or.inl ⟨rfl, rfl⟩⟩⟩, Hb1.out⟩
        · have Hac := Lib.hid (Hacc.out rfl)
          go_wp2_with fail
          refine (jrBounds_any _ acc x.a x.b _ (Rd.of_own (S := rcS) Hown1.out rfl)).mono ?_; rintro e w2 ⟨rfl, hb2⟩
          rw [Hac.out]
          clear q0 q1 ql
          have HN2 := Lib.hid (HN1.out.on hb2); have Hown2 := Lib.hid (own_below Hown1.out hb2); have Hb2 := Lib.hid (bthen Hb1.out hb2); clear hb2
          have q0 := HN2.out.cell 0
          have q1 := HN2.out.cell 1
          have ql := HN2.out.lt
          simp at q0 q1
          cases hany : acc.any (sameC x.a x.b)
          · have Hnew := Lib.hid (show bestO es = bestL es (es.drop (k + 1)) (acc ++ [(⟨x.a, x.b, l, h⟩ : Rc)]) by rw [Ho.out]; exact Hnews.out hany (by first | rfl | trivial))
            have Hinv := Lib.hid (Hsn.out (by first | rfl | trivial))
            clear hany
            go_wp2_with (at_builtin; refine wpList_append_own _ rfl _ _ 83 rfl w.heap.size 78 i0 (.agg #[.int .i64 0, .int .i64 0, .int .i64 0, .int .i64 0]) 4 32 Tryz.underlying83 hi hz0 hz1 hz2 rfl (by decide) _ _ _ rfl (Hown2.out.alloc _) ⟨w2.heap.size, 0, none⟩ 1 1 (rcS.flat [(⟨x.a, x.b, l, h⟩ : Rc)]) rfl rfl ?c1 ?c2 ?c3 ?c4 ?c5 ?_)
            case c1 =>
              intro j u hj
              rw [rc4] at hj
              match j, hj with
              | 0, hj => simp at hj; subst hj; simp [Addr.add]
              | 1, hj => simp at hj; subst hj; simp [Addr.add]
              | 2, hj => simp at hj; subst hj; simp [Addr.add]
              | 3, hj => simp at hj; subst hj; simp [Addr.add]
            case c2 => intro u hu; rw [rc4] at hu; simp at hu; rcases hu with rfl | rfl | rfl | rfl <;> rfl
            case c3 => unfold maxLen; omega
            case c4 => omega
            case c5 => have := Hb2.out.size; simp; omega
            intro v' w3 hown' hgrow _
            have hbn : Below w.heap.size w w3 := Below.grown (bal Hb2.out _) hgrow (by have := Hb2.out.size; simp; omega) (fun j hj => (Hown2.out.lt j hj).1)
            have Hown' := Lib.hid (show w3.ownsRow w.heap.size 78 4 v' (acc ++ [(⟨x.a, x.b, l, h⟩ : Rc)]).length (rcS.flat (acc ++ [(⟨x.a, x.b, l, h⟩ : Rc)])) by rw [Shape.flat_append, List.length_append]; exact hown')
            clear hown' hgrow
            go_wp2
            go_roundw
            case rel => exact ⟨k + 1, acc ++ [(⟨x.a, x.b, l, h⟩ : Rc)], by omega, by go_num, by rw [List.length_append, List.length_singleton]; omega, Hnew, Hinv, hbn, Hown'⟩
            case measure => simp [intOf]; omega
          · have Hnew := Lib.hid (show bestO es = bestL es (es.drop (k + 1)) acc by rw [Ho.out]; exact Hhave.out hany)
            clear hany
            go_wp2
            go_roundw
            case rel => exact ⟨k + 1, acc, by omega, by go_num, by omega, Hnew, Hi, Hb2.out, Hown2⟩
            case measure => simp [intOf]; omega
      · obtain rfl : k = es.length := by omega
        have Hfin := Lib.hid (bestV_some (all := es) (l := acc) (by rw [Ho.out, List.drop_eq_nil_of_le (Nat.le_refl _)]; rfl))
        go_wp2
        go_ret2
        exact ⟨⟨_, by rw [Hfin.out] <;> rfl, by rw [Hfin.out]; exact Hown.out⟩, hb⟩
end Go.Proofs.YtimfoodbolokdaaGreatDoor
