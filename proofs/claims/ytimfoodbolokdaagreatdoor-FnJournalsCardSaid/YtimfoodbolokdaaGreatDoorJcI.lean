/- The walk of the program's JournalCatalogue. Conditions: the journal's size; Env. Printed by gen_jc.py. -/
import Derived.Test.YtimfoodbolokdaaGreatDoorJcL
import Derived.Test.YtimfoodbolokdaaGreatDoorComp
import Derived.Test.YtimfoodbolokdaaGreatDoorSortR
import Derived.Test.YtimfoodbolokdaaGreatDoorEtM2
namespace Go.Proofs.YtimfoodbolokdaaGreatDoor
open Go Go.RowKit
set_option linter.unusedSimpArgs false in
set_option maxRecDepth 8000 in
set_option maxHeartbeats 4000000 in
theorem implJc_any (D P : ByteArray) (w : World) (h : JB D P) (he : Env w) : Calls Tryz.prog 62 #[.agg #[.string D, .string P]] w fun e w' => (∃ v : Value, e = .returned (.tuple #[v, .bool (jcV D P).2]) ∧ w'.ownsRow w.heap.size 29 5 v (jcV D P).1.length (enS.flat (jcV D P).1)) ∧ Below w.heap.size w w' := by
  have hd := h.d; have hp := h.p
  have hbx := bal (Below.refl w.heap.size w) (Obj.cells #[.string D, .string P] 76)
  have He := Lib.hid (he.on hbx); clear he
  have HX := Lib.hid (Blk.new w 76 #[.string D, .string P])
  have Hbx := Lib.hid hbx; clear hbx
  have hrl := jrV_len D P
  obtain ⟨i0, hi, hz0, hz1, hz2⟩ := info_parts infoEn2
  go_enter Tryz.func62, Tryz.ntmps62
  go_wp2_with fail
  refine (recordsOf_any D P _ (by omega) (by omega) He.out).mono ?_; rintro e w1 ⟨⟨v, rfl, hown⟩, hb1⟩
  have Hown := Lib.hid (Rd.of_own (S := rcS) hown rfl)
  obtain ⟨A1, c1, rfl⟩ := own_form hown
  clear hown
  have Hb1 := Lib.hid (bthen Hbx.out hb1); clear hb1
  cases hok : jrOk D P
  · have Hno := Lib.hid (jcV_no (D := D) (P := P) (by unfold jcB; rw [hok]; rfl))
    clear hok
    go_wp2
    go_ret2
    exact ⟨⟨_, by rw [Hno.out] <;> rfl, by rw [Hno.out]; exact ⟨rfl, Or.inl ⟨rfl, rfl⟩⟩⟩, Hb1.out⟩
  · skip
    go_wp2_with fail
    refine (bestRecords_any _ (jrV D P) _ Hown.out (by omega)).mono ?_; rintro e w2 ⟨⟨v2, rfl, hown2⟩, hb2⟩
    have Hb2 := Lib.hid (bthen Hb1.out hb2)
    clear hb2
    have hbok := bestV_ok (jrV_rok D P)
    have Hval := Lib.hid hbok.1
    have Hdst := Lib.hid (bestV_dst (jrV D P))
    have hbl : (bestV (jrV D P)).1.length ≤ 30 := Nat.le_trans hbok.2 hrl
    clear hbok hrl
    have Hjb := Lib.hid (show jcB D P = ((bestV (jrV D P)).2 && catB (jcZ ((bestV (jrV D P)).1.map enR))) by unfold jcB; rw [hok, Bool.true_and])
    have Hye := Lib.hid (fun h => jcV_yes (D := D) (P := P) h)
    have Hnn := Lib.hid (fun h => jcV_no (D := D) (P := P) h)
    clear hok
    generalize bestV (jrV D P) = bv at Hval Hdst hbl Hjb Hye hown2 ⊢
    obtain ⟨l, ok⟩ := bv
    simp only at Hval Hdst hbl Hjb Hye hown2
    obtain ⟨A2, c2, rfl⟩ := own_form hown2
    have Hown2 := Lib.hid hown2; clear hown2
    cases ok
    · have Hno := Lib.hid (Hnn.out (by rw [Hjb.out]; rfl))
      go_wp2
      go_ret2
      exact ⟨⟨_, by rw [Hno.out] <;> rfl, by rw [Hno.out]; exact ⟨rfl, Or.inl ⟨rfl, rfl⟩⟩⟩, Hb2.out⟩
    · have Hjb2 := Lib.hid (show jcB D P = catB (jcZ (l.map enR)) by rw [Hjb.out, Bool.true_and])
      have Hent := Lib.hid (show ∀ x ∈ l.map enR, entE x = true from fun x hx => by obtain ⟨r, hr, rfl⟩ := List.mem_map.1 hx; exact enR_ent (Hval.out r hr))
      have Hsp := Lib.hid (jcZ_spec (map_dE Hdst.out) Hent.out)
      have Hrd := Lib.hid (Rd.of_own (S := rcS) Hown2.out rfl)
      clear Hjb
      obtain ⟨Ar, cr, hAr, hcr, hmr, hAA⟩ := Hrd.out
      cases hAr
      unfold maxLen at hmr
      have Hs2 := Lib.hid (Hb2.out.size)
      rcases Nat.eq_zero_or_pos l.length with h0 | h0
      · obtain rfl : l = [] := List.eq_nil_of_length_eq_zero h0
        clear hAA h0
        have Hz0 := Lib.hid (show w2.ownsRow w2.heap.size 29 5 (.slice none 0 0) (([] : List Rc).map enR).length (enS.flat (([] : List Rc).map enR)) from ⟨rfl, Or.inl ⟨rfl, rfl⟩⟩)
        go_wp2
        refine wp_loop_rounds 1 ?_
        rw [rounds_succ]
        go_wp2_with fail
        refine (sortEn_any w2.heap.size _ (([] : List Rc).map enR) _ Hz0.out (by simp)).mono ?_; rintro e w6 ⟨rfl, d, hp, hs, hown6, hb6⟩
        obtain rfl : d = jcZ (([] : List Rc).map enR) := jcZ_sorted (map_dE Hdst.out) Hent.out hp hs
        have hld : (jcZ (([] : List Rc).map enR)).length = 0 := hp.length_eq
        rw [hld] at hown6
        have Hown6 := Lib.hid hown6; clear hown6
        have Hb6 := Lib.hid (Hb2.out.trans (hb6.mono Hs2.out)); clear hb6 hp hs
        go_wp2_with fail
        refine (isCatalogue_any _ (jcZ (([] : List Rc).map enR)) _ (Rd.of_own Hown6.out hld.symm)).mono ?_; rintro e w7 ⟨rfl, hb7⟩
        have Hb7 := Lib.hid (bthen Hb6.out hb7); have Hown7 := Lib.hid (own_below Hown6.out hb7); clear hb7
        cases hcb : catB (jcZ (([] : List Rc).map enR))
        · have Hno := Lib.hid (Hnn.out (by rw [Hjb2.out, hcb]))
          clear hcb
          go_wp2
          go_ret2
          exact ⟨⟨_, by rw [Hno.out] <;> rfl, by rw [Hno.out]; exact ⟨rfl, Or.inl ⟨rfl, rfl⟩⟩⟩, Hb7.out⟩
        · have Hyy := Lib.hid (Hye.out (by rw [Hjb2.out, hcb]))
          clear hcb
          go_wp2
          go_ret2
          exact ⟨⟨_, by rw [Hyy.out] <;> rfl, by rw [Hyy.out]; exact own_mono (by rw [hld]; exact Hown7.out) Hs2.out⟩, Hb7.out⟩
      · obtain ⟨g, off, rfl, hgl, hcell⟩ := hAA h0
        clear hAA
        have Hcell := Lib.hid (rc_cells hcell); clear hcell
        go_wp2
        go_loopw [26, 7] (fun i o wr => ∃ (k : Nat), k ≤ l.length ∧ i = .int .i64 k ∧ Below w2.heap.size w2 wr ∧ Hid (wr.ownsRow w2.heap.size 29 5 o ((l.take k).map enR).length (enS.flat ((l.take k).map enR)))) (fun i _ _ => l.length - (intOf i).toNat)
        case atStart => exact ⟨0, Nat.zero_le _, rfl, Below.refl _ _, Lib.hid ⟨rfl, Or.inl ⟨rfl, rfl⟩⟩⟩
        case round =>
          obtain ⟨k, hk, rfl, hb, Hown⟩ := hrel
          by_cases hlt : k < l.length
          · obtain ⟨f0, f1, f2, f3⟩ := Hcell.out k hlt
            rw [← hb.cell (p := ⟨_, _, _⟩) hgl] at f0 f1 f2 f3
            have Htk := Lib.hid (show (l.take (k + 1)).map enR = (l.take k).map enR ++ [enR (rcS.get l k)] by rw [rc_take hlt, List.map_append]; rfl)
            have hgr : g < wr.heap.size := Nat.lt_of_lt_of_le hgl hb.size
            generalize rcS.get l k = x at f0 f1 f2 f3 Htk
            have hi0 : (0 : Int) ≤ (k : Int) := by omega
            have hi1 : (k : Int) < (l.length : Int) := by omega
            have hkl : ((l.take k).map enR).length = k := by rw [List.length_map, List.length_take]; omega
            generalize hys : (l.take k).map enR = ys at Hown Htk hkl
            clear hys
            have HbA := Lib.hid (show Below w2.heap.size w2 (wr.alloc (Obj.cells #[.int .i64 x.a, .int .i64 x.b, .int .i64 x.lo, .int .i64 x.hi] 78)) from bal hb _)
            have HownA := Lib.hid (Hown.out.alloc (Obj.cells #[.int .i64 x.a, .int .i64 x.b, .int .i64 x.lo, .int .i64 x.hi] 78))
            have Hw2 := Lib.hid hb.size
            go_wp2_with (at_builtin; refine wpList_append_own _ rfl _ _ 23 rfl w2.heap.size 29 i0 (.agg #[.int .i64 0, .int .i64 0, .int .i64 0, .int .i64 0, .int .i64 0]) 5 40 Tryz.underlying23 hi hz0 hz1 hz2 rfl (by decide) _ _ _ rfl (HownA.out.alloc _) ⟨wr.heap.size + 1, 0, none⟩ 1 1 (enS.flat [enR x]) rfl rfl ?c1 (en_one _) ?c3 ?c4 ?c5 ?_)
            case c1 =>
              intro j u hj
              rw [show enS.flat [enR x] = [.int .i64 x.a, .int .i64 x.b, .int .i64 x.lo, .int .i64 x.hi, .int .i64 0] from rfl] at hj
              match j, hj with
              | 0, hj => simp at hj; subst hj; simp [Addr.add]
              | 1, hj => simp at hj; subst hj; simp [Addr.add]
              | 2, hj => simp at hj; subst hj; simp [Addr.add]
              | 3, hj => simp at hj; subst hj; simp [Addr.add]
              | 4, hj => simp at hj; subst hj; simp [Addr.add]
            case c3 => unfold maxLen; omega
            case c4 => omega
            case c5 => have := Hw2.out; simp; omega
            intro v' w3 hown' hgrow _
            have hbn : Below w2.heap.size w2 w3 := Below.grown (bal HbA.out _) hgrow (by have := HbA.out.size; simp at this ⊢; omega) (fun j hj => (HownA.out.lt j hj).1)
            have Hown' := Lib.hid (show w3.ownsRow w2.heap.size 29 5 v' ((l.take (k + 1)).map enR).length (enS.flat ((l.take (k + 1)).map enR)) by rw [Htk.out, Shape.flat_append, List.length_append, hkl]; exact hown')
            clear hown' hgrow f0 f1 f2 f3
            go_wp2
            go_roundw
            case rel => exact ⟨k + 1, by omega, by go_num, hbn, Hown'⟩
            case measure => simp [intOf]; omega
          · obtain rfl : k = l.length := by omega
            have hd0 : decide (l.length < l.length) = false := decide_eq_false (by omega)
            rw [List.take_length] at Hown
            have hlm : (l.map enR).length = l.length := List.length_map ..
            have Hbr := Lib.hid (Hb2.out.trans (hb.mono Hs2.out))
            obtain ⟨A8, c8, rfl⟩ := own_form Hown.out
            rw [hlm] at Hown ⊢
            go_wp2_with fail
            refine (sortEn_any w2.heap.size (.slice A8 l.length c8) (l.map enR) _ (by rw [hlm]; exact Hown.out) (by omega)).mono ?_; rintro e w6 ⟨rfl, d, hp, hs, hown6, hb6⟩
            obtain rfl : d = jcZ (l.map enR) := jcZ_sorted (map_dE Hdst.out) Hent.out hp hs
            have hld : (jcZ (l.map enR)).length = l.length := hp.length_eq.trans hlm
            rw [hld] at hown6
            have Hown6 := Lib.hid hown6; clear hown6
            have Hb6 := Lib.hid (Hbr.out.trans (hb6.mono Hs2.out)); clear hb6 hp hs
            go_wp2_with fail
            refine (isCatalogue_any _ (jcZ (l.map enR)) _ (Rd.of_own Hown6.out hld.symm)).mono ?_; rintro e w7 ⟨rfl, hb7⟩
            have Hb7 := Lib.hid (bthen Hb6.out hb7); have Hown7 := Lib.hid (own_below Hown6.out hb7); clear hb7
            cases hcb : catB (jcZ (l.map enR))
            · have Hno := Lib.hid (Hnn.out (by rw [Hjb2.out, hcb]))
              clear hcb
              go_wp2
              go_ret2
              exact ⟨⟨_, by rw [Hno.out] <;> rfl, by rw [Hno.out]; exact ⟨rfl, Or.inl ⟨rfl, rfl⟩⟩⟩, Hb7.out⟩
            · have Hyy := Lib.hid (Hye.out (by rw [Hjb2.out, hcb]))
              clear hcb
              go_wp2
              go_ret2
              exact ⟨⟨_, by rw [Hyy.out] <;> rfl, by rw [Hyy.out]; exact own_mono (by rw [hld]; exact Hown7.out) Hs2.out⟩, Hb7.out⟩
end Go.Proofs.YtimfoodbolokdaaGreatDoor
