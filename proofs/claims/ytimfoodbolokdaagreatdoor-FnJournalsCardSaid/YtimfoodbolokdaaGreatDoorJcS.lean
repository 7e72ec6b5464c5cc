/- The walk of the reference's JournalCatalogue. Conditions: the journal's size. Printed by gen_jc.py. -/
import Derived.Test.YtimfoodbolokdaaGreatDoorJcL
import Derived.Test.YtimfoodbolokdaaGreatDoorComp
import Derived.Test.YtimfoodbolokdaaGreatDoorEtM3
namespace Go.Proofs.YtimfoodbolokdaaGreatDoor
open Go Go.RowKit
set_option linter.unusedSimpArgs false in
set_option maxRecDepth 8000 in
set_option maxHeartbeats 4000000 in
theorem specJc_any (D P : ByteArray) (w : World) (h : JB D P) : Calls Tryz.prog 63 #[.agg #[.string D, .string P]] w fun e w' => (∃ v : Value, e = .returned (.tuple #[v, .bool (jcV D P).2]) ∧ w'.ownsRow w.heap.size 29 5 v (jcV D P).1.length (enS.flat (jcV D P).1)) ∧ Below w.heap.size w w' := by
  have hd := h.d; have hp := h.p
  have hbx := bal (Below.refl w.heap.size w) (Obj.cells #[.string D, .string P] 76)
  have HX := Lib.hid (Blk.new w 76 #[.string D, .string P])
  have Hbx := Lib.hid hbx; clear hbx
  have hrl := jrV_len D P
  go_enter Tryz.func63, Tryz.ntmps63
  go_wp2_with fail
  refine (jrGood_any D P _ h).mono ?_; rintro e w1 ⟨rfl, hb1⟩
  have HX1 := Lib.hid (HX.out.on hb1); have Hb1 := Lib.hid (bthen Hbx.out hb1); clear hb1
  have q0 := HX1.out.cell 0
  have q1 := HX1.out.cell 1
  have ql := HX1.out.lt
  simp at q0 q1
  cases hok : jrOk D P
  · have Hno := Lib.hid (jcV_no (D := D) (P := P) (by unfold jcB; rw [hok]; rfl))
    clear hok
    go_wp2
    go_ret2
    exact ⟨⟨_, by rw [Hno.out] <;> rfl, by rw [Hno.out]; exact ⟨rfl, Or.inl ⟨rfl, rfl⟩⟩⟩, Hb1.out⟩
  · have Hall := Lib.hid (fun W => jrAll_any D P W h hok)
    rw [← jrV_ok hok] at Hall
    go_wp2_with fail
    refine (Hall.out _).mono ?_; rintro e w9 ⟨⟨v, rfl, hown⟩, hb9⟩
    have Hown := Lib.hid (Rd.of_own (S := rcS) hown rfl)
    obtain ⟨A1, c1, rfl⟩ := own_form hown
    clear hown q0 q1 ql
    have Hb9 := Lib.hid (bthen Hb1.out hb9); clear hb9
    go_wp2_with fail
    refine (jrShorter_any _ (jrV D P) _ Hown.out (by omega)).mono ?_; rintro e w2 ⟨⟨v2, rfl, hown2⟩, hb2⟩
    have Hb2 := Lib.hid (bthen Hb9.out hb2)
    clear hb2
    have hbok := bestV_ok (jrV_rok D P)
    have Hval := Lib.hid hbok.1
    have Hdst := Lib.hid (bestV_dst (jrV D P))
    have hbl : (bestV (jrV D P)).1.length ≤ 30 := Nat.le_trans hbok.2 hrl
    clear hbok hrl
    have Hjb := Lib.hid (show jcB D P = ((bestV (jrV D P)).2 && catB (jcZ ((bestV (jrV D P)).1.map enR))) by unfold jcB; rw [hok, Bool.true_and])
    have Hye := Lib.hid (fun h => jcV_yes (D := D) (P := P) h)
    have Hnn := Lib.hid (fun h => jcV_no (D := D) (P := P) h)
    clear hok
    generalize bestV (jrV D P) = bv at Hval Hdst hbl Hjb Hye hown2 ⊢
    obtain ⟨l, ok⟩ := bv
    simp only at Hval Hdst hbl Hjb Hye hown2
    obtain ⟨A2, c2, rfl⟩ := own_form hown2
    have Hown2 := Lib.hid hown2; clear hown2
    cases ok
    · have Hno := Lib.hid (Hnn.out (by rw [Hjb.out]; rfl))
      go_wp2
      go_ret2
      exact ⟨⟨_, by rw [Hno.out] <;> rfl, by rw [Hno.out]; exact ⟨rfl, Or.inl ⟨rfl, rfl⟩⟩⟩, Hb2.out⟩
    · have Hjb2 := Lib.hid (show jcB D P = catB (jcZ (l.map enR)) by rw [Hjb.out, Bool.true_and])
      have Hent := Lib.hid (show ∀ x ∈ l.map enR, entE x = true from fun x hx => by obtain ⟨r, hr, rfl⟩ := List.mem_map.1 hx; exact enR_ent (Hval.out r hr))
      have Hsp := Lib.hid (jcZ_spec (map_dE Hdst.out) Hent.out)
      have Hrd := Lib.hid (Rd.of_own (S := rcS) Hown2.out rfl)
      clear Hjb
      obtain ⟨Ar, cr, hAr, hcr, hmr, hAA⟩ := Hrd.out
      cases hAr
      unfold maxLen at hmr
      rcases Nat.eq_zero_or_pos l.length with h0 | h0
      · obtain rfl : l = [] := List.eq_nil_of_length_eq_zero h0
        clear hAA h0
        have Hz0 := Lib.hid (show w2.ownsRow w2.heap.size 29 5 (.slice none 0 0) (jcZ (([] : List Rc).map enR)).length (enS.flat (jcZ (([] : List Rc).map enR))) from ⟨rfl, Or.inl ⟨rfl, rfl⟩⟩)
        have Hs0 := Lib.hid (Hb2.out.size)
        go_wp2
        refine wp_loop_rounds 1 ?_
        rw [rounds_succ]
        go_wp2_with fail
        refine (caGood_any _ (jcZ (([] : List Rc).map enR)) _ (Rd.of_own Hz0.out rfl)).mono ?_; rintro e w7 ⟨rfl, hb7⟩
        have Hb7 := Lib.hid (bthen Hb2.out hb7); have Hown7 := Lib.hid (own_below Hz0.out hb7); clear hb7
        cases hcb : catB (jcZ (([] : List Rc).map enR))
        · have Hno := Lib.hid (Hnn.out (by rw [Hjb2.out, hcb]))
          clear hcb
          go_wp2
          go_ret2
          exact ⟨⟨_, by rw [Hno.out] <;> rfl, by rw [Hno.out]; exact ⟨rfl, Or.inl ⟨rfl, rfl⟩⟩⟩, Hb7.out⟩
        · have Hyy := Lib.hid (Hye.out (by rw [Hjb2.out, hcb]))
          clear hcb
          go_wp2
          go_ret2
          exact ⟨⟨_, by rw [Hyy.out] <;> rfl, by rw [Hyy.out]; exact own_mono Hown7.out Hs0.out⟩, Hb7.out⟩
      · obtain ⟨g, off, rfl, hgl, hcell⟩ := hAA h0
        clear hAA
        have Hcell := Lib.hid (rc_cells hcell); clear hcell
        have Hs2 := Lib.hid (Hb2.out.size)
        go_wp2
        go_loopw [24, 6] (fun i o wr => ∃ (k : Nat) (z : List En), k ≤ l.length ∧ i = .int .i64 k ∧ Hid (foldO [] ((l.map enR).take k) = some z) ∧ Hid (okCat z) ∧ z.length ≤ k ∧ Below w2.heap.size w2 wr ∧ Hid (wr.ownsRow w2.heap.size 29 5 o z.length (enS.flat z))) (fun i _ _ => l.length - (intOf i).toNat)
        case atStart => exact ⟨0, [], Nat.zero_le _, rfl, Lib.hid (foldO_zero _ _), Lib.hid (fun k hk => absurd hk (Nat.not_lt_zero _)), Nat.le_refl _, Below.refl _ _, Lib.hid ⟨rfl, Or.inl ⟨rfl, rfl⟩⟩⟩
        case round =>
          obtain ⟨k, z, hk, rfl, Hz, Hzv, hzl, hb, Hown⟩ := hrel
          by_cases hlt : k < l.length
          · obtain ⟨f0, f1, f2, f3⟩ := Hcell.out k hlt
            rw [← hb.cell (p := ⟨_, _, _⟩) hgl] at f0 f1 f2 f3
            have hlm : k < (l.map enR).length := by rw [List.length_map]; exact hlt
            have Hsucc := Lib.hid (foldO_succ [] hlm)
            have hget : enS.get (l.map enR) k = enR (rcS.get l k) := by
              rw [getE_at hlm, List.getElem_map]
              unfold Shape.get; rw [List.getD_eq_getElem?_getD, List.getElem?_eq_getElem hlt]; rfl
            have Hy := Lib.hid (show entE (enR (rcS.get l k)) = true from enR_ent (Hval.out _ (get_mem hlt)))
            rw [hget] at Hsucc
            clear hget
            have hgr : g < wr.heap.size := Nat.lt_of_lt_of_le hgl hb.size
            generalize rcS.get l k = x at f0 f1 f2 f3 Hy Hsucc
            have hi0 : (0 : Int) ≤ (k : Int) := by omega
            have hi1 : (k : Int) < (l.length : Int) := by omega
            have HbA := Lib.hid (show Below wr.heap.size wr (wr.alloc (Obj.cells #[.int .i64 x.a, .int .i64 x.b, .int .i64 x.lo, .int .i64 x.hi] 78)) from bal (Below.refl _ _) _)
            go_wp2_with fail
            refine (caTighten_any _ z (enR x) _ (Rd.of_own (own_below Hown.out HbA.out) rfl) (by omega) Hzv.out Hy.out).mono ?_
            rintro e w5 ⟨⟨v5, z', b, rfl, ht, -, ho5⟩, hb5⟩
            have Ho5 := Lib.hid ho5; clear ho5
            have Ht := Lib.hid ht; clear ht
            have hb5' := bthen (bthen hb HbA.out) hb5
            have Hbw := Lib.hid (bthen hb HbA.out).size
            cases b
            · exfalso
              have hno : foldO [] (l.map enR) = none := by refine foldO_stop (k := k + 1) ?_; rw [Hsucc.out, Hz.out]; exact Ht.out
              rw [Hsp.out.1] at hno
              cases hno
            · have Hnew := Lib.hid (show foldO [] ((l.map enR).take (k + 1)) = some z' by rw [Hsucc.out, Hz.out]; exact Ht.out)
              have Hnv := Lib.hid (tight_ok Hzv.out Hy.out Ht.out)
              have hl5 := tight_len Ht.out
              clear f0 f1 f2 f3
              go_wp2
              go_roundw
              case rel => exact ⟨k + 1, z', by omega, by go_num, Hnew, Hnv, by omega, hb5', Lib.hid (own_mono Ho5.out Hbw.out)⟩
              case measure => simp [intOf]; omega
          · obtain rfl : k = l.length := by omega
            have hd0 : decide (l.length < l.length) = false := decide_eq_false (by omega)
            have hz' : z = jcZ (l.map enR) := by have := Hz.out; rw [← List.length_map (f := enR), List.take_length, Hsp.out.1] at this; exact (Option.some.inj this).symm
            subst hz'
            have Hbr := Lib.hid (bthen Hb2.out hb)
            go_wp2_with fail
            refine (caGood_any _ (jcZ (l.map enR)) _ (Rd.of_own Hown.out rfl)).mono ?_; rintro e w7 ⟨rfl, hb7⟩
            have Hb7 := Lib.hid (bthen Hbr.out hb7); have Hown7 := Lib.hid (own_below Hown.out hb7); clear hb7
            cases hcb : catB (jcZ (l.map enR))
            · have Hno := Lib.hid (Hnn.out (by rw [Hjb2.out, hcb]))
              clear hcb
              go_wp2
              go_ret2
              exact ⟨⟨_, by rw [Hno.out] <;> rfl, by rw [Hno.out]; exact ⟨rfl, Or.inl ⟨rfl, rfl⟩⟩⟩, Hb7.out⟩
            · have Hyy := Lib.hid (Hye.out (by rw [Hjb2.out, hcb]))
              clear hcb
              go_wp2
              go_ret2
              exact ⟨⟨_, by rw [Hyy.out] <;> rfl, by rw [Hyy.out]; exact own_mono Hown7.out Hs2.out⟩, Hb7.out⟩
end Go.Proofs.YtimfoodbolokdaaGreatDoor
