/- The law FnExactContradictions: for all arguments the program's answer is the reference's. Conditions: none. -/
import Derived.Test.YtemdhofkhppefaaSEntry
import Derived.Test.YtemdhofkhppefaaSCurve
import Derived.Test.YtemdhofkhppefaaCon
import Derived.Deep.RegionHeld3
import Derived.Deep.DeepCutAuto
import Derived.Test.YtemdhofkhppefaaFrame
namespace Go.Proofs.Ytemdhofkhppefaa
open Go Go.RowKit Go.ChangeShapes Go.WideShapes

set_option maxHeartbeats 4000000 in
theorem fnExactContradictions_walk (v0 : Value) (es0 : List En) (v1 : Value) (es1 : List En) (w : World) (hr0 : Rd enS w w.heap.size v0 es0) (hr1 : Rd enS w w.heap.size v1 es1) :
    Calls Try.prog 6 #[v0, v1] w fun e w' => e = .returned (.bool true) ∧ Below w.heap.size w w' := by
  have hq0 := hr0
  obtain ⟨A0, c0, rfl, hc0, hm0, -⟩ := hq0
  unfold maxLen at hm0
  have Hr0 := Lib.hid hr0; clear hr0
  have hq1 := hr1
  obtain ⟨A1, c1, rfl, hc1, hm1, -⟩ := hq1
  unfold maxLen at hm1
  have Hr1 := Lib.hid hr1; clear hr1
  by_cases hl0 : es0.length ≤ 1048576
  · skip
    by_cases hl1 : es0.length + es1.length ≤ 1048576
    · skip
      go_enter Try.func6, Try.ntmps6
      go_wp2_with fail
      refine (szEntryS_any _ _ _ _ _ (by omega) (by omega) (by omega)).mono ?_; rintro e z0 ⟨rfl, rfl⟩
      rw [szI_pos (by omega)]
      have hge0 : (0 : Int) ≤ 1048576 - (es0.length : Int) := by omega
      go_wp2_with fail
      refine (szEntryS_any _ _ _ _ _ (by omega) (by omega) (by omega)).mono ?_; rintro e z1 ⟨rfl, rfl⟩
      rw [szI_pos (by omega)]
      have hge1 : (0 : Int) ≤ 1048576 - (es0.length : Int) - (es1.length : Int) := by omega
      go_wp2_with fail
      refine (toEntryS_any _ es0 _ Hr0.out (by omega)).mono ?_; rintro e w1 ⟨cp1, rfl, ho1, hb1⟩
      have Hs1 := Lib.hid ((hb1).size)
      replace hb1 := bthen (Below.refl _ _) hb1
      go_wp2_with fail
      refine (toEntryS_any _ es1 _ (Hr1.out.on (hb1)) (by omega)).mono ?_; rintro e w2 ⟨cp2, rfl, ho2, hb2⟩
      replace ho1 := own_below ho1 (hb2)
      have Hs2 := Lib.hid ((hb2).size)
      replace hb2 := bthen (hb1) hb2
      go_wp2_with fail
      refine (specCon_any _ es0 _ es1 _ (Rd.of_own ho1 rfl) (Rd.of_own ho2 rfl)).mono ?_; rintro e w3 ⟨⟨v0, y0, b0, rfl, hy0, o0⟩, hb3⟩
      replace ho1 := own_below ho1 (hb3)
      replace ho2 := own_below ho2 (hb3)
      have Hs3 := Lib.hid ((hb3).size)
      replace hb3 := bthen (hb2) hb3
      clear ho1
      clear ho2
      have Hy0 := Lib.hid hy0; clear hy0
      have Lt0 := Lib.hid (fun k hk => (World.ownsRow.lt o0 k hk).2)
      have ly := conG_len y0 b0 Hy0.out
      go_wp2_with fail
      refine (toEntryS_any _ es0 _ (Hr0.out.on (hb3)) (by omega)).mono ?_; rintro e w4 ⟨cp4, rfl, ho4, hb4⟩
      replace o0 := own_below o0 (hb4)
      have Hs4 := Lib.hid ((hb4).size)
      replace hb4 := bthen (hb3) hb4
      have Gho4 := Lib.hid (World.ownsRow.lt ho4)
      go_wp2_with fail
      refine (toEntryS_any _ es1 _ (Hr1.out.on (hb4)) (by omega)).mono ?_; rintro e w5 ⟨cp5, rfl, ho5, hb5⟩
      replace o0 := own_below o0 (hb5)
      replace ho4 := own_below ho4 (hb5)
      have Hs5 := Lib.hid ((hb5).size)
      replace hb5 := bthen (hb4) hb5
      have Gho5 := Lib.hid (World.ownsRow.lt ho5)
      go_wp2_with fail
      refine (implCon_any _ es0 _ es1 _ (Rd.of_own ho4 rfl) (Rd.of_own ho5 rfl)).mono ?_; rintro e w6 ⟨⟨v1, y1, b1, rfl, hy1, o1⟩, hb6⟩
      replace o0 := own_below o0 (hb6)
      replace ho4 := own_below ho4 (hb6)
      replace ho5 := own_below ho5 (hb6)
      have Hs6 := Lib.hid ((hb6).size)
      replace hb6 := bthen (hb5) hb6
      obtain ⟨rfl, rfl⟩ : y0 = y1 ∧ b0 = b1 := by have := Hy0.out.symm.trans hy1; simpa using this
      clear hy1
      have G1 := Lib.hid (World.ownsRow.lt o1)
      go_wp2_with fail
      refine (eqCurveS_same _ _ y0 _ (Rd.of_own o1 rfl) (Rd.of_own o0 rfl)).mono ?_; rintro e w7 ⟨rfl, hb7⟩
      replace o0 := own_below o0 (hb7)
      replace ho4 := own_below ho4 (hb7)
      replace ho5 := own_below ho5 (hb7)
      replace o1 := own_below o1 (hb7)
      have Hs7 := Lib.hid ((hb7).size)
      replace hb7 := bthen (hb6) hb7
      go_wp2_with fail
      refine (toEntryS_any _ es0 _ (Hr0.out.on (hb7)) (by omega)).mono ?_; rintro e w8 ⟨cp8, rfl, ho8, hb8⟩
      replace o0 := own_below o0 (hb8)
      replace ho4 := own_below ho4 (hb8)
      replace ho5 := own_below ho5 (hb8)
      replace o1 := own_below o1 (hb8)
      have Hs8 := Lib.hid ((hb8).size)
      replace hb8 := bthen (hb7) hb8
      go_wp2_with fail
      refine (eqEntryS_same _ _ es0 _ (Rd.of_own ho4 rfl) (Rd.of_own ho8 rfl)).mono ?_; rintro e w9 ⟨rfl, hb9⟩
      replace o0 := own_below o0 (hb9)
      replace ho4 := own_below ho4 (hb9)
      replace ho5 := own_below ho5 (hb9)
      replace o1 := own_below o1 (hb9)
      replace ho8 := own_below ho8 (hb9)
      have Hs9 := Lib.hid ((hb9).size)
      replace hb9 := bthen (hb8) hb9
      clear ho8
      go_wp2_with fail
      refine (toEntryS_any _ es1 _ (Hr1.out.on (hb9)) (by omega)).mono ?_; rintro e w10 ⟨cp10, rfl, ho10, hb10⟩
      replace o0 := own_below o0 (hb10)
      replace ho4 := own_below ho4 (hb10)
      replace ho5 := own_below ho5 (hb10)
      replace o1 := own_below o1 (hb10)
      have Hs10 := Lib.hid ((hb10).size)
      replace hb10 := bthen (hb9) hb10
      go_wp2_with fail
      refine (eqEntryS_same _ _ es1 _ (Rd.of_own ho5 rfl) (Rd.of_own ho10 rfl)).mono ?_; rintro e w11 ⟨rfl, hb11⟩
      replace o0 := own_below o0 (hb11)
      replace ho4 := own_below ho4 (hb11)
      replace ho5 := own_below ho5 (hb11)
      replace o1 := own_below o1 (hb11)
      replace ho10 := own_below ho10 (hb11)
      have Hs11 := Lib.hid ((hb11).size)
      replace hb11 := bthen (hb10) hb11
      clear ho10
      go_wp2_with fail
      refine (markEntryS_any _ _ _ _ _ _ ho4 (by omega) (by omega) (by omega)).mono ?_; rintro e w12 ⟨rfl, om, hg12⟩
      obtain ⟨K12, HK12⟩ : ∃ K : Int, (1 : Int) + ((es0.length * 5 : Nat) : Int) = K := ⟨_, rfl⟩
      rw [HK12]
      have hK12 : (0 : Int) ≤ K12 := by omega
      have hKu12 : K12 ≤ 16777216 := by omega
      have HKh12 := Lib.hid HK12; clear HK12
      replace o0 := o0.kept hg12 (own_apart (by intro k hk hk2; have g1 := Lt0.out k hk; have g2 := (Gho4).out k hk2; have z1 := Hs1.out; have z2 := Hs2.out; have z3 := Hs3.out; have z4 := Hs4.out; have z5 := Hs5.out; have z6 := Hs6.out; have z7 := Hs7.out; have z8 := Hs8.out; have z9 := Hs9.out; have z10 := Hs10.out; have z11 := Hs11.out; omega))
      replace ho5 := ho5.kept hg12 (own_apart (by intro k hk hk2; have g1 := (Gho5).out k hk; have g2 := (Gho4).out k hk2; have z1 := Hs1.out; have z2 := Hs2.out; have z3 := Hs3.out; have z4 := Hs4.out; have z5 := Hs5.out; have z6 := Hs6.out; have z7 := Hs7.out; have z8 := Hs8.out; have z9 := Hs9.out; have z10 := Hs10.out; have z11 := Hs11.out; omega))
      replace o1 := o1.kept hg12 (own_apart (by intro k hk hk2; have g1 := (G1).out k hk; have g2 := (Gho4).out k hk2; have z1 := Hs1.out; have z2 := Hs2.out; have z3 := Hs3.out; have z4 := Hs4.out; have z5 := Hs5.out; have z6 := Hs6.out; have z7 := Hs7.out; have z8 := Hs8.out; have z9 := Hs9.out; have z10 := Hs10.out; have z11 := Hs11.out; omega))
      clear ho4
      have ho4 := om; clear om
      have hb12 := (hb11).grown hg12 (hb11).size (fun k hk => by have g2 := (Gho4).out k hk; have z1 := Hs1.out; have z2 := Hs2.out; have z3 := Hs3.out; have z4 := Hs4.out; have z5 := Hs5.out; have z6 := Hs6.out; have z7 := Hs7.out; have z8 := Hs8.out; have z9 := Hs9.out; have z10 := Hs10.out; have z11 := Hs11.out; omega)
      go_wp2_with fail
      refine (markEntryS_any _ _ _ _ _ _ ho5 (by omega) (by omega) (by omega)).mono ?_; rintro e w13 ⟨rfl, om, hg13⟩
      obtain ⟨K13, HK13⟩ : ∃ K : Int, K12 + ((es1.length * 5 : Nat) : Int) = K := ⟨_, rfl⟩
      rw [HK13]
      have hK13 : (0 : Int) ≤ K13 := by omega
      have hKu13 : K13 ≤ 33554432 := by omega
      have HKh13 := Lib.hid HK13; clear HK13
      replace o0 := o0.kept hg13 (own_apart (by intro k hk hk2; have g1 := Lt0.out k hk; have g2 := (Gho5).out k hk2; have z1 := Hs1.out; have z2 := Hs2.out; have z3 := Hs3.out; have z4 := Hs4.out; have z5 := Hs5.out; have z6 := Hs6.out; have z7 := Hs7.out; have z8 := Hs8.out; have z9 := Hs9.out; have z10 := Hs10.out; have z11 := Hs11.out; omega))
      replace ho4 := ho4.kept hg13 (own_apart (by intro k hk hk2; have g1 := (Gho4).out k hk; have g2 := (Gho5).out k hk2; have z1 := Hs1.out; have z2 := Hs2.out; have z3 := Hs3.out; have z4 := Hs4.out; have z5 := Hs5.out; have z6 := Hs6.out; have z7 := Hs7.out; have z8 := Hs8.out; have z9 := Hs9.out; have z10 := Hs10.out; have z11 := Hs11.out; omega))
      replace o1 := o1.kept hg13 (own_apart (by intro k hk hk2; have g1 := (G1).out k hk; have g2 := (Gho5).out k hk2; have z1 := Hs1.out; have z2 := Hs2.out; have z3 := Hs3.out; have z4 := Hs4.out; have z5 := Hs5.out; have z6 := Hs6.out; have z7 := Hs7.out; have z8 := Hs8.out; have z9 := Hs9.out; have z10 := Hs10.out; have z11 := Hs11.out; omega))
      clear ho5
      have ho5 := om; clear om
      have hb13 := (hb12).grown hg13 (hb12).size (fun k hk => by have g2 := (Gho5).out k hk; have z1 := Hs1.out; have z2 := Hs2.out; have z3 := Hs3.out; have z4 := Hs4.out; have z5 := Hs5.out; have z6 := Hs6.out; have z7 := Hs7.out; have z8 := Hs8.out; have z9 := Hs9.out; have z10 := Hs10.out; have z11 := Hs11.out; omega)
      clear ho4
      clear ho5
      go_wp2_with fail
      refine (eqCurveS_same _ _ y0 _ (Rd.of_own o1 rfl) (Rd.of_own o0 rfl)).mono ?_; rintro e w14 ⟨rfl, hb14⟩
      replace o0 := own_below o0 (hb14)
      replace o1 := own_below o1 (hb14)
      have Hs14 := Lib.hid ((hb14).size)
      replace hb14 := bthen (hb13) hb14
      go_wp2_with fail
      refine (markCurveS_any _ _ _ _ _ _ o1 (by omega) (by omega) (by omega)).mono ?_; rintro e w15 ⟨rfl, om, hg15⟩
      obtain ⟨K15, HK15⟩ : ∃ K : Int, (1 : Int) + ((y0.length * 2 : Nat) : Int) = K := ⟨_, rfl⟩
      rw [HK15]
      have hK15 : (0 : Int) ≤ K15 := by omega
      have hKu15 : K15 ≤ 16777216 := by omega
      have HKh15 := Lib.hid HK15; clear HK15
      replace o0 := o0.kept hg15 (own_apart (by intro k hk hk2; have g1 := Lt0.out k hk; have g2 := (G1).out k hk2; have z1 := Hs1.out; have z2 := Hs2.out; have z3 := Hs3.out; have z4 := Hs4.out; have z5 := Hs5.out; have z6 := Hs6.out; have z7 := Hs7.out; have z8 := Hs8.out; have z9 := Hs9.out; have z10 := Hs10.out; have z11 := Hs11.out; omega))
      clear o1
      have o1 := om; clear om
      have hb15 := (hb14).grown hg15 (hb14).size (fun k hk => by have g2 := (G1).out k hk; have z1 := Hs1.out; have z2 := Hs2.out; have z3 := Hs3.out; have z4 := Hs4.out; have z5 := Hs5.out; have z6 := Hs6.out; have z7 := Hs7.out; have z8 := Hs8.out; have z9 := Hs9.out; have z10 := Hs10.out; have z11 := Hs11.out; omega)
      go_wp2_with fail
      refine (heldCurveS_any _ _ _ _ _ o1 (by omega) (by omega) (by omega)).mono ?_; rintro e z105 ⟨rfl, rfl⟩
      rw [HKh15.out]
      go_wp2_with fail
      refine (toEntryS_any _ es0 _ (Hr0.out.on (hb15)) (by omega)).mono ?_; rintro e w16 ⟨cp16, rfl, ho16, hb16⟩
      replace o0 := own_below o0 (hb16)
      replace o1 := own_below o1 (hb16)
      have Hs16 := Lib.hid ((hb16).size)
      replace hb16 := bthen (hb15) hb16
      go_wp2_with fail
      refine (toEntryS_any _ es1 _ (Hr1.out.on (hb16)) (by omega)).mono ?_; rintro e w17 ⟨cp17, rfl, ho17, hb17⟩
      replace o0 := own_below o0 (hb17)
      replace o1 := own_below o1 (hb17)
      replace ho16 := own_below ho16 (hb17)
      have Hs17 := Lib.hid ((hb17).size)
      replace hb17 := bthen (hb16) hb17
      go_wp2_with fail
      refine (implCon_any _ es0 _ es1 _ (Rd.of_own ho16 rfl) (Rd.of_own ho17 rfl)).mono ?_; rintro e w18 ⟨⟨v2, y2, b2, rfl, hy2, o2⟩, hb18⟩
      replace o0 := own_below o0 (hb18)
      replace o1 := own_below o1 (hb18)
      replace ho16 := own_below ho16 (hb18)
      replace ho17 := own_below ho17 (hb18)
      have Hs18 := Lib.hid ((hb18).size)
      replace hb18 := bthen (hb17) hb18
      clear ho16
      clear ho17
      obtain ⟨rfl, rfl⟩ : y0 = y2 ∧ b0 = b2 := by have := Hy0.out.symm.trans hy2; simpa using this
      clear hy2
      go_wp2_with fail
      refine (eqCurveS_same _ _ y0 _ (Rd.of_own o2 rfl) (Rd.of_own o0 rfl)).mono ?_; rintro e w19 ⟨rfl, hb19⟩
      replace o0 := own_below o0 (hb19)
      replace o1 := own_below o1 (hb19)
      replace o2 := own_below o2 (hb19)
      have Hs19 := Lib.hid ((hb19).size)
      replace hb19 := bthen (hb18) hb19
      go_wp2_with fail
      refine (heldCurveS_any _ _ _ _ _ o1 (by omega) (by omega) (by omega)).mono ?_; rintro e z109 ⟨rfl, rfl⟩
      rw [HKh15.out]
      go_wp2
      go_ret
      exact ⟨rfl, hb19⟩
    · skip
      go_enter Try.func6, Try.ntmps6
      go_wp2_with fail
      refine (szEntryS_any _ _ _ _ _ (by omega) (by omega) (by omega)).mono ?_; rintro e z0 ⟨rfl, rfl⟩
      rw [szI_pos (by omega)]
      have hge0 : (0 : Int) ≤ 1048576 - (es0.length : Int) := by omega
      go_wp2_with fail
      refine (szEntryS_any _ _ _ _ _ (by omega) (by omega) (by omega)).mono ?_; rintro e z1 ⟨rfl, rfl⟩
      rw [szI_neg (by omega)]
      go_wp2
      go_ret
      exact ⟨rfl, by (repeat (with_reducible first | exact Below.refl _ _ | assumption | refine bal ?_ _ | refine bst ?_ (by simp <;> omega) _ | refine Below.drew ?_ | refine bthen ?_ (by assumption)))⟩
  · skip
    go_enter Try.func6, Try.ntmps6
    go_wp2_with fail
    refine (szEntryS_any _ _ _ _ _ (by omega) (by omega) (by omega)).mono ?_; rintro e z0 ⟨rfl, rfl⟩
    rw [szI_neg (by omega)]
    go_wp2
    go_ret
    exact ⟨rfl, by (repeat (with_reducible first | exact Below.refl _ _ | assumption | refine bal ?_ _ | refine bst ?_ (by simp <;> omega) _ | refine Below.drew ?_ | refine bthen ?_ (by assumption)))⟩

set_option maxRecDepth 100000 in
theorem fnExactContradictions_lifted (os : Os) (started : os.Started) (H : Type) (enc : TypeId × Value → H) :
    ReturnsInHanded {} Try.checked os 6 .any (Rows.fnExactContradictionsSpec.pre6 enc Try.prog Try.f6 Rows.fnExactContradictionsRow.domain false) (Rows.fnExactContradictionsSpec.post enc Try.prog Try.f6 false true false false) := by
  refine returnsInHanded_of_change (C := Try.checked) own_knob started (by kernel_rfl) Try.func6
    (ChangeSpec.witness6 (enc := enc) (C := Try.checked) false ⟨#[], #[.slice none 0 0, .slice none 0 0], []⟩ 8 (by kernel_rfl) (by kernel_rfl) (by kernel_rfl) (by kernel_rfl)) ?_
  intro W base args ds gs before hval0 hW _ _
  have hval : ∀ (j : Nat) t v, Try.f6.params[j]? = some t → args[j]? = some v → Value.okWide Try.prog W .any base t v := hval0
  have hW' := hW
  obtain ⟨p, q, hA0, hV, rfl, hfz, hnd⟩ := hW
  have hA : DataW.TrodAll enc Try.prog W 0 (fun _ => true) true Try.f6.params.toList args.toList ds p := hA0
  rw [Try.params6] at hA hval
  obtain ⟨v0, v1, d0, d1, p0, p1, rfl, rfl, rfl, h0, h1⟩ := trodAll_two hA
  obtain ⟨rfl, rfl⟩ := trodVars_none hV
  simp only [List.append_nil] at hW'
  have hlt := hW'.lt
  have hlt0 : ∀ x ∈ p0, x.block < W.heap.size := fun x hx => hlt x (by simp [hx])
  have hlt1 : ∀ x ∈ p1, x.block < W.heap.size := fun x hx => hlt x (by simp [hx])
  have k0 := h0
  obtain ⟨es0, hr0⟩ := open_ints_slice enS enMk enMk_cell Try.underlying22 (by decide) (by kernel_rfl) 5 (by kernel_rfl) (hval 0 22 v0 rfl rfl) h0
  have k1 := h1
  obtain ⟨es1, hr1⟩ := open_ints_slice enS enMk enMk_cell Try.underlying22 (by decide) (by kernel_rfl) 5 (by kernel_rfl) (hval 1 22 v1 rfl rfl) h1
  refine (fnExactContradictions_walk v0 es0 v1 es1 W hr0 hr1).mono fun e W' ⟨he, hb⟩ => ?_
  subst he
  exact ⟨_, rfl, post_below hW' (trodAll_mk1 (shut_bool Try.underlying4 true)) (trodAll_mk2 (WideElems.Trod_stays laid_out (by kernel_rfl) (of_decide_eq_true (by kernel_rfl)) k0 (fun x hx => hb.same (hlt0 x hx)) (fun x hx => by simpa using hlt0 x hx)) (WideElems.Trod_stays laid_out (by kernel_rfl) (of_decide_eq_true (by kernel_rfl)) k1 (fun x hx => hb.same (hlt1 x hx)) (fun x hx => by simpa using hlt1 x hx))) rfl rfl hb⟩

theorem fnExactContradictions_holds : Rows.FnExactContradictionsSaid :=
  OpenClaim.holds_of_wide 6 Try.f6 rfl rfl rfl rfl rfl rfl rfl ⟨rfl, rfl, rfl, rfl, rfl⟩ rfl rfl rfl rfl rfl (by kernel_rfl) Try.func6 (by kernel_rfl)
    (of_decide_eq_true (by kernel_rfl)) (by unfold Func.isWrapper; rw [if_neg (of_decide_eq_false (by kernel_rfl))]; exact ⟨rfl, rfl⟩)
    (fun os started H enc _ => fnExactContradictions_lifted os started H enc)

end Go.Proofs.Ytemdhofkhppefaa
