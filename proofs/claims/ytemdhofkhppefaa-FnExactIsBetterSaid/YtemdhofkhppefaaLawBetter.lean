/- The law FnExactIsBetter: for all arguments the program's answer is the reference's. Conditions: none. -/
import Derived.Test.YtemdhofkhppefaaSEntry
import Derived.Test.YtemdhofkhppefaaBetter
import Derived.Deep.RegionHeld3
import Derived.Deep.DeepCutAuto
import Derived.Test.YtemdhofkhppefaaFrame
namespace Go.Proofs.Ytemdhofkhppefaa
open Go Go.RowKit Go.ChangeShapes Go.WideShapes

set_option maxHeartbeats 4000000 in
theorem fnExactIsBetter_walk (v0 : Value) (es0 : List En) (v1 : Value) (es1 : List En) (w : World) (hr0 : Rd enS w w.heap.size v0 es0) (hr1 : Rd enS w w.heap.size v1 es1) :
    Calls Try.prog 3 #[v0, v1] w fun e w' => e = .returned (.bool true) ∧ Below w.heap.size w w' := by
  have hq0 := hr0
  obtain ⟨A0, c0, rfl, hc0, hm0, -⟩ := hq0
  unfold maxLen at hm0
  have Hr0 := Lib.hid hr0; clear hr0
  have hq1 := hr1
  obtain ⟨A1, c1, rfl, hc1, hm1, -⟩ := hq1
  unfold maxLen at hm1
  have Hr1 := Lib.hid hr1; clear hr1
  by_cases hl0 : es0.length ≤ 1048576
  · skip
    by_cases hl1 : es0.length + es1.length ≤ 1048576
    · skip
      go_enter Try.func3, Try.ntmps3
      go_wp2_with fail
      refine (szEntryS_any _ _ _ _ _ (by omega) (by omega) (by omega)).mono ?_; rintro e z0 ⟨rfl, rfl⟩
      rw [szI_pos (by omega)]
      have hge0 : (0 : Int) ≤ 1048576 - (es0.length : Int) := by omega
      go_wp2_with fail
      refine (szEntryS_any _ _ _ _ _ (by omega) (by omega) (by omega)).mono ?_; rintro e z1 ⟨rfl, rfl⟩
      rw [szI_pos (by omega)]
      have hge1 : (0 : Int) ≤ 1048576 - (es0.length : Int) - (es1.length : Int) := by omega
      go_wp2_with fail
      refine (toEntryS_any _ es0 _ Hr0.out (by omega)).mono ?_; rintro e w1 ⟨cp1, rfl, ho1, hb1⟩
      replace hb1 := bthen (Below.refl _ _) hb1
      go_wp2_with fail
      refine (toEntryS_any _ es1 _ (Hr1.out.on (hb1)) (by omega)).mono ?_; rintro e w2 ⟨cp2, rfl, ho2, hb2⟩
      replace ho1 := own_below ho1 (hb2)
      replace hb2 := bthen (hb1) hb2
      go_wp2_with fail
      refine (specBetter_any _ es0 _ es1 _ (Rd.of_own ho1 rfl) (Rd.of_own ho2 rfl)).mono ?_; rintro e w3 ⟨⟨y0, b0, rfl, hy0⟩, hb3⟩
      replace ho1 := own_below ho1 (hb3)
      replace ho2 := own_below ho2 (hb3)
      replace hb3 := bthen (hb2) hb3
      clear ho1
      clear ho2
      have Hy0 := Lib.hid hy0; clear hy0
      go_wp2_with fail
      refine (toEntryS_any _ es0 _ (Hr0.out.on (hb3)) (by omega)).mono ?_; rintro e w4 ⟨cp4, rfl, ho4, hb4⟩
      replace hb4 := bthen (hb3) hb4
      go_wp2_with fail
      refine (toEntryS_any _ es1 _ (Hr1.out.on (hb4)) (by omega)).mono ?_; rintro e w5 ⟨cp5, rfl, ho5, hb5⟩
      replace ho4 := own_below ho4 (hb5)
      replace hb5 := bthen (hb4) hb5
      go_wp2_with fail
      refine (implBetter_any _ es0 _ es1 _ (Rd.of_own ho4 rfl) (Rd.of_own ho5 rfl)).mono ?_; rintro e w6 ⟨⟨y1, b1, rfl, hy1⟩, hb6⟩
      replace ho4 := own_below ho4 (hb6)
      replace ho5 := own_below ho5 (hb6)
      replace hb6 := bthen (hb5) hb6
      obtain ⟨rfl, rfl⟩ : y0 = y1 ∧ b0 = b1 := by have := Hy0.out.symm.trans hy1; simpa using this
      clear hy1
      go_wp2_with fail
      refine (toEntryS_any _ es0 _ (Hr0.out.on (hb6)) (by omega)).mono ?_; rintro e w7 ⟨cp7, rfl, ho7, hb7⟩
      replace ho4 := own_below ho4 (hb7)
      replace ho5 := own_below ho5 (hb7)
      replace hb7 := bthen (hb6) hb7
      go_wp2_with fail
      refine (eqEntryS_same _ _ es0 _ (Rd.of_own ho4 rfl) (Rd.of_own ho7 rfl)).mono ?_; rintro e w8 ⟨rfl, hb8⟩
      replace ho4 := own_below ho4 (hb8)
      replace ho5 := own_below ho5 (hb8)
      replace ho7 := own_below ho7 (hb8)
      replace hb8 := bthen (hb7) hb8
      clear ho7
      go_wp2_with fail
      refine (toEntryS_any _ es1 _ (Hr1.out.on (hb8)) (by omega)).mono ?_; rintro e w9 ⟨cp9, rfl, ho9, hb9⟩
      replace ho4 := own_below ho4 (hb9)
      replace ho5 := own_below ho5 (hb9)
      replace hb9 := bthen (hb8) hb9
      go_wp2_with fail
      refine (eqEntryS_same _ _ es1 _ (Rd.of_own ho5 rfl) (Rd.of_own ho9 rfl)).mono ?_; rintro e w10 ⟨rfl, hb10⟩
      replace ho4 := own_below ho4 (hb10)
      replace ho5 := own_below ho5 (hb10)
      replace ho9 := own_below ho9 (hb10)
      replace hb10 := bthen (hb9) hb10
      clear ho9
      go_wp2
      go_ret
      exact ⟨rfl, hb10⟩
    · skip
      go_enter Try.func3, Try.ntmps3
      go_wp2_with fail
      refine (szEntryS_any _ _ _ _ _ (by omega) (by omega) (by omega)).mono ?_; rintro e z0 ⟨rfl, rfl⟩
      rw [szI_pos (by omega)]
      have hge0 : (0 : Int) ≤ 1048576 - (es0.length : Int) := by omega
      go_wp2_with fail
      refine (szEntryS_any _ _ _ _ _ (by omega) (by omega) (by omega)).mono ?_; rintro e z1 ⟨rfl, rfl⟩
      rw [szI_neg (by omega)]
      go_wp2
      go_ret
      exact ⟨rfl, by (repeat (with_reducible first | exact Below.refl _ _ | assumption | refine bal ?_ _ | refine bst ?_ (by simp <;> omega) _ | refine Below.drew ?_ | refine bthen ?_ (by assumption)))⟩
  · skip
    go_enter Try.func3, Try.ntmps3
    go_wp2_with fail
    refine (szEntryS_any _ _ _ _ _ (by omega) (by omega) (by omega)).mono ?_; rintro e z0 ⟨rfl, rfl⟩
    rw [szI_neg (by omega)]
    go_wp2
    go_ret
    exact ⟨rfl, by (repeat (with_reducible first | exact Below.refl _ _ | assumption | refine bal ?_ _ | refine bst ?_ (by simp <;> omega) _ | refine Below.drew ?_ | refine bthen ?_ (by assumption)))⟩

set_option maxRecDepth 100000 in
theorem fnExactIsBetter_lifted (os : Os) (started : os.Started) (H : Type) (enc : TypeId × Value → H) :
    ReturnsInHanded {} Try.checked os 3 .any (Rows.fnExactIsBetterSpec.pre6 enc Try.prog Try.f3 Rows.fnExactIsBetterRow.domain false) (Rows.fnExactIsBetterSpec.post enc Try.prog Try.f3 false true false false) := by
  refine returnsInHanded_of_change (C := Try.checked) own_knob started (by kernel_rfl) Try.func3
    (ChangeSpec.witness6 (enc := enc) (C := Try.checked) false ⟨#[], #[.slice none 0 0, .slice none 0 0], []⟩ 8 (by kernel_rfl) (by kernel_rfl) (by kernel_rfl) (by kernel_rfl)) ?_
  intro W base args ds gs before hval0 hW _ _
  have hval : ∀ (j : Nat) t v, Try.f3.params[j]? = some t → args[j]? = some v → Value.okWide Try.prog W .any base t v := hval0
  have hW' := hW
  obtain ⟨p, q, hA0, hV, rfl, hfz, hnd⟩ := hW
  have hA : DataW.TrodAll enc Try.prog W 0 (fun _ => true) true Try.f3.params.toList args.toList ds p := hA0
  rw [Try.params3] at hA hval
  obtain ⟨v0, v1, d0, d1, p0, p1, rfl, rfl, rfl, h0, h1⟩ := trodAll_two hA
  obtain ⟨rfl, rfl⟩ := trodVars_none hV
  simp only [List.append_nil] at hW'
  have hlt := hW'.lt
  have hlt0 : ∀ x ∈ p0, x.block < W.heap.size := fun x hx => hlt x (by simp [hx])
  have hlt1 : ∀ x ∈ p1, x.block < W.heap.size := fun x hx => hlt x (by simp [hx])
  have k0 := h0
  obtain ⟨es0, hr0⟩ := open_ints_slice enS enMk enMk_cell Try.underlying22 (by decide) (by kernel_rfl) 5 (by kernel_rfl) (hval 0 22 v0 rfl rfl) h0
  have k1 := h1
  obtain ⟨es1, hr1⟩ := open_ints_slice enS enMk enMk_cell Try.underlying22 (by decide) (by kernel_rfl) 5 (by kernel_rfl) (hval 1 22 v1 rfl rfl) h1
  refine (fnExactIsBetter_walk v0 es0 v1 es1 W hr0 hr1).mono fun e W' ⟨he, hb⟩ => ?_
  subst he
  exact ⟨_, rfl, post_below hW' (trodAll_mk1 (shut_bool Try.underlying4 true)) (trodAll_mk2 (WideElems.Trod_stays laid_out (by kernel_rfl) (of_decide_eq_true (by kernel_rfl)) k0 (fun x hx => hb.same (hlt0 x hx)) (fun x hx => by simpa using hlt0 x hx)) (WideElems.Trod_stays laid_out (by kernel_rfl) (of_decide_eq_true (by kernel_rfl)) k1 (fun x hx => hb.same (hlt1 x hx)) (fun x hx => by simpa using hlt1 x hx))) rfl rfl hb⟩

theorem fnExactIsBetter_holds : Rows.FnExactIsBetterSaid :=
  OpenClaim.holds_of_wide 3 Try.f3 rfl rfl rfl rfl rfl rfl rfl ⟨rfl, rfl, rfl, rfl, rfl⟩ rfl rfl rfl rfl rfl (by kernel_rfl) Try.func3 (by kernel_rfl)
    (of_decide_eq_true (by kernel_rfl)) (by unfold Func.isWrapper; rw [if_neg (of_decide_eq_false (by kernel_rfl))]; exact ⟨rfl, rfl⟩)
    (fun os started H enc _ => fnExactIsBetter_lifted os started H enc)

end Go.Proofs.Ytemdhofkhppefaa
