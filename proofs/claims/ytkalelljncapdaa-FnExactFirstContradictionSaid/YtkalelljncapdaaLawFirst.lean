/- The law FnExactFirstContradiction: for all arguments the program's answer is the reference's. Conditions: none. -/
import Derived.Test.YtkalelljncapdaaSReport
import Derived.Test.YtkalelljncapdaaFirst
import Derived.Deep.RegionHeld3
import Derived.Deep.DeepCutAuto
import Derived.Test.YtkalelljncapdaaFrame
namespace Go.Proofs.Ytkalelljncapdaa
open Go Go.RowKit Go.ChangeShapes Go.WideShapes

set_option maxHeartbeats 4000000 in
theorem fnExactFirstContradiction_walk (v0 : Value) (es0 : List Rp) (w : World) (hr0 : Rd rpS w w.heap.size v0 es0) :
    Calls Try.prog 9 #[v0] w fun e w' => e = .returned (.bool true) ∧ Below w.heap.size w w' := by
  have hq0 := hr0
  obtain ⟨A0, c0, rfl, hc0, hm0, -⟩ := hq0
  unfold maxLen at hm0
  have Hr0 := Lib.hid hr0; clear hr0
  by_cases hl0 : es0.length ≤ 1048576
  · skip
    go_enter Try.func9, Try.ntmps9
    go_wp2_with fail
    refine (szReportS_any _ _ _ _ _ (by omega) (by omega) (by omega)).mono ?_; rintro e z0 ⟨rfl, rfl⟩
    rw [szI_pos (by omega)]
    have hge0 : (0 : Int) ≤ 1048576 - (es0.length : Int) := by omega
    go_wp2_with fail
    refine (toReportS_any _ es0 _ Hr0.out (by omega)).mono ?_; rintro e w1 ⟨cp1, rfl, ho1, hb1⟩
    replace hb1 := bthen (Below.refl _ _) hb1
    go_wp2_with fail
    refine (specFirst_any _ es0 _ (Rd.of_own ho1 rfl)).mono ?_; rintro e w2 ⟨⟨y0, b0, rfl, hy0⟩, hb2⟩
    replace ho1 := own_below ho1 (hb2)
    replace hb2 := bthen (hb1) hb2
    clear ho1
    have Hy0 := Lib.hid hy0; clear hy0
    go_wp2_with fail
    refine (toReportS_any _ es0 _ (Hr0.out.on (hb2)) (by omega)).mono ?_; rintro e w3 ⟨cp3, rfl, ho3, hb3⟩
    replace hb3 := bthen (hb2) hb3
    go_wp2_with fail
    refine (implFirst_any _ es0 _ (Rd.of_own ho3 rfl)).mono ?_; rintro e w4 ⟨⟨y1, b1, rfl, hy1⟩, hb4⟩
    replace ho3 := own_below ho3 (hb4)
    replace hb4 := bthen (hb3) hb4
    obtain ⟨rfl, rfl⟩ : y0 = y1 ∧ b0 = b1 := by have := Hy0.out.symm.trans hy1; simpa using this
    clear hy1
    go_wp2_with fail
    refine (toReportS_any _ es0 _ (Hr0.out.on (hb4)) (by omega)).mono ?_; rintro e w5 ⟨cp5, rfl, ho5, hb5⟩
    replace ho3 := own_below ho3 (hb5)
    replace hb5 := bthen (hb4) hb5
    go_wp2_with fail
    refine (eqReportS_same _ _ es0 _ (Rd.of_own ho3 rfl) (Rd.of_own ho5 rfl)).mono ?_; rintro e w6 ⟨rfl, hb6⟩
    replace ho3 := own_below ho3 (hb6)
    replace ho5 := own_below ho5 (hb6)
    replace hb6 := bthen (hb5) hb6
    clear ho5
    go_wp2
    go_ret
    exact ⟨rfl, hb6⟩
  · skip
    go_enter Try.func9, Try.ntmps9
    go_wp2_with fail
    refine (szReportS_any _ _ _ _ _ (by omega) (by omega) (by omega)).mono ?_; rintro e z0 ⟨rfl, rfl⟩
    rw [szI_neg (by omega)]
    go_wp2
    go_ret
    exact ⟨rfl, by (repeat (with_reducible first | exact Below.refl _ _ | assumption | refine bal ?_ _ | refine bst ?_ (by simp <;> omega) _ | refine Below.drew ?_ | refine bthen ?_ (by assumption)))⟩

set_option maxRecDepth 100000 in
theorem fnExactFirstContradiction_lifted (os : Os) (started : os.Started) (H : Type) (enc : TypeId × Value → H) :
    ReturnsInHanded {} Try.checked os 9 .any (Rows.fnExactFirstContradictionSpec.pre6 enc Try.prog Try.f9 Rows.fnExactFirstContradictionRow.domain false) (Rows.fnExactFirstContradictionSpec.post enc Try.prog Try.f9 false true false false) := by
  refine returnsInHanded_of_change (C := Try.checked) own_knob started (by kernel_rfl) Try.func9
    (ChangeSpec.witness6 (enc := enc) (C := Try.checked) false ⟨#[], #[.slice none 0 0], []⟩ 8 (by kernel_rfl) (by kernel_rfl) (by kernel_rfl) (by kernel_rfl)) ?_
  intro W base args ds gs before hval0 hW _ _
  have hval : ∀ (j : Nat) t v, Try.f9.params[j]? = some t → args[j]? = some v → Value.okWide Try.prog W .any base t v := hval0
  have hW' := hW
  obtain ⟨p, q, hA0, hV, rfl, hfz, hnd⟩ := hW
  have hA : DataW.TrodAll enc Try.prog W 0 (fun _ => true) true Try.f9.params.toList args.toList ds p := hA0
  rw [Try.params9] at hA hval
  obtain ⟨v0, d0, rfl, rfl, h0⟩ := trodAll_one hA
  obtain ⟨rfl, rfl⟩ := trodVars_none hV
  simp only [List.append_nil] at hW'
  have hlt := hW'.lt
  have hlt0 : ∀ x ∈ p, x.block < W.heap.size := hlt
  have k0 := h0
  obtain ⟨es0, hr0⟩ := open_ints_slice rpS rpMk rpMk_cell Try.underlying22 (by decide) (by kernel_rfl) 5 (by kernel_rfl) (hval 0 22 v0 rfl rfl) h0
  refine (fnExactFirstContradiction_walk v0 es0 W hr0).mono fun e W' ⟨he, hb⟩ => ?_
  subst he
  exact ⟨_, rfl, post_below hW' (trodAll_mk1 (shut_bool Try.underlying4 true)) (trodAll_mk1 (WideElems.Trod_stays laid_out (by kernel_rfl) (of_decide_eq_true (by kernel_rfl)) k0 (fun x hx => hb.same (hlt0 x hx)) (fun x hx => by simpa using hlt0 x hx))) rfl rfl hb⟩

theorem fnExactFirstContradiction_holds : Rows.FnExactFirstContradictionSaid :=
  OpenClaim.holds_of_wide 9 Try.f9 rfl rfl rfl rfl rfl rfl rfl ⟨rfl, rfl, rfl, rfl, rfl⟩ rfl rfl rfl rfl rfl (by kernel_rfl) Try.func9 (by kernel_rfl)
    (of_decide_eq_true (by kernel_rfl)) (by unfold Func.isWrapper; rw [if_neg (of_decide_eq_false (by kernel_rfl))]; exact ⟨rfl, rfl⟩)
    (fun os started H enc _ => fnExactFirstContradiction_lifted os started H enc)

end Go.Proofs.Ytkalelljncapdaa
