/- The law FnExactAreReports: for every list the program's answer is the reference's. Conditions: none. -/
import Derived.Test.YtbaobchmhgmliaaSReport
import Derived.Test.YtbaobchmhgmliaaGoodReport
import Derived.Test.YtbaobchmhgmliaaFrame
namespace Go.Proofs.Ytbaobchmhgmliaa
open Go Go.RowKit Go.ChangeShapes Go.WideShapes

theorem AreReportsS_any (v : Value) (es : List Rp) (w : World) (h : Rd rpS w w.heap.size v es) :
    Calls Try.prog 28 #[v] w fun e w' => e = .returned (.bool (repsB es)) ∧ Below w.heap.size w w' := by
  go_enter Try.func28, Try.ntmps28
  go_wp2_with (go_at_call 44; refine (mrGood_any _ _ _ h).mono ?_; rintro e w' ⟨rfl, hb1⟩)
  go_ret
  exact ⟨rfl, by (repeat (with_reducible first | exact Below.refl _ _ | assumption | refine bal ?_ _ | refine bst ?_ (by simp <;> omega) _ | refine Below.drew ?_ | refine bthen ?_ (by assumption)))⟩

theorem AreReportsI_any (v : Value) (es : List Rp) (w : World) (h : Rd rpS w w.heap.size v es) :
    Calls Try.prog 30 #[v] w fun e w' => e = .returned (.bool (repsB es)) ∧ Below w.heap.size w w' := by
  go_enter Try.func30, Try.ntmps30
  go_wp2_with (go_at_call 45; refine (areReports_any _ _ _ h).mono ?_; rintro e w' ⟨rfl, hb1⟩)
  go_ret
  exact ⟨rfl, by (repeat (with_reducible first | exact Below.refl _ _ | assumption | refine bal ?_ _ | refine bst ?_ (by simp <;> omega) _ | refine Below.drew ?_ | refine bthen ?_ (by assumption)))⟩

set_option maxHeartbeats 1600000 in
theorem fnExactAreReports_walk (v : Value) (es : List Rp) (w : World) (hr : Rd rpS w w.heap.size v es) :
    Calls Try.prog 8 #[v] w fun e w' => e = .returned (.bool true) ∧ Below w.heap.size w w' := by
  have hr0 := hr
  obtain ⟨A, c, rfl, hc, hm, -⟩ := hr0
  unfold maxLen at hm
  by_cases hlen : es.length ≤ 1048576
  · go_enter Try.func8, Try.ntmps8
    go_wp2_with fail
    refine (szReportS_any _ _ _ _ _ (by omega) (by omega) (by omega)).mono ?_; rintro e w1 ⟨rfl, rfl⟩
    rw [szI_pos (by omega)]
    have hge : (0 : Int) ≤ 1048576 - (es.length : Int) := by omega
    go_wp2_with fail
    refine (toReportS_any _ es _ hr hlen).mono ?_; rintro e w1 ⟨c1, rfl, ho1, hb1⟩
    go_wp2_with fail
    refine (AreReportsS_any _ es _ (Rd.of_own ho1 rfl)).mono ?_; rintro e w2 ⟨rfl, hb2⟩
    replace hb2 := bthen hb1 hb2
    go_wp2_with fail
    refine (toReportS_any _ es _ (hr.on hb2) hlen).mono ?_; rintro e w3 ⟨c3, rfl, ho3, hb3⟩
    have hx := Rd.of_own ho3 rfl
    replace hb3 := bthen hb2 hb3
    go_wp2_with fail
    refine (AreReportsI_any _ es _ hx).mono ?_; rintro e w4 ⟨rfl, hb4⟩
    replace hx := hx.on hb4
    replace hb4 := bthen hb3 hb4
    go_wp2_with fail
    refine (toReportS_any _ es _ (hr.on hb4) hlen).mono ?_; rintro e w5 ⟨c5, rfl, ho5, hb5⟩
    replace hx := hx.on hb5
    replace hb5 := bthen hb4 hb5
    go_wp2_with fail
    refine (eqReportS_same _ _ es _ hx (Rd.of_own ho5 rfl)).mono ?_; rintro e w6 ⟨rfl, hb6⟩
    replace hb6 := bthen hb5 hb6
    go_wp2
    go_ret
    exact ⟨rfl, hb6⟩
  · go_enter Try.func8, Try.ntmps8
    go_wp2_with fail
    refine (szReportS_any _ _ _ _ _ (by omega) (by omega) (by omega)).mono ?_; rintro e w1 ⟨rfl, rfl⟩
    rw [szI_neg (by omega)]
    go_wp2
    go_ret
    exact ⟨rfl, Below.refl _ _⟩

--FRAME FnExactAreReports sl:[]laws.Report:rpS:rpMk
set_option maxRecDepth 100000 in
theorem fnExactAreReports_lifted (os : Os) (started : os.Started) (H : Type) (enc : TypeId × Value → H) :
    ReturnsInHanded {} Try.checked os 8 .any (Rows.fnExactAreReportsSpec.pre6 enc Try.prog Try.f8 Rows.fnExactAreReportsRow.domain false) (Rows.fnExactAreReportsSpec.post enc Try.prog Try.f8 false true false false) := by
  refine returnsInHanded_of_change (C := Try.checked) own_knob started (by kernel_rfl) Try.func8
    (ChangeSpec.witness6 (enc := enc) (C := Try.checked) false ⟨#[], #[.slice none 0 0], []⟩ 8 (by kernel_rfl) (by kernel_rfl) (by kernel_rfl) (by kernel_rfl)) ?_
  intro W base args ds gs before hval0 hW _ _
  have hval : ∀ (j : Nat) t v, Try.f8.params[j]? = some t → args[j]? = some v → Value.okWide Try.prog W .any base t v := hval0
  have hW' := hW
  obtain ⟨p, q, hA0, hV, rfl, hfz, hnd⟩ := hW
  have hA : DataW.TrodAll enc Try.prog W 0 (fun _ => true) true Try.f8.params.toList args.toList ds p := hA0
  rw [Try.params8] at hA hval
  obtain ⟨v0, d0, rfl, rfl, h0⟩ := trodAll_one hA
  obtain ⟨rfl, rfl⟩ := trodVars_none hV
  simp only [List.append_nil] at hW'
  have hlt := hW'.lt
  have hlt0 : ∀ x ∈ p, x.block < W.heap.size := hlt
  have k0 := h0
  obtain ⟨es0, hr0⟩ := open_ints_slice rpS rpMk rpMk_cell Try.underlying56 (by decide) (by kernel_rfl) 5 (by kernel_rfl) (hval 0 56 v0 rfl rfl) h0
  refine (fnExactAreReports_walk v0 es0 W hr0).mono fun e W' ⟨he, hb⟩ => ?_
  subst he
  exact ⟨_, rfl, post_below hW' (trodAll_mk1 (shut_bool Try.underlying4 true)) (trodAll_mk1 (WideElems.Trod_stays laid_out (by kernel_rfl) (of_decide_eq_true (by kernel_rfl)) k0 (fun x hx => hb.same (hlt0 x hx)) (fun x hx => by simpa using hlt0 x hx))) rfl rfl hb⟩

theorem fnExactAreReports_holds : Rows.FnExactAreReportsSaid :=
  OpenClaim.holds_of_wide 8 Try.f8 rfl rfl rfl rfl rfl rfl rfl ⟨rfl, rfl, rfl, rfl, rfl⟩ rfl rfl rfl rfl rfl (by kernel_rfl) Try.func8 (by kernel_rfl)
    (of_decide_eq_true (by kernel_rfl)) (by unfold Func.isWrapper; rw [if_neg (of_decide_eq_false (by kernel_rfl))]; exact ⟨rfl, rfl⟩)
    (fun os started H enc _ => fnExactAreReports_lifted os started H enc)
--END
end Go.Proofs.Ytbaobchmhgmliaa
