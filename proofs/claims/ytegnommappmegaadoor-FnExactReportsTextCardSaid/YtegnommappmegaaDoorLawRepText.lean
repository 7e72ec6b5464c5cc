/- The law FnExactReportsText: for all arguments the program's answer is the reference's. Conditions: none (the listed tables are tied to the program's text). -/
import Derived.Test.YtegnommappmegaaDoorRepT
import Derived.Test.YtegnommappmegaaDoorSReport
import Derived.Test.YtegnommappmegaaDoorFRepText
import Derived.Test.YtegnommappmegaaDoorLaid
import Derived.Test.YtegnommappmegaaDoorFrame
import Derived.Test.YtegnommappmegaaDoorTie
import Derived.Test.YtegnommappmegaaDoorCards
import Derived.SevenTiedAt
import Derived.Stop.Joined
import Derived.ProofKit
namespace Go.Proofs.YtegnommappmegaaDoor
open Go Go.RowKit Go.ChangeShapes Go.WideShapes

set_option maxHeartbeats 4000000 in
theorem fnExactReportsText_walk (v : Value) (es : List Rp) (w : World) (hr : Rd rpS w w.heap.size v es) (ht : Tab w) :
    Calls Tryd.prog 5 #[v] w fun e w' => e = .returned (.bool true) ∧ Below w.heap.size w w' := by
  have hr0 := hr
  obtain ⟨A, c, rfl, hc, hm, -⟩ := hr0
  unfold maxLen at hm
  have Tb := Lib.hid ht; clear ht
  by_cases hlen : es.length ≤ 1048576
  · go_enter Tryd.func5, Tryd.ntmps5
    go_wp2_with fail
    refine (szReportS_any _ _ _ _ _ (by omega) (by omega) (by omega)).mono ?_; rintro e w1 ⟨rfl, rfl⟩
    rw [szI_pos (by omega)]
    have hge : (0 : Int) ≤ 1048576 - (es.length : Int) := by omega
    go_wp2_with fail
    refine (toReportS_any _ es _ hr hlen).mono ?_; rintro e w1 ⟨c1, rfl, ho1, hb1⟩
    go_wp2_with fail
    refine (specRepText_any _ es _ (Rd.of_own ho1 rfl)).mono ?_; rintro e w2 ⟨rfl, hb2⟩
    replace hb2 := bthen hb1 hb2
    go_wp2_with fail
    refine (toReportS_any _ es _ (hr.on hb2) hlen).mono ?_; rintro e w3 ⟨c3, rfl, ho3, hb3⟩
    have hx := Rd.of_own ho3 rfl
    replace hb3 := bthen hb2 hb3
    go_wp2_with fail
    refine (implRepText_any _ es _ hx (Tb.out.on hb3)).mono ?_; rintro e w4 ⟨rfl, hb4⟩
    replace hx := hx.on hb4
    replace hb4 := bthen hb3 hb4
    go_wp2_with fail
    refine (toReportS_any _ es _ (hr.on hb4) hlen).mono ?_; rintro e w5 ⟨c5, rfl, ho5, hb5⟩
    replace hx := hx.on hb5
    replace hb5 := bthen hb4 hb5
    go_wp2_with fail
    refine (eqReportS_same _ _ es _ hx (Rd.of_own ho5 rfl)).mono ?_; rintro e w6 ⟨rfl, hb6⟩
    replace hb6 := bthen hb5 hb6
    go_wp2
    go_ret
    exact ⟨rfl, hb6⟩
  · go_enter Tryd.func5, Tryd.ntmps5
    go_wp2_with fail
    refine (szReportS_any _ _ _ _ _ (by omega) (by omega) (by omega)).mono ?_; rintro e w1 ⟨rfl, rfl⟩
    rw [szI_neg (by omega)]
    go_wp2
    go_ret
    exact ⟨rfl, Below.refl _ _⟩

set_option maxRecDepth 100000 in
theorem fnExactReportsText_lifted (os : Os) (started : os.Started) (H : Type) (enc : TypeId × Value → H) :
    ReturnsInHanded {} Tryd.checked os 5 .any (fun w args => (Rows.fnExactReportsTextSpec.pre enc Tryd.prog Tryd.f5 [] false w args ∧ laidMetH Tryd.prog laid3 w) ∧ sizedMet enc Tryd.prog Tryd.f5 (OpenSpec.ofChange Rows.fnExactReportsTextSpec) false w args) (Rows.fnExactReportsTextSpec.post enc Tryd.prog Tryd.f5 false true false false) := by
  refine returnsInHanded_of_change_and (C := Tryd.checked) (X := fun w _ => laidMetH Tryd.prog laid3 w) (fun _ _ _ hh h => h.of_heap hh) own_knob started (by kernel_rfl) Tryd.func5
    (ChangeSpec.witness_shaped (enc := enc) (C := Tryd.checked) (os := os) (X := fun w _ => laidMetH Tryd.prog laid3 w) false (World.doorLaid Tryd.prog 72 os) #[.slice none 0 0] 8 rfl (World.shaped_of_RefB (by kernel_rfl) (by kernel_rfl)) (by kernel_rfl) (by kernel_rfl) (by kernel_rfl) (door3 os _)) ?_
  intro W base args ds gs before hval0 hW _ _ hL _
  have hval : ∀ (j : Nat) t v, Tryd.f5.params[j]? = some t → args[j]? = some v → Value.okWide Tryd.prog W .any base t v := hval0
  have hW' := hW
  obtain ⟨p, q, hA0, hV, rfl, hfz, hnd⟩ := hW
  have hA : DataW.TrodAll enc Tryd.prog W 0 (fun _ => true) true Tryd.f5.params.toList args.toList ds p := hA0
  rw [Tryd.params5] at hA hval
  obtain ⟨v0, d0, rfl, rfl, h0⟩ := trodAll_one hA
  obtain ⟨rfl, rfl⟩ := trodVars_none hV
  simp only [List.append_nil] at hW'
  have hlt := hW'.lt
  have hlt0 : ∀ x ∈ p, x.block < W.heap.size := hlt
  have k0 := h0
  obtain ⟨es0, hr0⟩ := open_ints_slice rpS rpMk rpMk_cell Tryd.underlying40 (by decide) (by kernel_rfl) 5 (by kernel_rfl) (hval 0 40 v0 rfl rfl) h0
  refine (fnExactReportsText_walk v0 es0 W hr0 (tab_of_laid3 hL)).mono fun e W' ⟨he, hb⟩ => ?_
  subst he
  exact ⟨_, rfl, post_below hW' (trodAll_mk1 (shut_bool Tryd.underlying4 true)) (trodAll_mk1 (WideElems.Trod_stays laid_out (by kernel_rfl) (of_decide_eq_true (by kernel_rfl)) k0 (fun x hx => hb.same (hlt0 x hx)) (fun x hx => by simpa using hlt0 x hx))) rfl (by first | rfl | (simp only [List.append_assoc]; done)) hb⟩

theorem fnExactReportsText_holds : Rows.FnExactReportsTextSaid :=
  OpenClaim.holds_of_wide 5 Tryd.f5 rfl rfl rfl rfl rfl rfl rfl ⟨rfl, rfl, rfl, rfl, rfl⟩ rfl rfl rfl rfl rfl (by kernel_rfl) Tryd.func5 fnExactReportsText_facts
    (of_decide_eq_true (by kernel_rfl)) (by unfold Func.isWrapper; rw [if_neg (of_decide_eq_false (by kernel_rfl))]; exact ⟨rfl, rfl⟩)
    (fun os started H enc _ => fnExactReportsText_lifted os started H enc)


theorem fnExactReportsText_card : Rows.FnExactReportsTextCardSaid :=
  Claim7.holds_tied_plain_at .later [] [.data, .data, .data] true (true, "fe6689c953cf34b2516cf44cbca2f30bcdb6e88459cca52bc4d8a0854e218c26") true
    fnExactReportsText_holds (fun _ h => by cases h) (by kernel_rfl) (fun _ h => by cases h) fnExactReportsText_row_tie rfl ⟨rfl, rfl⟩ (by kernel_rfl) rfl
    (fun f fn hf hfn => by
      obtain rfl : f = 5 := Option.some.inj ((show Tryd.prog.funcNamed "loop.example/g01004/laws.FnExactReportsText" = some 5 by kernel_rfl).symm.trans hf) |>.symm
      obtain rfl : fn = Tryd.f5 := (Option.some.inj (Tryd.func5.symm.trans hfn)).symm
      exact ⟨by kernel_rfl, fun j t ht => by
        rw [Tryd.params5] at ht
        have hm : t ∈ [40] := by simpa using Array.mem_of_getElem? ht
        have hall : ([40].all fun u => !Tryd.prog.wantsStandIn u) = true := by kernel_rfl
        exact (show Tryd.prog.wantsStandIn t = false by simpa using List.all_eq_true.1 hall t hm)⟩)
    (by kernel_rfl)

end Go.Proofs.YtegnommappmegaaDoor
