/- The law FnExactWithoutContradictions: for all arguments the program's answer is the reference's. Conditions: none. -/
import Derived.Test.YtkalelljncapdaaSReport
import Derived.Test.YtkalelljncapdaaWithout
import Derived.Deep.RegionHeld3
import Derived.Deep.DeepCutAuto
import Derived.Test.YtkalelljncapdaaFrame
namespace Go.Proofs.Ytkalelljncapdaa
open Go Go.RowKit Go.ChangeShapes Go.WideShapes

set_option maxHeartbeats 4000000 in
theorem fnExactWithoutContradictions_walk (v0 : Value) (es0 : List Rp) (w : World) (hr0 : Rd rpS w w.heap.size v0 es0) :
    Calls Try.prog 10 #[v0] w fun e w' => e = .returned (.bool true) ∧ Below w.heap.size w w' := by
  have hq0 := hr0
  obtain ⟨A0, c0, rfl, hc0, hm0, -⟩ := hq0
  unfold maxLen at hm0
  have Hr0 := Lib.hid hr0; clear hr0
  by_cases hl0 : es0.length ≤ 1048576
  · skip
    go_enter Try.func10, Try.ntmps10
    go_wp2_with fail
    refine (szReportS_any _ _ _ _ _ (by omega) (by omega) (by omega)).mono ?_; rintro e z0 ⟨rfl, rfl⟩
    rw [szI_pos (by omega)]
    have hge0 : (0 : Int) ≤ 1048576 - (es0.length : Int) := by omega
    go_wp2_with fail
    refine (toReportS_any _ es0 _ Hr0.out (by omega)).mono ?_; rintro e w1 ⟨cp1, rfl, ho1, hb1⟩
    have Hs1 := Lib.hid ((hb1).size)
    replace hb1 := bthen (Below.refl _ _) hb1
    go_wp2_with fail
    refine (specWithout_any _ es0 _ (Rd.of_own ho1 rfl)).mono ?_; rintro e w2 ⟨⟨v0, y0, b0, rfl, hy0, o0⟩, hb2⟩
    replace ho1 := own_below ho1 (hb2)
    have Hs2 := Lib.hid ((hb2).size)
    replace hb2 := bthen (hb1) hb2
    clear ho1
    have Hy0 := Lib.hid hy0; clear hy0
    have Lt0 := Lib.hid (fun k hk => (World.ownsRow.lt o0 k hk).2)
    have ly := withG_len y0 b0 Hy0.out
    go_wp2_with fail
    refine (toReportS_any _ es0 _ (Hr0.out.on (hb2)) (by omega)).mono ?_; rintro e w3 ⟨cp3, rfl, ho3, hb3⟩
    replace o0 := own_below o0 (hb3)
    have Hs3 := Lib.hid ((hb3).size)
    replace hb3 := bthen (hb2) hb3
    have Gho3 := Lib.hid (World.ownsRow.lt ho3)
    go_wp2_with fail
    refine (implWithout_any _ es0 _ (Rd.of_own ho3 rfl)).mono ?_; rintro e w4 ⟨⟨v1, y1, b1, rfl, hy1, o1⟩, hb4⟩
    replace o0 := own_below o0 (hb4)
    replace ho3 := own_below ho3 (hb4)
    have Hs4 := Lib.hid ((hb4).size)
    replace hb4 := bthen (hb3) hb4
    obtain ⟨rfl, rfl⟩ : y0 = y1 ∧ b0 = b1 := by have := Hy0.out.symm.trans hy1; simpa using this
    clear hy1
    have G1 := Lib.hid (World.ownsRow.lt o1)
    go_wp2_with fail
    refine (eqReportS_same _ _ y0 _ (Rd.of_own o1 rfl) (Rd.of_own o0 rfl)).mono ?_; rintro e w5 ⟨rfl, hb5⟩
    replace o0 := own_below o0 (hb5)
    replace ho3 := own_below ho3 (hb5)
    replace o1 := own_below o1 (hb5)
    have Hs5 := Lib.hid ((hb5).size)
    replace hb5 := bthen (hb4) hb5
    go_wp2_with fail
    refine (toReportS_any _ es0 _ (Hr0.out.on (hb5)) (by omega)).mono ?_; rintro e w6 ⟨cp6, rfl, ho6, hb6⟩
    replace o0 := own_below o0 (hb6)
    replace ho3 := own_below ho3 (hb6)
    replace o1 := own_below o1 (hb6)
    have Hs6 := Lib.hid ((hb6).size)
    replace hb6 := bthen (hb5) hb6
    go_wp2_with fail
    refine (eqReportS_same _ _ es0 _ (Rd.of_own ho3 rfl) (Rd.of_own ho6 rfl)).mono ?_; rintro e w7 ⟨rfl, hb7⟩
    replace o0 := own_below o0 (hb7)
    replace ho3 := own_below ho3 (hb7)
    replace o1 := own_below o1 (hb7)
    replace ho6 := own_below ho6 (hb7)
    have Hs7 := Lib.hid ((hb7).size)
    replace hb7 := bthen (hb6) hb7
    clear ho6
    go_wp2_with fail
    refine (markReportS_any _ _ _ _ _ _ ho3 (by omega) (by omega) (by omega)).mono ?_; rintro e w8 ⟨rfl, om, hg8⟩
    obtain ⟨K8, HK8⟩ : ∃ K : Int, (1 : Int) + ((es0.length * 7 : Nat) : Int) = K := ⟨_, rfl⟩
    rw [HK8]
    have hK8 : (0 : Int) ≤ K8 := by omega
    have hKu8 : K8 ≤ 16777216 := by omega
    have HKh8 := Lib.hid HK8; clear HK8
    replace o0 := o0.kept hg8 (own_apart (by intro k hk hk2; have g1 := Lt0.out k hk; have g2 := (Gho3).out k hk2; have z1 := Hs1.out; have z2 := Hs2.out; have z3 := Hs3.out; have z4 := Hs4.out; have z5 := Hs5.out; have z6 := Hs6.out; have z7 := Hs7.out; omega))
    replace o1 := o1.kept hg8 (own_apart (by intro k hk hk2; have g1 := (G1).out k hk; have g2 := (Gho3).out k hk2; have z1 := Hs1.out; have z2 := Hs2.out; have z3 := Hs3.out; have z4 := Hs4.out; have z5 := Hs5.out; have z6 := Hs6.out; have z7 := Hs7.out; omega))
    clear ho3
    have ho3 := om; clear om
    have hb8 := (hb7).grown hg8 (hb7).size (fun k hk => by have g2 := (Gho3).out k hk; have z1 := Hs1.out; have z2 := Hs2.out; have z3 := Hs3.out; have z4 := Hs4.out; have z5 := Hs5.out; have z6 := Hs6.out; have z7 := Hs7.out; omega)
    clear ho3
    go_wp2_with fail
    refine (eqReportS_same _ _ y0 _ (Rd.of_own o1 rfl) (Rd.of_own o0 rfl)).mono ?_; rintro e w9 ⟨rfl, hb9⟩
    replace o0 := own_below o0 (hb9)
    replace o1 := own_below o1 (hb9)
    have Hs9 := Lib.hid ((hb9).size)
    replace hb9 := bthen (hb8) hb9
    go_wp2_with fail
    refine (markReportS_any _ _ _ _ _ _ o1 (by omega) (by omega) (by omega)).mono ?_; rintro e w10 ⟨rfl, om, hg10⟩
    obtain ⟨K10, HK10⟩ : ∃ K : Int, (1 : Int) + ((y0.length * 7 : Nat) : Int) = K := ⟨_, rfl⟩
    rw [HK10]
    have hK10 : (0 : Int) ≤ K10 := by omega
    have hKu10 : K10 ≤ 16777216 := by omega
    have HKh10 := Lib.hid HK10; clear HK10
    replace o0 := o0.kept hg10 (own_apart (by intro k hk hk2; have g1 := Lt0.out k hk; have g2 := (G1).out k hk2; have z1 := Hs1.out; have z2 := Hs2.out; have z3 := Hs3.out; have z4 := Hs4.out; have z5 := Hs5.out; have z6 := Hs6.out; have z7 := Hs7.out; omega))
    clear o1
    have o1 := om; clear om
    have hb10 := (hb9).grown hg10 (hb9).size (fun k hk => by have g2 := (G1).out k hk; have z1 := Hs1.out; have z2 := Hs2.out; have z3 := Hs3.out; have z4 := Hs4.out; have z5 := Hs5.out; have z6 := Hs6.out; have z7 := Hs7.out; omega)
    go_wp2_with fail
    refine (heldReportS_any _ _ _ _ _ o1 (by omega) (by omega) (by omega)).mono ?_; rintro e z100 ⟨rfl, rfl⟩
    rw [HKh10.out]
    go_wp2_with fail
    refine (toReportS_any _ es0 _ (Hr0.out.on (hb10)) (by omega)).mono ?_; rintro e w11 ⟨cp11, rfl, ho11, hb11⟩
    replace o0 := own_below o0 (hb11)
    replace o1 := own_below o1 (hb11)
    have Hs11 := Lib.hid ((hb11).size)
    replace hb11 := bthen (hb10) hb11
    go_wp2_with fail
    refine (implWithout_any _ es0 _ (Rd.of_own ho11 rfl)).mono ?_; rintro e w12 ⟨⟨v2, y2, b2, rfl, hy2, o2⟩, hb12⟩
    replace o0 := own_below o0 (hb12)
    replace o1 := own_below o1 (hb12)
    replace ho11 := own_below ho11 (hb12)
    have Hs12 := Lib.hid ((hb12).size)
    replace hb12 := bthen (hb11) hb12
    clear ho11
    obtain ⟨rfl, rfl⟩ : y0 = y2 ∧ b0 = b2 := by have := Hy0.out.symm.trans hy2; simpa using this
    clear hy2
    go_wp2_with fail
    refine (eqReportS_same _ _ y0 _ (Rd.of_own o2 rfl) (Rd.of_own o0 rfl)).mono ?_; rintro e w13 ⟨rfl, hb13⟩
    replace o0 := own_below o0 (hb13)
    replace o1 := own_below o1 (hb13)
    replace o2 := own_below o2 (hb13)
    have Hs13 := Lib.hid ((hb13).size)
    replace hb13 := bthen (hb12) hb13
    go_wp2_with fail
    refine (heldReportS_any _ _ _ _ _ o1 (by omega) (by omega) (by omega)).mono ?_; rintro e z103 ⟨rfl, rfl⟩
    rw [HKh10.out]
    go_wp2
    go_ret
    exact ⟨rfl, hb13⟩
  · skip
    go_enter Try.func10, Try.ntmps10
    go_wp2_with fail
    refine (szReportS_any _ _ _ _ _ (by omega) (by omega) (by omega)).mono ?_; rintro e z0 ⟨rfl, rfl⟩
    rw [szI_neg (by omega)]
    go_wp2
    go_ret
    exact ⟨rfl, by (repeat (with_reducible first | exact Below.refl _ _ | assumption | refine bal ?_ _ | refine bst ?_ (by simp <;> omega) _ | refine Below.drew ?_ | refine bthen ?_ (by assumption)))⟩

set_option maxRecDepth 100000 in
theorem fnExactWithoutContradictions_lifted (os : Os) (started : os.Started) (H : Type) (enc : TypeId × Value → H) :
    ReturnsInHanded {} Try.checked os 10 .any (Rows.fnExactWithoutContradictionsSpec.pre6 enc Try.prog Try.f10 Rows.fnExactWithoutContradictionsRow.domain false) (Rows.fnExactWithoutContradictionsSpec.post enc Try.prog Try.f10 false true false false) := by
  refine returnsInHanded_of_change (C := Try.checked) own_knob started (by kernel_rfl) Try.func10
    (ChangeSpec.witness6 (enc := enc) (C := Try.checked) false ⟨#[], #[.slice none 0 0], []⟩ 8 (by kernel_rfl) (by kernel_rfl) (by kernel_rfl) (by kernel_rfl)) ?_
  intro W base args ds gs before hval0 hW _ _
  have hval : ∀ (j : Nat) t v, Try.f10.params[j]? = some t → args[j]? = some v → Value.okWide Try.prog W .any base t v := hval0
  have hW' := hW
  obtain ⟨p, q, hA0, hV, rfl, hfz, hnd⟩ := hW
  have hA : DataW.TrodAll enc Try.prog W 0 (fun _ => true) true Try.f10.params.toList args.toList ds p := hA0
  rw [Try.params10] at hA hval
  obtain ⟨v0, d0, rfl, rfl, h0⟩ := trodAll_one hA
  obtain ⟨rfl, rfl⟩ := trodVars_none hV
  simp only [List.append_nil] at hW'
  have hlt := hW'.lt
  have hlt0 : ∀ x ∈ p, x.block < W.heap.size := hlt
  have k0 := h0
  obtain ⟨es0, hr0⟩ := open_ints_slice rpS rpMk rpMk_cell Try.underlying22 (by decide) (by kernel_rfl) 5 (by kernel_rfl) (hval 0 22 v0 rfl rfl) h0
  refine (fnExactWithoutContradictions_walk v0 es0 W hr0).mono fun e W' ⟨he, hb⟩ => ?_
  subst he
  exact ⟨_, rfl, post_below hW' (trodAll_mk1 (shut_bool Try.underlying4 true)) (trodAll_mk1 (WideElems.Trod_stays laid_out (by kernel_rfl) (of_decide_eq_true (by kernel_rfl)) k0 (fun x hx => hb.same (hlt0 x hx)) (fun x hx => by simpa using hlt0 x hx))) rfl rfl hb⟩

theorem fnExactWithoutContradictions_holds : Rows.FnExactWithoutContradictionsSaid :=
  OpenClaim.holds_of_wide 10 Try.f10 rfl rfl rfl rfl rfl rfl rfl ⟨rfl, rfl, rfl, rfl, rfl⟩ rfl rfl rfl rfl rfl (by kernel_rfl) Try.func10 (by kernel_rfl)
    (of_decide_eq_true (by kernel_rfl)) (by unfold Func.isWrapper; rw [if_neg (of_decide_eq_false (by kernel_rfl))]; exact ⟨rfl, rfl⟩)
    (fun os started H enc _ => fnExactWithoutContradictions_lifted os started H enc)

end Go.Proofs.Ytkalelljncapdaa
