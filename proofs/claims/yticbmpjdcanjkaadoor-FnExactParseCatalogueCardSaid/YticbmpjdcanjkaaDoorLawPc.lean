/- The law FnExactParseCatalogue: for all arguments the program's answer is the reference's. Conditions: none (the listed variables are tied to the program's text). -/
import Derived.Test.YticbmpjdcanjkaaDoorPcS2
import Derived.Test.YticbmpjdcanjkaaDoorSEntry
import Derived.Test.YticbmpjdcanjkaaDoorFPc
import Derived.Test.YticbmpjdcanjkaaDoorLaid7
import Derived.Test.YticbmpjdcanjkaaDoorOpenJ
import Derived.ChangeMaps5
import Derived.Test.YticbmpjdcanjkaaDoorFrame
import Derived.Test.YticbmpjdcanjkaaDoorTie
import Derived.Test.YticbmpjdcanjkaaDoorCards
import Derived.SevenTiedAt
import Derived.Stop.Joined
import Derived.ProofKit
namespace Go.Proofs.YticbmpjdcanjkaaDoor
open Go Go.RowKit Go.ChangeShapes Go.WideShapes

theorem pkV_len (s : ByteArray) : (pkV s).1.length ≤ 30 := by
  by_cases h : ∃ es, PcIs s es
  · obtain ⟨es, he⟩ := h
    rw [pkV_some he]
    have := pcIs_len he
    show es.length ≤ 30
    omega
  · rw [pkV_none (fun es he => h ⟨es, he⟩)]
    exact Nat.zero_le _
set_option maxHeartbeats 4000000 in
theorem fnExactParseCatalogue_walk (s : ByteArray) (w : World) (hd : s.size ≤ maxLen) (he : Env w) :
    Calls Tryd.prog 3 #[.string s] w fun e w' => e = .returned (.bool true) ∧ Below w.heap.size w w' := by
  unfold maxLen at hd
  have He := Lib.hid he; clear he
  by_cases hs : s.size ≤ 1048576
  · have hs1 : ¬ (1048576 : Int) < (s.size : Int) := by omega
    obtain ⟨ys, hys⟩ : ∃ ys, (pkV s).1 = ys := ⟨_, rfl⟩
    have hyl : ys.length ≤ 30 := by rw [← hys]; exact pkV_len s
    have Hsp := Lib.hid (fun W => specPc_any s W (by omega))
    have Him := Lib.hid (fun W he => implPc_any s W (by omega) he)
    unfold PcRet at Hsp Him
    rw [hys] at Hsp Him
    generalize (pkV s).2 = ok at Hsp Him
    clear hys
    go_enter Tryd.func3, Tryd.ntmps3
    go_wp2_with fail
    refine (Hsp.out _).mono ?_; rintro e w2 ⟨⟨v0, rfl, o0⟩, hb2⟩
    have He2 := Lib.hid (He.out.on hb2); have Hb2 := Lib.hid hb2; clear hb2
    have Lt0 := Lib.hid (fun k hk => (World.ownsRow.lt o0 k hk).2)
    obtain ⟨A0, c0, rfl⟩ := own_form o0
    have O0 := Lib.hid o0; clear o0
    go_wp2_with fail
    refine (Him.out _ He2.out).mono ?_; rintro e w4 ⟨⟨v1, rfl, o1⟩, hb4⟩
    obtain ⟨A1, c1, rfl⟩ := own_form o1
    have G1 := Lib.hid (World.ownsRow.lt o1)
    have O1 := Lib.hid o1; clear o1
    have O04 := Lib.hid (own_below O0.out hb4)
    have H34 := Lib.hid hb4; clear hb4
    go_wp2_with fail
    refine (eqEntryS_same _ _ ys _ (Rd.of_own O1.out rfl) (Rd.of_own O04.out rfl)).mono ?_; rintro e w5 ⟨rfl, hb5⟩
    have O15 := Lib.hid (own_below O1.out hb5)
    have H35 := Lib.hid (bthen H34.out hb5); clear hb5
    go_wp2_with fail
    refine (markEntryS_any _ _ _ _ _ _ O15.out (by omega) (by omega) (by omega)).mono ?_; rintro e w6 ⟨rfl, om, hg6⟩
    obtain ⟨K6, HK6⟩ : ∃ K : Int, (1 : Int) + ((ys.length * 5 : Nat) : Int) = K := ⟨_, rfl⟩
    rw [HK6]
    have hK6 : (0 : Int) ≤ K6 := by omega
    have hKu6 : K6 ≤ 16777216 := by omega
    have HKh6 := Lib.hid HK6; clear HK6
    have hb36 := H35.out.grown hg6 H35.out.size (fun k hk => ((G1).out k hk).1)
    have O06 := Lib.hid (own_below O0.out hb36)
    have O16 := Lib.hid om; clear om
    have Hb6 := Lib.hid (bthen Hb2.out hb36)
    have He6 := Lib.hid (He2.out.on hb36)
    clear hg6 hb36
    go_wp2_with fail
    refine (heldEntryS_any _ _ _ _ _ O16.out (by omega) (by omega) (by omega)).mono ?_; rintro e z7 ⟨rfl, rfl⟩
    rw [HKh6.out]
    go_wp2_with fail
    refine (Him.out _ He6.out).mono ?_; rintro e w8 ⟨⟨v2, rfl, o2⟩, hb8⟩
    obtain ⟨A2, c2, rfl⟩ := own_form o2
    have O08 := Lib.hid (own_below O06.out hb8)
    have O18 := Lib.hid (own_below O16.out hb8)
    have O2 := Lib.hid o2; clear o2
    have Hb8 := Lib.hid (bthen Hb6.out hb8); clear hb8
    go_wp2_with fail
    refine (eqEntryS_same _ _ ys _ (Rd.of_own O2.out rfl) (Rd.of_own O08.out rfl)).mono ?_; rintro e w9 ⟨rfl, hb9⟩
    have O19 := Lib.hid (own_below O18.out hb9)
    have Hb9 := Lib.hid (bthen Hb8.out hb9); clear hb9
    go_wp2_with fail
    refine (heldEntryS_any _ _ _ _ _ O19.out (by omega) (by omega) (by omega)).mono ?_; rintro e z10 ⟨rfl, rfl⟩
    rw [HKh6.out]
    go_wp2
    go_ret
    exact ⟨rfl, Hb9.out⟩
  · have hs1 : (1048576 : Int) < (s.size : Int) := by omega
    go_enter Tryd.func3, Tryd.ntmps3
    go_wp2
    go_ret
    exact ⟨rfl, Below.refl _ _⟩

set_option maxRecDepth 100000 in
theorem fnExactParseCatalogue_lifted (os : Os) (started : os.Started) (H : Type) (enc : TypeId × Value → H) :
    ReturnsInHanded {} Tryd.checked os 3 .any (fun w args => (Rows.fnExactParseCatalogueSpec.pre enc Tryd.prog Tryd.f3 [] false w args ∧ laidMetH Tryd.prog laid7 w) ∧ sizedMet enc Tryd.prog Tryd.f3 (OpenSpec.ofChange Rows.fnExactParseCatalogueSpec) false w args) (Rows.fnExactParseCatalogueSpec.post enc Tryd.prog Tryd.f3 false true false false) := by
  refine returns_shaped_and (C := Tryd.checked) (X := fun w _ => laidMetH Tryd.prog laid7 w) (fun _ _ _ hh h => h.of_heap hh) own_knob started (by kernel_rfl) Tryd.func3
    (ChangeSpec.witness_shaped (enc := enc) (C := Tryd.checked) (os := os) (X := fun w _ => laidMetH Tryd.prog laid7 w) false (World.laidAll Tryd.prog os laid7) #[.string ⟨#[]⟩] 8 (World.laidAll_os _ _ _) (World.shaped_of_ZipB (by kernel_rfl) (by kernel_rfl)) (by kernel_rfl) (by kernel_rfl) (by kernel_rfl) (door7 os _)) ?_
  intro W base args ds gs before hval0 hW hsh _ hL _
  have hval : ∀ (j : Nat) t v, Tryd.f3.params[j]? = some t → args[j]? = some v → Value.okWide Tryd.prog W .any base t v := hval0
  have hW' := hW
  obtain ⟨p, q, hA0, hV, rfl, hfz, hnd⟩ := hW
  have hA : DataW.TrodAll enc Tryd.prog W 0 (fun _ => true) true Tryd.f3.params.toList args.toList ds p := hA0
  rw [Tryd.params3] at hA hval
  obtain ⟨v0, d0, rfl, rfl, h0⟩ := trodAll_one hA
  obtain ⟨rfl, rfl⟩ := trodVars_none hV
  simp only [List.append_nil] at hW'
  have hlt := hW'.lt
  have hlt0 : ∀ x ∈ p, x.block < W.heap.size := hlt
  have k0 := h0
  obtain ⟨x0, rfl, hd0, hp0, w0⟩ := ChangeMaps.open_string Tryd.underlying9 (hval 0 9 v0 rfl rfl) h0
  refine (fnExactParseCatalogue_walk x0 W w0 (env_of_laid7 hL hsh)).mono fun e W' ⟨he, hb⟩ => ?_
  subst he
  exact ⟨_, rfl, post_below hW' (trodAll_mk1 (shut_bool Tryd.underlying4 true)) (trodAll_mk1 (WideElems.Trod_stays laid_out (by kernel_rfl) (of_decide_eq_true (by kernel_rfl)) k0 (fun x hx => hb.same (hlt0 x hx)) (fun x hx => by simpa using hlt0 x hx))) rfl (by first | rfl | (simp only [List.append_assoc]; done)) hb⟩

theorem fnExactParseCatalogue_holds : Rows.FnExactParseCatalogueSaid :=
  OpenClaim.holds_of_wide 3 Tryd.f3 rfl rfl rfl rfl rfl rfl rfl ⟨rfl, rfl, rfl, rfl, rfl⟩ rfl rfl rfl rfl rfl (by kernel_rfl) Tryd.func3 fnExactParseCatalogue_facts
    (of_decide_eq_true (by kernel_rfl)) (by unfold Func.isWrapper; rw [if_neg (of_decide_eq_false (by kernel_rfl))]; exact ⟨rfl, rfl⟩)
    (fun os started H enc _ => fnExactParseCatalogue_lifted os started H enc)


theorem fnExactParseCatalogue_card : Rows.FnExactParseCatalogueCardSaid :=
  Claim7.holds_tied_plain_at .later [] [.data, .data, .data, .data, .sentinel, .sentinel, .pinned] true (true, "b84ba51c38f8a646da1f55e3d7e59601714180b78d23d9825ed577d72b3834ee") true
    fnExactParseCatalogue_holds (fun _ h => by cases h) (by kernel_rfl) (fun _ h => by cases h) fnExactParseCatalogue_row_tie rfl ⟨rfl, rfl⟩ (by kernel_rfl) rfl
    (fun f fn hf hfn => by
      obtain rfl : f = 3 := Option.some.inj ((show Tryd.prog.funcNamed "loop.example/g01004/laws.FnExactParseCatalogue" = some 3 by kernel_rfl).symm.trans hf) |>.symm
      obtain rfl : fn = Tryd.f3 := (Option.some.inj (Tryd.func3.symm.trans hfn)).symm
      exact ⟨by kernel_rfl, fun j t ht => by
        rw [Tryd.params3] at ht
        have hm : t ∈ [9] := by simpa using Array.mem_of_getElem? ht
        have hall : ([9].all fun u => !Tryd.prog.wantsStandIn u) = true := by kernel_rfl
        exact (show Tryd.prog.wantsStandIn t = false by simpa using List.all_eq_true.1 hall t hm)⟩)
    (by kernel_rfl)

end Go.Proofs.YticbmpjdcanjkaaDoor
