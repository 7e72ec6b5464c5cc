/- The law FnExactJournalCatalogue: for all arguments the program's answer is the reference's. Conditions: none (the listed variables are tied to the program's text). -/
import Derived.Test.YticbmpjdcanjkaaGreatDoorJcAll
import Derived.Test.YticbmpjdcanjkaaGreatDoorSEntry
import Derived.Test.YticbmpjdcanjkaaGreatDoorFJc
import Derived.Test.YticbmpjdcanjkaaGreatDoorLaid7
import Derived.Test.YticbmpjdcanjkaaGreatDoorOpenJ
import Derived.ChangeMaps5
import Derived.Test.YticbmpjdcanjkaaGreatDoorFrame
import Derived.Test.YticbmpjdcanjkaaGreatDoorTie
import Derived.Test.YticbmpjdcanjkaaGreatDoorCards
import Derived.SevenTiedAt
import Derived.Stop.Joined
import Derived.ProofKit
namespace Go.Proofs.YticbmpjdcanjkaaGreatDoor
open Go Go.RowKit Go.ChangeShapes Go.WideShapes

set_option maxHeartbeats 4000000 in
theorem fnExactJournalCatalogue_walk (D P : ByteArray) (w : World) (hd : D.size ≤ maxLen) (hp : P.size ≤ maxLen) (he : Env w) :
    Calls Tryz.prog 4 #[.agg #[.string D, .string P]] w fun e w' => e = .returned (.bool true) ∧ Below w.heap.size w w' := by
  unfold maxLen at hd hp
  have Hbx := Lib.hid (Blk.new w 33 #[.string D, .string P])
  have hbA := bal (Below.refl w.heap.size w) (Obj.cells #[.string D, .string P] 33)
  have He := Lib.hid (he.on hbA)
  have HbA := Lib.hid hbA; clear hbA he
  go_enter Tryz.func4, Tryz.ntmps4
  go_wp2_with fail
  refine (szJournal_any D P _ hd hp).mono ?_; rintro e w0 ⟨rfl, hb0⟩
  have HB0 := Lib.hid (Hbx.out.on hb0); have He0 := Lib.hid (He.out.on hb0); have Hb0 := Lib.hid (bthen HbA.out hb0); clear hb0
  have q0 := HB0.out.cell 0
  have q1 := HB0.out.cell 1
  have ql := HB0.out.lt
  simp at q0 q1
  by_cases hs : D.size + P.size ≤ 1048576
  · have hj : JB D P := ⟨hs⟩
    rw [if_pos (by omega)]
    have hge : (0 : Int) ≤ 1048576 - ((D.size : Int) + (P.size : Int)) := by omega
    go_wp2_with fail
    refine (toJournal_any D P _).mono ?_; rintro e w1 ⟨rfl, hb1⟩
    have HB1 := Lib.hid (HB0.out.on hb1); have He1 := Lib.hid (He0.out.on hb1); have Hb1 := Lib.hid (bthen Hb0.out hb1); clear hb1 q0 q1 ql
    obtain ⟨ys, hys⟩ : ∃ ys, (jcV D P).1 = ys := ⟨_, rfl⟩
    have hyl : ys.length ≤ 30 := by rw [← hys]; exact jcV_len D P
    have Hsp := Lib.hid (fun W => specJc_any D P W hj)
    have Him := Lib.hid (fun W he => implJc_any D P W hj he)
    rw [hys] at Hsp Him
    generalize (jcV D P).2 = ok at Hsp Him
    clear hys
    go_wp2_with fail
    refine (Hsp.out _).mono ?_; rintro e w2 ⟨⟨v0, rfl, o0⟩, hb2⟩
    have HB2 := Lib.hid (HB1.out.on hb2); have He2 := Lib.hid (He1.out.on hb2); have Hb2 := Lib.hid (bthen Hb1.out hb2); clear hb2
    have Lt0 := Lib.hid (fun k hk => (World.ownsRow.lt o0 k hk).2)
    have q0 := HB2.out.cell 0
    have q1 := HB2.out.cell 1
    have ql := HB2.out.lt
    simp at q0 q1
    obtain ⟨A0, c0, rfl⟩ := own_form o0
    have O0 := Lib.hid o0; clear o0
    go_wp2_with fail
    refine (toJournal_any D P _).mono ?_; rintro e w3 ⟨rfl, hb3⟩
    have HB3 := Lib.hid (HB2.out.on hb3); have He3 := Lib.hid (He2.out.on hb3); have Hb3 := Lib.hid (bthen Hb2.out hb3)
    have O03 := Lib.hid (own_below O0.out hb3)
    have Hs3 := Lib.hid hb3.size; clear hb3 q0 q1 ql
    go_wp2_with fail
    refine (Him.out _ He3.out).mono ?_; rintro e w4 ⟨⟨v1, rfl, o1⟩, hb4⟩
    obtain ⟨A1, c1, rfl⟩ := own_form o1
    have G1 := Lib.hid (World.ownsRow.lt o1)
    have O1 := Lib.hid o1; clear o1
    have O04 := Lib.hid (own_below O03.out hb4)
    have H34 := Lib.hid hb4; clear hb4
    go_wp2_with fail
    refine (eqEntryS_same _ _ ys _ (Rd.of_own O1.out rfl) (Rd.of_own O04.out rfl)).mono ?_; rintro e w5 ⟨rfl, hb5⟩
    have O15 := Lib.hid (own_below O1.out hb5)
    have H35 := Lib.hid (bthen H34.out hb5); clear hb5
    go_wp2_with fail
    refine (markEntryS_any _ _ _ _ _ _ O15.out (by omega) (by omega) (by omega)).mono ?_; rintro e w6 ⟨rfl, om, hg6⟩
    obtain ⟨K6, HK6⟩ : ∃ K : Int, (1 : Int) + ((ys.length * 5 : Nat) : Int) = K := ⟨_, rfl⟩
    rw [HK6]
    have hK6 : (0 : Int) ≤ K6 := by omega
    have hKu6 : K6 ≤ 16777216 := by omega
    have HKh6 := Lib.hid HK6; clear HK6
    have hb36 := H35.out.grown hg6 H35.out.size (fun k hk => ((G1).out k hk).1)
    have O06 := Lib.hid (own_below O03.out hb36)
    have O16 := Lib.hid om; clear om
    have Hb6 := Lib.hid (bthen Hb3.out hb36)
    have HB6 := Lib.hid (HB3.out.on hb36)
    have He6 := Lib.hid (He3.out.on hb36)
    clear hg6 hb36
    go_wp2_with fail
    refine (heldEntryS_any _ _ _ _ _ O16.out (by omega) (by omega) (by omega)).mono ?_; rintro e z7 ⟨rfl, rfl⟩
    rw [HKh6.out]
    have q0 := HB6.out.cell 0
    have q1 := HB6.out.cell 1
    have ql := HB6.out.lt
    simp at q0 q1
    go_wp2_with fail
    refine (toJournal_any D P _).mono ?_; rintro e w7 ⟨rfl, hb7⟩
    have O07 := Lib.hid (own_below O06.out hb7)
    have O17 := Lib.hid (own_below O16.out hb7)
    have He7 := Lib.hid (He6.out.on hb7); have Hb7 := Lib.hid (bthen Hb6.out hb7); clear hb7 q0 q1 ql
    go_wp2_with fail
    refine (Him.out _ He7.out).mono ?_; rintro e w8 ⟨⟨v2, rfl, o2⟩, hb8⟩
    obtain ⟨A2, c2, rfl⟩ := own_form o2
    have O08 := Lib.hid (own_below O07.out hb8)
    have O18 := Lib.hid (own_below O17.out hb8)
    have O2 := Lib.hid o2; clear o2
    have Hb8 := Lib.hid (bthen Hb7.out hb8); clear hb8
    go_wp2_with fail
    refine (eqEntryS_same _ _ ys _ (Rd.of_own O2.out rfl) (Rd.of_own O08.out rfl)).mono ?_; rintro e w9 ⟨rfl, hb9⟩
    have O19 := Lib.hid (own_below O18.out hb9)
    have Hb9 := Lib.hid (bthen Hb8.out hb9); clear hb9
    go_wp2_with fail
    refine (heldEntryS_any _ _ _ _ _ O19.out (by omega) (by omega) (by omega)).mono ?_; rintro e z10 ⟨rfl, rfl⟩
    rw [HKh6.out]
    go_wp2
    go_ret
    exact ⟨rfl, Hb9.out⟩
  · rw [if_neg (by omega)]
    go_wp2
    go_ret
    exact ⟨rfl, Hb0.out⟩

set_option maxRecDepth 100000 in
theorem fnExactJournalCatalogue_lifted (os : Os) (started : os.Started) (H : Type) (enc : TypeId × Value → H) :
    ReturnsInHanded {} Tryz.checked os 4 .any (fun w args => (Rows.fnExactJournalCatalogueSpec.pre enc Tryz.prog Tryz.f4 [] false w args ∧ laidMetH Tryz.prog laid7 w) ∧ sizedMet enc Tryz.prog Tryz.f4 (OpenSpec.ofChange Rows.fnExactJournalCatalogueSpec) false w args) (Rows.fnExactJournalCatalogueSpec.post enc Tryz.prog Tryz.f4 false true false false) := by
  refine returns_shaped_and (C := Tryz.checked) (X := fun w _ => laidMetH Tryz.prog laid7 w) (fun _ _ _ hh h => h.of_heap hh) own_knob started (by kernel_rfl) Tryz.func4
    (ChangeSpec.witness_shaped (enc := enc) (C := Tryz.checked) (os := os) (X := fun w _ => laidMetH Tryz.prog laid7 w) false (World.laidAll Tryz.prog os laid7) #[.agg #[.string ⟨#[]⟩, .string ⟨#[]⟩]] 8 (World.laidAll_os _ _ _) (World.shaped_of_ZipB (by kernel_rfl) (by kernel_rfl)) (by kernel_rfl) (by kernel_rfl) (by kernel_rfl) (door7 os _)) ?_
  intro W base args ds gs before hval0 hW hsh _ hL _
  have hval : ∀ (j : Nat) t v, Tryz.f4.params[j]? = some t → args[j]? = some v → Value.okWide Tryz.prog W .any base t v := hval0
  have hW' := hW
  obtain ⟨p, q, hA0, hV, rfl, hfz, hnd⟩ := hW
  have hA : DataW.TrodAll enc Tryz.prog W 0 (fun _ => true) true Tryz.f4.params.toList args.toList ds p := hA0
  rw [Tryz.params4] at hA hval
  obtain ⟨v0, d0, rfl, rfl, h0⟩ := trodAll_one hA
  obtain ⟨rfl, rfl⟩ := trodVars_none hV
  simp only [List.append_nil] at hW'
  have hlt := hW'.lt
  have hlt0 : ∀ x ∈ p, x.block < W.heap.size := hlt
  have k0 := h0
  obtain ⟨x0D, x0P, rfl, z0D, z0P⟩ := open_jrn Tryz.underlying33 Tryz.underlying9 Tryz.underlying9 (by kernel_rfl) (by kernel_rfl) (hval 0 33 v0 rfl rfl) h0
  refine (fnExactJournalCatalogue_walk x0D x0P W z0D z0P (env_of_laid7 hL hsh)).mono fun e W' ⟨he, hb⟩ => ?_
  subst he
  exact ⟨_, rfl, post_below hW' (trodAll_mk1 (shut_bool Tryz.underlying4 true)) (trodAll_mk1 (WideElems.Trod_stays laid_out (by kernel_rfl) (of_decide_eq_true (by kernel_rfl)) k0 (fun x hx => hb.same (hlt0 x hx)) (fun x hx => by simpa using hlt0 x hx))) rfl (by first | rfl | (simp only [List.append_assoc]; done)) hb⟩

theorem fnExactJournalCatalogue_holds : Rows.FnExactJournalCatalogueSaid :=
  OpenClaim.holds_of_wide 4 Tryz.f4 rfl rfl rfl rfl rfl rfl rfl ⟨rfl, rfl, rfl, rfl, rfl⟩ rfl rfl rfl rfl rfl (by kernel_rfl) Tryz.func4 fnExactJournalCatalogue_facts
    (of_decide_eq_true (by kernel_rfl)) (by unfold Func.isWrapper; rw [if_neg (of_decide_eq_false (by kernel_rfl))]; exact ⟨rfl, rfl⟩)
    (fun os started H enc _ => fnExactJournalCatalogue_lifted os started H enc)


theorem fnExactJournalCatalogue_card : Rows.FnExactJournalCatalogueCardSaid :=
  Claim7.holds_tied_plain_at .later [] [.data, .data, .data, .data, .sentinel, .sentinel, .pinned] true (true, "028d706242d6d24a84ba72bde898bf56b7f2cb9817bdebf15fd623fe33fb5b96") true
    fnExactJournalCatalogue_holds (fun _ h => by cases h) (by kernel_rfl) (fun _ h => by cases h) fnExactJournalCatalogue_row_tie rfl ⟨rfl, rfl⟩ (by kernel_rfl) rfl
    (fun f fn hf hfn => by
      obtain rfl : f = 4 := Option.some.inj ((show Tryz.prog.funcNamed "loop.example/g01004/laws.FnExactJournalCatalogue" = some 4 by kernel_rfl).symm.trans hf) |>.symm
      obtain rfl : fn = Tryz.f4 := (Option.some.inj (Tryz.func4.symm.trans hfn)).symm
      exact ⟨by kernel_rfl, fun j t ht => by
        rw [Tryz.params4] at ht
        have hm : t ∈ [33] := by simpa using Array.mem_of_getElem? ht
        have hall : ([33].all fun u => !Tryz.prog.wantsStandIn u) = true := by kernel_rfl
        exact (show Tryz.prog.wantsStandIn t = false by simpa using List.all_eq_true.1 hall t hm)⟩)
    (by kernel_rfl)

end Go.Proofs.YticbmpjdcanjkaaGreatDoor
