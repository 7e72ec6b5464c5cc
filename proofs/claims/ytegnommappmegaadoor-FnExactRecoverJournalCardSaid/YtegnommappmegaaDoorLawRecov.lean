/- The law FnExactRecoverJournal: for all arguments the program's answer is the reference's. Conditions: none (the listed variables are tied to the program's text). -/
import Derived.Test.YtegnommappmegaaDoorJour2
import Derived.Test.YtegnommappmegaaDoorFRecov
import Derived.Test.YtegnommappmegaaDoorLaid7
import Derived.Test.YtegnommappmegaaDoorOpenJ
import Derived.ChangeMaps5
import Derived.Test.YtegnommappmegaaDoorFrame
import Derived.Test.YtegnommappmegaaDoorTie
import Derived.Test.YtegnommappmegaaDoorCards
import Derived.SevenTiedAt
import Derived.Stop.Joined
import Derived.ProofKit
namespace Go.Proofs.YtegnommappmegaaDoor
open Go Go.RowKit Go.ChangeShapes Go.WideShapes

set_option maxHeartbeats 4000000 in
theorem fnExactRecoverJournal_walk (s : ByteArray) (w : World) (hd : s.size ≤ maxLen) (he : Env w) :
    Calls Tryd.prog 7 #[.string s] w fun e w' => e = .returned (.bool true) ∧ Below w.heap.size w w' := by
  unfold maxLen at hd
  go_enter Tryd.func7, Tryd.ntmps7
  by_cases hs : s.size ≤ 1048576
  · have hs1 : ¬ (1048576 : Int) < (s.size : Int) := by omega
    go_wp2_with fail
    refine (specRecov_any s _ hs).mono ?_; rintro e w2 ⟨rfl, hb2⟩
    have HW2 := Lib.hid (Blk.new w2 59 #[.string (reV s).1, .string ⟨#[]⟩])
    have hbA2 := bal (Below.refl w2.heap.size w2) (Obj.cells #[.string (reV s).1, .string ⟨#[]⟩] 59)
    have He2 := Lib.hid ((he.on hb2).on hbA2); have Hb2 := Lib.hid (bthen hb2 hbA2); clear hbA2 hb2
    go_wp2_with fail
    refine (implRecov_any s _ hs He2.out).mono ?_; rintro e w4 ⟨rfl, hb4⟩
    have HW4 := Lib.hid ((HW2.out.on hb4).alloc (Obj.cells #[.string (reV s).1, .string ⟨#[]⟩] 59))
    have HG4 := Lib.hid (Blk.new w4 59 #[.string (reV s).1, .string ⟨#[]⟩])
    have Hb4 := Lib.hid (bal (bthen Hb2.out hb4) (Obj.cells #[.string (reV s).1, .string ⟨#[]⟩] 59))
    clear hb4
    have q0 := HW4.out.cell 0
    have q1 := HW4.out.cell 1
    have ql := HW4.out.lt
    have z0 := HG4.out.cell 0
    have z1 := HG4.out.cell 1
    have zl := HG4.out.lt
    simp at q0 q1 z0 z1
    go_wp2_with fail
    refine (eqJournal_same _ _ _).mono ?_; rintro e w5 ⟨rfl, hb5⟩
    have Hb5 := Lib.hid (bthen Hb4.out hb5); clear hb5 q0 q1 ql z0 z1 zl
    go_wp2
    go_ret
    exact ⟨rfl, Hb5.out⟩
  · have hs1 : (1048576 : Int) < (s.size : Int) := by omega
    go_wp2
    go_ret
    exact ⟨rfl, Below.refl _ _⟩

set_option maxRecDepth 100000 in
theorem fnExactRecoverJournal_lifted (os : Os) (started : os.Started) (H : Type) (enc : TypeId × Value → H) :
    ReturnsInHanded {} Tryd.checked os 7 .any (fun w args => (Rows.fnExactRecoverJournalSpec.pre enc Tryd.prog Tryd.f7 [] false w args ∧ laidMetH Tryd.prog laid7 w) ∧ sizedMet enc Tryd.prog Tryd.f7 (OpenSpec.ofChange Rows.fnExactRecoverJournalSpec) false w args) (Rows.fnExactRecoverJournalSpec.post enc Tryd.prog Tryd.f7 false true false false) := by
  refine returns_shaped_and (C := Tryd.checked) (X := fun w _ => laidMetH Tryd.prog laid7 w) (fun _ _ _ hh h => h.of_heap hh) own_knob started (by kernel_rfl) Tryd.func7
    (ChangeSpec.witness_shaped (enc := enc) (C := Tryd.checked) (os := os) (X := fun w _ => laidMetH Tryd.prog laid7 w) false (World.laidAll Tryd.prog os laid7) #[.string ⟨#[]⟩] 8 (World.laidAll_os _ _ _) (World.shaped_of_ZipB (by kernel_rfl) (by kernel_rfl)) (by kernel_rfl) (by kernel_rfl) (by kernel_rfl) (door7 os _)) ?_
  intro W base args ds gs before hval0 hW hsh _ hL _
  have hval : ∀ (j : Nat) t v, Tryd.f7.params[j]? = some t → args[j]? = some v → Value.okWide Tryd.prog W .any base t v := hval0
  have hW' := hW
  obtain ⟨p, q, hA0, hV, rfl, hfz, hnd⟩ := hW
  have hA : DataW.TrodAll enc Tryd.prog W 0 (fun _ => true) true Tryd.f7.params.toList args.toList ds p := hA0
  rw [Tryd.params7] at hA hval
  obtain ⟨v0, d0, rfl, rfl, h0⟩ := trodAll_one hA
  obtain ⟨rfl, rfl⟩ := trodVars_none hV
  simp only [List.append_nil] at hW'
  have hlt := hW'.lt
  have hlt0 : ∀ x ∈ p, x.block < W.heap.size := hlt
  have k0 := h0
  obtain ⟨x0, rfl, hd0, hp0, w0⟩ := ChangeMaps.open_string Tryd.underlying9 (hval 0 9 v0 rfl rfl) h0
  refine (fnExactRecoverJournal_walk x0 W w0 (env_of_laid7 hL hsh)).mono fun e W' ⟨he, hb⟩ => ?_
  subst he
  exact ⟨_, rfl, post_below hW' (trodAll_mk1 (shut_bool Tryd.underlying4 true)) (trodAll_mk1 (WideElems.Trod_stays laid_out (by kernel_rfl) (of_decide_eq_true (by kernel_rfl)) k0 (fun x hx => hb.same (hlt0 x hx)) (fun x hx => by simpa using hlt0 x hx))) rfl (by first | rfl | (simp only [List.append_assoc]; done)) hb⟩

theorem fnExactRecoverJournal_holds : Rows.FnExactRecoverJournalSaid :=
  OpenClaim.holds_of_wide 7 Tryd.f7 rfl rfl rfl rfl rfl rfl rfl ⟨rfl, rfl, rfl, rfl, rfl⟩ rfl rfl rfl rfl rfl (by kernel_rfl) Tryd.func7 fnExactRecoverJournal_facts
    (of_decide_eq_true (by kernel_rfl)) (by unfold Func.isWrapper; rw [if_neg (of_decide_eq_false (by kernel_rfl))]; exact ⟨rfl, rfl⟩)
    (fun os started H enc _ => fnExactRecoverJournal_lifted os started H enc)


theorem fnExactRecoverJournal_card : Rows.FnExactRecoverJournalCardSaid :=
  Claim7.holds_tied_plain_at .later [] [.data, .data, .data, .data, .sentinel, .sentinel, .pinned] true (true, "fe6689c953cf34b2516cf44cbca2f30bcdb6e88459cca52bc4d8a0854e218c26") true
    fnExactRecoverJournal_holds (fun _ h => by cases h) (by kernel_rfl) (fun _ h => by cases h) fnExactRecoverJournal_row_tie rfl ⟨rfl, rfl⟩ (by kernel_rfl) rfl
    (fun f fn hf hfn => by
      obtain rfl : f = 7 := Option.some.inj ((show Tryd.prog.funcNamed "loop.example/g01004/laws.FnExactRecoverJournal" = some 7 by kernel_rfl).symm.trans hf) |>.symm
      obtain rfl : fn = Tryd.f7 := (Option.some.inj (Tryd.func7.symm.trans hfn)).symm
      exact ⟨by kernel_rfl, fun j t ht => by
        rw [Tryd.params7] at ht
        have hm : t ∈ [9] := by simpa using Array.mem_of_getElem? ht
        have hall : ([9].all fun u => !Tryd.prog.wantsStandIn u) = true := by kernel_rfl
        exact (show Tryd.prog.wantsStandIn t = false by simpa using List.all_eq_true.1 hall t hm)⟩)
    (by kernel_rfl)

end Go.Proofs.YtegnommappmegaaDoor
