/- The law FnExactCompactJournal: for all arguments the program's answer is the reference's. Conditions: none (the listed variables are tied to the program's text). -/
import Derived.Test.YtegnommappmegaaDoorComp
import Derived.Test.YtegnommappmegaaDoorFComp
import Derived.Test.YtegnommappmegaaDoorLaid7
import Derived.Test.YtegnommappmegaaDoorOpenJ
import Derived.ChangeMaps5
import Derived.Test.YtegnommappmegaaDoorFrame
import Derived.Test.YtegnommappmegaaDoorTie
import Derived.Test.YtegnommappmegaaDoorCards
import Derived.SevenTiedAt
import Derived.Stop.Joined
import Derived.ProofKit
namespace Go.Proofs.YtegnommappmegaaDoor
open Go Go.RowKit Go.ChangeShapes Go.WideShapes

set_option maxHeartbeats 4000000 in
theorem fnExactCompactJournal_walk (D P : ByteArray) (w : World) (hd : D.size ≤ maxLen) (hp : P.size ≤ maxLen) (he : Env w) :
    Calls Tryd.prog 13 #[.agg #[.string D, .string P]] w fun e w' => e = .returned (.bool true) ∧ Below w.heap.size w w' := by
  unfold maxLen at hd hp
  have Hbx := Lib.hid (Blk.new w 64 #[.string D, .string P])
  have hbA := bal (Below.refl w.heap.size w) (Obj.cells #[.string D, .string P] 64)
  have He := Lib.hid (he.on hbA)
  have HbA := Lib.hid hbA; clear hbA he
  go_enter Tryd.func13, Tryd.ntmps13
  go_wp2_with fail
  refine (szJournal_any D P _ hd hp).mono ?_; rintro e w0 ⟨rfl, hb0⟩
  have HB0 := Lib.hid (Hbx.out.on hb0); have He0 := Lib.hid (He.out.on hb0); have Hb0 := Lib.hid (bthen HbA.out hb0); clear hb0
  have q0 := HB0.out.cell 0
  have q1 := HB0.out.cell 1
  have ql := HB0.out.lt
  simp at q0 q1
  by_cases hs : D.size + P.size ≤ 1048576
  · have hj : JB D P := ⟨hs⟩
    rw [if_pos (by omega)]
    have hge : (0 : Int) ≤ 1048576 - ((D.size : Int) + (P.size : Int)) := by omega
    go_wp2_with fail
    refine (toJournal_any D P _).mono ?_; rintro e w1 ⟨rfl, hb1⟩
    have HB1 := Lib.hid (HB0.out.on hb1); have He1 := Lib.hid (He0.out.on hb1); have Hb1 := Lib.hid (bthen Hb0.out hb1); clear hb1 q0 q1 ql
    go_wp2_with fail
    refine (specComp_any D P _ hj).mono ?_; rintro e w2 ⟨rfl, hb2⟩
    have HB2 := Lib.hid (HB1.out.on hb2); have He2 := Lib.hid (He1.out.on hb2); have Hb2 := Lib.hid (bthen Hb1.out hb2); clear hb2
    have HW2 := Lib.hid (Blk.new w2 59 #[.string (coV D P).1, .string ⟨#[]⟩])
    have hbA2 := bal (Below.refl w2.heap.size w2) (Obj.cells #[.string (coV D P).1, .string ⟨#[]⟩] 59)
    replace HB2 := Lib.hid (HB2.out.on hbA2); replace He2 := Lib.hid (He2.out.on hbA2); replace Hb2 := Lib.hid (bthen Hb2.out hbA2); clear hbA2
    have q0 := HB2.out.cell 0
    have q1 := HB2.out.cell 1
    have ql := HB2.out.lt
    simp at q0 q1
    go_wp2_with fail
    refine (toJournal_any D P _).mono ?_; rintro e w3 ⟨rfl, hb3⟩
    have He3 := Lib.hid (He2.out.on hb3); have Hb3 := Lib.hid (bthen Hb2.out hb3); clear q0 q1 ql
    have HW3 := Lib.hid (HW2.out.on hb3)
    clear hb3
    go_wp2_with fail
    refine (implComp_any D P _ hj He3.out).mono ?_; rintro e w4 ⟨rfl, hb4⟩
    have Hb4 := Lib.hid (bthen Hb3.out hb4)
    have HW4 := Lib.hid ((HW3.out.on hb4).alloc (Obj.cells #[.string (coV D P).1, .string ⟨#[]⟩] 59))
    have HG4 := Lib.hid (Blk.new w4 59 #[.string (coV D P).1, .string ⟨#[]⟩])
    replace Hb4 := Lib.hid (bal Hb4.out (Obj.cells #[.string (coV D P).1, .string ⟨#[]⟩] 59))
    clear hb4
    have q0 := HW4.out.cell 0
    have q1 := HW4.out.cell 1
    have ql := HW4.out.lt
    have z0 := HG4.out.cell 0
    have z1 := HG4.out.cell 1
    have zl := HG4.out.lt
    simp at q0 q1 z0 z1
    go_wp2_with fail
    refine (eqJournal_same _ _ _).mono ?_; rintro e w5 ⟨rfl, hb5⟩
    have Hb5 := Lib.hid (bthen Hb4.out hb5); clear hb5 q0 q1 ql z0 z1 zl
    go_wp2
    go_ret
    exact ⟨rfl, Hb5.out⟩
  · rw [if_neg (by omega)]
    go_wp2
    go_ret
    exact ⟨rfl, Hb0.out⟩

set_option maxRecDepth 100000 in
theorem fnExactCompactJournal_lifted (os : Os) (started : os.Started) (H : Type) (enc : TypeId × Value → H) :
    ReturnsInHanded {} Tryd.checked os 13 .any (fun w args => (Rows.fnExactCompactJournalSpec.pre enc Tryd.prog Tryd.f13 [] false w args ∧ laidMetH Tryd.prog laid7 w) ∧ sizedMet enc Tryd.prog Tryd.f13 (OpenSpec.ofChange Rows.fnExactCompactJournalSpec) false w args) (Rows.fnExactCompactJournalSpec.post enc Tryd.prog Tryd.f13 false true false false) := by
  refine returns_shaped_and (C := Tryd.checked) (X := fun w _ => laidMetH Tryd.prog laid7 w) (fun _ _ _ hh h => h.of_heap hh) own_knob started (by kernel_rfl) Tryd.func13
    (ChangeSpec.witness_shaped (enc := enc) (C := Tryd.checked) (os := os) (X := fun w _ => laidMetH Tryd.prog laid7 w) false (World.laidAll Tryd.prog os laid7) #[.agg #[.string ⟨#[]⟩, .string ⟨#[]⟩]] 8 (World.laidAll_os _ _ _) (World.shaped_of_ZipB (by kernel_rfl) (by kernel_rfl)) (by kernel_rfl) (by kernel_rfl) (by kernel_rfl) (door7 os _)) ?_
  intro W base args ds gs before hval0 hW hsh _ hL _
  have hval : ∀ (j : Nat) t v, Tryd.f13.params[j]? = some t → args[j]? = some v → Value.okWide Tryd.prog W .any base t v := hval0
  have hW' := hW
  obtain ⟨p, q, hA0, hV, rfl, hfz, hnd⟩ := hW
  have hA : DataW.TrodAll enc Tryd.prog W 0 (fun _ => true) true Tryd.f13.params.toList args.toList ds p := hA0
  rw [Tryd.params13] at hA hval
  obtain ⟨v0, d0, rfl, rfl, h0⟩ := trodAll_one hA
  obtain ⟨rfl, rfl⟩ := trodVars_none hV
  simp only [List.append_nil] at hW'
  have hlt := hW'.lt
  have hlt0 : ∀ x ∈ p, x.block < W.heap.size := hlt
  have k0 := h0
  obtain ⟨x0D, x0P, rfl, z0D, z0P⟩ := open_jrn Tryd.underlying64 Tryd.underlying9 Tryd.underlying9 (by kernel_rfl) (by kernel_rfl) (hval 0 64 v0 rfl rfl) h0
  refine (fnExactCompactJournal_walk x0D x0P W z0D z0P (env_of_laid7 hL hsh)).mono fun e W' ⟨he, hb⟩ => ?_
  subst he
  exact ⟨_, rfl, post_below hW' (trodAll_mk1 (shut_bool Tryd.underlying4 true)) (trodAll_mk1 (WideElems.Trod_stays laid_out (by kernel_rfl) (of_decide_eq_true (by kernel_rfl)) k0 (fun x hx => hb.same (hlt0 x hx)) (fun x hx => by simpa using hlt0 x hx))) rfl (by first | rfl | (simp only [List.append_assoc]; done)) hb⟩

theorem fnExactCompactJournal_holds : Rows.FnExactCompactJournalSaid :=
  OpenClaim.holds_of_wide 13 Tryd.f13 rfl rfl rfl rfl rfl rfl rfl ⟨rfl, rfl, rfl, rfl, rfl⟩ rfl rfl rfl rfl rfl (by kernel_rfl) Tryd.func13 fnExactCompactJournal_facts
    (of_decide_eq_true (by kernel_rfl)) (by unfold Func.isWrapper; rw [if_neg (of_decide_eq_false (by kernel_rfl))]; exact ⟨rfl, rfl⟩)
    (fun os started H enc _ => fnExactCompactJournal_lifted os started H enc)

end Go.Proofs.YtegnommappmegaaDoor
