/- The law FnExactCrashJournal: for all arguments the program's answer is the reference's. Conditions: none (the listed variables are tied to the program's text). -/
import Derived.Test.YtegnommappmegaaDoorCrashJ
import Derived.Test.YtegnommappmegaaDoorFCrashJ
import Derived.Test.YtegnommappmegaaDoorLaid7
import Derived.Test.YtegnommappmegaaDoorOpenJ
import Derived.ChangeMaps5
import Derived.Test.YtegnommappmegaaDoorFrame
import Derived.Test.YtegnommappmegaaDoorTie
import Derived.Test.YtegnommappmegaaDoorCards
import Derived.SevenTiedAt
import Derived.Stop.Joined
import Derived.ProofKit
namespace Go.Proofs.YtegnommappmegaaDoor
open Go Go.RowKit Go.ChangeShapes Go.WideShapes

set_option maxHeartbeats 4000000 in
theorem fnExactCrashJournal_walk (D P : ByteArray) (k : Int) (torn : Bool) (w : World) (hd : D.size ≤ maxLen) (hp : P.size ≤ maxLen) (hk : -9223372036854775808 ≤ k ∧ k ≤ 9223372036854775807) (he : Env w) :
    Calls Tryd.prog 9 #[.agg #[.string D, .string P], .int .i64 k, .bool torn] w fun e w' => e = .returned (.bool true) ∧ Below w.heap.size w w' := by
  unfold maxLen at hd hp
  have Hbx := Lib.hid (Blk.new w 64 #[.string D, .string P])
  have hbA := bal (Below.refl w.heap.size w) (Obj.cells #[.string D, .string P] 64)
  have He := Lib.hid (he.on hbA)
  have HbA := Lib.hid hbA; clear hbA he
  go_enter Tryd.func9, Tryd.ntmps9
  go_wp2_with fail
  refine (szJournal_any D P _ hd hp).mono ?_; rintro e w0 ⟨rfl, hb0⟩
  have HB0 := Lib.hid (Hbx.out.on hb0); have He0 := Lib.hid (He.out.on hb0); have Hb0 := Lib.hid (bthen HbA.out hb0); clear hb0
  have q0 := HB0.out.cell 0
  have q1 := HB0.out.cell 1
  have ql := HB0.out.lt
  simp at q0 q1
  by_cases hs : D.size + P.size ≤ 1048576
  · have hj : JB D P := ⟨hs⟩
    rw [if_pos (by omega)]
    have hge : (0 : Int) ≤ 1048576 - ((D.size : Int) + (P.size : Int)) := by omega
    go_wp2_with fail
    refine (toJournal_any D P _).mono ?_; rintro e w1 ⟨rfl, hb1⟩
    have HB1 := Lib.hid (HB0.out.on hb1); have He1 := Lib.hid (He0.out.on hb1); have Hb1 := Lib.hid (bthen Hb0.out hb1); clear hb1 q0 q1 ql
    go_wp2_with fail
    refine (specCr_any D P k torn _ hj hk).mono ?_; rintro e w2 ⟨rfl, hb2⟩
    have HB2 := Lib.hid (HB1.out.on hb2); have He2 := Lib.hid (He1.out.on hb2); have Hb2 := Lib.hid (bthen Hb1.out hb2); clear hb2
    have q0 := HB2.out.cell 0
    have q1 := HB2.out.cell 1
    have ql := HB2.out.lt
    simp at q0 q1
    go_wp2_with fail
    refine (toJournal_any D P _).mono ?_; rintro e w3 ⟨rfl, hb3⟩
    have He3 := Lib.hid (He2.out.on hb3); have Hb3 := Lib.hid (bthen Hb2.out hb3); clear hb3 q0 q1 ql
    go_wp2_with fail
    refine (implCr_any D P k torn _ hj hk He3.out).mono ?_; rintro e w4 ⟨rfl, hb4⟩
    have Hb4 := Lib.hid (bthen Hb3.out hb4); clear hb4
    go_wp2
    go_ret
    exact ⟨rfl, Hb4.out⟩
  · rw [if_neg (by omega)]
    go_wp2
    go_ret
    exact ⟨rfl, Hb0.out⟩

set_option maxRecDepth 100000 in
theorem fnExactCrashJournal_lifted (os : Os) (started : os.Started) (H : Type) (enc : TypeId × Value → H) :
    ReturnsInHanded {} Tryd.checked os 9 .any (fun w args => (Rows.fnExactCrashJournalSpec.pre enc Tryd.prog Tryd.f9 [] false w args ∧ laidMetH Tryd.prog laid7 w) ∧ sizedMet enc Tryd.prog Tryd.f9 (OpenSpec.ofChange Rows.fnExactCrashJournalSpec) false w args) (Rows.fnExactCrashJournalSpec.post enc Tryd.prog Tryd.f9 false true false false) := by
  refine returns_shaped_and (C := Tryd.checked) (X := fun w _ => laidMetH Tryd.prog laid7 w) (fun _ _ _ hh h => h.of_heap hh) own_knob started (by kernel_rfl) Tryd.func9
    (ChangeSpec.witness_shaped (enc := enc) (C := Tryd.checked) (os := os) (X := fun w _ => laidMetH Tryd.prog laid7 w) false (World.laidAll Tryd.prog os laid7) #[.agg #[.string ⟨#[]⟩, .string ⟨#[]⟩], .int .i64 0, .bool false] 8 (World.laidAll_os _ _ _) (World.shaped_of_ZipB (by kernel_rfl) (by kernel_rfl)) (by kernel_rfl) (by kernel_rfl) (by kernel_rfl) (door7 os _)) ?_
  intro W base args ds gs before hval0 hW hsh _ hL _
  have hval : ∀ (j : Nat) t v, Tryd.f9.params[j]? = some t → args[j]? = some v → Value.okWide Tryd.prog W .any base t v := hval0
  have hW' := hW
  obtain ⟨p, q, hA0, hV, rfl, hfz, hnd⟩ := hW
  have hA : DataW.TrodAll enc Tryd.prog W 0 (fun _ => true) true Tryd.f9.params.toList args.toList ds p := hA0
  rw [Tryd.params9] at hA hval
  obtain ⟨v0, v1, v2, d0, d1, d2, p0, p1, p2, rfl, rfl, rfl, h0, h1, h2⟩ := trodAll_three hA
  obtain ⟨rfl, rfl⟩ := trodVars_none hV
  simp only [List.append_nil] at hW'
  have hlt := hW'.lt
  have hlt0 : ∀ x ∈ p0, x.block < W.heap.size := fun x hx => hlt x (by simp [hx])
  have hlt1 : ∀ x ∈ p1, x.block < W.heap.size := fun x hx => hlt x (by simp [hx])
  have hlt2 : ∀ x ∈ p2, x.block < W.heap.size := fun x hx => hlt x (by simp [hx])
  have k0 := h0
  obtain ⟨x0D, x0P, rfl, z0D, z0P⟩ := open_jrn Tryd.underlying64 Tryd.underlying9 Tryd.underlying9 (by kernel_rfl) (by kernel_rfl) (hval 0 64 v0 rfl rfl) h0
  have k1 := h1
  obtain ⟨x1, rfl, hd1, hp1, w1⟩ := open_int Tryd.underlying3 (hval 1 3 v1 rfl rfl) h1
  have b1 := bounds_i64 w1
  have k2 := h2
  obtain ⟨x2, rfl, hd2, hp2⟩ := open_bool Tryd.underlying4 (hval 2 4 v2 rfl rfl) h2
  refine (fnExactCrashJournal_walk x0D x0P x1 x2 W z0D z0P b1 (env_of_laid7 hL hsh)).mono fun e W' ⟨he, hb⟩ => ?_
  subst he
  exact ⟨_, rfl, post_below hW' (trodAll_mk1 (shut_bool Tryd.underlying4 true)) (trodAll_mk3 (WideElems.Trod_stays laid_out (by kernel_rfl) (of_decide_eq_true (by kernel_rfl)) k0 (fun x hx => hb.same (hlt0 x hx)) (fun x hx => by simpa using hlt0 x hx)) (WideElems.Trod_stays laid_out (by kernel_rfl) (of_decide_eq_true (by kernel_rfl)) k1 (fun x hx => hb.same (hlt1 x hx)) (fun x hx => by simpa using hlt1 x hx)) (WideElems.Trod_stays laid_out (by kernel_rfl) (of_decide_eq_true (by kernel_rfl)) k2 (fun x hx => hb.same (hlt2 x hx)) (fun x hx => by simpa using hlt2 x hx))) rfl (by first | rfl | (simp only [List.append_assoc]; done)) hb⟩

theorem fnExactCrashJournal_holds : Rows.FnExactCrashJournalSaid :=
  OpenClaim.holds_of_wide 9 Tryd.f9 rfl rfl rfl rfl rfl rfl rfl ⟨rfl, rfl, rfl, rfl, rfl⟩ rfl rfl rfl rfl rfl (by kernel_rfl) Tryd.func9 fnExactCrashJournal_facts
    (of_decide_eq_true (by kernel_rfl)) (by unfold Func.isWrapper; rw [if_neg (of_decide_eq_false (by kernel_rfl))]; exact ⟨rfl, rfl⟩)
    (fun os started H enc _ => fnExactCrashJournal_lifted os started H enc)


theorem fnExactCrashJournal_card : Rows.FnExactCrashJournalCardSaid :=
  Claim7.holds_tied_plain_at .later [] [.data, .data, .data, .data, .sentinel, .sentinel, .pinned] true (true, "fe6689c953cf34b2516cf44cbca2f30bcdb6e88459cca52bc4d8a0854e218c26") true
    fnExactCrashJournal_holds (fun _ h => by cases h) (by kernel_rfl) (fun _ h => by cases h) fnExactCrashJournal_row_tie rfl ⟨rfl, rfl⟩ (by kernel_rfl) rfl
    (fun f fn hf hfn => by
      obtain rfl : f = 9 := Option.some.inj ((show Tryd.prog.funcNamed "loop.example/g01004/laws.FnExactCrashJournal" = some 9 by kernel_rfl).symm.trans hf) |>.symm
      obtain rfl : fn = Tryd.f9 := (Option.some.inj (Tryd.func9.symm.trans hfn)).symm
      exact ⟨by kernel_rfl, fun j t ht => by
        rw [Tryd.params9] at ht
        have hm : t ∈ [64, 3, 4] := by simpa using Array.mem_of_getElem? ht
        have hall : ([64, 3, 4].all fun u => !Tryd.prog.wantsStandIn u) = true := by kernel_rfl
        exact (show Tryd.prog.wantsStandIn t = false by simpa using List.all_eq_true.1 hall t hm)⟩)
    (by kernel_rfl)

end Go.Proofs.YtegnommappmegaaDoor
