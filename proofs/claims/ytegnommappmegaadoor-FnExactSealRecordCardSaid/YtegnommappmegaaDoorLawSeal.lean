/- The law FnExactSealRecord: for all arguments the program's answer is the reference's. Conditions: none (the listed tables are tied to the program's text). -/
import Derived.Test.YtegnommappmegaaDoorSealR
import Derived.Test.YtegnommappmegaaDoorTo
import Derived.Test.YtegnommappmegaaDoorFSeal
import Derived.Test.YtegnommappmegaaDoorLaid
import Derived.Test.YtegnommappmegaaDoorFrame
import Derived.Test.YtegnommappmegaaDoorTie
import Derived.Test.YtegnommappmegaaDoorCards
import Derived.SevenTiedAt
import Derived.Stop.Joined
import Derived.ProofKit
namespace Go.Proofs.YtegnommappmegaaDoor
open Go Go.RowKit Go.ChangeShapes Go.WideShapes

set_option maxHeartbeats 4000000 in
theorem fnExactSealRecord_walk (k a b lo hi : Int) (w : World) (_hk : -9223372036854775808 ≤ k ∧ k ≤ 9223372036854775807) (ht : Tab w) :
    Calls Tryd.prog 3 #[.int .i64 k, .agg #[.int .i64 a, .int .i64 b, .int .i64 lo, .int .i64 hi]] w fun e w' => e = .returned (.bool true) ∧ Below w.heap.size w w' := by
  have Hbx := Lib.hid (Blk.new w 25 #[.int .i64 a, .int .i64 b, .int .i64 lo, .int .i64 hi])
  have hbA := bal (Below.refl w.heap.size w) (Obj.cells #[.int .i64 a, .int .i64 b, .int .i64 lo, .int .i64 hi] 25)
  have Ht := Lib.hid (ht.on hbA)
  have HbA := Lib.hid hbA; clear hbA ht
  go_enter Tryd.func3, Tryd.ntmps3
  go_wp2_with fail
  refine (toRecord_any _ _ _ _ _).mono ?_; rintro e w1 ⟨rfl, hb1⟩
  have HB1 := Lib.hid (Hbx.out.on hb1); have Ht1 := Lib.hid (Ht.out.on hb1); have Hb1 := Lib.hid (bthen HbA.out hb1); clear hb1
  go_wp2_with fail
  refine (specSeal_any k a b lo hi _).mono ?_; rintro e w2 ⟨rfl, hb2⟩
  have HB2 := Lib.hid (HB1.out.on hb2); have Ht2 := Lib.hid (Ht1.out.on hb2); have Hb2 := Lib.hid (bthen Hb1.out hb2); clear hb2
  have q0 := HB2.out.cell 0
  have q1 := HB2.out.cell 1
  have q2 := HB2.out.cell 2
  have q3 := HB2.out.cell 3
  have ql := HB2.out.lt
  simp at q0 q1 q2 q3
  go_wp2_with fail
  clear q0 q1 q2 q3 ql
  refine (toRecord_any _ _ _ _ _).mono ?_; rintro e w3 ⟨rfl, hb3⟩
  have Ht3 := Lib.hid (Ht2.out.on hb3); have Hb3 := Lib.hid (bthen Hb2.out hb3); clear hb3
  go_wp2_with fail
  refine (implSeal_any k a b lo hi _ Ht3.out).mono ?_; rintro e w4 ⟨rfl, hb4⟩
  go_wp2
  go_ret
  exact ⟨rfl, bthen Hb3.out hb4⟩

set_option maxRecDepth 100000 in
theorem fnExactSealRecord_lifted (os : Os) (started : os.Started) (H : Type) (enc : TypeId × Value → H) :
    ReturnsInHanded {} Tryd.checked os 3 .any (fun w args => (Rows.fnExactSealRecordSpec.pre enc Tryd.prog Tryd.f3 [] false w args ∧ laidMetH Tryd.prog laid3 w) ∧ sizedMet enc Tryd.prog Tryd.f3 (OpenSpec.ofChange Rows.fnExactSealRecordSpec) false w args) (Rows.fnExactSealRecordSpec.post enc Tryd.prog Tryd.f3 false true false false) := by
  refine returnsInHanded_of_change_and (C := Tryd.checked) (X := fun w _ => laidMetH Tryd.prog laid3 w) (fun _ _ _ hh h => h.of_heap hh) own_knob started (by kernel_rfl) Tryd.func3
    (ChangeSpec.witness_shaped (enc := enc) (C := Tryd.checked) (os := os) (X := fun w _ => laidMetH Tryd.prog laid3 w) false (World.doorLaid Tryd.prog 72 os) #[.int .i64 0, .agg #[.int .i64 0, .int .i64 0, .int .i64 0, .int .i64 0]] 8 rfl (World.shaped_of_RefB (by kernel_rfl) (by kernel_rfl)) (by kernel_rfl) (by kernel_rfl) (by kernel_rfl) (door3 os _)) ?_
  intro W base args ds gs before hval0 hW _ _ hL _
  have hval : ∀ (j : Nat) t v, Tryd.f3.params[j]? = some t → args[j]? = some v → Value.okWide Tryd.prog W .any base t v := hval0
  have hW' := hW
  obtain ⟨p, q, hA0, hV, rfl, hfz, hnd⟩ := hW
  have hA : DataW.TrodAll enc Tryd.prog W 0 (fun _ => true) true Tryd.f3.params.toList args.toList ds p := hA0
  rw [Tryd.params3] at hA hval
  obtain ⟨v0, v1, d0, d1, p0, p1, rfl, rfl, rfl, h0, h1⟩ := trodAll_two hA
  obtain ⟨rfl, rfl⟩ := trodVars_none hV
  simp only [List.append_nil] at hW'
  have hlt := hW'.lt
  have hlt0 : ∀ x ∈ p0, x.block < W.heap.size := fun x hx => hlt x (by simp [hx])
  have hlt1 : ∀ x ∈ p1, x.block < W.heap.size := fun x hx => hlt x (by simp [hx])
  have k0 := h0
  obtain ⟨x0, rfl, hd0, hp0, w0⟩ := open_int Tryd.underlying3 (hval 0 3 v0 rfl rfl) h0
  have b0 := bounds_i64 w0
  have k1 := h1
  obtain ⟨ns1, hn1, rfl, hwf1⟩ := open_ints_agg Tryd.underlying25 5 (by kernel_rfl) (hval 1 25 v1 rfl rfl) h1
  obtain ⟨x1a, x1b, x1c, x1d, rfl⟩ := list4 (hn1.trans (by kernel_rfl : Tryd.prog.cellsOf 25 = 4))
  refine (fnExactSealRecord_walk x0 x1a x1b x1c x1d W b0 (tab_of_laid3 hL)).mono fun e W' ⟨he, hb⟩ => ?_
  subst he
  exact ⟨_, rfl, post_below hW' (trodAll_mk1 (shut_bool Tryd.underlying4 true)) (trodAll_mk2 (WideElems.Trod_stays laid_out (by kernel_rfl) (of_decide_eq_true (by kernel_rfl)) k0 (fun x hx => hb.same (hlt0 x hx)) (fun x hx => by simpa using hlt0 x hx)) (WideElems.Trod_stays laid_out (by kernel_rfl) (of_decide_eq_true (by kernel_rfl)) k1 (fun x hx => hb.same (hlt1 x hx)) (fun x hx => by simpa using hlt1 x hx))) rfl (by first | rfl | (simp only [List.append_assoc]; done)) hb⟩

theorem fnExactSealRecord_holds : Rows.FnExactSealRecordSaid :=
  OpenClaim.holds_of_wide 3 Tryd.f3 rfl rfl rfl rfl rfl rfl rfl ⟨rfl, rfl, rfl, rfl, rfl⟩ rfl rfl rfl rfl rfl (by kernel_rfl) Tryd.func3 fnExactSealRecord_facts
    (of_decide_eq_true (by kernel_rfl)) (by unfold Func.isWrapper; rw [if_neg (of_decide_eq_false (by kernel_rfl))]; exact ⟨rfl, rfl⟩)
    (fun os started H enc _ => fnExactSealRecord_lifted os started H enc)


theorem fnExactSealRecord_card : Rows.FnExactSealRecordCardSaid :=
  Claim7.holds_tied_plain_at .later [] [.data, .data, .data] true (true, "fe6689c953cf34b2516cf44cbca2f30bcdb6e88459cca52bc4d8a0854e218c26") true
    fnExactSealRecord_holds (fun _ h => by cases h) (by kernel_rfl) (fun _ h => by cases h) fnExactSealRecord_row_tie rfl ⟨rfl, rfl⟩ (by kernel_rfl) rfl
    (fun f fn hf hfn => by
      obtain rfl : f = 3 := Option.some.inj ((show Tryd.prog.funcNamed "loop.example/g01004/laws.FnExactSealRecord" = some 3 by kernel_rfl).symm.trans hf) |>.symm
      obtain rfl : fn = Tryd.f3 := (Option.some.inj (Tryd.func3.symm.trans hfn)).symm
      exact ⟨by kernel_rfl, fun j t ht => by
        rw [Tryd.params3] at ht
        have hm : t ∈ [3, 25] := by simpa using Array.mem_of_getElem? ht
        have hall : ([3, 25].all fun u => !Tryd.prog.wantsStandIn u) = true := by kernel_rfl
        exact (show Tryd.prog.wantsStandIn t = false by simpa using List.all_eq_true.1 hall t hm)⟩)
    (by kernel_rfl)

end Go.Proofs.YtegnommappmegaaDoor
