/- The law FnExactBoundsIn: for all arguments the program's answer is the reference's. Conditions: none (the listed variables are tied to the program's text). -/
import Derived.Test.YtegnommappmegaaDoorBndsI
import Derived.Test.YtegnommappmegaaDoorFBnds
import Derived.Test.YtegnommappmegaaDoorLaid7
import Derived.Test.YtegnommappmegaaDoorOpenJ
import Derived.ChangeMaps5
import Derived.Test.YtegnommappmegaaDoorFrame
import Derived.Test.YtegnommappmegaaDoorTie
import Derived.Test.YtegnommappmegaaDoorCards
import Derived.SevenTiedAt
import Derived.Stop.Joined
import Derived.ProofKit
namespace Go.Proofs.YtegnommappmegaaDoor
open Go Go.RowKit Go.ChangeShapes Go.WideShapes

set_option maxRecDepth 8000 in
set_option maxHeartbeats 4000000 in
theorem fnExactBoundsIn_walk (D P : ByteArray) (a b : Int) (w : World) (hd : D.size ≤ maxLen) (hp : P.size ≤ maxLen) (he : Env w) :
    Calls Tryd.prog 14 #[.agg #[.string D, .string P], .agg #[.int .i64 a, .int .i64 b]] w fun e w' => e = .returned (.bool true) ∧ Below w.heap.size w w' := by
  unfold maxLen at hd hp
  have Hbx := Lib.hid ((Blk.new w 64 #[.string D, .string P]).alloc (Obj.cells #[.int .i64 a, .int .i64 b] 23))
  have Hrx := Lib.hid (Blk.new1 w (Obj.cells #[.string D, .string P] 64) 23 #[.int .i64 a, .int .i64 b])
  have hbA := bal (bal (Below.refl w.heap.size w) (Obj.cells #[.string D, .string P] 64)) (Obj.cells #[.int .i64 a, .int .i64 b] 23)
  have He := Lib.hid (he.on hbA)
  have HbA := Lib.hid hbA; clear hbA he
  go_enter Tryd.func14, Tryd.ntmps14
  go_wp2_with fail
  refine (szJournal_any D P _ hd hp).mono ?_; rintro e w0 ⟨rfl, hb0⟩
  have HB0 := Lib.hid (Hbx.out.on hb0); have HR0 := Lib.hid (Hrx.out.on hb0); have He0 := Lib.hid (He.out.on hb0); have Hb0 := Lib.hid (bthen HbA.out hb0); clear hb0
  by_cases hs : D.size + P.size ≤ 1048576
  · have hj : JB D P := ⟨hs⟩
    rw [if_pos (by omega)]
    have hge : (0 : Int) ≤ 1048576 - ((D.size : Int) + (P.size : Int)) := by omega
    have q0 := HB0.out.cell 0
    have q1 := HB0.out.cell 1
    have ql := HB0.out.lt
    have r0 := HR0.out.cell 0
    have r1 := HR0.out.cell 1
    have rl := HR0.out.lt
    simp at q0 q1 r0 r1
    go_wp2
    refine wp_region_tame (by kernel_rfl) (by kernel_rfl) (fun T _ W hT => ?_)
    have hx := hT.cell
    repeat (go_big_quiet_step ((first | (go_at_call 38; with_reducible exact hT.call (toJournal_any D P _)) | (go_at_call 54; with_reducible exact hT.call (toCurve_any a b _)) | (go_at_call 53; with_reducible exact hT.call (specBn_any D P a b _ hj)))))
    refine wpQuiet_nil ?_
    intro t
    clear hx
    have hb1 := hT.below t
    generalize W t = v1 at hb1 ⊢
    clear hT
    have HB1 := Lib.hid (HB0.out.on hb1); have HR1 := Lib.hid (HR0.out.on hb1); have He1 := Lib.hid (He0.out.on hb1); have Hb1 := Lib.hid (bthen Hb0.out hb1); clear hb1 q0 q1 ql r0 r1 rl
    have q0 := HB1.out.cell 0
    have q1 := HB1.out.cell 1
    have ql := HB1.out.lt
    have r0 := HR1.out.cell 0
    have r1 := HR1.out.cell 1
    have rl := HR1.out.lt
    simp at q0 q1 r0 r1
    go_wp2
    refine wp_region_tame (by kernel_rfl) (by kernel_rfl) (fun T _ W hT => ?_)
    have hx := hT.cell
    repeat (go_big_quiet_step ((first | (go_at_call 38; with_reducible exact hT.call (toJournal_any D P _)) | (go_at_call 54; with_reducible exact hT.call (toCurve_any a b _)) | (go_at_call 55; with_reducible exact hT.call (implBn_any D P a b _ hj (He1.out.on (hT.below _)))))))
    refine wpQuiet_nil ?_
    intro t
    clear hx
    have hb2 := hT.below t
    generalize W t = v2 at hb2 ⊢
    clear hT
    have Hb2 := Lib.hid (bthen Hb1.out hb2); clear hb2 q0 q1 ql r0 r1 rl
    go_wp2
    go_ret
    exact ⟨rfl, Hb2.out⟩
  · rw [if_neg (by omega)]
    go_wp2
    go_ret
    exact ⟨rfl, Hb0.out⟩

set_option maxRecDepth 100000 in
theorem fnExactBoundsIn_lifted (os : Os) (started : os.Started) (H : Type) (enc : TypeId × Value → H) :
    ReturnsInHanded {} Tryd.checked os 14 .any (fun w args => (Rows.fnExactBoundsInSpec.pre enc Tryd.prog Tryd.f14 [] false w args ∧ laidMetH Tryd.prog laid7 w) ∧ sizedMet enc Tryd.prog Tryd.f14 (OpenSpec.ofChange Rows.fnExactBoundsInSpec) false w args) (Rows.fnExactBoundsInSpec.post enc Tryd.prog Tryd.f14 false true false false) := by
  refine returns_shaped_and (C := Tryd.checked) (X := fun w _ => laidMetH Tryd.prog laid7 w) (fun _ _ _ hh h => h.of_heap hh) own_knob started (by kernel_rfl) Tryd.func14
    (ChangeSpec.witness_shaped (enc := enc) (C := Tryd.checked) (os := os) (X := fun w _ => laidMetH Tryd.prog laid7 w) false (World.laidAll Tryd.prog os laid7) #[.agg #[.string ⟨#[]⟩, .string ⟨#[]⟩], .agg #[.int .i64 0, .int .i64 0]] 8 (World.laidAll_os _ _ _) (World.shaped_of_ZipB (by kernel_rfl) (by kernel_rfl)) (by kernel_rfl) (by kernel_rfl) (by kernel_rfl) (door7 os _)) ?_
  intro W base args ds gs before hval0 hW hsh _ hL _
  have hval : ∀ (j : Nat) t v, Tryd.f14.params[j]? = some t → args[j]? = some v → Value.okWide Tryd.prog W .any base t v := hval0
  have hW' := hW
  obtain ⟨p, q, hA0, hV, rfl, hfz, hnd⟩ := hW
  have hA : DataW.TrodAll enc Tryd.prog W 0 (fun _ => true) true Tryd.f14.params.toList args.toList ds p := hA0
  rw [Tryd.params14] at hA hval
  obtain ⟨v0, v1, d0, d1, p0, p1, rfl, rfl, rfl, h0, h1⟩ := trodAll_two hA
  obtain ⟨rfl, rfl⟩ := trodVars_none hV
  simp only [List.append_nil] at hW'
  have hlt := hW'.lt
  have hlt0 : ∀ x ∈ p0, x.block < W.heap.size := fun x hx => hlt x (by simp [hx])
  have hlt1 : ∀ x ∈ p1, x.block < W.heap.size := fun x hx => hlt x (by simp [hx])
  have k0 := h0
  obtain ⟨x0D, x0P, rfl, z0D, z0P⟩ := open_jrn Tryd.underlying64 Tryd.underlying9 Tryd.underlying9 (by kernel_rfl) (by kernel_rfl) (hval 0 64 v0 rfl rfl) h0
  have k1 := h1
  obtain ⟨ns1, hn1, rfl, hwf1⟩ := open_ints_agg Tryd.underlying23 5 (by kernel_rfl) (hval 1 23 v1 rfl rfl) h1
  obtain ⟨x1a, x1b, rfl⟩ := list2 (hn1.trans (by kernel_rfl : Tryd.prog.cellsOf 23 = 2))
  refine (fnExactBoundsIn_walk x0D x0P x1a x1b W z0D z0P (env_of_laid7 hL hsh)).mono fun e W' ⟨he, hb⟩ => ?_
  subst he
  exact ⟨_, rfl, post_below hW' (trodAll_mk1 (shut_bool Tryd.underlying4 true)) (trodAll_mk2 (WideElems.Trod_stays laid_out (by kernel_rfl) (of_decide_eq_true (by kernel_rfl)) k0 (fun x hx => hb.same (hlt0 x hx)) (fun x hx => by simpa using hlt0 x hx)) (WideElems.Trod_stays laid_out (by kernel_rfl) (of_decide_eq_true (by kernel_rfl)) k1 (fun x hx => hb.same (hlt1 x hx)) (fun x hx => by simpa using hlt1 x hx))) rfl (by first | rfl | (simp only [List.append_assoc]; done)) hb⟩

theorem fnExactBoundsIn_holds : Rows.FnExactBoundsInSaid :=
  OpenClaim.holds_of_wide 14 Tryd.f14 rfl rfl rfl rfl rfl rfl rfl ⟨rfl, rfl, rfl, rfl, rfl⟩ rfl rfl rfl rfl rfl (by kernel_rfl) Tryd.func14 fnExactBoundsIn_facts
    (of_decide_eq_true (by kernel_rfl)) (by unfold Func.isWrapper; rw [if_neg (of_decide_eq_false (by kernel_rfl))]; exact ⟨rfl, rfl⟩)
    (fun os started H enc _ => fnExactBoundsIn_lifted os started H enc)


theorem fnExactBoundsIn_card : Rows.FnExactBoundsInCardSaid :=
  Claim7.holds_tied_plain_at .later [] [.data, .data, .data, .data, .sentinel, .sentinel, .pinned] true (true, "fe6689c953cf34b2516cf44cbca2f30bcdb6e88459cca52bc4d8a0854e218c26") true
    fnExactBoundsIn_holds (fun _ h => by cases h) (by kernel_rfl) (fun _ h => by cases h) fnExactBoundsIn_row_tie rfl ⟨rfl, rfl⟩ (by kernel_rfl) rfl
    (fun f fn hf hfn => by
      obtain rfl : f = 14 := Option.some.inj ((show Tryd.prog.funcNamed "loop.example/g01004/laws.FnExactBoundsIn" = some 14 by kernel_rfl).symm.trans hf) |>.symm
      obtain rfl : fn = Tryd.f14 := (Option.some.inj (Tryd.func14.symm.trans hfn)).symm
      exact ⟨by kernel_rfl, fun j t ht => by
        rw [Tryd.params14] at ht
        have hm : t ∈ [64, 23] := by simpa using Array.mem_of_getElem? ht
        have hall : ([64, 23].all fun u => !Tryd.prog.wantsStandIn u) = true := by kernel_rfl
        exact (show Tryd.prog.wantsStandIn t = false by simpa using List.all_eq_true.1 hall t hm)⟩)
    (by kernel_rfl)

end Go.Proofs.YtegnommappmegaaDoor
