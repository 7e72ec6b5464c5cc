/- The law FnExactTaskText: for all arguments the program's answer is the reference's. Conditions: none (the listed tables are tied to the program's text). -/
import Derived.Test.YtegnommappmegaaDoorTaskT
import Derived.Test.YtegnommappmegaaDoorTaskW
import Derived.Test.YtegnommappmegaaDoorOpenT
import Derived.Test.YtegnommappmegaaDoorFTaskText
import Derived.Test.YtegnommappmegaaDoorLaid
import Derived.Test.YtegnommappmegaaDoorFrame
import Derived.Test.YtegnommappmegaaDoorTie
import Derived.Test.YtegnommappmegaaDoorCards
import Derived.SevenTiedAt
import Derived.Stop.Joined
import Derived.ProofKit
namespace Go.Proofs.YtegnommappmegaaDoor
open Go Go.RowKit Go.ChangeShapes Go.WideShapes

set_option maxRecDepth 8000 in
set_option maxHeartbeats 8000000 in
theorem fnExactTaskText_walk (a b m d t : Int) (A : Option Addr) (c : Nat) (fs : List Pt) (w : World) (hr : Rd ptS w w.heap.size (.slice A fs.length c) fs) (ht : Tab w) :
    Calls Tryd.prog 6 #[.agg #[.int .i64 a, .int .i64 b, .int .i64 m, .int .i64 d, .int .i64 t, .slice A fs.length c]] w fun e w' => e = .returned (.bool true) ∧ Below w.heap.size w w' := by
  have hcap : fs.length ≤ 9223372036854775807 := by
    obtain ⟨A9, c9, h9, h8, h7, -⟩ := hr
    unfold maxLen at h7; omega
  have Hr := Lib.hid hr; clear hr
  have Tb := Lib.hid ht; clear ht
  by_cases hl : fs.length ≤ 1048576
  · skip
    go_enter Tryd.func6, Tryd.ntmps6
    go_wp2_with fail
    refine (szTask_any a b m d t A fs.length c 1048576 _ (by omega) (by omega) (by omega)).mono ?_; rintro e w1 ⟨rfl, hb1⟩
    replace Tb := Lib.hid (Tb.out.on (bthen (bal (Below.refl _ _) _) hb1))
    have bx := Lib.hid ((Blk.new w 49 #[.int .i64 a, .int .i64 b, .int .i64 m, .int .i64 d, .int .i64 t, .slice A fs.length c]).on hb1)
    have sz1 := Lib.hid (show w.heap.size + 1 ≤ w1.heap.size by have := hb1.size; (try simp only [World.size_alloc] at this); omega)
    have Hb1 := Lib.hid (bthen (bal (Below.refl _ _) _) hb1)
    clear hb1
    rw [szI_pos (by omega)]
    have hge : (0 : Int) ≤ 1048576 - (fs.length : Int) := by omega
    have qbx_0 : w1.cell? ⟨w.heap.size, 0, none⟩ = some (.int .i64 a) := bx.out.cell 0
    have qbx_1 : w1.cell? ⟨w.heap.size, 1, none⟩ = some (.int .i64 b) := bx.out.cell 1
    have qbx_2 : w1.cell? ⟨w.heap.size, 2, none⟩ = some (.int .i64 m) := bx.out.cell 2
    have qbx_3 : w1.cell? ⟨w.heap.size, 3, none⟩ = some (.int .i64 d) := bx.out.cell 3
    have qbx_4 : w1.cell? ⟨w.heap.size, 4, none⟩ = some (.int .i64 t) := bx.out.cell 4
    have qbx_5 : w1.cell? ⟨w.heap.size, 5, none⟩ = some (.slice A fs.length c) := bx.out.cell 5
    have qbx_l := bx.out.lt
    go_wp2_with fail
    clear qbx_0 qbx_1 qbx_2 qbx_3 qbx_4 qbx_5 qbx_l
    refine (toTask_any a b m d t A c fs _ (Hr.out.on (Hb1.out)) hl).mono ?_; rintro e w2 ⟨⟨As, cs, rfl, hos⟩, hb2⟩
    have Os := Lib.hid hos
    have GOs := Lib.hid (World.ownsRow.lt hos)
    clear hos
    replace Tb := Lib.hid (Tb.out.on (hb2))
    replace bx := Lib.hid (bx.out.on (hb2))
    have sz2 := Lib.hid (show w1.heap.size + 0 ≤ w2.heap.size by have := hb2.size; (try simp only [World.size_alloc] at this); omega)
    have Hb2 := Lib.hid (bthen (Hb1.out) hb2)
    clear hb2
    go_wp2_with fail
    refine (specTaskText_any a b m d t _ fs  _ (Rd.of_own Os.out rfl)).mono ?_; rintro e w3 ⟨rfl, hb3⟩
    replace Tb := Lib.hid (Tb.out.on (hb3))
    replace bx := Lib.hid (bx.out.on (hb3))
    replace Os := Lib.hid (own_below Os.out (hb3))
    have sz3 := Lib.hid (show w2.heap.size + 0 ≤ w3.heap.size by have := hb3.size; (try simp only [World.size_alloc] at this); omega)
    have Hb3 := Lib.hid (bthen (Hb2.out) hb3)
    clear hb3
    clear Os
    have qbx_0 : w3.cell? ⟨w.heap.size, 0, none⟩ = some (.int .i64 a) := bx.out.cell 0
    have qbx_1 : w3.cell? ⟨w.heap.size, 1, none⟩ = some (.int .i64 b) := bx.out.cell 1
    have qbx_2 : w3.cell? ⟨w.heap.size, 2, none⟩ = some (.int .i64 m) := bx.out.cell 2
    have qbx_3 : w3.cell? ⟨w.heap.size, 3, none⟩ = some (.int .i64 d) := bx.out.cell 3
    have qbx_4 : w3.cell? ⟨w.heap.size, 4, none⟩ = some (.int .i64 t) := bx.out.cell 4
    have qbx_5 : w3.cell? ⟨w.heap.size, 5, none⟩ = some (.slice A fs.length c) := bx.out.cell 5
    have qbx_l := bx.out.lt
    go_wp2_with fail
    clear qbx_0 qbx_1 qbx_2 qbx_3 qbx_4 qbx_5 qbx_l
    refine (toTask_any a b m d t A c fs _ (Hr.out.on (Hb3.out)) hl).mono ?_; rintro e w4 ⟨⟨Ax, cx, rfl, hox⟩, hb4⟩
    have Ox := Lib.hid hox
    have GOx := Lib.hid (World.ownsRow.lt hox)
    clear hox
    replace Tb := Lib.hid (Tb.out.on (hb4))
    replace bx := Lib.hid (bx.out.on (hb4))
    have sz4 := Lib.hid (show w3.heap.size + 0 ≤ w4.heap.size by have := hb4.size; (try simp only [World.size_alloc] at this); omega)
    have Hb4 := Lib.hid (bthen (Hb3.out) hb4)
    clear hb4
    go_wp2_with fail
    refine (implTaskText_any a b m d t _ fs  _ ((Rd.of_own Ox.out rfl).on (bal (Below.refl _ _) _)) (Tb.out.on (bal (Below.refl _ _) _))).mono ?_; rintro e w5 ⟨rfl, hb5⟩
    replace Tb := Lib.hid (Tb.out.on (bthen (bal (Below.refl _ _) _) hb5))
    replace bx := Lib.hid (bx.out.on (bthen (bal (Below.refl _ _) _) hb5))
    replace Ox := Lib.hid (own_below Ox.out (bthen (bal (Below.refl _ _) _) hb5))
    have x0 := Lib.hid ((Blk.new w4 54 #[.int .i64 a, .int .i64 b, .int .i64 m, .int .i64 d, .int .i64 t, .slice Ax fs.length cx]).on hb5)
    have sz5 := Lib.hid (show w4.heap.size + 1 ≤ w5.heap.size by have := hb5.size; (try simp only [World.size_alloc] at this); omega)
    have Hb5 := Lib.hid (bthen (bal (Hb4.out) _) hb5)
    clear hb5
    have HS : Hid (∀ w', Below w5.heap.size w5 w' → (w'.cell? ⟨w.heap.size, 0, none⟩ = some (.int .i64 a) ∧ w'.cell? ⟨w.heap.size, 1, none⟩ = some (.int .i64 b) ∧ w'.cell? ⟨w.heap.size, 2, none⟩ = some (.int .i64 m) ∧ w'.cell? ⟨w.heap.size, 3, none⟩ = some (.int .i64 d) ∧ w'.cell? ⟨w.heap.size, 4, none⟩ = some (.int .i64 t) ∧ w'.cell? ⟨w.heap.size, 5, none⟩ = some (.slice A fs.length c) ∧ w'.cell? ⟨w4.heap.size, 0, none⟩ = some (.int .i64 a) ∧ w'.cell? ⟨w4.heap.size, 1, none⟩ = some (.int .i64 b) ∧ w'.cell? ⟨w4.heap.size, 2, none⟩ = some (.int .i64 m) ∧ w'.cell? ⟨w4.heap.size, 3, none⟩ = some (.int .i64 d) ∧ w'.cell? ⟨w4.heap.size, 4, none⟩ = some (.int .i64 t) ∧ w'.cell? ⟨w4.heap.size, 5, none⟩ = some (.slice Ax fs.length cx) ∧ Below w5.heap.size w5 w')) := Lib.hid (fun w' hw => ⟨(hw.cell (p := ⟨w.heap.size, 0, none⟩) bx.out.lt).trans (bx.out.cell 0), (hw.cell (p := ⟨w.heap.size, 1, none⟩) bx.out.lt).trans (bx.out.cell 1), (hw.cell (p := ⟨w.heap.size, 2, none⟩) bx.out.lt).trans (bx.out.cell 2), (hw.cell (p := ⟨w.heap.size, 3, none⟩) bx.out.lt).trans (bx.out.cell 3), (hw.cell (p := ⟨w.heap.size, 4, none⟩) bx.out.lt).trans (bx.out.cell 4), (hw.cell (p := ⟨w.heap.size, 5, none⟩) bx.out.lt).trans (bx.out.cell 5), (hw.cell (p := ⟨w4.heap.size, 0, none⟩) x0.out.lt).trans (x0.out.cell 0), (hw.cell (p := ⟨w4.heap.size, 1, none⟩) x0.out.lt).trans (x0.out.cell 1), (hw.cell (p := ⟨w4.heap.size, 2, none⟩) x0.out.lt).trans (x0.out.cell 2), (hw.cell (p := ⟨w4.heap.size, 3, none⟩) x0.out.lt).trans (x0.out.cell 3), (hw.cell (p := ⟨w4.heap.size, 4, none⟩) x0.out.lt).trans (x0.out.cell 4), (hw.cell (p := ⟨w4.heap.size, 5, none⟩) x0.out.lt).trans (x0.out.cell 5), hw⟩)
    have hrefl := Below.refl w5.heap.size w5
    have Hrt := Lib.hid (Hr.out.on Hb5.out)
    have qbx_0 : w5.cell? ⟨w.heap.size, 0, none⟩ = some (.int .i64 a) := bx.out.cell 0
    have qbx_1 : w5.cell? ⟨w.heap.size, 1, none⟩ = some (.int .i64 b) := bx.out.cell 1
    have qbx_2 : w5.cell? ⟨w.heap.size, 2, none⟩ = some (.int .i64 m) := bx.out.cell 2
    have qbx_3 : w5.cell? ⟨w.heap.size, 3, none⟩ = some (.int .i64 d) := bx.out.cell 3
    have qbx_4 : w5.cell? ⟨w.heap.size, 4, none⟩ = some (.int .i64 t) := bx.out.cell 4
    have qbx_5 : w5.cell? ⟨w.heap.size, 5, none⟩ = some (.slice A fs.length c) := bx.out.cell 5
    have qbx_l := bx.out.lt
    have qx0_0 : w5.cell? ⟨w4.heap.size, 0, none⟩ = some (.int .i64 a) := x0.out.cell 0
    have qx0_1 : w5.cell? ⟨w4.heap.size, 1, none⟩ = some (.int .i64 b) := x0.out.cell 1
    have qx0_2 : w5.cell? ⟨w4.heap.size, 2, none⟩ = some (.int .i64 m) := x0.out.cell 2
    have qx0_3 : w5.cell? ⟨w4.heap.size, 3, none⟩ = some (.int .i64 d) := x0.out.cell 3
    have qx0_4 : w5.cell? ⟨w4.heap.size, 4, none⟩ = some (.int .i64 t) := x0.out.cell 4
    have qx0_5 : w5.cell? ⟨w4.heap.size, 5, none⟩ = some (.slice Ax fs.length cx) := x0.out.cell 5
    have qx0_l := x0.out.lt
    go_wp2_with fail
    go_region_held3 (fun w' => w'.cell? ⟨w.heap.size, 0, none⟩ = some (.int .i64 a) ∧ w'.cell? ⟨w.heap.size, 1, none⟩ = some (.int .i64 b) ∧ w'.cell? ⟨w.heap.size, 2, none⟩ = some (.int .i64 m) ∧ w'.cell? ⟨w.heap.size, 3, none⟩ = some (.int .i64 d) ∧ w'.cell? ⟨w.heap.size, 4, none⟩ = some (.int .i64 t) ∧ w'.cell? ⟨w.heap.size, 5, none⟩ = some (.slice A fs.length c) ∧ w'.cell? ⟨w4.heap.size, 0, none⟩ = some (.int .i64 a) ∧ w'.cell? ⟨w4.heap.size, 1, none⟩ = some (.int .i64 b) ∧ w'.cell? ⟨w4.heap.size, 2, none⟩ = some (.int .i64 m) ∧ w'.cell? ⟨w4.heap.size, 3, none⟩ = some (.int .i64 d) ∧ w'.cell? ⟨w4.heap.size, 4, none⟩ = some (.int .i64 t) ∧ w'.cell? ⟨w4.heap.size, 5, none⟩ = some (.slice Ax fs.length cx) ∧ Below w5.heap.size w5 w') (((go_split_ands; refine HS.out _ ?_; repeat (first | (with_reducible assumption) | (with_reducible refine Below.drew ?_) | (with_reducible refine bthen ?_ (by with_reducible assumption)))))) ((first | (go_at_call 30; (with_reducible refine (toTask_any a b m d t A c fs _ (Hrt.out.on (by go_split_ands; with_reducible assumption)) hl).mono ?_); rintro e wa ⟨⟨Ay, cy, rfl, hoy⟩, hba⟩) | (go_at_call 32; (with_reducible refine (eqTask_same a b m d t _ _ _ _ fs _ ((Rd.of_own (S := ptS) Ox.out rfl).on (by go_split_ands; with_reducible assumption)) (by first | (with_reducible exact Rd.of_own hoy rfl) | (with_reducible exact (Rd.of_own hoy rfl).on (Below.drew (Below.refl _ _))))).mono ?_); rintro e wb ⟨rfl, hbb⟩)))
    have hbr : Below w5.heap.size w5 wb := by go_split_ands; repeat (first | (with_reducible assumption) | (with_reducible refine Below.drew ?_) | (with_reducible refine bthen ?_ (by with_reducible assumption)))
    clear HS hrefl Hrt qbx_0 qbx_1 qbx_2 qbx_3 qbx_4 qbx_5 qbx_l qx0_0 qx0_1 qx0_2 qx0_3 qx0_4 qx0_5 qx0_l
    have hb6 := hbr; clear hbr
    replace Tb := Lib.hid (Tb.out.on (hb6))
    replace bx := Lib.hid (bx.out.on (hb6))
    replace Ox := Lib.hid (own_below Ox.out (hb6))
    replace x0 := Lib.hid (x0.out.on (hb6))
    have sz6 := Lib.hid (show w5.heap.size + 0 ≤ wb.heap.size by have := hb6.size; (try simp only [World.size_alloc] at this); omega)
    have Hb6 := Lib.hid (bthen (Hb5.out) hb6)
    clear hb6
    go_wp2
    go_ret
    exact ⟨rfl, Hb6.out⟩
  · go_enter Tryd.func6, Tryd.ntmps6
    go_wp2_with fail
    refine (szTask_any a b m d t A fs.length c 1048576 _ (by omega) (by omega) (by omega)).mono ?_; rintro e w1 ⟨rfl, hb1⟩
    rw [szI_neg (by omega)]
    go_wp2
    go_ret
    exact ⟨rfl, bthen (bal (Below.refl _ _) _) hb1⟩

set_option maxRecDepth 100000 in
theorem fnExactTaskText_lifted (os : Os) (started : os.Started) (H : Type) (enc : TypeId × Value → H) :
    ReturnsInHanded {} Tryd.checked os 6 .any (fun w args => (Rows.fnExactTaskTextSpec.pre enc Tryd.prog Tryd.f6 [] false w args ∧ laidMetH Tryd.prog laid3 w) ∧ sizedMet enc Tryd.prog Tryd.f6 (OpenSpec.ofChange Rows.fnExactTaskTextSpec) false w args) (Rows.fnExactTaskTextSpec.post enc Tryd.prog Tryd.f6 false true false false) := by
  refine returnsInHanded_of_change_and (C := Tryd.checked) (X := fun w _ => laidMetH Tryd.prog laid3 w) (fun _ _ _ hh h => h.of_heap hh) own_knob started (by kernel_rfl) Tryd.func6
    (ChangeSpec.witness_shaped (enc := enc) (C := Tryd.checked) (os := os) (X := fun w _ => laidMetH Tryd.prog laid3 w) false (World.doorLaid Tryd.prog 72 os) #[.agg #[.int .i64 0, .int .i64 0, .int .i64 0, .int .i64 0, .int .i64 0, .slice none 0 0]] 8 rfl (World.shaped_of_RefB (by kernel_rfl) (by kernel_rfl)) (by kernel_rfl) (by kernel_rfl) (by kernel_rfl) (door3 os _)) ?_
  intro W base args ds gs before hval0 hW _ _ hL _
  have hval : ∀ (j : Nat) t v, Tryd.f6.params[j]? = some t → args[j]? = some v → Value.okWide Tryd.prog W .any base t v := hval0
  have hW' := hW
  obtain ⟨p, q, hA0, hV, rfl, hfz, hnd⟩ := hW
  have hA : DataW.TrodAll enc Tryd.prog W 0 (fun _ => true) true Tryd.f6.params.toList args.toList ds p := hA0
  rw [Tryd.params6] at hA hval
  obtain ⟨v0, d0, rfl, rfl, h0⟩ := trodAll_one hA
  obtain ⟨rfl, rfl⟩ := trodVars_none hV
  simp only [List.append_nil] at hW'
  have hlt := hW'.lt
  have hlt0 : ∀ x ∈ p, x.block < W.heap.size := hlt
  have k0 := h0
  obtain ⟨ns0, u0, es0, hn0, rfl, hwf0, hr0⟩ := open_ints_tail ptS ptMk ptMk_cell Tryd.underlying49 4 5 (by kernel_rfl) (by kernel_rfl) (by kernel_rfl) Tryd.underlying47 (by decide) (by kernel_rfl) (by kernel_rfl) (hval 0 49 v0 rfl rfl) h0
  obtain ⟨x0a, x0b, x0c, x0d, x0e, rfl⟩ := list5 hn0
  have hr09 := hr0
  obtain ⟨A0, c0, rfl, -, -, -⟩ := hr09
  refine (fnExactTaskText_walk x0a x0b x0c x0d x0e A0 c0 es0 W hr0 (tab_of_laid3 hL)).mono fun e W' ⟨he, hb⟩ => ?_
  subst he
  exact ⟨_, rfl, post_below hW' (trodAll_mk1 (shut_bool Tryd.underlying4 true)) (trodAll_mk1 (WideElems.Trod_stays laid_out (by kernel_rfl) (of_decide_eq_true (by kernel_rfl)) k0 (fun x hx => hb.same (hlt0 x hx)) (fun x hx => by simpa using hlt0 x hx))) rfl (by first | rfl | (simp only [List.append_assoc]; done)) hb⟩

theorem fnExactTaskText_holds : Rows.FnExactTaskTextSaid :=
  OpenClaim.holds_of_wide 6 Tryd.f6 rfl rfl rfl rfl rfl rfl rfl ⟨rfl, rfl, rfl, rfl, rfl⟩ rfl rfl rfl rfl rfl (by kernel_rfl) Tryd.func6 fnExactTaskText_facts
    (of_decide_eq_true (by kernel_rfl)) (by unfold Func.isWrapper; rw [if_neg (of_decide_eq_false (by kernel_rfl))]; exact ⟨rfl, rfl⟩)
    (fun os started H enc _ => fnExactTaskText_lifted os started H enc)


theorem fnExactTaskText_card : Rows.FnExactTaskTextCardSaid :=
  Claim7.holds_tied_plain_at .later [] [.data, .data, .data] true (true, "fe6689c953cf34b2516cf44cbca2f30bcdb6e88459cca52bc4d8a0854e218c26") true
    fnExactTaskText_holds (fun _ h => by cases h) (by kernel_rfl) (fun _ h => by cases h) fnExactTaskText_row_tie rfl ⟨rfl, rfl⟩ (by kernel_rfl) rfl
    (fun f fn hf hfn => by
      obtain rfl : f = 6 := Option.some.inj ((show Tryd.prog.funcNamed "loop.example/g01004/laws.FnExactTaskText" = some 6 by kernel_rfl).symm.trans hf) |>.symm
      obtain rfl : fn = Tryd.f6 := (Option.some.inj (Tryd.func6.symm.trans hfn)).symm
      exact ⟨by kernel_rfl, fun j t ht => by
        rw [Tryd.params6] at ht
        have hm : t ∈ [49] := by simpa using Array.mem_of_getElem? ht
        have hall : ([49].all fun u => !Tryd.prog.wantsStandIn u) = true := by kernel_rfl
        exact (show Tryd.prog.wantsStandIn t = false by simpa using List.all_eq_true.1 hall t hm)⟩)
    (by kernel_rfl)

end Go.Proofs.YtegnommappmegaaDoor
