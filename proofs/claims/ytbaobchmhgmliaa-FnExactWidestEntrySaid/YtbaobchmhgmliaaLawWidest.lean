/- The law FnExactWidestEntry: for all arguments the program's answer is the reference's. Conditions: none. -/
import Derived.Test.YtbaobchmhgmliaaSEntry
import Derived.Test.YtbaobchmhgmliaaWidest
import Derived.Test.YtbaobchmhgmliaaFrame
namespace Go.Proofs.Ytbaobchmhgmliaa
open Go Go.RowKit Go.ChangeShapes Go.WideShapes

set_option maxHeartbeats 4000000 in
theorem fnExactWidestEntry_walk (v0 : Value) (es0 : List En) (w : World) (hr0 : Rd enS w w.heap.size v0 es0) :
    Calls Try.prog 7 #[v0] w fun e w' => e = .returned (.bool true) ∧ Below w.heap.size w w' := by
  have hq0 := hr0
  obtain ⟨A0, c0, rfl, hc0, hm0, -⟩ := hq0
  unfold maxLen at hm0
  have Hr0 := Lib.hid hr0; clear hr0
  by_cases hl0 : es0.length ≤ 1048576
  · skip
    go_enter Try.func7, Try.ntmps7
    go_wp2_with fail
    refine (szEntryS_any _ _ _ _ _ (by omega) (by omega) (by omega)).mono ?_; rintro e z0 ⟨rfl, rfl⟩
    rw [szI_pos (by omega)]
    have hge0 : (0 : Int) ≤ 1048576 - (es0.length : Int) := by omega
    go_wp2_with fail
    refine (toEntryS_any _ es0 _ Hr0.out (by omega)).mono ?_; rintro e w1 ⟨cp1, rfl, ho1, hb1⟩
    replace hb1 := bthen (Below.refl _ _) hb1
    go_wp2_with fail
    refine (specWidest_any _ es0 _ (Rd.of_own ho1 rfl)).mono ?_; rintro e w2 ⟨⟨y0, b0, rfl, hy0⟩, hb2⟩
    replace ho1 := own_below ho1 (hb2)
    replace hb2 := bthen (hb1) hb2
    clear ho1
    have Hy0 := Lib.hid hy0; clear hy0
    go_wp2_with fail
    have hw0 : Blk _ (w2.heap.size) 36 #[.int .i64 y0.a, .int .i64 y0.b, .int .i64 y0.lo, .int .i64 y0.hi, .int .i64 y0.to] := (Blk.new (w2) 36 #[.int .i64 y0.a, .int .i64 y0.b, .int .i64 y0.lo, .int .i64 y0.hi, .int .i64 y0.to])
    refine (toEntryS_any _ es0 _ (Hr0.out.on (bal (hb2) _)) (by omega)).mono ?_; rintro e w3 ⟨cp3, rfl, ho3, hb3⟩
    replace hw0 := hw0.on hb3
    replace hb3 := bthen (bal (hb2) _) hb3
    have qhw0_0 : w3.cell? ⟨(w2.heap.size), 0, none⟩ = some (.int .i64 y0.a) := hw0.cell 0
    have qhw0_1 : w3.cell? ⟨(w2.heap.size), 1, none⟩ = some (.int .i64 y0.b) := hw0.cell 1
    have qhw0_2 : w3.cell? ⟨(w2.heap.size), 2, none⟩ = some (.int .i64 y0.lo) := hw0.cell 2
    have qhw0_3 : w3.cell? ⟨(w2.heap.size), 3, none⟩ = some (.int .i64 y0.hi) := hw0.cell 3
    have qhw0_4 : w3.cell? ⟨(w2.heap.size), 4, none⟩ = some (.int .i64 y0.to) := hw0.cell 4
    have qhw0_l := hw0.lt
    go_wp2_with fail
    clear qhw0_0 qhw0_1 qhw0_2 qhw0_3 qhw0_4 qhw0_l
    refine (implWidest_any _ es0 _ (Rd.of_own ho3 rfl)).mono ?_; rintro e w4 ⟨⟨y1, b1, rfl, hy1⟩, hb4⟩
    replace hw0 := hw0.on (hb4)
    replace ho3 := own_below ho3 (hb4)
    replace hb4 := bthen (hb3) hb4
    obtain ⟨rfl, rfl⟩ : y0 = y1 ∧ b0 = b1 := by have := Hy0.out.symm.trans hy1; simpa using this
    clear hy1
    have qhw0_0 : w4.cell? ⟨(w2.heap.size), 0, none⟩ = some (.int .i64 y0.a) := hw0.cell 0
    have qhw0_1 : w4.cell? ⟨(w2.heap.size), 1, none⟩ = some (.int .i64 y0.b) := hw0.cell 1
    have qhw0_2 : w4.cell? ⟨(w2.heap.size), 2, none⟩ = some (.int .i64 y0.lo) := hw0.cell 2
    have qhw0_3 : w4.cell? ⟨(w2.heap.size), 3, none⟩ = some (.int .i64 y0.hi) := hw0.cell 3
    have qhw0_4 : w4.cell? ⟨(w2.heap.size), 4, none⟩ = some (.int .i64 y0.to) := hw0.cell 4
    have qhw0_l := hw0.lt
    go_wp2_with fail
    clear qhw0_0 qhw0_1 qhw0_2 qhw0_3 qhw0_4 qhw0_l
    have hw1 : Blk _ (w4.heap.size) 36 #[.int .i64 y0.a, .int .i64 y0.b, .int .i64 y0.lo, .int .i64 y0.hi, .int .i64 y0.to] := (Blk.new (w4) 36 #[.int .i64 y0.a, .int .i64 y0.b, .int .i64 y0.lo, .int .i64 y0.hi, .int .i64 y0.to])
    refine (eqEntry_same _ _ _ _ _ _).mono ?_; rintro e w5 ⟨rfl, hb5⟩
    replace hw0 := hw0.on (bthen (bal (Below.refl _ _) _) hb5)
    replace ho3 := own_below ho3 (bthen (bal (Below.refl _ _) _) hb5)
    replace hw1 := hw1.on hb5
    replace hb5 := bthen (bal (hb4) _) hb5
    clear hw0
    clear hw1
    go_wp2_with fail
    refine (toEntryS_any _ es0 _ (Hr0.out.on (hb5)) (by omega)).mono ?_; rintro e w6 ⟨cp6, rfl, ho6, hb6⟩
    replace ho3 := own_below ho3 (hb6)
    replace hb6 := bthen (hb5) hb6
    go_wp2_with fail
    refine (eqEntryS_same _ _ es0 _ (Rd.of_own ho3 rfl) (Rd.of_own ho6 rfl)).mono ?_; rintro e w7 ⟨rfl, hb7⟩
    replace ho3 := own_below ho3 (hb7)
    replace ho6 := own_below ho6 (hb7)
    replace hb7 := bthen (hb6) hb7
    clear ho6
    go_wp2
    go_ret
    exact ⟨rfl, hb7⟩
  · skip
    go_enter Try.func7, Try.ntmps7
    go_wp2_with fail
    refine (szEntryS_any _ _ _ _ _ (by omega) (by omega) (by omega)).mono ?_; rintro e z0 ⟨rfl, rfl⟩
    rw [szI_neg (by omega)]
    go_wp2
    go_ret
    exact ⟨rfl, by (repeat (with_reducible first | exact Below.refl _ _ | assumption | refine bal ?_ _ | refine bst ?_ (by simp <;> omega) _ | refine Below.drew ?_ | refine bthen ?_ (by assumption)))⟩

set_option maxRecDepth 100000 in
theorem fnExactWidestEntry_lifted (os : Os) (started : os.Started) (H : Type) (enc : TypeId × Value → H) :
    ReturnsInHanded {} Try.checked os 7 .any (Rows.fnExactWidestEntrySpec.pre6 enc Try.prog Try.f7 Rows.fnExactWidestEntryRow.domain false) (Rows.fnExactWidestEntrySpec.post enc Try.prog Try.f7 false true false false) := by
  refine returnsInHanded_of_change (C := Try.checked) own_knob started (by kernel_rfl) Try.func7
    (ChangeSpec.witness6 (enc := enc) (C := Try.checked) false ⟨#[], #[.slice none 0 0], []⟩ 8 (by kernel_rfl) (by kernel_rfl) (by kernel_rfl) (by kernel_rfl)) ?_
  intro W base args ds gs before hval0 hW _ _
  have hval : ∀ (j : Nat) t v, Try.f7.params[j]? = some t → args[j]? = some v → Value.okWide Try.prog W .any base t v := hval0
  have hW' := hW
  obtain ⟨p, q, hA0, hV, rfl, hfz, hnd⟩ := hW
  have hA : DataW.TrodAll enc Try.prog W 0 (fun _ => true) true Try.f7.params.toList args.toList ds p := hA0
  rw [Try.params7] at hA hval
  obtain ⟨v0, d0, rfl, rfl, h0⟩ := trodAll_one hA
  obtain ⟨rfl, rfl⟩ := trodVars_none hV
  simp only [List.append_nil] at hW'
  have hlt := hW'.lt
  have hlt0 : ∀ x ∈ p, x.block < W.heap.size := hlt
  have k0 := h0
  obtain ⟨es0, hr0⟩ := open_ints_slice enS enMk enMk_cell Try.underlying46 (by decide) (by kernel_rfl) 5 (by kernel_rfl) (hval 0 46 v0 rfl rfl) h0
  refine (fnExactWidestEntry_walk v0 es0 W hr0).mono fun e W' ⟨he, hb⟩ => ?_
  subst he
  exact ⟨_, rfl, post_below hW' (trodAll_mk1 (shut_bool Try.underlying4 true)) (trodAll_mk1 (WideElems.Trod_stays laid_out (by kernel_rfl) (of_decide_eq_true (by kernel_rfl)) k0 (fun x hx => hb.same (hlt0 x hx)) (fun x hx => by simpa using hlt0 x hx))) rfl rfl hb⟩

theorem fnExactWidestEntry_holds : Rows.FnExactWidestEntrySaid :=
  OpenClaim.holds_of_wide 7 Try.f7 rfl rfl rfl rfl rfl rfl rfl ⟨rfl, rfl, rfl, rfl, rfl⟩ rfl rfl rfl rfl rfl (by kernel_rfl) Try.func7 (by kernel_rfl)
    (of_decide_eq_true (by kernel_rfl)) (by unfold Func.isWrapper; rw [if_neg (of_decide_eq_false (by kernel_rfl))]; exact ⟨rfl, rfl⟩)
    (fun os started H enc _ => fnExactWidestEntry_lifted os started H enc)

end Go.Proofs.Ytbaobchmhgmliaa
