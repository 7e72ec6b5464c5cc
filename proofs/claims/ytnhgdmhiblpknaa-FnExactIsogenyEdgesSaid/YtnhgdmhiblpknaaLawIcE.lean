/- The law FnExactIsogenyEdges: for all arguments the program's answer is the reference's. Conditions: none. -/
import Derived.Test.YtnhgdmhiblpknaaIcE
import Derived.Test.YtnhgdmhiblpknaaSCurve
import Derived.Test.YtnhgdmhiblpknaaSIntSS
import Derived.Test.YtnhgdmhiblpknaaFrame
namespace Go.Proofs.Ytnhgdmhiblpknaa
open Go Go.RowKit Go.ChangeShapes Go.WideShapes

theorem edgesV_len (L : List Cu) : (edgesV L).1.length ≤ 64 := by
  unfold edgesV
  split
  · rename_i h
    have h1 := edTo_len L L.length
    have h2 : L.length ≤ 8 := by
      unfold edB at h
      simp only [Bool.and_eq_true, decide_eq_true_eq] at h
      exact h.1
    have : L.length * L.length ≤ 8 * 8 := Nat.mul_le_mul h2 h2
    simp only
    omega
  · simp
theorem edgesV_tot (L : List Cu) : totL (cellsII (edgesV L).1) ≤ 128 := by
  have key : ∀ (ess : List (List Int)), (∀ e ∈ ess, e.length = 2) → totL (cellsII ess) = 2 * ess.length := by
    intro ess
    induction ess with
    | nil => intro _; rfl
    | cons e ess ih =>
      intro h
      have h1 := ih (fun x hx => h x (List.mem_cons_of_mem _ hx))
      have h2 := h e List.mem_cons_self
      unfold totL cellsII at *
      simp only [List.map_cons, List.sum_cons, List.length_map, List.length_cons] at *
      omega
  have hl := edgesV_len L
  rw [key]
  · omega
  · intro e he
    unfold edgesV at he
    split at he
    · unfold edTo edAt at he
      simp only [List.mem_flatMap, List.mem_map] at he
      obtain ⟨i, -, k, -, rfl⟩ := he
      rfl
    · simp at he
set_option maxRecDepth 8000 in
set_option maxHeartbeats 8000000 in
theorem fnExactIsogenyEdges_walk (v0 : Value) (es : List Cu) (w : World) (hr : Rd cuS w w.heap.size v0 es) :
    Calls Try.prog 3 #[v0] w fun e w' => e = .returned (.bool true) ∧ Below w.heap.size w w' := by
  have hq0 := hr
  obtain ⟨A0, c0, rfl, hc0, hm0, -⟩ := hq0
  unfold maxLen at hm0
  have Hr := Lib.hid hr; clear hr
  by_cases hl : es.length ≤ 1048576
  · skip
    go_enter Try.func3, Try.ntmps3
    go_wp2_with fail
    refine (szCurveS_any _ _ _ _ _ (by omega) (by omega) (by omega)).mono ?_; rintro e z0 ⟨rfl, rfl⟩
    rw [szI_pos (by omega)]
    have hge : (0 : Int) ≤ 1048576 - (es.length : Int) := by omega
    go_wp2_with fail
    refine (toCurveS_any _ es _ (Hr.out.on (Below.refl _ _)) hl).mono ?_; rintro e w1 ⟨vs, rfl, hos, hb1⟩
    have Os := Lib.hid hos
    have GOs := Lib.hid (World.ownsRow.lt hos)
    clear hos
    have sz1 := Lib.hid (show w.heap.size + 0 ≤ w1.heap.size by have := hb1.size; (try simp only [World.size_alloc] at this); omega)
    have Hb1 := Lib.hid (bthen (Below.refl _ _) hb1)
    clear hb1
    go_wp2_with fail
    refine (edgesS_any _ es _ (Rd.of_own Os.out rfl)).mono ?_; rintro e w2 ⟨⟨v0, vs0, rfl, ho0⟩, hb2⟩
    have R0 := Lib.hid ho0; clear ho0
    replace Os := Lib.hid (own_below Os.out (hb2))
    have sz2 := Lib.hid (show w1.heap.size + 0 ≤ w2.heap.size by have := hb2.size; (try simp only [World.size_alloc] at this); omega)
    have Hb2 := Lib.hid (bthen (Hb1.out) hb2)
    clear hb2
    clear Os
    have ly := edgesV_len es
    have lt := edgesV_tot es
    go_wp2_with fail
    refine (toCurveS_any _ es _ (Hr.out.on (Hb2.out)) hl).mono ?_; rintro e w3 ⟨vx, rfl, hox, hb3⟩
    have Ox := Lib.hid hox
    have GOx := Lib.hid (World.ownsRow.lt hox)
    clear hox
    replace R0 := Lib.hid (R0.out.on (hb3))
    have sz3 := Lib.hid (show w2.heap.size + 0 ≤ w3.heap.size by have := hb3.size; (try simp only [World.size_alloc] at this); omega)
    have Hb3 := Lib.hid (bthen (Hb2.out) hb3)
    clear hb3
    go_wp2_with fail
    refine (edgesI_any _ es _ (Rd.of_own Ox.out rfl)).mono ?_; rintro e w4 ⟨⟨v1, vs1, rfl, ho1⟩, hb4⟩
    have R1 := Lib.hid ho1; clear ho1
    replace R0 := Lib.hid (R0.out.on (hb4))
    replace Ox := Lib.hid (own_below Ox.out (hb4))
    have sz4 := Lib.hid (show w3.heap.size + 0 ≤ w4.heap.size by have := hb4.size; (try simp only [World.size_alloc] at this); omega)
    have Hb4 := Lib.hid (bthen (Hb3.out) hb4)
    clear hb4
    go_wp2_with fail
    refine (eqIntSS_same _ _ _ _ (NRd.of_own R1.out) (NRd.of_own R0.out)).mono ?_; rintro e w5 ⟨rfl, hb5⟩
    replace R0 := Lib.hid (R0.out.on (hb5))
    replace Ox := Lib.hid (own_below Ox.out (hb5))
    replace R1 := Lib.hid (R1.out.on (hb5))
    have sz5 := Lib.hid (show w4.heap.size + 0 ≤ w5.heap.size by have := hb5.size; (try simp only [World.size_alloc] at this); omega)
    have Hb5 := Lib.hid (bthen (Hb4.out) hb5)
    clear hb5
    go_wp2_with fail
    refine (toCurveS_any _ es _ (Hr.out.on (Hb5.out)) hl).mono ?_; rintro e w6 ⟨vt, rfl, hot, hb6⟩
    have Ot := Lib.hid hot
    have GOt := Lib.hid (World.ownsRow.lt hot)
    clear hot
    replace R0 := Lib.hid (R0.out.on (hb6))
    replace Ox := Lib.hid (own_below Ox.out (hb6))
    replace R1 := Lib.hid (R1.out.on (hb6))
    have sz6 := Lib.hid (show w5.heap.size + 0 ≤ w6.heap.size by have := hb6.size; (try simp only [World.size_alloc] at this); omega)
    have Hb6 := Lib.hid (bthen (Hb5.out) hb6)
    clear hb6
    go_wp2_with fail
    refine (eqCurveS_same _ _ es _ (Rd.of_own Ox.out rfl) (Rd.of_own Ot.out rfl)).mono ?_; rintro e w7 ⟨rfl, hb7⟩
    replace R0 := Lib.hid (R0.out.on (hb7))
    replace Ox := Lib.hid (own_below Ox.out (hb7))
    replace R1 := Lib.hid (R1.out.on (hb7))
    replace Ot := Lib.hid (own_below Ot.out (hb7))
    have sz7 := Lib.hid (show w6.heap.size + 0 ≤ w7.heap.size by have := hb7.size; (try simp only [World.size_alloc] at this); omega)
    have Hb7 := Lib.hid (bthen (Hb6.out) hb7)
    clear hb7
    clear Ot
    go_wp2_with fail
    refine (markCurveS_any _ _ _ 1 _ _ Ox.out (by omega) (by omega) (by omega)).mono ?_; rintro e w8 ⟨rfl, om, hg⟩
    replace R0 := Lib.hid (R0.out.kept hg (by intro g h2; have g2 := GOx.out g h2; have zsz1 := sz1.out; have zsz2 := sz2.out; have zsz3 := sz3.out; have zsz4 := sz4.out; have zsz5 := sz5.out; have zsz6 := sz6.out; have zsz7 := sz7.out; (try simp only [World.size_alloc] at g2 ⊢); omega))
    replace R1 := Lib.hid (R1.out.kept hg (by intro g h2; have g2 := GOx.out g h2; have zsz1 := sz1.out; have zsz2 := sz2.out; have zsz3 := sz3.out; have zsz4 := sz4.out; have zsz5 := sz5.out; have zsz6 := sz6.out; have zsz7 := sz7.out; (try simp only [World.size_alloc] at g2 ⊢); omega))
    have sz8 := Lib.hid (show w7.heap.size + 0 ≤ w8.heap.size by have := hg.size; omega)
    have Hb8 := Lib.hid (Below.grown Hb7.out hg Hb7.out.size (fun k h2 => by have g2 := GOx.out k h2; have zsz1 := sz1.out; have zsz2 := sz2.out; have zsz3 := sz3.out; have zsz4 := sz4.out; have zsz5 := sz5.out; have zsz6 := sz6.out; have zsz7 := sz7.out; have zsz8 := sz8.out; (try simp only [World.size_alloc] at g2); omega))
    replace Ox := Lib.hid om
    clear om hg
    obtain ⟨K1, HK1⟩ : ∃ K : Int, (1 : Int) + ((es.length * 2 : Nat) : Int) = K := ⟨_, rfl⟩
    rw [HK1]
    have HkK1 := Lib.hid HK1
    have hK1 : (0 : Int) ≤ K1 := by omega
    clear HK1
    clear Ox
    go_wp2_with fail
    refine (eqIntSS_same _ _ _ _ (NRd.of_own R1.out) (NRd.of_own R0.out)).mono ?_; rintro e w9 ⟨rfl, hb9⟩
    replace R0 := Lib.hid (R0.out.on (hb9))
    replace R1 := Lib.hid (R1.out.on (hb9))
    have sz9 := Lib.hid (show w8.heap.size + 0 ≤ w9.heap.size by have := hb9.size; (try simp only [World.size_alloc] at this); omega)
    have Hb9 := Lib.hid (bthen (Hb8.out) hb9)
    clear hb9
    go_wp2_with fail
    refine (markIntSS_any _ _ _ 1 _ _ _ R1.out (by rw [lenII]; omega) (by omega) (by omega) (by omega)).mono ?_; rintro e w10 ⟨rfl, om, hg⟩
    replace R0 := Lib.hid (hg.nown R0.out (by have zsz1 := sz1.out; have zsz2 := sz2.out; have zsz3 := sz3.out; have zsz4 := sz4.out; have zsz5 := sz5.out; have zsz6 := sz6.out; have zsz7 := sz7.out; have zsz8 := sz8.out; have zsz9 := sz9.out; (try simp only [World.size_alloc]); omega))
    have sz10 := Lib.hid (show w9.heap.size + 0 ≤ w10.heap.size by have := hg.size; omega)
    have Hb10 := Lib.hid (Hb9.out.trans (hg.below (B := w.heap.size) (by have zsz1 := sz1.out; have zsz2 := sz2.out; have zsz3 := sz3.out; have zsz4 := sz4.out; have zsz5 := sz5.out; have zsz6 := sz6.out; have zsz7 := sz7.out; have zsz8 := sz8.out; have zsz9 := sz9.out; have zsz10 := sz10.out; (try simp only [World.size_alloc]); omega) (by have zsz1 := sz1.out; have zsz2 := sz2.out; have zsz3 := sz3.out; have zsz4 := sz4.out; have zsz5 := sz5.out; have zsz6 := sz6.out; have zsz7 := sz7.out; have zsz8 := sz8.out; have zsz9 := sz9.out; have zsz10 := sz10.out; (try simp only [World.size_alloc]); omega)))
    replace R1 := Lib.hid om
    clear om hg
    obtain ⟨K2, HK2⟩ : ∃ K : Int, (1 : Int) + (totL (cellsII (edgesV es).1) : Int) = K := ⟨_, rfl⟩
    rw [HK2]
    have HkK2 := Lib.hid HK2
    have hK2 : (0 : Int) ≤ K2 := by omega
    clear HK2
    go_wp2_with fail
    refine (heldIntSS_any _ _ _ 1 _ _ _ R1.out (by rw [lenII]; omega) (by omega) (by omega) (by omega)).mono ?_; rintro e z11 ⟨rfl, rfl⟩
    rw [HkK2.out]
    go_wp2_with fail
    refine (toCurveS_any _ es _ (Hr.out.on (Hb10.out)) hl).mono ?_; rintro e w12 ⟨vy, rfl, hoy, hb12⟩
    have Oy := Lib.hid hoy
    have GOy := Lib.hid (World.ownsRow.lt hoy)
    clear hoy
    replace R0 := Lib.hid (R0.out.on (hb12))
    replace R1 := Lib.hid (R1.out.on (hb12))
    have sz12 := Lib.hid (show w10.heap.size + 0 ≤ w12.heap.size by have := hb12.size; (try simp only [World.size_alloc] at this); omega)
    have Hb12 := Lib.hid (bthen (Hb10.out) hb12)
    clear hb12
    go_wp2_with fail
    refine (edgesI_any _ es _ (Rd.of_own Oy.out rfl)).mono ?_; rintro e w13 ⟨⟨v2, vs2, rfl, ho2⟩, hb13⟩
    have R2 := Lib.hid ho2; clear ho2
    replace R0 := Lib.hid (R0.out.on (hb13))
    replace R1 := Lib.hid (R1.out.on (hb13))
    replace Oy := Lib.hid (own_below Oy.out (hb13))
    have sz13 := Lib.hid (show w12.heap.size + 0 ≤ w13.heap.size by have := hb13.size; (try simp only [World.size_alloc] at this); omega)
    have Hb13 := Lib.hid (bthen (Hb12.out) hb13)
    clear hb13
    clear Oy
    go_wp2_with fail
    refine (eqIntSS_same _ _ _ _ (NRd.of_own R2.out) (NRd.of_own R0.out)).mono ?_; rintro e w14 ⟨rfl, hb14⟩
    replace R0 := Lib.hid (R0.out.on (hb14))
    replace R1 := Lib.hid (R1.out.on (hb14))
    replace R2 := Lib.hid (R2.out.on (hb14))
    have sz14 := Lib.hid (show w13.heap.size + 0 ≤ w14.heap.size by have := hb14.size; (try simp only [World.size_alloc] at this); omega)
    have Hb14 := Lib.hid (bthen (Hb13.out) hb14)
    clear hb14
    go_wp2_with fail
    refine (heldIntSS_any _ _ _ 1 _ _ _ R1.out (by rw [lenII]; omega) (by omega) (by omega) (by omega)).mono ?_; rintro e z15 ⟨rfl, rfl⟩
    rw [HkK2.out]
    go_wp2
    go_ret
    exact ⟨rfl, Hb14.out⟩
  · go_enter Try.func3, Try.ntmps3
    go_wp2_with fail
    refine (szCurveS_any _ _ _ _ _ (by omega) (by omega) (by omega)).mono ?_; rintro e z0 ⟨rfl, rfl⟩
    rw [szI_neg (by omega)]
    go_wp2
    go_ret
    exact ⟨rfl, Below.refl _ _⟩

set_option maxRecDepth 100000 in
theorem fnExactIsogenyEdges_lifted (os : Os) (started : os.Started) (H : Type) (enc : TypeId × Value → H) :
    ReturnsInHanded {} Try.checked os 3 .any (Rows.fnExactIsogenyEdgesSpec.pre6 enc Try.prog Try.f3 Rows.fnExactIsogenyEdgesRow.domain false) (Rows.fnExactIsogenyEdgesSpec.post enc Try.prog Try.f3 false true false false) := by
  refine returnsInHanded_of_change (C := Try.checked) own_knob started (by kernel_rfl) Try.func3
    (ChangeSpec.witness6 (enc := enc) (C := Try.checked) false ⟨#[], #[.slice none 0 0], []⟩ 8 (by kernel_rfl) (by kernel_rfl) (by kernel_rfl) (by kernel_rfl)) ?_
  intro W base args ds gs before hval0 hW _ _
  have hval : ∀ (j : Nat) t v, Try.f3.params[j]? = some t → args[j]? = some v → Value.okWide Try.prog W .any base t v := hval0
  have hW' := hW
  obtain ⟨p, q, hA0, hV, rfl, hfz, hnd⟩ := hW
  have hA : DataW.TrodAll enc Try.prog W 0 (fun _ => true) true Try.f3.params.toList args.toList ds p := hA0
  rw [Try.params3] at hA hval
  obtain ⟨v0, d0, rfl, rfl, h0⟩ := trodAll_one hA
  obtain ⟨rfl, rfl⟩ := trodVars_none hV
  simp only [List.append_nil] at hW'
  have hlt := hW'.lt
  have hlt0 : ∀ x ∈ p, x.block < W.heap.size := hlt
  have k0 := h0
  obtain ⟨es0, hr0⟩ := open_ints_slice cuS cuMk cuMk_cell Try.underlying22 (by decide) (by kernel_rfl) 5 (by kernel_rfl) (hval 0 22 v0 rfl rfl) h0
  refine (fnExactIsogenyEdges_walk v0 es0 W hr0).mono fun e W' ⟨he, hb⟩ => ?_
  subst he
  exact ⟨_, rfl, post_below hW' (trodAll_mk1 (shut_bool Try.underlying4 true)) (trodAll_mk1 (WideElems.Trod_stays laid_out (by kernel_rfl) (of_decide_eq_true (by kernel_rfl)) k0 (fun x hx => hb.same (hlt0 x hx)) (fun x hx => by simpa using hlt0 x hx))) rfl (by first | rfl | (simp only [List.append_assoc]; done)) hb⟩

theorem fnExactIsogenyEdges_holds : Rows.FnExactIsogenyEdgesSaid :=
  OpenClaim.holds_of_wide 3 Try.f3 rfl rfl rfl rfl rfl rfl rfl ⟨rfl, rfl, rfl, rfl, rfl⟩ rfl rfl rfl rfl rfl (by kernel_rfl) Try.func3 (by kernel_rfl)
    (of_decide_eq_true (by kernel_rfl)) (by unfold Func.isWrapper; rw [if_neg (of_decide_eq_false (by kernel_rfl))]; exact ⟨rfl, rfl⟩)
    (fun os started H enc _ => fnExactIsogenyEdges_lifted os started H enc)

end Go.Proofs.Ytnhgdmhiblpknaa
