/- The law FnExactParseTask: for all arguments the program's answer is the reference's. Conditions: none (the listed variables are tied to the program's text). -/
import Derived.Test.YticbmpjdcanjkaaGreatDoorPsS
import Derived.Test.YticbmpjdcanjkaaGreatDoorTaskW
import Derived.Test.YticbmpjdcanjkaaGreatDoorOpenT
import Derived.Test.YticbmpjdcanjkaaGreatDoorFPsT
import Derived.Test.YticbmpjdcanjkaaGreatDoorLaid7
import Derived.Test.YticbmpjdcanjkaaGreatDoorOpenJ
import Derived.ChangeMaps5
import Derived.Test.YticbmpjdcanjkaaGreatDoorFrame
import Derived.Test.YticbmpjdcanjkaaGreatDoorTie
import Derived.Test.YticbmpjdcanjkaaGreatDoorCards
import Derived.SevenTiedAt
import Derived.Stop.Joined
import Derived.ProofKit
namespace Go.Proofs.YticbmpjdcanjkaaGreatDoor
open Go Go.RowKit Go.ChangeShapes Go.WideShapes

theorem psV_len {s : ByteArray} {A B M D T : Int} {L : List Pt} {k : Bool} (h : psV s = (A, B, M, D, T, L, k)) : L.length ≤ 4010 := by
  cases hp : psI s with
  | none =>
    rw [psV_none hp] at h
    unfold zeroT at h
    simp only [Prod.mk.injEq] at h
    rw [← h.2.2.2.2.2.1]
    simp
  | some p =>
    obtain ⟨a, b, m, d, t⟩ := p
    rw [psV_some hp] at h
    simp only [Prod.mk.injEq] at h
    rw [← h.2.2.2.2.2.1]
    have h1 := hitsZ_len a b m 0 t
    have h2 := (tk5_small (psI_spec hp).1).2.2.2.2
    omega
set_option maxRecDepth 8000 in
set_option maxHeartbeats 8000000 in
theorem fnExactParseTask_walk (s : ByteArray) (w : World) (hd : s.size ≤ maxLen) (he : Env w) :
    Calls Tryz.prog 3 #[.string s] w fun e w' => e = .returned (.bool true) ∧ Below w.heap.size w w' := by
  unfold maxLen at hd
  have He := Lib.hid he; clear he
  go_enter Tryz.func3, Tryz.ntmps3
  by_cases hs : s.size ≤ 1048576
  · have hs1 : ¬ (1048576 : Int) < (s.size : Int) := by omega
    go_wp2_with fail
    refine (specParse_any s _ (by omega)).mono ?_; rintro e w1 ⟨⟨B00, B10, B20, B30, B40, Y0, k0, v0, rfl, hy0, ho0⟩, hb1⟩
    have Hy := Lib.hid hy0; clear hy0
    have ly : Y0.length ≤ 4010 := psV_len Hy.out
    obtain ⟨C0, e0, rfl, -, -, -⟩ := Rd.of_own (S := ptS) ho0 rfl
    have R0 := Lib.hid ho0
    have GR0 := Lib.hid (World.ownsRow.lt ho0)
    clear ho0
    have sz1 := Lib.hid (show w.heap.size + 0 ≤ w1.heap.size by have := hb1.size; (try simp only [World.size_alloc] at this); omega)
    have Hb1 := Lib.hid (bthen (Below.refl _ _) hb1)
    clear hb1
    go_wp2_with fail
    refine (implParse_any s _ (by omega) (He.out.on (bal (Hb1.out) _))).mono ?_; rintro e w2 ⟨⟨B01, B11, B21, B31, B41, Y1, k1, v1, rfl, hy1, ho1⟩, hb2⟩
    obtain ⟨rfl, rfl, rfl, rfl, rfl, rfl, rfl⟩ : B00 = B01 ∧ B10 = B11 ∧ B20 = B21 ∧ B30 = B31 ∧ B40 = B41 ∧ Y0 = Y1 ∧ k0 = k1 := by have h := Hy.out.symm.trans hy1; simpa using h
    clear hy1
    obtain ⟨C1, e1, rfl, -, -, -⟩ := Rd.of_own (S := ptS) ho1 rfl
    have R1 := Lib.hid ho1
    have GR1 := Lib.hid (World.ownsRow.lt ho1)
    clear ho1
    replace R0 := Lib.hid (own_below R0.out (bthen (bal (Below.refl _ _) _) hb2))
    have w0 := Lib.hid ((Blk.new w1 26 #[.int .i64 B00, .int .i64 B10, .int .i64 B20, .int .i64 B30, .int .i64 B40, .slice C0 Y0.length e0]).on hb2)
    have sz2 := Lib.hid (show w1.heap.size + 1 ≤ w2.heap.size by have := hb2.size; (try simp only [World.size_alloc] at this); omega)
    have Hb2 := Lib.hid (bthen (bal (Hb1.out) _) hb2)
    clear hb2
    have qw0_0 : w2.cell? ⟨w1.heap.size, 0, none⟩ = some (.int .i64 B00) := w0.out.cell 0
    have qw0_1 : w2.cell? ⟨w1.heap.size, 1, none⟩ = some (.int .i64 B10) := w0.out.cell 1
    have qw0_2 : w2.cell? ⟨w1.heap.size, 2, none⟩ = some (.int .i64 B20) := w0.out.cell 2
    have qw0_3 : w2.cell? ⟨w1.heap.size, 3, none⟩ = some (.int .i64 B30) := w0.out.cell 3
    have qw0_4 : w2.cell? ⟨w1.heap.size, 4, none⟩ = some (.int .i64 B40) := w0.out.cell 4
    have qw0_5 : w2.cell? ⟨w1.heap.size, 5, none⟩ = some (.slice C0 Y0.length e0) := w0.out.cell 5
    have qw0_l := w0.out.lt
    go_wp2_with fail
    clear qw0_0 qw0_1 qw0_2 qw0_3 qw0_4 qw0_5 qw0_l
    refine (eqTask_same _ _ _ _ _ _ _ _ _ Y0 _ ((Rd.of_own R1.out rfl).on (bal (Below.refl _ _) _)) ((Rd.of_own R0.out rfl).on (bal (Below.refl _ _) _))).mono ?_; rintro e w3 ⟨rfl, hb3⟩
    replace R0 := Lib.hid (own_below R0.out (bthen (bal (Below.refl _ _) _) hb3))
    replace w0 := Lib.hid (w0.out.on (bthen (bal (Below.refl _ _) _) hb3))
    replace R1 := Lib.hid (own_below R1.out (bthen (bal (Below.refl _ _) _) hb3))
    have g0 := Lib.hid ((Blk.new w2 26 #[.int .i64 B00, .int .i64 B10, .int .i64 B20, .int .i64 B30, .int .i64 B40, .slice C1 Y0.length e1]).on hb3)
    have sz3 := Lib.hid (show w2.heap.size + 1 ≤ w3.heap.size by have := hb3.size; (try simp only [World.size_alloc] at this); omega)
    have Hb3 := Lib.hid (bthen (bal (Hb2.out) _) hb3)
    clear hb3
    have qg0_0 : w3.cell? ⟨w2.heap.size, 0, none⟩ = some (.int .i64 B00) := g0.out.cell 0
    have qg0_1 : w3.cell? ⟨w2.heap.size, 1, none⟩ = some (.int .i64 B10) := g0.out.cell 1
    have qg0_2 : w3.cell? ⟨w2.heap.size, 2, none⟩ = some (.int .i64 B20) := g0.out.cell 2
    have qg0_3 : w3.cell? ⟨w2.heap.size, 3, none⟩ = some (.int .i64 B30) := g0.out.cell 3
    have qg0_4 : w3.cell? ⟨w2.heap.size, 4, none⟩ = some (.int .i64 B40) := g0.out.cell 4
    have qg0_5 : w3.cell? ⟨w2.heap.size, 5, none⟩ = some (.slice C1 Y0.length e1) := g0.out.cell 5
    have qg0_l := g0.out.lt
    go_wp2_with fail
    clear qg0_0 qg0_1 qg0_2 qg0_3 qg0_4 qg0_5 qg0_l
    refine (markTask_any _ _ _ _ _ _ _ _ _ 1 _ _ R1.out (by omega) (by omega) (by omega)).mono ?_; rintro e w4 ⟨rfl, om, hg⟩
    replace R0 := Lib.hid (World.ownsRow.kept R0.out hg (own_apart (by intro k h1 h2; have g1 := GR0.out k h1; have g2 := GR1.out k h2; have zsz1 := sz1.out; have zsz2 := sz2.out; have zsz3 := sz3.out; (try simp only [World.size_alloc] at g1 g2); omega)))
    replace w0 := Lib.hid (show Blk w4 _ _ _ from (hg.block _ w0.out.lt (by intro h2; have g2 := GR1.out _ h2.symm; have zsz1 := sz1.out; have zsz2 := sz2.out; have zsz3 := sz3.out; (try simp only [World.size_alloc] at g2); omega)).trans w0.out)
    replace g0 := Lib.hid (show Blk w4 _ _ _ from (hg.block _ g0.out.lt (by intro h2; have g2 := GR1.out _ h2.symm; have zsz1 := sz1.out; have zsz2 := sz2.out; have zsz3 := sz3.out; (try simp only [World.size_alloc] at g2); omega)).trans g0.out)
    have sz4 := Lib.hid (show w3.heap.size + 0 ≤ w4.heap.size by have := hg.size; omega)
    have Hb4 := Lib.hid (Below.grown Hb3.out hg Hb3.out.size (fun k h2 => by have g2 := GR1.out k h2; have zsz1 := sz1.out; have zsz2 := sz2.out; have zsz3 := sz3.out; have zsz4 := sz4.out; (try simp only [World.size_alloc] at g2); omega))
    replace R1 := Lib.hid om
    clear om hg
    obtain ⟨K2, HKK2⟩ : ∃ K : Int, (1 : Int) + ((Y0.length * 3 : Nat) : Int) = K := ⟨_, rfl⟩
    rw [HKK2]
    have HkK2 := Lib.hid HKK2
    have hKK2 : (0 : Int) ≤ K2 := by omega
    clear HKK2
    have qg0_0 : w4.cell? ⟨w2.heap.size, 0, none⟩ = some (.int .i64 B00) := g0.out.cell 0
    have qg0_1 : w4.cell? ⟨w2.heap.size, 1, none⟩ = some (.int .i64 B10) := g0.out.cell 1
    have qg0_2 : w4.cell? ⟨w2.heap.size, 2, none⟩ = some (.int .i64 B20) := g0.out.cell 2
    have qg0_3 : w4.cell? ⟨w2.heap.size, 3, none⟩ = some (.int .i64 B30) := g0.out.cell 3
    have qg0_4 : w4.cell? ⟨w2.heap.size, 4, none⟩ = some (.int .i64 B40) := g0.out.cell 4
    have qg0_5 : w4.cell? ⟨w2.heap.size, 5, none⟩ = some (.slice C1 Y0.length e1) := g0.out.cell 5
    have qg0_l := g0.out.lt
    go_wp2_with fail
    clear qg0_0 qg0_1 qg0_2 qg0_3 qg0_4 qg0_5 qg0_l
    refine (heldTask_any _ _ _ _ _ _ _ _ 1 _ _ R1.out (by omega) (by omega) (by omega)).mono ?_; rintro e w5 ⟨rfl, hb5⟩
    replace R0 := Lib.hid (own_below R0.out (hb5))
    replace w0 := Lib.hid (w0.out.on (hb5))
    replace R1 := Lib.hid (own_below R1.out (hb5))
    replace g0 := Lib.hid (g0.out.on (hb5))
    have sz5 := Lib.hid (show w4.heap.size + 0 ≤ w5.heap.size by have := hb5.size; (try simp only [World.size_alloc] at this); omega)
    have Hb5 := Lib.hid (bthen (Hb4.out) hb5)
    clear hb5
    rw [HkK2.out]
    go_wp2_with fail
    refine (implParse_any s _ (by omega) (He.out.on (Hb5.out))).mono ?_; rintro e w6 ⟨⟨B02, B12, B22, B32, B42, Y2, k2, v2, rfl, hy2, ho2⟩, hb6⟩
    obtain ⟨rfl, rfl, rfl, rfl, rfl, rfl, rfl⟩ : B00 = B02 ∧ B10 = B12 ∧ B20 = B22 ∧ B30 = B32 ∧ B40 = B42 ∧ Y0 = Y2 ∧ k0 = k2 := by have h := Hy.out.symm.trans hy2; simpa using h
    clear hy2
    obtain ⟨C2, e2, rfl, -, -, -⟩ := Rd.of_own (S := ptS) ho2 rfl
    have R2 := Lib.hid ho2
    have GR2 := Lib.hid (World.ownsRow.lt ho2)
    clear ho2
    replace R0 := Lib.hid (own_below R0.out (hb6))
    replace w0 := Lib.hid (w0.out.on (hb6))
    replace R1 := Lib.hid (own_below R1.out (hb6))
    replace g0 := Lib.hid (g0.out.on (hb6))
    have sz6 := Lib.hid (show w5.heap.size + 0 ≤ w6.heap.size by have := hb6.size; (try simp only [World.size_alloc] at this); omega)
    have Hb6 := Lib.hid (bthen (Hb5.out) hb6)
    clear hb6
    have qw0_0 : w6.cell? ⟨w1.heap.size, 0, none⟩ = some (.int .i64 B00) := w0.out.cell 0
    have qw0_1 : w6.cell? ⟨w1.heap.size, 1, none⟩ = some (.int .i64 B10) := w0.out.cell 1
    have qw0_2 : w6.cell? ⟨w1.heap.size, 2, none⟩ = some (.int .i64 B20) := w0.out.cell 2
    have qw0_3 : w6.cell? ⟨w1.heap.size, 3, none⟩ = some (.int .i64 B30) := w0.out.cell 3
    have qw0_4 : w6.cell? ⟨w1.heap.size, 4, none⟩ = some (.int .i64 B40) := w0.out.cell 4
    have qw0_5 : w6.cell? ⟨w1.heap.size, 5, none⟩ = some (.slice C0 Y0.length e0) := w0.out.cell 5
    have qw0_l := w0.out.lt
    go_wp2_with fail
    clear qw0_0 qw0_1 qw0_2 qw0_3 qw0_4 qw0_5 qw0_l
    refine (eqTask_same _ _ _ _ _ _ _ _ _ Y0 _ ((Rd.of_own R2.out rfl).on (bal (Below.refl _ _) _)) ((Rd.of_own R0.out rfl).on (bal (Below.refl _ _) _))).mono ?_; rintro e w7 ⟨rfl, hb7⟩
    replace R0 := Lib.hid (own_below R0.out (bthen (bal (Below.refl _ _) _) hb7))
    replace w0 := Lib.hid (w0.out.on (bthen (bal (Below.refl _ _) _) hb7))
    replace R1 := Lib.hid (own_below R1.out (bthen (bal (Below.refl _ _) _) hb7))
    replace g0 := Lib.hid (g0.out.on (bthen (bal (Below.refl _ _) _) hb7))
    replace R2 := Lib.hid (own_below R2.out (bthen (bal (Below.refl _ _) _) hb7))
    have h0 := Lib.hid ((Blk.new w6 26 #[.int .i64 B00, .int .i64 B10, .int .i64 B20, .int .i64 B30, .int .i64 B40, .slice C2 Y0.length e2]).on hb7)
    have sz7 := Lib.hid (show w6.heap.size + 1 ≤ w7.heap.size by have := hb7.size; (try simp only [World.size_alloc] at this); omega)
    have Hb7 := Lib.hid (bthen (bal (Hb6.out) _) hb7)
    clear hb7
    have qg0_0 : w7.cell? ⟨w2.heap.size, 0, none⟩ = some (.int .i64 B00) := g0.out.cell 0
    have qg0_1 : w7.cell? ⟨w2.heap.size, 1, none⟩ = some (.int .i64 B10) := g0.out.cell 1
    have qg0_2 : w7.cell? ⟨w2.heap.size, 2, none⟩ = some (.int .i64 B20) := g0.out.cell 2
    have qg0_3 : w7.cell? ⟨w2.heap.size, 3, none⟩ = some (.int .i64 B30) := g0.out.cell 3
    have qg0_4 : w7.cell? ⟨w2.heap.size, 4, none⟩ = some (.int .i64 B40) := g0.out.cell 4
    have qg0_5 : w7.cell? ⟨w2.heap.size, 5, none⟩ = some (.slice C1 Y0.length e1) := g0.out.cell 5
    have qg0_l := g0.out.lt
    go_wp2_with fail
    clear qg0_0 qg0_1 qg0_2 qg0_3 qg0_4 qg0_5 qg0_l
    refine (heldTask_any _ _ _ _ _ _ _ _ 1 _ _ R1.out (by omega) (by omega) (by omega)).mono ?_; rintro e w8 ⟨rfl, hb8⟩
    replace R0 := Lib.hid (own_below R0.out (hb8))
    replace w0 := Lib.hid (w0.out.on (hb8))
    replace R1 := Lib.hid (own_below R1.out (hb8))
    replace g0 := Lib.hid (g0.out.on (hb8))
    replace R2 := Lib.hid (own_below R2.out (hb8))
    replace h0 := Lib.hid (h0.out.on (hb8))
    have sz8 := Lib.hid (show w7.heap.size + 0 ≤ w8.heap.size by have := hb8.size; (try simp only [World.size_alloc] at this); omega)
    have Hb8 := Lib.hid (bthen (Hb7.out) hb8)
    clear hb8
    rw [HkK2.out]
    go_wp2
    go_ret
    exact ⟨rfl, Hb8.out⟩
  · have hs1 : (1048576 : Int) < (s.size : Int) := by omega
    go_wp2
    go_ret
    exact ⟨rfl, Below.refl _ _⟩

set_option maxRecDepth 100000 in
theorem fnExactParseTask_lifted (os : Os) (started : os.Started) (H : Type) (enc : TypeId × Value → H) :
    ReturnsInHanded {} Tryz.checked os 3 .any (fun w args => (Rows.fnExactParseTaskSpec.pre enc Tryz.prog Tryz.f3 [] false w args ∧ laidMetH Tryz.prog laid7 w) ∧ sizedMet enc Tryz.prog Tryz.f3 (OpenSpec.ofChange Rows.fnExactParseTaskSpec) false w args) (Rows.fnExactParseTaskSpec.post enc Tryz.prog Tryz.f3 false true false false) := by
  refine returns_shaped_and (C := Tryz.checked) (X := fun w _ => laidMetH Tryz.prog laid7 w) (fun _ _ _ hh h => h.of_heap hh) own_knob started (by kernel_rfl) Tryz.func3
    (ChangeSpec.witness_shaped (enc := enc) (C := Tryz.checked) (os := os) (X := fun w _ => laidMetH Tryz.prog laid7 w) false (World.laidAll Tryz.prog os laid7) #[.string ⟨#[]⟩] 8 (World.laidAll_os _ _ _) (World.shaped_of_ZipB (by kernel_rfl) (by kernel_rfl)) (by kernel_rfl) (by kernel_rfl) (by kernel_rfl) (door7 os _)) ?_
  intro W base args ds gs before hval0 hW hsh _ hL _
  have hval : ∀ (j : Nat) t v, Tryz.f3.params[j]? = some t → args[j]? = some v → Value.okWide Tryz.prog W .any base t v := hval0
  have hW' := hW
  obtain ⟨p, q, hA0, hV, rfl, hfz, hnd⟩ := hW
  have hA : DataW.TrodAll enc Tryz.prog W 0 (fun _ => true) true Tryz.f3.params.toList args.toList ds p := hA0
  rw [Tryz.params3] at hA hval
  obtain ⟨v0, d0, rfl, rfl, h0⟩ := trodAll_one hA
  obtain ⟨rfl, rfl⟩ := trodVars_none hV
  simp only [List.append_nil] at hW'
  have hlt := hW'.lt
  have hlt0 : ∀ x ∈ p, x.block < W.heap.size := hlt
  have k0 := h0
  obtain ⟨x0, rfl, hd0, hp0, w0⟩ := ChangeMaps.open_string Tryz.underlying9 (hval 0 9 v0 rfl rfl) h0
  refine (fnExactParseTask_walk x0 W w0 (env_of_laid7 hL hsh)).mono fun e W' ⟨he, hb⟩ => ?_
  subst he
  exact ⟨_, rfl, post_below hW' (trodAll_mk1 (shut_bool Tryz.underlying4 true)) (trodAll_mk1 (WideElems.Trod_stays laid_out (by kernel_rfl) (of_decide_eq_true (by kernel_rfl)) k0 (fun x hx => hb.same (hlt0 x hx)) (fun x hx => by simpa using hlt0 x hx))) rfl (by first | rfl | (simp only [List.append_assoc]; done)) hb⟩

theorem fnExactParseTask_holds : Rows.FnExactParseTaskSaid :=
  OpenClaim.holds_of_wide 3 Tryz.f3 rfl rfl rfl rfl rfl rfl rfl ⟨rfl, rfl, rfl, rfl, rfl⟩ rfl rfl rfl rfl rfl (by kernel_rfl) Tryz.func3 fnExactParseTask_facts
    (of_decide_eq_true (by kernel_rfl)) (by unfold Func.isWrapper; rw [if_neg (of_decide_eq_false (by kernel_rfl))]; exact ⟨rfl, rfl⟩)
    (fun os started H enc _ => fnExactParseTask_lifted os started H enc)


theorem fnExactParseTask_card : Rows.FnExactParseTaskCardSaid :=
  Claim7.holds_tied_plain_at .later [] [.data, .data, .data, .data, .sentinel, .sentinel, .pinned] true (true, "028d706242d6d24a84ba72bde898bf56b7f2cb9817bdebf15fd623fe33fb5b96") true
    fnExactParseTask_holds (fun _ h => by cases h) (by kernel_rfl) (fun _ h => by cases h) fnExactParseTask_row_tie rfl ⟨rfl, rfl⟩ (by kernel_rfl) rfl
    (fun f fn hf hfn => by
      obtain rfl : f = 3 := Option.some.inj ((show Tryz.prog.funcNamed "loop.example/g01004/laws.FnExactParseTask" = some 3 by kernel_rfl).symm.trans hf) |>.symm
      obtain rfl : fn = Tryz.f3 := (Option.some.inj (Tryz.func3.symm.trans hfn)).symm
      exact ⟨by kernel_rfl, fun j t ht => by
        rw [Tryz.params3] at ht
        have hm : t ∈ [9] := by simpa using Array.mem_of_getElem? ht
        have hall : ([9].all fun u => !Tryz.prog.wantsStandIn u) = true := by kernel_rfl
        exact (show Tryz.prog.wantsStandIn t = false by simpa using List.all_eq_true.1 hall t hm)⟩)
    (by kernel_rfl)

end Go.Proofs.YticbmpjdcanjkaaGreatDoor
