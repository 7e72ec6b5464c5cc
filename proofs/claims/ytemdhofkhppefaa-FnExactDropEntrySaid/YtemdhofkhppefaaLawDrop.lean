/- The law FnExactDropEntry: for all arguments the program's answer is the reference's. Conditions: none. -/
import Derived.Test.YtemdhofkhppefaaSEntry
import Derived.Test.YtemdhofkhppefaaDrop
import Derived.Deep.RegionHeld3
import Derived.Deep.DeepCutAuto
import Derived.Test.YtemdhofkhppefaaFrame
namespace Go.Proofs.Ytemdhofkhppefaa
open Go Go.RowKit Go.ChangeShapes Go.WideShapes

set_option maxRecDepth 8000 in
set_option maxHeartbeats 4000000 in
theorem fnExactDropEntry_walk (v0 : Value) (es0 : List En) (a1 b1 : Int) (w : World) (hr0 : Rd enS w w.heap.size v0 es0) :
    Calls Try.prog 5 #[v0, .agg #[.int .i64 a1, .int .i64 b1]] w fun e w' => e = .returned (.bool true) ∧ Below w.heap.size w w' := by
  have hq0 := hr0
  obtain ⟨A0, c0, rfl, hc0, hm0, -⟩ := hq0
  unfold maxLen at hm0
  have Hr0 := Lib.hid hr0; clear hr0
  by_cases hl0 : es0.length ≤ 1048576
  · skip
    go_enter Try.func5, Try.ntmps5
    go_wp2_with fail
    refine (szEntryS_any _ _ _ _ _ (by omega) (by omega) (by omega)).mono ?_; rintro e z0 ⟨rfl, rfl⟩
    rw [szI_pos (by omega)]
    have hge0 : (0 : Int) ≤ 1048576 - (es0.length : Int) := by omega
    go_wp2_with fail
    have bx1 : Blk _ (w.heap.size) 38 #[.int .i64 a1, .int .i64 b1] := (Blk.new (w) 38 #[.int .i64 a1, .int .i64 b1])
    have hbt : Below w.heap.size w (w.alloc (Obj.cells #[.int .i64 a1, .int .i64 b1] 38)) := bal (Below.refl _ _) _
    generalize hwt : (w.alloc (Obj.cells #[.int .i64 a1, .int .i64 b1] 38)) = wt at hbt bx1 ⊢
    clear hwt
    have rl1 := bx1.lt
    have Hbl1 := Lib.hid rl1
    have HRt0 := Lib.hid (Hr0.out.on hbt)
    have HS : Hid (∀ w', Below wt.heap.size wt w' → (w'.cell? ⟨(w.heap.size), 0, none⟩ = some (.int .i64 a1) ∧ w'.cell? ⟨(w.heap.size), 1, none⟩ = some (.int .i64 b1) ∧ Below wt.heap.size wt w')) := Lib.hid (fun w' hw => ⟨(hw.cell (p := ⟨(w.heap.size), 0, none⟩) rl1).trans (bx1.cell 0), (hw.cell (p := ⟨(w.heap.size), 1, none⟩) rl1).trans (bx1.cell 1), hw⟩)
    go_cut [6, 7] (fun p b wx => ∃ (v' : Value) (yy : List En) (bb : Bool), p = v' ∧ b = .bool bb ∧ dropG es0 a1 b1 = (yy, bb) ∧ wx.ownsRow wt.heap.size 53 5 v' yy.length (enS.flat yy) ∧ Below wt.heap.size wt wx)
    case first =>
      go_region_held3 (fun w' => w'.cell? ⟨(w.heap.size), 0, none⟩ = some (.int .i64 a1) ∧ w'.cell? ⟨(w.heap.size), 1, none⟩ = some (.int .i64 b1) ∧ Below wt.heap.size wt w') ((go_split_ands; refine HS.out _ ?_; repeat (first | (with_reducible assumption) | (with_reducible exact Below.refl _ _) | (with_reducible refine Below.drew ?_) | (with_reducible refine bal ?_ _) | (with_reducible refine bthen ?_ (by with_reducible assumption))))) ((first | (go_at_call 11; refine (toEntryS_any _ es0 _ (HRt0.out.on (by go_split_ands; with_reducible assumption)) (by omega)).mono ?_; rintro e wA0 ⟨vA0, rfl, hoA0, hbA0⟩) | (go_at_call 21; refine (toCurve_any _ _ _).mono ?_; rintro e wA1 ⟨rfl, hbA1⟩) | (go_at_call 20; refine (specDrop_any _ es0 _ _ _ (by first | with_reducible exact Rd.of_own hoA0 rfl | with_reducible exact (Rd.of_own hoA0 rfl).on hbA1)).mono ?_; rintro e wF ⟨⟨v0, y0, b0, rfl, hy0, o0⟩, hbF0⟩; have hbF : Below wt.heap.size wt wF := bthen (by go_split_ands; with_reducible assumption) hbF0; replace o0 := own_mono o0 (Below.size (B := wt.heap.size) (w := wt) (by go_split_ands; with_reducible assumption)))))
      all_goals
        go_wp2_with fail
        go_meet
        exact ⟨_, y0, b0, rfl, rfl, hy0, o0, hbF⟩
    obtain ⟨v0, y0, b0, rfl, rfl, hy0, o0, hbc0⟩ := hcut
    clear HS HRt0 rl1
    replace bx1 := bx1.on hbc0
    have Hs1 := Lib.hid ((hbc0).size)
    have hb1 := bthen hbt hbc0
    have Hy0 := Lib.hid hy0; clear hy0
    have Lt0 := Lib.hid (fun k hk => (World.ownsRow.lt o0 k hk).2)
    have ly := dropG_len y0 b0 Hy0.out
    have qbx1_0 : wc.cell? ⟨(w.heap.size), 0, none⟩ = some (.int .i64 a1) := bx1.cell 0
    have qbx1_1 : wc.cell? ⟨(w.heap.size), 1, none⟩ = some (.int .i64 b1) := bx1.cell 1
    have qbx1_l := bx1.lt
    go_wp2_with fail
    clear qbx1_0 qbx1_1 qbx1_l
    refine (toEntryS_any _ es0 _ (Hr0.out.on (hb1)) (by omega)).mono ?_; rintro e w2 ⟨cp2, rfl, ho2, hb2⟩
    replace bx1 := bx1.on (hb2)
    replace o0 := own_below o0 (hb2)
    have Hs2 := Lib.hid ((hb2).size)
    replace hb2 := bthen (hb1) hb2
    have Gho2 := Lib.hid (World.ownsRow.lt ho2)
    have qbx1_0 : w2.cell? ⟨(w.heap.size), 0, none⟩ = some (.int .i64 a1) := bx1.cell 0
    have qbx1_1 : w2.cell? ⟨(w.heap.size), 1, none⟩ = some (.int .i64 b1) := bx1.cell 1
    have qbx1_l := bx1.lt
    go_wp2_with fail
    clear qbx1_0 qbx1_1 qbx1_l
    refine (toCurve_any _ _ _).mono ?_; rintro e w3 ⟨rfl, hb3⟩
    replace bx1 := bx1.on (hb3)
    replace o0 := own_below o0 (hb3)
    replace ho2 := own_below ho2 (hb3)
    have Hs3 := Lib.hid ((hb3).size)
    replace hb3 := bthen (hb2) hb3
    have qbx1_0 : w3.cell? ⟨(w.heap.size), 0, none⟩ = some (.int .i64 a1) := bx1.cell 0
    have qbx1_1 : w3.cell? ⟨(w.heap.size), 1, none⟩ = some (.int .i64 b1) := bx1.cell 1
    have qbx1_l := bx1.lt
    go_wp2_with fail
    clear qbx1_0 qbx1_1 qbx1_l
    refine (implDrop_any _ es0 _ _ _ (Rd.of_own ho2 rfl)).mono ?_; rintro e w4 ⟨⟨v1, y1, b1, rfl, hy1, o1⟩, hb4⟩
    replace bx1 := bx1.on (hb4)
    replace o0 := own_below o0 (hb4)
    replace ho2 := own_below ho2 (hb4)
    have Hs4 := Lib.hid ((hb4).size)
    replace hb4 := bthen (hb3) hb4
    obtain ⟨rfl, rfl⟩ : y0 = y1 ∧ b0 = b1 := by have := Hy0.out.symm.trans hy1; simpa using this
    clear hy1
    have G1 := Lib.hid (World.ownsRow.lt o1)
    have qbx1_0 : w4.cell? ⟨(w.heap.size), 0, none⟩ = some (.int .i64 a1) := bx1.cell 0
    have qbx1_1 : w4.cell? ⟨(w.heap.size), 1, none⟩ = some (.int .i64 b1) := bx1.cell 1
    have qbx1_l := bx1.lt
    go_wp2_with fail
    clear qbx1_0 qbx1_1 qbx1_l
    refine (eqEntryS_same _ _ y0 _ (Rd.of_own o1 rfl) (Rd.of_own o0 rfl)).mono ?_; rintro e w5 ⟨rfl, hb5⟩
    replace bx1 := bx1.on (hb5)
    replace o0 := own_below o0 (hb5)
    replace ho2 := own_below ho2 (hb5)
    replace o1 := own_below o1 (hb5)
    have Hs5 := Lib.hid ((hb5).size)
    replace hb5 := bthen (hb4) hb5
    have qbx1_0 : w5.cell? ⟨(w.heap.size), 0, none⟩ = some (.int .i64 a1) := bx1.cell 0
    have qbx1_1 : w5.cell? ⟨(w.heap.size), 1, none⟩ = some (.int .i64 b1) := bx1.cell 1
    have qbx1_l := bx1.lt
    go_wp2_with fail
    clear qbx1_0 qbx1_1 qbx1_l
    refine (toEntryS_any _ es0 _ (Hr0.out.on (hb5)) (by omega)).mono ?_; rintro e w6 ⟨cp6, rfl, ho6, hb6⟩
    replace bx1 := bx1.on (hb6)
    replace o0 := own_below o0 (hb6)
    replace ho2 := own_below ho2 (hb6)
    replace o1 := own_below o1 (hb6)
    have Hs6 := Lib.hid ((hb6).size)
    replace hb6 := bthen (hb5) hb6
    have qbx1_0 : w6.cell? ⟨(w.heap.size), 0, none⟩ = some (.int .i64 a1) := bx1.cell 0
    have qbx1_1 : w6.cell? ⟨(w.heap.size), 1, none⟩ = some (.int .i64 b1) := bx1.cell 1
    have qbx1_l := bx1.lt
    go_wp2_with fail
    clear qbx1_0 qbx1_1 qbx1_l
    refine (eqEntryS_same _ _ es0 _ (Rd.of_own ho2 rfl) (Rd.of_own ho6 rfl)).mono ?_; rintro e w7 ⟨rfl, hb7⟩
    replace bx1 := bx1.on (hb7)
    replace o0 := own_below o0 (hb7)
    replace ho2 := own_below ho2 (hb7)
    replace o1 := own_below o1 (hb7)
    replace ho6 := own_below ho6 (hb7)
    have Hs7 := Lib.hid ((hb7).size)
    replace hb7 := bthen (hb6) hb7
    clear ho6
    have qbx1_0 : w7.cell? ⟨(w.heap.size), 0, none⟩ = some (.int .i64 a1) := bx1.cell 0
    have qbx1_1 : w7.cell? ⟨(w.heap.size), 1, none⟩ = some (.int .i64 b1) := bx1.cell 1
    have qbx1_l := bx1.lt
    go_wp2_with fail
    clear qbx1_0 qbx1_1 qbx1_l
    refine (markEntryS_any _ _ _ _ _ _ ho2 (by omega) (by omega) (by omega)).mono ?_; rintro e w8 ⟨rfl, om, hg8⟩
    obtain ⟨K8, HK8⟩ : ∃ K : Int, (1 : Int) + ((es0.length * 5 : Nat) : Int) = K := ⟨_, rfl⟩
    rw [HK8]
    have hK8 : (0 : Int) ≤ K8 := by omega
    have hKu8 : K8 ≤ 16777216 := by omega
    have HKh8 := Lib.hid HK8; clear HK8
    replace bx1 : Blk w8 _ _ _ := (hg8.block _ bx1.lt (by intro hk2; have g2 := (Gho2).out _ hk2.symm; have z1 := Hs1.out; have z2 := Hs2.out; have z3 := Hs3.out; have z4 := Hs4.out; have z5 := Hs5.out; have z6 := Hs6.out; have z7 := Hs7.out; have zb1 := Hbl1.out; (try simp at g2); omega)).trans bx1
    replace o0 := o0.kept hg8 (own_apart (by intro k hk hk2; have g1 := Lt0.out k hk; have g2 := (Gho2).out k hk2; have z1 := Hs1.out; have z2 := Hs2.out; have z3 := Hs3.out; have z4 := Hs4.out; have z5 := Hs5.out; have z6 := Hs6.out; have z7 := Hs7.out; have zb1 := Hbl1.out; omega))
    replace o1 := o1.kept hg8 (own_apart (by intro k hk hk2; have g1 := (G1).out k hk; have g2 := (Gho2).out k hk2; have z1 := Hs1.out; have z2 := Hs2.out; have z3 := Hs3.out; have z4 := Hs4.out; have z5 := Hs5.out; have z6 := Hs6.out; have z7 := Hs7.out; have zb1 := Hbl1.out; omega))
    clear ho2
    have ho2 := om; clear om
    have hb8 := (hb7).grown hg8 (hb7).size (fun k hk => by have g2 := (Gho2).out k hk; have z1 := Hs1.out; have z2 := Hs2.out; have z3 := Hs3.out; have z4 := Hs4.out; have z5 := Hs5.out; have z6 := Hs6.out; have z7 := Hs7.out; have zb1 := Hbl1.out; omega)
    clear ho2
    have qbx1_0 : w8.cell? ⟨(w.heap.size), 0, none⟩ = some (.int .i64 a1) := bx1.cell 0
    have qbx1_1 : w8.cell? ⟨(w.heap.size), 1, none⟩ = some (.int .i64 b1) := bx1.cell 1
    have qbx1_l := bx1.lt
    go_wp2_with fail
    clear qbx1_0 qbx1_1 qbx1_l
    refine (eqEntryS_same _ _ y0 _ (Rd.of_own o1 rfl) (Rd.of_own o0 rfl)).mono ?_; rintro e w9 ⟨rfl, hb9⟩
    replace bx1 := bx1.on (hb9)
    replace o0 := own_below o0 (hb9)
    replace o1 := own_below o1 (hb9)
    have Hs9 := Lib.hid ((hb9).size)
    replace hb9 := bthen (hb8) hb9
    have qbx1_0 : w9.cell? ⟨(w.heap.size), 0, none⟩ = some (.int .i64 a1) := bx1.cell 0
    have qbx1_1 : w9.cell? ⟨(w.heap.size), 1, none⟩ = some (.int .i64 b1) := bx1.cell 1
    have qbx1_l := bx1.lt
    go_wp2_with fail
    clear qbx1_0 qbx1_1 qbx1_l
    refine (markEntryS_any _ _ _ _ _ _ o1 (by omega) (by omega) (by omega)).mono ?_; rintro e w10 ⟨rfl, om, hg10⟩
    obtain ⟨K10, HK10⟩ : ∃ K : Int, (1 : Int) + ((y0.length * 5 : Nat) : Int) = K := ⟨_, rfl⟩
    rw [HK10]
    have hK10 : (0 : Int) ≤ K10 := by omega
    have hKu10 : K10 ≤ 16777216 := by omega
    have HKh10 := Lib.hid HK10; clear HK10
    replace bx1 : Blk w10 _ _ _ := (hg10.block _ bx1.lt (by intro hk2; have g2 := (G1).out _ hk2.symm; have z1 := Hs1.out; have z2 := Hs2.out; have z3 := Hs3.out; have z4 := Hs4.out; have z5 := Hs5.out; have z6 := Hs6.out; have z7 := Hs7.out; have zb1 := Hbl1.out; (try simp at g2); omega)).trans bx1
    replace o0 := o0.kept hg10 (own_apart (by intro k hk hk2; have g1 := Lt0.out k hk; have g2 := (G1).out k hk2; have z1 := Hs1.out; have z2 := Hs2.out; have z3 := Hs3.out; have z4 := Hs4.out; have z5 := Hs5.out; have z6 := Hs6.out; have z7 := Hs7.out; have zb1 := Hbl1.out; omega))
    clear o1
    have o1 := om; clear om
    have hb10 := (hb9).grown hg10 (hb9).size (fun k hk => by have g2 := (G1).out k hk; have z1 := Hs1.out; have z2 := Hs2.out; have z3 := Hs3.out; have z4 := Hs4.out; have z5 := Hs5.out; have z6 := Hs6.out; have z7 := Hs7.out; have zb1 := Hbl1.out; omega)
    have qbx1_0 : w10.cell? ⟨(w.heap.size), 0, none⟩ = some (.int .i64 a1) := bx1.cell 0
    have qbx1_1 : w10.cell? ⟨(w.heap.size), 1, none⟩ = some (.int .i64 b1) := bx1.cell 1
    have qbx1_l := bx1.lt
    go_wp2_with fail
    clear qbx1_0 qbx1_1 qbx1_l
    refine (heldEntryS_any _ _ _ _ _ o1 (by omega) (by omega) (by omega)).mono ?_; rintro e z100 ⟨rfl, rfl⟩
    rw [HKh10.out]
    have qbx1_0 : w10.cell? ⟨(w.heap.size), 0, none⟩ = some (.int .i64 a1) := bx1.cell 0
    have qbx1_1 : w10.cell? ⟨(w.heap.size), 1, none⟩ = some (.int .i64 b1) := bx1.cell 1
    have qbx1_l := bx1.lt
    go_wp2_with fail
    clear qbx1_0 qbx1_1 qbx1_l
    have rl1 := bx1.lt
    have HRt0 := Lib.hid (Hr0.out.on hb10)
    have HS : Hid (∀ w', Below w10.heap.size w10 w' → (w'.cell? ⟨(w.heap.size), 0, none⟩ = some (.int .i64 a1) ∧ w'.cell? ⟨(w.heap.size), 1, none⟩ = some (.int .i64 b1) ∧ Below w10.heap.size w10 w')) := Lib.hid (fun w' hw => ⟨(hw.cell (p := ⟨(w.heap.size), 0, none⟩) rl1).trans (bx1.cell 0), (hw.cell (p := ⟨(w.heap.size), 1, none⟩) rl1).trans (bx1.cell 1), hw⟩)
    go_cut [14, 15] (fun p b wx => ∃ (v' : Value) (yy : List En) (bb : Bool), p = v' ∧ b = .bool bb ∧ dropG es0 a1 b1 = (yy, bb) ∧ wx.ownsRow w10.heap.size 53 5 v' yy.length (enS.flat yy) ∧ Below w10.heap.size w10 wx)
    case first =>
      go_region_held3 (fun w' => w'.cell? ⟨(w.heap.size), 0, none⟩ = some (.int .i64 a1) ∧ w'.cell? ⟨(w.heap.size), 1, none⟩ = some (.int .i64 b1) ∧ Below w10.heap.size w10 w') ((go_split_ands; refine HS.out _ ?_; repeat (first | (with_reducible assumption) | (with_reducible exact Below.refl _ _) | (with_reducible refine Below.drew ?_) | (with_reducible refine bal ?_ _) | (with_reducible refine bthen ?_ (by with_reducible assumption))))) ((first | (go_at_call 11; refine (toEntryS_any _ es0 _ (HRt0.out.on (by go_split_ands; with_reducible assumption)) (by omega)).mono ?_; rintro e wA0 ⟨vA0, rfl, hoA0, hbA0⟩) | (go_at_call 21; refine (toCurve_any _ _ _).mono ?_; rintro e wA1 ⟨rfl, hbA1⟩) | (go_at_call 22; refine (implDrop_any _ es0 _ _ _ (by first | with_reducible exact Rd.of_own hoA0 rfl | with_reducible exact (Rd.of_own hoA0 rfl).on hbA1)).mono ?_; rintro e wF ⟨⟨v2, y2, b2, rfl, hy2, o2⟩, hbF0⟩; have hbF : Below w10.heap.size w10 wF := bthen (by go_split_ands; with_reducible assumption) hbF0; replace o2 := own_mono o2 (Below.size (B := w10.heap.size) (w := w10) (by go_split_ands; with_reducible assumption)))))
      all_goals
        go_wp2_with fail
        go_meet
        exact ⟨_, y2, b2, rfl, rfl, hy2, o2, hbF⟩
    obtain ⟨v2, y2, b2, rfl, rfl, hy2, o2, hbc2⟩ := hcut
    clear HS HRt0 rl1
    replace bx1 := bx1.on hbc2
    replace o0 := own_below o0 hbc2
    replace o1 := own_below o1 hbc2
    have Hs11 := Lib.hid ((hbc2).size)
    have hb11 := bthen hb10 hbc2
    obtain ⟨rfl, rfl⟩ : y0 = y2 ∧ b0 = b2 := by have := Hy0.out.symm.trans hy2; simpa using this
    clear hy2
    have qbx1_0 : wc.cell? ⟨(w.heap.size), 0, none⟩ = some (.int .i64 a1) := bx1.cell 0
    have qbx1_1 : wc.cell? ⟨(w.heap.size), 1, none⟩ = some (.int .i64 b1) := bx1.cell 1
    have qbx1_l := bx1.lt
    go_wp2_with fail
    clear qbx1_0 qbx1_1 qbx1_l
    refine (eqEntryS_same _ _ y0 _ (Rd.of_own o2 rfl) (Rd.of_own o0 rfl)).mono ?_; rintro e w12 ⟨rfl, hb12⟩
    replace bx1 := bx1.on (hb12)
    replace o0 := own_below o0 (hb12)
    replace o1 := own_below o1 (hb12)
    replace o2 := own_below o2 (hb12)
    have Hs12 := Lib.hid ((hb12).size)
    replace hb12 := bthen (hb11) hb12
    have qbx1_0 : w12.cell? ⟨(w.heap.size), 0, none⟩ = some (.int .i64 a1) := bx1.cell 0
    have qbx1_1 : w12.cell? ⟨(w.heap.size), 1, none⟩ = some (.int .i64 b1) := bx1.cell 1
    have qbx1_l := bx1.lt
    go_wp2_with fail
    clear qbx1_0 qbx1_1 qbx1_l
    refine (heldEntryS_any _ _ _ _ _ o1 (by omega) (by omega) (by omega)).mono ?_; rintro e z102 ⟨rfl, rfl⟩
    rw [HKh10.out]
    have qbx1_0 : w12.cell? ⟨(w.heap.size), 0, none⟩ = some (.int .i64 a1) := bx1.cell 0
    have qbx1_1 : w12.cell? ⟨(w.heap.size), 1, none⟩ = some (.int .i64 b1) := bx1.cell 1
    have qbx1_l := bx1.lt
    go_wp2
    go_ret
    exact ⟨rfl, hb12⟩
  · skip
    go_enter Try.func5, Try.ntmps5
    go_wp2_with fail
    refine (szEntryS_any _ _ _ _ _ (by omega) (by omega) (by omega)).mono ?_; rintro e z0 ⟨rfl, rfl⟩
    rw [szI_neg (by omega)]
    go_wp2
    go_ret
    exact ⟨rfl, by (repeat (with_reducible first | exact Below.refl _ _ | assumption | refine bal ?_ _ | refine bst ?_ (by simp <;> omega) _ | refine Below.drew ?_ | refine bthen ?_ (by assumption)))⟩

set_option maxRecDepth 100000 in
theorem fnExactDropEntry_lifted (os : Os) (started : os.Started) (H : Type) (enc : TypeId × Value → H) :
    ReturnsInHanded {} Try.checked os 5 .any (Rows.fnExactDropEntrySpec.pre6 enc Try.prog Try.f5 Rows.fnExactDropEntryRow.domain false) (Rows.fnExactDropEntrySpec.post enc Try.prog Try.f5 false true false false) := by
  refine returnsInHanded_of_change (C := Try.checked) own_knob started (by kernel_rfl) Try.func5
    (ChangeSpec.witness6 (enc := enc) (C := Try.checked) false ⟨#[], #[.slice none 0 0, .agg #[.int .i64 0, .int .i64 0]], []⟩ 8 (by kernel_rfl) (by kernel_rfl) (by kernel_rfl) (by kernel_rfl)) ?_
  intro W base args ds gs before hval0 hW _ _
  have hval : ∀ (j : Nat) t v, Try.f5.params[j]? = some t → args[j]? = some v → Value.okWide Try.prog W .any base t v := hval0
  have hW' := hW
  obtain ⟨p, q, hA0, hV, rfl, hfz, hnd⟩ := hW
  have hA : DataW.TrodAll enc Try.prog W 0 (fun _ => true) true Try.f5.params.toList args.toList ds p := hA0
  rw [Try.params5] at hA hval
  obtain ⟨v0, v1, d0, d1, p0, p1, rfl, rfl, rfl, h0, h1⟩ := trodAll_two hA
  obtain ⟨rfl, rfl⟩ := trodVars_none hV
  simp only [List.append_nil] at hW'
  have hlt := hW'.lt
  have hlt0 : ∀ x ∈ p0, x.block < W.heap.size := fun x hx => hlt x (by simp [hx])
  have hlt1 : ∀ x ∈ p1, x.block < W.heap.size := fun x hx => hlt x (by simp [hx])
  have k0 := h0
  obtain ⟨es0, hr0⟩ := open_ints_slice enS enMk enMk_cell Try.underlying22 (by decide) (by kernel_rfl) 5 (by kernel_rfl) (hval 0 22 v0 rfl rfl) h0
  have k1 := h1
  obtain ⟨ns1, hn1, rfl, hwf1⟩ := open_ints_agg Try.underlying38 5 (by kernel_rfl) (hval 1 38 v1 rfl rfl) h1
  obtain ⟨x1a, x1b, rfl⟩ := list2 (hn1.trans (by kernel_rfl : Try.prog.cellsOf 38 = 2))
  refine (fnExactDropEntry_walk v0 es0 x1a x1b W hr0).mono fun e W' ⟨he, hb⟩ => ?_
  subst he
  exact ⟨_, rfl, post_below hW' (trodAll_mk1 (shut_bool Try.underlying4 true)) (trodAll_mk2 (WideElems.Trod_stays laid_out (by kernel_rfl) (of_decide_eq_true (by kernel_rfl)) k0 (fun x hx => hb.same (hlt0 x hx)) (fun x hx => by simpa using hlt0 x hx)) (WideElems.Trod_stays laid_out (by kernel_rfl) (of_decide_eq_true (by kernel_rfl)) k1 (fun x hx => hb.same (hlt1 x hx)) (fun x hx => by simpa using hlt1 x hx))) rfl rfl hb⟩

theorem fnExactDropEntry_holds : Rows.FnExactDropEntrySaid :=
  OpenClaim.holds_of_wide 5 Try.f5 rfl rfl rfl rfl rfl rfl rfl ⟨rfl, rfl, rfl, rfl, rfl⟩ rfl rfl rfl rfl rfl (by kernel_rfl) Try.func5 (by kernel_rfl)
    (of_decide_eq_true (by kernel_rfl)) (by unfold Func.isWrapper; rw [if_neg (of_decide_eq_false (by kernel_rfl))]; exact ⟨rfl, rfl⟩)
    (fun os started H enc _ => fnExactDropEntry_lifted os started H enc)

end Go.Proofs.Ytemdhofkhppefaa
