/- The law FnExactRangesOf: for all arguments the program's answer is the reference's. Conditions: none. -/
import Derived.Test.YtbgifnamionjgaaTaskW
import Derived.Test.YtbgifnamionjgaaOpenT
import Derived.Test.YtbgifnamionjgaaFrame
import Derived.Test.YtbgifnamionjgaaRanges
import Derived.Test.YtbgifnamionjgaaSIntSS
namespace Go.Proofs.Ytbgifnamionjgaa
open Go Go.RowKit Go.ChangeShapes Go.WideShapes

set_option maxRecDepth 8000 in
set_option maxHeartbeats 8000000 in
theorem fnExactRangesOf_walk (a b m d t : Int) (A : Option Addr) (c : Nat) (fs : List Pt) (z : Int) (w : World) (hr : Rd ptS w w.heap.size (.slice A fs.length c) fs) (_hz : -9223372036854775808 ≤ z ∧ z ≤ 9223372036854775807) :
    Calls Try.prog 10 #[.agg #[.int .i64 a, .int .i64 b, .int .i64 m, .int .i64 d, .int .i64 t, .slice A fs.length c], .int .i64 z] w fun e w' => e = .returned (.bool true) ∧ Below w.heap.size w w' := by
  have hcap : fs.length ≤ 9223372036854775807 := by
    obtain ⟨A9, c9, h9, h8, h7, -⟩ := hr
    unfold maxLen at h7; omega
  have Hr := Lib.hid hr; clear hr
  by_cases hl : fs.length ≤ 1048576
  · skip
    go_enter Try.func10, Try.ntmps10
    go_wp2_with fail
    refine (szTask_any a b m d t A fs.length c 1048576 _ (by omega) (by omega) (by omega)).mono ?_; rintro e w1 ⟨rfl, hb1⟩
    have bx := Lib.hid ((Blk.new w 36 #[.int .i64 a, .int .i64 b, .int .i64 m, .int .i64 d, .int .i64 t, .slice A fs.length c]).on hb1)
    have sz1 := Lib.hid (show w.heap.size + 1 ≤ w1.heap.size by have := hb1.size; (try simp only [World.size_alloc] at this); omega)
    have Hb1 := Lib.hid (bthen (bal (Below.refl _ _) _) hb1)
    clear hb1
    rw [szI_pos (by omega)]
    have hge : (0 : Int) ≤ 1048576 - (fs.length : Int) := by omega
    have qbx_0 : w1.cell? ⟨w.heap.size, 0, none⟩ = some (.int .i64 a) := bx.out.cell 0
    have qbx_1 : w1.cell? ⟨w.heap.size, 1, none⟩ = some (.int .i64 b) := bx.out.cell 1
    have qbx_2 : w1.cell? ⟨w.heap.size, 2, none⟩ = some (.int .i64 m) := bx.out.cell 2
    have qbx_3 : w1.cell? ⟨w.heap.size, 3, none⟩ = some (.int .i64 d) := bx.out.cell 3
    have qbx_4 : w1.cell? ⟨w.heap.size, 4, none⟩ = some (.int .i64 t) := bx.out.cell 4
    have qbx_5 : w1.cell? ⟨w.heap.size, 5, none⟩ = some (.slice A fs.length c) := bx.out.cell 5
    have qbx_l := bx.out.lt
    go_wp2_with fail
    clear qbx_0 qbx_1 qbx_2 qbx_3 qbx_4 qbx_5 qbx_l
    refine (toTask_any a b m d t A c fs _ (Hr.out.on (Hb1.out)) hl).mono ?_; rintro e w2 ⟨⟨As, cs, rfl, hos⟩, hb2⟩
    have Os := Lib.hid hos
    have GOs := Lib.hid (World.ownsRow.lt hos)
    clear hos
    replace bx := Lib.hid (bx.out.on (hb2))
    have sz2 := Lib.hid (show w1.heap.size + 0 ≤ w2.heap.size by have := hb2.size; (try simp only [World.size_alloc] at this); omega)
    have Hb2 := Lib.hid (bthen (Hb1.out) hb2)
    clear hb2
    go_wp2_with fail
    refine (specRanges_any a b m d t _ fs z _ (Rd.of_own Os.out rfl)).mono ?_; rintro e w3 ⟨⟨v0, vs0, rfl, ho0⟩, hb3⟩
    have R0 := Lib.hid ho0; clear ho0
    replace bx := Lib.hid (bx.out.on (hb3))
    replace Os := Lib.hid (own_below Os.out (hb3))
    have sz3 := Lib.hid (show w2.heap.size + 0 ≤ w3.heap.size by have := hb3.size; (try simp only [World.size_alloc] at this); omega)
    have Hb3 := Lib.hid (bthen (Hb2.out) hb3)
    clear hb3
    clear Os
    have ly := rangesV_len a b m d t fs z
    have qbx_0 : w3.cell? ⟨w.heap.size, 0, none⟩ = some (.int .i64 a) := bx.out.cell 0
    have qbx_1 : w3.cell? ⟨w.heap.size, 1, none⟩ = some (.int .i64 b) := bx.out.cell 1
    have qbx_2 : w3.cell? ⟨w.heap.size, 2, none⟩ = some (.int .i64 m) := bx.out.cell 2
    have qbx_3 : w3.cell? ⟨w.heap.size, 3, none⟩ = some (.int .i64 d) := bx.out.cell 3
    have qbx_4 : w3.cell? ⟨w.heap.size, 4, none⟩ = some (.int .i64 t) := bx.out.cell 4
    have qbx_5 : w3.cell? ⟨w.heap.size, 5, none⟩ = some (.slice A fs.length c) := bx.out.cell 5
    have qbx_l := bx.out.lt
    go_wp2_with fail
    clear qbx_0 qbx_1 qbx_2 qbx_3 qbx_4 qbx_5 qbx_l
    refine (toTask_any a b m d t A c fs _ (Hr.out.on (Hb3.out)) hl).mono ?_; rintro e w4 ⟨⟨Ax, cx, rfl, hox⟩, hb4⟩
    have Ox := Lib.hid hox
    have GOx := Lib.hid (World.ownsRow.lt hox)
    clear hox
    replace bx := Lib.hid (bx.out.on (hb4))
    replace R0 := Lib.hid (R0.out.on (hb4))
    have sz4 := Lib.hid (show w3.heap.size + 0 ≤ w4.heap.size by have := hb4.size; (try simp only [World.size_alloc] at this); omega)
    have Hb4 := Lib.hid (bthen (Hb3.out) hb4)
    clear hb4
    go_wp2_with fail
    refine (implRanges_any a b m d t _ fs z _ ((Rd.of_own Ox.out rfl).on (bal (Below.refl _ _) _))).mono ?_; rintro e w5 ⟨⟨v1, vs1, rfl, ho1⟩, hb5⟩
    have R1 := Lib.hid ho1; clear ho1
    replace bx := Lib.hid (bx.out.on (bthen (bal (Below.refl _ _) _) hb5))
    replace R0 := Lib.hid (R0.out.on (bthen (bal (Below.refl _ _) _) hb5))
    replace Ox := Lib.hid (own_below Ox.out (bthen (bal (Below.refl _ _) _) hb5))
    have x0 := Lib.hid ((Blk.new w4 27 #[.int .i64 a, .int .i64 b, .int .i64 m, .int .i64 d, .int .i64 t, .slice Ax fs.length cx]).on hb5)
    have sz5 := Lib.hid (show w4.heap.size + 1 ≤ w5.heap.size by have := hb5.size; (try simp only [World.size_alloc] at this); omega)
    have Hb5 := Lib.hid (bthen (bal (Hb4.out) _) hb5)
    clear hb5
    go_wp2_with fail
    refine (eqIntSS_same _ _ _ _ (NRd.of_own R1.out) (NRd.of_own R0.out)).mono ?_; rintro e w6 ⟨rfl, hb6⟩
    replace bx := Lib.hid (bx.out.on (hb6))
    replace R0 := Lib.hid (R0.out.on (hb6))
    replace Ox := Lib.hid (own_below Ox.out (hb6))
    replace x0 := Lib.hid (x0.out.on (hb6))
    replace R1 := Lib.hid (R1.out.on (hb6))
    have sz6 := Lib.hid (show w5.heap.size + 0 ≤ w6.heap.size by have := hb6.size; (try simp only [World.size_alloc] at this); omega)
    have Hb6 := Lib.hid (bthen (Hb5.out) hb6)
    clear hb6
    have HS : Hid (∀ w', Below w6.heap.size w6 w' → (w'.cell? ⟨w.heap.size, 0, none⟩ = some (.int .i64 a) ∧ w'.cell? ⟨w.heap.size, 1, none⟩ = some (.int .i64 b) ∧ w'.cell? ⟨w.heap.size, 2, none⟩ = some (.int .i64 m) ∧ w'.cell? ⟨w.heap.size, 3, none⟩ = some (.int .i64 d) ∧ w'.cell? ⟨w.heap.size, 4, none⟩ = some (.int .i64 t) ∧ w'.cell? ⟨w.heap.size, 5, none⟩ = some (.slice A fs.length c) ∧ w'.cell? ⟨w4.heap.size, 0, none⟩ = some (.int .i64 a) ∧ w'.cell? ⟨w4.heap.size, 1, none⟩ = some (.int .i64 b) ∧ w'.cell? ⟨w4.heap.size, 2, none⟩ = some (.int .i64 m) ∧ w'.cell? ⟨w4.heap.size, 3, none⟩ = some (.int .i64 d) ∧ w'.cell? ⟨w4.heap.size, 4, none⟩ = some (.int .i64 t) ∧ w'.cell? ⟨w4.heap.size, 5, none⟩ = some (.slice Ax fs.length cx) ∧ Below w6.heap.size w6 w')) := Lib.hid (fun w' hw => ⟨(hw.cell (p := ⟨w.heap.size, 0, none⟩) bx.out.lt).trans (bx.out.cell 0), (hw.cell (p := ⟨w.heap.size, 1, none⟩) bx.out.lt).trans (bx.out.cell 1), (hw.cell (p := ⟨w.heap.size, 2, none⟩) bx.out.lt).trans (bx.out.cell 2), (hw.cell (p := ⟨w.heap.size, 3, none⟩) bx.out.lt).trans (bx.out.cell 3), (hw.cell (p := ⟨w.heap.size, 4, none⟩) bx.out.lt).trans (bx.out.cell 4), (hw.cell (p := ⟨w.heap.size, 5, none⟩) bx.out.lt).trans (bx.out.cell 5), (hw.cell (p := ⟨w4.heap.size, 0, none⟩) x0.out.lt).trans (x0.out.cell 0), (hw.cell (p := ⟨w4.heap.size, 1, none⟩) x0.out.lt).trans (x0.out.cell 1), (hw.cell (p := ⟨w4.heap.size, 2, none⟩) x0.out.lt).trans (x0.out.cell 2), (hw.cell (p := ⟨w4.heap.size, 3, none⟩) x0.out.lt).trans (x0.out.cell 3), (hw.cell (p := ⟨w4.heap.size, 4, none⟩) x0.out.lt).trans (x0.out.cell 4), (hw.cell (p := ⟨w4.heap.size, 5, none⟩) x0.out.lt).trans (x0.out.cell 5), hw⟩)
    have hrefl := Below.refl w6.heap.size w6
    have Hrt := Lib.hid (Hr.out.on Hb6.out)
    have qbx_0 : w6.cell? ⟨w.heap.size, 0, none⟩ = some (.int .i64 a) := bx.out.cell 0
    have qbx_1 : w6.cell? ⟨w.heap.size, 1, none⟩ = some (.int .i64 b) := bx.out.cell 1
    have qbx_2 : w6.cell? ⟨w.heap.size, 2, none⟩ = some (.int .i64 m) := bx.out.cell 2
    have qbx_3 : w6.cell? ⟨w.heap.size, 3, none⟩ = some (.int .i64 d) := bx.out.cell 3
    have qbx_4 : w6.cell? ⟨w.heap.size, 4, none⟩ = some (.int .i64 t) := bx.out.cell 4
    have qbx_5 : w6.cell? ⟨w.heap.size, 5, none⟩ = some (.slice A fs.length c) := bx.out.cell 5
    have qbx_l := bx.out.lt
    have qx0_0 : w6.cell? ⟨w4.heap.size, 0, none⟩ = some (.int .i64 a) := x0.out.cell 0
    have qx0_1 : w6.cell? ⟨w4.heap.size, 1, none⟩ = some (.int .i64 b) := x0.out.cell 1
    have qx0_2 : w6.cell? ⟨w4.heap.size, 2, none⟩ = some (.int .i64 m) := x0.out.cell 2
    have qx0_3 : w6.cell? ⟨w4.heap.size, 3, none⟩ = some (.int .i64 d) := x0.out.cell 3
    have qx0_4 : w6.cell? ⟨w4.heap.size, 4, none⟩ = some (.int .i64 t) := x0.out.cell 4
    have qx0_5 : w6.cell? ⟨w4.heap.size, 5, none⟩ = some (.slice Ax fs.length cx) := x0.out.cell 5
    have qx0_l := x0.out.lt
    go_wp2_with fail
    go_region_held3 (fun w' => w'.cell? ⟨w.heap.size, 0, none⟩ = some (.int .i64 a) ∧ w'.cell? ⟨w.heap.size, 1, none⟩ = some (.int .i64 b) ∧ w'.cell? ⟨w.heap.size, 2, none⟩ = some (.int .i64 m) ∧ w'.cell? ⟨w.heap.size, 3, none⟩ = some (.int .i64 d) ∧ w'.cell? ⟨w.heap.size, 4, none⟩ = some (.int .i64 t) ∧ w'.cell? ⟨w.heap.size, 5, none⟩ = some (.slice A fs.length c) ∧ w'.cell? ⟨w4.heap.size, 0, none⟩ = some (.int .i64 a) ∧ w'.cell? ⟨w4.heap.size, 1, none⟩ = some (.int .i64 b) ∧ w'.cell? ⟨w4.heap.size, 2, none⟩ = some (.int .i64 m) ∧ w'.cell? ⟨w4.heap.size, 3, none⟩ = some (.int .i64 d) ∧ w'.cell? ⟨w4.heap.size, 4, none⟩ = some (.int .i64 t) ∧ w'.cell? ⟨w4.heap.size, 5, none⟩ = some (.slice Ax fs.length cx) ∧ Below w6.heap.size w6 w') (((go_split_ands; refine HS.out _ ?_; repeat (first | (with_reducible assumption) | (with_reducible refine Below.drew ?_) | (with_reducible refine bthen ?_ (by with_reducible assumption)))))) ((first | (go_at_call 20; (with_reducible refine (toTask_any a b m d t A c fs _ (Hrt.out.on (by go_split_ands; with_reducible assumption)) hl).mono ?_); rintro e wa ⟨⟨Ay, cy, rfl, hoy⟩, hba⟩) | (go_at_call 15; (with_reducible refine (eqTask_same a b m d t _ _ _ _ fs _ ((Rd.of_own (S := ptS) Ox.out rfl).on (by go_split_ands; with_reducible assumption)) (by first | (with_reducible exact Rd.of_own hoy rfl) | (with_reducible exact (Rd.of_own hoy rfl).on (Below.drew (Below.refl _ _))))).mono ?_); rintro e wb ⟨rfl, hbb⟩)))
    have hbr : Below w6.heap.size w6 wb := by go_split_ands; repeat (first | (with_reducible assumption) | (with_reducible refine Below.drew ?_) | (with_reducible refine bthen ?_ (by with_reducible assumption)))
    clear HS hrefl Hrt qbx_0 qbx_1 qbx_2 qbx_3 qbx_4 qbx_5 qbx_l qx0_0 qx0_1 qx0_2 qx0_3 qx0_4 qx0_5 qx0_l
    have hb7 := hbr; clear hbr
    replace bx := Lib.hid (bx.out.on (hb7))
    replace R0 := Lib.hid (R0.out.on (hb7))
    replace Ox := Lib.hid (own_below Ox.out (hb7))
    replace x0 := Lib.hid (x0.out.on (hb7))
    replace R1 := Lib.hid (R1.out.on (hb7))
    have sz7 := Lib.hid (show w6.heap.size + 0 ≤ wb.heap.size by have := hb7.size; (try simp only [World.size_alloc] at this); omega)
    have Hb7 := Lib.hid (bthen (Hb6.out) hb7)
    clear hb7
    have qx0_0 : wb.cell? ⟨w4.heap.size, 0, none⟩ = some (.int .i64 a) := x0.out.cell 0
    have qx0_1 : wb.cell? ⟨w4.heap.size, 1, none⟩ = some (.int .i64 b) := x0.out.cell 1
    have qx0_2 : wb.cell? ⟨w4.heap.size, 2, none⟩ = some (.int .i64 m) := x0.out.cell 2
    have qx0_3 : wb.cell? ⟨w4.heap.size, 3, none⟩ = some (.int .i64 d) := x0.out.cell 3
    have qx0_4 : wb.cell? ⟨w4.heap.size, 4, none⟩ = some (.int .i64 t) := x0.out.cell 4
    have qx0_5 : wb.cell? ⟨w4.heap.size, 5, none⟩ = some (.slice Ax fs.length cx) := x0.out.cell 5
    have qx0_l := x0.out.lt
    go_wp2_with fail
    clear qx0_0 qx0_1 qx0_2 qx0_3 qx0_4 qx0_5 qx0_l
    refine (markTask_any a b m d t _ _ _ _ 1 _ _ Ox.out (by omega) (by omega) (by omega)).mono ?_; rintro e w8 ⟨rfl, om, hg⟩
    replace bx := Lib.hid (show Blk w8 _ _ _ from (hg.block _ bx.out.lt (by intro h2; have g2 := GOx.out _ h2.symm; have zsz1 := sz1.out; have zsz2 := sz2.out; have zsz3 := sz3.out; have zsz4 := sz4.out; have zsz5 := sz5.out; have zsz6 := sz6.out; have zsz7 := sz7.out; (try simp only [World.size_alloc] at g2); omega)).trans bx.out)
    replace R0 := Lib.hid (R0.out.kept hg (by intro g h2; have g2 := GOx.out g h2; have zsz1 := sz1.out; have zsz2 := sz2.out; have zsz3 := sz3.out; have zsz4 := sz4.out; have zsz5 := sz5.out; have zsz6 := sz6.out; have zsz7 := sz7.out; (try simp only [World.size_alloc] at g2 ⊢); omega))
    replace x0 := Lib.hid (show Blk w8 _ _ _ from (hg.block _ x0.out.lt (by intro h2; have g2 := GOx.out _ h2.symm; have zsz1 := sz1.out; have zsz2 := sz2.out; have zsz3 := sz3.out; have zsz4 := sz4.out; have zsz5 := sz5.out; have zsz6 := sz6.out; have zsz7 := sz7.out; (try simp only [World.size_alloc] at g2); omega)).trans x0.out)
    replace R1 := Lib.hid (R1.out.kept hg (by intro g h2; have g2 := GOx.out g h2; have zsz1 := sz1.out; have zsz2 := sz2.out; have zsz3 := sz3.out; have zsz4 := sz4.out; have zsz5 := sz5.out; have zsz6 := sz6.out; have zsz7 := sz7.out; (try simp only [World.size_alloc] at g2 ⊢); omega))
    have sz8 := Lib.hid (show wb.heap.size + 0 ≤ w8.heap.size by have := hg.size; omega)
    have Hb8 := Lib.hid (Below.grown Hb7.out hg Hb7.out.size (fun k h2 => by have g2 := GOx.out k h2; have zsz1 := sz1.out; have zsz2 := sz2.out; have zsz3 := sz3.out; have zsz4 := sz4.out; have zsz5 := sz5.out; have zsz6 := sz6.out; have zsz7 := sz7.out; have zsz8 := sz8.out; (try simp only [World.size_alloc] at g2); omega))
    replace Ox := Lib.hid om
    clear om hg
    obtain ⟨K1, HKK1⟩ : ∃ K : Int, (1 : Int) + ((fs.length * 3 : Nat) : Int) = K := ⟨_, rfl⟩
    rw [HKK1]
    have HkK1 := Lib.hid HKK1
    have hKK1 : (0 : Int) ≤ K1 := by omega
    clear HKK1
    clear Ox
    clear x0
    go_wp2_with fail
    refine (eqIntSS_same _ _ _ _ (NRd.of_own R1.out) (NRd.of_own R0.out)).mono ?_; rintro e w9 ⟨rfl, hb9⟩
    replace bx := Lib.hid (bx.out.on (hb9))
    replace R0 := Lib.hid (R0.out.on (hb9))
    replace R1 := Lib.hid (R1.out.on (hb9))
    have sz9 := Lib.hid (show w8.heap.size + 0 ≤ w9.heap.size by have := hb9.size; (try simp only [World.size_alloc] at this); omega)
    have Hb9 := Lib.hid (bthen (Hb8.out) hb9)
    clear hb9
    go_wp2_with fail
    refine (markIntSS_any _ _ _ 1 _ _ _ R1.out (by rw [length_cellsII]; omega) (by omega) (by omega) (by omega)).mono ?_; rintro e w10 ⟨rfl, om, hg⟩
    replace bx := Lib.hid (hg.blk bx.out (by have zsz1 := sz1.out; have zsz2 := sz2.out; have zsz3 := sz3.out; have zsz4 := sz4.out; have zsz5 := sz5.out; have zsz6 := sz6.out; have zsz7 := sz7.out; have zsz8 := sz8.out; have zsz9 := sz9.out; (try simp only [World.size_alloc]); omega))
    replace R0 := Lib.hid (hg.nown R0.out (by have zsz1 := sz1.out; have zsz2 := sz2.out; have zsz3 := sz3.out; have zsz4 := sz4.out; have zsz5 := sz5.out; have zsz6 := sz6.out; have zsz7 := sz7.out; have zsz8 := sz8.out; have zsz9 := sz9.out; (try simp only [World.size_alloc]); omega))
    have sz10 := Lib.hid (show w9.heap.size + 0 ≤ w10.heap.size by have := hg.size; omega)
    have Hb10 := Lib.hid (Hb9.out.trans (hg.below (B := w.heap.size) (by have zsz1 := sz1.out; have zsz2 := sz2.out; have zsz3 := sz3.out; have zsz4 := sz4.out; have zsz5 := sz5.out; have zsz6 := sz6.out; have zsz7 := sz7.out; have zsz8 := sz8.out; have zsz9 := sz9.out; have zsz10 := sz10.out; (try simp only [World.size_alloc]); omega) (by have zsz1 := sz1.out; have zsz2 := sz2.out; have zsz3 := sz3.out; have zsz4 := sz4.out; have zsz5 := sz5.out; have zsz6 := sz6.out; have zsz7 := sz7.out; have zsz8 := sz8.out; have zsz9 := sz9.out; have zsz10 := sz10.out; (try simp only [World.size_alloc]); omega)))
    replace R1 := Lib.hid om
    clear om hg
    obtain ⟨K2, HK2⟩ : ∃ K : Int, (1 : Int) + (totL (cellsII (rangesV a b m d t fs z).1) : Int) = K := ⟨_, rfl⟩
    rw [HK2]
    have HkK2 := Lib.hid HK2
    have hK2 : (0 : Int) ≤ K2 := by omega
    clear HK2
    go_wp2_with fail
    refine (heldIntSS_any _ _ _ 1 _ _ _ R1.out (by rw [length_cellsII]; omega) (by omega) (by omega) (by omega)).mono ?_; rintro e z11 ⟨rfl, rfl⟩
    rw [HkK2.out]
    have qbx_0 : w10.cell? ⟨w.heap.size, 0, none⟩ = some (.int .i64 a) := bx.out.cell 0
    have qbx_1 : w10.cell? ⟨w.heap.size, 1, none⟩ = some (.int .i64 b) := bx.out.cell 1
    have qbx_2 : w10.cell? ⟨w.heap.size, 2, none⟩ = some (.int .i64 m) := bx.out.cell 2
    have qbx_3 : w10.cell? ⟨w.heap.size, 3, none⟩ = some (.int .i64 d) := bx.out.cell 3
    have qbx_4 : w10.cell? ⟨w.heap.size, 4, none⟩ = some (.int .i64 t) := bx.out.cell 4
    have qbx_5 : w10.cell? ⟨w.heap.size, 5, none⟩ = some (.slice A fs.length c) := bx.out.cell 5
    have qbx_l := bx.out.lt
    go_wp2_with fail
    clear qbx_0 qbx_1 qbx_2 qbx_3 qbx_4 qbx_5 qbx_l
    refine (toTask_any a b m d t A c fs _ (Hr.out.on (Hb10.out)) hl).mono ?_; rintro e w12 ⟨⟨Ay, cy, rfl, hoy⟩, hb12⟩
    have Oy := Lib.hid hoy
    have GOy := Lib.hid (World.ownsRow.lt hoy)
    clear hoy
    replace bx := Lib.hid (bx.out.on (hb12))
    replace R0 := Lib.hid (R0.out.on (hb12))
    replace R1 := Lib.hid (R1.out.on (hb12))
    have sz12 := Lib.hid (show w10.heap.size + 0 ≤ w12.heap.size by have := hb12.size; (try simp only [World.size_alloc] at this); omega)
    have Hb12 := Lib.hid (bthen (Hb10.out) hb12)
    clear hb12
    go_wp2_with fail
    refine (implRanges_any a b m d t _ fs z _ (Rd.of_own Oy.out rfl)).mono ?_; rintro e w13 ⟨⟨v2, vs2, rfl, ho2⟩, hb13⟩
    have R2 := Lib.hid ho2; clear ho2
    replace bx := Lib.hid (bx.out.on (hb13))
    replace R0 := Lib.hid (R0.out.on (hb13))
    replace R1 := Lib.hid (R1.out.on (hb13))
    replace Oy := Lib.hid (own_below Oy.out (hb13))
    have sz13 := Lib.hid (show w12.heap.size + 0 ≤ w13.heap.size by have := hb13.size; (try simp only [World.size_alloc] at this); omega)
    have Hb13 := Lib.hid (bthen (Hb12.out) hb13)
    clear hb13
    clear Oy
    go_wp2_with fail
    refine (eqIntSS_same _ _ _ _ (NRd.of_own R2.out) (NRd.of_own R0.out)).mono ?_; rintro e w14 ⟨rfl, hb14⟩
    replace bx := Lib.hid (bx.out.on (hb14))
    replace R0 := Lib.hid (R0.out.on (hb14))
    replace R1 := Lib.hid (R1.out.on (hb14))
    replace R2 := Lib.hid (R2.out.on (hb14))
    have sz14 := Lib.hid (show w13.heap.size + 0 ≤ w14.heap.size by have := hb14.size; (try simp only [World.size_alloc] at this); omega)
    have Hb14 := Lib.hid (bthen (Hb13.out) hb14)
    clear hb14
    go_wp2_with fail
    refine (heldIntSS_any _ _ _ 1 _ _ _ R1.out (by rw [length_cellsII]; omega) (by omega) (by omega) (by omega)).mono ?_; rintro e z15 ⟨rfl, rfl⟩
    rw [HkK2.out]
    go_wp2
    go_ret
    exact ⟨rfl, Hb14.out⟩
  · go_enter Try.func10, Try.ntmps10
    go_wp2_with fail
    refine (szTask_any a b m d t A fs.length c 1048576 _ (by omega) (by omega) (by omega)).mono ?_; rintro e w1 ⟨rfl, hb1⟩
    rw [szI_neg (by omega)]
    go_wp2
    go_ret
    exact ⟨rfl, bthen (bal (Below.refl _ _) _) hb1⟩

set_option maxRecDepth 100000 in
theorem fnExactRangesOf_lifted (os : Os) (started : os.Started) (H : Type) (enc : TypeId × Value → H) :
    ReturnsInHanded {} Try.checked os 10 .any (Rows.fnExactRangesOfSpec.pre6 enc Try.prog Try.f10 Rows.fnExactRangesOfRow.domain false) (Rows.fnExactRangesOfSpec.post enc Try.prog Try.f10 false true false false) := by
  refine returnsInHanded_of_change (C := Try.checked) own_knob started (by kernel_rfl) Try.func10
    (ChangeSpec.witness6 (enc := enc) (C := Try.checked) false ⟨#[], #[.agg #[.int .i64 0, .int .i64 0, .int .i64 0, .int .i64 0, .int .i64 0, .slice none 0 0], .int .i64 0], []⟩ 8 (by kernel_rfl) (by kernel_rfl) (by kernel_rfl) (by kernel_rfl)) ?_
  intro W base args ds gs before hval0 hW _ _
  have hval : ∀ (j : Nat) t v, Try.f10.params[j]? = some t → args[j]? = some v → Value.okWide Try.prog W .any base t v := hval0
  have hW' := hW
  obtain ⟨p, q, hA0, hV, rfl, hfz, hnd⟩ := hW
  have hA : DataW.TrodAll enc Try.prog W 0 (fun _ => true) true Try.f10.params.toList args.toList ds p := hA0
  rw [Try.params10] at hA hval
  obtain ⟨v0, v1, d0, d1, p0, p1, rfl, rfl, rfl, h0, h1⟩ := trodAll_two hA
  obtain ⟨rfl, rfl⟩ := trodVars_none hV
  simp only [List.append_nil] at hW'
  have hlt := hW'.lt
  have hlt0 : ∀ x ∈ p0, x.block < W.heap.size := fun x hx => hlt x (by simp [hx])
  have hlt1 : ∀ x ∈ p1, x.block < W.heap.size := fun x hx => hlt x (by simp [hx])
  have k0 := h0
  obtain ⟨ns0, u0, es0, hn0, rfl, hwf0, hr0⟩ := open_ints_tail ptS ptMk ptMk_cell Try.underlying36 4 5 (by kernel_rfl) (by kernel_rfl) (by kernel_rfl) Try.underlying34 (by decide) (by kernel_rfl) (by kernel_rfl) (hval 0 36 v0 rfl rfl) h0
  obtain ⟨x0a, x0b, x0c, x0d, x0e, rfl⟩ := list5 hn0
  have hr09 := hr0
  obtain ⟨A0, c0, rfl, -, -, -⟩ := hr09
  have k1 := h1
  obtain ⟨x1, rfl, hd1, hp1, w1⟩ := open_int Try.underlying3 (hval 1 3 v1 rfl rfl) h1
  have b1 := bounds_i64 w1
  refine (fnExactRangesOf_walk x0a x0b x0c x0d x0e A0 c0 es0 x1 W hr0 b1).mono fun e W' ⟨he, hb⟩ => ?_
  subst he
  exact ⟨_, rfl, post_below hW' (trodAll_mk1 (shut_bool Try.underlying4 true)) (trodAll_mk2 (WideElems.Trod_stays laid_out (by kernel_rfl) (of_decide_eq_true (by kernel_rfl)) k0 (fun x hx => hb.same (hlt0 x hx)) (fun x hx => by simpa using hlt0 x hx)) (WideElems.Trod_stays laid_out (by kernel_rfl) (of_decide_eq_true (by kernel_rfl)) k1 (fun x hx => hb.same (hlt1 x hx)) (fun x hx => by simpa using hlt1 x hx))) rfl (by first | rfl | (simp only [List.append_assoc]; done)) hb⟩

theorem fnExactRangesOf_holds : Rows.FnExactRangesOfSaid :=
  OpenClaim.holds_of_wide 10 Try.f10 rfl rfl rfl rfl rfl rfl rfl ⟨rfl, rfl, rfl, rfl, rfl⟩ rfl rfl rfl rfl rfl (by kernel_rfl) Try.func10 (by kernel_rfl)
    (of_decide_eq_true (by kernel_rfl)) (by unfold Func.isWrapper; rw [if_neg (of_decide_eq_false (by kernel_rfl))]; exact ⟨rfl, rfl⟩)
    (fun os started H enc _ => fnExactRangesOf_lifted os started H enc)

end Go.Proofs.Ytbgifnamionjgaa
