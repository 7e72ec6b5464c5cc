/- The law FnExactJoinRanges: for all arguments the program's answer is the reference's. Conditions: none. -/
import Derived.Test.YticbmpjdcanjkaaTaskW
import Derived.Test.YticbmpjdcanjkaaOpenT
import Derived.Test.YticbmpjdcanjkaaFrame
import Derived.Test.YticbmpjdcanjkaaJnR
import Derived.Test.YticbmpjdcanjkaaJnS
namespace Go.Proofs.Yticbmpjdcanjkaa
open Go Go.RowKit Go.ChangeShapes Go.WideShapes

theorem tot_bd2 {a b m d : Int} (h : TkB a b m d) : 0 ≤ totI m d ∧ totI m d ≤ 4010 := totI_bd h.m h.d
theorem jnF_bd {m d t : Int} {R : List LI} (h0 : 0 ≤ totI m d - t) (ht : 0 ≤ t ∧ t ≤ totI m d) : ∀ (f : Nat) (w n : Int), 1 ≤ w → jnF m d t R f w = some n → t ≤ n ∧ n ≤ totI m d
  | 0, _, _, _, h => by cases h
  | f + 1, w, n, hw, h => by
    unfold jnF at h
    split at h
    · injection h with h
      rw [← h]
      exact jAt_bd R (at0 := t) (F := totI m d) _ t (rangesL_in h0 hw).el (Int.le_refl _) ht.2
    · exact jnF_bd h0 ht f (w + 1) n (by omega) h
theorem totL_cells (R : List (List Int)) : totL (cellsII R) = totL R := by
  unfold totL cellsII
  rw [List.map_map]
  congr 1
  apply List.map_congr_left
  intro r _
  simp
theorem joinV_len {a b m d t : Int} {fs : List Pt} {R : List (List Int)} {A B M D T : Int} {Y : List Pt} {k : Bool} (h : joinV a b m d t fs R = (A, B, M, D, T, Y, k)) : Y.length ≤ 4010 := by
  unfold joinV at h
  split at h
  · rename_i hk
    split at h
    · rename_i n hn
      simp only [Prod.mk.injEq] at h
      rw [← h.2.2.2.2.2.1]
      have h1 := hitsZ_len a b m 0 n
      obtain ⟨h2, h3, -⟩ := tkG_spec hk
      have h4 := tot_bd2 h2
      have h5 := jnF_bd (R := R) (by omega) h3 8 1 n (by omega) hn
      omega
    · unfold zeroT at h
      simp only [Prod.mk.injEq] at h
      rw [← h.2.2.2.2.2.1]; simp
  · unfold zeroT at h
    simp only [Prod.mk.injEq] at h
    rw [← h.2.2.2.2.2.1]; simp
set_option maxRecDepth 8000 in
set_option maxHeartbeats 8000000 in
theorem fnExactJoinRanges_walk (a b m d t : Int) (A : Option Addr) (c : Nat) (fs : List Pt) (u : Value) (R : List (List Int)) (w : World) (hr : Rd ptS w w.heap.size (.slice A fs.length c) fs) (hu : NRd w w.heap.size u R) :
    Calls Try.prog 3 #[.agg #[.int .i64 a, .int .i64 b, .int .i64 m, .int .i64 d, .int .i64 t, .slice A fs.length c], u] w fun e w' => e = .returned (.bool true) ∧ Below w.heap.size w w' := by
  have hcap : fs.length ≤ 9223372036854775807 := by
    obtain ⟨A9, c9, h9, h8, h7, -⟩ := hr
    unfold maxLen at h7; omega
  obtain ⟨Ar, cr, rfl, hcr, hmr⟩ := nrd_form hu
  clear hcr hmr
  have Hr := Lib.hid hr; have Hu := Lib.hid hu; clear hr hu
  by_cases hl : fs.length ≤ 1048576
  · skip
    go_enter Try.func3, Try.ntmps3
    go_wp2_with fail
    refine (szTask_any a b m d t A fs.length c 1048576 _ (by omega) (by omega) (by omega)).mono ?_; rintro e w1 ⟨rfl, hb1⟩
    have bx := Lib.hid ((Blk.new w 26 #[.int .i64 a, .int .i64 b, .int .i64 m, .int .i64 d, .int .i64 t, .slice A fs.length c]).on hb1)
    have sz1 := Lib.hid (show w.heap.size + 1 ≤ w1.heap.size by have := hb1.size; (try simp only [World.size_alloc] at this); omega)
    have Hb1 := Lib.hid (bthen (bal (Below.refl _ _) _) hb1)
    clear hb1
    rw [szI_pos (by omega)]
    have hge : (0 : Int) ≤ 1048576 - (fs.length : Int) := by omega
    go_wp2_with fail
    refine (szIntSS_any _ R _ _ (Hu.out.on (Hb1.out)) hge (by omega)).mono ?_; rintro e w2 ⟨rfl, hb2⟩
    replace bx := Lib.hid (bx.out.on (hb2))
    have sz2 := Lib.hid (show w1.heap.size + 0 ≤ w2.heap.size by have := hb2.size; (try simp only [World.size_alloc] at this); omega)
    have Hb2 := Lib.hid (bthen (Hb1.out) hb2)
    clear hb2
    by_cases hs : (1048576 - (fs.length : Int)) - (R.length : Int) - (totL R : Int) < 0
    · rw [show szII (1048576 - (fs.length : Int)) R.length (totL R) = -1 by unfold szII; rw [if_pos hs]]
      go_wp2
      go_ret
      exact ⟨rfl, Hb2.out⟩
    rw [show szII (1048576 - (fs.length : Int)) R.length (totL R) = 1048576 - (fs.length : Int) - R.length - totL R by unfold szII; rw [if_neg hs]]
    have hge2 : (0 : Int) ≤ 1048576 - (fs.length : Int) - R.length - totL R := by omega
    have hRl : R.length ≤ 1048576 := by omega
    have hRt : totL R ≤ 1048576 := by omega
    have hRc : totL (cellsII R) = totL R := totL_cells R
    have qbx_0 : w2.cell? ⟨w.heap.size, 0, none⟩ = some (.int .i64 a) := bx.out.cell 0
    have qbx_1 : w2.cell? ⟨w.heap.size, 1, none⟩ = some (.int .i64 b) := bx.out.cell 1
    have qbx_2 : w2.cell? ⟨w.heap.size, 2, none⟩ = some (.int .i64 m) := bx.out.cell 2
    have qbx_3 : w2.cell? ⟨w.heap.size, 3, none⟩ = some (.int .i64 d) := bx.out.cell 3
    have qbx_4 : w2.cell? ⟨w.heap.size, 4, none⟩ = some (.int .i64 t) := bx.out.cell 4
    have qbx_5 : w2.cell? ⟨w.heap.size, 5, none⟩ = some (.slice A fs.length c) := bx.out.cell 5
    have qbx_l := bx.out.lt
    go_wp2_with fail
    clear qbx_0 qbx_1 qbx_2 qbx_3 qbx_4 qbx_5 qbx_l
    refine (toTask_any a b m d t A c fs _ (Hr.out.on (Hb2.out)) hl).mono ?_; rintro e w3 ⟨⟨As, cs, rfl, hos⟩, hb3⟩
    have Os := Lib.hid hos
    have GOs := Lib.hid (World.ownsRow.lt hos)
    clear hos
    replace bx := Lib.hid (bx.out.on (hb3))
    have sz3 := Lib.hid (show w2.heap.size + 0 ≤ w3.heap.size by have := hb3.size; (try simp only [World.size_alloc] at this); omega)
    have Hb3 := Lib.hid (bthen (Hb2.out) hb3)
    clear hb3
    go_wp2_with fail
    refine (toIntSS_any _ R _ (Hu.out.on (Hb3.out)) hRl hRt).mono ?_; rintro e w4 ⟨⟨vs, vss, rfl, hns⟩, hb4⟩
    have Ns := Lib.hid hns; clear hns
    replace bx := Lib.hid (bx.out.on (hb4))
    replace Os := Lib.hid (own_below Os.out (hb4))
    have sz4 := Lib.hid (show w3.heap.size + 0 ≤ w4.heap.size by have := hb4.size; (try simp only [World.size_alloc] at this); omega)
    have Hb4 := Lib.hid (bthen (Hb3.out) hb4)
    clear hb4
    obtain ⟨Ds, qs, rfl, -, -⟩ := nrd_form (NRd.of_own Ns.out)
    go_wp2_with fail
    refine (specJoinR_any a b m d t _ _ fs R _ (Rd.of_own Os.out rfl) (NRd.of_own Ns.out)).mono ?_; rintro e w5 ⟨⟨B00, B10, B20, B30, B40, Y0, k0, v0, rfl, hy0, ho0⟩, hb5⟩
    have Hy := Lib.hid hy0; clear hy0
    have ly : Y0.length ≤ 4010 := joinV_len Hy.out
    obtain ⟨C0, e0, rfl, -, -, -⟩ := Rd.of_own (S := ptS) ho0 rfl
    have R0 := Lib.hid ho0
    have GR0 := Lib.hid (World.ownsRow.lt ho0)
    clear ho0
    replace bx := Lib.hid (bx.out.on (hb5))
    replace Os := Lib.hid (own_below Os.out (hb5))
    replace Ns := Lib.hid (Ns.out.on (hb5))
    have sz5 := Lib.hid (show w4.heap.size + 0 ≤ w5.heap.size by have := hb5.size; (try simp only [World.size_alloc] at this); omega)
    have Hb5 := Lib.hid (bthen (Hb4.out) hb5)
    clear hb5
    clear Os
    clear Ns
    have qbx_0 : w5.cell? ⟨w.heap.size, 0, none⟩ = some (.int .i64 a) := bx.out.cell 0
    have qbx_1 : w5.cell? ⟨w.heap.size, 1, none⟩ = some (.int .i64 b) := bx.out.cell 1
    have qbx_2 : w5.cell? ⟨w.heap.size, 2, none⟩ = some (.int .i64 m) := bx.out.cell 2
    have qbx_3 : w5.cell? ⟨w.heap.size, 3, none⟩ = some (.int .i64 d) := bx.out.cell 3
    have qbx_4 : w5.cell? ⟨w.heap.size, 4, none⟩ = some (.int .i64 t) := bx.out.cell 4
    have qbx_5 : w5.cell? ⟨w.heap.size, 5, none⟩ = some (.slice A fs.length c) := bx.out.cell 5
    have qbx_l := bx.out.lt
    go_wp2_with fail
    clear qbx_0 qbx_1 qbx_2 qbx_3 qbx_4 qbx_5 qbx_l
    refine (toTask_any a b m d t A c fs _ (Hr.out.on (bal (Hb5.out) _)) hl).mono ?_; rintro e w6 ⟨⟨Ax, cx, rfl, hox⟩, hb6⟩
    have Ox := Lib.hid hox
    have GOx := Lib.hid (World.ownsRow.lt hox)
    clear hox
    replace bx := Lib.hid (bx.out.on (bthen (bal (Below.refl _ _) _) hb6))
    replace R0 := Lib.hid (own_below R0.out (bthen (bal (Below.refl _ _) _) hb6))
    have w0 := Lib.hid ((Blk.new w5 33 #[.int .i64 B00, .int .i64 B10, .int .i64 B20, .int .i64 B30, .int .i64 B40, .slice C0 Y0.length e0]).on hb6)
    have sz6 := Lib.hid (show w5.heap.size + 1 ≤ w6.heap.size by have := hb6.size; (try simp only [World.size_alloc] at this); omega)
    have Hb6 := Lib.hid (bthen (bal (Hb5.out) _) hb6)
    clear hb6
    go_wp2_with fail
    refine (toIntSS_any _ R _ (Hu.out.on (bal (Hb6.out) _)) hRl hRt).mono ?_; rintro e w7 ⟨⟨vx, vsx, rfl, hnx⟩, hb7⟩
    have Nx := Lib.hid hnx; clear hnx
    replace bx := Lib.hid (bx.out.on (bthen (bal (Below.refl _ _) _) hb7))
    replace R0 := Lib.hid (own_below R0.out (bthen (bal (Below.refl _ _) _) hb7))
    replace w0 := Lib.hid (w0.out.on (bthen (bal (Below.refl _ _) _) hb7))
    replace Ox := Lib.hid (own_below Ox.out (bthen (bal (Below.refl _ _) _) hb7))
    have x0 := Lib.hid ((Blk.new w6 33 #[.int .i64 a, .int .i64 b, .int .i64 m, .int .i64 d, .int .i64 t, .slice Ax fs.length cx]).on hb7)
    have sz7 := Lib.hid (show w6.heap.size + 1 ≤ w7.heap.size by have := hb7.size; (try simp only [World.size_alloc] at this); omega)
    have Hb7 := Lib.hid (bthen (bal (Hb6.out) _) hb7)
    clear hb7
    obtain ⟨Dx, qx, rfl, -, -⟩ := nrd_form (NRd.of_own Nx.out)
    have qx0_0 : w7.cell? ⟨w6.heap.size, 0, none⟩ = some (.int .i64 a) := x0.out.cell 0
    have qx0_1 : w7.cell? ⟨w6.heap.size, 1, none⟩ = some (.int .i64 b) := x0.out.cell 1
    have qx0_2 : w7.cell? ⟨w6.heap.size, 2, none⟩ = some (.int .i64 m) := x0.out.cell 2
    have qx0_3 : w7.cell? ⟨w6.heap.size, 3, none⟩ = some (.int .i64 d) := x0.out.cell 3
    have qx0_4 : w7.cell? ⟨w6.heap.size, 4, none⟩ = some (.int .i64 t) := x0.out.cell 4
    have qx0_5 : w7.cell? ⟨w6.heap.size, 5, none⟩ = some (.slice Ax fs.length cx) := x0.out.cell 5
    have qx0_l := x0.out.lt
    go_wp2_with fail
    clear qx0_0 qx0_1 qx0_2 qx0_3 qx0_4 qx0_5 qx0_l
    refine (implJoinR_any a b m d t _ _ fs R _ (Rd.of_own Ox.out rfl) (NRd.of_own Nx.out)).mono ?_; rintro e w8 ⟨⟨B01, B11, B21, B31, B41, Y1, k1, v1, rfl, hy1, ho1⟩, hb8⟩
    obtain ⟨rfl, rfl, rfl, rfl, rfl, rfl, rfl⟩ : B00 = B01 ∧ B10 = B11 ∧ B20 = B21 ∧ B30 = B31 ∧ B40 = B41 ∧ Y0 = Y1 ∧ k0 = k1 := by have h := Hy.out.symm.trans hy1; simpa using h
    clear hy1
    obtain ⟨C1, e1, rfl, -, -, -⟩ := Rd.of_own (S := ptS) ho1 rfl
    have R1 := Lib.hid ho1
    have GR1 := Lib.hid (World.ownsRow.lt ho1)
    clear ho1
    replace bx := Lib.hid (bx.out.on (hb8))
    replace R0 := Lib.hid (own_below R0.out (hb8))
    replace w0 := Lib.hid (w0.out.on (hb8))
    replace Ox := Lib.hid (own_below Ox.out (hb8))
    replace x0 := Lib.hid (x0.out.on (hb8))
    replace Nx := Lib.hid (Nx.out.on (hb8))
    have sz8 := Lib.hid (show w7.heap.size + 0 ≤ w8.heap.size by have := hb8.size; (try simp only [World.size_alloc] at this); omega)
    have Hb8 := Lib.hid (bthen (Hb7.out) hb8)
    clear hb8
    have qw0_0 : w8.cell? ⟨w5.heap.size, 0, none⟩ = some (.int .i64 B00) := w0.out.cell 0
    have qw0_1 : w8.cell? ⟨w5.heap.size, 1, none⟩ = some (.int .i64 B10) := w0.out.cell 1
    have qw0_2 : w8.cell? ⟨w5.heap.size, 2, none⟩ = some (.int .i64 B20) := w0.out.cell 2
    have qw0_3 : w8.cell? ⟨w5.heap.size, 3, none⟩ = some (.int .i64 B30) := w0.out.cell 3
    have qw0_4 : w8.cell? ⟨w5.heap.size, 4, none⟩ = some (.int .i64 B40) := w0.out.cell 4
    have qw0_5 : w8.cell? ⟨w5.heap.size, 5, none⟩ = some (.slice C0 Y0.length e0) := w0.out.cell 5
    have qw0_l := w0.out.lt
    go_wp2_with fail
    clear qw0_0 qw0_1 qw0_2 qw0_3 qw0_4 qw0_5 qw0_l
    refine (eqTask_same _ _ _ _ _ _ _ _ _ Y0 _ ((Rd.of_own R1.out rfl).on (bal (Below.refl _ _) _)) ((Rd.of_own R0.out rfl).on (bal (Below.refl _ _) _))).mono ?_; rintro e w9 ⟨rfl, hb9⟩
    replace bx := Lib.hid (bx.out.on (bthen (bal (Below.refl _ _) _) hb9))
    replace R0 := Lib.hid (own_below R0.out (bthen (bal (Below.refl _ _) _) hb9))
    replace w0 := Lib.hid (w0.out.on (bthen (bal (Below.refl _ _) _) hb9))
    replace Ox := Lib.hid (own_below Ox.out (bthen (bal (Below.refl _ _) _) hb9))
    replace x0 := Lib.hid (x0.out.on (bthen (bal (Below.refl _ _) _) hb9))
    replace Nx := Lib.hid (Nx.out.on (bthen (bal (Below.refl _ _) _) hb9))
    replace R1 := Lib.hid (own_below R1.out (bthen (bal (Below.refl _ _) _) hb9))
    have g0 := Lib.hid ((Blk.new w8 33 #[.int .i64 B00, .int .i64 B10, .int .i64 B20, .int .i64 B30, .int .i64 B40, .slice C1 Y0.length e1]).on hb9)
    have sz9 := Lib.hid (show w8.heap.size + 1 ≤ w9.heap.size by have := hb9.size; (try simp only [World.size_alloc] at this); omega)
    have Hb9 := Lib.hid (bthen (bal (Hb8.out) _) hb9)
    clear hb9
    have HS : Hid (∀ w', Below w9.heap.size w9 w' → (w'.cell? ⟨w.heap.size, 0, none⟩ = some (.int .i64 a) ∧ w'.cell? ⟨w.heap.size, 1, none⟩ = some (.int .i64 b) ∧ w'.cell? ⟨w.heap.size, 2, none⟩ = some (.int .i64 m) ∧ w'.cell? ⟨w.heap.size, 3, none⟩ = some (.int .i64 d) ∧ w'.cell? ⟨w.heap.size, 4, none⟩ = some (.int .i64 t) ∧ w'.cell? ⟨w.heap.size, 5, none⟩ = some (.slice A fs.length c) ∧ w'.cell? ⟨w6.heap.size, 0, none⟩ = some (.int .i64 a) ∧ w'.cell? ⟨w6.heap.size, 1, none⟩ = some (.int .i64 b) ∧ w'.cell? ⟨w6.heap.size, 2, none⟩ = some (.int .i64 m) ∧ w'.cell? ⟨w6.heap.size, 3, none⟩ = some (.int .i64 d) ∧ w'.cell? ⟨w6.heap.size, 4, none⟩ = some (.int .i64 t) ∧ w'.cell? ⟨w6.heap.size, 5, none⟩ = some (.slice Ax fs.length cx) ∧ Below w9.heap.size w9 w')) := Lib.hid (fun w' hw => ⟨(hw.cell (p := ⟨w.heap.size, 0, none⟩) bx.out.lt).trans (bx.out.cell 0), (hw.cell (p := ⟨w.heap.size, 1, none⟩) bx.out.lt).trans (bx.out.cell 1), (hw.cell (p := ⟨w.heap.size, 2, none⟩) bx.out.lt).trans (bx.out.cell 2), (hw.cell (p := ⟨w.heap.size, 3, none⟩) bx.out.lt).trans (bx.out.cell 3), (hw.cell (p := ⟨w.heap.size, 4, none⟩) bx.out.lt).trans (bx.out.cell 4), (hw.cell (p := ⟨w.heap.size, 5, none⟩) bx.out.lt).trans (bx.out.cell 5), (hw.cell (p := ⟨w6.heap.size, 0, none⟩) x0.out.lt).trans (x0.out.cell 0), (hw.cell (p := ⟨w6.heap.size, 1, none⟩) x0.out.lt).trans (x0.out.cell 1), (hw.cell (p := ⟨w6.heap.size, 2, none⟩) x0.out.lt).trans (x0.out.cell 2), (hw.cell (p := ⟨w6.heap.size, 3, none⟩) x0.out.lt).trans (x0.out.cell 3), (hw.cell (p := ⟨w6.heap.size, 4, none⟩) x0.out.lt).trans (x0.out.cell 4), (hw.cell (p := ⟨w6.heap.size, 5, none⟩) x0.out.lt).trans (x0.out.cell 5), hw⟩)
    have hrefl := Below.refl w9.heap.size w9
    have Hrt := Lib.hid (Hr.out.on Hb9.out)
    have qbx_0 : w9.cell? ⟨w.heap.size, 0, none⟩ = some (.int .i64 a) := bx.out.cell 0
    have qbx_1 : w9.cell? ⟨w.heap.size, 1, none⟩ = some (.int .i64 b) := bx.out.cell 1
    have qbx_2 : w9.cell? ⟨w.heap.size, 2, none⟩ = some (.int .i64 m) := bx.out.cell 2
    have qbx_3 : w9.cell? ⟨w.heap.size, 3, none⟩ = some (.int .i64 d) := bx.out.cell 3
    have qbx_4 : w9.cell? ⟨w.heap.size, 4, none⟩ = some (.int .i64 t) := bx.out.cell 4
    have qbx_5 : w9.cell? ⟨w.heap.size, 5, none⟩ = some (.slice A fs.length c) := bx.out.cell 5
    have qbx_l := bx.out.lt
    have qx0_0 : w9.cell? ⟨w6.heap.size, 0, none⟩ = some (.int .i64 a) := x0.out.cell 0
    have qx0_1 : w9.cell? ⟨w6.heap.size, 1, none⟩ = some (.int .i64 b) := x0.out.cell 1
    have qx0_2 : w9.cell? ⟨w6.heap.size, 2, none⟩ = some (.int .i64 m) := x0.out.cell 2
    have qx0_3 : w9.cell? ⟨w6.heap.size, 3, none⟩ = some (.int .i64 d) := x0.out.cell 3
    have qx0_4 : w9.cell? ⟨w6.heap.size, 4, none⟩ = some (.int .i64 t) := x0.out.cell 4
    have qx0_5 : w9.cell? ⟨w6.heap.size, 5, none⟩ = some (.slice Ax fs.length cx) := x0.out.cell 5
    have qx0_l := x0.out.lt
    go_wp2_with fail
    go_region_held3 (fun w' => w'.cell? ⟨w.heap.size, 0, none⟩ = some (.int .i64 a) ∧ w'.cell? ⟨w.heap.size, 1, none⟩ = some (.int .i64 b) ∧ w'.cell? ⟨w.heap.size, 2, none⟩ = some (.int .i64 m) ∧ w'.cell? ⟨w.heap.size, 3, none⟩ = some (.int .i64 d) ∧ w'.cell? ⟨w.heap.size, 4, none⟩ = some (.int .i64 t) ∧ w'.cell? ⟨w.heap.size, 5, none⟩ = some (.slice A fs.length c) ∧ w'.cell? ⟨w6.heap.size, 0, none⟩ = some (.int .i64 a) ∧ w'.cell? ⟨w6.heap.size, 1, none⟩ = some (.int .i64 b) ∧ w'.cell? ⟨w6.heap.size, 2, none⟩ = some (.int .i64 m) ∧ w'.cell? ⟨w6.heap.size, 3, none⟩ = some (.int .i64 d) ∧ w'.cell? ⟨w6.heap.size, 4, none⟩ = some (.int .i64 t) ∧ w'.cell? ⟨w6.heap.size, 5, none⟩ = some (.slice Ax fs.length cx) ∧ Below w9.heap.size w9 w') (((go_split_ands; refine HS.out _ ?_; repeat (first | (with_reducible assumption) | (with_reducible refine Below.drew ?_) | (with_reducible refine bthen ?_ (by with_reducible assumption)))))) ((first | (go_at_call 7; (with_reducible refine (toTask_any a b m d t A c fs _ (Hrt.out.on (by go_split_ands; with_reducible assumption)) hl).mono ?_); rintro e wa ⟨⟨Ay, cy, rfl, hoy⟩, hba⟩) | (go_at_call 10; (with_reducible refine (eqTask_same a b m d t _ _ _ _ fs _ ((Rd.of_own (S := ptS) Ox.out rfl).on (by go_split_ands; with_reducible assumption)) (by first | (with_reducible exact Rd.of_own hoy rfl) | (with_reducible exact (Rd.of_own hoy rfl).on (Below.drew (Below.refl _ _))))).mono ?_); rintro e wb ⟨rfl, hbb⟩)))
    have hbr : Below w9.heap.size w9 wb := by go_split_ands; repeat (first | (with_reducible assumption) | (with_reducible refine Below.drew ?_) | (with_reducible refine bthen ?_ (by with_reducible assumption)))
    clear HS hrefl Hrt qbx_0 qbx_1 qbx_2 qbx_3 qbx_4 qbx_5 qbx_l qx0_0 qx0_1 qx0_2 qx0_3 qx0_4 qx0_5 qx0_l
    have hb10 := hbr; clear hbr
    replace bx := Lib.hid (bx.out.on (hb10))
    replace R0 := Lib.hid (own_below R0.out (hb10))
    replace w0 := Lib.hid (w0.out.on (hb10))
    replace Ox := Lib.hid (own_below Ox.out (hb10))
    replace x0 := Lib.hid (x0.out.on (hb10))
    replace Nx := Lib.hid (Nx.out.on (hb10))
    replace R1 := Lib.hid (own_below R1.out (hb10))
    replace g0 := Lib.hid (g0.out.on (hb10))
    have sz10 := Lib.hid (show w9.heap.size + 0 ≤ wb.heap.size by have := hb10.size; (try simp only [World.size_alloc] at this); omega)
    have Hb10 := Lib.hid (bthen (Hb9.out) hb10)
    clear hb10
    go_wp2_with fail
    refine (toIntSS_any _ R _ (Hu.out.on (Hb10.out)) hRl hRt).mono ?_; rintro e w11 ⟨⟨vz, vsz, rfl, hnz⟩, hb11⟩
    have Nz := Lib.hid hnz; clear hnz
    replace bx := Lib.hid (bx.out.on (hb11))
    replace R0 := Lib.hid (own_below R0.out (hb11))
    replace w0 := Lib.hid (w0.out.on (hb11))
    replace Ox := Lib.hid (own_below Ox.out (hb11))
    replace x0 := Lib.hid (x0.out.on (hb11))
    replace Nx := Lib.hid (Nx.out.on (hb11))
    replace R1 := Lib.hid (own_below R1.out (hb11))
    replace g0 := Lib.hid (g0.out.on (hb11))
    have sz11 := Lib.hid (show wb.heap.size + 0 ≤ w11.heap.size by have := hb11.size; (try simp only [World.size_alloc] at this); omega)
    have Hb11 := Lib.hid (bthen (Hb10.out) hb11)
    clear hb11
    obtain ⟨Dz, qz, rfl, -, -⟩ := nrd_form (NRd.of_own Nz.out)
    go_wp2_with fail
    refine (eqIntSS_same _ _ R _ (NRd.of_own Nx.out) (NRd.of_own Nz.out)).mono ?_; rintro e w12 ⟨rfl, hb12⟩
    replace bx := Lib.hid (bx.out.on (hb12))
    replace R0 := Lib.hid (own_below R0.out (hb12))
    replace w0 := Lib.hid (w0.out.on (hb12))
    replace Ox := Lib.hid (own_below Ox.out (hb12))
    replace x0 := Lib.hid (x0.out.on (hb12))
    replace Nx := Lib.hid (Nx.out.on (hb12))
    replace R1 := Lib.hid (own_below R1.out (hb12))
    replace g0 := Lib.hid (g0.out.on (hb12))
    replace Nz := Lib.hid (Nz.out.on (hb12))
    have sz12 := Lib.hid (show w11.heap.size + 0 ≤ w12.heap.size by have := hb12.size; (try simp only [World.size_alloc] at this); omega)
    have Hb12 := Lib.hid (bthen (Hb11.out) hb12)
    clear hb12
    clear Nz
    have qx0_0 : w12.cell? ⟨w6.heap.size, 0, none⟩ = some (.int .i64 a) := x0.out.cell 0
    have qx0_1 : w12.cell? ⟨w6.heap.size, 1, none⟩ = some (.int .i64 b) := x0.out.cell 1
    have qx0_2 : w12.cell? ⟨w6.heap.size, 2, none⟩ = some (.int .i64 m) := x0.out.cell 2
    have qx0_3 : w12.cell? ⟨w6.heap.size, 3, none⟩ = some (.int .i64 d) := x0.out.cell 3
    have qx0_4 : w12.cell? ⟨w6.heap.size, 4, none⟩ = some (.int .i64 t) := x0.out.cell 4
    have qx0_5 : w12.cell? ⟨w6.heap.size, 5, none⟩ = some (.slice Ax fs.length cx) := x0.out.cell 5
    have qx0_l := x0.out.lt
    go_wp2_with fail
    clear qx0_0 qx0_1 qx0_2 qx0_3 qx0_4 qx0_5 qx0_l
    refine (markTask_any a b m d t _ _ _ _ 1 _ _ Ox.out (by omega) (by omega) (by omega)).mono ?_; rintro e w13 ⟨rfl, om, hg⟩
    replace bx := Lib.hid (show Blk w13 _ _ _ from (hg.block _ bx.out.lt (by intro h2; have g2 := GOx.out _ h2.symm; have zsz1 := sz1.out; have zsz2 := sz2.out; have zsz3 := sz3.out; have zsz4 := sz4.out; have zsz5 := sz5.out; have zsz6 := sz6.out; have zsz7 := sz7.out; have zsz8 := sz8.out; have zsz9 := sz9.out; have zsz10 := sz10.out; have zsz11 := sz11.out; have zsz12 := sz12.out; (try simp only [World.size_alloc] at g2); omega)).trans bx.out)
    replace R0 := Lib.hid (World.ownsRow.kept R0.out hg (own_apart (by intro k h1 h2; have g1 := GR0.out k h1; have g2 := GOx.out k h2; have zsz1 := sz1.out; have zsz2 := sz2.out; have zsz3 := sz3.out; have zsz4 := sz4.out; have zsz5 := sz5.out; have zsz6 := sz6.out; have zsz7 := sz7.out; have zsz8 := sz8.out; have zsz9 := sz9.out; have zsz10 := sz10.out; have zsz11 := sz11.out; have zsz12 := sz12.out; (try simp only [World.size_alloc] at g1 g2); omega)))
    replace w0 := Lib.hid (show Blk w13 _ _ _ from (hg.block _ w0.out.lt (by intro h2; have g2 := GOx.out _ h2.symm; have zsz1 := sz1.out; have zsz2 := sz2.out; have zsz3 := sz3.out; have zsz4 := sz4.out; have zsz5 := sz5.out; have zsz6 := sz6.out; have zsz7 := sz7.out; have zsz8 := sz8.out; have zsz9 := sz9.out; have zsz10 := sz10.out; have zsz11 := sz11.out; have zsz12 := sz12.out; (try simp only [World.size_alloc] at g2); omega)).trans w0.out)
    replace x0 := Lib.hid (show Blk w13 _ _ _ from (hg.block _ x0.out.lt (by intro h2; have g2 := GOx.out _ h2.symm; have zsz1 := sz1.out; have zsz2 := sz2.out; have zsz3 := sz3.out; have zsz4 := sz4.out; have zsz5 := sz5.out; have zsz6 := sz6.out; have zsz7 := sz7.out; have zsz8 := sz8.out; have zsz9 := sz9.out; have zsz10 := sz10.out; have zsz11 := sz11.out; have zsz12 := sz12.out; (try simp only [World.size_alloc] at g2); omega)).trans x0.out)
    replace Nx := Lib.hid (Nx.out.kept hg (by intro g h2; have g2 := GOx.out g h2; have zsz1 := sz1.out; have zsz2 := sz2.out; have zsz3 := sz3.out; have zsz4 := sz4.out; have zsz5 := sz5.out; have zsz6 := sz6.out; have zsz7 := sz7.out; have zsz8 := sz8.out; have zsz9 := sz9.out; have zsz10 := sz10.out; have zsz11 := sz11.out; have zsz12 := sz12.out; (try simp only [World.size_alloc] at g2 ⊢); omega))
    replace R1 := Lib.hid (World.ownsRow.kept R1.out hg (own_apart (by intro k h1 h2; have g1 := GR1.out k h1; have g2 := GOx.out k h2; have zsz1 := sz1.out; have zsz2 := sz2.out; have zsz3 := sz3.out; have zsz4 := sz4.out; have zsz5 := sz5.out; have zsz6 := sz6.out; have zsz7 := sz7.out; have zsz8 := sz8.out; have zsz9 := sz9.out; have zsz10 := sz10.out; have zsz11 := sz11.out; have zsz12 := sz12.out; (try simp only [World.size_alloc] at g1 g2); omega)))
    replace g0 := Lib.hid (show Blk w13 _ _ _ from (hg.block _ g0.out.lt (by intro h2; have g2 := GOx.out _ h2.symm; have zsz1 := sz1.out; have zsz2 := sz2.out; have zsz3 := sz3.out; have zsz4 := sz4.out; have zsz5 := sz5.out; have zsz6 := sz6.out; have zsz7 := sz7.out; have zsz8 := sz8.out; have zsz9 := sz9.out; have zsz10 := sz10.out; have zsz11 := sz11.out; have zsz12 := sz12.out; (try simp only [World.size_alloc] at g2); omega)).trans g0.out)
    have sz13 := Lib.hid (show w12.heap.size + 0 ≤ w13.heap.size by have := hg.size; omega)
    have Hb13 := Lib.hid (Below.grown Hb12.out hg Hb12.out.size (fun k h2 => by have g2 := GOx.out k h2; have zsz1 := sz1.out; have zsz2 := sz2.out; have zsz3 := sz3.out; have zsz4 := sz4.out; have zsz5 := sz5.out; have zsz6 := sz6.out; have zsz7 := sz7.out; have zsz8 := sz8.out; have zsz9 := sz9.out; have zsz10 := sz10.out; have zsz11 := sz11.out; have zsz12 := sz12.out; have zsz13 := sz13.out; (try simp only [World.size_alloc] at g2); omega))
    replace Ox := Lib.hid om
    clear om hg
    obtain ⟨K1, HKK1⟩ : ∃ K : Int, (1 : Int) + ((fs.length * 3 : Nat) : Int) = K := ⟨_, rfl⟩
    rw [HKK1]
    have HkK1 := Lib.hid HKK1
    have hKK1 : (0 : Int) ≤ K1 := by omega
    have hUK1 : K1 ≤ 16777216 := by omega
    clear HKK1
    clear Ox
    clear x0
    go_wp2_with fail
    refine (markIntSS_any _ _ _ K1 _ _ _ Nx.out (by rw [length_cellsII]; omega) (by omega) (by omega) (by omega)).mono ?_; rintro e w14 ⟨rfl, om, hg⟩
    replace bx := Lib.hid (hg.blk bx.out (by have zsz1 := sz1.out; have zsz2 := sz2.out; have zsz3 := sz3.out; have zsz4 := sz4.out; have zsz5 := sz5.out; have zsz6 := sz6.out; have zsz7 := sz7.out; have zsz8 := sz8.out; have zsz9 := sz9.out; have zsz10 := sz10.out; have zsz11 := sz11.out; have zsz12 := sz12.out; have zsz13 := sz13.out; (try simp only [World.size_alloc]); omega))
    replace R0 := Lib.hid (hg.own R0.out (by intro g h2; have g2 := GR0.out g h2; have zsz1 := sz1.out; have zsz2 := sz2.out; have zsz3 := sz3.out; have zsz4 := sz4.out; have zsz5 := sz5.out; have zsz6 := sz6.out; have zsz7 := sz7.out; have zsz8 := sz8.out; have zsz9 := sz9.out; have zsz10 := sz10.out; have zsz11 := sz11.out; have zsz12 := sz12.out; have zsz13 := sz13.out; (try simp only [World.size_alloc] at g2 ⊢); omega))
    replace w0 := Lib.hid (hg.blk w0.out (by have zsz1 := sz1.out; have zsz2 := sz2.out; have zsz3 := sz3.out; have zsz4 := sz4.out; have zsz5 := sz5.out; have zsz6 := sz6.out; have zsz7 := sz7.out; have zsz8 := sz8.out; have zsz9 := sz9.out; have zsz10 := sz10.out; have zsz11 := sz11.out; have zsz12 := sz12.out; have zsz13 := sz13.out; (try simp only [World.size_alloc]); omega))
    replace R1 := Lib.hid (hg.own R1.out (by intro g h2; have g2 := GR1.out g h2; have zsz1 := sz1.out; have zsz2 := sz2.out; have zsz3 := sz3.out; have zsz4 := sz4.out; have zsz5 := sz5.out; have zsz6 := sz6.out; have zsz7 := sz7.out; have zsz8 := sz8.out; have zsz9 := sz9.out; have zsz10 := sz10.out; have zsz11 := sz11.out; have zsz12 := sz12.out; have zsz13 := sz13.out; (try simp only [World.size_alloc] at g2 ⊢); omega))
    replace g0 := Lib.hid (hg.blk g0.out (by have zsz1 := sz1.out; have zsz2 := sz2.out; have zsz3 := sz3.out; have zsz4 := sz4.out; have zsz5 := sz5.out; have zsz6 := sz6.out; have zsz7 := sz7.out; have zsz8 := sz8.out; have zsz9 := sz9.out; have zsz10 := sz10.out; have zsz11 := sz11.out; have zsz12 := sz12.out; have zsz13 := sz13.out; (try simp only [World.size_alloc]); omega))
    have sz14 := Lib.hid (show w13.heap.size + 0 ≤ w14.heap.size by have := hg.size; omega)
    have Hb14 := Lib.hid (Hb13.out.trans (hg.below (B := w.heap.size) (by have zsz1 := sz1.out; have zsz2 := sz2.out; have zsz3 := sz3.out; have zsz4 := sz4.out; have zsz5 := sz5.out; have zsz6 := sz6.out; have zsz7 := sz7.out; have zsz8 := sz8.out; have zsz9 := sz9.out; have zsz10 := sz10.out; have zsz11 := sz11.out; have zsz12 := sz12.out; have zsz13 := sz13.out; have zsz14 := sz14.out; (try simp only [World.size_alloc]); omega) (by have zsz1 := sz1.out; have zsz2 := sz2.out; have zsz3 := sz3.out; have zsz4 := sz4.out; have zsz5 := sz5.out; have zsz6 := sz6.out; have zsz7 := sz7.out; have zsz8 := sz8.out; have zsz9 := sz9.out; have zsz10 := sz10.out; have zsz11 := sz11.out; have zsz12 := sz12.out; have zsz13 := sz13.out; have zsz14 := sz14.out; (try simp only [World.size_alloc]); omega)))
    replace Nx := Lib.hid om
    clear om hg
    obtain ⟨K3, HK3⟩ : ∃ K : Int, K1 + (totL (cellsII R) : Int) = K := ⟨_, rfl⟩
    rw [HK3]
    have hK3 : (0 : Int) ≤ K3 := by omega
    clear HK3
    clear Nx
    have qg0_0 : w14.cell? ⟨w8.heap.size, 0, none⟩ = some (.int .i64 B00) := g0.out.cell 0
    have qg0_1 : w14.cell? ⟨w8.heap.size, 1, none⟩ = some (.int .i64 B10) := g0.out.cell 1
    have qg0_2 : w14.cell? ⟨w8.heap.size, 2, none⟩ = some (.int .i64 B20) := g0.out.cell 2
    have qg0_3 : w14.cell? ⟨w8.heap.size, 3, none⟩ = some (.int .i64 B30) := g0.out.cell 3
    have qg0_4 : w14.cell? ⟨w8.heap.size, 4, none⟩ = some (.int .i64 B40) := g0.out.cell 4
    have qg0_5 : w14.cell? ⟨w8.heap.size, 5, none⟩ = some (.slice C1 Y0.length e1) := g0.out.cell 5
    have qg0_l := g0.out.lt
    have qw0_0 : w14.cell? ⟨w5.heap.size, 0, none⟩ = some (.int .i64 B00) := w0.out.cell 0
    have qw0_1 : w14.cell? ⟨w5.heap.size, 1, none⟩ = some (.int .i64 B10) := w0.out.cell 1
    have qw0_2 : w14.cell? ⟨w5.heap.size, 2, none⟩ = some (.int .i64 B20) := w0.out.cell 2
    have qw0_3 : w14.cell? ⟨w5.heap.size, 3, none⟩ = some (.int .i64 B30) := w0.out.cell 3
    have qw0_4 : w14.cell? ⟨w5.heap.size, 4, none⟩ = some (.int .i64 B40) := w0.out.cell 4
    have qw0_5 : w14.cell? ⟨w5.heap.size, 5, none⟩ = some (.slice C0 Y0.length e0) := w0.out.cell 5
    have qw0_l := w0.out.lt
    go_wp2_with fail
    clear qg0_0 qg0_1 qg0_2 qg0_3 qg0_4 qg0_5 qg0_l qw0_0 qw0_1 qw0_2 qw0_3 qw0_4 qw0_5 qw0_l
    refine (eqTask_same _ _ _ _ _ _ _ _ _ Y0 _ (Rd.of_own R1.out rfl) (Rd.of_own R0.out rfl)).mono ?_; rintro e w15 ⟨rfl, hb15⟩
    replace bx := Lib.hid (bx.out.on (hb15))
    replace R0 := Lib.hid (own_below R0.out (hb15))
    replace w0 := Lib.hid (w0.out.on (hb15))
    replace R1 := Lib.hid (own_below R1.out (hb15))
    replace g0 := Lib.hid (g0.out.on (hb15))
    have sz15 := Lib.hid (show w14.heap.size + 0 ≤ w15.heap.size by have := hb15.size; (try simp only [World.size_alloc] at this); omega)
    have Hb15 := Lib.hid (bthen (Hb14.out) hb15)
    clear hb15
    have qg0_0 : w15.cell? ⟨w8.heap.size, 0, none⟩ = some (.int .i64 B00) := g0.out.cell 0
    have qg0_1 : w15.cell? ⟨w8.heap.size, 1, none⟩ = some (.int .i64 B10) := g0.out.cell 1
    have qg0_2 : w15.cell? ⟨w8.heap.size, 2, none⟩ = some (.int .i64 B20) := g0.out.cell 2
    have qg0_3 : w15.cell? ⟨w8.heap.size, 3, none⟩ = some (.int .i64 B30) := g0.out.cell 3
    have qg0_4 : w15.cell? ⟨w8.heap.size, 4, none⟩ = some (.int .i64 B40) := g0.out.cell 4
    have qg0_5 : w15.cell? ⟨w8.heap.size, 5, none⟩ = some (.slice C1 Y0.length e1) := g0.out.cell 5
    have qg0_l := g0.out.lt
    go_wp2_with fail
    clear qg0_0 qg0_1 qg0_2 qg0_3 qg0_4 qg0_5 qg0_l
    refine (markTask_any _ _ _ _ _ _ _ _ _ 1 _ _ R1.out (by omega) (by omega) (by omega)).mono ?_; rintro e w16 ⟨rfl, om, hg⟩
    replace bx := Lib.hid (show Blk w16 _ _ _ from (hg.block _ bx.out.lt (by intro h2; have g2 := GR1.out _ h2.symm; have zsz1 := sz1.out; have zsz2 := sz2.out; have zsz3 := sz3.out; have zsz4 := sz4.out; have zsz5 := sz5.out; have zsz6 := sz6.out; have zsz7 := sz7.out; have zsz8 := sz8.out; have zsz9 := sz9.out; have zsz10 := sz10.out; have zsz11 := sz11.out; have zsz12 := sz12.out; have zsz13 := sz13.out; have zsz14 := sz14.out; have zsz15 := sz15.out; (try simp only [World.size_alloc] at g2); omega)).trans bx.out)
    replace R0 := Lib.hid (World.ownsRow.kept R0.out hg (own_apart (by intro k h1 h2; have g1 := GR0.out k h1; have g2 := GR1.out k h2; have zsz1 := sz1.out; have zsz2 := sz2.out; have zsz3 := sz3.out; have zsz4 := sz4.out; have zsz5 := sz5.out; have zsz6 := sz6.out; have zsz7 := sz7.out; have zsz8 := sz8.out; have zsz9 := sz9.out; have zsz10 := sz10.out; have zsz11 := sz11.out; have zsz12 := sz12.out; have zsz13 := sz13.out; have zsz14 := sz14.out; have zsz15 := sz15.out; (try simp only [World.size_alloc] at g1 g2); omega)))
    replace w0 := Lib.hid (show Blk w16 _ _ _ from (hg.block _ w0.out.lt (by intro h2; have g2 := GR1.out _ h2.symm; have zsz1 := sz1.out; have zsz2 := sz2.out; have zsz3 := sz3.out; have zsz4 := sz4.out; have zsz5 := sz5.out; have zsz6 := sz6.out; have zsz7 := sz7.out; have zsz8 := sz8.out; have zsz9 := sz9.out; have zsz10 := sz10.out; have zsz11 := sz11.out; have zsz12 := sz12.out; have zsz13 := sz13.out; have zsz14 := sz14.out; have zsz15 := sz15.out; (try simp only [World.size_alloc] at g2); omega)).trans w0.out)
    replace g0 := Lib.hid (show Blk w16 _ _ _ from (hg.block _ g0.out.lt (by intro h2; have g2 := GR1.out _ h2.symm; have zsz1 := sz1.out; have zsz2 := sz2.out; have zsz3 := sz3.out; have zsz4 := sz4.out; have zsz5 := sz5.out; have zsz6 := sz6.out; have zsz7 := sz7.out; have zsz8 := sz8.out; have zsz9 := sz9.out; have zsz10 := sz10.out; have zsz11 := sz11.out; have zsz12 := sz12.out; have zsz13 := sz13.out; have zsz14 := sz14.out; have zsz15 := sz15.out; (try simp only [World.size_alloc] at g2); omega)).trans g0.out)
    have sz16 := Lib.hid (show w15.heap.size + 0 ≤ w16.heap.size by have := hg.size; omega)
    have Hb16 := Lib.hid (Below.grown Hb15.out hg Hb15.out.size (fun k h2 => by have g2 := GR1.out k h2; have zsz1 := sz1.out; have zsz2 := sz2.out; have zsz3 := sz3.out; have zsz4 := sz4.out; have zsz5 := sz5.out; have zsz6 := sz6.out; have zsz7 := sz7.out; have zsz8 := sz8.out; have zsz9 := sz9.out; have zsz10 := sz10.out; have zsz11 := sz11.out; have zsz12 := sz12.out; have zsz13 := sz13.out; have zsz14 := sz14.out; have zsz15 := sz15.out; have zsz16 := sz16.out; (try simp only [World.size_alloc] at g2); omega))
    replace R1 := Lib.hid om
    clear om hg
    obtain ⟨K2, HKK2⟩ : ∃ K : Int, (1 : Int) + ((Y0.length * 3 : Nat) : Int) = K := ⟨_, rfl⟩
    rw [HKK2]
    have HkK2 := Lib.hid HKK2
    have hKK2 : (0 : Int) ≤ K2 := by omega
    have hUK2 : K2 ≤ 16777216 := by omega
    clear HKK2
    have qg0_0 : w16.cell? ⟨w8.heap.size, 0, none⟩ = some (.int .i64 B00) := g0.out.cell 0
    have qg0_1 : w16.cell? ⟨w8.heap.size, 1, none⟩ = some (.int .i64 B10) := g0.out.cell 1
    have qg0_2 : w16.cell? ⟨w8.heap.size, 2, none⟩ = some (.int .i64 B20) := g0.out.cell 2
    have qg0_3 : w16.cell? ⟨w8.heap.size, 3, none⟩ = some (.int .i64 B30) := g0.out.cell 3
    have qg0_4 : w16.cell? ⟨w8.heap.size, 4, none⟩ = some (.int .i64 B40) := g0.out.cell 4
    have qg0_5 : w16.cell? ⟨w8.heap.size, 5, none⟩ = some (.slice C1 Y0.length e1) := g0.out.cell 5
    have qg0_l := g0.out.lt
    go_wp2_with fail
    clear qg0_0 qg0_1 qg0_2 qg0_3 qg0_4 qg0_5 qg0_l
    refine (heldTask_any _ _ _ _ _ _ _ _ 1 _ _ R1.out (by omega) (by omega) (by omega)).mono ?_; rintro e w17 ⟨rfl, hb17⟩
    replace bx := Lib.hid (bx.out.on (hb17))
    replace R0 := Lib.hid (own_below R0.out (hb17))
    replace w0 := Lib.hid (w0.out.on (hb17))
    replace R1 := Lib.hid (own_below R1.out (hb17))
    replace g0 := Lib.hid (g0.out.on (hb17))
    have sz17 := Lib.hid (show w16.heap.size + 0 ≤ w17.heap.size by have := hb17.size; (try simp only [World.size_alloc] at this); omega)
    have Hb17 := Lib.hid (bthen (Hb16.out) hb17)
    clear hb17
    rw [HkK2.out]
    have qbx_0 : w17.cell? ⟨w.heap.size, 0, none⟩ = some (.int .i64 a) := bx.out.cell 0
    have qbx_1 : w17.cell? ⟨w.heap.size, 1, none⟩ = some (.int .i64 b) := bx.out.cell 1
    have qbx_2 : w17.cell? ⟨w.heap.size, 2, none⟩ = some (.int .i64 m) := bx.out.cell 2
    have qbx_3 : w17.cell? ⟨w.heap.size, 3, none⟩ = some (.int .i64 d) := bx.out.cell 3
    have qbx_4 : w17.cell? ⟨w.heap.size, 4, none⟩ = some (.int .i64 t) := bx.out.cell 4
    have qbx_5 : w17.cell? ⟨w.heap.size, 5, none⟩ = some (.slice A fs.length c) := bx.out.cell 5
    have qbx_l := bx.out.lt
    go_wp2_with fail
    clear qbx_0 qbx_1 qbx_2 qbx_3 qbx_4 qbx_5 qbx_l
    refine (toTask_any a b m d t A c fs _ (Hr.out.on (Hb17.out)) hl).mono ?_; rintro e w18 ⟨⟨Ay, cy, rfl, hoy⟩, hb18⟩
    have Oy := Lib.hid hoy
    have GOy := Lib.hid (World.ownsRow.lt hoy)
    clear hoy
    replace bx := Lib.hid (bx.out.on (hb18))
    replace R0 := Lib.hid (own_below R0.out (hb18))
    replace w0 := Lib.hid (w0.out.on (hb18))
    replace R1 := Lib.hid (own_below R1.out (hb18))
    replace g0 := Lib.hid (g0.out.on (hb18))
    have sz18 := Lib.hid (show w17.heap.size + 0 ≤ w18.heap.size by have := hb18.size; (try simp only [World.size_alloc] at this); omega)
    have Hb18 := Lib.hid (bthen (Hb17.out) hb18)
    clear hb18
    go_wp2_with fail
    refine (toIntSS_any _ R _ (Hu.out.on (Hb18.out)) hRl hRt).mono ?_; rintro e w19 ⟨⟨vy, vsy, rfl, hny⟩, hb19⟩
    have Ny := Lib.hid hny; clear hny
    replace bx := Lib.hid (bx.out.on (hb19))
    replace R0 := Lib.hid (own_below R0.out (hb19))
    replace w0 := Lib.hid (w0.out.on (hb19))
    replace R1 := Lib.hid (own_below R1.out (hb19))
    replace g0 := Lib.hid (g0.out.on (hb19))
    replace Oy := Lib.hid (own_below Oy.out (hb19))
    have sz19 := Lib.hid (show w18.heap.size + 0 ≤ w19.heap.size by have := hb19.size; (try simp only [World.size_alloc] at this); omega)
    have Hb19 := Lib.hid (bthen (Hb18.out) hb19)
    clear hb19
    obtain ⟨Dy, qy, rfl, -, -⟩ := nrd_form (NRd.of_own Ny.out)
    go_wp2_with fail
    refine (implJoinR_any a b m d t _ _ fs R _ (Rd.of_own Oy.out rfl) (NRd.of_own Ny.out)).mono ?_; rintro e w20 ⟨⟨B02, B12, B22, B32, B42, Y2, k2, v2, rfl, hy2, ho2⟩, hb20⟩
    obtain ⟨rfl, rfl, rfl, rfl, rfl, rfl, rfl⟩ : B00 = B02 ∧ B10 = B12 ∧ B20 = B22 ∧ B30 = B32 ∧ B40 = B42 ∧ Y0 = Y2 ∧ k0 = k2 := by have h := Hy.out.symm.trans hy2; simpa using h
    clear hy2
    obtain ⟨C2, e2, rfl, -, -, -⟩ := Rd.of_own (S := ptS) ho2 rfl
    have R2 := Lib.hid ho2
    have GR2 := Lib.hid (World.ownsRow.lt ho2)
    clear ho2
    replace bx := Lib.hid (bx.out.on (hb20))
    replace R0 := Lib.hid (own_below R0.out (hb20))
    replace w0 := Lib.hid (w0.out.on (hb20))
    replace R1 := Lib.hid (own_below R1.out (hb20))
    replace g0 := Lib.hid (g0.out.on (hb20))
    replace Oy := Lib.hid (own_below Oy.out (hb20))
    replace Ny := Lib.hid (Ny.out.on (hb20))
    have sz20 := Lib.hid (show w19.heap.size + 0 ≤ w20.heap.size by have := hb20.size; (try simp only [World.size_alloc] at this); omega)
    have Hb20 := Lib.hid (bthen (Hb19.out) hb20)
    clear hb20
    clear Oy
    clear Ny
    have qw0_0 : w20.cell? ⟨w5.heap.size, 0, none⟩ = some (.int .i64 B00) := w0.out.cell 0
    have qw0_1 : w20.cell? ⟨w5.heap.size, 1, none⟩ = some (.int .i64 B10) := w0.out.cell 1
    have qw0_2 : w20.cell? ⟨w5.heap.size, 2, none⟩ = some (.int .i64 B20) := w0.out.cell 2
    have qw0_3 : w20.cell? ⟨w5.heap.size, 3, none⟩ = some (.int .i64 B30) := w0.out.cell 3
    have qw0_4 : w20.cell? ⟨w5.heap.size, 4, none⟩ = some (.int .i64 B40) := w0.out.cell 4
    have qw0_5 : w20.cell? ⟨w5.heap.size, 5, none⟩ = some (.slice C0 Y0.length e0) := w0.out.cell 5
    have qw0_l := w0.out.lt
    go_wp2_with fail
    clear qw0_0 qw0_1 qw0_2 qw0_3 qw0_4 qw0_5 qw0_l
    refine (eqTask_same _ _ _ _ _ _ _ _ _ Y0 _ ((Rd.of_own R2.out rfl).on (bal (Below.refl _ _) _)) ((Rd.of_own R0.out rfl).on (bal (Below.refl _ _) _))).mono ?_; rintro e w21 ⟨rfl, hb21⟩
    replace bx := Lib.hid (bx.out.on (bthen (bal (Below.refl _ _) _) hb21))
    replace R0 := Lib.hid (own_below R0.out (bthen (bal (Below.refl _ _) _) hb21))
    replace w0 := Lib.hid (w0.out.on (bthen (bal (Below.refl _ _) _) hb21))
    replace R1 := Lib.hid (own_below R1.out (bthen (bal (Below.refl _ _) _) hb21))
    replace g0 := Lib.hid (g0.out.on (bthen (bal (Below.refl _ _) _) hb21))
    replace R2 := Lib.hid (own_below R2.out (bthen (bal (Below.refl _ _) _) hb21))
    have h0 := Lib.hid ((Blk.new w20 33 #[.int .i64 B00, .int .i64 B10, .int .i64 B20, .int .i64 B30, .int .i64 B40, .slice C2 Y0.length e2]).on hb21)
    have sz21 := Lib.hid (show w20.heap.size + 1 ≤ w21.heap.size by have := hb21.size; (try simp only [World.size_alloc] at this); omega)
    have Hb21 := Lib.hid (bthen (bal (Hb20.out) _) hb21)
    clear hb21
    have qg0_0 : w21.cell? ⟨w8.heap.size, 0, none⟩ = some (.int .i64 B00) := g0.out.cell 0
    have qg0_1 : w21.cell? ⟨w8.heap.size, 1, none⟩ = some (.int .i64 B10) := g0.out.cell 1
    have qg0_2 : w21.cell? ⟨w8.heap.size, 2, none⟩ = some (.int .i64 B20) := g0.out.cell 2
    have qg0_3 : w21.cell? ⟨w8.heap.size, 3, none⟩ = some (.int .i64 B30) := g0.out.cell 3
    have qg0_4 : w21.cell? ⟨w8.heap.size, 4, none⟩ = some (.int .i64 B40) := g0.out.cell 4
    have qg0_5 : w21.cell? ⟨w8.heap.size, 5, none⟩ = some (.slice C1 Y0.length e1) := g0.out.cell 5
    have qg0_l := g0.out.lt
    go_wp2_with fail
    clear qg0_0 qg0_1 qg0_2 qg0_3 qg0_4 qg0_5 qg0_l
    refine (heldTask_any _ _ _ _ _ _ _ _ 1 _ _ R1.out (by omega) (by omega) (by omega)).mono ?_; rintro e w22 ⟨rfl, hb22⟩
    replace bx := Lib.hid (bx.out.on (hb22))
    replace R0 := Lib.hid (own_below R0.out (hb22))
    replace w0 := Lib.hid (w0.out.on (hb22))
    replace R1 := Lib.hid (own_below R1.out (hb22))
    replace g0 := Lib.hid (g0.out.on (hb22))
    replace R2 := Lib.hid (own_below R2.out (hb22))
    replace h0 := Lib.hid (h0.out.on (hb22))
    have sz22 := Lib.hid (show w21.heap.size + 0 ≤ w22.heap.size by have := hb22.size; (try simp only [World.size_alloc] at this); omega)
    have Hb22 := Lib.hid (bthen (Hb21.out) hb22)
    clear hb22
    rw [HkK2.out]
    go_wp2
    go_ret
    exact ⟨rfl, Hb22.out⟩
  · go_enter Try.func3, Try.ntmps3
    go_wp2_with fail
    refine (szTask_any a b m d t A fs.length c 1048576 _ (by omega) (by omega) (by omega)).mono ?_; rintro e w1 ⟨rfl, hb1⟩
    rw [szI_neg (by omega)]
    go_wp2
    go_ret
    exact ⟨rfl, bthen (bal (Below.refl _ _) _) hb1⟩

set_option maxRecDepth 100000 in
theorem fnExactJoinRanges_lifted (os : Os) (started : os.Started) (H : Type) (enc : TypeId × Value → H) :
    ReturnsInHanded {} Try.checked os 3 .any (Rows.fnExactJoinRangesSpec.pre6 enc Try.prog Try.f3 Rows.fnExactJoinRangesRow.domain false) (Rows.fnExactJoinRangesSpec.post enc Try.prog Try.f3 false true false false) := by
  refine returnsInHanded_of_change (C := Try.checked) own_knob started (by kernel_rfl) Try.func3
    (ChangeSpec.witness6 (enc := enc) (C := Try.checked) false ⟨#[], #[.agg #[.int .i64 0, .int .i64 0, .int .i64 0, .int .i64 0, .int .i64 0, .slice none 0 0], .slice none 0 0], []⟩ 8 (by kernel_rfl) (by kernel_rfl) (by kernel_rfl) (by kernel_rfl)) ?_
  intro W base args ds gs before hval0 hW _ _
  have hval : ∀ (j : Nat) t v, Try.f3.params[j]? = some t → args[j]? = some v → Value.okWide Try.prog W .any base t v := hval0
  have hW' := hW
  obtain ⟨p, q, hA0, hV, rfl, hfz, hnd⟩ := hW
  have hA : DataW.TrodAll enc Try.prog W 0 (fun _ => true) true Try.f3.params.toList args.toList ds p := hA0
  rw [Try.params3] at hA hval
  obtain ⟨v0, v1, d0, d1, p0, p1, rfl, rfl, rfl, h0, h1⟩ := trodAll_two hA
  obtain ⟨rfl, rfl⟩ := trodVars_none hV
  simp only [List.append_nil] at hW'
  have hlt := hW'.lt
  have hlt0 : ∀ x ∈ p0, x.block < W.heap.size := fun x hx => hlt x (by simp [hx])
  have hlt1 : ∀ x ∈ p1, x.block < W.heap.size := fun x hx => hlt x (by simp [hx])
  have k0 := h0
  obtain ⟨ns0, u0, es0, hn0, rfl, hwf0, hr0⟩ := open_ints_tail ptS ptMk ptMk_cell Try.underlying26 4 5 (by kernel_rfl) (by kernel_rfl) (by kernel_rfl) Try.underlying24 (by decide) (by kernel_rfl) (by kernel_rfl) (hval 0 26 v0 rfl rfl) h0
  obtain ⟨x0a, x0b, x0c, x0d, x0e, rfl⟩ := list5 hn0
  have hr09 := hr0
  obtain ⟨A0, c0, rfl, -, -, -⟩ := hr09
  have k1 := h1
  obtain ⟨es1, hr1⟩ := open_ints2 Try.underlying27 Try.underlying44 (by kernel_rfl) (by kernel_rfl) (by kernel_rfl) (hval 1 27 v1 rfl rfl) h1
  refine (fnExactJoinRanges_walk x0a x0b x0c x0d x0e A0 c0 es0 v1 es1 W hr0 hr1).mono fun e W' ⟨he, hb⟩ => ?_
  subst he
  exact ⟨_, rfl, post_below hW' (trodAll_mk1 (shut_bool Try.underlying4 true)) (trodAll_mk2 (WideElems.Trod_stays laid_out (by kernel_rfl) (of_decide_eq_true (by kernel_rfl)) k0 (fun x hx => hb.same (hlt0 x hx)) (fun x hx => by simpa using hlt0 x hx)) (WideElems.Trod_stays laid_out (by kernel_rfl) (of_decide_eq_true (by kernel_rfl)) k1 (fun x hx => hb.same (hlt1 x hx)) (fun x hx => by simpa using hlt1 x hx))) rfl (by first | rfl | (simp only [List.append_assoc]; done)) hb⟩

theorem fnExactJoinRanges_holds : Rows.FnExactJoinRangesSaid :=
  OpenClaim.holds_of_wide 3 Try.f3 rfl rfl rfl rfl rfl rfl rfl ⟨rfl, rfl, rfl, rfl, rfl⟩ rfl rfl rfl rfl rfl (by kernel_rfl) Try.func3 (by kernel_rfl)
    (of_decide_eq_true (by kernel_rfl)) (by unfold Func.isWrapper; rw [if_neg (of_decide_eq_false (by kernel_rfl))]; exact ⟨rfl, rfl⟩)
    (fun os started H enc _ => fnExactJoinRanges_lifted os started H enc)

end Go.Proofs.Yticbmpjdcanjkaa
