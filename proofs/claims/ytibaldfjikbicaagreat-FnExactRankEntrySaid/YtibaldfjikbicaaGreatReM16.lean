/- Own texts put together: Ranks of the found and of the Selmer groups, and the bounds: the walks of both sides; The bounds of the rank: the walks of both sides; The plain model of a two-curve: the walks of both sides; RankEntry: the walks of both sides; Squares modulo prime powers pass the test; A rational point of a quartic: it is possible at every level, and real; Points give classes of the Selmer group; squarefree divisors are all listed; The found groups lie in the Selmer groups; ranks of lists that hold some classes; Both Selmer groups together have rank at least two; Both Selmer groups together have rank at least two: the cases; Both Selmer groups together have rank at least two: the other cases; The program's entry is the reference's: the plain law of RankEntry; Own lemmas that know no program: arguments that are ints, structs of ints, slices of structs of ints, opened to values and cells; a law's last step; What the frames of the laws share. Conditions: those of each theorem. -/
import Derived.Test.YtibaldfjikbicaaGreatReM15
import Derived.Test.YtibaldfjikbicaaGreatReM1
import Derived.BigRegion
import Derived.ProofKit
import Derived.Deep.Slices
import Derived.Test.YtibaldfjikbicaaGreatRows
namespace Go.Proofs.YtibaldfjikbicaaGreat
section
open Go Go.RowKit Go.Lib

theorem gpI_cls : ∀ {l Y Z : List Int}, (∀ y ∈ Y, clB y = true) → gpI l Y = some Z → ∀ z ∈ Z, clB z = true
  | [], Y, Z, hY, h => by
    obtain rfl := Option.some.inj h
    exact hY
  | d :: l, Y, Z, hY, h => by
    unfold gpI at h
    split at h
    · exact gpI_cls hY h
    · split at h
      · rename_i h2
        split at h
        · cases h
        · refine gpI_cls (fun y hy => ?_) h
          rcases List.mem_append.1 hy with hy | hy
          · exact hY y hy
          · exact pd_cl (fun e he => List.all_eq_true.1 h2 e he) y hy
      · cases h
theorem gp_gr {l X : List Int} (hl : ∀ d ∈ l, Sqf d) (h : gpV l = some X) : grB X = true := by
  have hg := gp_good hl h
  rw [gp_both hl, Option.map_eq_some_iff] at h
  obtain ⟨Z, hZ, rfl⟩ := h
  obtain ⟨g1, -, -⟩ := (gp_eq (X := [1]) hl (List.pairwise_singleton _ _) GG.start (fun _ => Iff.rfl)).2 Z hZ
  refine gr_iff.2 ⟨⟨?_, hg.len⟩, hg.one, fun d hd => ?_, hg.inc, fun d hd e he => ?_⟩
  · exact List.length_pos_of_mem hg.one
  · exact gpI_cls (fun y hy => by rw [List.mem_singleton.1 hy]; exact cl_one) hZ d (mem_srI.1 hd)
  · exact mem_srI.2 (g1.cl d (mem_srI.1 hd) e (mem_srI.1 he))
theorem fg_gr {a b : Int} {s : Bool} {M : Nat} (h : twB a b = true) (hok : (fgV a b s M).2 = true) : grB (fgV a b s M).1 = true := by
  unfold fgV at *
  cases hg : gpV (fgL a b s M) with
  | none => rw [hg] at hok; exact Bool.noConfusion hok
  | some X => exact gp_gr (fun d hd => fg_sqf h hd) hg
theorem fg_rk {a b : Int} {s : Bool} {M : Nat} (h : twB a b = true) (hok : (fgV a b s M).2 = true) : rkV (fgV a b s M).1 = (((lgV (fgV a b s M).1.length : Nat) : Int), true) := rk_yes (fg_gr h hok)
theorem fg_64 {a b : Int} {s : Bool} {M : Nat} (h : twB a b = true) : (fgV a b s M).1.length ≤ 64 := by
  cases hok : (fgV a b s M).2
  · unfold fgV at *
    cases hg : gpV (fgL a b s M) with
    | none => exact Nat.zero_le _
    | some X => rw [hg] at hok; exact Bool.noConfusion hok
  · exact (gr_iff.1 (fg_gr h hok)).len.2
theorem sm_len {a b : Int} {s : Bool} (h : twB a b = true) : (smV a b s).1.length ≤ 2000000 := by
  have h1 := dv_len (sd_bd h s).2.2 (by have := (sd_bd h s).2.1; omega)
  unfold smV
  split
  · exact Nat.le_trans (List.length_filter_le _ _) h1
  · exact Nat.zero_le _
def lgI (V : List Int × Bool) : Int := ((lgV V.1.length : Nat) : Int)
/-- The ranks of the found groups. -/
def frV (a b : Int) (M : Nat) : Int × Int × Bool := if (fgV a b false M).2 = true ∧ (fgV a b true M).2 = true then (lgI (fgV a b false M), lgI (fgV a b true M), true) else (0, 0, false)
/-- The ranks of the Selmer groups. -/
def srV (a b : Int) : Int × Int × Bool := if ((smV a b false).2 = true ∧ (smV a b true).2 = true) ∧ ((rkV (smV a b false).1).2 = true ∧ (rkV (smV a b true).1).2 = true) then ((rkV (smV a b false).1).1, (rkV (smV a b true).1).1, true) else (0, 0, false)
theorem lgI_bd {a b : Int} {s : Bool} {M : Nat} (h : twB a b = true) : 0 ≤ lgI (fgV a b s M) ∧ lgI (fgV a b s M) ≤ 6 := by
  have := lg_64 (fg_64 (s := s) (M := M) h)
  unfold lgI
  omega
theorem rk_bd (l : List Int) : 0 ≤ (rkV l).1 ∧ (rkV l).1 ≤ 6 := by
  cases hg : grB l
  · rw [rk_no hg]; exact ⟨Int.le_refl _, by show (0 : Int) ≤ 6; omega⟩
  · rw [rk_yes hg]
    have := lg_64 (gr_iff.1 hg).len.2
    show (0 : Int) ≤ ((lgV l.length : Nat) : Int) ∧ ((lgV l.length : Nat) : Int) ≤ 6
    omega
theorem fr_bd {a b : Int} {M : Nat} (h : twB a b = true) : (0 ≤ (frV a b M).1 ∧ (frV a b M).1 ≤ 6) ∧ (0 ≤ (frV a b M).2.1 ∧ (frV a b M).2.1 ≤ 6) := by
  unfold frV
  split
  · exact ⟨lgI_bd h, lgI_bd h⟩
  · exact ⟨⟨Int.le_refl _, by show (0 : Int) ≤ 6; omega⟩, ⟨Int.le_refl _, by show (0 : Int) ≤ 6; omega⟩⟩
theorem sr_bd {a b : Int} : (0 ≤ (srV a b).1 ∧ (srV a b).1 ≤ 6) ∧ (0 ≤ (srV a b).2.1 ∧ (srV a b).2.1 ≤ 6) := by
  unfold srV
  split
  · exact ⟨rk_bd _, rk_bd _⟩
  · exact ⟨⟨Int.le_refl _, by show (0 : Int) ≤ 6; omega⟩, ⟨Int.le_refl _, by show (0 : Int) ≤ 6; omega⟩⟩

set_option linter.unusedSimpArgs false in
set_option linter.unusedVariables false in
set_option maxRecDepth 8000 in
set_option maxHeartbeats 8000000 in
theorem rkFound_any (a b : Int) (M : Nat) (w : World) (h : twB a b = true) (hM : M ≤ 60) :
    Calls Tryz.prog 46 #[.agg #[.int .i64 a, .int .i64 b], .int .i64 (M : Int)] w fun e w' => e = .returned (.tuple #[.int .i64 (frV a b M).1, .int .i64 (frV a b M).2.1, .bool (frV a b M).2.2]) ∧ Below w.heap.size w w' := by
  have Hg0 := Lib.hid (fun w9 => rkGroup_any a b false M w9 h hM)
  have Hl0 := Lib.hid (fg_64 (s := false) (M := M) h)
  have Hk0 := Lib.hid (fun hk => fg_rk (s := false) (M := M) h hk)
  have Hg1 := Lib.hid (fun w9 => rkGroup_any a b true M w9 h hM)
  have Hl1 := Lib.hid (fg_64 (s := true) (M := M) h)
  have Hk1 := Lib.hid (fun hk => fg_rk (s := true) (M := M) h hk)
  have HY := Lib.hid (fun (h1 : (fgV a b false M).2 = true) (h2 : (fgV a b true M).2 = true) => show frV a b M = (lgI (fgV a b false M), lgI (fgV a b true M), true) from if_pos ⟨h1, h2⟩)
  have HN := Lib.hid (fun (hx : ¬ ((fgV a b false M).2 = true ∧ (fgV a b true M).2 = true)) => show frV a b M = (0, 0, false) from if_neg hx)
  unfold lgI at HY
  clear h
  generalize frV a b M = V at *
  generalize fgV a b false M = U0 at *
  generalize fgV a b true M = U1 at *
  obtain ⟨X0, k0⟩ := U0
  obtain ⟨X1, k1⟩ := U1
  dsimp only at *
  have Hr0 := Lib.hid (fun A c w9 h9 => rankS_any A c X0 w9 h9 (by have := Hl0.out; omega))
  have Hr1 := Lib.hid (fun A c w9 h9 => rankS_any A c X1 w9 h9 (by have := Hl1.out; omega))
  cases k0
  · have HV := Lib.hid (HN.out (by simp))
    go_enter Tryz.func46, Tryz.ntmps46
    go_wp2_with fail
    refine (Hg0.out _).mono ?_; rintro e w1 ⟨⟨A1, c1, rfl, hr1⟩, hb1⟩
    have S1 := Lib.hid (show w.heap.size + 1 ≤ w1.heap.size by have h9 := hb1.size; (try simp only [World.size_alloc, World.size_setCell, World.size_drew] at h9); omega)
    have NTB := Lib.hid ((Blk.new w 29 #[.int .i64 a, .int .i64 b]).on hb1)
    have TB := NTB; clear NTB
    have Hb1 := Lib.hid (bthen (bal (Below.refl w.heap.size w) (Obj.cells #[.int .i64 a, .int .i64 b] 29)) hb1)
    clear hb1
    have HR1 := Lib.hid hr1; clear hr1
    have qTB0 : w1.cell? ⟨w.heap.size, 0, none⟩ = some (.int .i64 a) := TB.out.cell 0
    have qTB1 : w1.cell? ⟨w.heap.size, 1, none⟩ = some (.int .i64 b) := TB.out.cell 1
    have qTBl := TB.out.lt
    go_wp2_with fail
    clear qTB0 qTB1 qTBl
    refine (Hg1.out _).mono ?_; rintro e w2 ⟨⟨A2, c2, rfl, hr2⟩, hb2⟩
    have S2 := Lib.hid (show w1.heap.size + 0 ≤ w2.heap.size by have h9 := hb2.size; (try simp only [World.size_alloc, World.size_setCell, World.size_drew] at h9); omega)
    have Z2 := Lib.hid (And.intro S1.out S2.out)
    have NTB := Lib.hid (TB.out.on hb2)
    have TB := NTB; clear NTB
    replace HR1 := Lib.hid (HR1.out.on (bthen ((Below.refl _ _)) hb2))
    have Hb2 := Lib.hid (bthen Hb1.out hb2)
    clear hb2
    have HR2 := Lib.hid hr2; clear hr2
    go_wp2
    exact bodyPost_ret (v := .tuple #[.int .i64 0, .int .i64 0, .bool false]) (by simp [results, Tryz.results46, go_sem]) rfl ⟨by rw [HV.out], Hb2.out⟩
  cases k1
  · have HV := Lib.hid (HN.out (by simp))
    go_enter Tryz.func46, Tryz.ntmps46
    go_wp2_with fail
    refine (Hg0.out _).mono ?_; rintro e w3 ⟨⟨A1, c1, rfl, hr1⟩, hb3⟩
    have S3 := Lib.hid (show w.heap.size + 1 ≤ w3.heap.size by have h9 := hb3.size; (try simp only [World.size_alloc, World.size_setCell, World.size_drew] at h9); omega)
    have NTB := Lib.hid ((Blk.new w 29 #[.int .i64 a, .int .i64 b]).on hb3)
    have TB := NTB; clear NTB
    have Hb3 := Lib.hid (bthen (bal (Below.refl w.heap.size w) (Obj.cells #[.int .i64 a, .int .i64 b] 29)) hb3)
    clear hb3
    have HR1 := Lib.hid hr1; clear hr1
    have qTB0 : w3.cell? ⟨w.heap.size, 0, none⟩ = some (.int .i64 a) := TB.out.cell 0
    have qTB1 : w3.cell? ⟨w.heap.size, 1, none⟩ = some (.int .i64 b) := TB.out.cell 1
    have qTBl := TB.out.lt
    go_wp2_with fail
    clear qTB0 qTB1 qTBl
    refine (Hg1.out _).mono ?_; rintro e w4 ⟨⟨A2, c2, rfl, hr2⟩, hb4⟩
    have S4 := Lib.hid (show w3.heap.size + 0 ≤ w4.heap.size by have h9 := hb4.size; (try simp only [World.size_alloc, World.size_setCell, World.size_drew] at h9); omega)
    have Z4 := Lib.hid (And.intro S3.out S4.out)
    have NTB := Lib.hid (TB.out.on hb4)
    have TB := NTB; clear NTB
    replace HR1 := Lib.hid (HR1.out.on (bthen ((Below.refl _ _)) hb4))
    have Hb4 := Lib.hid (bthen Hb3.out hb4)
    clear hb4
    have HR2 := Lib.hid hr2; clear hr2
    go_wp2
    exact bodyPost_ret (v := .tuple #[.int .i64 0, .int .i64 0, .bool false]) (by simp [results, Tryz.results46, go_sem]) rfl ⟨by rw [HV.out], Hb4.out⟩
  rw [Hk0.out rfl] at Hr0
  rw [Hk1.out rfl] at Hr1
  have HV := Lib.hid (HY.out rfl rfl)
  generalize ((lgV X0.length : Nat) : Int) = n0 at *
  generalize ((lgV X1.length : Nat) : Int) = n1 at *
  dsimp only at *
  go_enter Tryz.func46, Tryz.ntmps46
  go_wp2_with fail
  refine (Hg0.out _).mono ?_; rintro e w5 ⟨⟨A1, c1, rfl, hr1⟩, hb5⟩
  have S5 := Lib.hid (show w.heap.size + 1 ≤ w5.heap.size by have h9 := hb5.size; (try simp only [World.size_alloc, World.size_setCell, World.size_drew] at h9); omega)
  have NTB := Lib.hid ((Blk.new w 29 #[.int .i64 a, .int .i64 b]).on hb5)
  have TB := NTB; clear NTB
  have Hb5 := Lib.hid (bthen (bal (Below.refl w.heap.size w) (Obj.cells #[.int .i64 a, .int .i64 b] 29)) hb5)
  clear hb5
  have HR1 := Lib.hid hr1; clear hr1
  have qTB0 : w5.cell? ⟨w.heap.size, 0, none⟩ = some (.int .i64 a) := TB.out.cell 0
  have qTB1 : w5.cell? ⟨w.heap.size, 1, none⟩ = some (.int .i64 b) := TB.out.cell 1
  have qTBl := TB.out.lt
  go_wp2_with fail
  clear qTB0 qTB1 qTBl
  refine (Hg1.out _).mono ?_; rintro e w6 ⟨⟨A2, c2, rfl, hr2⟩, hb6⟩
  have S6 := Lib.hid (show w5.heap.size + 0 ≤ w6.heap.size by have h9 := hb6.size; (try simp only [World.size_alloc, World.size_setCell, World.size_drew] at h9); omega)
  have Z6 := Lib.hid (And.intro S5.out S6.out)
  have NTB := Lib.hid (TB.out.on hb6)
  have TB := NTB; clear NTB
  replace HR1 := Lib.hid (HR1.out.on (bthen ((Below.refl _ _)) hb6))
  have Hb6 := Lib.hid (bthen Hb5.out hb6)
  clear hb6
  have HR2 := Lib.hid hr2; clear hr2
  have qTB0 : w6.cell? ⟨w.heap.size, 0, none⟩ = some (.int .i64 a) := TB.out.cell 0
  have qTB1 : w6.cell? ⟨w.heap.size, 1, none⟩ = some (.int .i64 b) := TB.out.cell 1
  have qTBl := TB.out.lt
  go_wp2_with fail
  clear qTB0 qTB1 qTBl
  refine (Hr0.out _ _ _ HR1.out).mono ?_; rintro e w7 ⟨rfl, hb7⟩
  have S7 := Lib.hid (show w6.heap.size + 0 ≤ w7.heap.size by have h9 := hb7.size; (try simp only [World.size_alloc, World.size_setCell, World.size_drew] at h9); omega)
  have Z7 := Lib.hid (And.intro Z6.out S7.out)
  have NTB := Lib.hid (TB.out.on hb7)
  have TB := NTB; clear NTB
  replace HR1 := Lib.hid (HR1.out.on (bthen ((Below.refl _ _)) hb7))
  replace HR2 := Lib.hid (HR2.out.on (bthen ((Below.refl _ _)) hb7))
  have Hb7 := Lib.hid (bthen Hb6.out hb7)
  clear hb7
  have qTB0 : w7.cell? ⟨w.heap.size, 0, none⟩ = some (.int .i64 a) := TB.out.cell 0
  have qTB1 : w7.cell? ⟨w.heap.size, 1, none⟩ = some (.int .i64 b) := TB.out.cell 1
  have qTBl := TB.out.lt
  go_wp2_with fail
  clear qTB0 qTB1 qTBl
  refine (Hr1.out _ _ _ HR2.out).mono ?_; rintro e w8 ⟨rfl, hb8⟩
  have S8 := Lib.hid (show w7.heap.size + 0 ≤ w8.heap.size by have h9 := hb8.size; (try simp only [World.size_alloc, World.size_setCell, World.size_drew] at h9); omega)
  have Z8 := Lib.hid (And.intro Z7.out S8.out)
  have NTB := Lib.hid (TB.out.on hb8)
  have TB := NTB; clear NTB
  replace HR1 := Lib.hid (HR1.out.on (bthen ((Below.refl _ _)) hb8))
  replace HR2 := Lib.hid (HR2.out.on (bthen ((Below.refl _ _)) hb8))
  have Hb8 := Lib.hid (bthen Hb7.out hb8)
  clear hb8
  go_wp2
  exact bodyPost_ret (v := .tuple #[.int .i64 n0, .int .i64 n1, .bool true]) (by simp [results, Tryz.results46, go_sem]) rfl ⟨by rw [HV.out], Hb8.out⟩
set_option linter.unusedSimpArgs false in
set_option linter.unusedVariables false in
set_option maxRecDepth 8000 in
set_option maxHeartbeats 8000000 in
theorem foundRanks_any (a b : Int) (M : Nat) (w : World) (h : twB a b = true) (hM : M ≤ 60) :
    Calls Tryz.prog 48 #[.agg #[.int .i64 a, .int .i64 b], .int .i64 (M : Int)] w fun e w' => e = .returned (.tuple #[.int .i64 (frV a b M).1, .int .i64 (frV a b M).2.1, .bool (frV a b M).2.2]) ∧ Below w.heap.size w w' := by
  have Hg0 := Lib.hid (fun w9 => foundGroup_any a b false M w9 h hM)
  have Hl0 := Lib.hid (fg_64 (s := false) (M := M) h)
  have Hk0 := Lib.hid (fun hk => fg_rk (s := false) (M := M) h hk)
  have Hg1 := Lib.hid (fun w9 => foundGroup_any a b true M w9 h hM)
  have Hl1 := Lib.hid (fg_64 (s := true) (M := M) h)
  have Hk1 := Lib.hid (fun hk => fg_rk (s := true) (M := M) h hk)
  have HY := Lib.hid (fun (h1 : (fgV a b false M).2 = true) (h2 : (fgV a b true M).2 = true) => show frV a b M = (lgI (fgV a b false M), lgI (fgV a b true M), true) from if_pos ⟨h1, h2⟩)
  have HN := Lib.hid (fun (hx : ¬ ((fgV a b false M).2 = true ∧ (fgV a b true M).2 = true)) => show frV a b M = (0, 0, false) from if_neg hx)
  unfold lgI at HY
  clear h
  generalize frV a b M = V at *
  generalize fgV a b false M = U0 at *
  generalize fgV a b true M = U1 at *
  obtain ⟨X0, k0⟩ := U0
  obtain ⟨X1, k1⟩ := U1
  dsimp only at *
  have Hr0 := Lib.hid (fun A c w9 h9 => rankI_any A c X0 w9 h9 (by have := Hl0.out; omega))
  have Hr1 := Lib.hid (fun A c w9 h9 => rankI_any A c X1 w9 h9 (by have := Hl1.out; omega))
  cases k0
  · have HV := Lib.hid (HN.out (by simp))
    go_enter Tryz.func48, Tryz.ntmps48
    go_wp2_with fail
    refine (Hg0.out _).mono ?_; rintro e w1 ⟨⟨A1, c1, rfl, hr1⟩, hb1⟩
    have S1 := Lib.hid (show w.heap.size + 1 ≤ w1.heap.size by have h9 := hb1.size; (try simp only [World.size_alloc, World.size_setCell, World.size_drew] at h9); omega)
    have NTB := Lib.hid ((Blk.new w 29 #[.int .i64 a, .int .i64 b]).on hb1)
    have TB := NTB; clear NTB
    have Hb1 := Lib.hid (bthen (bal (Below.refl w.heap.size w) (Obj.cells #[.int .i64 a, .int .i64 b] 29)) hb1)
    clear hb1
    have HR1 := Lib.hid hr1; clear hr1
    have qTB0 : w1.cell? ⟨w.heap.size, 0, none⟩ = some (.int .i64 a) := TB.out.cell 0
    have qTB1 : w1.cell? ⟨w.heap.size, 1, none⟩ = some (.int .i64 b) := TB.out.cell 1
    have qTBl := TB.out.lt
    go_wp2_with fail
    clear qTB0 qTB1 qTBl
    refine (Hg1.out _).mono ?_; rintro e w2 ⟨⟨A2, c2, rfl, hr2⟩, hb2⟩
    have S2 := Lib.hid (show w1.heap.size + 0 ≤ w2.heap.size by have h9 := hb2.size; (try simp only [World.size_alloc, World.size_setCell, World.size_drew] at h9); omega)
    have Z2 := Lib.hid (And.intro S1.out S2.out)
    have NTB := Lib.hid (TB.out.on hb2)
    have TB := NTB; clear NTB
    replace HR1 := Lib.hid (HR1.out.on (bthen ((Below.refl _ _)) hb2))
    have Hb2 := Lib.hid (bthen Hb1.out hb2)
    clear hb2
    have HR2 := Lib.hid hr2; clear hr2
    go_wp2
    exact bodyPost_ret (v := .tuple #[.int .i64 0, .int .i64 0, .bool false]) (by simp [results, Tryz.results48, go_sem]) rfl ⟨by rw [HV.out], Hb2.out⟩
  cases k1
  · have HV := Lib.hid (HN.out (by simp))
    go_enter Tryz.func48, Tryz.ntmps48
    go_wp2_with fail
    refine (Hg0.out _).mono ?_; rintro e w3 ⟨⟨A1, c1, rfl, hr1⟩, hb3⟩
    have S3 := Lib.hid (show w.heap.size + 1 ≤ w3.heap.size by have h9 := hb3.size; (try simp only [World.size_alloc, World.size_setCell, World.size_drew] at h9); omega)
    have NTB := Lib.hid ((Blk.new w 29 #[.int .i64 a, .int .i64 b]).on hb3)
    have TB := NTB; clear NTB
    have Hb3 := Lib.hid (bthen (bal (Below.refl w.heap.size w) (Obj.cells #[.int .i64 a, .int .i64 b] 29)) hb3)
    clear hb3
    have HR1 := Lib.hid hr1; clear hr1
    have qTB0 : w3.cell? ⟨w.heap.size, 0, none⟩ = some (.int .i64 a) := TB.out.cell 0
    have qTB1 : w3.cell? ⟨w.heap.size, 1, none⟩ = some (.int .i64 b) := TB.out.cell 1
    have qTBl := TB.out.lt
    go_wp2_with fail
    clear qTB0 qTB1 qTBl
    refine (Hg1.out _).mono ?_; rintro e w4 ⟨⟨A2, c2, rfl, hr2⟩, hb4⟩
    have S4 := Lib.hid (show w3.heap.size + 0 ≤ w4.heap.size by have h9 := hb4.size; (try simp only [World.size_alloc, World.size_setCell, World.size_drew] at h9); omega)
    have Z4 := Lib.hid (And.intro S3.out S4.out)
    have NTB := Lib.hid (TB.out.on hb4)
    have TB := NTB; clear NTB
    replace HR1 := Lib.hid (HR1.out.on (bthen ((Below.refl _ _)) hb4))
    have Hb4 := Lib.hid (bthen Hb3.out hb4)
    clear hb4
    have HR2 := Lib.hid hr2; clear hr2
    go_wp2
    exact bodyPost_ret (v := .tuple #[.int .i64 0, .int .i64 0, .bool false]) (by simp [results, Tryz.results48, go_sem]) rfl ⟨by rw [HV.out], Hb4.out⟩
  rw [Hk0.out rfl] at Hr0
  rw [Hk1.out rfl] at Hr1
  have HV := Lib.hid (HY.out rfl rfl)
  generalize ((lgV X0.length : Nat) : Int) = n0 at *
  generalize ((lgV X1.length : Nat) : Int) = n1 at *
  dsimp only at *
  go_enter Tryz.func48, Tryz.ntmps48
  go_wp2_with fail
  refine (Hg0.out _).mono ?_; rintro e w5 ⟨⟨A1, c1, rfl, hr1⟩, hb5⟩
  have S5 := Lib.hid (show w.heap.size + 1 ≤ w5.heap.size by have h9 := hb5.size; (try simp only [World.size_alloc, World.size_setCell, World.size_drew] at h9); omega)
  have NTB := Lib.hid ((Blk.new w 29 #[.int .i64 a, .int .i64 b]).on hb5)
  have TB := NTB; clear NTB
  have Hb5 := Lib.hid (bthen (bal (Below.refl w.heap.size w) (Obj.cells #[.int .i64 a, .int .i64 b] 29)) hb5)
  clear hb5
  have HR1 := Lib.hid hr1; clear hr1
  have qTB0 : w5.cell? ⟨w.heap.size, 0, none⟩ = some (.int .i64 a) := TB.out.cell 0
  have qTB1 : w5.cell? ⟨w.heap.size, 1, none⟩ = some (.int .i64 b) := TB.out.cell 1
  have qTBl := TB.out.lt
  go_wp2_with fail
  clear qTB0 qTB1 qTBl
  refine (Hg1.out _).mono ?_; rintro e w6 ⟨⟨A2, c2, rfl, hr2⟩, hb6⟩
  have S6 := Lib.hid (show w5.heap.size + 0 ≤ w6.heap.size by have h9 := hb6.size; (try simp only [World.size_alloc, World.size_setCell, World.size_drew] at h9); omega)
  have Z6 := Lib.hid (And.intro S5.out S6.out)
  have NTB := Lib.hid (TB.out.on hb6)
  have TB := NTB; clear NTB
  replace HR1 := Lib.hid (HR1.out.on (bthen ((Below.refl _ _)) hb6))
  have Hb6 := Lib.hid (bthen Hb5.out hb6)
  clear hb6
  have HR2 := Lib.hid hr2; clear hr2
  have qTB0 : w6.cell? ⟨w.heap.size, 0, none⟩ = some (.int .i64 a) := TB.out.cell 0
  have qTB1 : w6.cell? ⟨w.heap.size, 1, none⟩ = some (.int .i64 b) := TB.out.cell 1
  have qTBl := TB.out.lt
  go_wp2_with fail
  clear qTB0 qTB1 qTBl
  refine (Hr0.out _ _ _ HR1.out).mono ?_; rintro e w7 ⟨rfl, hb7⟩
  have S7 := Lib.hid (show w6.heap.size + 0 ≤ w7.heap.size by have h9 := hb7.size; (try simp only [World.size_alloc, World.size_setCell, World.size_drew] at h9); omega)
  have Z7 := Lib.hid (And.intro Z6.out S7.out)
  have NTB := Lib.hid (TB.out.on hb7)
  have TB := NTB; clear NTB
  replace HR1 := Lib.hid (HR1.out.on (bthen ((Below.refl _ _)) hb7))
  replace HR2 := Lib.hid (HR2.out.on (bthen ((Below.refl _ _)) hb7))
  have Hb7 := Lib.hid (bthen Hb6.out hb7)
  clear hb7
  have qTB0 : w7.cell? ⟨w.heap.size, 0, none⟩ = some (.int .i64 a) := TB.out.cell 0
  have qTB1 : w7.cell? ⟨w.heap.size, 1, none⟩ = some (.int .i64 b) := TB.out.cell 1
  have qTBl := TB.out.lt
  go_wp2_with fail
  clear qTB0 qTB1 qTBl
  refine (Hr1.out _ _ _ HR2.out).mono ?_; rintro e w8 ⟨rfl, hb8⟩
  have S8 := Lib.hid (show w7.heap.size + 0 ≤ w8.heap.size by have h9 := hb8.size; (try simp only [World.size_alloc, World.size_setCell, World.size_drew] at h9); omega)
  have Z8 := Lib.hid (And.intro Z7.out S8.out)
  have NTB := Lib.hid (TB.out.on hb8)
  have TB := NTB; clear NTB
  replace HR1 := Lib.hid (HR1.out.on (bthen ((Below.refl _ _)) hb8))
  replace HR2 := Lib.hid (HR2.out.on (bthen ((Below.refl _ _)) hb8))
  have Hb8 := Lib.hid (bthen Hb7.out hb8)
  clear hb8
  go_wp2
  exact bodyPost_ret (v := .tuple #[.int .i64 n0, .int .i64 n1, .bool true]) (by simp [results, Tryz.results48, go_sem]) rfl ⟨by rw [HV.out], Hb8.out⟩
set_option linter.unusedSimpArgs false in
set_option linter.unusedVariables false in
set_option maxRecDepth 8000 in
set_option maxHeartbeats 8000000 in
theorem rkSelmer_any (a b : Int) (w : World) (h : twB a b = true) :
    Calls Tryz.prog 71 #[.agg #[.int .i64 a, .int .i64 b]] w fun e w' => e = .returned (.tuple #[.int .i64 (srV a b).1, .int .i64 (srV a b).2.1, .bool (srV a b).2.2]) ∧ Below w.heap.size w w' := by
  have Hg0 := Lib.hid (fun w9 => dsSelmer_any a b false w9 h)
  have Hl0 := Lib.hid (sm_len (s := false) h)
  have Hg1 := Lib.hid (fun w9 => dsSelmer_any a b true w9 h)
  have Hl1 := Lib.hid (sm_len (s := true) h)
  have HY := Lib.hid (fun (h1 : (smV a b false).2 = true) (h2 : (smV a b true).2 = true) (h3 : (rkV (smV a b false).1).2 = true) (h4 : (rkV (smV a b true).1).2 = true) => show srV a b = ((rkV (smV a b false).1).1, (rkV (smV a b true).1).1, true) from if_pos ⟨⟨h1, h2⟩, h3, h4⟩)
  have HN := Lib.hid (fun (hx : ¬ (((smV a b false).2 = true ∧ (smV a b true).2 = true) ∧ ((rkV (smV a b false).1).2 = true ∧ (rkV (smV a b true).1).2 = true))) => show srV a b = (0, 0, false) from if_neg hx)
  clear h
  generalize srV a b = V at *
  generalize smV a b false = U0 at *
  generalize smV a b true = U1 at *
  obtain ⟨X0, k0⟩ := U0
  obtain ⟨X1, k1⟩ := U1
  dsimp only at *
  have Hr0 := Lib.hid (fun A c w9 h9 => rankS_any A c X0 w9 h9 (by have := Hl0.out; omega))
  have Hr1 := Lib.hid (fun A c w9 h9 => rankS_any A c X1 w9 h9 (by have := Hl1.out; omega))
  cases k0
  · have HV := Lib.hid (HN.out (by simp))
    go_enter Tryz.func71, Tryz.ntmps71
    go_wp2_with fail
    refine (Hg0.out _).mono ?_; rintro e w1 ⟨⟨A1, c1, rfl, hr1⟩, hb1⟩
    have S1 := Lib.hid (show w.heap.size + 1 ≤ w1.heap.size by have h9 := hb1.size; (try simp only [World.size_alloc, World.size_setCell, World.size_drew] at h9); omega)
    have NTB := Lib.hid ((Blk.new w 29 #[.int .i64 a, .int .i64 b]).on hb1)
    have TB := NTB; clear NTB
    have Hb1 := Lib.hid (bthen (bal (Below.refl w.heap.size w) (Obj.cells #[.int .i64 a, .int .i64 b] 29)) hb1)
    clear hb1
    have HR1 := Lib.hid hr1; clear hr1
    have qTB0 : w1.cell? ⟨w.heap.size, 0, none⟩ = some (.int .i64 a) := TB.out.cell 0
    have qTB1 : w1.cell? ⟨w.heap.size, 1, none⟩ = some (.int .i64 b) := TB.out.cell 1
    have qTBl := TB.out.lt
    go_wp2_with fail
    clear qTB0 qTB1 qTBl
    refine (Hg1.out _).mono ?_; rintro e w2 ⟨⟨A2, c2, rfl, hr2⟩, hb2⟩
    have S2 := Lib.hid (show w1.heap.size + 0 ≤ w2.heap.size by have h9 := hb2.size; (try simp only [World.size_alloc, World.size_setCell, World.size_drew] at h9); omega)
    have Z2 := Lib.hid (And.intro S1.out S2.out)
    have NTB := Lib.hid (TB.out.on hb2)
    have TB := NTB; clear NTB
    replace HR1 := Lib.hid (HR1.out.on (bthen ((Below.refl _ _)) hb2))
    have Hb2 := Lib.hid (bthen Hb1.out hb2)
    clear hb2
    have HR2 := Lib.hid hr2; clear hr2
    go_wp2
    exact bodyPost_ret (v := .tuple #[.int .i64 0, .int .i64 0, .bool false]) (by simp [results, Tryz.results71, go_sem]) rfl ⟨by rw [HV.out], Hb2.out⟩
  cases k1
  · have HV := Lib.hid (HN.out (by simp))
    go_enter Tryz.func71, Tryz.ntmps71
    go_wp2_with fail
    refine (Hg0.out _).mono ?_; rintro e w3 ⟨⟨A1, c1, rfl, hr1⟩, hb3⟩
    have S3 := Lib.hid (show w.heap.size + 1 ≤ w3.heap.size by have h9 := hb3.size; (try simp only [World.size_alloc, World.size_setCell, World.size_drew] at h9); omega)
    have NTB := Lib.hid ((Blk.new w 29 #[.int .i64 a, .int .i64 b]).on hb3)
    have TB := NTB; clear NTB
    have Hb3 := Lib.hid (bthen (bal (Below.refl w.heap.size w) (Obj.cells #[.int .i64 a, .int .i64 b] 29)) hb3)
    clear hb3
    have HR1 := Lib.hid hr1; clear hr1
    have qTB0 : w3.cell? ⟨w.heap.size, 0, none⟩ = some (.int .i64 a) := TB.out.cell 0
    have qTB1 : w3.cell? ⟨w.heap.size, 1, none⟩ = some (.int .i64 b) := TB.out.cell 1
    have qTBl := TB.out.lt
    go_wp2_with fail
    clear qTB0 qTB1 qTBl
    refine (Hg1.out _).mono ?_; rintro e w4 ⟨⟨A2, c2, rfl, hr2⟩, hb4⟩
    have S4 := Lib.hid (show w3.heap.size + 0 ≤ w4.heap.size by have h9 := hb4.size; (try simp only [World.size_alloc, World.size_setCell, World.size_drew] at h9); omega)
    have Z4 := Lib.hid (And.intro S3.out S4.out)
    have NTB := Lib.hid (TB.out.on hb4)
    have TB := NTB; clear NTB
    replace HR1 := Lib.hid (HR1.out.on (bthen ((Below.refl _ _)) hb4))
    have Hb4 := Lib.hid (bthen Hb3.out hb4)
    clear hb4
    have HR2 := Lib.hid hr2; clear hr2
    go_wp2
    exact bodyPost_ret (v := .tuple #[.int .i64 0, .int .i64 0, .bool false]) (by simp [results, Tryz.results71, go_sem]) rfl ⟨by rw [HV.out], Hb4.out⟩
  generalize rkV X0 = K0 at *
  generalize rkV X1 = K1 at *
  obtain ⟨n0, k0⟩ := K0
  obtain ⟨n1, k1⟩ := K1
  dsimp only at *
  cases k0
  · have HV := Lib.hid (HN.out (by simp))
    go_enter Tryz.func71, Tryz.ntmps71
    go_wp2_with fail
    refine (Hg0.out _).mono ?_; rintro e w5 ⟨⟨A1, c1, rfl, hr1⟩, hb5⟩
    have S5 := Lib.hid (show w.heap.size + 1 ≤ w5.heap.size by have h9 := hb5.size; (try simp only [World.size_alloc, World.size_setCell, World.size_drew] at h9); omega)
    have NTB := Lib.hid ((Blk.new w 29 #[.int .i64 a, .int .i64 b]).on hb5)
    have TB := NTB; clear NTB
    have Hb5 := Lib.hid (bthen (bal (Below.refl w.heap.size w) (Obj.cells #[.int .i64 a, .int .i64 b] 29)) hb5)
    clear hb5
    have HR1 := Lib.hid hr1; clear hr1
    have qTB0 : w5.cell? ⟨w.heap.size, 0, none⟩ = some (.int .i64 a) := TB.out.cell 0
    have qTB1 : w5.cell? ⟨w.heap.size, 1, none⟩ = some (.int .i64 b) := TB.out.cell 1
    have qTBl := TB.out.lt
    go_wp2_with fail
    clear qTB0 qTB1 qTBl
    refine (Hg1.out _).mono ?_; rintro e w6 ⟨⟨A2, c2, rfl, hr2⟩, hb6⟩
    have S6 := Lib.hid (show w5.heap.size + 0 ≤ w6.heap.size by have h9 := hb6.size; (try simp only [World.size_alloc, World.size_setCell, World.size_drew] at h9); omega)
    have Z6 := Lib.hid (And.intro S5.out S6.out)
    have NTB := Lib.hid (TB.out.on hb6)
    have TB := NTB; clear NTB
    replace HR1 := Lib.hid (HR1.out.on (bthen ((Below.refl _ _)) hb6))
    have Hb6 := Lib.hid (bthen Hb5.out hb6)
    clear hb6
    have HR2 := Lib.hid hr2; clear hr2
    have qTB0 : w6.cell? ⟨w.heap.size, 0, none⟩ = some (.int .i64 a) := TB.out.cell 0
    have qTB1 : w6.cell? ⟨w.heap.size, 1, none⟩ = some (.int .i64 b) := TB.out.cell 1
    have qTBl := TB.out.lt
    go_wp2_with fail
    clear qTB0 qTB1 qTBl
    refine (Hr0.out _ _ _ HR1.out).mono ?_; rintro e w7 ⟨rfl, hb7⟩
    have S7 := Lib.hid (show w6.heap.size + 0 ≤ w7.heap.size by have h9 := hb7.size; (try simp only [World.size_alloc, World.size_setCell, World.size_drew] at h9); omega)
    have Z7 := Lib.hid (And.intro Z6.out S7.out)
    have NTB := Lib.hid (TB.out.on hb7)
    have TB := NTB; clear NTB
    replace HR1 := Lib.hid (HR1.out.on (bthen ((Below.refl _ _)) hb7))
    replace HR2 := Lib.hid (HR2.out.on (bthen ((Below.refl _ _)) hb7))
    have Hb7 := Lib.hid (bthen Hb6.out hb7)
    clear hb7
    have qTB0 : w7.cell? ⟨w.heap.size, 0, none⟩ = some (.int .i64 a) := TB.out.cell 0
    have qTB1 : w7.cell? ⟨w.heap.size, 1, none⟩ = some (.int .i64 b) := TB.out.cell 1
    have qTBl := TB.out.lt
    go_wp2_with fail
    clear qTB0 qTB1 qTBl
    refine (Hr1.out _ _ _ HR2.out).mono ?_; rintro e w8 ⟨rfl, hb8⟩
    have S8 := Lib.hid (show w7.heap.size + 0 ≤ w8.heap.size by have h9 := hb8.size; (try simp only [World.size_alloc, World.size_setCell, World.size_drew] at h9); omega)
    have Z8 := Lib.hid (And.intro Z7.out S8.out)
    have NTB := Lib.hid (TB.out.on hb8)
    have TB := NTB; clear NTB
    replace HR1 := Lib.hid (HR1.out.on (bthen ((Below.refl _ _)) hb8))
    replace HR2 := Lib.hid (HR2.out.on (bthen ((Below.refl _ _)) hb8))
    have Hb8 := Lib.hid (bthen Hb7.out hb8)
    clear hb8
    go_wp2
    exact bodyPost_ret (v := .tuple #[.int .i64 0, .int .i64 0, .bool false]) (by simp [results, Tryz.results71, go_sem]) rfl ⟨by rw [HV.out], Hb8.out⟩
  cases k1
  · have HV := Lib.hid (HN.out (by simp))
    go_enter Tryz.func71, Tryz.ntmps71
    go_wp2_with fail
    refine (Hg0.out _).mono ?_; rintro e w9 ⟨⟨A1, c1, rfl, hr1⟩, hb9⟩
    have S9 := Lib.hid (show w.heap.size + 1 ≤ w9.heap.size by have h9 := hb9.size; (try simp only [World.size_alloc, World.size_setCell, World.size_drew] at h9); omega)
    have NTB := Lib.hid ((Blk.new w 29 #[.int .i64 a, .int .i64 b]).on hb9)
    have TB := NTB; clear NTB
    have Hb9 := Lib.hid (bthen (bal (Below.refl w.heap.size w) (Obj.cells #[.int .i64 a, .int .i64 b] 29)) hb9)
    clear hb9
    have HR1 := Lib.hid hr1; clear hr1
    have qTB0 : w9.cell? ⟨w.heap.size, 0, none⟩ = some (.int .i64 a) := TB.out.cell 0
    have qTB1 : w9.cell? ⟨w.heap.size, 1, none⟩ = some (.int .i64 b) := TB.out.cell 1
    have qTBl := TB.out.lt
    go_wp2_with fail
    clear qTB0 qTB1 qTBl
    refine (Hg1.out _).mono ?_; rintro e w10 ⟨⟨A2, c2, rfl, hr2⟩, hb10⟩
    have S10 := Lib.hid (show w9.heap.size + 0 ≤ w10.heap.size by have h9 := hb10.size; (try simp only [World.size_alloc, World.size_setCell, World.size_drew] at h9); omega)
    have Z10 := Lib.hid (And.intro S9.out S10.out)
    have NTB := Lib.hid (TB.out.on hb10)
    have TB := NTB; clear NTB
    replace HR1 := Lib.hid (HR1.out.on (bthen ((Below.refl _ _)) hb10))
    have Hb10 := Lib.hid (bthen Hb9.out hb10)
    clear hb10
    have HR2 := Lib.hid hr2; clear hr2
    have qTB0 : w10.cell? ⟨w.heap.size, 0, none⟩ = some (.int .i64 a) := TB.out.cell 0
    have qTB1 : w10.cell? ⟨w.heap.size, 1, none⟩ = some (.int .i64 b) := TB.out.cell 1
    have qTBl := TB.out.lt
    go_wp2_with fail
    clear qTB0 qTB1 qTBl
    refine (Hr0.out _ _ _ HR1.out).mono ?_; rintro e w11 ⟨rfl, hb11⟩
    have S11 := Lib.hid (show w10.heap.size + 0 ≤ w11.heap.size by have h9 := hb11.size; (try simp only [World.size_alloc, World.size_setCell, World.size_drew] at h9); omega)
    have Z11 := Lib.hid (And.intro Z10.out S11.out)
    have NTB := Lib.hid (TB.out.on hb11)
    have TB := NTB; clear NTB
    replace HR1 := Lib.hid (HR1.out.on (bthen ((Below.refl _ _)) hb11))
    replace HR2 := Lib.hid (HR2.out.on (bthen ((Below.refl _ _)) hb11))
    have Hb11 := Lib.hid (bthen Hb10.out hb11)
    clear hb11
    have qTB0 : w11.cell? ⟨w.heap.size, 0, none⟩ = some (.int .i64 a) := TB.out.cell 0
    have qTB1 : w11.cell? ⟨w.heap.size, 1, none⟩ = some (.int .i64 b) := TB.out.cell 1
    have qTBl := TB.out.lt
    go_wp2_with fail
    clear qTB0 qTB1 qTBl
    refine (Hr1.out _ _ _ HR2.out).mono ?_; rintro e w12 ⟨rfl, hb12⟩
    have S12 := Lib.hid (show w11.heap.size + 0 ≤ w12.heap.size by have h9 := hb12.size; (try simp only [World.size_alloc, World.size_setCell, World.size_drew] at h9); omega)
    have Z12 := Lib.hid (And.intro Z11.out S12.out)
    have NTB := Lib.hid (TB.out.on hb12)
    have TB := NTB; clear NTB
    replace HR1 := Lib.hid (HR1.out.on (bthen ((Below.refl _ _)) hb12))
    replace HR2 := Lib.hid (HR2.out.on (bthen ((Below.refl _ _)) hb12))
    have Hb12 := Lib.hid (bthen Hb11.out hb12)
    clear hb12
    go_wp2
    exact bodyPost_ret (v := .tuple #[.int .i64 0, .int .i64 0, .bool false]) (by simp [results, Tryz.results71, go_sem]) rfl ⟨by rw [HV.out], Hb12.out⟩
  have HV := Lib.hid (HY.out rfl rfl rfl rfl)
  go_enter Tryz.func71, Tryz.ntmps71
  go_wp2_with fail
  refine (Hg0.out _).mono ?_; rintro e w13 ⟨⟨A1, c1, rfl, hr1⟩, hb13⟩
  have S13 := Lib.hid (show w.heap.size + 1 ≤ w13.heap.size by have h9 := hb13.size; (try simp only [World.size_alloc, World.size_setCell, World.size_drew] at h9); omega)
  have NTB := Lib.hid ((Blk.new w 29 #[.int .i64 a, .int .i64 b]).on hb13)
  have TB := NTB; clear NTB
  have Hb13 := Lib.hid (bthen (bal (Below.refl w.heap.size w) (Obj.cells #[.int .i64 a, .int .i64 b] 29)) hb13)
  clear hb13
  have HR1 := Lib.hid hr1; clear hr1
  have qTB0 : w13.cell? ⟨w.heap.size, 0, none⟩ = some (.int .i64 a) := TB.out.cell 0
  have qTB1 : w13.cell? ⟨w.heap.size, 1, none⟩ = some (.int .i64 b) := TB.out.cell 1
  have qTBl := TB.out.lt
  go_wp2_with fail
  clear qTB0 qTB1 qTBl
  refine (Hg1.out _).mono ?_; rintro e w14 ⟨⟨A2, c2, rfl, hr2⟩, hb14⟩
  have S14 := Lib.hid (show w13.heap.size + 0 ≤ w14.heap.size by have h9 := hb14.size; (try simp only [World.size_alloc, World.size_setCell, World.size_drew] at h9); omega)
  have Z14 := Lib.hid (And.intro S13.out S14.out)
  have NTB := Lib.hid (TB.out.on hb14)
  have TB := NTB; clear NTB
  replace HR1 := Lib.hid (HR1.out.on (bthen ((Below.refl _ _)) hb14))
  have Hb14 := Lib.hid (bthen Hb13.out hb14)
  clear hb14
  have HR2 := Lib.hid hr2; clear hr2
  have qTB0 : w14.cell? ⟨w.heap.size, 0, none⟩ = some (.int .i64 a) := TB.out.cell 0
  have qTB1 : w14.cell? ⟨w.heap.size, 1, none⟩ = some (.int .i64 b) := TB.out.cell 1
  have qTBl := TB.out.lt
  go_wp2_with fail
  clear qTB0 qTB1 qTBl
  refine (Hr0.out _ _ _ HR1.out).mono ?_; rintro e w15 ⟨rfl, hb15⟩
  have S15 := Lib.hid (show w14.heap.size + 0 ≤ w15.heap.size by have h9 := hb15.size; (try simp only [World.size_alloc, World.size_setCell, World.size_drew] at h9); omega)
  have Z15 := Lib.hid (And.intro Z14.out S15.out)
  have NTB := Lib.hid (TB.out.on hb15)
  have TB := NTB; clear NTB
  replace HR1 := Lib.hid (HR1.out.on (bthen ((Below.refl _ _)) hb15))
  replace HR2 := Lib.hid (HR2.out.on (bthen ((Below.refl _ _)) hb15))
  have Hb15 := Lib.hid (bthen Hb14.out hb15)
  clear hb15
  have qTB0 : w15.cell? ⟨w.heap.size, 0, none⟩ = some (.int .i64 a) := TB.out.cell 0
  have qTB1 : w15.cell? ⟨w.heap.size, 1, none⟩ = some (.int .i64 b) := TB.out.cell 1
  have qTBl := TB.out.lt
  go_wp2_with fail
  clear qTB0 qTB1 qTBl
  refine (Hr1.out _ _ _ HR2.out).mono ?_; rintro e w16 ⟨rfl, hb16⟩
  have S16 := Lib.hid (show w15.heap.size + 0 ≤ w16.heap.size by have h9 := hb16.size; (try simp only [World.size_alloc, World.size_setCell, World.size_drew] at h9); omega)
  have Z16 := Lib.hid (And.intro Z15.out S16.out)
  have NTB := Lib.hid (TB.out.on hb16)
  have TB := NTB; clear NTB
  replace HR1 := Lib.hid (HR1.out.on (bthen ((Below.refl _ _)) hb16))
  replace HR2 := Lib.hid (HR2.out.on (bthen ((Below.refl _ _)) hb16))
  have Hb16 := Lib.hid (bthen Hb15.out hb16)
  clear hb16
  go_wp2
  exact bodyPost_ret (v := .tuple #[.int .i64 n0, .int .i64 n1, .bool true]) (by simp [results, Tryz.results71, go_sem]) rfl ⟨by rw [HV.out], Hb16.out⟩
set_option linter.unusedSimpArgs false in
set_option linter.unusedVariables false in
set_option maxRecDepth 8000 in
set_option maxHeartbeats 8000000 in
theorem selmerRanks_any (a b : Int) (w : World) (h : twB a b = true) :
    Calls Tryz.prog 49 #[.agg #[.int .i64 a, .int .i64 b]] w fun e w' => e = .returned (.tuple #[.int .i64 (srV a b).1, .int .i64 (srV a b).2.1, .bool (srV a b).2.2]) ∧ Below w.heap.size w w' := by
  have Hg0 := Lib.hid (fun w9 => selmer_any a b false w9 h)
  have Hl0 := Lib.hid (sm_len (s := false) h)
  have Hg1 := Lib.hid (fun w9 => selmer_any a b true w9 h)
  have Hl1 := Lib.hid (sm_len (s := true) h)
  have HY := Lib.hid (fun (h1 : (smV a b false).2 = true) (h2 : (smV a b true).2 = true) (h3 : (rkV (smV a b false).1).2 = true) (h4 : (rkV (smV a b true).1).2 = true) => show srV a b = ((rkV (smV a b false).1).1, (rkV (smV a b true).1).1, true) from if_pos ⟨⟨h1, h2⟩, h3, h4⟩)
  have HN := Lib.hid (fun (hx : ¬ (((smV a b false).2 = true ∧ (smV a b true).2 = true) ∧ ((rkV (smV a b false).1).2 = true ∧ (rkV (smV a b true).1).2 = true))) => show srV a b = (0, 0, false) from if_neg hx)
  clear h
  generalize srV a b = V at *
  generalize smV a b false = U0 at *
  generalize smV a b true = U1 at *
  obtain ⟨X0, k0⟩ := U0
  obtain ⟨X1, k1⟩ := U1
  dsimp only at *
  have Hr0 := Lib.hid (fun A c w9 h9 => rankI_any A c X0 w9 h9 (by have := Hl0.out; omega))
  have Hr1 := Lib.hid (fun A c w9 h9 => rankI_any A c X1 w9 h9 (by have := Hl1.out; omega))
  cases k0
  · have HV := Lib.hid (HN.out (by simp))
    go_enter Tryz.func49, Tryz.ntmps49
    go_wp2_with fail
    refine (Hg0.out _).mono ?_; rintro e w1 ⟨⟨A1, c1, rfl, hr1⟩, hb1⟩
    have S1 := Lib.hid (show w.heap.size + 1 ≤ w1.heap.size by have h9 := hb1.size; (try simp only [World.size_alloc, World.size_setCell, World.size_drew] at h9); omega)
    have NTB := Lib.hid ((Blk.new w 29 #[.int .i64 a, .int .i64 b]).on hb1)
    have TB := NTB; clear NTB
    have Hb1 := Lib.hid (bthen (bal (Below.refl w.heap.size w) (Obj.cells #[.int .i64 a, .int .i64 b] 29)) hb1)
    clear hb1
    have HR1 := Lib.hid hr1; clear hr1
    have qTB0 : w1.cell? ⟨w.heap.size, 0, none⟩ = some (.int .i64 a) := TB.out.cell 0
    have qTB1 : w1.cell? ⟨w.heap.size, 1, none⟩ = some (.int .i64 b) := TB.out.cell 1
    have qTBl := TB.out.lt
    go_wp2_with fail
    clear qTB0 qTB1 qTBl
    refine (Hg1.out _).mono ?_; rintro e w2 ⟨⟨A2, c2, rfl, hr2⟩, hb2⟩
    have S2 := Lib.hid (show w1.heap.size + 0 ≤ w2.heap.size by have h9 := hb2.size; (try simp only [World.size_alloc, World.size_setCell, World.size_drew] at h9); omega)
    have Z2 := Lib.hid (And.intro S1.out S2.out)
    have NTB := Lib.hid (TB.out.on hb2)
    have TB := NTB; clear NTB
    replace HR1 := Lib.hid (HR1.out.on (bthen ((Below.refl _ _)) hb2))
    have Hb2 := Lib.hid (bthen Hb1.out hb2)
    clear hb2
    have HR2 := Lib.hid hr2; clear hr2
    go_wp2
    exact bodyPost_ret (v := .tuple #[.int .i64 0, .int .i64 0, .bool false]) (by simp [results, Tryz.results49, go_sem]) rfl ⟨by rw [HV.out], Hb2.out⟩
  cases k1
  · have HV := Lib.hid (HN.out (by simp))
    go_enter Tryz.func49, Tryz.ntmps49
    go_wp2_with fail
    refine (Hg0.out _).mono ?_; rintro e w3 ⟨⟨A1, c1, rfl, hr1⟩, hb3⟩
    have S3 := Lib.hid (show w.heap.size + 1 ≤ w3.heap.size by have h9 := hb3.size; (try simp only [World.size_alloc, World.size_setCell, World.size_drew] at h9); omega)
    have NTB := Lib.hid ((Blk.new w 29 #[.int .i64 a, .int .i64 b]).on hb3)
    have TB := NTB; clear NTB
    have Hb3 := Lib.hid (bthen (bal (Below.refl w.heap.size w) (Obj.cells #[.int .i64 a, .int .i64 b] 29)) hb3)
    clear hb3
    have HR1 := Lib.hid hr1; clear hr1
    have qTB0 : w3.cell? ⟨w.heap.size, 0, none⟩ = some (.int .i64 a) := TB.out.cell 0
    have qTB1 : w3.cell? ⟨w.heap.size, 1, none⟩ = some (.int .i64 b) := TB.out.cell 1
    have qTBl := TB.out.lt
    go_wp2_with fail
    clear qTB0 qTB1 qTBl
    refine (Hg1.out _).mono ?_; rintro e w4 ⟨⟨A2, c2, rfl, hr2⟩, hb4⟩
    have S4 := Lib.hid (show w3.heap.size + 0 ≤ w4.heap.size by have h9 := hb4.size; (try simp only [World.size_alloc, World.size_setCell, World.size_drew] at h9); omega)
    have Z4 := Lib.hid (And.intro S3.out S4.out)
    have NTB := Lib.hid (TB.out.on hb4)
    have TB := NTB; clear NTB
    replace HR1 := Lib.hid (HR1.out.on (bthen ((Below.refl _ _)) hb4))
    have Hb4 := Lib.hid (bthen Hb3.out hb4)
    clear hb4
    have HR2 := Lib.hid hr2; clear hr2
    go_wp2
    exact bodyPost_ret (v := .tuple #[.int .i64 0, .int .i64 0, .bool false]) (by simp [results, Tryz.results49, go_sem]) rfl ⟨by rw [HV.out], Hb4.out⟩
  generalize rkV X0 = K0 at *
  generalize rkV X1 = K1 at *
  obtain ⟨n0, k0⟩ := K0
  obtain ⟨n1, k1⟩ := K1
  dsimp only at *
  cases k0
  · have HV := Lib.hid (HN.out (by simp))
    go_enter Tryz.func49, Tryz.ntmps49
    go_wp2_with fail
    refine (Hg0.out _).mono ?_; rintro e w5 ⟨⟨A1, c1, rfl, hr1⟩, hb5⟩
    have S5 := Lib.hid (show w.heap.size + 1 ≤ w5.heap.size by have h9 := hb5.size; (try simp only [World.size_alloc, World.size_setCell, World.size_drew] at h9); omega)
    have NTB := Lib.hid ((Blk.new w 29 #[.int .i64 a, .int .i64 b]).on hb5)
    have TB := NTB; clear NTB
    have Hb5 := Lib.hid (bthen (bal (Below.refl w.heap.size w) (Obj.cells #[.int .i64 a, .int .i64 b] 29)) hb5)
    clear hb5
    have HR1 := Lib.hid hr1; clear hr1
    have qTB0 : w5.cell? ⟨w.heap.size, 0, none⟩ = some (.int .i64 a) := TB.out.cell 0
    have qTB1 : w5.cell? ⟨w.heap.size, 1, none⟩ = some (.int .i64 b) := TB.out.cell 1
    have qTBl := TB.out.lt
    go_wp2_with fail
    clear qTB0 qTB1 qTBl
    refine (Hg1.out _).mono ?_; rintro e w6 ⟨⟨A2, c2, rfl, hr2⟩, hb6⟩
    have S6 := Lib.hid (show w5.heap.size + 0 ≤ w6.heap.size by have h9 := hb6.size; (try simp only [World.size_alloc, World.size_setCell, World.size_drew] at h9); omega)
    have Z6 := Lib.hid (And.intro S5.out S6.out)
    have NTB := Lib.hid (TB.out.on hb6)
    have TB := NTB; clear NTB
    replace HR1 := Lib.hid (HR1.out.on (bthen ((Below.refl _ _)) hb6))
    have Hb6 := Lib.hid (bthen Hb5.out hb6)
    clear hb6
    have HR2 := Lib.hid hr2; clear hr2
    have qTB0 : w6.cell? ⟨w.heap.size, 0, none⟩ = some (.int .i64 a) := TB.out.cell 0
    have qTB1 : w6.cell? ⟨w.heap.size, 1, none⟩ = some (.int .i64 b) := TB.out.cell 1
    have qTBl := TB.out.lt
    go_wp2_with fail
    clear qTB0 qTB1 qTBl
    refine (Hr0.out _ _ _ HR1.out).mono ?_; rintro e w7 ⟨rfl, hb7⟩
    have S7 := Lib.hid (show w6.heap.size + 0 ≤ w7.heap.size by have h9 := hb7.size; (try simp only [World.size_alloc, World.size_setCell, World.size_drew] at h9); omega)
    have Z7 := Lib.hid (And.intro Z6.out S7.out)
    have NTB := Lib.hid (TB.out.on hb7)
    have TB := NTB; clear NTB
    replace HR1 := Lib.hid (HR1.out.on (bthen ((Below.refl _ _)) hb7))
    replace HR2 := Lib.hid (HR2.out.on (bthen ((Below.refl _ _)) hb7))
    have Hb7 := Lib.hid (bthen Hb6.out hb7)
    clear hb7
    have qTB0 : w7.cell? ⟨w.heap.size, 0, none⟩ = some (.int .i64 a) := TB.out.cell 0
    have qTB1 : w7.cell? ⟨w.heap.size, 1, none⟩ = some (.int .i64 b) := TB.out.cell 1
    have qTBl := TB.out.lt
    go_wp2_with fail
    clear qTB0 qTB1 qTBl
    refine (Hr1.out _ _ _ HR2.out).mono ?_; rintro e w8 ⟨rfl, hb8⟩
    have S8 := Lib.hid (show w7.heap.size + 0 ≤ w8.heap.size by have h9 := hb8.size; (try simp only [World.size_alloc, World.size_setCell, World.size_drew] at h9); omega)
    have Z8 := Lib.hid (And.intro Z7.out S8.out)
    have NTB := Lib.hid (TB.out.on hb8)
    have TB := NTB; clear NTB
    replace HR1 := Lib.hid (HR1.out.on (bthen ((Below.refl _ _)) hb8))
    replace HR2 := Lib.hid (HR2.out.on (bthen ((Below.refl _ _)) hb8))
    have Hb8 := Lib.hid (bthen Hb7.out hb8)
    clear hb8
    go_wp2
    exact bodyPost_ret (v := .tuple #[.int .i64 0, .int .i64 0, .bool false]) (by simp [results, Tryz.results49, go_sem]) rfl ⟨by rw [HV.out], Hb8.out⟩
  cases k1
  · have HV := Lib.hid (HN.out (by simp))
    go_enter Tryz.func49, Tryz.ntmps49
    go_wp2_with fail
    refine (Hg0.out _).mono ?_; rintro e w9 ⟨⟨A1, c1, rfl, hr1⟩, hb9⟩
    have S9 := Lib.hid (show w.heap.size + 1 ≤ w9.heap.size by have h9 := hb9.size; (try simp only [World.size_alloc, World.size_setCell, World.size_drew] at h9); omega)
    have NTB := Lib.hid ((Blk.new w 29 #[.int .i64 a, .int .i64 b]).on hb9)
    have TB := NTB; clear NTB
    have Hb9 := Lib.hid (bthen (bal (Below.refl w.heap.size w) (Obj.cells #[.int .i64 a, .int .i64 b] 29)) hb9)
    clear hb9
    have HR1 := Lib.hid hr1; clear hr1
    have qTB0 : w9.cell? ⟨w.heap.size, 0, none⟩ = some (.int .i64 a) := TB.out.cell 0
    have qTB1 : w9.cell? ⟨w.heap.size, 1, none⟩ = some (.int .i64 b) := TB.out.cell 1
    have qTBl := TB.out.lt
    go_wp2_with fail
    clear qTB0 qTB1 qTBl
    refine (Hg1.out _).mono ?_; rintro e w10 ⟨⟨A2, c2, rfl, hr2⟩, hb10⟩
    have S10 := Lib.hid (show w9.heap.size + 0 ≤ w10.heap.size by have h9 := hb10.size; (try simp only [World.size_alloc, World.size_setCell, World.size_drew] at h9); omega)
    have Z10 := Lib.hid (And.intro S9.out S10.out)
    have NTB := Lib.hid (TB.out.on hb10)
    have TB := NTB; clear NTB
    replace HR1 := Lib.hid (HR1.out.on (bthen ((Below.refl _ _)) hb10))
    have Hb10 := Lib.hid (bthen Hb9.out hb10)
    clear hb10
    have HR2 := Lib.hid hr2; clear hr2
    have qTB0 : w10.cell? ⟨w.heap.size, 0, none⟩ = some (.int .i64 a) := TB.out.cell 0
    have qTB1 : w10.cell? ⟨w.heap.size, 1, none⟩ = some (.int .i64 b) := TB.out.cell 1
    have qTBl := TB.out.lt
    go_wp2_with fail
    clear qTB0 qTB1 qTBl
    refine (Hr0.out _ _ _ HR1.out).mono ?_; rintro e w11 ⟨rfl, hb11⟩
    have S11 := Lib.hid (show w10.heap.size + 0 ≤ w11.heap.size by have h9 := hb11.size; (try simp only [World.size_alloc, World.size_setCell, World.size_drew] at h9); omega)
    have Z11 := Lib.hid (And.intro Z10.out S11.out)
    have NTB := Lib.hid (TB.out.on hb11)
    have TB := NTB; clear NTB
    replace HR1 := Lib.hid (HR1.out.on (bthen ((Below.refl _ _)) hb11))
    replace HR2 := Lib.hid (HR2.out.on (bthen ((Below.refl _ _)) hb11))
    have Hb11 := Lib.hid (bthen Hb10.out hb11)
    clear hb11
    have qTB0 : w11.cell? ⟨w.heap.size, 0, none⟩ = some (.int .i64 a) := TB.out.cell 0
    have qTB1 : w11.cell? ⟨w.heap.size, 1, none⟩ = some (.int .i64 b) := TB.out.cell 1
    have qTBl := TB.out.lt
    go_wp2_with fail
    clear qTB0 qTB1 qTBl
    refine (Hr1.out _ _ _ HR2.out).mono ?_; rintro e w12 ⟨rfl, hb12⟩
    have S12 := Lib.hid (show w11.heap.size + 0 ≤ w12.heap.size by have h9 := hb12.size; (try simp only [World.size_alloc, World.size_setCell, World.size_drew] at h9); omega)
    have Z12 := Lib.hid (And.intro Z11.out S12.out)
    have NTB := Lib.hid (TB.out.on hb12)
    have TB := NTB; clear NTB
    replace HR1 := Lib.hid (HR1.out.on (bthen ((Below.refl _ _)) hb12))
    replace HR2 := Lib.hid (HR2.out.on (bthen ((Below.refl _ _)) hb12))
    have Hb12 := Lib.hid (bthen Hb11.out hb12)
    clear hb12
    go_wp2
    exact bodyPost_ret (v := .tuple #[.int .i64 0, .int .i64 0, .bool false]) (by simp [results, Tryz.results49, go_sem]) rfl ⟨by rw [HV.out], Hb12.out⟩
  have HV := Lib.hid (HY.out rfl rfl rfl rfl)
  go_enter Tryz.func49, Tryz.ntmps49
  go_wp2_with fail
  refine (Hg0.out _).mono ?_; rintro e w13 ⟨⟨A1, c1, rfl, hr1⟩, hb13⟩
  have S13 := Lib.hid (show w.heap.size + 1 ≤ w13.heap.size by have h9 := hb13.size; (try simp only [World.size_alloc, World.size_setCell, World.size_drew] at h9); omega)
  have NTB := Lib.hid ((Blk.new w 29 #[.int .i64 a, .int .i64 b]).on hb13)
  have TB := NTB; clear NTB
  have Hb13 := Lib.hid (bthen (bal (Below.refl w.heap.size w) (Obj.cells #[.int .i64 a, .int .i64 b] 29)) hb13)
  clear hb13
  have HR1 := Lib.hid hr1; clear hr1
  have qTB0 : w13.cell? ⟨w.heap.size, 0, none⟩ = some (.int .i64 a) := TB.out.cell 0
  have qTB1 : w13.cell? ⟨w.heap.size, 1, none⟩ = some (.int .i64 b) := TB.out.cell 1
  have qTBl := TB.out.lt
  go_wp2_with fail
  clear qTB0 qTB1 qTBl
  refine (Hg1.out _).mono ?_; rintro e w14 ⟨⟨A2, c2, rfl, hr2⟩, hb14⟩
  have S14 := Lib.hid (show w13.heap.size + 0 ≤ w14.heap.size by have h9 := hb14.size; (try simp only [World.size_alloc, World.size_setCell, World.size_drew] at h9); omega)
  have Z14 := Lib.hid (And.intro S13.out S14.out)
  have NTB := Lib.hid (TB.out.on hb14)
  have TB := NTB; clear NTB
  replace HR1 := Lib.hid (HR1.out.on (bthen ((Below.refl _ _)) hb14))
  have Hb14 := Lib.hid (bthen Hb13.out hb14)
  clear hb14
  have HR2 := Lib.hid hr2; clear hr2
  have qTB0 : w14.cell? ⟨w.heap.size, 0, none⟩ = some (.int .i64 a) := TB.out.cell 0
  have qTB1 : w14.cell? ⟨w.heap.size, 1, none⟩ = some (.int .i64 b) := TB.out.cell 1
  have qTBl := TB.out.lt
  go_wp2_with fail
  clear qTB0 qTB1 qTBl
  refine (Hr0.out _ _ _ HR1.out).mono ?_; rintro e w15 ⟨rfl, hb15⟩
  have S15 := Lib.hid (show w14.heap.size + 0 ≤ w15.heap.size by have h9 := hb15.size; (try simp only [World.size_alloc, World.size_setCell, World.size_drew] at h9); omega)
  have Z15 := Lib.hid (And.intro Z14.out S15.out)
  have NTB := Lib.hid (TB.out.on hb15)
  have TB := NTB; clear NTB
  replace HR1 := Lib.hid (HR1.out.on (bthen ((Below.refl _ _)) hb15))
  replace HR2 := Lib.hid (HR2.out.on (bthen ((Below.refl _ _)) hb15))
  have Hb15 := Lib.hid (bthen Hb14.out hb15)
  clear hb15
  have qTB0 : w15.cell? ⟨w.heap.size, 0, none⟩ = some (.int .i64 a) := TB.out.cell 0
  have qTB1 : w15.cell? ⟨w.heap.size, 1, none⟩ = some (.int .i64 b) := TB.out.cell 1
  have qTBl := TB.out.lt
  go_wp2_with fail
  clear qTB0 qTB1 qTBl
  refine (Hr1.out _ _ _ HR2.out).mono ?_; rintro e w16 ⟨rfl, hb16⟩
  have S16 := Lib.hid (show w15.heap.size + 0 ≤ w16.heap.size by have h9 := hb16.size; (try simp only [World.size_alloc, World.size_setCell, World.size_drew] at h9); omega)
  have Z16 := Lib.hid (And.intro Z15.out S16.out)
  have NTB := Lib.hid (TB.out.on hb16)
  have TB := NTB; clear NTB
  replace HR1 := Lib.hid (HR1.out.on (bthen ((Below.refl _ _)) hb16))
  replace HR2 := Lib.hid (HR2.out.on (bthen ((Below.refl _ _)) hb16))
  have Hb16 := Lib.hid (bthen Hb15.out hb16)
  clear hb16
  go_wp2
  exact bodyPost_ret (v := .tuple #[.int .i64 n0, .int .i64 n1, .bool true]) (by simp [results, Tryz.results49, go_sem]) rfl ⟨by rw [HV.out], Hb16.out⟩
end
section
open Go Go.RowKit Go.Lib

def upV (a b : Int) : Int × Bool := if (srV a b).2.2 = true then ((srV a b).1 + (srV a b).2.1 - 2, true) else (0, false)
def loV (a b : Int) (M : Nat) : Int := max ((frV a b M).1 + (frV a b M).2.1 - 2) 0
/-- The bounds of the rank, if they are told. -/
def rbV (a b : Int) (M : Nat) : Int × Int × Bool := if (frV a b M).2.2 = true ∧ (srV a b).2.2 = true then (loV a b M, (srV a b).1 + (srV a b).2.1 - 2, true) else (0, 0, false)

set_option linter.unusedSimpArgs false in
set_option linter.unusedVariables false in
set_option maxRecDepth 8000 in
set_option maxHeartbeats 8000000 in
theorem rkUpper_any (a b : Int) (w : World) (h : twB a b = true) :
    Calls Tryz.prog 45 #[.agg #[.int .i64 a, .int .i64 b]] w fun e w' => e = .returned (.tuple #[.int .i64 (upV a b).1, .bool (upV a b).2]) ∧ Below w.heap.size w w' := by
  have Hs := Lib.hid (fun w9 => rkSelmer_any a b w9 h)
  obtain ⟨⟨b1, b2⟩, b3, b4⟩ := sr_bd (a := a) (b := b)
  unfold upV
  clear h
  generalize srV a b = V at *
  obtain ⟨x, y, k⟩ := V
  dsimp only at *
  cases k
  · go_enter Tryz.func45, Tryz.ntmps45
    go_wp2_with fail
    refine (Hs.out _).mono ?_; rintro e w1 ⟨rfl, hb1⟩
    have S1 := Lib.hid (show w.heap.size + 1 ≤ w1.heap.size by have h9 := hb1.size; (try simp only [World.size_alloc, World.size_setCell, World.size_drew] at h9); omega)
    have NTB := Lib.hid ((Blk.new w 29 #[.int .i64 a, .int .i64 b]).on hb1)
    have TB := NTB; clear NTB
    have Hb1 := Lib.hid (bthen (bal (Below.refl w.heap.size w) (Obj.cells #[.int .i64 a, .int .i64 b] 29)) hb1)
    clear hb1
    go_wp2
    exact bodyPost_ret (v := .tuple #[.int .i64 0, .bool false]) (by simp [results, Tryz.results45, go_sem]) rfl ⟨rfl, Hb1.out⟩
  · go_enter Tryz.func45, Tryz.ntmps45
    go_wp2_with fail
    refine (Hs.out _).mono ?_; rintro e w2 ⟨rfl, hb2⟩
    have S2 := Lib.hid (show w.heap.size + 1 ≤ w2.heap.size by have h9 := hb2.size; (try simp only [World.size_alloc, World.size_setCell, World.size_drew] at h9); omega)
    have NTB := Lib.hid ((Blk.new w 29 #[.int .i64 a, .int .i64 b]).on hb2)
    have TB := NTB; clear NTB
    have Hb2 := Lib.hid (bthen (bal (Below.refl w.heap.size w) (Obj.cells #[.int .i64 a, .int .i64 b] 29)) hb2)
    clear hb2
    go_wp2
    exact bodyPost_ret (v := .tuple #[.int .i64 (x + y - 2), .bool true]) (by simp [results, Tryz.results45, go_sem]) rfl ⟨rfl, Hb2.out⟩
set_option linter.unusedSimpArgs false in
set_option linter.unusedVariables false in
set_option maxRecDepth 8000 in
set_option maxHeartbeats 8000000 in
theorem rkLow_any (x y : Int) (w : World) (b1 : 0 ≤ x ∧ x ≤ 6) (b2 : 0 ≤ y ∧ y ≤ 6) :
    Calls Tryz.prog 47 #[.int .i64 x, .int .i64 y] w fun e w' => e = .returned (.int .i64 (max (x + y - 2) 0)) ∧ Below w.heap.size w w' := by
  obtain ⟨b1, b3⟩ := b1
  obtain ⟨b2, b4⟩ := b2
  have Hm := Lib.hid (fun w9 => l1MostG_any 0 (x + y - 2) w9)
  have HV := Lib.hid (show max 0 (x + y - 2) = max (x + y - 2) 0 by omega)
  generalize max 0 (x + y - 2) = m at *
  go_enter Tryz.func47, Tryz.ntmps47
  go_wp2_with (go_at_call 73; refine (Hm.out _).mono ?_; rintro e w1 ⟨rfl, rfl⟩)
  go_ret
  exact ⟨by rw [← HV.out] <;> rfl, Below.refl _ _⟩
set_option linter.unusedSimpArgs false in
set_option linter.unusedVariables false in
set_option maxRecDepth 8000 in
set_option maxHeartbeats 8000000 in
theorem lowerRank_any (a b : Int) (M : Nat) (w : World) (h : twB a b = true) (hM : M ≤ 60) :
    Calls Tryz.prog 54 #[.agg #[.int .i64 a, .int .i64 b], .int .i64 (M : Int)] w fun e w' => e = .returned (.tuple #[.int .i64 (loV a b M), .bool (frV a b M).2.2]) ∧ Below w.heap.size w w' := by
  have Hs := Lib.hid (fun w9 => foundRanks_any a b M w9 h hM)
  obtain ⟨⟨b1, b2⟩, b3, b4⟩ := fr_bd (a := a) (b := b) (M := M) h
  unfold loV
  clear h
  generalize frV a b M = V at *
  obtain ⟨x, y, k⟩ := V
  dsimp only at *
  go_enter Tryz.func54, Tryz.ntmps54
  go_wp2_with fail
  refine (Hs.out _).mono ?_; rintro e w1 ⟨rfl, hb1⟩
  have S1 := Lib.hid (show w.heap.size + 1 ≤ w1.heap.size by have h9 := hb1.size; (try simp only [World.size_alloc, World.size_setCell, World.size_drew] at h9); omega)
  have NTB := Lib.hid ((Blk.new w 29 #[.int .i64 a, .int .i64 b]).on hb1)
  have TB := NTB; clear NTB
  have Hb1 := Lib.hid (bthen (bal (Below.refl w.heap.size w) (Obj.cells #[.int .i64 a, .int .i64 b] 29)) hb1)
  clear hb1
  by_cases hm : 0 ≤ x + y - 2
  · have hmx : max (x + y - 2) 0 = x + y - 2 := by omega
    have g1 : decide (x + y - 2 < 0) = false := decide_eq_false (by omega)
    have g2 : decide (0 < x + y - 2) = true ∨ True := Or.inr trivial
    go_wp2
    exact bodyPost_ret (v := .tuple #[.int .i64 (max (x + y - 2) 0), .bool k]) (by first | (simp [results, Tryz.results54, go_sem]; done) | (simp [results, Tryz.results54, go_sem, hmx]; done) | (simp [results, Tryz.results54, go_sem, hmx]; omega)) rfl ⟨rfl, Hb1.out⟩
  · have hmx : max (x + y - 2) 0 = 0 := by omega
    have g1 : decide (x + y - 2 < 0) = true := decide_eq_true (by omega)
    have g2 : decide (0 < x + y - 2) = false ∨ True := Or.inr trivial
    go_wp2
    exact bodyPost_ret (v := .tuple #[.int .i64 (max (x + y - 2) 0), .bool k]) (by first | (simp [results, Tryz.results54, go_sem]; done) | (simp [results, Tryz.results54, go_sem, hmx]; done) | (simp [results, Tryz.results54, go_sem, hmx]; omega)) rfl ⟨rfl, Hb1.out⟩
set_option linter.unusedSimpArgs false in
set_option linter.unusedVariables false in
set_option maxRecDepth 8000 in
set_option maxHeartbeats 8000000 in
theorem rkBounds_any (a b : Int) (M : Nat) (w : World) (h : twB a b = true) (hM : M ≤ 60) :
    Calls Tryz.prog 26 #[.agg #[.int .i64 a, .int .i64 b], .int .i64 (M : Int)] w fun e w' => e = .returned (.tuple #[.int .i64 (rbV a b M).1, .int .i64 (rbV a b M).2.1, .bool (rbV a b M).2.2]) ∧ Below w.heap.size w w' := by
  have Hf := Lib.hid (fun w9 => rkFound_any a b M w9 h hM)
  have Hu := Lib.hid (fun w9 => rkUpper_any a b w9 h)
  obtain ⟨⟨b1, b2⟩, b3, b4⟩ := fr_bd (a := a) (b := b) (M := M) h
  have Hlo := Lib.hid (fun w9 => rkLow_any (frV a b M).1 (frV a b M).2.1 w9 ⟨b1, b2⟩ ⟨b3, b4⟩)
  have HY := Lib.hid (fun (h1 : (frV a b M).2.2 = true) (h2 : (srV a b).2.2 = true) => show rbV a b M = (loV a b M, (srV a b).1 + (srV a b).2.1 - 2, true) from if_pos ⟨h1, h2⟩)
  have HN := Lib.hid (fun (hx : ¬ ((frV a b M).2.2 = true ∧ (srV a b).2.2 = true)) => show rbV a b M = (0, 0, false) from if_neg hx)
  unfold loV at HY
  unfold upV at Hu
  clear h b1 b2 b3 b4
  generalize rbV a b M = V at *
  generalize frV a b M = F at *
  generalize srV a b = S at *
  obtain ⟨x, y, k⟩ := F
  obtain ⟨u, v, l⟩ := S
  dsimp only at *
  cases k
  · have HV := Lib.hid (HN.out (by simp))
    cases l
    · go_enter Tryz.func26, Tryz.ntmps26
      go_wp2_with fail
      refine (Hf.out _).mono ?_; rintro e w1 ⟨rfl, hb1⟩
      have S1 := Lib.hid (show w.heap.size + 1 ≤ w1.heap.size by have h9 := hb1.size; (try simp only [World.size_alloc, World.size_setCell, World.size_drew] at h9); omega)
      have NTB := Lib.hid ((Blk.new w 29 #[.int .i64 a, .int .i64 b]).on hb1)
      have TB := NTB; clear NTB
      have Hb1 := Lib.hid (bthen (bal (Below.refl w.heap.size w) (Obj.cells #[.int .i64 a, .int .i64 b] 29)) hb1)
      clear hb1
      have qTB0 : w1.cell? ⟨w.heap.size, 0, none⟩ = some (.int .i64 a) := TB.out.cell 0
      have qTB1 : w1.cell? ⟨w.heap.size, 1, none⟩ = some (.int .i64 b) := TB.out.cell 1
      have qTBl := TB.out.lt
      go_wp2_with fail
      clear qTB0 qTB1 qTBl
      refine (Hu.out _).mono ?_; rintro e w2 ⟨rfl, hb2⟩
      have S2 := Lib.hid (show w1.heap.size + 0 ≤ w2.heap.size by have h9 := hb2.size; (try simp only [World.size_alloc, World.size_setCell, World.size_drew] at h9); omega)
      have Z2 := Lib.hid (And.intro S1.out S2.out)
      have NTB := Lib.hid (TB.out.on hb2)
      have TB := NTB; clear NTB
      have Hb2 := Lib.hid (bthen Hb1.out hb2)
      clear hb2
      go_wp2
      exact bodyPost_ret (v := .tuple #[.int .i64 0, .int .i64 0, .bool false]) (by simp [results, Tryz.results26, go_sem]) rfl ⟨by rw [HV.out], Hb2.out⟩
    · go_enter Tryz.func26, Tryz.ntmps26
      go_wp2_with fail
      refine (Hf.out _).mono ?_; rintro e w3 ⟨rfl, hb3⟩
      have S3 := Lib.hid (show w.heap.size + 1 ≤ w3.heap.size by have h9 := hb3.size; (try simp only [World.size_alloc, World.size_setCell, World.size_drew] at h9); omega)
      have NTB := Lib.hid ((Blk.new w 29 #[.int .i64 a, .int .i64 b]).on hb3)
      have TB := NTB; clear NTB
      have Hb3 := Lib.hid (bthen (bal (Below.refl w.heap.size w) (Obj.cells #[.int .i64 a, .int .i64 b] 29)) hb3)
      clear hb3
      have qTB0 : w3.cell? ⟨w.heap.size, 0, none⟩ = some (.int .i64 a) := TB.out.cell 0
      have qTB1 : w3.cell? ⟨w.heap.size, 1, none⟩ = some (.int .i64 b) := TB.out.cell 1
      have qTBl := TB.out.lt
      go_wp2_with fail
      clear qTB0 qTB1 qTBl
      refine (Hu.out _).mono ?_; rintro e w4 ⟨rfl, hb4⟩
      have S4 := Lib.hid (show w3.heap.size + 0 ≤ w4.heap.size by have h9 := hb4.size; (try simp only [World.size_alloc, World.size_setCell, World.size_drew] at h9); omega)
      have Z4 := Lib.hid (And.intro S3.out S4.out)
      have NTB := Lib.hid (TB.out.on hb4)
      have TB := NTB; clear NTB
      have Hb4 := Lib.hid (bthen Hb3.out hb4)
      clear hb4
      go_wp2
      exact bodyPost_ret (v := .tuple #[.int .i64 0, .int .i64 0, .bool false]) (by simp [results, Tryz.results26, go_sem]) rfl ⟨by rw [HV.out], Hb4.out⟩
  cases l
  · have HV := Lib.hid (HN.out (by simp))
    go_enter Tryz.func26, Tryz.ntmps26
    go_wp2_with fail
    refine (Hf.out _).mono ?_; rintro e w5 ⟨rfl, hb5⟩
    have S5 := Lib.hid (show w.heap.size + 1 ≤ w5.heap.size by have h9 := hb5.size; (try simp only [World.size_alloc, World.size_setCell, World.size_drew] at h9); omega)
    have NTB := Lib.hid ((Blk.new w 29 #[.int .i64 a, .int .i64 b]).on hb5)
    have TB := NTB; clear NTB
    have Hb5 := Lib.hid (bthen (bal (Below.refl w.heap.size w) (Obj.cells #[.int .i64 a, .int .i64 b] 29)) hb5)
    clear hb5
    have qTB0 : w5.cell? ⟨w.heap.size, 0, none⟩ = some (.int .i64 a) := TB.out.cell 0
    have qTB1 : w5.cell? ⟨w.heap.size, 1, none⟩ = some (.int .i64 b) := TB.out.cell 1
    have qTBl := TB.out.lt
    go_wp2_with fail
    clear qTB0 qTB1 qTBl
    refine (Hu.out _).mono ?_; rintro e w6 ⟨rfl, hb6⟩
    have S6 := Lib.hid (show w5.heap.size + 0 ≤ w6.heap.size by have h9 := hb6.size; (try simp only [World.size_alloc, World.size_setCell, World.size_drew] at h9); omega)
    have Z6 := Lib.hid (And.intro S5.out S6.out)
    have NTB := Lib.hid (TB.out.on hb6)
    have TB := NTB; clear NTB
    have Hb6 := Lib.hid (bthen Hb5.out hb6)
    clear hb6
    go_wp2
    exact bodyPost_ret (v := .tuple #[.int .i64 0, .int .i64 0, .bool false]) (by simp [results, Tryz.results26, go_sem]) rfl ⟨by rw [HV.out], Hb6.out⟩
  have HV := Lib.hid (HY.out rfl rfl)
  generalize max (x + y - 2) 0 = m at *
  go_enter Tryz.func26, Tryz.ntmps26
  go_wp2_with fail
  refine (Hf.out _).mono ?_; rintro e w7 ⟨rfl, hb7⟩
  have S7 := Lib.hid (show w.heap.size + 1 ≤ w7.heap.size by have h9 := hb7.size; (try simp only [World.size_alloc, World.size_setCell, World.size_drew] at h9); omega)
  have NTB := Lib.hid ((Blk.new w 29 #[.int .i64 a, .int .i64 b]).on hb7)
  have TB := NTB; clear NTB
  have Hb7 := Lib.hid (bthen (bal (Below.refl w.heap.size w) (Obj.cells #[.int .i64 a, .int .i64 b] 29)) hb7)
  clear hb7
  have qTB0 : w7.cell? ⟨w.heap.size, 0, none⟩ = some (.int .i64 a) := TB.out.cell 0
  have qTB1 : w7.cell? ⟨w.heap.size, 1, none⟩ = some (.int .i64 b) := TB.out.cell 1
  have qTBl := TB.out.lt
  go_wp2_with fail
  clear qTB0 qTB1 qTBl
  refine (Hu.out _).mono ?_; rintro e w8 ⟨rfl, hb8⟩
  have S8 := Lib.hid (show w7.heap.size + 0 ≤ w8.heap.size by have h9 := hb8.size; (try simp only [World.size_alloc, World.size_setCell, World.size_drew] at h9); omega)
  have Z8 := Lib.hid (And.intro S7.out S8.out)
  have NTB := Lib.hid (TB.out.on hb8)
  have TB := NTB; clear NTB
  have Hb8 := Lib.hid (bthen Hb7.out hb8)
  clear hb8
  have qTB0 : w8.cell? ⟨w.heap.size, 0, none⟩ = some (.int .i64 a) := TB.out.cell 0
  have qTB1 : w8.cell? ⟨w.heap.size, 1, none⟩ = some (.int .i64 b) := TB.out.cell 1
  have qTBl := TB.out.lt
  go_wp2_with fail
  clear qTB0 qTB1 qTBl
  refine (Hlo.out _).mono ?_; rintro e w9 ⟨rfl, hb9⟩
  have S9 := Lib.hid (show w8.heap.size + 0 ≤ w9.heap.size by have h9 := hb9.size; (try simp only [World.size_alloc, World.size_setCell, World.size_drew] at h9); omega)
  have Z9 := Lib.hid (And.intro Z8.out S9.out)
  have NTB := Lib.hid (TB.out.on hb9)
  have TB := NTB; clear NTB
  have Hb9 := Lib.hid (bthen Hb8.out hb9)
  clear hb9
  go_wp2
  exact bodyPost_ret (v := .tuple #[.int .i64 m, .int .i64 (u + v - 2), .bool true]) (by simp [results, Tryz.results26, go_sem]) rfl ⟨by rw [HV.out], Hb9.out⟩
set_option linter.unusedSimpArgs false in
set_option linter.unusedVariables false in
set_option maxRecDepth 8000 in
set_option maxHeartbeats 8000000 in
theorem rankBounds_any (a b : Int) (M : Nat) (w : World) (h : twB a b = true) (hM : M ≤ 60) :
    Calls Tryz.prog 31 #[.agg #[.int .i64 a, .int .i64 b], .int .i64 (M : Int)] w fun e w' => e = .returned (.tuple #[.int .i64 (rbV a b M).1, .int .i64 (rbV a b M).2.1, .bool (rbV a b M).2.2]) ∧ Below w.heap.size w w' := by
  have Hf := Lib.hid (fun w9 => lowerRank_any a b M w9 h hM)
  have Hu := Lib.hid (fun w9 => selmerRanks_any a b w9 h)
  obtain ⟨⟨b1, b2⟩, b3, b4⟩ := sr_bd (a := a) (b := b)
  have HY := Lib.hid (fun (h1 : (frV a b M).2.2 = true) (h2 : (srV a b).2.2 = true) => show rbV a b M = (loV a b M, (srV a b).1 + (srV a b).2.1 - 2, true) from if_pos ⟨h1, h2⟩)
  have HN := Lib.hid (fun (hx : ¬ ((frV a b M).2.2 = true ∧ (srV a b).2.2 = true)) => show rbV a b M = (0, 0, false) from if_neg hx)
  clear h
  generalize rbV a b M = V at *
  generalize loV a b M = m at *
  generalize frV a b M = F at *
  generalize srV a b = S at *
  obtain ⟨x, y, k⟩ := F
  obtain ⟨u, v, l⟩ := S
  dsimp only at *
  cases k
  · have HV := Lib.hid (HN.out (by simp))
    go_enter Tryz.func31, Tryz.ntmps31
    go_wp2_with fail
    refine (Hf.out _).mono ?_; rintro e w1 ⟨rfl, hb1⟩
    have S1 := Lib.hid (show w.heap.size + 1 ≤ w1.heap.size by have h9 := hb1.size; (try simp only [World.size_alloc, World.size_setCell, World.size_drew] at h9); omega)
    have NTB := Lib.hid ((Blk.new w 29 #[.int .i64 a, .int .i64 b]).on hb1)
    have TB := NTB; clear NTB
    have Hb1 := Lib.hid (bthen (bal (Below.refl w.heap.size w) (Obj.cells #[.int .i64 a, .int .i64 b] 29)) hb1)
    clear hb1
    have qTB0 : w1.cell? ⟨w.heap.size, 0, none⟩ = some (.int .i64 a) := TB.out.cell 0
    have qTB1 : w1.cell? ⟨w.heap.size, 1, none⟩ = some (.int .i64 b) := TB.out.cell 1
    have qTBl := TB.out.lt
    go_wp2_with fail
    clear qTB0 qTB1 qTBl
    refine (Hu.out _).mono ?_; rintro e w2 ⟨rfl, hb2⟩
    have S2 := Lib.hid (show w1.heap.size + 0 ≤ w2.heap.size by have h9 := hb2.size; (try simp only [World.size_alloc, World.size_setCell, World.size_drew] at h9); omega)
    have Z2 := Lib.hid (And.intro S1.out S2.out)
    have NTB := Lib.hid (TB.out.on hb2)
    have TB := NTB; clear NTB
    have Hb2 := Lib.hid (bthen Hb1.out hb2)
    clear hb2
    go_wp2
    exact bodyPost_ret (v := .tuple #[.int .i64 0, .int .i64 0, .bool false]) (by simp [results, Tryz.results31, go_sem]) rfl ⟨by rw [HV.out], Hb2.out⟩
  cases l
  · have HV := Lib.hid (HN.out (by simp))
    go_enter Tryz.func31, Tryz.ntmps31
    go_wp2_with fail
    refine (Hf.out _).mono ?_; rintro e w3 ⟨rfl, hb3⟩
    have S3 := Lib.hid (show w.heap.size + 1 ≤ w3.heap.size by have h9 := hb3.size; (try simp only [World.size_alloc, World.size_setCell, World.size_drew] at h9); omega)
    have NTB := Lib.hid ((Blk.new w 29 #[.int .i64 a, .int .i64 b]).on hb3)
    have TB := NTB; clear NTB
    have Hb3 := Lib.hid (bthen (bal (Below.refl w.heap.size w) (Obj.cells #[.int .i64 a, .int .i64 b] 29)) hb3)
    clear hb3
    have qTB0 : w3.cell? ⟨w.heap.size, 0, none⟩ = some (.int .i64 a) := TB.out.cell 0
    have qTB1 : w3.cell? ⟨w.heap.size, 1, none⟩ = some (.int .i64 b) := TB.out.cell 1
    have qTBl := TB.out.lt
    go_wp2_with fail
    clear qTB0 qTB1 qTBl
    refine (Hu.out _).mono ?_; rintro e w4 ⟨rfl, hb4⟩
    have S4 := Lib.hid (show w3.heap.size + 0 ≤ w4.heap.size by have h9 := hb4.size; (try simp only [World.size_alloc, World.size_setCell, World.size_drew] at h9); omega)
    have Z4 := Lib.hid (And.intro S3.out S4.out)
    have NTB := Lib.hid (TB.out.on hb4)
    have TB := NTB; clear NTB
    have Hb4 := Lib.hid (bthen Hb3.out hb4)
    clear hb4
    go_wp2
    exact bodyPost_ret (v := .tuple #[.int .i64 0, .int .i64 0, .bool false]) (by simp [results, Tryz.results31, go_sem]) rfl ⟨by rw [HV.out], Hb4.out⟩
  have HV := Lib.hid (HY.out rfl rfl)
  go_enter Tryz.func31, Tryz.ntmps31
  go_wp2_with fail
  refine (Hf.out _).mono ?_; rintro e w5 ⟨rfl, hb5⟩
  have S5 := Lib.hid (show w.heap.size + 1 ≤ w5.heap.size by have h9 := hb5.size; (try simp only [World.size_alloc, World.size_setCell, World.size_drew] at h9); omega)
  have NTB := Lib.hid ((Blk.new w 29 #[.int .i64 a, .int .i64 b]).on hb5)
  have TB := NTB; clear NTB
  have Hb5 := Lib.hid (bthen (bal (Below.refl w.heap.size w) (Obj.cells #[.int .i64 a, .int .i64 b] 29)) hb5)
  clear hb5
  have qTB0 : w5.cell? ⟨w.heap.size, 0, none⟩ = some (.int .i64 a) := TB.out.cell 0
  have qTB1 : w5.cell? ⟨w.heap.size, 1, none⟩ = some (.int .i64 b) := TB.out.cell 1
  have qTBl := TB.out.lt
  go_wp2_with fail
  clear qTB0 qTB1 qTBl
  refine (Hu.out _).mono ?_; rintro e w6 ⟨rfl, hb6⟩
  have S6 := Lib.hid (show w5.heap.size + 0 ≤ w6.heap.size by have h9 := hb6.size; (try simp only [World.size_alloc, World.size_setCell, World.size_drew] at h9); omega)
  have Z6 := Lib.hid (And.intro S5.out S6.out)
  have NTB := Lib.hid (TB.out.on hb6)
  have TB := NTB; clear NTB
  have Hb6 := Lib.hid (bthen Hb5.out hb6)
  clear hb6
  go_wp2
  exact bodyPost_ret (v := .tuple #[.int .i64 m, .int .i64 (u + v - 2), .bool true]) (by simp [results, Tryz.results31, go_sem]) rfl ⟨by rw [HV.out], Hb6.out⟩
end
section
open Go Go.RowKit Go.Lib

/-- The plain model: a, b, scale, shift. -/
def pmA (a b : Int) : Int := if a.tmod 3 = 0 then b - 3 * a.tdiv 3 * a.tdiv 3 else 81 * b - 27 * a * a
def pmB (a b : Int) : Int := if a.tmod 3 = 0 then 2 * a.tdiv 3 * a.tdiv 3 * a.tdiv 3 - a.tdiv 3 * b else 54 * a * a * a - 243 * a * b
structure PmW (a b : Int) : Prop where
  x1 : -8100 ≤ 27 * a ∧ 27 * a ≤ 8100
  x2 : 0 ≤ 27 * a * a ∧ 27 * a * a ≤ 2430000
  x3 : -16200 ≤ 54 * a ∧ 54 * a ≤ 16200
  x4 : -4860000 ≤ 54 * a * a ∧ 54 * a * a ≤ 4860000
  x5 : -1458000000 ≤ 54 * a * a * a ∧ 54 * a * a * a ≤ 1458000000
  x6 : -72900 ≤ 243 * a ∧ 243 * a ≤ 72900
  x7 : -21870000 ≤ 243 * a * b ∧ 243 * a * b ≤ 21870000
structure PmE (e b : Int) : Prop where
  x1 : -300 ≤ 3 * e ∧ 3 * e ≤ 300
  x2 : -30000 ≤ 3 * e * e ∧ 3 * e * e ≤ 30000
  x3 : -200 ≤ 2 * e ∧ 2 * e ≤ 200
  x4 : -20000 ≤ 2 * e * e ∧ 2 * e * e ≤ 20000
  x5 : -2000000 ≤ 2 * e * e * e ∧ 2 * e * e * e ≤ 2000000
  x6 : -30000 ≤ e * b ∧ e * b ≤ 30000
theorem pm_w {a b : Int} (ha : -300 ≤ a ∧ a ≤ 300) (hb : -300 ≤ b ∧ b ≤ 300) : PmW a b := by
  have h2 := mul_bd (27 * a) a 8100 300 (by omega) (by omega) ha.1 ha.2
  have h4 := mul_bd (54 * a) a 16200 300 (by omega) (by omega) ha.1 ha.2
  have h5 := mul_bd (54 * a * a) a 4860000 300 h4.1 h4.2 ha.1 ha.2
  have h7 := mul_bd (243 * a) b 72900 300 (by omega) (by omega) hb.1 hb.2
  have hs := sq_bd ha
  have h9 : 27 * a * a = 27 * (a * a) := by rw [Int.mul_assoc]
  exact ⟨by omega, ⟨by rw [h9]; omega, by omega⟩, by omega, by omega, by omega, by omega, by omega⟩
theorem pm_e {e b : Int} (he : -100 ≤ e ∧ e ≤ 100) (hb : -300 ≤ b ∧ b ≤ 300) : PmE e b := by
  have h2 := mul_bd (3 * e) e 300 100 (by omega) (by omega) he.1 he.2
  have h4 := mul_bd (2 * e) e 200 100 (by omega) (by omega) he.1 he.2
  have h5 := mul_bd (2 * e * e) e 20000 100 h4.1 h4.2 he.1 he.2
  have h7 := mul_bd e b 100 300 he.1 he.2 hb.1 hb.2
  exact ⟨by omega, by omega, by omega, by omega, by omega, by omega⟩
set_option linter.unusedSimpArgs false in
set_option linter.unusedVariables false in
set_option maxRecDepth 8000 in
set_option maxHeartbeats 8000000 in
theorem tcPlain_any (a b : Int) (w : World) (ha : -300 ≤ a ∧ a ≤ 300) (hb : -300 ≤ b ∧ b ≤ 300) :
    Calls Tryz.prog 25 #[.agg #[.int .i64 a, .int .i64 b]] w fun e w' => (∃ x y : Int, e = .returned (.tuple #[.agg #[.int .i64 (pmA a b), .int .i64 (pmB a b)], .int .i64 x, .int .i64 y])) ∧ Below w.heap.size w w' := by
  by_cases h3 : a.tmod 3 = 0
  · have hpA := Lib.hid (show pmA a b = b - 3 * a.tdiv 3 * a.tdiv 3 by unfold pmA; rw [if_pos h3])
    have hpB := Lib.hid (show pmB a b = 2 * a.tdiv 3 * a.tdiv 3 * a.tdiv 3 - a.tdiv 3 * b by unfold pmB; rw [if_pos h3])
    have he : -100 ≤ a.tdiv 3 ∧ a.tdiv 3 ≤ 100 := by have h := Int.mul_tdiv_add_tmod a 3; omega
    obtain ⟨⟨m1, m2⟩, ⟨m3, m4⟩, ⟨m5, m6⟩, ⟨m7, m8⟩, ⟨m9, m10⟩, m11, m12⟩ := pm_e he hb
    have g1 : (a.tmod 3 == 0) = true := beq_iff_eq.2 h3
    have g2 : decide (a.tmod 3 = 0) = true := decide_eq_true h3
    generalize pmA a b = PA at *
    generalize pmB a b = PB at *
    generalize hm : a.tmod 3 = r at *
    generalize hq : a.tdiv 3 = q at *
    subst h3
    obtain ⟨he1, he2⟩ := he
    obtain ⟨hb1, hb2⟩ := hb
    go_enter Tryz.func25, Tryz.ntmps25
    go_wp2
    have R9RC := (show Blk (World.alloc (World.alloc w (Obj.cells #[.int .i64 a, .int .i64 b] 29)) (Obj.cells #[.int .i64 (b - 3 * q * q), .int .i64 (2 * q * q * q - q * b)] 24)) (w.heap.size + 1) 24 #[.int .i64 (b - 3 * q * q), .int .i64 (2 * q * q * q - q * b)] by have h9 := (Blk.new (World.alloc w (Obj.cells #[.int .i64 a, .int .i64 b] 29)) 24 #[.int .i64 (b - 3 * q * q), .int .i64 (2 * q * q * q - q * b)]); (try simp only [World.size_alloc, World.size_setCell] at h9); exact h9)
    have kRC0 := R9RC.cell 0
    have kRC1 := R9RC.cell 1
    simp at kRC0 kRC1
    exact bodyPost_ret (v := .tuple #[.agg #[.int .i64 (b - 3 * q * q), .int .i64 (2 * q * q * q - q * b)], .int .i64 1, .int .i64 q]) (by simp [results, Tryz.results25, go_sem, kRC0, kRC1]) rfl ⟨⟨_, _, by rw [hpA.out, hpB.out]⟩, (bal (bal (Below.refl w.heap.size w) (Obj.cells #[.int .i64 a, .int .i64 b] 29)) (Obj.cells #[.int .i64 (b - 3 * q * q), .int .i64 (2 * q * q * q - q * b)] 24))⟩
  · have hpA := Lib.hid (show pmA a b = 81 * b - 27 * a * a by unfold pmA; rw [if_neg h3])
    have hpB := Lib.hid (show pmB a b = 54 * a * a * a - 243 * a * b by unfold pmB; rw [if_neg h3])
    obtain ⟨⟨m1, m2⟩, ⟨m3, m4⟩, ⟨m5, m6⟩, ⟨m7, m8⟩, ⟨m9, m10⟩, ⟨m11, m12⟩, m13, m14⟩ := pm_w ha hb
    have g1 : (a.tmod 3 == 0) = false := beq_eq_false_iff_ne.2 h3
    have g2 : decide (a.tmod 3 = 0) = false := decide_eq_false h3
    generalize pmA a b = PA at *
    generalize pmB a b = PB at *
    generalize hm : a.tmod 3 = r at *
    obtain ⟨ha1, ha2⟩ := ha
    obtain ⟨hb1, hb2⟩ := hb
    go_enter Tryz.func25, Tryz.ntmps25
    go_upto_region 4 with fail
    obtain ⟨w1, hw9⟩ : ∃ x, x = (World.alloc (World.alloc w (Obj.cells #[.int .i64 a, .int .i64 b] 29)) (Obj.cells #[.int .i64 0, .int .i64 0] 24)) := ⟨_, rfl⟩
    rw [← hw9]
    have hb1 : Below ((World.alloc (World.alloc w (Obj.cells #[.int .i64 a, .int .i64 b] 29)) (Obj.cells #[.int .i64 0, .int .i64 0] 24))).heap.size (World.alloc (World.alloc w (Obj.cells #[.int .i64 a, .int .i64 b] 29)) (Obj.cells #[.int .i64 0, .int .i64 0] 24)) w1 := by rw [hw9]; exact Below.refl _ _
    have S1 := Lib.hid (show w.heap.size + 2 ≤ w1.heap.size by have h9 := hb1.size; (try simp only [World.size_alloc, World.size_setCell, World.size_drew] at h9); omega)
    have NTB := Lib.hid (((Blk.new w 29 #[.int .i64 a, .int .i64 b]).alloc (Obj.cells #[.int .i64 0, .int .i64 0] 24)).on hb1)
    have NRC := Lib.hid ((show Blk (World.alloc (World.alloc w (Obj.cells #[.int .i64 a, .int .i64 b] 29)) (Obj.cells #[.int .i64 0, .int .i64 0] 24)) (w.heap.size + 1) 24 #[.int .i64 0, .int .i64 0] by have h9 := (Blk.new (World.alloc w (Obj.cells #[.int .i64 a, .int .i64 b] 29)) 24 #[.int .i64 0, .int .i64 0]); (try simp only [World.size_alloc, World.size_setCell] at h9); exact h9).on hb1)
    have TB := NTB; clear NTB
    have RC := NRC; clear NRC
    have Hb1 := Lib.hid (bthen (bal (bal (Below.refl w.heap.size w) (Obj.cells #[.int .i64 a, .int .i64 b] 29)) (Obj.cells #[.int .i64 0, .int .i64 0] 24)) hb1)
    clear hb1
    clear hw9
    have qTB0 : w1.cell? ⟨w.heap.size, 0, none⟩ = some (.int .i64 a) := TB.out.cell 0
    have qTB1 : w1.cell? ⟨w.heap.size, 1, none⟩ = some (.int .i64 b) := TB.out.cell 1
    have qTBl := TB.out.lt
    have qRC0 : w1.cell? ⟨w.heap.size + 1, 0, none⟩ = some (.int .i64 0) := RC.out.cell 0
    have qRC1 : w1.cell? ⟨w.heap.size + 1, 1, none⟩ = some (.int .i64 0) := RC.out.cell 1
    have qRCl := RC.out.lt
    have qRCf0 := RC.out.frozen 0
    have qRCf1 := RC.out.frozen 1
    have nn : w.heap.size ≠ w.heap.size + 1 := by have := S1.out; (try simp only [World.size_alloc, World.size_setCell, World.size_drew]); omega
    have nn2 : w.heap.size + 1 ≠ w.heap.size := fun e => nn e.symm
    have HS : Hid (∀ w', Below (w.heap.size + 1) w1 w' → (w'.cell? ⟨w.heap.size, 0, none⟩ = some (.int .i64 a) ∧ w'.cell? ⟨w.heap.size, 1, none⟩ = some (.int .i64 b) ∧ Below (w.heap.size + 1) w1 w')) := Lib.hid (fun w' hw => ⟨(hw.cell (p := ⟨w.heap.size, 0, none⟩) (by show w.heap.size < w.heap.size + 1; omega)).trans qTB0, (hw.cell (p := ⟨w.heap.size, 1, none⟩) (by show w.heap.size < w.heap.size + 1; omega)).trans qTB1, hw⟩)
    have hdt : Below (w.heap.size + 1) w1 w1 := Below.refl _ _
    have hwA := Lib.hid (show IntKind.i64.wrap (IntKind.i64.wrap (81 * b) - IntKind.i64.wrap (IntKind.i64.wrap (27 * a) * a)) = 81 * b - 27 * a * a by rw [wrap_in (x := 81 * b) (by omega) (by omega), wrap_in (x := 27 * a) (by omega) (by omega), wrap_in (x := 27 * a * a) (by omega) (by omega), wrap_in (by omega) (by omega)])
    have hwB := Lib.hid (show IntKind.i64.wrap (IntKind.i64.wrap (IntKind.i64.wrap (IntKind.i64.wrap (54 * a) * a) * a) - IntKind.i64.wrap (IntKind.i64.wrap (243 * a) * b)) = 54 * a * a * a - 243 * a * b by rw [wrap_in (x := 54 * a) (by omega) (by omega), wrap_in (x := 54 * a * a) (by omega) (by omega), wrap_in (x := 54 * a * a * a) (by omega) (by omega), wrap_in (x := 243 * a) (by omega) (by omega), wrap_in (x := 243 * a * b) (by omega) (by omega), wrap_in (by omega) (by omega)])
    go_region_held3 (fun w' => w'.cell? ⟨w.heap.size, 0, none⟩ = some (.int .i64 a) ∧ w'.cell? ⟨w.heap.size, 1, none⟩ = some (.int .i64 b) ∧ Below (w.heap.size + 1) w1 w') ((go_split_ands; refine HS.out _ ?_; repeat (first | (with_reducible assumption) | (with_reducible refine Below.drew ?_) | (with_reducible refine Below.setCell ?_ (by dsimp only; omega) _)))) (fail)
    go_wp2
    have R9 := (show Blk (World.drew (World.setCell (World.setCell w1 ⟨w.heap.size + 1, 0, none⟩ (.int .i64 (IntKind.i64.wrap (IntKind.i64.wrap (81 * b) - IntKind.i64.wrap (IntKind.i64.wrap (27 * a) * a))))) ⟨w.heap.size + 1, 1, none⟩ (.int .i64 (IntKind.i64.wrap (IntKind.i64.wrap (IntKind.i64.wrap (IntKind.i64.wrap (54 * a) * a) * a) - IntKind.i64.wrap (IntKind.i64.wrap (243 * a) * b)))))) (w.heap.size + 1) 24 #[.int .i64 (IntKind.i64.wrap (IntKind.i64.wrap (81 * b) - IntKind.i64.wrap (IntKind.i64.wrap (27 * a) * a))), .int .i64 (IntKind.i64.wrap (IntKind.i64.wrap (IntKind.i64.wrap (IntKind.i64.wrap (54 * a) * a) * a) - IntKind.i64.wrap (IntKind.i64.wrap (243 * a) * b)))] by have h9 := (Blk.drew ((RC.out.set 0 (.int .i64 (IntKind.i64.wrap (IntKind.i64.wrap (81 * b) - IntKind.i64.wrap (IntKind.i64.wrap (27 * a) * a))))).set 1 (.int .i64 (IntKind.i64.wrap (IntKind.i64.wrap (IntKind.i64.wrap (IntKind.i64.wrap (54 * a) * a) * a) - IntKind.i64.wrap (IntKind.i64.wrap (243 * a) * b)))))); simpa using h9)
    have k0 := R9.cell 0
    have k1 := R9.cell 1
    simp at k0 k1
    exact bodyPost_ret (v := .tuple #[.agg #[.int .i64 (IntKind.i64.wrap (IntKind.i64.wrap (81 * b) - IntKind.i64.wrap (IntKind.i64.wrap (27 * a) * a))), .int .i64 (IntKind.i64.wrap (IntKind.i64.wrap (IntKind.i64.wrap (IntKind.i64.wrap (54 * a) * a) * a) - IntKind.i64.wrap (IntKind.i64.wrap (243 * a) * b)))], .int .i64 3, .int .i64 (IntKind.i64.wrap (3 * a))]) (by simp [results, Tryz.results25, go_sem, k0, k1]) rfl ⟨⟨_, _, by rw [hpA.out, hpB.out, hwA.out, hwB.out]⟩, (Below.drew (bst (bst Hb1.out (p := ⟨w.heap.size + 1, 0, none⟩) (show w.heap.size ≤ w.heap.size + 1 by have := S1.out; (try simp only [World.size_alloc, World.size_setCell, World.size_drew]); omega) (.int .i64 (IntKind.i64.wrap (IntKind.i64.wrap (81 * b) - IntKind.i64.wrap (IntKind.i64.wrap (27 * a) * a))))) (p := ⟨w.heap.size + 1, 1, none⟩) (show w.heap.size ≤ w.heap.size + 1 by have := S1.out; (try simp only [World.size_alloc, World.size_setCell, World.size_drew]); omega) (.int .i64 (IntKind.i64.wrap (IntKind.i64.wrap (IntKind.i64.wrap (IntKind.i64.wrap (54 * a) * a) * a) - IntKind.i64.wrap (IntKind.i64.wrap (243 * a) * b))))))⟩

set_option linter.unusedSimpArgs false in
set_option linter.unusedVariables false in
set_option maxRecDepth 8000 in
set_option maxHeartbeats 8000000 in
theorem plainModel_any (a b : Int) (w : World) (ha : -300 ≤ a ∧ a ≤ 300) (hb : -300 ≤ b ∧ b ≤ 300) :
    Calls Tryz.prog 30 #[.agg #[.int .i64 a, .int .i64 b]] w fun e w' => (∃ z : Int, e = .returned (.tuple #[.agg #[.int .i64 (if curveB (pmA a b) (pmB a b) = true then pmA a b else 0), .int .i64 (if curveB (pmA a b) (pmB a b) = true then pmB a b else 0)], .int .i64 z, .bool (curveB (pmA a b) (pmB a b))])) ∧ Below w.heap.size w w' := by
  obtain ⟨⟨m1, m2⟩, ⟨m3, m4⟩, ⟨m5, m6⟩, ⟨m7, m8⟩, ⟨m9, m10⟩, ⟨m11, m12⟩, m13, m14⟩ := pm_w ha hb
  have Hc := Lib.hid (fun w9 => isCurve_any (pmA a b) (pmB a b) w9)
  obtain ⟨k, hk⟩ : ∃ k, curveB (pmA a b) (pmB a b) = k := ⟨_, rfl⟩
  rw [hk]
  rw [hk] at Hc
  clear hk
  by_cases h3 : a.tmod 3 = 0
  · have hpA := Lib.hid (show pmA a b = b - 3 * a.tdiv 3 * a.tdiv 3 by unfold pmA; rw [if_pos h3])
    have hpB := Lib.hid (show pmB a b = 2 * a.tdiv 3 * a.tdiv 3 * a.tdiv 3 - a.tdiv 3 * b by unfold pmB; rw [if_pos h3])
    have he : -100 ≤ a.tdiv 3 ∧ a.tdiv 3 ≤ 100 := by have h := Int.mul_tdiv_add_tmod a 3; omega
    obtain ⟨⟨n1, n2⟩, ⟨n3, n4⟩, ⟨n5, n6⟩, ⟨n7, n8⟩, ⟨n9, n10⟩, n11, n12⟩ := pm_e he hb
    rw [hpA.out, hpB.out]
    rw [hpA.out, hpB.out] at Hc
    clear hpA hpB
    generalize hm : a.tmod 3 = r at *
    generalize hq : a.tdiv 3 = q at *
    subst h3
    obtain ⟨he1, he2⟩ := he
    obtain ⟨ha1, ha2⟩ := ha
    obtain ⟨hb1, hb2⟩ := hb
    cases k
    · go_enter Tryz.func30, Tryz.ntmps30
      go_wp2_with fail
      refine (Hc.out _).mono ?_; rintro e w1 ⟨rfl, hb1⟩
      have S1 := Lib.hid (show w.heap.size + 3 ≤ w1.heap.size by have h9 := hb1.size; (try simp only [World.size_alloc, World.size_setCell, World.size_drew] at h9); omega)
      have NTB := Lib.hid ((((Blk.new w 29 #[.int .i64 a, .int .i64 b]).alloc (Obj.cells #[.int .i64 0, .int .i64 0] 24)).alloc (Obj.cells #[.int .i64 (b - 3 * q * q), .int .i64 (2 * q * q * q - q * b)] 24)).on hb1)
      have NRC := Lib.hid (((show Blk (World.alloc (World.alloc w (Obj.cells #[.int .i64 a, .int .i64 b] 29)) (Obj.cells #[.int .i64 0, .int .i64 0] 24)) (w.heap.size + 1) 24 #[.int .i64 0, .int .i64 0] by have h9 := (Blk.new (World.alloc w (Obj.cells #[.int .i64 a, .int .i64 b] 29)) 24 #[.int .i64 0, .int .i64 0]); (try simp only [World.size_alloc, World.size_setCell] at h9); exact h9).alloc (Obj.cells #[.int .i64 (b - 3 * q * q), .int .i64 (2 * q * q * q - q * b)] 24)).on hb1)
      have NBL := Lib.hid ((show Blk (World.alloc (World.alloc (World.alloc w (Obj.cells #[.int .i64 a, .int .i64 b] 29)) (Obj.cells #[.int .i64 0, .int .i64 0] 24)) (Obj.cells #[.int .i64 (b - 3 * q * q), .int .i64 (2 * q * q * q - q * b)] 24)) (w.heap.size + 1 + 1) 24 #[.int .i64 (b - 3 * q * q), .int .i64 (2 * q * q * q - q * b)] by have h9 := (Blk.new (World.alloc (World.alloc w (Obj.cells #[.int .i64 a, .int .i64 b] 29)) (Obj.cells #[.int .i64 0, .int .i64 0] 24)) 24 #[.int .i64 (b - 3 * q * q), .int .i64 (2 * q * q * q - q * b)]); (try simp only [World.size_alloc, World.size_setCell] at h9); exact h9).on hb1)
      have TB := NTB; clear NTB
      have RC := NRC; clear NRC
      have BL := NBL; clear NBL
      have Hb1 := Lib.hid (bthen (bal (bal (bal (Below.refl w.heap.size w) (Obj.cells #[.int .i64 a, .int .i64 b] 29)) (Obj.cells #[.int .i64 0, .int .i64 0] 24)) (Obj.cells #[.int .i64 (b - 3 * q * q), .int .i64 (2 * q * q * q - q * b)] 24)) hb1)
      clear hb1
      have qBL0 : w1.cell? ⟨w.heap.size + 1 + 1, 0, none⟩ = some (.int .i64 (b - 3 * q * q)) := BL.out.cell 0
      have qBL1 : w1.cell? ⟨w.heap.size + 1 + 1, 1, none⟩ = some (.int .i64 (2 * q * q * q - q * b)) := BL.out.cell 1
      have qBLl := BL.out.lt
      have qRC0 : w1.cell? ⟨w.heap.size + 1, 0, none⟩ = some (.int .i64 0) := RC.out.cell 0
      have qRC1 : w1.cell? ⟨w.heap.size + 1, 1, none⟩ = some (.int .i64 0) := RC.out.cell 1
      have qRCl := RC.out.lt
      have qRCf0 := RC.out.frozen 0
      have qRCf1 := RC.out.frozen 1
      have nBLRC : w.heap.size + 1 + 1 ≠ w.heap.size + 1 := by have := S1.out; (try simp only [World.size_alloc, World.size_setCell, World.size_drew]); omega
      have nRCBL : w.heap.size + 1 ≠ w.heap.size + 1 + 1 := fun e => nBLRC e.symm
      go_wp2
      clear qBL0 qBL1 qBLl qRC0 qRC1 qRCl qRCf0 qRCf1 nBLRC nRCBL
      have R9RC := (show Blk (World.setCell (World.setCell w1 ⟨w.heap.size + 1, 0, none⟩ (.int .i64 0)) ⟨w.heap.size + 1, 1, none⟩ (.int .i64 0)) (w.heap.size + 1) 24 #[.int .i64 0, .int .i64 0] by have h9 := ((RC.out.set 0 (.int .i64 0)).set 1 (.int .i64 0)); simpa using h9)
      have kRC0 := R9RC.cell 0
      have kRC1 := R9RC.cell 1
      simp at kRC0 kRC1
      exact bodyPost_ret (v := .tuple #[.agg #[.int .i64 0, .int .i64 0], .int .i64 0, .bool false]) (by simp [results, Tryz.results30, go_sem, kRC0, kRC1]) rfl ⟨⟨_, rfl⟩, (bst (bst Hb1.out (p := ⟨w.heap.size + 1, 0, none⟩) (show w.heap.size ≤ w.heap.size + 1 by have := S1.out; (try simp only [World.size_alloc, World.size_setCell, World.size_drew]); omega) (.int .i64 0)) (p := ⟨w.heap.size + 1, 1, none⟩) (show w.heap.size ≤ w.heap.size + 1 by have := S1.out; (try simp only [World.size_alloc, World.size_setCell, World.size_drew]); omega) (.int .i64 0))⟩
    · go_enter Tryz.func30, Tryz.ntmps30
      go_wp2_with fail
      refine (Hc.out _).mono ?_; rintro e w2 ⟨rfl, hb2⟩
      have S2 := Lib.hid (show w.heap.size + 3 ≤ w2.heap.size by have h9 := hb2.size; (try simp only [World.size_alloc, World.size_setCell, World.size_drew] at h9); omega)
      have NTB := Lib.hid ((((Blk.new w 29 #[.int .i64 a, .int .i64 b]).alloc (Obj.cells #[.int .i64 0, .int .i64 0] 24)).alloc (Obj.cells #[.int .i64 (b - 3 * q * q), .int .i64 (2 * q * q * q - q * b)] 24)).on hb2)
      have NRC := Lib.hid (((show Blk (World.alloc (World.alloc w (Obj.cells #[.int .i64 a, .int .i64 b] 29)) (Obj.cells #[.int .i64 0, .int .i64 0] 24)) (w.heap.size + 1) 24 #[.int .i64 0, .int .i64 0] by have h9 := (Blk.new (World.alloc w (Obj.cells #[.int .i64 a, .int .i64 b] 29)) 24 #[.int .i64 0, .int .i64 0]); (try simp only [World.size_alloc, World.size_setCell] at h9); exact h9).alloc (Obj.cells #[.int .i64 (b - 3 * q * q), .int .i64 (2 * q * q * q - q * b)] 24)).on hb2)
      have NBL := Lib.hid ((show Blk (World.alloc (World.alloc (World.alloc w (Obj.cells #[.int .i64 a, .int .i64 b] 29)) (Obj.cells #[.int .i64 0, .int .i64 0] 24)) (Obj.cells #[.int .i64 (b - 3 * q * q), .int .i64 (2 * q * q * q - q * b)] 24)) (w.heap.size + 1 + 1) 24 #[.int .i64 (b - 3 * q * q), .int .i64 (2 * q * q * q - q * b)] by have h9 := (Blk.new (World.alloc (World.alloc w (Obj.cells #[.int .i64 a, .int .i64 b] 29)) (Obj.cells #[.int .i64 0, .int .i64 0] 24)) 24 #[.int .i64 (b - 3 * q * q), .int .i64 (2 * q * q * q - q * b)]); (try simp only [World.size_alloc, World.size_setCell] at h9); exact h9).on hb2)
      have TB := NTB; clear NTB
      have RC := NRC; clear NRC
      have BL := NBL; clear NBL
      have Hb2 := Lib.hid (bthen (bal (bal (bal (Below.refl w.heap.size w) (Obj.cells #[.int .i64 a, .int .i64 b] 29)) (Obj.cells #[.int .i64 0, .int .i64 0] 24)) (Obj.cells #[.int .i64 (b - 3 * q * q), .int .i64 (2 * q * q * q - q * b)] 24)) hb2)
      clear hb2
      have qBL0 : w2.cell? ⟨w.heap.size + 1 + 1, 0, none⟩ = some (.int .i64 (b - 3 * q * q)) := BL.out.cell 0
      have qBL1 : w2.cell? ⟨w.heap.size + 1 + 1, 1, none⟩ = some (.int .i64 (2 * q * q * q - q * b)) := BL.out.cell 1
      have qBLl := BL.out.lt
      have qRC0 : w2.cell? ⟨w.heap.size + 1, 0, none⟩ = some (.int .i64 0) := RC.out.cell 0
      have qRC1 : w2.cell? ⟨w.heap.size + 1, 1, none⟩ = some (.int .i64 0) := RC.out.cell 1
      have qRCl := RC.out.lt
      have qRCf0 := RC.out.frozen 0
      have qRCf1 := RC.out.frozen 1
      have nBLRC : w.heap.size + 1 + 1 ≠ w.heap.size + 1 := by have := S2.out; (try simp only [World.size_alloc, World.size_setCell, World.size_drew]); omega
      have nRCBL : w.heap.size + 1 ≠ w.heap.size + 1 + 1 := fun e => nBLRC e.symm
      go_wp2
      clear qBL0 qBL1 qBLl qRC0 qRC1 qRCl qRCf0 qRCf1 nBLRC nRCBL
      have R9RC := (show Blk (World.setCell (World.setCell w2 ⟨w.heap.size + 1, 0, none⟩ (.int .i64 (b - 3 * q * q))) ⟨w.heap.size + 1, 1, none⟩ (.int .i64 (2 * q * q * q - q * b))) (w.heap.size + 1) 24 #[.int .i64 (b - 3 * q * q), .int .i64 (2 * q * q * q - q * b)] by have h9 := ((RC.out.set 0 (.int .i64 (b - 3 * q * q))).set 1 (.int .i64 (2 * q * q * q - q * b))); simpa using h9)
      have kRC0 := R9RC.cell 0
      have kRC1 := R9RC.cell 1
      simp at kRC0 kRC1
      exact bodyPost_ret (v := .tuple #[.agg #[.int .i64 (b - 3 * q * q), .int .i64 (2 * q * q * q - q * b)], .int .i64 (q), .bool true]) (by simp [results, Tryz.results30, go_sem, kRC0, kRC1]) rfl ⟨⟨_, rfl⟩, (bst (bst Hb2.out (p := ⟨w.heap.size + 1, 0, none⟩) (show w.heap.size ≤ w.heap.size + 1 by have := S2.out; (try simp only [World.size_alloc, World.size_setCell, World.size_drew]); omega) (.int .i64 (b - 3 * q * q))) (p := ⟨w.heap.size + 1, 1, none⟩) (show w.heap.size ≤ w.heap.size + 1 by have := S2.out; (try simp only [World.size_alloc, World.size_setCell, World.size_drew]); omega) (.int .i64 (2 * q * q * q - q * b)))⟩
  · have hpA := Lib.hid (show pmA a b = 81 * b - 27 * a * a by unfold pmA; rw [if_neg h3])
    have hpB := Lib.hid (show pmB a b = 54 * a * a * a - 243 * a * b by unfold pmB; rw [if_neg h3])
    have g1 : (a.tmod 3 == 0) = false := beq_eq_false_iff_ne.2 h3
    have g2 : decide (a.tmod 3 = 0) = false := decide_eq_false h3
    rw [hpA.out, hpB.out]
    rw [hpA.out, hpB.out] at Hc
    clear hpA hpB
    generalize hm : a.tmod 3 = r at *
    obtain ⟨ha1, ha2⟩ := ha
    obtain ⟨hb1, hb2⟩ := hb
    cases k
    · go_enter Tryz.func30, Tryz.ntmps30
      go_wp2_with fail
      refine (Hc.out _).mono ?_; rintro e w1 ⟨rfl, hb1⟩
      have S1 := Lib.hid (show w.heap.size + 3 ≤ w1.heap.size by have h9 := hb1.size; (try simp only [World.size_alloc, World.size_setCell, World.size_drew] at h9); omega)
      have NTB := Lib.hid ((((Blk.new w 29 #[.int .i64 a, .int .i64 b]).alloc (Obj.cells #[.int .i64 0, .int .i64 0] 24)).alloc (Obj.cells #[.int .i64 (81 * b - 27 * a * a), .int .i64 (54 * a * a * a - 243 * a * b)] 24)).on hb1)
      have NRC := Lib.hid (((show Blk (World.alloc (World.alloc w (Obj.cells #[.int .i64 a, .int .i64 b] 29)) (Obj.cells #[.int .i64 0, .int .i64 0] 24)) (w.heap.size + 1) 24 #[.int .i64 0, .int .i64 0] by have h9 := (Blk.new (World.alloc w (Obj.cells #[.int .i64 a, .int .i64 b] 29)) 24 #[.int .i64 0, .int .i64 0]); (try simp only [World.size_alloc, World.size_setCell] at h9); exact h9).alloc (Obj.cells #[.int .i64 (81 * b - 27 * a * a), .int .i64 (54 * a * a * a - 243 * a * b)] 24)).on hb1)
      have NBL := Lib.hid ((show Blk (World.alloc (World.alloc (World.alloc w (Obj.cells #[.int .i64 a, .int .i64 b] 29)) (Obj.cells #[.int .i64 0, .int .i64 0] 24)) (Obj.cells #[.int .i64 (81 * b - 27 * a * a), .int .i64 (54 * a * a * a - 243 * a * b)] 24)) (w.heap.size + 1 + 1) 24 #[.int .i64 (81 * b - 27 * a * a), .int .i64 (54 * a * a * a - 243 * a * b)] by have h9 := (Blk.new (World.alloc (World.alloc w (Obj.cells #[.int .i64 a, .int .i64 b] 29)) (Obj.cells #[.int .i64 0, .int .i64 0] 24)) 24 #[.int .i64 (81 * b - 27 * a * a), .int .i64 (54 * a * a * a - 243 * a * b)]); (try simp only [World.size_alloc, World.size_setCell] at h9); exact h9).on hb1)
      have TB := NTB; clear NTB
      have RC := NRC; clear NRC
      have BL := NBL; clear NBL
      have Hb1 := Lib.hid (bthen (bal (bal (bal (Below.refl w.heap.size w) (Obj.cells #[.int .i64 a, .int .i64 b] 29)) (Obj.cells #[.int .i64 0, .int .i64 0] 24)) (Obj.cells #[.int .i64 (81 * b - 27 * a * a), .int .i64 (54 * a * a * a - 243 * a * b)] 24)) hb1)
      clear hb1
      have qBL0 : w1.cell? ⟨w.heap.size + 1 + 1, 0, none⟩ = some (.int .i64 (81 * b - 27 * a * a)) := BL.out.cell 0
      have qBL1 : w1.cell? ⟨w.heap.size + 1 + 1, 1, none⟩ = some (.int .i64 (54 * a * a * a - 243 * a * b)) := BL.out.cell 1
      have qBLl := BL.out.lt
      have qRC0 : w1.cell? ⟨w.heap.size + 1, 0, none⟩ = some (.int .i64 0) := RC.out.cell 0
      have qRC1 : w1.cell? ⟨w.heap.size + 1, 1, none⟩ = some (.int .i64 0) := RC.out.cell 1
      have qRCl := RC.out.lt
      have qRCf0 := RC.out.frozen 0
      have qRCf1 := RC.out.frozen 1
      have nBLRC : w.heap.size + 1 + 1 ≠ w.heap.size + 1 := by have := S1.out; (try simp only [World.size_alloc, World.size_setCell, World.size_drew]); omega
      have nRCBL : w.heap.size + 1 ≠ w.heap.size + 1 + 1 := fun e => nBLRC e.symm
      go_wp2
      clear qBL0 qBL1 qBLl qRC0 qRC1 qRCl qRCf0 qRCf1 nBLRC nRCBL
      have R9RC := (show Blk (World.setCell (World.setCell w1 ⟨w.heap.size + 1, 0, none⟩ (.int .i64 0)) ⟨w.heap.size + 1, 1, none⟩ (.int .i64 0)) (w.heap.size + 1) 24 #[.int .i64 0, .int .i64 0] by have h9 := ((RC.out.set 0 (.int .i64 0)).set 1 (.int .i64 0)); simpa using h9)
      have kRC0 := R9RC.cell 0
      have kRC1 := R9RC.cell 1
      simp at kRC0 kRC1
      exact bodyPost_ret (v := .tuple #[.agg #[.int .i64 0, .int .i64 0], .int .i64 0, .bool false]) (by simp [results, Tryz.results30, go_sem, kRC0, kRC1]) rfl ⟨⟨_, rfl⟩, (bst (bst Hb1.out (p := ⟨w.heap.size + 1, 0, none⟩) (show w.heap.size ≤ w.heap.size + 1 by have := S1.out; (try simp only [World.size_alloc, World.size_setCell, World.size_drew]); omega) (.int .i64 0)) (p := ⟨w.heap.size + 1, 1, none⟩) (show w.heap.size ≤ w.heap.size + 1 by have := S1.out; (try simp only [World.size_alloc, World.size_setCell, World.size_drew]); omega) (.int .i64 0))⟩
    · go_enter Tryz.func30, Tryz.ntmps30
      go_wp2_with fail
      refine (Hc.out _).mono ?_; rintro e w2 ⟨rfl, hb2⟩
      have S2 := Lib.hid (show w.heap.size + 3 ≤ w2.heap.size by have h9 := hb2.size; (try simp only [World.size_alloc, World.size_setCell, World.size_drew] at h9); omega)
      have NTB := Lib.hid ((((Blk.new w 29 #[.int .i64 a, .int .i64 b]).alloc (Obj.cells #[.int .i64 0, .int .i64 0] 24)).alloc (Obj.cells #[.int .i64 (81 * b - 27 * a * a), .int .i64 (54 * a * a * a - 243 * a * b)] 24)).on hb2)
      have NRC := Lib.hid (((show Blk (World.alloc (World.alloc w (Obj.cells #[.int .i64 a, .int .i64 b] 29)) (Obj.cells #[.int .i64 0, .int .i64 0] 24)) (w.heap.size + 1) 24 #[.int .i64 0, .int .i64 0] by have h9 := (Blk.new (World.alloc w (Obj.cells #[.int .i64 a, .int .i64 b] 29)) 24 #[.int .i64 0, .int .i64 0]); (try simp only [World.size_alloc, World.size_setCell] at h9); exact h9).alloc (Obj.cells #[.int .i64 (81 * b - 27 * a * a), .int .i64 (54 * a * a * a - 243 * a * b)] 24)).on hb2)
      have NBL := Lib.hid ((show Blk (World.alloc (World.alloc (World.alloc w (Obj.cells #[.int .i64 a, .int .i64 b] 29)) (Obj.cells #[.int .i64 0, .int .i64 0] 24)) (Obj.cells #[.int .i64 (81 * b - 27 * a * a), .int .i64 (54 * a * a * a - 243 * a * b)] 24)) (w.heap.size + 1 + 1) 24 #[.int .i64 (81 * b - 27 * a * a), .int .i64 (54 * a * a * a - 243 * a * b)] by have h9 := (Blk.new (World.alloc (World.alloc w (Obj.cells #[.int .i64 a, .int .i64 b] 29)) (Obj.cells #[.int .i64 0, .int .i64 0] 24)) 24 #[.int .i64 (81 * b - 27 * a * a), .int .i64 (54 * a * a * a - 243 * a * b)]); (try simp only [World.size_alloc, World.size_setCell] at h9); exact h9).on hb2)
      have TB := NTB; clear NTB
      have RC := NRC; clear NRC
      have BL := NBL; clear NBL
      have Hb2 := Lib.hid (bthen (bal (bal (bal (Below.refl w.heap.size w) (Obj.cells #[.int .i64 a, .int .i64 b] 29)) (Obj.cells #[.int .i64 0, .int .i64 0] 24)) (Obj.cells #[.int .i64 (81 * b - 27 * a * a), .int .i64 (54 * a * a * a - 243 * a * b)] 24)) hb2)
      clear hb2
      have qBL0 : w2.cell? ⟨w.heap.size + 1 + 1, 0, none⟩ = some (.int .i64 (81 * b - 27 * a * a)) := BL.out.cell 0
      have qBL1 : w2.cell? ⟨w.heap.size + 1 + 1, 1, none⟩ = some (.int .i64 (54 * a * a * a - 243 * a * b)) := BL.out.cell 1
      have qBLl := BL.out.lt
      have qRC0 : w2.cell? ⟨w.heap.size + 1, 0, none⟩ = some (.int .i64 0) := RC.out.cell 0
      have qRC1 : w2.cell? ⟨w.heap.size + 1, 1, none⟩ = some (.int .i64 0) := RC.out.cell 1
      have qRCl := RC.out.lt
      have qRCf0 := RC.out.frozen 0
      have qRCf1 := RC.out.frozen 1
      have nBLRC : w.heap.size + 1 + 1 ≠ w.heap.size + 1 := by have := S2.out; (try simp only [World.size_alloc, World.size_setCell, World.size_drew]); omega
      have nRCBL : w.heap.size + 1 ≠ w.heap.size + 1 + 1 := fun e => nBLRC e.symm
      go_wp2
      clear qBL0 qBL1 qBLl qRC0 qRC1 qRCl qRCf0 qRCf1 nBLRC nRCBL
      have R9RC := (show Blk (World.setCell (World.setCell w2 ⟨w.heap.size + 1, 0, none⟩ (.int .i64 (81 * b - 27 * a * a))) ⟨w.heap.size + 1, 1, none⟩ (.int .i64 (54 * a * a * a - 243 * a * b))) (w.heap.size + 1) 24 #[.int .i64 (81 * b - 27 * a * a), .int .i64 (54 * a * a * a - 243 * a * b)] by have h9 := ((RC.out.set 0 (.int .i64 (81 * b - 27 * a * a))).set 1 (.int .i64 (54 * a * a * a - 243 * a * b))); simpa using h9)
      have kRC0 := R9RC.cell 0
      have kRC1 := R9RC.cell 1
      simp at kRC0 kRC1
      exact bodyPost_ret (v := .tuple #[.agg #[.int .i64 (81 * b - 27 * a * a), .int .i64 (54 * a * a * a - 243 * a * b)], .int .i64 (3 * a), .bool true]) (by simp [results, Tryz.results30, go_sem, kRC0, kRC1]) rfl ⟨⟨_, rfl⟩, (bst (bst Hb2.out (p := ⟨w.heap.size + 1, 0, none⟩) (show w.heap.size ≤ w.heap.size + 1 by have := S2.out; (try simp only [World.size_alloc, World.size_setCell, World.size_drew]); omega) (.int .i64 (81 * b - 27 * a * a))) (p := ⟨w.heap.size + 1, 1, none⟩) (show w.heap.size ≤ w.heap.size + 1 by have := S2.out; (try simp only [World.size_alloc, World.size_setCell, World.size_drew]); omega) (.int .i64 (54 * a * a * a - 243 * a * b)))⟩
end
section
open Go Go.RowKit Go.Lib

def askB (a b n : Int) : Bool := twB a b && insB n 1 60
/-- What the reference answers: the entry's five numbers, and whether. -/
def reS (a b n : Int) : (Int × Int × Int × Int) × Bool :=
  if askB a b n = true ∧ (curveB (pmA a b) (pmB a b) = true ∧ (rbV a b n.toNat).2.2 = true) then ((pmA a b, pmB a b, (rbV a b n.toNat).1, (rbV a b n.toNat).2.1), true) else ((0, 0, 0, 0), false)
/-- What the program answers. -/
def reI (a b n : Int) : (Int × Int × Int × Int) × Bool :=
  if askB a b n = true ∧ (curveB (pmA a b) (pmB a b) = true ∧ (rbV a b n.toNat).2.2 = true) ∧ entB (pmA a b) (pmB a b) (rbV a b n.toNat).1 (rbV a b n.toNat).2.1 0 = true then ((pmA a b, pmB a b, (rbV a b n.toNat).1, (rbV a b n.toNat).2.1), true) else ((0, 0, 0, 0), false)
def reW (V : (Int × Int × Int × Int) × Bool) : Value := .tuple #[.agg #[.int .i64 V.1.1, .int .i64 V.1.2.1, .int .i64 V.1.2.2.1, .int .i64 V.1.2.2.2, .int .i64 0], .bool V.2]
theorem ins60 {n : Int} (h : insB n 1 60 = true) : n = ((n.toNat : Nat) : Int) ∧ n.toNat ≤ 60 := by
  obtain ⟨h1, h2⟩ := insB_true h
  omega
set_option linter.unusedSimpArgs false in
set_option linter.unusedVariables false in
set_option maxRecDepth 8000 in
set_option maxHeartbeats 8000000 in
theorem rkAsked_any (a b n : Int) (w : World) :
    Calls Tryz.prog 24 #[.agg #[.int .i64 a, .int .i64 b], .int .i64 n] w fun e w' => e = .returned (.bool (askB a b n)) ∧ Below w.heap.size w w' := by
  have Hm : Hid (∀ w9, Calls Tryz.prog 51 #[.int .i64 n] w9 fun e w' => e = .returned (.bool (insB n 1 60)) ∧ Below w9.heap.size w9 w') := Lib.hid (fun w9 => by
    have Hin := Lib.hid (fun w9 => l1In_lit (n := n) (lo := 1) (hi := 60) (k := insB n 1 60) rfl w9)
    generalize insB n 1 60 = k at *
    go_enter Tryz.func51, Tryz.ntmps51
    go_wp2_with (go_at_call 44; refine (Hin.out _).mono ?_; rintro e w1 ⟨rfl, hb1⟩)
    go_ret
    exact ⟨rfl, hb1⟩)
  have Ht := Lib.hid (fun w9 => tcGood_any a b w9)
  unfold askB
  generalize insB n 1 60 = k at *
  generalize twB a b = t at *
  cases t
  · go_enter Tryz.func24, Tryz.ntmps24
    go_wp2_with (go_at_call 50; refine (Ht.out _).mono ?_; rintro e w1 ⟨rfl, hb1⟩)
    go_ret
    exact ⟨rfl, bthen (bal (Below.refl _ _) _) hb1⟩
  · go_enter Tryz.func24, Tryz.ntmps24
    go_wp2_with (first | (go_at_call 50; refine (Ht.out _).mono ?_; rintro e w1 ⟨rfl, hb1⟩) | (go_at_call 51; refine (Hm.out _).mono ?_; rintro e w2 ⟨rfl, hb2⟩))
    go_ret
    exact ⟨by simp, bthen (bthen (bal (Below.refl _ _) _) hb1) hb2⟩
set_option linter.unusedSimpArgs false in
set_option linter.unusedVariables false in
set_option maxRecDepth 8000 in
set_option maxHeartbeats 8000000 in
theorem rankEntryS_any (a b n : Int) (w : World) :
    Calls Tryz.prog 5 #[.agg #[.int .i64 a, .int .i64 b], .int .i64 n] w fun e w' => e = .returned (reW (reS a b n)) ∧ Below w.heap.size w w' := by
  have Ha := Lib.hid (fun w9 => rkAsked_any a b n w9)
  obtain ⟨ask, hask⟩ : ∃ ask, askB a b n = ask := ⟨_, rfl⟩
  cases ask
  · have HV := Lib.hid (show reS a b n = ((0, 0, 0, 0), false) from if_neg (by rw [hask]; simp))
    rw [hask] at Ha
    clear hask
    generalize reS a b n = V at *
    go_enter Tryz.func5, Tryz.ntmps5
    go_wp2_with fail
    refine (Ha.out _).mono ?_; rintro e w1 ⟨rfl, hb1⟩
    have S1 := Lib.hid (show w.heap.size + 2 ≤ w1.heap.size by have h9 := hb1.size; (try simp only [World.size_alloc, World.size_setCell, World.size_drew] at h9); omega)
    have NTB := Lib.hid (((Blk.new w 29 #[.int .i64 a, .int .i64 b]).alloc (Obj.cells #[.int .i64 0, .int .i64 0, .int .i64 0, .int .i64 0, .int .i64 0] 26)).on hb1)
    have NRE := Lib.hid ((show Blk (World.alloc (World.alloc w (Obj.cells #[.int .i64 a, .int .i64 b] 29)) (Obj.cells #[.int .i64 0, .int .i64 0, .int .i64 0, .int .i64 0, .int .i64 0] 26)) (w.heap.size + 1) 26 #[.int .i64 0, .int .i64 0, .int .i64 0, .int .i64 0, .int .i64 0] by have h9 := (Blk.new (World.alloc w (Obj.cells #[.int .i64 a, .int .i64 b] 29)) 26 #[.int .i64 0, .int .i64 0, .int .i64 0, .int .i64 0, .int .i64 0]); (try simp only [World.size_alloc, World.size_setCell] at h9); exact h9).on hb1)
    have TB := NTB; clear NTB
    have RE := NRE; clear NRE
    have Hb1 := Lib.hid (bthen (bal (bal (Below.refl w.heap.size w) (Obj.cells #[.int .i64 a, .int .i64 b] 29)) (Obj.cells #[.int .i64 0, .int .i64 0, .int .i64 0, .int .i64 0, .int .i64 0] 26)) hb1)
    clear hb1
    have qRE0 : w1.cell? ⟨w.heap.size + 1, 0, none⟩ = some (.int .i64 0) := RE.out.cell 0
    have qRE1 : w1.cell? ⟨w.heap.size + 1, 1, none⟩ = some (.int .i64 0) := RE.out.cell 1
    have qRE2 : w1.cell? ⟨w.heap.size + 1, 2, none⟩ = some (.int .i64 0) := RE.out.cell 2
    have qRE3 : w1.cell? ⟨w.heap.size + 1, 3, none⟩ = some (.int .i64 0) := RE.out.cell 3
    have qRE4 : w1.cell? ⟨w.heap.size + 1, 4, none⟩ = some (.int .i64 0) := RE.out.cell 4
    have qREl := RE.out.lt
    have qREf0 := RE.out.frozen 0
    have qREf1 := RE.out.frozen 1
    have qREf2 := RE.out.frozen 2
    have qREf3 := RE.out.frozen 3
    have qREf4 := RE.out.frozen 4
    go_wp2
    clear qRE0 qRE1 qRE2 qRE3 qRE4 qREl qREf0 qREf1 qREf2 qREf3 qREf4
    have R9RE := (show Blk (World.setCell (World.setCell (World.setCell (World.setCell (World.setCell w1 ⟨w.heap.size + 1, 0, none⟩ (.int .i64 0)) ⟨w.heap.size + 1, 1, none⟩ (.int .i64 0)) ⟨w.heap.size + 1, 2, none⟩ (.int .i64 0)) ⟨w.heap.size + 1, 3, none⟩ (.int .i64 0)) ⟨w.heap.size + 1, 4, none⟩ (.int .i64 0)) (w.heap.size + 1) 26 #[.int .i64 0, .int .i64 0, .int .i64 0, .int .i64 0, .int .i64 0] by have h9 := (((((RE.out.set 0 (.int .i64 0)).set 1 (.int .i64 0)).set 2 (.int .i64 0)).set 3 (.int .i64 0)).set 4 (.int .i64 0)); simpa using h9)
    have kRE0 := R9RE.cell 0
    have kRE1 := R9RE.cell 1
    have kRE2 := R9RE.cell 2
    have kRE3 := R9RE.cell 3
    have kRE4 := R9RE.cell 4
    simp at kRE0 kRE1 kRE2 kRE3 kRE4
    exact bodyPost_ret (v := .tuple #[.agg #[.int .i64 0, .int .i64 0, .int .i64 0, .int .i64 0, .int .i64 0], .bool false]) (by simp [results, Tryz.results5, go_sem, kRE0, kRE1, kRE2, kRE3, kRE4]) rfl ⟨by rw [HV.out]; rfl, (bst (bst (bst (bst (bst Hb1.out (p := ⟨w.heap.size + 1, 0, none⟩) (show w.heap.size ≤ w.heap.size + 1 by have := S1.out; (try simp only [World.size_alloc, World.size_setCell, World.size_drew]); omega) (.int .i64 0)) (p := ⟨w.heap.size + 1, 1, none⟩) (show w.heap.size ≤ w.heap.size + 1 by have := S1.out; (try simp only [World.size_alloc, World.size_setCell, World.size_drew]); omega) (.int .i64 0)) (p := ⟨w.heap.size + 1, 2, none⟩) (show w.heap.size ≤ w.heap.size + 1 by have := S1.out; (try simp only [World.size_alloc, World.size_setCell, World.size_drew]); omega) (.int .i64 0)) (p := ⟨w.heap.size + 1, 3, none⟩) (show w.heap.size ≤ w.heap.size + 1 by have := S1.out; (try simp only [World.size_alloc, World.size_setCell, World.size_drew]); omega) (.int .i64 0)) (p := ⟨w.heap.size + 1, 4, none⟩) (show w.heap.size ≤ w.heap.size + 1 by have := S1.out; (try simp only [World.size_alloc, World.size_setCell, World.size_drew]); omega) (.int .i64 0))⟩
  have hh := hask
  unfold askB at hh
  rw [Bool.and_eq_true] at hh
  obtain ⟨htw, hin⟩ := hh
  obtain ⟨hn1, hn2⟩ := ins60 hin
  obtain ⟨ha, hb, -, -⟩ := twB_bd htw
  have Hp := Lib.hid (fun w9 => tcPlain_any a b w9 ha hb)
  have h9 := fun w9 => rkBounds_any a b n.toNat w9 htw hn2
  rw [← hn1] at h9
  have Hr := Lib.hid h9
  have Hg := Lib.hid (fun w9 => ecGood_any (pmA a b) (pmB a b) w9)
  have HY := Lib.hid (fun (h1 : curveB (pmA a b) (pmB a b) = true) (h2 : (rbV a b n.toNat).2.2 = true) => show reS a b n = ((pmA a b, pmB a b, (rbV a b n.toNat).1, (rbV a b n.toNat).2.1), true) from if_pos ⟨hask, h1, h2⟩)
  have HN := Lib.hid (fun (hx : ¬ (curveB (pmA a b) (pmB a b) = true ∧ (rbV a b n.toNat).2.2 = true)) => show reS a b n = ((0, 0, 0, 0), false) from if_neg (fun h => hx h.2))
  rw [hask] at Ha
  clear hask htw hin hn2 ha hb h9 hn1
  generalize reS a b n = V at *
  generalize rbV a b n.toNat = B at *
  generalize curveB (pmA a b) (pmB a b) = k at *
  generalize pmA a b = PA at *
  generalize pmB a b = PB at *
  obtain ⟨lo, hi, told⟩ := B
  dsimp only at *
  cases k
  · have HV := Lib.hid (HN.out (by simp))
    go_enter Tryz.func5, Tryz.ntmps5
    go_wp2_with fail
    refine (Ha.out _).mono ?_; rintro e w2 ⟨rfl, hb2⟩
    have S2 := Lib.hid (show w.heap.size + 2 ≤ w2.heap.size by have h9 := hb2.size; (try simp only [World.size_alloc, World.size_setCell, World.size_drew] at h9); omega)
    have NTB := Lib.hid (((Blk.new w 29 #[.int .i64 a, .int .i64 b]).alloc (Obj.cells #[.int .i64 0, .int .i64 0, .int .i64 0, .int .i64 0, .int .i64 0] 26)).on hb2)
    have NRE := Lib.hid ((show Blk (World.alloc (World.alloc w (Obj.cells #[.int .i64 a, .int .i64 b] 29)) (Obj.cells #[.int .i64 0, .int .i64 0, .int .i64 0, .int .i64 0, .int .i64 0] 26)) (w.heap.size + 1) 26 #[.int .i64 0, .int .i64 0, .int .i64 0, .int .i64 0, .int .i64 0] by have h9 := (Blk.new (World.alloc w (Obj.cells #[.int .i64 a, .int .i64 b] 29)) 26 #[.int .i64 0, .int .i64 0, .int .i64 0, .int .i64 0, .int .i64 0]); (try simp only [World.size_alloc, World.size_setCell] at h9); exact h9).on hb2)
    have TB := NTB; clear NTB
    have RE := NRE; clear NRE
    have Hb2 := Lib.hid (bthen (bal (bal (Below.refl w.heap.size w) (Obj.cells #[.int .i64 a, .int .i64 b] 29)) (Obj.cells #[.int .i64 0, .int .i64 0, .int .i64 0, .int .i64 0, .int .i64 0] 26)) hb2)
    clear hb2
    have qTB0 : w2.cell? ⟨w.heap.size, 0, none⟩ = some (.int .i64 a) := TB.out.cell 0
    have qTB1 : w2.cell? ⟨w.heap.size, 1, none⟩ = some (.int .i64 b) := TB.out.cell 1
    have qTBl := TB.out.lt
    go_wp2_with fail
    clear qTB0 qTB1 qTBl
    refine (Hp.out _).mono ?_; rintro e w3 ⟨⟨x9, y9, rfl⟩, hb3⟩
    have S3 := Lib.hid (show w2.heap.size + 0 ≤ w3.heap.size by have h9 := hb3.size; (try simp only [World.size_alloc, World.size_setCell, World.size_drew] at h9); omega)
    have Z3 := Lib.hid (And.intro S2.out S3.out)
    have NTB := Lib.hid (TB.out.on hb3)
    have NRE := Lib.hid (RE.out.on hb3)
    have TB := NTB; clear NTB
    have RE := NRE; clear NRE
    have Hb3 := Lib.hid (bthen Hb2.out hb3)
    clear hb3
    have qTB0 : w3.cell? ⟨w.heap.size, 0, none⟩ = some (.int .i64 a) := TB.out.cell 0
    have qTB1 : w3.cell? ⟨w.heap.size, 1, none⟩ = some (.int .i64 b) := TB.out.cell 1
    have qTBl := TB.out.lt
    go_wp2_with fail
    clear qTB0 qTB1 qTBl
    refine (Hr.out _).mono ?_; rintro e w4 ⟨rfl, hb4⟩
    have S4 := Lib.hid (show w3.heap.size + 1 ≤ w4.heap.size by have h9 := hb4.size; (try simp only [World.size_alloc, World.size_setCell, World.size_drew] at h9); omega)
    have Z4 := Lib.hid (And.intro Z3.out S4.out)
    have NTB := Lib.hid ((TB.out.alloc (Obj.cells #[.int .i64 PA, .int .i64 PB] 24)).on hb4)
    have NRE := Lib.hid ((RE.out.alloc (Obj.cells #[.int .i64 PA, .int .i64 PB] 24)).on hb4)
    have NPL := Lib.hid ((Blk.new w3 24 #[.int .i64 PA, .int .i64 PB]).on hb4)
    have TB := NTB; clear NTB
    have RE := NRE; clear NRE
    have PL := NPL; clear NPL
    have Hb4 := Lib.hid (bthen (bal Hb3.out (Obj.cells #[.int .i64 PA, .int .i64 PB] 24)) hb4)
    clear hb4
    have qPL0 : w4.cell? ⟨w3.heap.size, 0, none⟩ = some (.int .i64 PA) := PL.out.cell 0
    have qPL1 : w4.cell? ⟨w3.heap.size, 1, none⟩ = some (.int .i64 PB) := PL.out.cell 1
    have qPLl := PL.out.lt
    go_wp2_with fail
    clear qPL0 qPL1 qPLl
    refine (Hg.out _).mono ?_; rintro e w5 ⟨rfl, hb5⟩
    have S5 := Lib.hid (show w4.heap.size + 0 ≤ w5.heap.size by have h9 := hb5.size; (try simp only [World.size_alloc, World.size_setCell, World.size_drew] at h9); omega)
    have Z5 := Lib.hid (And.intro Z4.out S5.out)
    have NTB := Lib.hid (TB.out.on hb5)
    have NRE := Lib.hid (RE.out.on hb5)
    have NPL := Lib.hid (PL.out.on hb5)
    have TB := NTB; clear NTB
    have RE := NRE; clear NRE
    have PL := NPL; clear NPL
    have Hb5 := Lib.hid (bthen Hb4.out hb5)
    clear hb5
    have qRE0 : w5.cell? ⟨w.heap.size + 1, 0, none⟩ = some (.int .i64 0) := RE.out.cell 0
    have qRE1 : w5.cell? ⟨w.heap.size + 1, 1, none⟩ = some (.int .i64 0) := RE.out.cell 1
    have qRE2 : w5.cell? ⟨w.heap.size + 1, 2, none⟩ = some (.int .i64 0) := RE.out.cell 2
    have qRE3 : w5.cell? ⟨w.heap.size + 1, 3, none⟩ = some (.int .i64 0) := RE.out.cell 3
    have qRE4 : w5.cell? ⟨w.heap.size + 1, 4, none⟩ = some (.int .i64 0) := RE.out.cell 4
    have qREl := RE.out.lt
    have qREf0 := RE.out.frozen 0
    have qREf1 := RE.out.frozen 1
    have qREf2 := RE.out.frozen 2
    have qREf3 := RE.out.frozen 3
    have qREf4 := RE.out.frozen 4
    go_wp2
    clear qRE0 qRE1 qRE2 qRE3 qRE4 qREl qREf0 qREf1 qREf2 qREf3 qREf4
    have R9RE := (show Blk (World.setCell (World.setCell (World.setCell (World.setCell (World.setCell w5 ⟨w.heap.size + 1, 0, none⟩ (.int .i64 0)) ⟨w.heap.size + 1, 1, none⟩ (.int .i64 0)) ⟨w.heap.size + 1, 2, none⟩ (.int .i64 0)) ⟨w.heap.size + 1, 3, none⟩ (.int .i64 0)) ⟨w.heap.size + 1, 4, none⟩ (.int .i64 0)) (w.heap.size + 1) 26 #[.int .i64 0, .int .i64 0, .int .i64 0, .int .i64 0, .int .i64 0] by have h9 := (((((RE.out.set 0 (.int .i64 0)).set 1 (.int .i64 0)).set 2 (.int .i64 0)).set 3 (.int .i64 0)).set 4 (.int .i64 0)); simpa using h9)
    have kRE0 := R9RE.cell 0
    have kRE1 := R9RE.cell 1
    have kRE2 := R9RE.cell 2
    have kRE3 := R9RE.cell 3
    have kRE4 := R9RE.cell 4
    simp at kRE0 kRE1 kRE2 kRE3 kRE4
    exact bodyPost_ret (v := .tuple #[.agg #[.int .i64 0, .int .i64 0, .int .i64 0, .int .i64 0, .int .i64 0], .bool false]) (by simp [results, Tryz.results5, go_sem, kRE0, kRE1, kRE2, kRE3, kRE4]) rfl ⟨by rw [HV.out]; rfl, (bst (bst (bst (bst (bst Hb5.out (p := ⟨w.heap.size + 1, 0, none⟩) (show w.heap.size ≤ w.heap.size + 1 by have := Z5.out; (try simp only [World.size_alloc, World.size_setCell, World.size_drew]); omega) (.int .i64 0)) (p := ⟨w.heap.size + 1, 1, none⟩) (show w.heap.size ≤ w.heap.size + 1 by have := Z5.out; (try simp only [World.size_alloc, World.size_setCell, World.size_drew]); omega) (.int .i64 0)) (p := ⟨w.heap.size + 1, 2, none⟩) (show w.heap.size ≤ w.heap.size + 1 by have := Z5.out; (try simp only [World.size_alloc, World.size_setCell, World.size_drew]); omega) (.int .i64 0)) (p := ⟨w.heap.size + 1, 3, none⟩) (show w.heap.size ≤ w.heap.size + 1 by have := Z5.out; (try simp only [World.size_alloc, World.size_setCell, World.size_drew]); omega) (.int .i64 0)) (p := ⟨w.heap.size + 1, 4, none⟩) (show w.heap.size ≤ w.heap.size + 1 by have := Z5.out; (try simp only [World.size_alloc, World.size_setCell, World.size_drew]); omega) (.int .i64 0))⟩
  cases told
  · have HV := Lib.hid (HN.out (by simp))
    go_enter Tryz.func5, Tryz.ntmps5
    go_wp2_with fail
    refine (Ha.out _).mono ?_; rintro e w6 ⟨rfl, hb6⟩
    have S6 := Lib.hid (show w.heap.size + 2 ≤ w6.heap.size by have h9 := hb6.size; (try simp only [World.size_alloc, World.size_setCell, World.size_drew] at h9); omega)
    have NTB := Lib.hid (((Blk.new w 29 #[.int .i64 a, .int .i64 b]).alloc (Obj.cells #[.int .i64 0, .int .i64 0, .int .i64 0, .int .i64 0, .int .i64 0] 26)).on hb6)
    have NRE := Lib.hid ((show Blk (World.alloc (World.alloc w (Obj.cells #[.int .i64 a, .int .i64 b] 29)) (Obj.cells #[.int .i64 0, .int .i64 0, .int .i64 0, .int .i64 0, .int .i64 0] 26)) (w.heap.size + 1) 26 #[.int .i64 0, .int .i64 0, .int .i64 0, .int .i64 0, .int .i64 0] by have h9 := (Blk.new (World.alloc w (Obj.cells #[.int .i64 a, .int .i64 b] 29)) 26 #[.int .i64 0, .int .i64 0, .int .i64 0, .int .i64 0, .int .i64 0]); (try simp only [World.size_alloc, World.size_setCell] at h9); exact h9).on hb6)
    have TB := NTB; clear NTB
    have RE := NRE; clear NRE
    have Hb6 := Lib.hid (bthen (bal (bal (Below.refl w.heap.size w) (Obj.cells #[.int .i64 a, .int .i64 b] 29)) (Obj.cells #[.int .i64 0, .int .i64 0, .int .i64 0, .int .i64 0, .int .i64 0] 26)) hb6)
    clear hb6
    have qTB0 : w6.cell? ⟨w.heap.size, 0, none⟩ = some (.int .i64 a) := TB.out.cell 0
    have qTB1 : w6.cell? ⟨w.heap.size, 1, none⟩ = some (.int .i64 b) := TB.out.cell 1
    have qTBl := TB.out.lt
    go_wp2_with fail
    clear qTB0 qTB1 qTBl
    refine (Hp.out _).mono ?_; rintro e w7 ⟨⟨x9, y9, rfl⟩, hb7⟩
    have S7 := Lib.hid (show w6.heap.size + 0 ≤ w7.heap.size by have h9 := hb7.size; (try simp only [World.size_alloc, World.size_setCell, World.size_drew] at h9); omega)
    have Z7 := Lib.hid (And.intro S6.out S7.out)
    have NTB := Lib.hid (TB.out.on hb7)
    have NRE := Lib.hid (RE.out.on hb7)
    have TB := NTB; clear NTB
    have RE := NRE; clear NRE
    have Hb7 := Lib.hid (bthen Hb6.out hb7)
    clear hb7
    have qTB0 : w7.cell? ⟨w.heap.size, 0, none⟩ = some (.int .i64 a) := TB.out.cell 0
    have qTB1 : w7.cell? ⟨w.heap.size, 1, none⟩ = some (.int .i64 b) := TB.out.cell 1
    have qTBl := TB.out.lt
    go_wp2_with fail
    clear qTB0 qTB1 qTBl
    refine (Hr.out _).mono ?_; rintro e w8 ⟨rfl, hb8⟩
    have S8 := Lib.hid (show w7.heap.size + 1 ≤ w8.heap.size by have h9 := hb8.size; (try simp only [World.size_alloc, World.size_setCell, World.size_drew] at h9); omega)
    have Z8 := Lib.hid (And.intro Z7.out S8.out)
    have NTB := Lib.hid ((TB.out.alloc (Obj.cells #[.int .i64 PA, .int .i64 PB] 24)).on hb8)
    have NRE := Lib.hid ((RE.out.alloc (Obj.cells #[.int .i64 PA, .int .i64 PB] 24)).on hb8)
    have NPL := Lib.hid ((Blk.new w7 24 #[.int .i64 PA, .int .i64 PB]).on hb8)
    have TB := NTB; clear NTB
    have RE := NRE; clear NRE
    have PL := NPL; clear NPL
    have Hb8 := Lib.hid (bthen (bal Hb7.out (Obj.cells #[.int .i64 PA, .int .i64 PB] 24)) hb8)
    clear hb8
    have qPL0 : w8.cell? ⟨w7.heap.size, 0, none⟩ = some (.int .i64 PA) := PL.out.cell 0
    have qPL1 : w8.cell? ⟨w7.heap.size, 1, none⟩ = some (.int .i64 PB) := PL.out.cell 1
    have qPLl := PL.out.lt
    go_wp2_with fail
    clear qPL0 qPL1 qPLl
    refine (Hg.out _).mono ?_; rintro e w9 ⟨rfl, hb9⟩
    have S9 := Lib.hid (show w8.heap.size + 0 ≤ w9.heap.size by have h9 := hb9.size; (try simp only [World.size_alloc, World.size_setCell, World.size_drew] at h9); omega)
    have Z9 := Lib.hid (And.intro Z8.out S9.out)
    have NTB := Lib.hid (TB.out.on hb9)
    have NRE := Lib.hid (RE.out.on hb9)
    have NPL := Lib.hid (PL.out.on hb9)
    have TB := NTB; clear NTB
    have RE := NRE; clear NRE
    have PL := NPL; clear NPL
    have Hb9 := Lib.hid (bthen Hb8.out hb9)
    clear hb9
    have qRE0 : w9.cell? ⟨w.heap.size + 1, 0, none⟩ = some (.int .i64 0) := RE.out.cell 0
    have qRE1 : w9.cell? ⟨w.heap.size + 1, 1, none⟩ = some (.int .i64 0) := RE.out.cell 1
    have qRE2 : w9.cell? ⟨w.heap.size + 1, 2, none⟩ = some (.int .i64 0) := RE.out.cell 2
    have qRE3 : w9.cell? ⟨w.heap.size + 1, 3, none⟩ = some (.int .i64 0) := RE.out.cell 3
    have qRE4 : w9.cell? ⟨w.heap.size + 1, 4, none⟩ = some (.int .i64 0) := RE.out.cell 4
    have qREl := RE.out.lt
    have qREf0 := RE.out.frozen 0
    have qREf1 := RE.out.frozen 1
    have qREf2 := RE.out.frozen 2
    have qREf3 := RE.out.frozen 3
    have qREf4 := RE.out.frozen 4
    go_wp2
    clear qRE0 qRE1 qRE2 qRE3 qRE4 qREl qREf0 qREf1 qREf2 qREf3 qREf4
    have R9RE := (show Blk (World.setCell (World.setCell (World.setCell (World.setCell (World.setCell w9 ⟨w.heap.size + 1, 0, none⟩ (.int .i64 0)) ⟨w.heap.size + 1, 1, none⟩ (.int .i64 0)) ⟨w.heap.size + 1, 2, none⟩ (.int .i64 0)) ⟨w.heap.size + 1, 3, none⟩ (.int .i64 0)) ⟨w.heap.size + 1, 4, none⟩ (.int .i64 0)) (w.heap.size + 1) 26 #[.int .i64 0, .int .i64 0, .int .i64 0, .int .i64 0, .int .i64 0] by have h9 := (((((RE.out.set 0 (.int .i64 0)).set 1 (.int .i64 0)).set 2 (.int .i64 0)).set 3 (.int .i64 0)).set 4 (.int .i64 0)); simpa using h9)
    have kRE0 := R9RE.cell 0
    have kRE1 := R9RE.cell 1
    have kRE2 := R9RE.cell 2
    have kRE3 := R9RE.cell 3
    have kRE4 := R9RE.cell 4
    simp at kRE0 kRE1 kRE2 kRE3 kRE4
    exact bodyPost_ret (v := .tuple #[.agg #[.int .i64 0, .int .i64 0, .int .i64 0, .int .i64 0, .int .i64 0], .bool false]) (by simp [results, Tryz.results5, go_sem, kRE0, kRE1, kRE2, kRE3, kRE4]) rfl ⟨by rw [HV.out]; rfl, (bst (bst (bst (bst (bst Hb9.out (p := ⟨w.heap.size + 1, 0, none⟩) (show w.heap.size ≤ w.heap.size + 1 by have := Z9.out; (try simp only [World.size_alloc, World.size_setCell, World.size_drew]); omega) (.int .i64 0)) (p := ⟨w.heap.size + 1, 1, none⟩) (show w.heap.size ≤ w.heap.size + 1 by have := Z9.out; (try simp only [World.size_alloc, World.size_setCell, World.size_drew]); omega) (.int .i64 0)) (p := ⟨w.heap.size + 1, 2, none⟩) (show w.heap.size ≤ w.heap.size + 1 by have := Z9.out; (try simp only [World.size_alloc, World.size_setCell, World.size_drew]); omega) (.int .i64 0)) (p := ⟨w.heap.size + 1, 3, none⟩) (show w.heap.size ≤ w.heap.size + 1 by have := Z9.out; (try simp only [World.size_alloc, World.size_setCell, World.size_drew]); omega) (.int .i64 0)) (p := ⟨w.heap.size + 1, 4, none⟩) (show w.heap.size ≤ w.heap.size + 1 by have := Z9.out; (try simp only [World.size_alloc, World.size_setCell, World.size_drew]); omega) (.int .i64 0))⟩
  have HV := Lib.hid (HY.out rfl rfl)
  go_enter Tryz.func5, Tryz.ntmps5
  go_wp2_with fail
  refine (Ha.out _).mono ?_; rintro e w10 ⟨rfl, hb10⟩
  have S10 := Lib.hid (show w.heap.size + 2 ≤ w10.heap.size by have h9 := hb10.size; (try simp only [World.size_alloc, World.size_setCell, World.size_drew] at h9); omega)
  have NTB := Lib.hid (((Blk.new w 29 #[.int .i64 a, .int .i64 b]).alloc (Obj.cells #[.int .i64 0, .int .i64 0, .int .i64 0, .int .i64 0, .int .i64 0] 26)).on hb10)
  have NRE := Lib.hid ((show Blk (World.alloc (World.alloc w (Obj.cells #[.int .i64 a, .int .i64 b] 29)) (Obj.cells #[.int .i64 0, .int .i64 0, .int .i64 0, .int .i64 0, .int .i64 0] 26)) (w.heap.size + 1) 26 #[.int .i64 0, .int .i64 0, .int .i64 0, .int .i64 0, .int .i64 0] by have h9 := (Blk.new (World.alloc w (Obj.cells #[.int .i64 a, .int .i64 b] 29)) 26 #[.int .i64 0, .int .i64 0, .int .i64 0, .int .i64 0, .int .i64 0]); (try simp only [World.size_alloc, World.size_setCell] at h9); exact h9).on hb10)
  have TB := NTB; clear NTB
  have RE := NRE; clear NRE
  have Hb10 := Lib.hid (bthen (bal (bal (Below.refl w.heap.size w) (Obj.cells #[.int .i64 a, .int .i64 b] 29)) (Obj.cells #[.int .i64 0, .int .i64 0, .int .i64 0, .int .i64 0, .int .i64 0] 26)) hb10)
  clear hb10
  have qTB0 : w10.cell? ⟨w.heap.size, 0, none⟩ = some (.int .i64 a) := TB.out.cell 0
  have qTB1 : w10.cell? ⟨w.heap.size, 1, none⟩ = some (.int .i64 b) := TB.out.cell 1
  have qTBl := TB.out.lt
  go_wp2_with fail
  clear qTB0 qTB1 qTBl
  refine (Hp.out _).mono ?_; rintro e w11 ⟨⟨x9, y9, rfl⟩, hb11⟩
  have S11 := Lib.hid (show w10.heap.size + 0 ≤ w11.heap.size by have h9 := hb11.size; (try simp only [World.size_alloc, World.size_setCell, World.size_drew] at h9); omega)
  have Z11 := Lib.hid (And.intro S10.out S11.out)
  have NTB := Lib.hid (TB.out.on hb11)
  have NRE := Lib.hid (RE.out.on hb11)
  have TB := NTB; clear NTB
  have RE := NRE; clear NRE
  have Hb11 := Lib.hid (bthen Hb10.out hb11)
  clear hb11
  have qTB0 : w11.cell? ⟨w.heap.size, 0, none⟩ = some (.int .i64 a) := TB.out.cell 0
  have qTB1 : w11.cell? ⟨w.heap.size, 1, none⟩ = some (.int .i64 b) := TB.out.cell 1
  have qTBl := TB.out.lt
  go_wp2_with fail
  clear qTB0 qTB1 qTBl
  refine (Hr.out _).mono ?_; rintro e w12 ⟨rfl, hb12⟩
  have S12 := Lib.hid (show w11.heap.size + 1 ≤ w12.heap.size by have h9 := hb12.size; (try simp only [World.size_alloc, World.size_setCell, World.size_drew] at h9); omega)
  have Z12 := Lib.hid (And.intro Z11.out S12.out)
  have NTB := Lib.hid ((TB.out.alloc (Obj.cells #[.int .i64 PA, .int .i64 PB] 24)).on hb12)
  have NRE := Lib.hid ((RE.out.alloc (Obj.cells #[.int .i64 PA, .int .i64 PB] 24)).on hb12)
  have NPL := Lib.hid ((Blk.new w11 24 #[.int .i64 PA, .int .i64 PB]).on hb12)
  have TB := NTB; clear NTB
  have RE := NRE; clear NRE
  have PL := NPL; clear NPL
  have Hb12 := Lib.hid (bthen (bal Hb11.out (Obj.cells #[.int .i64 PA, .int .i64 PB] 24)) hb12)
  clear hb12
  have qPL0 : w12.cell? ⟨w11.heap.size, 0, none⟩ = some (.int .i64 PA) := PL.out.cell 0
  have qPL1 : w12.cell? ⟨w11.heap.size, 1, none⟩ = some (.int .i64 PB) := PL.out.cell 1
  have qPLl := PL.out.lt
  go_wp2_with fail
  clear qPL0 qPL1 qPLl
  refine (Hg.out _).mono ?_; rintro e w13 ⟨rfl, hb13⟩
  have S13 := Lib.hid (show w12.heap.size + 0 ≤ w13.heap.size by have h9 := hb13.size; (try simp only [World.size_alloc, World.size_setCell, World.size_drew] at h9); omega)
  have Z13 := Lib.hid (And.intro Z12.out S13.out)
  have NTB := Lib.hid (TB.out.on hb13)
  have NRE := Lib.hid (RE.out.on hb13)
  have NPL := Lib.hid (PL.out.on hb13)
  have TB := NTB; clear NTB
  have RE := NRE; clear NRE
  have PL := NPL; clear NPL
  have Hb13 := Lib.hid (bthen Hb12.out hb13)
  clear hb13
  have qPL0 : w13.cell? ⟨w11.heap.size, 0, none⟩ = some (.int .i64 PA) := PL.out.cell 0
  have qPL1 : w13.cell? ⟨w11.heap.size, 1, none⟩ = some (.int .i64 PB) := PL.out.cell 1
  have qPLl := PL.out.lt
  have qRE0 : w13.cell? ⟨w.heap.size + 1, 0, none⟩ = some (.int .i64 0) := RE.out.cell 0
  have qRE1 : w13.cell? ⟨w.heap.size + 1, 1, none⟩ = some (.int .i64 0) := RE.out.cell 1
  have qRE2 : w13.cell? ⟨w.heap.size + 1, 2, none⟩ = some (.int .i64 0) := RE.out.cell 2
  have qRE3 : w13.cell? ⟨w.heap.size + 1, 3, none⟩ = some (.int .i64 0) := RE.out.cell 3
  have qRE4 : w13.cell? ⟨w.heap.size + 1, 4, none⟩ = some (.int .i64 0) := RE.out.cell 4
  have qREl := RE.out.lt
  have qREf0 := RE.out.frozen 0
  have qREf1 := RE.out.frozen 1
  have qREf2 := RE.out.frozen 2
  have qREf3 := RE.out.frozen 3
  have qREf4 := RE.out.frozen 4
  have nPLRE : w11.heap.size ≠ w.heap.size + 1 := by have := Z13.out; (try simp only [World.size_alloc, World.size_setCell, World.size_drew]); omega
  have nREPL : w.heap.size + 1 ≠ w11.heap.size := fun e => nPLRE e.symm
  go_wp2
  clear qPL0 qPL1 qPLl qRE0 qRE1 qRE2 qRE3 qRE4 qREl qREf0 qREf1 qREf2 qREf3 qREf4 nPLRE nREPL
  have R9RE := (show Blk (World.setCell (World.setCell (World.setCell (World.setCell (World.setCell w13 ⟨w.heap.size + 1, 0, none⟩ (.int .i64 PA)) ⟨w.heap.size + 1, 1, none⟩ (.int .i64 PB)) ⟨w.heap.size + 1, 2, none⟩ (.int .i64 lo)) ⟨w.heap.size + 1, 3, none⟩ (.int .i64 hi)) ⟨w.heap.size + 1, 4, none⟩ (.int .i64 0)) (w.heap.size + 1) 26 #[.int .i64 PA, .int .i64 PB, .int .i64 lo, .int .i64 hi, .int .i64 0] by have h9 := (((((RE.out.set 0 (.int .i64 PA)).set 1 (.int .i64 PB)).set 2 (.int .i64 lo)).set 3 (.int .i64 hi)).set 4 (.int .i64 0)); simpa using h9)
  have kRE0 := R9RE.cell 0
  have kRE1 := R9RE.cell 1
  have kRE2 := R9RE.cell 2
  have kRE3 := R9RE.cell 3
  have kRE4 := R9RE.cell 4
  simp at kRE0 kRE1 kRE2 kRE3 kRE4
  exact bodyPost_ret (v := .tuple #[.agg #[.int .i64 PA, .int .i64 PB, .int .i64 lo, .int .i64 hi, .int .i64 0], .bool true]) (by simp [results, Tryz.results5, go_sem, kRE0, kRE1, kRE2, kRE3, kRE4]) rfl ⟨by rw [HV.out]; rfl, (bst (bst (bst (bst (bst Hb13.out (p := ⟨w.heap.size + 1, 0, none⟩) (show w.heap.size ≤ w.heap.size + 1 by have := Z13.out; (try simp only [World.size_alloc, World.size_setCell, World.size_drew]); omega) (.int .i64 PA)) (p := ⟨w.heap.size + 1, 1, none⟩) (show w.heap.size ≤ w.heap.size + 1 by have := Z13.out; (try simp only [World.size_alloc, World.size_setCell, World.size_drew]); omega) (.int .i64 PB)) (p := ⟨w.heap.size + 1, 2, none⟩) (show w.heap.size ≤ w.heap.size + 1 by have := Z13.out; (try simp only [World.size_alloc, World.size_setCell, World.size_drew]); omega) (.int .i64 lo)) (p := ⟨w.heap.size + 1, 3, none⟩) (show w.heap.size ≤ w.heap.size + 1 by have := Z13.out; (try simp only [World.size_alloc, World.size_setCell, World.size_drew]); omega) (.int .i64 hi)) (p := ⟨w.heap.size + 1, 4, none⟩) (show w.heap.size ≤ w.heap.size + 1 by have := Z13.out; (try simp only [World.size_alloc, World.size_setCell, World.size_drew]); omega) (.int .i64 0))⟩
set_option linter.unusedSimpArgs false in
set_option linter.unusedVariables false in
set_option maxRecDepth 8000 in
set_option maxHeartbeats 8000000 in
theorem rankEntryI_any (a b n : Int) (w : World) :
    Calls Tryz.prog 7 #[.agg #[.int .i64 a, .int .i64 b], .int .i64 n] w fun e w' => e = .returned (reW (reI a b n)) ∧ Below w.heap.size w w' := by
  have Ht := Lib.hid (fun w9 => isTwoCurve_any a b w9)
  have Hi := Lib.hid (fun w9 => inside_lit (n := n) (lo := 1) (hi := 60) (k := insB n 1 60) rfl w9)
  obtain ⟨t, htw⟩ : ∃ t, twB a b = t := ⟨_, rfl⟩
  cases t
  · have HV := Lib.hid (show reI a b n = ((0, 0, 0, 0), false) from if_neg (by unfold askB; rw [htw]; simp))
    rw [htw] at Ht
    clear htw
    generalize reI a b n = V at *
    go_enter Tryz.func7, Tryz.ntmps7
    go_wp2_with fail
    refine (Ht.out _).mono ?_; rintro e w1 ⟨rfl, hb1⟩
    have S1 := Lib.hid (show w.heap.size + 2 ≤ w1.heap.size by have h9 := hb1.size; (try simp only [World.size_alloc, World.size_setCell, World.size_drew] at h9); omega)
    have NTB := Lib.hid (((Blk.new w 29 #[.int .i64 a, .int .i64 b]).alloc (Obj.cells #[.int .i64 0, .int .i64 0, .int .i64 0, .int .i64 0, .int .i64 0] 26)).on hb1)
    have NRE := Lib.hid ((show Blk (World.alloc (World.alloc w (Obj.cells #[.int .i64 a, .int .i64 b] 29)) (Obj.cells #[.int .i64 0, .int .i64 0, .int .i64 0, .int .i64 0, .int .i64 0] 26)) (w.heap.size + 1) 26 #[.int .i64 0, .int .i64 0, .int .i64 0, .int .i64 0, .int .i64 0] by have h9 := (Blk.new (World.alloc w (Obj.cells #[.int .i64 a, .int .i64 b] 29)) 26 #[.int .i64 0, .int .i64 0, .int .i64 0, .int .i64 0, .int .i64 0]); (try simp only [World.size_alloc, World.size_setCell] at h9); exact h9).on hb1)
    have TB := NTB; clear NTB
    have RE := NRE; clear NRE
    have Hb1 := Lib.hid (bthen (bal (bal (Below.refl w.heap.size w) (Obj.cells #[.int .i64 a, .int .i64 b] 29)) (Obj.cells #[.int .i64 0, .int .i64 0, .int .i64 0, .int .i64 0, .int .i64 0] 26)) hb1)
    clear hb1
    have qRE0 : w1.cell? ⟨w.heap.size + 1, 0, none⟩ = some (.int .i64 0) := RE.out.cell 0
    have qRE1 : w1.cell? ⟨w.heap.size + 1, 1, none⟩ = some (.int .i64 0) := RE.out.cell 1
    have qRE2 : w1.cell? ⟨w.heap.size + 1, 2, none⟩ = some (.int .i64 0) := RE.out.cell 2
    have qRE3 : w1.cell? ⟨w.heap.size + 1, 3, none⟩ = some (.int .i64 0) := RE.out.cell 3
    have qRE4 : w1.cell? ⟨w.heap.size + 1, 4, none⟩ = some (.int .i64 0) := RE.out.cell 4
    have qREl := RE.out.lt
    have qREf0 := RE.out.frozen 0
    have qREf1 := RE.out.frozen 1
    have qREf2 := RE.out.frozen 2
    have qREf3 := RE.out.frozen 3
    have qREf4 := RE.out.frozen 4
    go_wp2
    clear qRE0 qRE1 qRE2 qRE3 qRE4 qREl qREf0 qREf1 qREf2 qREf3 qREf4
    have R9RE := (show Blk (World.setCell (World.setCell (World.setCell (World.setCell (World.setCell w1 ⟨w.heap.size + 1, 0, none⟩ (.int .i64 0)) ⟨w.heap.size + 1, 1, none⟩ (.int .i64 0)) ⟨w.heap.size + 1, 2, none⟩ (.int .i64 0)) ⟨w.heap.size + 1, 3, none⟩ (.int .i64 0)) ⟨w.heap.size + 1, 4, none⟩ (.int .i64 0)) (w.heap.size + 1) 26 #[.int .i64 0, .int .i64 0, .int .i64 0, .int .i64 0, .int .i64 0] by have h9 := (((((RE.out.set 0 (.int .i64 0)).set 1 (.int .i64 0)).set 2 (.int .i64 0)).set 3 (.int .i64 0)).set 4 (.int .i64 0)); simpa using h9)
    have kRE0 := R9RE.cell 0
    have kRE1 := R9RE.cell 1
    have kRE2 := R9RE.cell 2
    have kRE3 := R9RE.cell 3
    have kRE4 := R9RE.cell 4
    simp at kRE0 kRE1 kRE2 kRE3 kRE4
    exact bodyPost_ret (v := .tuple #[.agg #[.int .i64 0, .int .i64 0, .int .i64 0, .int .i64 0, .int .i64 0], .bool false]) (by simp [results, Tryz.results7, go_sem, kRE0, kRE1, kRE2, kRE3, kRE4]) rfl ⟨by rw [HV.out]; rfl, (bst (bst (bst (bst (bst Hb1.out (p := ⟨w.heap.size + 1, 0, none⟩) (show w.heap.size ≤ w.heap.size + 1 by have := S1.out; (try simp only [World.size_alloc, World.size_setCell, World.size_drew]); omega) (.int .i64 0)) (p := ⟨w.heap.size + 1, 1, none⟩) (show w.heap.size ≤ w.heap.size + 1 by have := S1.out; (try simp only [World.size_alloc, World.size_setCell, World.size_drew]); omega) (.int .i64 0)) (p := ⟨w.heap.size + 1, 2, none⟩) (show w.heap.size ≤ w.heap.size + 1 by have := S1.out; (try simp only [World.size_alloc, World.size_setCell, World.size_drew]); omega) (.int .i64 0)) (p := ⟨w.heap.size + 1, 3, none⟩) (show w.heap.size ≤ w.heap.size + 1 by have := S1.out; (try simp only [World.size_alloc, World.size_setCell, World.size_drew]); omega) (.int .i64 0)) (p := ⟨w.heap.size + 1, 4, none⟩) (show w.heap.size ≤ w.heap.size + 1 by have := S1.out; (try simp only [World.size_alloc, World.size_setCell, World.size_drew]); omega) (.int .i64 0))⟩
  obtain ⟨i, hin⟩ : ∃ i, insB n 1 60 = i := ⟨_, rfl⟩
  cases i
  · have HV := Lib.hid (show reI a b n = ((0, 0, 0, 0), false) from if_neg (by unfold askB; rw [hin]; simp))
    rw [htw] at Ht
    rw [hin] at Hi
    clear htw hin
    generalize reI a b n = V at *
    go_enter Tryz.func7, Tryz.ntmps7
    go_wp2_with fail
    refine (Ht.out _).mono ?_; rintro e w2 ⟨rfl, hb2⟩
    have S2 := Lib.hid (show w.heap.size + 2 ≤ w2.heap.size by have h9 := hb2.size; (try simp only [World.size_alloc, World.size_setCell, World.size_drew] at h9); omega)
    have NTB := Lib.hid (((Blk.new w 29 #[.int .i64 a, .int .i64 b]).alloc (Obj.cells #[.int .i64 0, .int .i64 0, .int .i64 0, .int .i64 0, .int .i64 0] 26)).on hb2)
    have NRE := Lib.hid ((show Blk (World.alloc (World.alloc w (Obj.cells #[.int .i64 a, .int .i64 b] 29)) (Obj.cells #[.int .i64 0, .int .i64 0, .int .i64 0, .int .i64 0, .int .i64 0] 26)) (w.heap.size + 1) 26 #[.int .i64 0, .int .i64 0, .int .i64 0, .int .i64 0, .int .i64 0] by have h9 := (Blk.new (World.alloc w (Obj.cells #[.int .i64 a, .int .i64 b] 29)) 26 #[.int .i64 0, .int .i64 0, .int .i64 0, .int .i64 0, .int .i64 0]); (try simp only [World.size_alloc, World.size_setCell] at h9); exact h9).on hb2)
    have TB := NTB; clear NTB
    have RE := NRE; clear NRE
    have Hb2 := Lib.hid (bthen (bal (bal (Below.refl w.heap.size w) (Obj.cells #[.int .i64 a, .int .i64 b] 29)) (Obj.cells #[.int .i64 0, .int .i64 0, .int .i64 0, .int .i64 0, .int .i64 0] 26)) hb2)
    clear hb2
    have qTB0 : w2.cell? ⟨w.heap.size, 0, none⟩ = some (.int .i64 a) := TB.out.cell 0
    have qTB1 : w2.cell? ⟨w.heap.size, 1, none⟩ = some (.int .i64 b) := TB.out.cell 1
    have qTBl := TB.out.lt
    go_wp2_with fail
    clear qTB0 qTB1 qTBl
    refine (Hi.out _).mono ?_; rintro e w3 ⟨rfl, hb3⟩
    have S3 := Lib.hid (show w2.heap.size + 0 ≤ w3.heap.size by have h9 := hb3.size; (try simp only [World.size_alloc, World.size_setCell, World.size_drew] at h9); omega)
    have Z3 := Lib.hid (And.intro S2.out S3.out)
    have NTB := Lib.hid (TB.out.on hb3)
    have NRE := Lib.hid (RE.out.on hb3)
    have TB := NTB; clear NTB
    have RE := NRE; clear NRE
    have Hb3 := Lib.hid (bthen Hb2.out hb3)
    clear hb3
    have qRE0 : w3.cell? ⟨w.heap.size + 1, 0, none⟩ = some (.int .i64 0) := RE.out.cell 0
    have qRE1 : w3.cell? ⟨w.heap.size + 1, 1, none⟩ = some (.int .i64 0) := RE.out.cell 1
    have qRE2 : w3.cell? ⟨w.heap.size + 1, 2, none⟩ = some (.int .i64 0) := RE.out.cell 2
    have qRE3 : w3.cell? ⟨w.heap.size + 1, 3, none⟩ = some (.int .i64 0) := RE.out.cell 3
    have qRE4 : w3.cell? ⟨w.heap.size + 1, 4, none⟩ = some (.int .i64 0) := RE.out.cell 4
    have qREl := RE.out.lt
    have qREf0 := RE.out.frozen 0
    have qREf1 := RE.out.frozen 1
    have qREf2 := RE.out.frozen 2
    have qREf3 := RE.out.frozen 3
    have qREf4 := RE.out.frozen 4
    go_wp2
    clear qRE0 qRE1 qRE2 qRE3 qRE4 qREl qREf0 qREf1 qREf2 qREf3 qREf4
    have R9RE := (show Blk (World.setCell (World.setCell (World.setCell (World.setCell (World.setCell w3 ⟨w.heap.size + 1, 0, none⟩ (.int .i64 0)) ⟨w.heap.size + 1, 1, none⟩ (.int .i64 0)) ⟨w.heap.size + 1, 2, none⟩ (.int .i64 0)) ⟨w.heap.size + 1, 3, none⟩ (.int .i64 0)) ⟨w.heap.size + 1, 4, none⟩ (.int .i64 0)) (w.heap.size + 1) 26 #[.int .i64 0, .int .i64 0, .int .i64 0, .int .i64 0, .int .i64 0] by have h9 := (((((RE.out.set 0 (.int .i64 0)).set 1 (.int .i64 0)).set 2 (.int .i64 0)).set 3 (.int .i64 0)).set 4 (.int .i64 0)); simpa using h9)
    have kRE0 := R9RE.cell 0
    have kRE1 := R9RE.cell 1
    have kRE2 := R9RE.cell 2
    have kRE3 := R9RE.cell 3
    have kRE4 := R9RE.cell 4
    simp at kRE0 kRE1 kRE2 kRE3 kRE4
    exact bodyPost_ret (v := .tuple #[.agg #[.int .i64 0, .int .i64 0, .int .i64 0, .int .i64 0, .int .i64 0], .bool false]) (by simp [results, Tryz.results7, go_sem, kRE0, kRE1, kRE2, kRE3, kRE4]) rfl ⟨by rw [HV.out]; rfl, (bst (bst (bst (bst (bst Hb3.out (p := ⟨w.heap.size + 1, 0, none⟩) (show w.heap.size ≤ w.heap.size + 1 by have := Z3.out; (try simp only [World.size_alloc, World.size_setCell, World.size_drew]); omega) (.int .i64 0)) (p := ⟨w.heap.size + 1, 1, none⟩) (show w.heap.size ≤ w.heap.size + 1 by have := Z3.out; (try simp only [World.size_alloc, World.size_setCell, World.size_drew]); omega) (.int .i64 0)) (p := ⟨w.heap.size + 1, 2, none⟩) (show w.heap.size ≤ w.heap.size + 1 by have := Z3.out; (try simp only [World.size_alloc, World.size_setCell, World.size_drew]); omega) (.int .i64 0)) (p := ⟨w.heap.size + 1, 3, none⟩) (show w.heap.size ≤ w.heap.size + 1 by have := Z3.out; (try simp only [World.size_alloc, World.size_setCell, World.size_drew]); omega) (.int .i64 0)) (p := ⟨w.heap.size + 1, 4, none⟩) (show w.heap.size ≤ w.heap.size + 1 by have := Z3.out; (try simp only [World.size_alloc, World.size_setCell, World.size_drew]); omega) (.int .i64 0))⟩
  have hask : askB a b n = true := by unfold askB; rw [htw, hin]; rfl
  obtain ⟨hn1, hn2⟩ := ins60 hin
  obtain ⟨ha, hb, -, -⟩ := twB_bd htw
  have Hp := Lib.hid (fun w9 => plainModel_any a b w9 ha hb)
  have h9 := fun w9 => rankBounds_any a b n.toNat w9 htw hn2
  rw [← hn1] at h9
  have Hr := Lib.hid h9
  have He := Lib.hid (fun w9 => isEntry_any (pmA a b) (pmB a b) (rbV a b n.toNat).1 (rbV a b n.toNat).2.1 0 w9)
  have HY := Lib.hid (fun (h1 : curveB (pmA a b) (pmB a b) = true) (h2 : (rbV a b n.toNat).2.2 = true) (h3 : entB (pmA a b) (pmB a b) (rbV a b n.toNat).1 (rbV a b n.toNat).2.1 0 = true) => show reI a b n = ((pmA a b, pmB a b, (rbV a b n.toNat).1, (rbV a b n.toNat).2.1), true) from if_pos ⟨hask, ⟨h1, h2⟩, h3⟩)
  have HN := Lib.hid (fun (hx : ¬ (curveB (pmA a b) (pmB a b) = true ∧ (rbV a b n.toNat).2.2 = true)) => show reI a b n = ((0, 0, 0, 0), false) from if_neg (fun h => hx h.2.1))
  have HN2 := Lib.hid (fun (hx : ¬ entB (pmA a b) (pmB a b) (rbV a b n.toNat).1 (rbV a b n.toNat).2.1 0 = true) => show reI a b n = ((0, 0, 0, 0), false) from if_neg (fun h => hx h.2.2))
  rw [htw] at Ht
  rw [hin] at Hi
  clear hask htw hin hn2 ha hb h9 hn1
  generalize reI a b n = V at *
  generalize rbV a b n.toNat = B at *
  generalize curveB (pmA a b) (pmB a b) = k at *
  generalize pmA a b = PA at *
  generalize pmB a b = PB at *
  obtain ⟨lo, hi, told⟩ := B
  dsimp only at *
  generalize entB PA PB lo hi 0 = en at *
  cases k
  · have HV := Lib.hid (HN.out (by simp))
    go_enter Tryz.func7, Tryz.ntmps7
    go_wp2_with fail
    refine (Ht.out _).mono ?_; rintro e w4 ⟨rfl, hb4⟩
    have S4 := Lib.hid (show w.heap.size + 2 ≤ w4.heap.size by have h9 := hb4.size; (try simp only [World.size_alloc, World.size_setCell, World.size_drew] at h9); omega)
    have NTB := Lib.hid (((Blk.new w 29 #[.int .i64 a, .int .i64 b]).alloc (Obj.cells #[.int .i64 0, .int .i64 0, .int .i64 0, .int .i64 0, .int .i64 0] 26)).on hb4)
    have NRE := Lib.hid ((show Blk (World.alloc (World.alloc w (Obj.cells #[.int .i64 a, .int .i64 b] 29)) (Obj.cells #[.int .i64 0, .int .i64 0, .int .i64 0, .int .i64 0, .int .i64 0] 26)) (w.heap.size + 1) 26 #[.int .i64 0, .int .i64 0, .int .i64 0, .int .i64 0, .int .i64 0] by have h9 := (Blk.new (World.alloc w (Obj.cells #[.int .i64 a, .int .i64 b] 29)) 26 #[.int .i64 0, .int .i64 0, .int .i64 0, .int .i64 0, .int .i64 0]); (try simp only [World.size_alloc, World.size_setCell] at h9); exact h9).on hb4)
    have TB := NTB; clear NTB
    have RE := NRE; clear NRE
    have Hb4 := Lib.hid (bthen (bal (bal (Below.refl w.heap.size w) (Obj.cells #[.int .i64 a, .int .i64 b] 29)) (Obj.cells #[.int .i64 0, .int .i64 0, .int .i64 0, .int .i64 0, .int .i64 0] 26)) hb4)
    clear hb4
    have qTB0 : w4.cell? ⟨w.heap.size, 0, none⟩ = some (.int .i64 a) := TB.out.cell 0
    have qTB1 : w4.cell? ⟨w.heap.size, 1, none⟩ = some (.int .i64 b) := TB.out.cell 1
    have qTBl := TB.out.lt
    go_wp2_with fail
    clear qTB0 qTB1 qTBl
    refine (Hi.out _).mono ?_; rintro e w5 ⟨rfl, hb5⟩
    have S5 := Lib.hid (show w4.heap.size + 0 ≤ w5.heap.size by have h9 := hb5.size; (try simp only [World.size_alloc, World.size_setCell, World.size_drew] at h9); omega)
    have Z5 := Lib.hid (And.intro S4.out S5.out)
    have NTB := Lib.hid (TB.out.on hb5)
    have NRE := Lib.hid (RE.out.on hb5)
    have TB := NTB; clear NTB
    have RE := NRE; clear NRE
    have Hb5 := Lib.hid (bthen Hb4.out hb5)
    clear hb5
    have qTB0 : w5.cell? ⟨w.heap.size, 0, none⟩ = some (.int .i64 a) := TB.out.cell 0
    have qTB1 : w5.cell? ⟨w.heap.size, 1, none⟩ = some (.int .i64 b) := TB.out.cell 1
    have qTBl := TB.out.lt
    go_wp2_with fail
    clear qTB0 qTB1 qTBl
    refine (Hp.out _).mono ?_; rintro e w6 ⟨⟨z9, rfl⟩, hb6⟩
    have S6 := Lib.hid (show w5.heap.size + 0 ≤ w6.heap.size by have h9 := hb6.size; (try simp only [World.size_alloc, World.size_setCell, World.size_drew] at h9); omega)
    have Z6 := Lib.hid (And.intro Z5.out S6.out)
    have NTB := Lib.hid (TB.out.on hb6)
    have NRE := Lib.hid (RE.out.on hb6)
    have TB := NTB; clear NTB
    have RE := NRE; clear NRE
    have Hb6 := Lib.hid (bthen Hb5.out hb6)
    clear hb6
    have qTB0 : w6.cell? ⟨w.heap.size, 0, none⟩ = some (.int .i64 a) := TB.out.cell 0
    have qTB1 : w6.cell? ⟨w.heap.size, 1, none⟩ = some (.int .i64 b) := TB.out.cell 1
    have qTBl := TB.out.lt
    go_wp2_with fail
    clear qTB0 qTB1 qTBl
    refine (Hr.out _).mono ?_; rintro e w7 ⟨rfl, hb7⟩
    have S7 := Lib.hid (show w6.heap.size + 1 ≤ w7.heap.size by have h9 := hb7.size; (try simp only [World.size_alloc, World.size_setCell, World.size_drew] at h9); omega)
    have Z7 := Lib.hid (And.intro Z6.out S7.out)
    have NTB := Lib.hid ((TB.out.alloc (Obj.cells #[.int .i64 0, .int .i64 0] 24)).on hb7)
    have NRE := Lib.hid ((RE.out.alloc (Obj.cells #[.int .i64 0, .int .i64 0] 24)).on hb7)
    have NPL := Lib.hid ((Blk.new w6 24 #[.int .i64 0, .int .i64 0]).on hb7)
    have TB := NTB; clear NTB
    have RE := NRE; clear NRE
    have PL := NPL; clear NPL
    have Hb7 := Lib.hid (bthen (bal Hb6.out (Obj.cells #[.int .i64 0, .int .i64 0] 24)) hb7)
    clear hb7
    have qPL0 : w7.cell? ⟨w6.heap.size, 0, none⟩ = some (.int .i64 0) := PL.out.cell 0
    have qPL1 : w7.cell? ⟨w6.heap.size, 1, none⟩ = some (.int .i64 0) := PL.out.cell 1
    have qPLl := PL.out.lt
    have qRE0 : w7.cell? ⟨w.heap.size + 1, 0, none⟩ = some (.int .i64 0) := RE.out.cell 0
    have qRE1 : w7.cell? ⟨w.heap.size + 1, 1, none⟩ = some (.int .i64 0) := RE.out.cell 1
    have qRE2 : w7.cell? ⟨w.heap.size + 1, 2, none⟩ = some (.int .i64 0) := RE.out.cell 2
    have qRE3 : w7.cell? ⟨w.heap.size + 1, 3, none⟩ = some (.int .i64 0) := RE.out.cell 3
    have qRE4 : w7.cell? ⟨w.heap.size + 1, 4, none⟩ = some (.int .i64 0) := RE.out.cell 4
    have qREl := RE.out.lt
    have qREf0 := RE.out.frozen 0
    have qREf1 := RE.out.frozen 1
    have qREf2 := RE.out.frozen 2
    have qREf3 := RE.out.frozen 3
    have qREf4 := RE.out.frozen 4
    have nPLRE : w6.heap.size ≠ w.heap.size + 1 := by have := Z7.out; (try simp only [World.size_alloc, World.size_setCell, World.size_drew]); omega
    have nREPL : w.heap.size + 1 ≠ w6.heap.size := fun e => nPLRE e.symm
    go_wp2
    clear qPL0 qPL1 qPLl qRE0 qRE1 qRE2 qRE3 qRE4 qREl qREf0 qREf1 qREf2 qREf3 qREf4 nPLRE nREPL
    have R9RE := (show Blk (World.alloc (World.setCell (World.setCell (World.setCell (World.setCell (World.setCell w7 ⟨w.heap.size + 1, 0, none⟩ (.int .i64 0)) ⟨w.heap.size + 1, 1, none⟩ (.int .i64 0)) ⟨w.heap.size + 1, 2, none⟩ (.int .i64 0)) ⟨w.heap.size + 1, 3, none⟩ (.int .i64 0)) ⟨w.heap.size + 1, 4, none⟩ (.int .i64 0)) (Obj.cells #[.int .i64 0, .int .i64 0, .int .i64 lo, .int .i64 hi, .int .i64 0] 26)) (w.heap.size + 1) 26 #[.int .i64 0, .int .i64 0, .int .i64 0, .int .i64 0, .int .i64 0] by have h9 := ((((((RE.out.set 0 (.int .i64 0)).set 1 (.int .i64 0)).set 2 (.int .i64 0)).set 3 (.int .i64 0)).set 4 (.int .i64 0)).alloc (Obj.cells #[.int .i64 0, .int .i64 0, .int .i64 lo, .int .i64 hi, .int .i64 0] 26)); simpa using h9)
    have kRE0 := R9RE.cell 0
    have kRE1 := R9RE.cell 1
    have kRE2 := R9RE.cell 2
    have kRE3 := R9RE.cell 3
    have kRE4 := R9RE.cell 4
    simp at kRE0 kRE1 kRE2 kRE3 kRE4
    exact bodyPost_ret (v := .tuple #[.agg #[.int .i64 0, .int .i64 0, .int .i64 0, .int .i64 0, .int .i64 0], .bool false]) (by simp [results, Tryz.results7, go_sem, kRE0, kRE1, kRE2, kRE3, kRE4]) rfl ⟨by rw [HV.out]; rfl, (bal (bst (bst (bst (bst (bst Hb7.out (p := ⟨w.heap.size + 1, 0, none⟩) (show w.heap.size ≤ w.heap.size + 1 by have := Z7.out; (try simp only [World.size_alloc, World.size_setCell, World.size_drew]); omega) (.int .i64 0)) (p := ⟨w.heap.size + 1, 1, none⟩) (show w.heap.size ≤ w.heap.size + 1 by have := Z7.out; (try simp only [World.size_alloc, World.size_setCell, World.size_drew]); omega) (.int .i64 0)) (p := ⟨w.heap.size + 1, 2, none⟩) (show w.heap.size ≤ w.heap.size + 1 by have := Z7.out; (try simp only [World.size_alloc, World.size_setCell, World.size_drew]); omega) (.int .i64 0)) (p := ⟨w.heap.size + 1, 3, none⟩) (show w.heap.size ≤ w.heap.size + 1 by have := Z7.out; (try simp only [World.size_alloc, World.size_setCell, World.size_drew]); omega) (.int .i64 0)) (p := ⟨w.heap.size + 1, 4, none⟩) (show w.heap.size ≤ w.heap.size + 1 by have := Z7.out; (try simp only [World.size_alloc, World.size_setCell, World.size_drew]); omega) (.int .i64 0)) (Obj.cells #[.int .i64 0, .int .i64 0, .int .i64 lo, .int .i64 hi, .int .i64 0] 26))⟩
  rw [if_pos rfl, if_pos rfl] at Hp
  cases told
  · have HV := Lib.hid (HN.out (by simp))
    go_enter Tryz.func7, Tryz.ntmps7
    go_wp2_with fail
    refine (Ht.out _).mono ?_; rintro e w8 ⟨rfl, hb8⟩
    have S8 := Lib.hid (show w.heap.size + 2 ≤ w8.heap.size by have h9 := hb8.size; (try simp only [World.size_alloc, World.size_setCell, World.size_drew] at h9); omega)
    have NTB := Lib.hid (((Blk.new w 29 #[.int .i64 a, .int .i64 b]).alloc (Obj.cells #[.int .i64 0, .int .i64 0, .int .i64 0, .int .i64 0, .int .i64 0] 26)).on hb8)
    have NRE := Lib.hid ((show Blk (World.alloc (World.alloc w (Obj.cells #[.int .i64 a, .int .i64 b] 29)) (Obj.cells #[.int .i64 0, .int .i64 0, .int .i64 0, .int .i64 0, .int .i64 0] 26)) (w.heap.size + 1) 26 #[.int .i64 0, .int .i64 0, .int .i64 0, .int .i64 0, .int .i64 0] by have h9 := (Blk.new (World.alloc w (Obj.cells #[.int .i64 a, .int .i64 b] 29)) 26 #[.int .i64 0, .int .i64 0, .int .i64 0, .int .i64 0, .int .i64 0]); (try simp only [World.size_alloc, World.size_setCell] at h9); exact h9).on hb8)
    have TB := NTB; clear NTB
    have RE := NRE; clear NRE
    have Hb8 := Lib.hid (bthen (bal (bal (Below.refl w.heap.size w) (Obj.cells #[.int .i64 a, .int .i64 b] 29)) (Obj.cells #[.int .i64 0, .int .i64 0, .int .i64 0, .int .i64 0, .int .i64 0] 26)) hb8)
    clear hb8
    have qTB0 : w8.cell? ⟨w.heap.size, 0, none⟩ = some (.int .i64 a) := TB.out.cell 0
    have qTB1 : w8.cell? ⟨w.heap.size, 1, none⟩ = some (.int .i64 b) := TB.out.cell 1
    have qTBl := TB.out.lt
    go_wp2_with fail
    clear qTB0 qTB1 qTBl
    refine (Hi.out _).mono ?_; rintro e w9 ⟨rfl, hb9⟩
    have S9 := Lib.hid (show w8.heap.size + 0 ≤ w9.heap.size by have h9 := hb9.size; (try simp only [World.size_alloc, World.size_setCell, World.size_drew] at h9); omega)
    have Z9 := Lib.hid (And.intro S8.out S9.out)
    have NTB := Lib.hid (TB.out.on hb9)
    have NRE := Lib.hid (RE.out.on hb9)
    have TB := NTB; clear NTB
    have RE := NRE; clear NRE
    have Hb9 := Lib.hid (bthen Hb8.out hb9)
    clear hb9
    have qTB0 : w9.cell? ⟨w.heap.size, 0, none⟩ = some (.int .i64 a) := TB.out.cell 0
    have qTB1 : w9.cell? ⟨w.heap.size, 1, none⟩ = some (.int .i64 b) := TB.out.cell 1
    have qTBl := TB.out.lt
    go_wp2_with fail
    clear qTB0 qTB1 qTBl
    refine (Hp.out _).mono ?_; rintro e w10 ⟨⟨z9, rfl⟩, hb10⟩
    have S10 := Lib.hid (show w9.heap.size + 0 ≤ w10.heap.size by have h9 := hb10.size; (try simp only [World.size_alloc, World.size_setCell, World.size_drew] at h9); omega)
    have Z10 := Lib.hid (And.intro Z9.out S10.out)
    have NTB := Lib.hid (TB.out.on hb10)
    have NRE := Lib.hid (RE.out.on hb10)
    have TB := NTB; clear NTB
    have RE := NRE; clear NRE
    have Hb10 := Lib.hid (bthen Hb9.out hb10)
    clear hb10
    have qTB0 : w10.cell? ⟨w.heap.size, 0, none⟩ = some (.int .i64 a) := TB.out.cell 0
    have qTB1 : w10.cell? ⟨w.heap.size, 1, none⟩ = some (.int .i64 b) := TB.out.cell 1
    have qTBl := TB.out.lt
    go_wp2_with fail
    clear qTB0 qTB1 qTBl
    refine (Hr.out _).mono ?_; rintro e w11 ⟨rfl, hb11⟩
    have S11 := Lib.hid (show w10.heap.size + 1 ≤ w11.heap.size by have h9 := hb11.size; (try simp only [World.size_alloc, World.size_setCell, World.size_drew] at h9); omega)
    have Z11 := Lib.hid (And.intro Z10.out S11.out)
    have NTB := Lib.hid ((TB.out.alloc (Obj.cells #[.int .i64 PA, .int .i64 PB] 24)).on hb11)
    have NRE := Lib.hid ((RE.out.alloc (Obj.cells #[.int .i64 PA, .int .i64 PB] 24)).on hb11)
    have NPL := Lib.hid ((Blk.new w10 24 #[.int .i64 PA, .int .i64 PB]).on hb11)
    have TB := NTB; clear NTB
    have RE := NRE; clear NRE
    have PL := NPL; clear NPL
    have Hb11 := Lib.hid (bthen (bal Hb10.out (Obj.cells #[.int .i64 PA, .int .i64 PB] 24)) hb11)
    clear hb11
    have qPL0 : w11.cell? ⟨w10.heap.size, 0, none⟩ = some (.int .i64 PA) := PL.out.cell 0
    have qPL1 : w11.cell? ⟨w10.heap.size, 1, none⟩ = some (.int .i64 PB) := PL.out.cell 1
    have qPLl := PL.out.lt
    have qRE0 : w11.cell? ⟨w.heap.size + 1, 0, none⟩ = some (.int .i64 0) := RE.out.cell 0
    have qRE1 : w11.cell? ⟨w.heap.size + 1, 1, none⟩ = some (.int .i64 0) := RE.out.cell 1
    have qRE2 : w11.cell? ⟨w.heap.size + 1, 2, none⟩ = some (.int .i64 0) := RE.out.cell 2
    have qRE3 : w11.cell? ⟨w.heap.size + 1, 3, none⟩ = some (.int .i64 0) := RE.out.cell 3
    have qRE4 : w11.cell? ⟨w.heap.size + 1, 4, none⟩ = some (.int .i64 0) := RE.out.cell 4
    have qREl := RE.out.lt
    have qREf0 := RE.out.frozen 0
    have qREf1 := RE.out.frozen 1
    have qREf2 := RE.out.frozen 2
    have qREf3 := RE.out.frozen 3
    have qREf4 := RE.out.frozen 4
    have nPLRE : w10.heap.size ≠ w.heap.size + 1 := by have := Z11.out; (try simp only [World.size_alloc, World.size_setCell, World.size_drew]); omega
    have nREPL : w.heap.size + 1 ≠ w10.heap.size := fun e => nPLRE e.symm
    go_wp2
    clear qPL0 qPL1 qPLl qRE0 qRE1 qRE2 qRE3 qRE4 qREl qREf0 qREf1 qREf2 qREf3 qREf4 nPLRE nREPL
    have R9RE := (show Blk (World.alloc (World.setCell (World.setCell (World.setCell (World.setCell (World.setCell w11 ⟨w.heap.size + 1, 0, none⟩ (.int .i64 0)) ⟨w.heap.size + 1, 1, none⟩ (.int .i64 0)) ⟨w.heap.size + 1, 2, none⟩ (.int .i64 0)) ⟨w.heap.size + 1, 3, none⟩ (.int .i64 0)) ⟨w.heap.size + 1, 4, none⟩ (.int .i64 0)) (Obj.cells #[.int .i64 PA, .int .i64 PB, .int .i64 lo, .int .i64 hi, .int .i64 0] 26)) (w.heap.size + 1) 26 #[.int .i64 0, .int .i64 0, .int .i64 0, .int .i64 0, .int .i64 0] by have h9 := ((((((RE.out.set 0 (.int .i64 0)).set 1 (.int .i64 0)).set 2 (.int .i64 0)).set 3 (.int .i64 0)).set 4 (.int .i64 0)).alloc (Obj.cells #[.int .i64 PA, .int .i64 PB, .int .i64 lo, .int .i64 hi, .int .i64 0] 26)); simpa using h9)
    have kRE0 := R9RE.cell 0
    have kRE1 := R9RE.cell 1
    have kRE2 := R9RE.cell 2
    have kRE3 := R9RE.cell 3
    have kRE4 := R9RE.cell 4
    simp at kRE0 kRE1 kRE2 kRE3 kRE4
    exact bodyPost_ret (v := .tuple #[.agg #[.int .i64 0, .int .i64 0, .int .i64 0, .int .i64 0, .int .i64 0], .bool false]) (by simp [results, Tryz.results7, go_sem, kRE0, kRE1, kRE2, kRE3, kRE4]) rfl ⟨by rw [HV.out]; rfl, (bal (bst (bst (bst (bst (bst Hb11.out (p := ⟨w.heap.size + 1, 0, none⟩) (show w.heap.size ≤ w.heap.size + 1 by have := Z11.out; (try simp only [World.size_alloc, World.size_setCell, World.size_drew]); omega) (.int .i64 0)) (p := ⟨w.heap.size + 1, 1, none⟩) (show w.heap.size ≤ w.heap.size + 1 by have := Z11.out; (try simp only [World.size_alloc, World.size_setCell, World.size_drew]); omega) (.int .i64 0)) (p := ⟨w.heap.size + 1, 2, none⟩) (show w.heap.size ≤ w.heap.size + 1 by have := Z11.out; (try simp only [World.size_alloc, World.size_setCell, World.size_drew]); omega) (.int .i64 0)) (p := ⟨w.heap.size + 1, 3, none⟩) (show w.heap.size ≤ w.heap.size + 1 by have := Z11.out; (try simp only [World.size_alloc, World.size_setCell, World.size_drew]); omega) (.int .i64 0)) (p := ⟨w.heap.size + 1, 4, none⟩) (show w.heap.size ≤ w.heap.size + 1 by have := Z11.out; (try simp only [World.size_alloc, World.size_setCell, World.size_drew]); omega) (.int .i64 0)) (Obj.cells #[.int .i64 PA, .int .i64 PB, .int .i64 lo, .int .i64 hi, .int .i64 0] 26))⟩
  cases en
  · have HV := Lib.hid (HN2.out (by simp))
    go_enter Tryz.func7, Tryz.ntmps7
    go_wp2_with fail
    refine (Ht.out _).mono ?_; rintro e w12 ⟨rfl, hb12⟩
    have S12 := Lib.hid (show w.heap.size + 2 ≤ w12.heap.size by have h9 := hb12.size; (try simp only [World.size_alloc, World.size_setCell, World.size_drew] at h9); omega)
    have NTB := Lib.hid (((Blk.new w 29 #[.int .i64 a, .int .i64 b]).alloc (Obj.cells #[.int .i64 0, .int .i64 0, .int .i64 0, .int .i64 0, .int .i64 0] 26)).on hb12)
    have NRE := Lib.hid ((show Blk (World.alloc (World.alloc w (Obj.cells #[.int .i64 a, .int .i64 b] 29)) (Obj.cells #[.int .i64 0, .int .i64 0, .int .i64 0, .int .i64 0, .int .i64 0] 26)) (w.heap.size + 1) 26 #[.int .i64 0, .int .i64 0, .int .i64 0, .int .i64 0, .int .i64 0] by have h9 := (Blk.new (World.alloc w (Obj.cells #[.int .i64 a, .int .i64 b] 29)) 26 #[.int .i64 0, .int .i64 0, .int .i64 0, .int .i64 0, .int .i64 0]); (try simp only [World.size_alloc, World.size_setCell] at h9); exact h9).on hb12)
    have TB := NTB; clear NTB
    have RE := NRE; clear NRE
    have Hb12 := Lib.hid (bthen (bal (bal (Below.refl w.heap.size w) (Obj.cells #[.int .i64 a, .int .i64 b] 29)) (Obj.cells #[.int .i64 0, .int .i64 0, .int .i64 0, .int .i64 0, .int .i64 0] 26)) hb12)
    clear hb12
    have qTB0 : w12.cell? ⟨w.heap.size, 0, none⟩ = some (.int .i64 a) := TB.out.cell 0
    have qTB1 : w12.cell? ⟨w.heap.size, 1, none⟩ = some (.int .i64 b) := TB.out.cell 1
    have qTBl := TB.out.lt
    go_wp2_with fail
    clear qTB0 qTB1 qTBl
    refine (Hi.out _).mono ?_; rintro e w13 ⟨rfl, hb13⟩
    have S13 := Lib.hid (show w12.heap.size + 0 ≤ w13.heap.size by have h9 := hb13.size; (try simp only [World.size_alloc, World.size_setCell, World.size_drew] at h9); omega)
    have Z13 := Lib.hid (And.intro S12.out S13.out)
    have NTB := Lib.hid (TB.out.on hb13)
    have NRE := Lib.hid (RE.out.on hb13)
    have TB := NTB; clear NTB
    have RE := NRE; clear NRE
    have Hb13 := Lib.hid (bthen Hb12.out hb13)
    clear hb13
    have qTB0 : w13.cell? ⟨w.heap.size, 0, none⟩ = some (.int .i64 a) := TB.out.cell 0
    have qTB1 : w13.cell? ⟨w.heap.size, 1, none⟩ = some (.int .i64 b) := TB.out.cell 1
    have qTBl := TB.out.lt
    go_wp2_with fail
    clear qTB0 qTB1 qTBl
    refine (Hp.out _).mono ?_; rintro e w14 ⟨⟨z9, rfl⟩, hb14⟩
    have S14 := Lib.hid (show w13.heap.size + 0 ≤ w14.heap.size by have h9 := hb14.size; (try simp only [World.size_alloc, World.size_setCell, World.size_drew] at h9); omega)
    have Z14 := Lib.hid (And.intro Z13.out S14.out)
    have NTB := Lib.hid (TB.out.on hb14)
    have NRE := Lib.hid (RE.out.on hb14)
    have TB := NTB; clear NTB
    have RE := NRE; clear NRE
    have Hb14 := Lib.hid (bthen Hb13.out hb14)
    clear hb14
    have qTB0 : w14.cell? ⟨w.heap.size, 0, none⟩ = some (.int .i64 a) := TB.out.cell 0
    have qTB1 : w14.cell? ⟨w.heap.size, 1, none⟩ = some (.int .i64 b) := TB.out.cell 1
    have qTBl := TB.out.lt
    go_wp2_with fail
    clear qTB0 qTB1 qTBl
    refine (Hr.out _).mono ?_; rintro e w15 ⟨rfl, hb15⟩
    have S15 := Lib.hid (show w14.heap.size + 1 ≤ w15.heap.size by have h9 := hb15.size; (try simp only [World.size_alloc, World.size_setCell, World.size_drew] at h9); omega)
    have Z15 := Lib.hid (And.intro Z14.out S15.out)
    have NTB := Lib.hid ((TB.out.alloc (Obj.cells #[.int .i64 PA, .int .i64 PB] 24)).on hb15)
    have NRE := Lib.hid ((RE.out.alloc (Obj.cells #[.int .i64 PA, .int .i64 PB] 24)).on hb15)
    have NPL := Lib.hid ((Blk.new w14 24 #[.int .i64 PA, .int .i64 PB]).on hb15)
    have TB := NTB; clear NTB
    have RE := NRE; clear NRE
    have PL := NPL; clear NPL
    have Hb15 := Lib.hid (bthen (bal Hb14.out (Obj.cells #[.int .i64 PA, .int .i64 PB] 24)) hb15)
    clear hb15
    have qPL0 : w15.cell? ⟨w14.heap.size, 0, none⟩ = some (.int .i64 PA) := PL.out.cell 0
    have qPL1 : w15.cell? ⟨w14.heap.size, 1, none⟩ = some (.int .i64 PB) := PL.out.cell 1
    have qPLl := PL.out.lt
    go_wp2_with fail
    clear qPL0 qPL1 qPLl
    refine (He.out _).mono ?_; rintro e w16 ⟨rfl, hb16⟩
    have S16 := Lib.hid (show w15.heap.size + 1 ≤ w16.heap.size by have h9 := hb16.size; (try simp only [World.size_alloc, World.size_setCell, World.size_drew] at h9); omega)
    have Z16 := Lib.hid (And.intro Z15.out S16.out)
    have NTB := Lib.hid ((TB.out.alloc (Obj.cells #[.int .i64 PA, .int .i64 PB, .int .i64 lo, .int .i64 hi, .int .i64 0] 26)).on hb16)
    have NRE := Lib.hid ((RE.out.alloc (Obj.cells #[.int .i64 PA, .int .i64 PB, .int .i64 lo, .int .i64 hi, .int .i64 0] 26)).on hb16)
    have NPL := Lib.hid ((PL.out.alloc (Obj.cells #[.int .i64 PA, .int .i64 PB, .int .i64 lo, .int .i64 hi, .int .i64 0] 26)).on hb16)
    have NEE := Lib.hid ((Blk.new w15 26 #[.int .i64 PA, .int .i64 PB, .int .i64 lo, .int .i64 hi, .int .i64 0]).on hb16)
    have TB := NTB; clear NTB
    have RE := NRE; clear NRE
    have PL := NPL; clear NPL
    have EE := NEE; clear NEE
    have Hb16 := Lib.hid (bthen (bal Hb15.out (Obj.cells #[.int .i64 PA, .int .i64 PB, .int .i64 lo, .int .i64 hi, .int .i64 0] 26)) hb16)
    clear hb16
    have qEE0 : w16.cell? ⟨w15.heap.size, 0, none⟩ = some (.int .i64 PA) := EE.out.cell 0
    have qEE1 : w16.cell? ⟨w15.heap.size, 1, none⟩ = some (.int .i64 PB) := EE.out.cell 1
    have qEE2 : w16.cell? ⟨w15.heap.size, 2, none⟩ = some (.int .i64 lo) := EE.out.cell 2
    have qEE3 : w16.cell? ⟨w15.heap.size, 3, none⟩ = some (.int .i64 hi) := EE.out.cell 3
    have qEE4 : w16.cell? ⟨w15.heap.size, 4, none⟩ = some (.int .i64 0) := EE.out.cell 4
    have qEEl := EE.out.lt
    have qRE0 : w16.cell? ⟨w.heap.size + 1, 0, none⟩ = some (.int .i64 0) := RE.out.cell 0
    have qRE1 : w16.cell? ⟨w.heap.size + 1, 1, none⟩ = some (.int .i64 0) := RE.out.cell 1
    have qRE2 : w16.cell? ⟨w.heap.size + 1, 2, none⟩ = some (.int .i64 0) := RE.out.cell 2
    have qRE3 : w16.cell? ⟨w.heap.size + 1, 3, none⟩ = some (.int .i64 0) := RE.out.cell 3
    have qRE4 : w16.cell? ⟨w.heap.size + 1, 4, none⟩ = some (.int .i64 0) := RE.out.cell 4
    have qREl := RE.out.lt
    have qREf0 := RE.out.frozen 0
    have qREf1 := RE.out.frozen 1
    have qREf2 := RE.out.frozen 2
    have qREf3 := RE.out.frozen 3
    have qREf4 := RE.out.frozen 4
    have nEERE : w15.heap.size ≠ w.heap.size + 1 := by have := Z16.out; (try simp only [World.size_alloc, World.size_setCell, World.size_drew]); omega
    have nREEE : w.heap.size + 1 ≠ w15.heap.size := fun e => nEERE e.symm
    go_wp2
    clear qEE0 qEE1 qEE2 qEE3 qEE4 qEEl qRE0 qRE1 qRE2 qRE3 qRE4 qREl qREf0 qREf1 qREf2 qREf3 qREf4 nEERE nREEE
    have R9RE := (show Blk (World.setCell (World.setCell (World.setCell (World.setCell (World.setCell w16 ⟨w.heap.size + 1, 0, none⟩ (.int .i64 0)) ⟨w.heap.size + 1, 1, none⟩ (.int .i64 0)) ⟨w.heap.size + 1, 2, none⟩ (.int .i64 0)) ⟨w.heap.size + 1, 3, none⟩ (.int .i64 0)) ⟨w.heap.size + 1, 4, none⟩ (.int .i64 0)) (w.heap.size + 1) 26 #[.int .i64 0, .int .i64 0, .int .i64 0, .int .i64 0, .int .i64 0] by have h9 := (((((RE.out.set 0 (.int .i64 0)).set 1 (.int .i64 0)).set 2 (.int .i64 0)).set 3 (.int .i64 0)).set 4 (.int .i64 0)); simpa using h9)
    have kRE0 := R9RE.cell 0
    have kRE1 := R9RE.cell 1
    have kRE2 := R9RE.cell 2
    have kRE3 := R9RE.cell 3
    have kRE4 := R9RE.cell 4
    simp at kRE0 kRE1 kRE2 kRE3 kRE4
    exact bodyPost_ret (v := .tuple #[.agg #[.int .i64 0, .int .i64 0, .int .i64 0, .int .i64 0, .int .i64 0], .bool false]) (by simp [results, Tryz.results7, go_sem, kRE0, kRE1, kRE2, kRE3, kRE4]) rfl ⟨by rw [HV.out]; rfl, (bst (bst (bst (bst (bst Hb16.out (p := ⟨w.heap.size + 1, 0, none⟩) (show w.heap.size ≤ w.heap.size + 1 by have := Z16.out; (try simp only [World.size_alloc, World.size_setCell, World.size_drew]); omega) (.int .i64 0)) (p := ⟨w.heap.size + 1, 1, none⟩) (show w.heap.size ≤ w.heap.size + 1 by have := Z16.out; (try simp only [World.size_alloc, World.size_setCell, World.size_drew]); omega) (.int .i64 0)) (p := ⟨w.heap.size + 1, 2, none⟩) (show w.heap.size ≤ w.heap.size + 1 by have := Z16.out; (try simp only [World.size_alloc, World.size_setCell, World.size_drew]); omega) (.int .i64 0)) (p := ⟨w.heap.size + 1, 3, none⟩) (show w.heap.size ≤ w.heap.size + 1 by have := Z16.out; (try simp only [World.size_alloc, World.size_setCell, World.size_drew]); omega) (.int .i64 0)) (p := ⟨w.heap.size + 1, 4, none⟩) (show w.heap.size ≤ w.heap.size + 1 by have := Z16.out; (try simp only [World.size_alloc, World.size_setCell, World.size_drew]); omega) (.int .i64 0))⟩
  have HV := Lib.hid (HY.out rfl rfl rfl)
  go_enter Tryz.func7, Tryz.ntmps7
  go_wp2_with fail
  refine (Ht.out _).mono ?_; rintro e w17 ⟨rfl, hb17⟩
  have S17 := Lib.hid (show w.heap.size + 2 ≤ w17.heap.size by have h9 := hb17.size; (try simp only [World.size_alloc, World.size_setCell, World.size_drew] at h9); omega)
  have NTB := Lib.hid (((Blk.new w 29 #[.int .i64 a, .int .i64 b]).alloc (Obj.cells #[.int .i64 0, .int .i64 0, .int .i64 0, .int .i64 0, .int .i64 0] 26)).on hb17)
  have NRE := Lib.hid ((show Blk (World.alloc (World.alloc w (Obj.cells #[.int .i64 a, .int .i64 b] 29)) (Obj.cells #[.int .i64 0, .int .i64 0, .int .i64 0, .int .i64 0, .int .i64 0] 26)) (w.heap.size + 1) 26 #[.int .i64 0, .int .i64 0, .int .i64 0, .int .i64 0, .int .i64 0] by have h9 := (Blk.new (World.alloc w (Obj.cells #[.int .i64 a, .int .i64 b] 29)) 26 #[.int .i64 0, .int .i64 0, .int .i64 0, .int .i64 0, .int .i64 0]); (try simp only [World.size_alloc, World.size_setCell] at h9); exact h9).on hb17)
  have TB := NTB; clear NTB
  have RE := NRE; clear NRE
  have Hb17 := Lib.hid (bthen (bal (bal (Below.refl w.heap.size w) (Obj.cells #[.int .i64 a, .int .i64 b] 29)) (Obj.cells #[.int .i64 0, .int .i64 0, .int .i64 0, .int .i64 0, .int .i64 0] 26)) hb17)
  clear hb17
  have qTB0 : w17.cell? ⟨w.heap.size, 0, none⟩ = some (.int .i64 a) := TB.out.cell 0
  have qTB1 : w17.cell? ⟨w.heap.size, 1, none⟩ = some (.int .i64 b) := TB.out.cell 1
  have qTBl := TB.out.lt
  go_wp2_with fail
  clear qTB0 qTB1 qTBl
  refine (Hi.out _).mono ?_; rintro e w18 ⟨rfl, hb18⟩
  have S18 := Lib.hid (show w17.heap.size + 0 ≤ w18.heap.size by have h9 := hb18.size; (try simp only [World.size_alloc, World.size_setCell, World.size_drew] at h9); omega)
  have Z18 := Lib.hid (And.intro S17.out S18.out)
  have NTB := Lib.hid (TB.out.on hb18)
  have NRE := Lib.hid (RE.out.on hb18)
  have TB := NTB; clear NTB
  have RE := NRE; clear NRE
  have Hb18 := Lib.hid (bthen Hb17.out hb18)
  clear hb18
  have qTB0 : w18.cell? ⟨w.heap.size, 0, none⟩ = some (.int .i64 a) := TB.out.cell 0
  have qTB1 : w18.cell? ⟨w.heap.size, 1, none⟩ = some (.int .i64 b) := TB.out.cell 1
  have qTBl := TB.out.lt
  go_wp2_with fail
  clear qTB0 qTB1 qTBl
  refine (Hp.out _).mono ?_; rintro e w19 ⟨⟨z9, rfl⟩, hb19⟩
  have S19 := Lib.hid (show w18.heap.size + 0 ≤ w19.heap.size by have h9 := hb19.size; (try simp only [World.size_alloc, World.size_setCell, World.size_drew] at h9); omega)
  have Z19 := Lib.hid (And.intro Z18.out S19.out)
  have NTB := Lib.hid (TB.out.on hb19)
  have NRE := Lib.hid (RE.out.on hb19)
  have TB := NTB; clear NTB
  have RE := NRE; clear NRE
  have Hb19 := Lib.hid (bthen Hb18.out hb19)
  clear hb19
  have qTB0 : w19.cell? ⟨w.heap.size, 0, none⟩ = some (.int .i64 a) := TB.out.cell 0
  have qTB1 : w19.cell? ⟨w.heap.size, 1, none⟩ = some (.int .i64 b) := TB.out.cell 1
  have qTBl := TB.out.lt
  go_wp2_with fail
  clear qTB0 qTB1 qTBl
  refine (Hr.out _).mono ?_; rintro e w20 ⟨rfl, hb20⟩
  have S20 := Lib.hid (show w19.heap.size + 1 ≤ w20.heap.size by have h9 := hb20.size; (try simp only [World.size_alloc, World.size_setCell, World.size_drew] at h9); omega)
  have Z20 := Lib.hid (And.intro Z19.out S20.out)
  have NTB := Lib.hid ((TB.out.alloc (Obj.cells #[.int .i64 PA, .int .i64 PB] 24)).on hb20)
  have NRE := Lib.hid ((RE.out.alloc (Obj.cells #[.int .i64 PA, .int .i64 PB] 24)).on hb20)
  have NPL := Lib.hid ((Blk.new w19 24 #[.int .i64 PA, .int .i64 PB]).on hb20)
  have TB := NTB; clear NTB
  have RE := NRE; clear NRE
  have PL := NPL; clear NPL
  have Hb20 := Lib.hid (bthen (bal Hb19.out (Obj.cells #[.int .i64 PA, .int .i64 PB] 24)) hb20)
  clear hb20
  have qPL0 : w20.cell? ⟨w19.heap.size, 0, none⟩ = some (.int .i64 PA) := PL.out.cell 0
  have qPL1 : w20.cell? ⟨w19.heap.size, 1, none⟩ = some (.int .i64 PB) := PL.out.cell 1
  have qPLl := PL.out.lt
  go_wp2_with fail
  clear qPL0 qPL1 qPLl
  refine (He.out _).mono ?_; rintro e w21 ⟨rfl, hb21⟩
  have S21 := Lib.hid (show w20.heap.size + 1 ≤ w21.heap.size by have h9 := hb21.size; (try simp only [World.size_alloc, World.size_setCell, World.size_drew] at h9); omega)
  have Z21 := Lib.hid (And.intro Z20.out S21.out)
  have NTB := Lib.hid ((TB.out.alloc (Obj.cells #[.int .i64 PA, .int .i64 PB, .int .i64 lo, .int .i64 hi, .int .i64 0] 26)).on hb21)
  have NRE := Lib.hid ((RE.out.alloc (Obj.cells #[.int .i64 PA, .int .i64 PB, .int .i64 lo, .int .i64 hi, .int .i64 0] 26)).on hb21)
  have NPL := Lib.hid ((PL.out.alloc (Obj.cells #[.int .i64 PA, .int .i64 PB, .int .i64 lo, .int .i64 hi, .int .i64 0] 26)).on hb21)
  have NEE := Lib.hid ((Blk.new w20 26 #[.int .i64 PA, .int .i64 PB, .int .i64 lo, .int .i64 hi, .int .i64 0]).on hb21)
  have TB := NTB; clear NTB
  have RE := NRE; clear NRE
  have PL := NPL; clear NPL
  have EE := NEE; clear NEE
  have Hb21 := Lib.hid (bthen (bal Hb20.out (Obj.cells #[.int .i64 PA, .int .i64 PB, .int .i64 lo, .int .i64 hi, .int .i64 0] 26)) hb21)
  clear hb21
  have qEE0 : w21.cell? ⟨w20.heap.size, 0, none⟩ = some (.int .i64 PA) := EE.out.cell 0
  have qEE1 : w21.cell? ⟨w20.heap.size, 1, none⟩ = some (.int .i64 PB) := EE.out.cell 1
  have qEE2 : w21.cell? ⟨w20.heap.size, 2, none⟩ = some (.int .i64 lo) := EE.out.cell 2
  have qEE3 : w21.cell? ⟨w20.heap.size, 3, none⟩ = some (.int .i64 hi) := EE.out.cell 3
  have qEE4 : w21.cell? ⟨w20.heap.size, 4, none⟩ = some (.int .i64 0) := EE.out.cell 4
  have qEEl := EE.out.lt
  have qRE0 : w21.cell? ⟨w.heap.size + 1, 0, none⟩ = some (.int .i64 0) := RE.out.cell 0
  have qRE1 : w21.cell? ⟨w.heap.size + 1, 1, none⟩ = some (.int .i64 0) := RE.out.cell 1
  have qRE2 : w21.cell? ⟨w.heap.size + 1, 2, none⟩ = some (.int .i64 0) := RE.out.cell 2
  have qRE3 : w21.cell? ⟨w.heap.size + 1, 3, none⟩ = some (.int .i64 0) := RE.out.cell 3
  have qRE4 : w21.cell? ⟨w.heap.size + 1, 4, none⟩ = some (.int .i64 0) := RE.out.cell 4
  have qREl := RE.out.lt
  have qREf0 := RE.out.frozen 0
  have qREf1 := RE.out.frozen 1
  have qREf2 := RE.out.frozen 2
  have qREf3 := RE.out.frozen 3
  have qREf4 := RE.out.frozen 4
  have nEERE : w20.heap.size ≠ w.heap.size + 1 := by have := Z21.out; (try simp only [World.size_alloc, World.size_setCell, World.size_drew]); omega
  have nREEE : w.heap.size + 1 ≠ w20.heap.size := fun e => nEERE e.symm
  go_wp2
  clear qEE0 qEE1 qEE2 qEE3 qEE4 qEEl qRE0 qRE1 qRE2 qRE3 qRE4 qREl qREf0 qREf1 qREf2 qREf3 qREf4 nEERE nREEE
  have R9RE := (show Blk (World.setCell (World.setCell (World.setCell (World.setCell (World.setCell w21 ⟨w.heap.size + 1, 0, none⟩ (.int .i64 PA)) ⟨w.heap.size + 1, 1, none⟩ (.int .i64 PB)) ⟨w.heap.size + 1, 2, none⟩ (.int .i64 lo)) ⟨w.heap.size + 1, 3, none⟩ (.int .i64 hi)) ⟨w.heap.size + 1, 4, none⟩ (.int .i64 0)) (w.heap.size + 1) 26 #[.int .i64 PA, .int .i64 PB, .int .i64 lo, .int .i64 hi, .int .i64 0] by have h9 := (((((RE.out.set 0 (.int .i64 PA)).set 1 (.int .i64 PB)).set 2 (.int .i64 lo)).set 3 (.int .i64 hi)).set 4 (.int .i64 0)); simpa using h9)
  have kRE0 := R9RE.cell 0
  have kRE1 := R9RE.cell 1
  have kRE2 := R9RE.cell 2
  have kRE3 := R9RE.cell 3
  have kRE4 := R9RE.cell 4
  simp at kRE0 kRE1 kRE2 kRE3 kRE4
  exact bodyPost_ret (v := .tuple #[.agg #[.int .i64 PA, .int .i64 PB, .int .i64 lo, .int .i64 hi, .int .i64 0], .bool true]) (by simp [results, Tryz.results7, go_sem, kRE0, kRE1, kRE2, kRE3, kRE4]) rfl ⟨by rw [HV.out]; rfl, (bst (bst (bst (bst (bst Hb21.out (p := ⟨w.heap.size + 1, 0, none⟩) (show w.heap.size ≤ w.heap.size + 1 by have := Z21.out; (try simp only [World.size_alloc, World.size_setCell, World.size_drew]); omega) (.int .i64 PA)) (p := ⟨w.heap.size + 1, 1, none⟩) (show w.heap.size ≤ w.heap.size + 1 by have := Z21.out; (try simp only [World.size_alloc, World.size_setCell, World.size_drew]); omega) (.int .i64 PB)) (p := ⟨w.heap.size + 1, 2, none⟩) (show w.heap.size ≤ w.heap.size + 1 by have := Z21.out; (try simp only [World.size_alloc, World.size_setCell, World.size_drew]); omega) (.int .i64 lo)) (p := ⟨w.heap.size + 1, 3, none⟩) (show w.heap.size ≤ w.heap.size + 1 by have := Z21.out; (try simp only [World.size_alloc, World.size_setCell, World.size_drew]); omega) (.int .i64 hi)) (p := ⟨w.heap.size + 1, 4, none⟩) (show w.heap.size ≤ w.heap.size + 1 by have := Z21.out; (try simp only [World.size_alloc, World.size_setCell, World.size_drew]); omega) (.int .i64 0))⟩
end
section
open Go Go.RowKit Go.Lib

theorem PrN.euclid {p a b : Nat} (hp : PrN p) (h : p ∣ a * b) : p ∣ a ∨ p ∣ b := by
  rcases hp.dvd_cases (Nat.gcd_dvd_left p a) with h1 | h1
  · exact .inr ((show Nat.Coprime p a from h1).dvd_of_dvd_mul_left h)
  · exact .inl (by rw [← h1]; exact Nat.gcd_dvd_right _ _)
theorem PrN.euclidI {p : Nat} {a b : Int} (hp : PrN p) (h : (p : Int) ∣ a * b) : (p : Int) ∣ a ∨ (p : Int) ∣ b := by
  have h1 := Int.natAbs_dvd_natAbs.2 h
  rw [Int.natAbs_mul, Int.natAbs_natCast] at h1
  rcases hp.euclid h1 with h2 | h2
  · exact .inl (Int.natAbs_dvd_natAbs.1 (by rw [Int.natAbs_natCast]; exact h2))
  · exact .inr (Int.natAbs_dvd_natAbs.1 (by rw [Int.natAbs_natCast]; exact h2))
theorem nodup_map {f : Nat → Int} {l : List Nat} (hl : l.Pairwise (· < ·)) (h : ∀ x ∈ l, ∀ y ∈ l, x < y → f x ≠ f y) : (l.map f).Nodup := by
  rw [List.nodup_iff_pairwise_ne, List.pairwise_map]
  exact hl.imp_of_mem (fun hx hy hlt => h _ hx _ hy hlt)
theorem inv_ex {e N : Nat} (hN : 0 < N) (hc : Nat.Coprime e N) : ∃ x, x < N ∧ (e * x) % N = 1 % N := by
  have h1 : ((List.range N).map (fun x => ((e * x % N : Nat) : Int))).Nodup := nodup_map List.pairwise_lt_range (fun x hx y hy hlt he => by
    rw [List.mem_range] at hx hy
    have h2 : e * y % N = e * x % N := by omega
    have h3 := Nat.sub_mod_eq_zero_of_mod_eq h2
    rw [← Nat.mul_sub] at h3
    have h4 : N ∣ y - x := hc.symm.dvd_of_dvd_mul_left (Nat.dvd_of_mod_eq_zero h3)
    have := Nat.le_of_dvd (by omega) h4
    omega)
  have h2 := mem_of_len (m := (List.range N).map (fun x => ((x : Nat) : Int))) h1 (fun z hz => by
    obtain ⟨x, -, rfl⟩ := List.mem_map.1 hz
    exact List.mem_map.2 ⟨e * x % N, List.mem_range.2 (Nat.mod_lt _ hN), rfl⟩) (by simp) ((1 % N : Nat) : Int) (List.mem_map.2 ⟨1 % N, List.mem_range.2 (Nat.mod_lt _ hN), rfl⟩)
  obtain ⟨x, hx, he⟩ := List.mem_map.1 h2
  exact ⟨x, List.mem_range.1 hx, by omega⟩
theorem prodI_perm {l m : List Int} (h : l.Perm m) : prodI l = prodI m := by
  induction h with
  | nil => rfl
  | cons x _ ih => rw [prodI, prodI, ih]
  | swap x y l => rw [prodI, prodI, prodI, prodI]; grind
  | trans _ _ ih1 ih2 => rw [ih1, ih2]
theorem prodI_same {l m : List Int} (hl : l.Nodup) (hm : m.Nodup) (h : ∀ x, x ∈ l ↔ x ∈ m) : prodI l = prodI m := by
  have h1 : srI l = srI m := inc_eq (srI_inc hl) (srI_inc hm) (fun x => by rw [mem_srI, mem_srI, h])
  have e1 : prodI (srI l) = prodI l := prodI_perm (List.mergeSort_perm l _)
  have e2 : prodI (srI m) = prodI m := prodI_perm (List.mergeSort_perm m _)
  rw [← e1, ← e2, h1]
theorem prodI_mul (u P : Int) : ∀ l : List Int, prodI (l.map (fun x => u * x % P)) % P = u ^ l.length * prodI l % P
  | [] => by simp [prodI]
  | x :: l => by
    rw [List.map_cons, prodI, prodI, List.length_cons, Int.pow_succ, Int.mul_emod, prodI_mul u P l, Int.emod_emod_of_dvd _ (Int.dvd_refl P), ← Int.mul_emod]
    congr 1
    grind
theorem prodI_cop {p : Nat} (hp : PrN p) : ∀ {l : List Int}, (∀ x ∈ l, ¬ (p : Int) ∣ x) → ¬ (p : Int) ∣ prodI l
  | [], _, h => by
    rw [prodI] at h
    have := Int.le_of_dvd (by omega) h
    have := hp.1
    omega
  | x :: l, hl, h => by
    rw [prodI] at h
    rcases hp.euclidI h with h1 | h1
    · exact hl x (List.mem_cons_self ..) h1
    · exact prodI_cop hp (fun y hy => hl y (List.mem_cons_of_mem _ hy)) h1
theorem fermat {p : Nat} {u : Int} (hp : PrN p) (hu : ¬ (p : Int) ∣ u) : u ^ (p - 1) % (p : Int) = 1 := by
  have hp2 := hp.1
  have hL : ∀ z : Int, z ∈ (List.range (p - 1)).map (fun i => ((i : Nat) : Int) + 1) ↔ 1 ≤ z ∧ z < p := by
    intro z
    rw [List.mem_map]
    constructor
    · rintro ⟨i, hi, rfl⟩; rw [List.mem_range] at hi; omega
    · rintro ⟨h1, h2⟩; exact ⟨(z - 1).toNat, List.mem_range.2 (by omega), by omega⟩
  have hLn : ((List.range (p - 1)).map (fun i => ((i : Nat) : Int) + 1)).Nodup := nodup_map List.pairwise_lt_range (fun x _ y _ h => by omega)
  have hnd : ∀ z : Int, 1 ≤ z → z < p → ¬ (p : Int) ∣ z := fun z h1 h2 h3 => by have := Int.le_of_dvd (by omega) h3; omega
  have hMn : (((List.range (p - 1)).map (fun i => ((i : Nat) : Int) + 1)).map (fun x => u * x % (p : Int))).Nodup := by
    rw [List.map_map]
    refine nodup_map List.pairwise_lt_range (fun x hx y hy hlt he => ?_)
    rw [List.mem_range] at hx hy
    have he : u * ((x : Int) + 1) % (p : Int) = u * ((y : Int) + 1) % (p : Int) := he
    have h2 : (p : Int) ∣ u * ((y : Int) + 1) - u * ((x : Int) + 1) := Int.dvd_of_emod_eq_zero (Int.emod_eq_emod_iff_emod_sub_eq_zero.1 he.symm)
    rw [← Int.mul_sub] at h2
    rcases hp.euclidI h2 with h3 | h3
    · exact hu h3
    · have := Int.le_of_dvd (by omega) h3; omega
  have hMs : ∀ z ∈ ((List.range (p - 1)).map (fun i => ((i : Nat) : Int) + 1)).map (fun x => u * x % (p : Int)), z ∈ (List.range (p - 1)).map (fun i => ((i : Nat) : Int) + 1) := by
    intro z hz
    obtain ⟨x, hx, rfl⟩ := List.mem_map.1 hz
    obtain ⟨h1, h2⟩ := (hL x).1 hx
    have h3 := Int.emod_nonneg (u * x) (show (p : Int) ≠ 0 by omega)
    have h4 := Int.emod_lt_of_pos (u * x) (show (0 : Int) < p by omega)
    refine (hL _).2 ⟨?_, h4⟩
    rcases Int.lt_or_le 0 (u * x % (p : Int)) with h5 | h5
    · omega
    · rcases hp.euclidI (Int.dvd_of_emod_eq_zero (show u * x % (p : Int) = 0 by omega)) with h6 | h6
      · exact absurd h6 hu
      · exact absurd h6 (hnd x h1 h2)
  have hsame := prodI_same hMn hLn (fun z => ⟨hMs z, mem_of_len hMn hMs (by simp) z⟩)
  have h1 := prodI_mul u p ((List.range (p - 1)).map (fun i => ((i : Nat) : Int) + 1))
  rw [hsame, List.length_map, List.length_range] at h1
  generalize hP : prodI ((List.range (p - 1)).map (fun i => ((i : Nat) : Int) + 1)) = P at *
  have hPc : ¬ (p : Int) ∣ P := by rw [← hP]; exact prodI_cop hp (fun z hz => by obtain ⟨a, b⟩ := (hL z).1 hz; exact hnd z a b)
  have h2 : (p : Int) ∣ u ^ (p - 1) * P - P := Int.dvd_of_emod_eq_zero (Int.emod_eq_emod_iff_emod_sub_eq_zero.1 h1.symm)
  rw [show u ^ (p - 1) * P - P = (u ^ (p - 1) - 1) * P by grind] at h2
  rcases hp.euclidI h2 with h3 | h3
  · have h4 := Int.emod_eq_emod_iff_emod_sub_eq_zero.2 (Int.emod_eq_zero_of_dvd h3)
    rw [h4]
    exact Int.emod_eq_of_lt (by omega) (by omega)
  · exact absurd h3 hPc
theorem pwN_pow {p : Int} : ∀ (n : Nat) (o b : Int), o % p = o → pwN p o b n = o * b ^ n % p := by
  intro n
  induction n using Nat.strongRecOn with
  | ind n ih =>
    intro o b ho
    rcases Nat.eq_zero_or_pos n with h0 | h0
    · subst h0; rw [pwN_zero, Int.pow_zero, Int.mul_one, ho]
    · have e : b ^ n = (b * b) ^ (n / 2) * b ^ (n % 2) := by
        rw [show b * b = b ^ 2 by rw [Int.pow_succ, Int.pow_succ, Int.pow_zero, Int.one_mul], ← Int.pow_mul, ← Int.pow_add]
        congr 1; omega
      have hb : ∀ k : Nat, (b * b % p) ^ k % p = (b * b) ^ k % p := by
        intro k
        induction k with
        | zero => rw [Int.pow_zero, Int.pow_zero]
        | succ k ik => rw [Int.pow_succ, Int.mul_emod, ik, Int.emod_emod_of_dvd _ (Int.dvd_refl p), ← Int.mul_emod, ← Int.pow_succ]
      by_cases h1 : n % 2 = 1
      · rw [pwN_odd h1, ih _ (by omega) _ _ (Int.emod_emod_of_dvd _ (Int.dvd_refl p)), Int.mul_emod, hb, Int.emod_emod_of_dvd _ (Int.dvd_refl p), ← Int.mul_emod, e, h1, Int.pow_succ, Int.pow_zero, Int.one_mul]
        congr 1; grind
      · rw [pwN_even h0 h1, ih _ (by omega) _ _ ho, Int.mul_emod, hb, ← Int.mul_emod, e, show n % 2 = 0 by omega, Int.pow_zero, Int.mul_one]
theorem pwV_pow {a p : Int} (n : Nat) (hp : 1 < p) : pwV a n p = a ^ n % p := by
  unfold pwV
  rw [pwN_pow _ _ _ (Int.emod_eq_of_lt (by omega) hp), Int.one_mul]
  induction n with
  | zero => rw [Int.pow_zero, Int.pow_zero]
  | succ n ih => rw [Int.pow_succ, Int.mul_emod, ih, Int.emod_emod_of_dvd _ (Int.dvd_refl p), ← Int.mul_emod, ← Int.pow_succ]
theorem val_uniq {p : Nat} (hp : 2 ≤ p) : ∀ {v w r s : Nat}, r % p ≠ 0 → s % p ≠ 0 → p ^ v * r = p ^ w * s → v = w ∧ r = s
  | 0, 0, r, s, _, _, h => ⟨rfl, by simpa using h⟩
  | 0, w + 1, r, s, hr, _, h => by
    rw [Nat.pow_zero, Nat.one_mul, Nat.pow_succ, Nat.mul_comm (p ^ w) p, Nat.mul_assoc] at h
    rw [h, Nat.mul_mod_right] at hr
    exact absurd rfl hr
  | v + 1, 0, r, s, _, hs, h => by
    rw [Nat.pow_zero, Nat.one_mul, Nat.pow_succ, Nat.mul_comm (p ^ v) p, Nat.mul_assoc] at h
    rw [← h, Nat.mul_mod_right] at hs
    exact absurd rfl hs
  | v + 1, w + 1, r, s, hr, hs, h => by
    rw [Nat.pow_succ, Nat.pow_succ, Nat.mul_comm (p ^ v) p, Nat.mul_comm (p ^ w) p, Nat.mul_assoc, Nat.mul_assoc] at h
    obtain ⟨h1, h2⟩ := val_uniq hp hr hs (Nat.eq_of_mul_eq_mul_left (by omega) h)
    exact ⟨by omega, h2⟩
/-- A square modulo p ^ k passes the test. -/
theorem sq_ok {p k n : Nat} (hp : PrN p) (hn : n < p ^ k) {Y : Nat} (hy : Y * Y % p ^ k = n) : sqV n p k = true := by
  have hp2 := hp.1
  unfold sqV
  by_cases h0 : n = 0
  · rw [if_pos h0]
  rw [if_neg h0]
  obtain ⟨hn1, hn2, hn3, -⟩ := rsN_spec hp2 (n := n) (by omega)
  have hY0 : 0 < Y := by
    rcases Nat.eq_zero_or_pos Y with h | h
    · subst h; simp at hy; omega
    · exact h
  obtain ⟨u, hu1, hu2, hu3⟩ := vlN_spec hp2 Y hY0
  generalize vlN Y p = s at *
  have hYY : Y * Y = p ^ (2 * s) * (u * u) := by
    rw [hu1, show 2 * s = s + s by omega, Nat.pow_add]; grind
  rcases Nat.lt_or_ge (2 * s) k with hs | hs
  · have hk : p ^ k = p ^ (2 * s) * p ^ (k - 2 * s) := by rw [← Nat.pow_add]; congr 1; omega
    have hw : n = p ^ (2 * s) * (u * u % p ^ (k - 2 * s)) := by rw [← hy, hYY, hk, Nat.mul_mod_mul_left]
    have hpd : p ∣ p ^ (k - 2 * s) := Nat.dvd_trans (by rw [Nat.pow_one]; exact Nat.dvd_refl p) (Nat.pow_dvd_pow p (show 1 ≤ k - 2 * s by omega))
    have hwp : u * u % p ^ (k - 2 * s) % p = u * u % p := Nat.mod_mod_of_dvd _ hpd
    have huu : u * u % p ≠ 0 := fun h => by
      rcases hp.euclid (Nat.dvd_of_mod_eq_zero h) with h1 | h1
      · exact hu2 (Nat.mod_eq_zero_of_dvd h1)
      · exact hu2 (Nat.mod_eq_zero_of_dvd h1)
    obtain ⟨hv, hr⟩ := val_uniq hp2 hn2 (show (u * u % p ^ (k - 2 * s)) % p ≠ 0 by rw [hwp]; exact huu) (hn1.symm.trans hw)
    rw [if_neg (by omega)]
    unfold uqV
    rw [hv, hr]
    have hrp := hwp
    by_cases h3 : 2 < p
    · rw [if_pos h3]
      have hodd : p % 2 = 1 := by
        rcases Nat.mod_two_eq_zero_or_one p with h | h
        · exact absurd (Nat.dvd_of_mod_eq_zero h) (hp.2 2 (by omega) h3)
        · exact h
      refine decide_eq_true ?_
      rw [pwV_pow _ (by omega), show (((p : Int) - 1) / 2).toNat = (p - 1) / 2 by omega]
      have hf := fermat (u := (u : Int)) hp (fun h => hu2 (Nat.mod_eq_zero_of_dvd (Int.ofNat_dvd.1 h)))
      rw [show p - 1 = 2 * ((p - 1) / 2) by omega, Int.pow_mul] at hf
      have hm : ∀ (x y : Int) (m : Nat), x % (p : Int) = y % (p : Int) → x ^ m % (p : Int) = y ^ m % (p : Int) := by
        intro x y m hxy
        induction m with
        | zero => rw [Int.pow_zero, Int.pow_zero]
        | succ m ih => rw [Int.pow_succ, Int.pow_succ, Int.mul_emod, ih, hxy, ← Int.mul_emod]
      rw [hm _ ((u : Int) ^ 2) _ ?_]
      · exact hf
      · rw [Int.pow_succ, Int.pow_succ, Int.pow_zero, Int.one_mul]
        have := congrArg (fun x : Nat => (x : Int)) hrp
        simpa using this
    · rw [if_neg h3]
      obtain rfl : p = 2 := by omega
      have hodd : u % 2 = 1 := by omega
      have h8 : u * u % 8 = 1 := by
        have : u % 8 = 1 ∨ u % 8 = 3 ∨ u % 8 = 5 ∨ u % 8 = 7 := by omega
        rw [Nat.mul_mod]
        rcases this with h | h | h | h <;> rw [h]
      refine decide_eq_true ?_
      have h9 : (u * u % 2 ^ (k - 2 * s)) % 2 ^ (min 3 (k - 2 * s)) = 1 := by
        rw [Nat.mod_mod_of_dvd _ (Nat.pow_dvd_pow 2 (Nat.min_le_right _ _)), ← Nat.mod_mod_of_dvd (u * u) (show 2 ^ min 3 (k - 2 * s) ∣ 8 from Nat.pow_dvd_pow 2 (n := 3) (Nat.min_le_left _ _)), h8]
        refine Nat.mod_eq_of_lt ?_
        have : 2 ^ 1 ≤ 2 ^ min 3 (k - 2 * s) := Nat.pow_le_pow_right (by omega) (by omega)
        omega
      have := congrArg (fun x : Nat => (x : Int)) h9
      simpa using this
  · exfalso
    have : p ^ k ∣ Y * Y := Nat.dvd_trans (Nat.pow_dvd_pow p hs) ⟨u * u, hYY⟩
    rw [Nat.mod_eq_zero_of_dvd this] at hy
    omega
end
section
open Go Go.RowKit Go.Lib

theorem sq_pos0 (x : Int) : 0 ≤ x * x := by
  rcases Int.le_total 0 x with h | h
  · exact Int.mul_nonneg h h
  · have := Int.mul_nonneg (show 0 ≤ -x by omega) (show 0 ≤ -x by omega)
    rwa [Int.neg_mul_neg] at this
theorem md_mul {x x' y y' N : Int} (h : x % N = x' % N) (k : y % N = y' % N) : x * y % N = x' * y' % N := by rw [Int.mul_emod, h, k, ← Int.mul_emod]
theorem md_add {x x' y y' N : Int} (h : x % N = x' % N) (k : y % N = y' % N) : (x + y) % N = (x' + y') % N := by rw [Int.add_emod, h, k, ← Int.add_emod]
theorem qv_cong {d a c m m' e e' N : Int} (h : m % N = m' % N) (k : e % N = e' % N) : qvV d a c m e % N = qvV d a c m' e' % N := by
  unfold qvV
  have hm := md_mul h h
  have he := md_mul k k
  exact md_add (md_add (md_mul (md_mul rfl hm) hm) (md_mul (md_mul rfl hm) he)) (md_mul (md_mul rfl he) he)
theorem qv_scale (d a c m e F : Int) : qvV d a c (m * F) (e * F) = qvV d a c m e * (F * F * (F * F)) := by unfold qvV; grind
theorem sq_at {p j : Nat} {V z : Int} (hp : PrN p) (h : V % ((p ^ j : Nat) : Int) = z * z % ((p ^ j : Nat) : Int)) : sqV (V % ((p ^ j : Nat) : Int)).toNat p j = true := by
  have hN : 0 < p ^ j := Nat.pow_pos (by have := hp.1; omega)
  have e : z * z = ((z.natAbs * z.natAbs : Nat) : Int) := by rw [Int.natCast_mul]; exact (Int.natAbs_mul_self' z).symm
  rw [h, e]
  have e2 : (((z.natAbs * z.natAbs : Nat) : Int) % ((p ^ j : Nat) : Int)).toNat = z.natAbs * z.natAbs % p ^ j := by rw [← Int.natCast_emod]; rfl
  rw [e2]
  exact sq_ok hp (Nat.mod_lt _ hN) rfl
theorem inv_I {p k : Nat} {e : Int} (hp : PrN p) (h : ¬ p ∣ e.natAbs) : ∃ F : Int, e * F % ((p ^ k : Nat) : Int) = 1 % ((p ^ k : Nat) : Int) := by
  have hN : 0 < p ^ k := Nat.pow_pos (by have := hp.1; omega)
  have hc : Nat.Coprime e.natAbs (p ^ k) := by
    refine Nat.Coprime.pow_right k ?_
    rcases hp.dvd_cases (Nat.gcd_dvd_left p e.natAbs) with h1 | h1
    · exact (show Nat.Coprime p e.natAbs from h1).symm
    · exact absurd (by rw [← h1]; exact Nat.gcd_dvd_right _ _) h
  obtain ⟨f, -, hf⟩ := inv_ex hN hc
  have hf2 : ((e.natAbs : Int) * (f : Int)) % ((p ^ k : Nat) : Int) = 1 % ((p ^ k : Nat) : Int) := by
    have := congrArg (fun x : Nat => (x : Int)) hf
    simpa using this
  rcases Int.le_total 0 e with h0 | h0
  · exact ⟨f, by rw [← hf2, show (e.natAbs : Int) = e by omega]⟩
  · exact ⟨-(f : Int), by rw [← hf2, show (e.natAbs : Int) = -e by omega]; congr 1; grind⟩
theorem pt_one {d a c m e n : Int} {p k : Nat} (hp : PrN p) (he : ¬ p ∣ e.natAbs) (hq : qvV d a c m e = n * n) : ∃ x : Nat, (∃ F : Int, (x : Int) = m * F % ((p ^ k : Nat) : Int)) ∧ Pth (fun x i => lpB d a c x 1 p i) p k x := by
  have hp2 := hp.1
  obtain ⟨F, hF⟩ := inv_I (k := k) hp he
  have hN : (0 : Int) < ((p ^ k : Nat) : Int) := by have := Nat.pow_pos (n := k) (show 0 < p by omega); omega
  have h1 := Int.emod_nonneg (m * F) (show ((p ^ k : Nat) : Int) ≠ 0 by omega)
  have h2 := Int.emod_lt_of_pos (m * F) hN
  have hx : (((m * F % ((p ^ k : Nat) : Int)).toNat : Nat) : Int) = m * F % ((p ^ k : Nat) : Int) := by omega
  generalize hX : (m * F % ((p ^ k : Nat) : Int)).toNat = x at *
  refine ⟨x, ⟨F, hx⟩, by omega, fun j hj1 hjk => ?_⟩
  have hdv : ((p ^ j : Nat) : Int) ∣ ((p ^ k : Nat) : Int) := Int.natCast_dvd_natCast.2 (Nat.pow_dvd_pow p hjk)
  have c1 : ((x % p ^ j : Nat) : Int) % ((p ^ j : Nat) : Int) = m * F % ((p ^ j : Nat) : Int) := by
    rw [Int.natCast_emod, Int.emod_emod_of_dvd _ (Int.dvd_refl _), hx, Int.emod_emod_of_dvd _ hdv]
  have c2 : ((1 : Nat) : Int) % ((p ^ j : Nat) : Int) = e * F % ((p ^ j : Nat) : Int) := by
    have := congrArg (fun z => z % ((p ^ j : Nat) : Int)) hF
    skip
    rw [Int.emod_emod_of_dvd _ hdv, Int.emod_emod_of_dvd _ hdv] at this
    exact this.symm
  show lpB d a c (x % p ^ j) 1 p j = true
  unfold lpB vqN vqV
  refine sq_at (z := n * (F * F)) hp ?_
  rw [qv_cong c1 c2, qv_scale, hq]
  congr 1; grind
theorem qv_swap (d a c m e : Int) : qvV d a c m e = qvV c a d e m := by unfold qvV; grind
theorem pt_two {d a c m e n : Int} {p k : Nat} (hp : PrN p) (hm : ¬ p ∣ m.natAbs) (hq : qvV d a c m e = n * n) : ∃ x : Nat, (∃ F : Int, (x : Int) = e * F % ((p ^ k : Nat) : Int)) ∧ Pth (fun x i => lpB d a c 1 x p i) p k x := by
  obtain ⟨x, h1, h2⟩ := pt_one (k := k) hp hm (by rw [qv_swap] at hq; exact hq)
  refine ⟨x, h1, h2.1, fun j hj hk => ?_⟩
  have := h2.2 j hj hk
  show lpB d a c 1 (x % p ^ j) p j = true
  have h3 : lpB c a d (x % p ^ j) 1 p j = true := this
  unfold lpB vqN vqV at h3 ⊢
  rw [qv_swap]; exact h3
theorem pos_of {d a c m e n : Int} {p k : Nat} (hp : PrN p) (hk : 1 ≤ k) (hc : Nat.gcd m.natAbs e.natAbs = 1) (hq : qvV d a c m e = n * n) : posB d a c p k = true := by
  have hp2 := hp.1
  unfold posB
  rw [Bool.or_eq_true, bsE_root hp2, bsE_iff hp2 _ _ _ (pw_pos hp2 1), Nat.pow_one, show 1 + (k - 1) = k by omega]
  by_cases he : p ∣ e.natAbs
  · have hm : ¬ p ∣ m.natAbs := fun h => by
      have := Nat.dvd_gcd h he
      rw [hc] at this
      have := Nat.le_of_dvd (by omega) this
      omega
    obtain ⟨x, ⟨F, hF⟩, hx⟩ := pt_two (k := k) hp hm hq
    refine .inr ⟨x, hx.1, ?_, fun j h7 _ h8 => hx.2 j h7 h8, rfl⟩
    have h1 : (p : Int) ∣ ((p ^ k : Nat) : Int) := Int.natCast_dvd_natCast.2 (Nat.dvd_trans (by rw [Nat.pow_one]; exact Nat.dvd_refl p) (Nat.pow_dvd_pow p hk))
    have h2 : (p : Int) ∣ e := Int.ofNat_dvd_left.2 he
    have h3 : (x : Int) % (p : Int) = 0 := by
      rw [hF, Int.emod_emod_of_dvd _ h1]
      exact Int.emod_eq_zero_of_dvd (Int.dvd_trans h2 (Int.dvd_mul_right _ _))
    omega
  · obtain ⟨x, -, hx⟩ := pt_one (k := k) hp he hq
    exact .inl ⟨x, hx, rfl⟩
theorem fdS_pos {pos lif : Nat → Bool} : ∀ (n k : Nat), (∀ j, k ≤ j → pos j = true) → (fdS pos lif n k).2 = true
  | 0, _, _ => rfl
  | n + 1, k, h => by
    cases hl : lif k
    · rw [fdS_on hl (h k (Nat.le_refl _))]; exact fdS_pos n (k + 1) (fun j hj => h j (by omega))
    · rw [fdS_yes hl]
theorem sol_of {d a c m e n : Int} {p : Nat} (hp : PrN p) (hc : Nat.gcd m.natAbs e.natAbs = 1) (hq : qvV d a c m e = n * n) (ht : (slV d a c p).2 = true) : (slV d a c p).1 = true := by
  have h := fdS_pos (pos := posB d a c p) (lif := lifB d a c p) (dpV p) 1 (fun j hj => pos_of hp hj hc hq)
  unfold slV at *
  dsimp only at *
  rw [show (fdV d a c p).2 = true from h] at ht
  simpa using ht
theorem real_of {d a c m e n : Int} (hd : d ≠ 0) (hcc : c ≠ 0) (hc : Nat.gcd m.natAbs e.natAbs = 1) (hq : qvV d a c m e = n * n) : rlV d a c = true := by
  have hX : 0 ≤ m * m := sq_pos0 m
  have hY : 0 ≤ e * e := sq_pos0 e
  have hZ : 0 ≤ n * n := sq_pos0 n
  have hXY : 0 < m * m ∨ 0 < e * e := by
    rcases Int.lt_or_le 0 (m * m) with h | h
    · exact .inl h
    · right
      have hm : m = 0 := by have h1 : m * m = 0 := by omega
                            rcases Int.mul_eq_zero.1 h1 with h | h <;> exact h
      subst hm
      have he : e.natAbs = 1 := by simpa using hc
      have := Int.natAbs_mul_self' e
      rw [he] at this
      omega
  unfold qvV at hq
  generalize m * m = X at *
  generalize e * e = Y at *
  generalize n * n = Z at *
  unfold rlV
  rw [Bool.or_eq_true, Bool.or_eq_true, Bool.and_eq_true, decide_eq_true_eq, decide_eq_true_eq, decide_eq_true_eq, decide_eq_true_eq]
  rcases Int.lt_or_le 0 d with h | h
  · exact .inl (.inl h)
  rcases Int.lt_or_le 0 c with h1 | h1
  · exact .inl (.inr h1)
  right
  have hdn : 0 < -d := by omega
  have hcn : 0 < -c := by omega
  have key : 0 < (-d) * X * X + (-c) * Y * Y := by
    rcases hXY with hx | hy
    · have h2 := Int.mul_pos (Int.mul_pos hdn hx) hx
      have h3 := Int.mul_nonneg (Int.mul_nonneg (Int.le_of_lt hcn) hY) hY
      omega
    · have h2 := Int.mul_nonneg (Int.mul_nonneg (Int.le_of_lt hdn) hX) hX
      have h3 := Int.mul_pos (Int.mul_pos hcn hy) hy
      omega
  have hsum : a * X * Y = Z + ((-d) * X * X + (-c) * Y * Y) := by grind
  have hXYn := Int.mul_nonneg hX hY
  have ha : 0 < a := by
    rcases Int.lt_or_le 0 a with h2 | h2
    · exact h2
    · have := Int.mul_nonneg (show 0 ≤ -a by omega) hXYn
      have e1 : -a * (X * Y) = -(a * X * Y) := by grind
      omega
  refine ⟨ha, ?_⟩
  rcases Int.lt_or_le (a * a) (4 * d * c) with h2 | h2
  · exfalso
    have hy : 0 < Y := by
      rcases Int.lt_or_le 0 Y with h3 | h3
      · exact h3
      · have : Y = 0 := by omega
        subst this
        simp at hsum key
        omega
    have h4 := Int.mul_pos (Int.mul_pos (show 0 < 4 * d * c - a * a by omega) hy) hy
    have h5 : 0 ≤ (2 * d * X + a * Y) * (2 * d * X + a * Y) := sq_pos0 _
    have h6 : (2 * d * X + a * Y) * (2 * d * X + a * Y) + (4 * d * c - a * a) * Y * Y = -(4 * (-d) * Z) := by grind
    have h7 := Int.mul_nonneg (show 0 ≤ 4 * (-d) by omega) hZ
    omega
  · exact h2
end
section
open Go Go.RowKit Go.Lib

theorem sqf_nat : ∀ (n b : Nat), 0 < n → (∀ q, 2 ≤ q → ¬ q * q ∣ n) → (∀ p, PrN p → p ∣ n → p ∣ b) → n ∣ b := by
  intro n
  induction n using Nat.strongRecOn with
  | ind n ih =>
    intro b h0 hs hp
    rcases Nat.lt_or_ge n 2 with h1 | h1
    · rw [show n = 1 by omega]; exact Nat.one_dvd b
    · obtain ⟨p, hpr, m, rfl⟩ := prn_ex n h1
      have hp2 := hpr.1
      have hm0 : 0 < m := Nat.pos_of_ne_zero (by rintro rfl; simp at h0)
      have hpm : ¬ p ∣ m := fun ⟨t, ht⟩ => hs p hp2 ⟨t, by rw [ht]; grind⟩
      have h2 := ih m (by have := Nat.mul_le_mul_right m hp2; omega) b hm0 (fun q hq hd => hs q hq (Nat.dvd_trans hd (Nat.dvd_mul_left _ _))) (fun q hq hd => hp q hq (Nat.dvd_trans hd (Nat.dvd_mul_left _ _)))
      have hc : Nat.Coprime p m := by
        rcases hpr.dvd_cases (Nat.gcd_dvd_left p m) with h3 | h3
        · exact h3
        · exact absurd (by rw [← h3]; exact Nat.gcd_dvd_right _ _) hpm
      exact hc.mul_dvd_of_dvd_of_dvd (hp p hpr (Nat.dvd_mul_right _ _)) h2
theorem clF_out : ∀ (l : List (Nat × Nat)) (o : Int), clF o l = o * clF 1 l
  | [], o => by show o = o * 1; omega
  | x :: l, o => by
    show clF (clS o x) l = o * clF (clS 1 x) l
    rw [clF_out l (clS o x), clF_out l (clS 1 x)]
    unfold clS
    split <;> grind
theorem clF_pos : ∀ (l : List (Nat × Nat)), (∀ x ∈ l, 0 < x.1) → 0 < clF 1 l
  | [], _ => by show (0 : Int) < 1; omega
  | x :: l, h => by
    show 0 < clF (clS 1 x) l
    rw [clF_out]
    refine Int.mul_pos ?_ (clF_pos l (fun y hy => h y (List.mem_cons_of_mem _ hy)))
    have := h x (List.mem_cons_self ..)
    unfold clS
    split <;> omega
theorem clF_prime {p : Nat} (hp : PrN p) : ∀ (l : List (Nat × Nat)) (o : Int), (p : Int) ∣ clF o l → (p : Int) ∣ o ∨ ∃ x ∈ l, x.2 % 2 = 1 ∧ p ∣ x.1
  | [], o, h => .inl h
  | x :: l, o, h => by
    rcases clF_prime hp l (clS o x) h with h1 | ⟨y, h1, h2⟩
    · unfold clS at h1
      split at h1
      · rename_i h3
        rcases hp.euclidI h1 with h2 | h2
        · exact .inl h2
        · exact .inr ⟨x, List.mem_cons_self .., h3, Int.natCast_dvd_natCast.1 h2⟩
      · exact .inl h1
    · exact .inr ⟨y, List.mem_cons_of_mem _ h1, h2⟩
theorem clF_has : ∀ (l : List (Nat × Nat)) (o : Int) (x : Nat × Nat), x ∈ l → x.2 % 2 = 1 → (x.1 : Int) ∣ clF o l
  | y :: l, o, x, hx, h => by
    show (x.1 : Int) ∣ clF (clS o y) l
    rcases List.mem_cons.1 hx with rfl | hx
    · rw [clF_out]
      unfold clS
      rw [if_pos h]
      exact Int.dvd_trans (Int.dvd_mul_left _ _) (Int.dvd_mul_right _ _)
    · exact clF_has l _ x hx h
theorem prL_prime {p : Nat} (hp : PrN p) : ∀ (l : List (Nat × Nat)), p ∣ prL l → ∃ x ∈ l, p ∣ x.1
  | [], h => by
    have := Nat.le_of_dvd (by decide) (show p ∣ 1 from h)
    have := hp.1
    omega
  | x :: l, h => by
    rw [prL_cons] at h
    rcases hp.euclid h with h1 | h1
    · have pw : ∀ k : Nat, p ∣ x.1 ^ k → p ∣ x.1 := by
        intro k
        induction k with
        | zero => intro h2; have := Nat.le_of_dvd (by decide) (show p ∣ 1 from h2); have := hp.1; omega
        | succ k ih => intro h2; rw [Nat.pow_succ] at h2; rcases hp.euclid h2 with h3 | h3; exact ih h3; exact h3
      exact ⟨x, List.mem_cons_self .., pw _ h1⟩
    · obtain ⟨y, h2, h3⟩ := prL_prime hp l h1
      exact ⟨y, List.mem_cons_of_mem _ h2, h3⟩
/-- Every squarefree divisor is listed. -/
theorem dv_of {n d : Int} (hn : n ≠ 0) (hd : Sqf d) (h : d ∣ n) : d ∈ dvV n := by
  have hf := facF_two (n := n.natAbs) (by omega)
  have hpl := prL_fac 2 n.natAbs (by omega) (by omega)
  have hdn : d.natAbs ∣ n.natAbs := Int.natAbs_dvd_natAbs.2 h
  have hmem : clF (sgI d) ((facF 2 n.natAbs).map (fun x => (x.1, if x.1 ∣ d.natAbs then 1 else 0))) ∈ dvV n := by
    unfold dvV
    rw [mem_srI]
    have h1 := dvL_cl ((facF 2 n.natAbs).map (fun x => (x.1, if x.1 ∣ d.natAbs then 1 else 0))) [-1, 1] (sgI d) (by unfold sgI; split <;> simp)
    rw [List.map_map] at h1
    exact h1
  have hx := dv_sqf hn hmem
  generalize hL : (facF 2 n.natAbs).map (fun x => (x.1, if x.1 ∣ d.natAbs then 1 else 0)) = L at *
  have hL1 : ∀ y ∈ L, 0 < y.1 ∧ (y.2 % 2 = 1 → y.1 ∣ d.natAbs) := by
    intro y hy
    rw [← hL] at hy
    obtain ⟨x, hx, rfl⟩ := List.mem_map.1 hy
    refine ⟨by have := (hf.1 x hx).1; show 0 < x.1; omega, fun h2 => ?_⟩
    dsimp only at h2 ⊢
    split at h2
    · assumption
    · omega
  have hsg : sgI d = 1 ∨ sgI d = -1 := by unfold sgI; split <;> simp
  have d1 : (clF (sgI d) L).natAbs ∣ d.natAbs := sqf_nat _ _ (by have := hx.1; omega) hx.2 (fun p hp h1 => by
    rcases clF_prime hp L (sgI d) (Int.ofNat_dvd_left.2 h1) with h2 | ⟨y, h2, h3, h4⟩
    · exfalso
      have h5 := Int.ofNat_dvd_left.1 h2
      have h6 : (sgI d).natAbs = 1 := by rcases hsg with e | e <;> rw [e] <;> rfl
      rw [h6] at h5
      have := Nat.le_of_dvd (by decide) h5
      have := hp.1
      omega
    · exact Nat.dvd_trans h4 ((hL1 y h2).2 h3))
  have d2 : d.natAbs ∣ (clF (sgI d) L).natAbs := sqf_nat _ _ (by have := hd.1; omega) hd.2 (fun p hp h1 => by
    obtain ⟨x, hx1, hx2⟩ := prL_prime hp (facF 2 n.natAbs) (by rw [hpl]; exact Nat.dvd_trans h1 hdn)
    have hxp := (hf.1 x hx1).2.2.1
    have e : p = x.1 := by
      rcases hxp.dvd_cases hx2 with h3 | h3
      · have := hp.1; omega
      · exact h3
    have hin : (x.1, 1) ∈ L := by
      rw [← hL]
      exact List.mem_map.2 ⟨x, hx1, by rw [if_pos (by rw [← e]; exact h1)]⟩
    rw [e]
    exact Int.ofNat_dvd_left.1 (clF_has L (sgI d) (x.1, 1) hin rfl))
  have he := Nat.dvd_antisymm d1 d2
  have hp := clF_pos L (fun y hy => (hL1 y hy).1)
  have ho := clF_out L (sgI d)
  have : clF (sgI d) L = d := by
    have hd0 := hd.1
    unfold sgI at ho he ⊢
    split at ho <;> rename_i hneg
    · rw [if_pos hneg] at he ⊢; omega
    · rw [if_neg hneg] at he ⊢; omega
  rw [← this]
  exact hmem
theorem sqf_dvd_sq {d c : Int} (hd : Sqf d) (h : d ∣ c * c) : d ∣ c := by
  have h1 : d.natAbs ∣ c.natAbs := sqf_nat _ _ (by have := hd.1; omega) hd.2 (fun p hp h2 => by
    have h3 := Int.natAbs_dvd_natAbs.2 h
    rw [Int.natAbs_mul] at h3
    rcases hp.euclid (Nat.dvd_trans h2 h3) with h4 | h4 <;> exact h4)
  exact Int.natAbs_dvd_natAbs.1 h1
theorem fl_none {d a c m e n : Int} (hb : BQ d a c) (hc : Nat.gcd m.natAbs e.natAbs = 1) (hq : qvV d a c m e = n * n) (ht : (flV d a c).2 = true) : (flV d a c).1 = [] := by
  unfold flV at ht ⊢
  by_cases h1 : (bdV d a c).2 = true
  · rw [if_pos h1] at ht ⊢
    by_cases h2 : (bdV d a c).1.all (okQ d a c) = true
    · rw [if_pos h2]
      show (bdV d a c).1.filter (noQ d a c) = []
      rw [List.filter_eq_nil_iff]
      intro q hq1
      have hok := List.all_eq_true.1 h2 q hq1
      have hx : a * a - 4 * d * c ≠ 0 := fun hx => by unfold bdV at h1; rw [if_pos hx] at h1; exact Bool.noConfusion h1
      unfold bdV at hq1
      rw [if_neg hx] at hq1
      obtain ⟨p, rfl, hp, -⟩ := bd_two hb hx 3 q hq1
      unfold okQ at hok
      rw [Bool.and_eq_true, Int.toNat_natCast] at hok
      have := sol_of hp hc hq hok.2
      unfold noQ
      rw [Int.toNat_natCast, this]
      decide
    · rw [if_neg h2] at ht; exact Bool.noConfusion ht
  · rw [if_neg h1] at ht; exact Bool.noConfusion ht
/-- A class with a rational point lies in the Selmer group. -/
theorem in_sm {a b d m e n : Int} {s : Bool} (h : twB a b = true) (told : (smV a b s).2 = true) (hd : d ∈ dvV (sdB a b s)) (hc : Nat.gcd m.natAbs e.natAbs = 1) (hq : qvV d (sdA a b s) ((sdB a b s).tdiv d) m e = n * n) : d ∈ (smV a b s).1 := by
  unfold smV at told ⊢
  by_cases h1 : (dvV (sdB a b s)).all (smO a b s) = true
  · rw [if_pos h1]
    show d ∈ (dvV (sdB a b s)).filter (smZ a b s)
    rw [List.mem_filter]
    refine ⟨hd, ?_⟩
    have h2 := List.all_eq_true.1 h1 d hd
    have hb := bq_of h hd
    unfold smO rsV at h2
    unfold smZ rsV
    have h3 : (flV d (sdA a b s) ((sdB a b s).tdiv d)).2 = true := by
      cases h4 : (flV d (sdA a b s) ((sdB a b s).tdiv d)).2
      · rw [rs_no h4] at h2; exact Bool.noConfusion h2
      · rfl
    rw [rs_nil h3 (real_of hb.d0 hb.c0 hc hq) (fl_none hb hc hq h3)]
    rfl
  · rw [if_neg h1] at told; exact Bool.noConfusion told
theorem x_in_sm {a b x y : Int} {s : Bool} (h : twB a b = true) (told : (smV a b s).2 = true) (h0 : x ≠ 0) (hx : x ∣ sdB a b s) (hy : x * (x * x + sdA a b s * x + sdB a b s) = y * y) : clV x ∈ (smV a b s).1 := by
  have hB0 := (sd_bd h s).2.2
  have hd := cl_sqf h0
  obtain ⟨c, hc⟩ := cl_sq h0
  obtain ⟨z, rfl⟩ := sqf_dvd_sq hd ⟨x, hc.symm⟩
  have hdx : x = clV x * (z * z) := by
    have : clV x * x = clV x * (clV x * (z * z)) := by rw [hc]; grind
    exact Int.eq_of_mul_eq_mul_left hd.1 this
  have hdB : clV x ∣ sdB a b s := Int.dvd_trans ⟨z * z, hdx⟩ hx
  obtain ⟨C, hC⟩ := hdB
  have hCt : (sdB a b s).tdiv (clV x) = C := by rw [hC, Int.mul_tdiv_cancel_left _ hd.1]
  have hz : clV x * z ≠ 0 := by
    refine Int.mul_ne_zero hd.1 ?_
    rintro rfl
    rw [hdx] at h0
    simp at h0
  generalize hcl : clV x = d at *
  have hqy : (d * z * (d * z)) * qvV d (sdA a b s) C z 1 = y * y := by
    rw [← hy, hC]
    unfold qvV
    generalize sdA a b s = A at *
    subst hdx
    grind
  obtain ⟨n, rfl⟩ := int_sq_dvd (y := d * z) (z := y) ⟨_, hqy.symm⟩
  have hq : qvV d (sdA a b s) C z 1 = n * n := by
    have h5 : (d * z * (d * z)) * qvV d (sdA a b s) C z 1 = (d * z * (d * z)) * (n * n) := by rw [hqy]; grind
    exact Int.eq_of_mul_eq_mul_left (Int.mul_ne_zero hz hz) h5
  exact in_sm (m := z) (e := 1) (n := n) h told (dv_of hB0 hd ⟨C, hC⟩) (by simp) (by rw [hCt]; exact hq)
theorem b_in_sm {a b : Int} {s : Bool} (h : twB a b = true) (told : (smV a b s).2 = true) : clV (sdB a b s) ∈ (smV a b s).1 := by
  have hB0 := (sd_bd h s).2.2
  have hd := cl_sqf hB0
  obtain ⟨z, hz⟩ := cl_sq hB0
  obtain ⟨C, hC⟩ := dv_dvd hB0 (cl_mem (n := sdB a b s))
  have hCt : (sdB a b s).tdiv (clV (sdB a b s)) = C := by
    generalize clV (sdB a b s) = d at *
    rw [hC, Int.mul_tdiv_cancel_left _ hd.1]
  have h1 : clV (sdB a b s) * clV (sdB a b s) * C = z * z := by rw [← hz, Int.mul_assoc, ← hC]
  obtain ⟨n, rfl⟩ := int_sq_dvd (y := clV (sdB a b s)) (z := z) ⟨C, h1.symm⟩
  have hq : C = n * n := by
    have h5 : clV (sdB a b s) * clV (sdB a b s) * C = clV (sdB a b s) * clV (sdB a b s) * (n * n) := by rw [h1]; grind
    exact Int.eq_of_mul_eq_mul_left (Int.mul_ne_zero hd.1 hd.1) h5
  exact in_sm (m := 0) (e := 1) (n := n) h told cl_mem (by simp) (by rw [hCt]; unfold qvV; rw [hq]; grind)
end
section
open Go Go.RowKit Go.Lib

theorem ctI_pt {d a c : Int} {m : Nat} : ∀ (k : Nat), 0 < ctI d a c m k → ∃ e : Nat, qpB d a c m e = true
  | 0, h => absurd h (by unfold ctI; omega)
  | k + 1, h => by
    unfold ctI at h
    by_cases h1 : qpB d a c m k = true
    · exact ⟨k, h1⟩
    · rw [if_neg h1] at h
      exact ctI_pt k (by omega)
theorem ctO_pt {d a c : Int} {M : Nat} : ∀ (k : Nat), 0 < ctO d a c M k → ∃ m e : Nat, qpB d a c m e = true
  | 0, h => absurd h (by unfold ctO; omega)
  | k + 1, h => by
    unfold ctO at h
    rcases Nat.eq_zero_or_pos (ctI d a c k (M + 1)) with h1 | h1
    · exact ctO_pt (M := M) k (by omega)
    · obtain ⟨e, he⟩ := ctI_pt _ h1
      exact ⟨k, e, he⟩
theorem root_sq {n : Int} (h : rootK n = true) : ∃ r : Int, n = r * r := by
  unfold rootK at h
  rw [Bool.and_eq_true, decide_eq_true_eq, decide_eq_true_eq] at h
  refine ⟨(fsq n.toNat : Nat), ?_⟩
  rw [← Int.natCast_mul, h.2]
  omega
theorem fd_in_sm {a b d : Int} {s : Bool} {M : Nat} (h : twB a b = true) (told : (smV a b s).2 = true) (hd : d ∈ fdL a b s M) : d ∈ (smV a b s).1 := by
  unfold fdL at hd
  rw [List.mem_filter] at hd
  obtain ⟨h1, h2⟩ := hd
  unfold fdZ at h2
  rw [decide_eq_true_eq] at h2
  obtain ⟨m, e, hq⟩ := ctO_pt _ h2
  unfold qpB at hq
  rw [Bool.and_eq_true, decide_eq_true_eq] at hq
  obtain ⟨r, hr⟩ := root_sq hq.2
  have hg := hq.1
  unfold gcdI at hg
  exact in_sm (n := r) h told h1 (by omega) hr
theorem fg_sub {a b : Int} {s : Bool} {M : Nat} (h : twB a b = true) (told : (smV a b s).2 = true) (hg : grB (smV a b s).1 = true) (hok : (fgV a b s M).2 = true) : ∀ z ∈ (fgV a b s M).1, z ∈ (smV a b s).1 := by
  have hG := gr_iff.1 hg
  unfold fgV at *
  cases hX : gpV (fgL a b s M) with
  | none => rw [hX] at hok; exact Bool.noConfusion hok
  | some X =>
    refine (gp_good (fun d hd => fg_sqf h hd) hX).sub (· ∈ (smV a b s).1) (fun x y hx hy => hG.cl x hx y hy) (fun d hd => ?_) hG.one
    rcases List.mem_cons.1 hd with rfl | hd
    · exact b_in_sm h told
    · exact fd_in_sm h told hd
theorem fg_le {a b : Int} {s : Bool} {M : Nat} (h : twB a b = true) (told : (smV a b s).2 = true) (hg : grB (smV a b s).1 = true) (hok : (fgV a b s M).2 = true) : lgI (fgV a b s M) ≤ (rkV (smV a b s).1).1 := by
  rw [rk_yes hg]
  have h1 := len_sub (gr_iff.1 (fg_gr h hok)).inc.nodup (fg_sub h told hg hok)
  have h2 := lg_mono _ _ h1
  unfold lgI
  show ((lgV (fgV a b s M).1.length : Nat) : Int) ≤ ((lgV (smV a b s).1.length : Nat) : Int)
  omega
theorem lg_two {n : Nat} (h : 2 ≤ n) : 1 ≤ lgV n := by
  have h1 := lg_mono 2 n h
  have e : lgV 2 = 1 := by rw [lg_step (by omega)]; show 1 + lgV 1 = 1; rw [lg_one]
  omega
theorem lg_four {n : Nat} (h : 4 ≤ n) : 2 ≤ lgV n := by
  have h1 := lg_mono 4 n h
  have e : lgV 4 = 2 := by rw [lg_step (by omega)]; show 1 + lgV 2 = 2; rw [lg_step (by omega)]; show 1 + (1 + lgV 1) = 2; rw [lg_one]
  omega
theorem cl_sq1 {x : Int} (h0 : x ≠ 0) (h : clV x = 1) : IsSq x := by
  have := cl_sq h0
  rwa [h, Int.one_mul] at this
theorem cl_eq {x y : Int} (hx : x ≠ 0) (hy : y ≠ 0) (h : clV x = clV y) : IsSq (x * y) := by
  have h1 := (cl_sq hx).mul (cl_sq hy)
  rw [h] at h1
  refine IsSq.cancel (y := clV y) ?_ (cl_sqf hy).1
  rwa [show x * y * (clV y * clV y) = clV y * x * (clV y * y) by grind]
/-- A group with a class that is not 1. -/
theorem gr_two {X : List Int} {x : Int} (hg : GrG X) (h0 : x ≠ 0) (hx : clV x ∈ X) (hn : ¬ IsSq x) : 1 ≤ lgV X.length := by
  refine lg_two ?_
  have h1 := len_sub (l := [1, clV x]) (m := X) (by
    rw [List.nodup_cons]
    exact ⟨fun h => hn (cl_sq1 h0 (List.mem_singleton.1 h).symm), by simp⟩) (fun z hz => by
    rcases List.mem_cons.1 hz with rfl | hz
    · exact hg.one
    · rw [List.mem_singleton.1 hz]; exact hx)
  exact h1
/-- A group with three more classes. -/
theorem gr_four {X : List Int} {x y z : Int} (hg : GrG X) (x0 : x ≠ 0) (y0 : y ≠ 0) (z0 : z ≠ 0) (hx : clV x ∈ X) (hy : clV y ∈ X) (hz : clV z ∈ X)
    (nx : ¬ IsSq x) (ny : ¬ IsSq y) (nz : ¬ IsSq z) (nxy : ¬ IsSq (x * y)) (nxz : ¬ IsSq (x * z)) (nyz : ¬ IsSq (y * z)) : 2 ≤ lgV X.length := by
  refine lg_four ?_
  have h1 := len_sub (l := [1, clV x, clV y, clV z]) (m := X) (by
    rw [List.nodup_cons, List.nodup_cons, List.nodup_cons]
    refine ⟨fun h => ?_, fun h => ?_, fun h => ?_, by simp⟩
    · simp only [List.mem_cons, List.not_mem_nil, or_false] at h
      rcases h with h | h | h
      · exact nx (cl_sq1 x0 h.symm)
      · exact ny (cl_sq1 y0 h.symm)
      · exact nz (cl_sq1 z0 h.symm)
    · simp only [List.mem_cons, List.not_mem_nil, or_false] at h
      rcases h with h | h
      · exact nxy (cl_eq x0 y0 h)
      · exact nxz (cl_eq x0 z0 h)
    · exact nyz (cl_eq y0 z0 (List.mem_singleton.1 h))) (fun u hu => by
    simp only [List.mem_cons, List.not_mem_nil, or_false] at hu
    rcases hu with rfl | rfl | rfl | rfl
    · exact hg.one
    · exact hx
    · exact hy
    · exact hz)
  exact h1
end
section
open Go Go.RowKit Go.Lib

structure Sel (a b : Int) (X Y : List Int) : Prop where
  gx : GrG X
  gy : GrG Y
  fb : clV b ∈ X
  fc : clV (a * a - 4 * b) ∈ Y
  f0 : ∀ x y : Int, x ≠ 0 → x ∣ b → x * (x * x + a * x + b) = y * y → clV x ∈ X
  f1 : ∀ x y : Int, x ≠ 0 → x ∣ a * a - 4 * b → x * (x * x - 2 * a * x + (a * a - 4 * b)) = y * y → clV x ∈ Y
  a1 : -300 ≤ a
  a2 : a ≤ 300
  b1 : -300 ≤ b
  b2 : b ≤ 300
  b0 : b ≠ 0
  c0 : a * a - 4 * b ≠ 0
theorem nsq_neg {x : Int} (h : x < 0) : ¬ IsSq x := by
  rintro ⟨c, rfl⟩
  have := sq_pos0 c
  omega
theorem sq_bnd {s m : Int} (hm : 0 ≤ m) (h : s * s < (m + 1) * (m + 1)) : -m ≤ s ∧ s ≤ m := by
  constructor
  · rcases Int.lt_or_le s (-m) with h1 | h1
    · have := Int.mul_le_mul (show m + 1 ≤ -s by omega) (show m + 1 ≤ -s by omega) (by omega) (by omega)
      rw [Int.neg_mul_neg] at this
      omega
    · exact h1
  · rcases Int.lt_or_le m s with h1 | h1
    · have := Int.mul_le_mul (show m + 1 ≤ s by omega) (show m + 1 ≤ s by omega) (by omega) (by omega)
      omega
    · exact h1
theorem nsq_btw {x m : Int} (hm : 0 ≤ m) (h1 : m * m < x) (h2 : x < (m + 1) * (m + 1)) : ¬ IsSq x := by
  rintro ⟨c, rfl⟩
  obtain ⟨h3, h4⟩ := sq_bnd hm h2
  have h5 : c.natAbs * c.natAbs ≤ m.natAbs * m.natAbs := Nat.mul_le_mul (by omega) (by omega)
  have h6 := Int.natAbs_mul_self' c
  have h7 := Int.natAbs_mul_self' m
  have h8 : ((c.natAbs * c.natAbs : Nat) : Int) ≤ ((m.natAbs * m.natAbs : Nat) : Int) := Int.ofNat_le.2 h5
  rw [Int.natCast_mul, Int.natCast_mul, h6, h7] at h8
  omega
theorem nsq_mul {x y : Int} (hx : x ≠ 0) (hy : ¬ IsSq y) : ¬ IsSq (x * (x * y)) := fun h => hy (IsSq.cancel (y := x) (by rwa [show y * (x * x) = x * (x * y) by grind]) hx)
/-- -1 comes of x and -x. -/
theorem gr_neg {X : List Int} {x : Int} (hg : GrG X) (h0 : x ≠ 0) (h1 : clV x ∈ X) (h2 : clV (-x) ∈ X) : clV (-1) ∈ X := by
  have hn : Sqf (-1) := ⟨by decide, fun q hq hd => by
    have h3 : q * q ∣ 1 := hd
    have := Nat.le_of_dvd (by decide) h3
    have := Nat.mul_le_mul hq hq
    omega⟩
  have e : pdV (clV x) (clV (-x)) = -1 := by
    refine pd_of hn (cl_sqf h0) (cl_sqf (by omega)) ?_
    have h3 := (cl_sq h0).mul (cl_sq (n := -x) (by omega))
    refine IsSq.cancel (y := x) ?_ h0
    rwa [show -1 * (clV x * clV (-x)) * (x * x) = clV x * x * (clV (-x) * -x) by grind]
  rw [cl_id hn, ← e]
  exact hg.cl _ h1 _ h2
theorem split_two {a b w : Int} (h : a * a - 4 * b = w * w) : ∃ e g : Int, a = -(e + g) ∧ b = e * g ∧ w = e - g := by
  have hp : (a + w) % 2 = 0 := by
    rcases (show a % 2 = 0 ∨ a % 2 = 1 by omega) with h1 | h1 <;> rcases (show w % 2 = 0 ∨ w % 2 = 1 by omega) with h2 | h2
    · omega
    · exfalso
      obtain ⟨i, rfl⟩ : ∃ i, a = 2 * i := ⟨a / 2, by omega⟩
      obtain ⟨j, rfl⟩ : ∃ j, w = 2 * j + 1 := ⟨w / 2, by omega⟩
      have e1 : 2 * i * (2 * i) = 4 * (i * i) := by grind
      have e2 : (2 * j + 1) * (2 * j + 1) = 4 * (j * j) + 4 * j + 1 := by grind
      omega
    · exfalso
      obtain ⟨i, rfl⟩ : ∃ i, a = 2 * i + 1 := ⟨a / 2, by omega⟩
      obtain ⟨j, rfl⟩ : ∃ j, w = 2 * j := ⟨w / 2, by omega⟩
      have e1 : 2 * j * (2 * j) = 4 * (j * j) := by grind
      have e2 : (2 * i + 1) * (2 * i + 1) = 4 * (i * i) + 4 * i + 1 := by grind
      omega
    · omega
  obtain ⟨k, hk⟩ : ∃ k, a = 2 * k - w := ⟨(a + w) / 2, by omega⟩
  refine ⟨w - k, -k, by omega, ?_, by omega⟩
  subst hk
  have : 4 * b = 4 * ((w - k) * -k) := by grind
  omega
def fin2 : Bool := (List.range 9).all fun i => (List.range 37).all fun j => (List.range 23).all fun k =>
  let u : Int := (i : Int) - 4; let s : Int := (j : Int) - 18; let w : Int := k
  decide (s * (s + 2 * u) ≠ w * w) || decide (u = 0) || decide (s = 0) || decide (s + 2 * u = 0) || decide (u * u = 9 ∧ (s * s = 4 ∨ s * s = 64)) || decide (u * u = 16 ∧ (s * s = 1 ∨ s * s = 81))
theorem fin2_ok : fin2 = true := by decide +kernel
def fin3 : Bool := (List.range 35).all fun i => (List.range 59).all fun j => (List.range 29).all fun k =>
  let f : Int := (i : Int) - 17; let h : Int := (j : Int) - 29; let w : Int := k
  decide (f * (f + h) ≠ w * w) || decide (f = 0) || decide (h = 0) || decide (f + h = 0) || decide (300 < f * f * (f * f - h * h)) || decide (f * f * (f * f - h * h) < -300) || decide (f * f * (f * f - h * h) = 0) || decide (300 < h * h - 2 * (f * f)) || decide (h * h - 2 * (f * f) < -300) ||
  decide ((h * h - 2 * (f * f) = -23 ∧ f * f * (f * f - h * h) = 112) ∨ (h * h - 2 * (f * f) = -7 ∧ f * f * (f * f - h * h) = -144) ∨ (h * h - 2 * (f * f) = 7 ∧ f * f * (f * f - h * h) = -8) ∨ (h * h - 2 * (f * f) = 28 ∧ f * f * (f * f - h * h) = -128) ∨ (h * h - 2 * (f * f) = 62 ∧ f * f * (f * f - h * h) = -63) ∨ (h * h - 2 * (f * f) = 223 ∧ f * f * (f * f - h * h) = -224))
theorem fin3_ok : fin3 = true := by decide +kernel
end
section
open Go Go.RowKit Go.Lib

theorem fin2_at {u s w : Int} (hu : -4 ≤ u ∧ u ≤ 4) (hs : -18 ≤ s ∧ s ≤ 18) (hw : 0 ≤ w ∧ w ≤ 22) (h : s * (s + 2 * u) = w * w) (u0 : u ≠ 0) (s0 : s ≠ 0) (z0 : s + 2 * u ≠ 0) : (u * u = 9 ∧ (s * s = 4 ∨ s * s = 64)) ∨ (u * u = 16 ∧ (s * s = 1 ∨ s * s = 81)) := by
  have h1 := List.all_eq_true.1 (List.all_eq_true.1 (List.all_eq_true.1 fin2_ok (u + 4).toNat (List.mem_range.2 (by omega))) (s + 18).toNat (List.mem_range.2 (by omega))) w.toNat (List.mem_range.2 (by omega))
  dsimp only at h1
  rw [show (((u + 4).toNat : Nat) : Int) - 4 = u by omega, show (((s + 18).toNat : Nat) : Int) - 18 = s by omega, show ((w.toNat : Nat) : Int) = w by omega] at h1
  simp only [Bool.or_eq_true, decide_eq_true_eq] at h1
  rcases h1 with ((((h1 | h1) | h1) | h1) | h1) | h1
  · exact absurd h h1
  · exact absurd h1 u0
  · exact absurd h1 s0
  · exact absurd h1 z0
  · exact .inl h1
  · exact .inr h1
theorem fin3_at {f h w : Int} (hf : -17 ≤ f ∧ f ≤ 17) (hh : -29 ≤ h ∧ h ≤ 29) (hw : 0 ≤ w ∧ w ≤ 28) (e : f * (f + h) = w * w) (f0 : f ≠ 0) (h0 : h ≠ 0) (z0 : f + h ≠ 0)
    (b1 : f * f * (f * f - h * h) ≤ 300) (b2 : -300 ≤ f * f * (f * f - h * h)) (b0 : f * f * (f * f - h * h) ≠ 0) (a1 : h * h - 2 * (f * f) ≤ 300) (a2 : -300 ≤ h * h - 2 * (f * f)) :
    (h * h - 2 * (f * f) = -23 ∧ f * f * (f * f - h * h) = 112) ∨ (h * h - 2 * (f * f) = -7 ∧ f * f * (f * f - h * h) = -144) ∨ (h * h - 2 * (f * f) = 7 ∧ f * f * (f * f - h * h) = -8) ∨ (h * h - 2 * (f * f) = 28 ∧ f * f * (f * f - h * h) = -128) ∨ (h * h - 2 * (f * f) = 62 ∧ f * f * (f * f - h * h) = -63) ∨ (h * h - 2 * (f * f) = 223 ∧ f * f * (f * f - h * h) = -224) := by
  have h1 := List.all_eq_true.1 (List.all_eq_true.1 (List.all_eq_true.1 fin3_ok (f + 17).toNat (List.mem_range.2 (by omega))) (h + 29).toNat (List.mem_range.2 (by omega))) w.toNat (List.mem_range.2 (by omega))
  dsimp only at h1
  rw [show (((f + 17).toNat : Nat) : Int) - 17 = f by omega, show (((h + 29).toNat : Nat) : Int) - 29 = h by omega, show ((w.toNat : Nat) : Int) = w by omega] at h1
  simp only [Bool.or_eq_true, decide_eq_true_eq] at h1
  generalize f * f * (f * f - h * h) = B at *
  generalize h * h - 2 * (f * f) = A at *
  rcases h1 with ((((((((h1 | h1) | h1) | h1) | h1) | h1) | h1) | h1) | h1) | h1
  · exact absurd e h1
  · exact absurd h1 f0
  · exact absurd h1 h0
  · exact absurd h1 z0
  · omega
  · omega
  · omega
  · omega
  · omega
  · exact h1
/-- The root of a square below a bound. -/
theorem root_bnd {z m : Int} (hz : IsSq z) (hm : 0 ≤ m) (h : z < (m + 1) * (m + 1)) : ∃ w, 0 ≤ w ∧ w ≤ m ∧ z = w * w := by
  obtain ⟨c, rfl⟩ := hz
  have h1 := sq_bnd hm h
  rcases Int.le_total 0 c with h2 | h2
  · exact ⟨c, h2, h1.2, rfl⟩
  · exact ⟨-c, by omega, by omega, by rw [Int.neg_mul_neg]⟩
/-! ### The square case: b = t², a + 2 t = s², t = u² -/
theorem sel_u {a b u s : Int} {X Y : List Int} (h : Sel a b X Y) (hb : b = u * u * (u * u)) (ha : a = s * s - 2 * (u * u)) : (¬ IsSq (s * (s + 2 * u)) ∧ ¬ IsSq (s * (s - 2 * u))) ∨ ((u * u = 9 ∧ (s * s = 4 ∨ s * s = 64)) ∨ (u * u = 16 ∧ (s * s = 1 ∨ s * s = 81))) := by
  have hb2 := h.b2
  have ha1 := h.a1; have ha2 := h.a2
  have hc : a * a - 4 * b = s * s * ((s + 2 * u) * (s - 2 * u)) := by rw [ha, hb]; grind
  have hc0 := h.c0
  rw [hc] at hc0
  have s0 : s ≠ 0 := by rintro rfl; simp at hc0
  have p0 : s + 2 * u ≠ 0 := fun e => hc0 (by rw [e]; simp)
  have m0 : s - 2 * u ≠ 0 := fun e => hc0 (by rw [e]; simp)
  have hb0 := h.b0
  have u0 : u ≠ 0 := by rintro rfl; rw [hb] at hb0; simp at hb0
  have huu : u * u ≤ 17 := (sq_bnd (s := u * u) (m := 17) (by omega) (by omega)).2
  have hu := sq_bnd (s := u) (m := 4) (by omega) (by omega)
  have hs := sq_bnd (s := s) (m := 18) (by omega) (by omega)
  have bd : ∀ v : Int, -4 ≤ v → v ≤ 4 → s * (s + 2 * v) < (22 + 1) * (22 + 1) := by
    intro v h1 h2
    have := (mul_bd s (s + 2 * v) 18 26 hs.1 hs.2 (by omega) (by omega)).2
    omega
  by_cases q1 : IsSq (s * (s + 2 * u))
  · obtain ⟨w, w0, w1, hw⟩ := root_bnd q1 (m := 22) (by omega) (bd u hu.1 hu.2)
    exact .inr (fin2_at hu hs ⟨w0, w1⟩ hw u0 s0 p0)
  · by_cases q2 : IsSq (s * (s - 2 * u))
    · have e : s * (s + 2 * -u) = s * (s - 2 * u) := by grind
      obtain ⟨w, w0, w1, hw⟩ := root_bnd q2 (m := 22) (by omega) (by rw [← e]; exact bd (-u) (by omega) (by omega))
      have h3 := fin2_at (u := -u) (s := s) (w := w) (by omega) hs ⟨w0, w1⟩ (by rw [e]; exact hw) (by omega) s0 (by omega)
      rw [Int.neg_mul_neg] at h3
      exact .inr h3
    · exact .inl ⟨q1, q2⟩
theorem sel_z {a b u s : Int} {X Y : List Int} (h : Sel a b X Y) (hb : b = u * u * (u * u)) (ha : a = s * s - 2 * (u * u)) : (s * (s + 2 * u) ≠ 0 ∧ s * (s - 2 * u) ≠ 0) ∧ clV (s * (s + 2 * u)) ∈ Y ∧ clV (s * (s - 2 * u)) ∈ Y ∧ s * (s + 2 * u) * (s * (s - 2 * u)) = a * a - 4 * b := by
  have hc : s * (s + 2 * u) * (s * (s - 2 * u)) = a * a - 4 * b := by rw [ha, hb]; grind
  have hc0 := h.c0
  rw [← hc] at hc0
  have z1 : s * (s + 2 * u) ≠ 0 := fun e => hc0 (by rw [e]; simp)
  have z2 : s * (s - 2 * u) ≠ 0 := fun e => hc0 (by rw [e]; simp)
  refine ⟨⟨z1, z2⟩, h.f1 _ (2 * u * s * (s + 2 * u)) z1 ⟨_, hc.symm⟩ ?_, h.f1 _ (2 * u * s * (s - 2 * u)) z2 ⟨s * (s + 2 * u), by rw [← hc]; grind⟩ ?_, hc⟩
  · rw [ha, hb]; grind
  · rw [ha, hb]; grind
theorem sel_t {a t : Int} {X Y : List Int} (h : Sel a (t * t) X Y) : (t ≠ 0 ∧ a + 2 * t ≠ 0 ∧ a - 2 * t ≠ 0) ∧ (a + 2 * t) * (a - 2 * t) = a * a - 4 * (t * t) ∧ clV (a + 2 * t) ∈ Y ∧ clV (a - 2 * t) ∈ Y ∧ (∀ s, a + 2 * t = s * s → clV t ∈ X) ∧ (∀ r, a - 2 * t = r * r → clV (-t) ∈ X) := by
  have hc : (a + 2 * t) * (a - 2 * t) = a * a - 4 * (t * t) := by grind
  have hc0 := h.c0
  rw [← hc] at hc0
  have x1 : a + 2 * t ≠ 0 := fun e => hc0 (by rw [e]; simp)
  have x2 : a - 2 * t ≠ 0 := fun e => hc0 (by rw [e]; simp)
  have t0 : t ≠ 0 := by rintro rfl; exact h.b0 rfl
  refine ⟨⟨t0, x1, x2⟩, hc, h.f1 _ 0 x1 ⟨_, hc.symm⟩ (by grind), h.f1 _ 0 x2 ⟨a + 2 * t, by rw [← hc]; grind⟩ (by grind), fun s hs => h.f0 t (t * s) t0 ⟨t, rfl⟩ ?_, fun r hr => h.f0 (-t) (t * r) (by omega) ⟨-t, by grind⟩ ?_⟩
  · rw [show t * s * (t * s) = t * t * (s * s) by grind, ← hs]; grind
  · rw [show t * r * (t * r) = t * t * (r * r) by grind, ← hr]; grind
theorem sel_IIa {a t : Int} {X Y : List Int} (h : Sel a (t * t) X Y) (ht : 0 < t) (nc : ¬ IsSq (a * a - 4 * (t * t))) : 2 ≤ lgV X.length + lgV Y.length := by
  obtain ⟨⟨t0, x10, x20⟩, hc, m1, m2, ft, fn⟩ := sel_t h
  have Y1 := gr_two h.gy h.c0 h.fc nc
  by_cases q1 : IsSq (a + 2 * t)
  · obtain ⟨s, hs⟩ := q1
    by_cases qt : IsSq t
    · obtain ⟨u, rfl⟩ := qt
      have ha : a = s * s - 2 * (u * u) := by omega
      obtain ⟨⟨z10, z20⟩, k1, k2, hz⟩ := sel_z h rfl ha
      rcases sel_u h rfl ha with ⟨n1, n2⟩ | hex
      · have := gr_four h.gy z10 z20 h.c0 k1 k2 h.fc n1 n2 nc (by rw [hz]; exact nc) (by rw [← hz]; exact nsq_mul z10 n2) (by rw [← hz, Int.mul_comm (s * (s + 2 * u))]; exact nsq_mul z20 n1)
        omega
      · have fin : ∀ x y, x ≠ 0 → x ∣ u * u * (u * u) → x * (x * x + a * x + u * u * (u * u)) = y * y → ¬ IsSq x → 2 ≤ lgV X.length + lgV Y.length := fun x y h1 h2 h3 h4 => by
          have := gr_two h.gx h1 (h.f0 x y h1 h2 h3) h4
          omega
        rcases hex with ⟨e1, e2 | e2⟩ | ⟨e1, e2 | e2⟩ <;> rw [e1, e2] at ha <;> subst ha <;> rw [e1] at fin
        · exact fin 3 12 (by decide) (by decide) (by decide) (nsq_btw (m := 1) (by decide) (by decide) (by decide))
        · exact fin (-27) 108 (by decide) (by decide) (by decide) (nsq_neg (by decide))
        · exact fin 8 24 (by decide) (by decide) (by decide) (nsq_btw (m := 2) (by decide) (by decide) (by decide))
        · exact fin (-32) 96 (by decide) (by decide) (by decide) (nsq_neg (by decide))
    · have := gr_two h.gx t0 (ft s hs) qt
      omega
  · by_cases q2 : IsSq (a - 2 * t)
    · obtain ⟨r, hr⟩ := q2
      have := gr_two h.gx (x := -t) (by omega) (fn r hr) (nsq_neg (by omega))
      omega
    · have := gr_four h.gy x10 x20 h.c0 m1 m2 h.fc q1 q2 nc (by rw [hc]; exact nc) (by rw [← hc]; exact nsq_mul x10 q2) (by rw [← hc, Int.mul_comm (a + 2 * t)]; exact nsq_mul x20 q1)
      omega
end
section
open Go Go.RowKit Go.Lib

def exL (a b : Int) : Prop := (a = -23 ∧ b = 112) ∨ (a = -7 ∧ b = -144) ∨ (a = 7 ∧ b = -8) ∨ (a = 28 ∧ b = -128) ∨ (a = 62 ∧ b = -63) ∨ (a = 223 ∧ b = -224)
theorem sel_f {a b f h : Int} {X Y : List Int} (S : Sel a b X Y) (hb : b = f * f * (f * f - h * h)) (ha : a = h * h - 2 * (f * f)) (h0 : h ≠ 0) : (¬ IsSq (f * (f + h)) ∧ ¬ IsSq (f * (f - h))) ∨ exL a b := by
  have b1 := S.b1; have b2 := S.b2; have a1 := S.a1; have a2 := S.a2; have b0 := S.b0
  have f0 : f ≠ 0 := by rintro rfl; rw [hb] at b0; simp at b0
  have e0 : f * f - h * h ≠ 0 := fun e => b0 (by rw [hb, e]; simp)
  have p0 : f + h ≠ 0 := fun e => e0 (by rw [show f * f - h * h = (f + h) * (f - h) by grind, e]; simp)
  have m0 : f - h ≠ 0 := fun e => e0 (by rw [show f * f - h * h = (f + h) * (f - h) by grind, e]; simp)
  have hff : f * f ≤ 300 := by
    have h1 : (f * f).natAbs ≤ b.natAbs := by
      rw [hb, Int.natAbs_mul (f * f)]
      exact Nat.le_mul_of_pos_right _ (by omega)
    omega
  have hf := sq_bnd (s := f) (m := 17) (by omega) (by omega)
  have hf289 := (mul_bd f f 17 17 hf.1 hf.2 hf.1 hf.2).2
  have hh := sq_bnd (s := h) (m := 29) (by omega) (by omega)
  have bd : ∀ v : Int, -29 ≤ v → v ≤ 29 → f * (f + v) < (28 + 1) * (28 + 1) := by
    intro v h1 h2
    have := (mul_bd f (f + v) 17 46 hf.1 hf.2 (by omega) (by omega)).2
    omega
  unfold exL
  rw [ha, hb] at *
  by_cases q1 : IsSq (f * (f + h))
  · obtain ⟨w, w0, w1, hw⟩ := root_bnd q1 (m := 28) (by omega) (bd h hh.1 hh.2)
    exact .inr (fin3_at hf hh ⟨w0, w1⟩ hw f0 h0 p0 b2 b1 b0 a2 a1)
  · by_cases q2 : IsSq (f * (f - h))
    · have e : f * (f + -h) = f * (f - h) := by grind
      obtain ⟨w, w0, w1, hw⟩ := root_bnd q2 (m := 28) (by omega) (by rw [← e]; exact bd (-h) (by omega) (by omega))
      have h3 := fin3_at (f := f) (h := -h) (w := w) hf (by omega) ⟨w0, w1⟩ (by rw [e]; exact hw) f0 (by omega) (by omega) (by rw [Int.neg_mul_neg]; exact b2) (by rw [Int.neg_mul_neg]; exact b1) (by rw [Int.neg_mul_neg]; exact b0) (by rw [Int.neg_mul_neg]; exact a2) (by rw [Int.neg_mul_neg]; exact a1)
      rw [Int.neg_mul_neg] at h3
      exact .inr h3
    · exact .inl ⟨q1, q2⟩
theorem sel_fz {a b f h : Int} {X Y : List Int} (S : Sel a b X Y) (hb : b = f * f * (f * f - h * h)) (ha : a = h * h - 2 * (f * f)) : (f * (f + h) ≠ 0 ∧ f * (f - h) ≠ 0) ∧ clV (f * (f + h)) ∈ X ∧ clV (f * (f - h)) ∈ X ∧ f * (f + h) * (f * (f - h)) = b := by
  have hz : f * (f + h) * (f * (f - h)) = b := by rw [hb]; grind
  have b0 := S.b0
  have z1 : f * (f + h) ≠ 0 := fun e => b0 (by rw [← hz, e]; simp)
  have z2 : f * (f - h) ≠ 0 := fun e => b0 (by rw [← hz, e]; simp)
  refine ⟨⟨z1, z2⟩, S.f0 _ (f * h * (f + h)) z1 ⟨_, hz.symm⟩ ?_, S.f0 _ (f * h * (f - h)) z2 ⟨f * (f + h), by rw [← hz]; grind⟩ ?_, hz⟩
  · rw [ha, hb]; grind
  · rw [ha, hb]; grind
theorem sel_III1 {a b f e : Int} {X Y : List Int} (S : Sel a b X Y) (ha : a = -(f * f + e)) (hb : b = f * f * e) (nb : ¬ IsSq b) : 2 ≤ lgV X.length + lgV Y.length := by
  have X1 := gr_two S.gx S.b0 S.fb nb
  have hc : a * a - 4 * b = (f * f - e) * (f * f - e) := by rw [ha, hb]; grind
  have hc0 := S.c0
  rw [hc] at hc0
  have z0 : f * f - e ≠ 0 := fun h => hc0 (by rw [h]; rfl)
  have hz := S.f1 (f * f - e) (2 * f * (f * f - e)) z0 ⟨_, hc⟩ (by rw [ha, hb]; grind)
  by_cases q : IsSq (f * f - e)
  · obtain ⟨h, hh⟩ := q
    obtain rfl : e = f * f - h * h := by omega
    have h0 : h ≠ 0 := by rintro rfl; exact z0 (by omega)
    have ha2 : a = h * h - 2 * (f * f) := by omega
    obtain ⟨⟨z1, z2⟩, k1, k2, hp⟩ := sel_fz S hb ha2
    rcases sel_f S hb ha2 h0 with ⟨n1, n2⟩ | hex
    · have := gr_four S.gx z1 z2 S.b0 k1 k2 S.fb n1 n2 nb (by rw [hp]; exact nb) (by rw [← hp]; exact nsq_mul z1 n2) (by rw [← hp, Int.mul_comm (f * (f + h))]; exact nsq_mul z2 n1)
      omega
    · clear hc hc0 z0 hz hh hb ha ha2 k1 k2 hp nb
      rcases hex with ⟨rfl, rfl⟩ | ⟨rfl, rfl⟩ | ⟨rfl, rfl⟩ | ⟨rfl, rfl⟩ | ⟨rfl, rfl⟩ | ⟨rfl, rfl⟩
      · have := gr_two S.gy (by decide) (S.f1 (-27) 108 (by decide) (by decide) (by decide)) (nsq_neg (by decide)); omega
      · have := gr_two S.gy (by decide) (S.f1 5 60 (by decide) (by decide) (by decide)) (nsq_btw (m := 2) (by decide) (by decide) (by decide)); omega
      · have := gr_two S.gy (by decide) (S.f1 3 12 (by decide) (by decide) (by decide)) (nsq_btw (m := 1) (by decide) (by decide) (by decide)); omega
      · have := gr_two S.gy (by decide) (S.f1 12 96 (by decide) (by decide) (by decide)) (nsq_btw (m := 3) (by decide) (by decide) (by decide)); omega
      · have := gr_two S.gy (by decide) (S.f1 32 192 (by decide) (by decide) (by decide)) (nsq_btw (m := 5) (by decide) (by decide) (by decide)); omega
      · have := gr_two S.gy (by decide) (S.f1 135 1080 (by decide) (by decide) (by decide)) (nsq_btw (m := 11) (by decide) (by decide) (by decide)); omega
  · have := gr_two S.gy z0 hz q
    omega
theorem sel_roots {a b e g : Int} {X Y : List Int} (S : Sel a b X Y) (ha : a = -(e + g)) (hb : b = e * g) : (e ≠ 0 ∧ g ≠ 0) ∧ clV e ∈ X ∧ clV g ∈ X := by
  have b0 := S.b0
  have e0 : e ≠ 0 := by rintro rfl; exact b0 (by rw [hb]; simp)
  have g0 : g ≠ 0 := by rintro rfl; exact b0 (by rw [hb]; simp)
  exact ⟨⟨e0, g0⟩, S.f0 e 0 e0 ⟨g, hb⟩ (by rw [ha, hb]; grind), S.f0 g 0 g0 ⟨e, by rw [hb]; grind⟩ (by rw [ha, hb]; grind)⟩
theorem sel_III {a b : Int} {X Y : List Int} (S : Sel a b X Y) (nb : ¬ IsSq b) (sc : IsSq (a * a - 4 * b)) : 2 ≤ lgV X.length + lgV Y.length := by
  obtain ⟨w, hw⟩ := sc
  obtain ⟨e, g, ha, hb, -⟩ := split_two hw
  obtain ⟨⟨e0, g0⟩, k1, k2⟩ := sel_roots S ha hb
  by_cases q1 : IsSq e
  · obtain ⟨f, rfl⟩ := q1
    exact sel_III1 S ha hb nb
  · by_cases q2 : IsSq g
    · obtain ⟨f, rfl⟩ := q2
      exact sel_III1 (f := f) (e := e) S (by omega) (by rw [hb]; grind) nb
    · have := gr_four S.gx e0 g0 S.b0 k1 k2 S.fb q1 q2 nb (by rw [← hb]; exact nb) (by rw [hb]; exact nsq_mul e0 q2) (by rw [hb, Int.mul_comm e]; exact nsq_mul g0 q1)
      omega
theorem sel_four {X : List Int} {z : Int} (hg : GrG X) (z0 : z ≠ 0) (k1 : clV z ∈ X) (k2 : clV (-z) ∈ X) (n1 : ¬ IsSq z) (n2 : ¬ IsSq (-z)) : 2 ≤ lgV X.length := by
  have hp : 0 < z * z := by
    have h1 := sq_pos0 z
    have h2 := Int.mul_ne_zero z0 z0
    omega
  exact gr_four hg z0 (y := -z) (by omega) (z := -1) (by decide) k1 k2 (gr_neg hg z0 k1 k2) n1 n2 (nsq_neg (by decide)) (nsq_neg (by rw [Int.mul_neg]; omega)) (by rw [show z * -1 = -z by omega]; exact n2) (by rw [show -z * -1 = z by omega]; exact n1)
theorem exL_nsq {a b : Int} (h : exL a b) : ¬ IsSq b := by
  rcases h with ⟨-, rfl⟩ | ⟨-, rfl⟩ | ⟨-, rfl⟩ | ⟨-, rfl⟩ | ⟨-, rfl⟩ | ⟨-, rfl⟩
  · exact nsq_btw (m := 10) (by decide) (by decide) (by decide)
  all_goals exact nsq_neg (by decide)
theorem sel_IIb {a t : Int} {X Y : List Int} (S : Sel a (t * t) X Y) (ht : 0 < t) (sc : IsSq (a * a - 4 * (t * t))) : 2 ≤ lgV X.length + lgV Y.length := by
  obtain ⟨⟨t0, x10, x20⟩, hc, m1, m2, ft, fn⟩ := sel_t S
  obtain ⟨w, hw⟩ := sc
  by_cases q1 : IsSq (a + 2 * t)
  · obtain ⟨s, hs⟩ := q1
    have s0 : s ≠ 0 := by rintro rfl; exact x10 hs
    have q2 : IsSq (a - 2 * t) := IsSq.cancel (y := s) ⟨w, by rw [← hw, ← hc, hs]; grind⟩ s0
    obtain ⟨r, hr⟩ := q2
    have k1 := ft s hs
    have k2 := fn r hr
    by_cases qt : IsSq t
    · obtain ⟨u, rfl⟩ := qt
      have ha : a = s * s - 2 * (u * u) := by omega
      have X1 := gr_two S.gx (x := -1) (by decide) (gr_neg S.gx t0 k1 k2) (nsq_neg (by decide))
      obtain ⟨⟨z10, -⟩, j1, -, -⟩ := sel_z S rfl ha
      rcases sel_u S rfl ha with ⟨n1, -⟩ | hex
      · have := gr_two S.gy z10 j1 n1
        omega
      · exfalso
        have hr2 : s * s - 4 * (u * u) = r * r := by omega
        have hrp := sq_pos0 r
        rcases hex with ⟨e1, e2 | e2⟩ | ⟨e1, e2 | e2⟩
        · omega
        · exact nsq_btw (x := r * r) (m := 5) (by decide) (by omega) (by omega) ⟨r, rfl⟩
        · omega
        · exact nsq_btw (x := r * r) (m := 4) (by decide) (by omega) (by omega) ⟨r, rfl⟩
    · have := sel_four S.gx t0 k1 k2 qt (nsq_neg (by omega))
      omega
  · have Y1 := gr_two S.gy x10 m1 q1
    obtain ⟨e, g, ha, hb, -⟩ := split_two hw
    obtain ⟨⟨e0, g0⟩, k1, k2⟩ := sel_roots S ha hb
    by_cases q2 : IsSq e
    · obtain ⟨f, rfl⟩ := q2
      have f0 : f ≠ 0 := by rintro rfl; exact e0 rfl
      obtain ⟨k, rfl⟩ : IsSq g := IsSq.cancel (y := f) ⟨t, by rw [hb]; grind⟩ f0
      have hcz : a * a - 4 * (t * t) = (f * f - k * k) * (f * f - k * k) := by rw [ha, hb]; grind
      have hc0 := S.c0
      rw [hcz] at hc0
      have z0 : f * f - k * k ≠ 0 := fun h => hc0 (by rw [h]; rfl)
      have j1 := S.f1 (f * f - k * k) (2 * f * (f * f - k * k)) z0 ⟨_, hcz⟩ (by rw [hcz, ha]; grind)
      have j2 := S.f1 (-(f * f - k * k)) (2 * k * (f * f - k * k)) (by omega) ⟨-(f * f - k * k), by rw [hcz]; grind⟩ (by rw [hcz, ha]; grind)
      have fin : ∀ p h : Int, h ≠ 0 → t * t = p * p * (p * p - h * h) → a = h * h - 2 * (p * p) → 2 ≤ lgV X.length + lgV Y.length := fun p h h0 e1 e2 => by
        obtain ⟨⟨z1, -⟩, i1, -, -⟩ := sel_fz S e1 e2
        rcases sel_f S e1 e2 h0 with ⟨n1, -⟩ | hex
        · have := gr_two S.gx z1 i1 n1
          omega
        · exact absurd ⟨t, rfl⟩ (exL_nsq hex)
      by_cases n1 : IsSq (f * f - k * k)
      · obtain ⟨h, hh⟩ := n1
        exact fin f h (by rintro rfl; exact z0 hh) (by rw [hb, show f * f - h * h = k * k by omega]) (by omega)
      · by_cases n2 : IsSq (-(f * f - k * k))
        · obtain ⟨h, hh⟩ := n2
          exact fin k h (by rintro rfl; exact z0 (by omega)) (by rw [hb, show k * k - h * h = f * f by omega, Int.mul_comm]) (by omega)
        · have := sel_four S.gy z0 j1 j2 n1 n2
          omega
    · have := gr_two S.gx e0 k1 q2
      omega
theorem sel_two {a b : Int} {X Y : List Int} (S : Sel a b X Y) : 2 ≤ lgV X.length + lgV Y.length := by
  by_cases qb : IsSq b
  · obtain ⟨t, rfl⟩ := qb
    have t0 : t ≠ 0 := by rintro rfl; exact S.b0 rfl
    have e : t * t = (t.natAbs : Int) * (t.natAbs : Int) := (Int.natAbs_mul_self' t).symm
    rw [e] at S
    by_cases qc : IsSq (a * a - 4 * ((t.natAbs : Int) * (t.natAbs : Int)))
    · exact sel_IIb S (by omega) qc
    · exact sel_IIa S (by omega) qc
  · by_cases qc : IsSq (a * a - 4 * b)
    · exact sel_III S qb qc
    · have h1 := gr_two S.gx S.b0 S.fb qb
      have h2 := gr_two S.gy S.c0 S.fc qc
      omega
end
section
open Go Go.RowKit Go.Lib

theorem sel_of {a b : Int} (h : twB a b = true) (t0 : (smV a b false).2 = true) (t1 : (smV a b true).2 = true) (g0 : grB (smV a b false).1 = true) (g1 : grB (smV a b true).1 = true) : Sel a b (smV a b false).1 (smV a b true).1 := by
  have eA : sdA a b false = a := rfl
  have eB : sdB a b false = b := rfl
  have eA1 : sdA a b true = -2 * a := rfl
  have eB1 : sdB a b true = a * a - 4 * b := rfl
  obtain ⟨⟨a1, a2⟩, ⟨b1, b2⟩, b0, hab⟩ := twB_bd h
  refine ⟨gr_iff.1 g0, gr_iff.1 g1, ?_, ?_, fun x y h0 hx hy => ?_, fun x y h0 hx hy => ?_, a1, a2, b1, b2, b0, by omega⟩
  · have := b_in_sm h t0; rwa [eB] at this
  · have := b_in_sm h t1; rwa [eB1] at this
  · exact x_in_sm h t0 h0 (by rw [eB]; exact hx) (by rw [eA, eB]; exact hy)
  · exact x_in_sm h t1 h0 (by rw [eB1]; exact hx) (y := y) (by rw [eA1, eB1, ← hy]; grind)
structure RbT (a b : Int) (M : Nat) : Prop where
  k0 : (fgV a b false M).2 = true
  k1 : (fgV a b true M).2 = true
  t0 : (smV a b false).2 = true
  t1 : (smV a b true).2 = true
  g0 : grB (smV a b false).1 = true
  g1 : grB (smV a b true).1 = true
  lo : (rbV a b M).1 = max (lgI (fgV a b false M) + lgI (fgV a b true M) - 2) 0
  hi : (rbV a b M).2.1 = (rkV (smV a b false).1).1 + (rkV (smV a b true).1).1 - 2
theorem rk_gr {l : List Int} (h : (rkV l).2 = true) : grB l = true := by
  cases hg : grB l
  · rw [rk_no hg] at h; exact Bool.noConfusion h
  · rfl
theorem rb_told {a b : Int} {M : Nat} (h : (rbV a b M).2.2 = true) : RbT a b M := by
  by_cases hc : (frV a b M).2.2 = true ∧ (srV a b).2.2 = true
  · have hr : rbV a b M = (loV a b M, (srV a b).1 + (srV a b).2.1 - 2, true) := if_pos hc
    obtain ⟨h1, h2⟩ := hc
    by_cases hf : (fgV a b false M).2 = true ∧ (fgV a b true M).2 = true
    · have hfv : frV a b M = (lgI (fgV a b false M), lgI (fgV a b true M), true) := if_pos hf
      by_cases hs : ((smV a b false).2 = true ∧ (smV a b true).2 = true) ∧ ((rkV (smV a b false).1).2 = true ∧ (rkV (smV a b true).1).2 = true)
      · have hsv : srV a b = ((rkV (smV a b false).1).1, (rkV (smV a b true).1).1, true) := if_pos hs
        refine ⟨hf.1, hf.2, hs.1.1, hs.1.2, rk_gr hs.2.1, rk_gr hs.2.2, ?_, ?_⟩
        · rw [hr]; unfold loV; rw [hfv]
        · rw [hr, hsv]
      · rw [show srV a b = (0, 0, false) from if_neg hs] at h2
        exact Bool.noConfusion h2
    · rw [show frV a b M = (0, 0, false) from if_neg hf] at h1
      exact Bool.noConfusion h1
  · rw [show rbV a b M = (0, 0, false) from if_neg hc] at h
    exact Bool.noConfusion h
theorem rb_ok {a b : Int} {M : Nat} (h : twB a b = true) (told : (rbV a b M).2.2 = true) : 0 ≤ (rbV a b M).1 ∧ (rbV a b M).1 ≤ (rbV a b M).2.1 ∧ (rbV a b M).2.1 ≤ 20 := by
  obtain ⟨k0, k1, t0, t1, g0, g1, lo, hi⟩ := rb_told told
  have s2 := sel_two (sel_of h t0 t1 g0 g1)
  have l0 := fg_le h t0 g0 k0
  have l1 := fg_le h t1 g1 k1
  have r0 := rk_bd (smV a b false).1
  have r1 := rk_bd (smV a b true).1
  rw [lo, hi]
  have e0 : (rkV (smV a b false).1).1 = ((lgV (smV a b false).1.length : Nat) : Int) := by rw [rk_yes g0]
  have e1 : (rkV (smV a b true).1).1 = ((lgV (smV a b true).1.length : Nat) : Int) := by rw [rk_yes g1]
  omega
theorem re_eq (a b n : Int) : reI a b n = reS a b n := by
  unfold reI reS
  by_cases hc : askB a b n = true ∧ (curveB (pmA a b) (pmB a b) = true ∧ (rbV a b n.toNat).2.2 = true)
  · have hn := hc.1
    unfold askB at hn
    rw [Bool.and_eq_true] at hn
    have hb := rb_ok hn.1 hc.2.2
    have he : entB (pmA a b) (pmB a b) (rbV a b n.toNat).1 (rbV a b n.toNat).2.1 0 = true := by
      unfold entB
      rw [hc.2.1, Bool.true_and, decide_eq_true_eq]
      omega
    rw [if_pos hc, if_pos ⟨hc.1, hc.2, he⟩]
  · rw [if_neg hc, if_neg (fun h => hc ⟨h.1, h.2.1⟩)]
end
section
open Go Go.RowKit Go.ChangeShapes Go.WideShapes Go.Deep

/-- A type all of whose cells are of type int64 (an int, or a struct of such). -/
def intsB (P : Program) : Nat → TypeId → Bool
  | 0, _ => false
  | n + 1, t => match P.underlying t with
    | some (.int k) => k == .i64
    | some (.struct fs) => fs.toList.all (fun f => intsB P n f.type) && (fs.toList.flatMap (fun f => List.range' f.offset (P.cellsOf f.type)) == List.range (P.cellsOf t))
    | _ => false

section
variable {H : Type} {enc : TypeId × Value → H} {P : Program} {w : World} {base : Nat} {spare : Nat → Bool} {held : Bool}

theorem ints_of_trod : ∀ (n : Nat) (t : TypeId) (fuel : Nat) (cs : List Value) (x : DataW H × List MemPlace), intsB P n t = true → DataW.trod enc P w base spare held fuel t cs = some x →
    ∀ c ∈ cs, ∃ m, c = .int .i64 m ∧ (Lit.int .i64 m).wf = true := by
  intro n
  induction n with
  | zero => intro t fuel cs x h; simp [intsB] at h
  | succ n ih =>
    intro t fuel cs x h ht c hc
    unfold intsB at h
    split at h
    · rename_i k hk
      obtain rfl : k = .i64 := by simpa using h
      obtain ⟨fuel, rfl⟩ : ∃ f, fuel = f + 1 := by cases fuel with
        | zero => simp [DataW.trod] at ht
        | succ f => exact ⟨f, rfl⟩
      unfold DataW.trod at ht
      rw [hk] at ht
      split at ht <;> simp_all
    · rename_i fs hk
      simp only [Bool.and_eq_true, beq_iff_eq] at h
      obtain ⟨xs, n', hn', hx, hlen, hxl, hf⟩ := DataW.trod_struct hk ht
      obtain ⟨j, hj, rfl⟩ := List.mem_iff_getElem.1 hc
      have hmem : j ∈ fs.toList.flatMap (fun f => List.range' f.offset (P.cellsOf f.type)) := by
        rw [h.2]; exact List.mem_range.2 (by omega)
      obtain ⟨f, hfm, hjr⟩ := List.mem_flatMap.1 hmem
      obtain ⟨i, hi, hfi⟩ := List.mem_iff_getElem.1 hfm
      have hfs : fs[i]? = some f := by
        have : fs.toList[i]? = some f := by rw [List.getElem?_eq_getElem hi, hfi]
        simpa using this
      have h1 := hf i f hfs
      have hil : i < xs.length := by rw [hxl]; simpa using hi
      rw [List.getElem?_eq_getElem hil] at h1
      refine ih f.type n' _ _ (by have := List.all_eq_true.1 h.1 f hfm; exact this) h1 _ ?_
      obtain ⟨hlo, hhi⟩ := List.mem_range'_1.1 hjr
      rw [List.mem_iff_getElem?]
      refine ⟨j - f.offset, ?_⟩
      rw [List.getElem?_take_of_lt (by omega), List.getElem?_drop]
      have : f.offset + (j - f.offset) = j := by omega
      rw [this, List.getElem?_eq_getElem hj]
    · cases h

/-- A struct of ints by value. -/
theorem open_ints_agg {r : Reach} {b0 : Nat} {t : TypeId} {fs : Array Field} {v : Value} {d : DataW H} {p : List MemPlace} (hs : P.underlying t = some (.struct fs)) (k : Nat) (hi : intsB P k t = true)
    (hv : Value.okWide P w r b0 t v) (h : DataW.Trod enc P w base spare held t v d p) :
    ∃ ns : List Int, ns.length = P.cellsOf t ∧ v = .agg (ns.map (Value.int .i64)).toArray ∧ ∀ n ∈ ns, (Lit.int .i64 n).wf = true := by
  obtain ⟨cs, rfl, hsz⟩ := okWide_struct hs hv
  obtain ⟨fuel, hf⟩ := h
  have hall := ints_of_trod k t fuel _ _ hi hf
  have : ∀ l : List Value, (∀ c ∈ l, ∃ m, c = .int .i64 m ∧ (Lit.int .i64 m).wf = true) → ∃ ns : List Int, l = ns.map (Value.int .i64) ∧ ∀ n ∈ ns, (Lit.int .i64 n).wf = true := by
    intro l
    induction l with
    | nil => exact fun _ => ⟨[], rfl, by simp⟩
    | cons c l ih =>
      intro hl
      obtain ⟨m, rfl, hm⟩ := hl c (by simp)
      obtain ⟨ns, rfl, hns⟩ := ih (fun c hc => hl c (by simp [hc]))
      exact ⟨m :: ns, rfl, by simp [hm]; exact hns⟩
  obtain ⟨ns, hns, hwf⟩ := this cs.toList hall
  refine ⟨ns, ?_, ?_, hwf⟩
  · have : cs.toList.length = ns.length := by rw [hns]; simp
    simp at this
    omega
  · rw [← hns]

theorem choose_list {E : Type} (S : Shape E) (p : Nat → E → Prop) : ∀ n : Nat, (∀ i, i < n → ∃ e, p i e) → ∃ es : List E, es.length = n ∧ ∀ i, i < n → p i (S.get es i)
  | 0, _ => ⟨[], rfl, fun i hi => absurd hi (by omega)⟩
  | n + 1, h => by
    obtain ⟨es, hl, hes⟩ := choose_list S p n (fun i hi => h i (by omega))
    obtain ⟨e, he⟩ := h n (by omega)
    refine ⟨es ++ [e], by simp [hl], fun i hi => ?_⟩
    rcases Nat.lt_or_ge i n with h1 | h1
    · have := hes i h1
      unfold Shape.get at this ⊢
      rw [List.getD_eq_getElem?_getD, List.getElem?_append_left (by omega), ← List.getD_eq_getElem?_getD]
      exact this
    · obtain rfl : i = n := by omega
      unfold Shape.get
      rw [List.getD_eq_getElem?_getD, List.getElem?_append_right (by omega), hl]
      simpa using he

/-- A slice of structs of ints. -/
theorem open_ints_slice {E : Type} (S : Shape E) (mk : (Nat → Int) → E) (hmk : ∀ c j, j < S.size → S.cell (mk c) j = .int .i64 (c j)) {r : Reach} {b0 : Nat} {t e : TypeId} {v : Value} {d : DataW H} {p : List MemPlace}
    (ht : P.underlying t = some (.slice e)) (hpos : 0 < S.size) (hsz : P.cellsOf e = S.size) (k : Nat) (hi : intsB P k e = true)
    (hv : Value.okWide P w r b0 t v) (h : DataW.Trod enc P w base spare held t v d p) :
    ∃ es : List E, Rd S w w.heap.size v es := by
  obtain ⟨A, len, cap, rfl⟩ := okWide_slice ht hv
  obtain ⟨fuel, hf⟩ := h
  rcases open_slice ht hf with ⟨hcs, _⟩ | ⟨a, len', cap', m, n, D, Pl, hcs, hb, hl, hm, hmm, hx, hcell⟩
  · obtain ⟨rfl, rfl, rfl⟩ : A = none ∧ len = 0 ∧ cap = 0 := by simpa [Value.cells] using hcs
    exact ⟨[], Rd.nil _ _⟩
  · obtain ⟨rfl, rfl, rfl⟩ : A = some a ∧ len = len' ∧ cap = cap' := by simpa [Value.cells] using hcs
    have hlm : len ≤ m := by rw [hmm]; split <;> omega
    have key : ∀ i, i < len → ∃ e : E, ∀ j, j < S.size → w.cell? ((a.add (i * S.size)).add j) = some (S.cell e j) := by
      intro i hil
      obtain ⟨cs', hc, ht'⟩ := hcell i (by omega)
      rw [hsz] at hc
      obtain ⟨_, hcl, hat⟩ := World.cells?_some hc
      have hall := ints_of_trod k e n _ _ hi ht'
      refine ⟨mk (fun j => match cs'[j]? with | some (.int _ q) => q | _ => 0), fun j hj => ?_⟩
      rw [hat j hj, hmk _ j hj]
      have hjl : j < cs'.length := by omega
      rw [List.getElem?_eq_getElem hjl]
      obtain ⟨q, hq, _⟩ := hall cs'[j] (List.getElem_mem hjl)
      rw [hq]
    obtain ⟨es, hlen, hes⟩ := choose_list S (fun i e => ∀ j, j < S.size → w.cell? ((a.add (i * S.size)).add j) = some (S.cell e j)) len key
    subst hlen
    refine ⟨es, some a, cap, rfl, hl, hm, fun h0 => ?_⟩
    have h00 := hes 0 h0 0 hpos
    obtain ⟨g, off, spot⟩ := a
    have hspot : spot = none := by
      have := h00
      simp only [Nat.zero_mul] at this
      simpa [Addr.add] using World.cell?_spot this
    subst hspot
    have hadd : ∀ x y : Nat, ((⟨g, off, none⟩ : Addr).add x).add y = ⟨g, off + x + y, none⟩ := by
      intro x y
      unfold Addr.add
      by_cases hx : x = 0 <;> by_cases hy : y = 0 <;> simp [hx, hy]
    refine ⟨g, off, rfl, ?_, fun q hq j hj => ?_⟩
    · rw [hadd] at h00
      exact World.block_lt_of_cell? w _ h00
    · have := hes q hq j hj
      rw [hadd] at this
      exact this

/-- A law's last step: of what was there nothing has turned. -/
theorem post_below {f : Func} {s : ChangeSpec} {W W' : World} {args : Array Value} {v : Value} {ds : List (DataW H)} {before pa : List MemPlace}
    (hW : DataW.Whole enc P f.params.toList s.vars false W args.toList ds [] before)
    (hres : DataW.TrodAll enc P W' W.heap.size (fun _ => false) false f.resultTypes.toList (v.resultList f.resultTypes.size) (s.fn H (ds ++ [])).results [])
    (hargs : DataW.TrodAll enc P W' 0 (fun b => decide (b < W.heap.size)) true f.params.toList args.toList (s.fn H (ds ++ [])).args pa)
    (hvars : DataW.TrodVars enc P W' (fun b => decide (b < W.heap.size)) s.vars (s.fn H (ds ++ [])).vars [])
    (hps : before = pa) (hb : Below W.heap.size W W') :
    s.post enc P f false true false false W args v W' := by
  have hlt : ∀ p ∈ before, p.block < W.heap.size := fun p hp => hW.lt p hp
  refine ⟨ds, [], before, [], pa, [], hW, hres, hargs, hvars, World.keptBut_mono (fun p hp => ⟨hp, ?_⟩) (hb.frame (· ∈ before)), fun h => by cases h⟩
  rw [hps] at hp
  exact Or.inr (by simpa using hp)

theorem list2 {l : List Int} (h : l.length = 2) : ∃ a b, l = [a, b] := by
  match l, h with
  | [a, b], _ => exact ⟨a, b, rfl⟩
theorem list3 {l : List Int} (h : l.length = 3) : ∃ a b c, l = [a, b, c] := by
  match l, h with
  | [a, b, c], _ => exact ⟨a, b, c, rfl⟩
theorem list4 {l : List Int} (h : l.length = 4) : ∃ a b c d, l = [a, b, c, d] := by
  match l, h with
  | [a, b, c, d], _ => exact ⟨a, b, c, d, rfl⟩
theorem list5 {l : List Int} (h : l.length = 5) : ∃ a b c d e, l = [a, b, c, d, e] := by
  match l, h with
  | [a, b, c, d, e], _ => exact ⟨a, b, c, d, e, rfl⟩
theorem list7 {l : List Int} (h : l.length = 7) : ∃ a b c d e f g, l = [a, b, c, d, e, f, g] := by
  match l, h with
  | [a, b, c, d, e, f, g], _ => exact ⟨a, b, c, d, e, f, g, rfl⟩
end
end
section
open Go Go.RowKit Go.ChangeShapes Go.WideShapes
theorem own_knob : ownKnob Tryz.prog.godebug = none := by kernel_rfl
theorem laid_out : laidOutB Tryz.prog = true := by kernel_rfl
theorem bounds_i64 {n : Int} (h : (Lit.int .i64 n).wf = true) : -9223372036854775808 ≤ n ∧ n ≤ 9223372036854775807 := by
  simp [Lit.wf, IntKind.min, IntKind.max, IntKind.signed, IntKind.bits] at h
  omega
def cuMk (c : Nat → Int) : Cu := ⟨c 0, c 1⟩
def enMk (c : Nat → Int) : En := ⟨c 0, c 1, c 2, c 3, c 4⟩
def rpMk (c : Nat → Int) : Rp := ⟨c 0, c 1, c 2, c 3, c 4, c 5, c 6⟩
def ptMk (c : Nat → Int) : Pt := ⟨c 0, c 1, c 2⟩
theorem ptMk_cell (c : Nat → Int) (j : Nat) (hj : j < ptS.size) : ptS.cell (ptMk c) j = .int .i64 (c j) := by
  match j, hj with
  | 0, _ => rfl
  | 1, _ => rfl
  | 2, _ => rfl
theorem cuMk_cell (c : Nat → Int) (j : Nat) (hj : j < cuS.size) : cuS.cell (cuMk c) j = .int .i64 (c j) := by
  match j, hj with
  | 0, _ => rfl
  | 1, _ => rfl
theorem enMk_cell (c : Nat → Int) (j : Nat) (hj : j < enS.size) : enS.cell (enMk c) j = .int .i64 (c j) := by
  match j, hj with
  | 0, _ => rfl
  | 1, _ => rfl
  | 2, _ => rfl
  | 3, _ => rfl
  | 4, _ => rfl
theorem rpMk_cell (c : Nat → Int) (j : Nat) (hj : j < rpS.size) : rpS.cell (rpMk c) j = .int .i64 (c j) := by
  match j, hj with
  | 0, _ => rfl
  | 1, _ => rfl
  | 2, _ => rfl
  | 3, _ => rfl
  | 4, _ => rfl
  | 5, _ => rfl
  | 6, _ => rfl
theorem farC {w : World} {g o b j : Nat} {v : Value} (h : b ≠ g) : (w.setCell ⟨g, o, none⟩ v).cell? ⟨b, j, none⟩ = w.cell? ⟨b, j, none⟩ :=
  World.cell?_setCell_other _ _ _ _ (by intro e; injection e with e1; exact h e1.symm)

theorem new_cell {w : World} {G : Nat} {cs : Array Value} {T : TypeId} {j : Nat} {v : Value} (hG : w.heap.size = G) (hv : cs[j]? = some v) : (w.alloc (.cells cs T)).cell? ⟨G, j, none⟩ = some v := by
  subst hG
  rw [← hv]; exact (Blk.new w T cs).cell j
theorem new_frozen {w : World} {G : Nat} {cs : Array Value} {T : TypeId} {j : Nat} (hG : w.heap.size = G) : (w.alloc (.cells cs T)).frozen? ⟨G, j, none⟩ = false := by
  subst hG
  exact (Blk.new w T cs).frozen j

theorem bfar5 {w : World} {b g : Nat} {T : TypeId} {cs : Array Value} {v0 v1 v2 v3 v4 : Value} (h : Blk w b T cs) (hg : b ≠ g) :
    Blk (((((w.setCell ⟨g, 0, none⟩ v0).setCell ⟨g, 1, none⟩ v1).setCell ⟨g, 2, none⟩ v2).setCell ⟨g, 3, none⟩ v3).setCell ⟨g, 4, none⟩ v4) b T cs :=
  ((((h.far (p := ⟨g, 0, none⟩) hg _).far (p := ⟨g, 1, none⟩) hg _).far (p := ⟨g, 2, none⟩) hg _).far (p := ⟨g, 3, none⟩) hg _).far (p := ⟨g, 4, none⟩) hg _

theorem own_apart {u v : Value} (H : ∀ k, v.ownBlock = some k → u.ownBlock = some k → False) : v.ownBlock = none ∨ v.ownBlock ≠ u.ownBlock := by
  cases h : v.ownBlock with
  | none => exact .inl rfl
  | some k => exact .inr (fun e => H k h e.symm)
end
end Go.Proofs.YtibaldfjikbicaaGreat
