/- Own texts put together: Ranks of the found and of the Selmer groups, and the bounds: the walks of both sides. Conditions: those of each theorem. -/
import Derived.Test.YthdfpfhkmfmnbaaGreatRcM15
namespace Go.Proofs.YthdfpfhkmfmnbaaGreat
section
open Go Go.RowKit Go.Lib

theorem gpI_cls : ∀ {l Y Z : List Int}, (∀ y ∈ Y, clB y = true) → gpI l Y = some Z → ∀ z ∈ Z, clB z = true
  | [], Y, Z, hY, h => by
    obtain rfl := Option.some.inj h
    exact hY
  | d :: l, Y, Z, hY, h => by
    unfold gpI at h
    split at h
    · exact gpI_cls hY h
    · split at h
      · rename_i h2
        split at h
        · cases h
        · refine gpI_cls (fun y hy => ?_) h
          rcases List.mem_append.1 hy with hy | hy
          · exact hY y hy
          · exact pd_cl (fun e he => List.all_eq_true.1 h2 e he) y hy
      · cases h
theorem gp_gr {l X : List Int} (hl : ∀ d ∈ l, Sqf d) (h : gpV l = some X) : grB X = true := by
  have hg := gp_good hl h
  rw [gp_both hl, Option.map_eq_some_iff] at h
  obtain ⟨Z, hZ, rfl⟩ := h
  obtain ⟨g1, -, -⟩ := (gp_eq (X := [1]) hl (List.pairwise_singleton _ _) GG.start (fun _ => Iff.rfl)).2 Z hZ
  refine gr_iff.2 ⟨⟨?_, hg.len⟩, hg.one, fun d hd => ?_, hg.inc, fun d hd e he => ?_⟩
  · exact List.length_pos_of_mem hg.one
  · exact gpI_cls (fun y hy => by rw [List.mem_singleton.1 hy]; exact cl_one) hZ d (mem_srI.1 hd)
  · exact mem_srI.2 (g1.cl d (mem_srI.1 hd) e (mem_srI.1 he))
theorem fg_gr {a b : Int} {s : Bool} {M : Nat} (h : twB a b = true) (hok : (fgV a b s M).2 = true) : grB (fgV a b s M).1 = true := by
  unfold fgV at *
  cases hg : gpV (fgL a b s M) with
  | none => rw [hg] at hok; exact Bool.noConfusion hok
  | some X => exact gp_gr (fun d hd => fg_sqf h hd) hg
theorem fg_rk {a b : Int} {s : Bool} {M : Nat} (h : twB a b = true) (hok : (fgV a b s M).2 = true) : rkV (fgV a b s M).1 = (((lgV (fgV a b s M).1.length : Nat) : Int), true) := rk_yes (fg_gr h hok)
theorem fg_64 {a b : Int} {s : Bool} {M : Nat} (h : twB a b = true) : (fgV a b s M).1.length ≤ 64 := by
  cases hok : (fgV a b s M).2
  · unfold fgV at *
    cases hg : gpV (fgL a b s M) with
    | none => exact Nat.zero_le _
    | some X => rw [hg] at hok; exact Bool.noConfusion hok
  · exact (gr_iff.1 (fg_gr h hok)).len.2
theorem sm_len {a b : Int} {s : Bool} (h : twB a b = true) : (smV a b s).1.length ≤ 2000000 := by
  have h1 := dv_len (sd_bd h s).2.2 (by have := (sd_bd h s).2.1; omega)
  unfold smV
  split
  · exact Nat.le_trans (List.length_filter_le _ _) h1
  · exact Nat.zero_le _
def lgI (V : List Int × Bool) : Int := ((lgV V.1.length : Nat) : Int)
/-- The ranks of the found groups. -/
def frV (a b : Int) (M : Nat) : Int × Int × Bool := if (fgV a b false M).2 = true ∧ (fgV a b true M).2 = true then (lgI (fgV a b false M), lgI (fgV a b true M), true) else (0, 0, false)
/-- The ranks of the Selmer groups. -/
def srV (a b : Int) : Int × Int × Bool := if ((smV a b false).2 = true ∧ (smV a b true).2 = true) ∧ ((rkV (smV a b false).1).2 = true ∧ (rkV (smV a b true).1).2 = true) then ((rkV (smV a b false).1).1, (rkV (smV a b true).1).1, true) else (0, 0, false)
theorem lgI_bd {a b : Int} {s : Bool} {M : Nat} (h : twB a b = true) : 0 ≤ lgI (fgV a b s M) ∧ lgI (fgV a b s M) ≤ 6 := by
  have := lg_64 (fg_64 (s := s) (M := M) h)
  unfold lgI
  omega
theorem rk_bd (l : List Int) : 0 ≤ (rkV l).1 ∧ (rkV l).1 ≤ 6 := by
  cases hg : grB l
  · rw [rk_no hg]; exact ⟨Int.le_refl _, by show (0 : Int) ≤ 6; omega⟩
  · rw [rk_yes hg]
    have := lg_64 (gr_iff.1 hg).len.2
    show (0 : Int) ≤ ((lgV l.length : Nat) : Int) ∧ ((lgV l.length : Nat) : Int) ≤ 6
    omega
theorem fr_bd {a b : Int} {M : Nat} (h : twB a b = true) : (0 ≤ (frV a b M).1 ∧ (frV a b M).1 ≤ 6) ∧ (0 ≤ (frV a b M).2.1 ∧ (frV a b M).2.1 ≤ 6) := by
  unfold frV
  split
  · exact ⟨lgI_bd h, lgI_bd h⟩
  · exact ⟨⟨Int.le_refl _, by show (0 : Int) ≤ 6; omega⟩, ⟨Int.le_refl _, by show (0 : Int) ≤ 6; omega⟩⟩
theorem sr_bd {a b : Int} : (0 ≤ (srV a b).1 ∧ (srV a b).1 ≤ 6) ∧ (0 ≤ (srV a b).2.1 ∧ (srV a b).2.1 ≤ 6) := by
  unfold srV
  split
  · exact ⟨rk_bd _, rk_bd _⟩
  · exact ⟨⟨Int.le_refl _, by show (0 : Int) ≤ 6; omega⟩, ⟨Int.le_refl _, by show (0 : Int) ≤ 6; omega⟩⟩

set_option linter.unusedSimpArgs false in
set_option linter.unusedVariables false in
set_option maxRecDepth 8000 in
set_option maxHeartbeats 8000000 in
theorem rkFound_any (a b : Int) (M : Nat) (w : World) (h : twB a b = true) (hM : M ≤ 60) :
    Calls Tryz.prog 42 #[.agg #[.int .i64 a, .int .i64 b], .int .i64 (M : Int)] w fun e w' => e = .returned (.tuple #[.int .i64 (frV a b M).1, .int .i64 (frV a b M).2.1, .bool (frV a b M).2.2]) ∧ Below w.heap.size w w' := by
  have Hg0 := Lib.hid (fun w9 => rkGroup_any a b false M w9 h hM)
  have Hl0 := Lib.hid (fg_64 (s := false) (M := M) h)
  have Hk0 := Lib.hid (fun hk => fg_rk (s := false) (M := M) h hk)
  have Hg1 := Lib.hid (fun w9 => rkGroup_any a b true M w9 h hM)
  have Hl1 := Lib.hid (fg_64 (s := true) (M := M) h)
  have Hk1 := Lib.hid (fun hk => fg_rk (s := true) (M := M) h hk)
  have HY := Lib.hid (fun (h1 : (fgV a b false M).2 = true) (h2 : (fgV a b true M).2 = true) => show frV a b M = (lgI (fgV a b false M), lgI (fgV a b true M), true) from if_pos ⟨h1, h2⟩)
  have HN := Lib.hid (fun (hx : ¬ ((fgV a b false M).2 = true ∧ (fgV a b true M).2 = true)) => show frV a b M = (0, 0, false) from if_neg hx)
  unfold lgI at HY
  clear h
  generalize frV a b M = V at *
  generalize fgV a b false M = U0 at *
  generalize fgV a b true M = U1 at *
  obtain ⟨X0, k0⟩ := U0
  obtain ⟨X1, k1⟩ := U1
  dsimp only at *
  have Hr0 := Lib.hid (fun A c w9 h9 => rankS_any A c X0 w9 h9 (by have := Hl0.out; omega))
  have Hr1 := Lib.hid (fun A c w9 h9 => rankS_any A c X1 w9 h9 (by have := Hl1.out; omega))
  cases k0
  · have HV := Lib.hid (HN.out (by simp))
    go_enter Tryz.func42, Tryz.ntmps42
    go_wp2_with fail
    refine (Hg0.out _).mono ?_; rintro e w1 ⟨⟨A1, c1, rfl, hr1⟩, hb1⟩
    have S1 := Lib.hid (show w.heap.size + 1 ≤ w1.heap.size by have h9 := hb1.size; (try simp only [World.size_alloc, World.size_setCell, World.size_drew] at h9); omega)
    have NTB := Lib.hid ((Blk.new w 24 #[.int .i64 a, .int .i64 b]).on hb1)
    have TB := NTB; clear NTB
    have Hb1 := Lib.hid (bthen (bal (Below.refl w.heap.size w) (Obj.cells #[.int .i64 a, .int .i64 b] 24)) hb1)
    clear hb1
    have HR1 := Lib.hid hr1; clear hr1
    have qTB0 : w1.cell? ⟨w.heap.size, 0, none⟩ = some (.int .i64 a) := TB.out.cell 0
    have qTB1 : w1.cell? ⟨w.heap.size, 1, none⟩ = some (.int .i64 b) := TB.out.cell 1
    have qTBl := TB.out.lt
    go_wp2_with fail
    clear qTB0 qTB1 qTBl
    refine (Hg1.out _).mono ?_; rintro e w2 ⟨⟨A2, c2, rfl, hr2⟩, hb2⟩
    have S2 := Lib.hid (show w1.heap.size + 0 ≤ w2.heap.size by have h9 := hb2.size; (try simp only [World.size_alloc, World.size_setCell, World.size_drew] at h9); omega)
    have Z2 := Lib.hid (And.intro S1.out S2.out)
    have NTB := Lib.hid (TB.out.on hb2)
    have TB := NTB; clear NTB
    replace HR1 := Lib.hid (HR1.out.on (bthen ((Below.refl _ _)) hb2))
    have Hb2 := Lib.hid (bthen Hb1.out hb2)
    clear hb2
    have HR2 := Lib.hid hr2; clear hr2
    go_wp2
    exact bodyPost_ret (v := .tuple #[.int .i64 0, .int .i64 0, .bool false]) (by simp [results, Tryz.results42, go_sem]) rfl ⟨by rw [HV.out], Hb2.out⟩
  cases k1
  · have HV := Lib.hid (HN.out (by simp))
    go_enter Tryz.func42, Tryz.ntmps42
    go_wp2_with fail
    refine (Hg0.out _).mono ?_; rintro e w3 ⟨⟨A1, c1, rfl, hr1⟩, hb3⟩
    have S3 := Lib.hid (show w.heap.size + 1 ≤ w3.heap.size by have h9 := hb3.size; (try simp only [World.size_alloc, World.size_setCell, World.size_drew] at h9); omega)
    have NTB := Lib.hid ((Blk.new w 24 #[.int .i64 a, .int .i64 b]).on hb3)
    have TB := NTB; clear NTB
    have Hb3 := Lib.hid (bthen (bal (Below.refl w.heap.size w) (Obj.cells #[.int .i64 a, .int .i64 b] 24)) hb3)
    clear hb3
    have HR1 := Lib.hid hr1; clear hr1
    have qTB0 : w3.cell? ⟨w.heap.size, 0, none⟩ = some (.int .i64 a) := TB.out.cell 0
    have qTB1 : w3.cell? ⟨w.heap.size, 1, none⟩ = some (.int .i64 b) := TB.out.cell 1
    have qTBl := TB.out.lt
    go_wp2_with fail
    clear qTB0 qTB1 qTBl
    refine (Hg1.out _).mono ?_; rintro e w4 ⟨⟨A2, c2, rfl, hr2⟩, hb4⟩
    have S4 := Lib.hid (show w3.heap.size + 0 ≤ w4.heap.size by have h9 := hb4.size; (try simp only [World.size_alloc, World.size_setCell, World.size_drew] at h9); omega)
    have Z4 := Lib.hid (And.intro S3.out S4.out)
    have NTB := Lib.hid (TB.out.on hb4)
    have TB := NTB; clear NTB
    replace HR1 := Lib.hid (HR1.out.on (bthen ((Below.refl _ _)) hb4))
    have Hb4 := Lib.hid (bthen Hb3.out hb4)
    clear hb4
    have HR2 := Lib.hid hr2; clear hr2
    go_wp2
    exact bodyPost_ret (v := .tuple #[.int .i64 0, .int .i64 0, .bool false]) (by simp [results, Tryz.results42, go_sem]) rfl ⟨by rw [HV.out], Hb4.out⟩
  rw [Hk0.out rfl] at Hr0
  rw [Hk1.out rfl] at Hr1
  have HV := Lib.hid (HY.out rfl rfl)
  generalize ((lgV X0.length : Nat) : Int) = n0 at *
  generalize ((lgV X1.length : Nat) : Int) = n1 at *
  dsimp only at *
  go_enter Tryz.func42, Tryz.ntmps42
  go_wp2_with fail
  refine (Hg0.out _).mono ?_; rintro e w5 ⟨⟨A1, c1, rfl, hr1⟩, hb5⟩
  have S5 := Lib.hid (show w.heap.size + 1 ≤ w5.heap.size by have h9 := hb5.size; (try simp only [World.size_alloc, World.size_setCell, World.size_drew] at h9); omega)
  have NTB := Lib.hid ((Blk.new w 24 #[.int .i64 a, .int .i64 b]).on hb5)
  have TB := NTB; clear NTB
  have Hb5 := Lib.hid (bthen (bal (Below.refl w.heap.size w) (Obj.cells #[.int .i64 a, .int .i64 b] 24)) hb5)
  clear hb5
  have HR1 := Lib.hid hr1; clear hr1
  have qTB0 : w5.cell? ⟨w.heap.size, 0, none⟩ = some (.int .i64 a) := TB.out.cell 0
  have qTB1 : w5.cell? ⟨w.heap.size, 1, none⟩ = some (.int .i64 b) := TB.out.cell 1
  have qTBl := TB.out.lt
  go_wp2_with fail
  clear qTB0 qTB1 qTBl
  refine (Hg1.out _).mono ?_; rintro e w6 ⟨⟨A2, c2, rfl, hr2⟩, hb6⟩
  have S6 := Lib.hid (show w5.heap.size + 0 ≤ w6.heap.size by have h9 := hb6.size; (try simp only [World.size_alloc, World.size_setCell, World.size_drew] at h9); omega)
  have Z6 := Lib.hid (And.intro S5.out S6.out)
  have NTB := Lib.hid (TB.out.on hb6)
  have TB := NTB; clear NTB
  replace HR1 := Lib.hid (HR1.out.on (bthen ((Below.refl _ _)) hb6))
  have Hb6 := Lib.hid (bthen Hb5.out hb6)
  clear hb6
  have HR2 := Lib.hid hr2; clear hr2
  have qTB0 : w6.cell? ⟨w.heap.size, 0, none⟩ = some (.int .i64 a) := TB.out.cell 0
  have qTB1 : w6.cell? ⟨w.heap.size, 1, none⟩ = some (.int .i64 b) := TB.out.cell 1
  have qTBl := TB.out.lt
  go_wp2_with fail
  clear qTB0 qTB1 qTBl
  refine (Hr0.out _ _ _ HR1.out).mono ?_; rintro e w7 ⟨rfl, hb7⟩
  have S7 := Lib.hid (show w6.heap.size + 0 ≤ w7.heap.size by have h9 := hb7.size; (try simp only [World.size_alloc, World.size_setCell, World.size_drew] at h9); omega)
  have Z7 := Lib.hid (And.intro Z6.out S7.out)
  have NTB := Lib.hid (TB.out.on hb7)
  have TB := NTB; clear NTB
  replace HR1 := Lib.hid (HR1.out.on (bthen ((Below.refl _ _)) hb7))
  replace HR2 := Lib.hid (HR2.out.on (bthen ((Below.refl _ _)) hb7))
  have Hb7 := Lib.hid (bthen Hb6.out hb7)
  clear hb7
  have qTB0 : w7.cell? ⟨w.heap.size, 0, none⟩ = some (.int .i64 a) := TB.out.cell 0
  have qTB1 : w7.cell? ⟨w.heap.size, 1, none⟩ = some (.int .i64 b) := TB.out.cell 1
  have qTBl := TB.out.lt
  go_wp2_with fail
  clear qTB0 qTB1 qTBl
  refine (Hr1.out _ _ _ HR2.out).mono ?_; rintro e w8 ⟨rfl, hb8⟩
  have S8 := Lib.hid (show w7.heap.size + 0 ≤ w8.heap.size by have h9 := hb8.size; (try simp only [World.size_alloc, World.size_setCell, World.size_drew] at h9); omega)
  have Z8 := Lib.hid (And.intro Z7.out S8.out)
  have NTB := Lib.hid (TB.out.on hb8)
  have TB := NTB; clear NTB
  replace HR1 := Lib.hid (HR1.out.on (bthen ((Below.refl _ _)) hb8))
  replace HR2 := Lib.hid (HR2.out.on (bthen ((Below.refl _ _)) hb8))
  have Hb8 := Lib.hid (bthen Hb7.out hb8)
  clear hb8
  go_wp2
  exact bodyPost_ret (v := .tuple #[.int .i64 n0, .int .i64 n1, .bool true]) (by simp [results, Tryz.results42, go_sem]) rfl ⟨by rw [HV.out], Hb8.out⟩
set_option linter.unusedSimpArgs false in
set_option linter.unusedVariables false in
set_option maxRecDepth 8000 in
set_option maxHeartbeats 8000000 in
theorem foundRanks_any (a b : Int) (M : Nat) (w : World) (h : twB a b = true) (hM : M ≤ 60) :
    Calls Tryz.prog 44 #[.agg #[.int .i64 a, .int .i64 b], .int .i64 (M : Int)] w fun e w' => e = .returned (.tuple #[.int .i64 (frV a b M).1, .int .i64 (frV a b M).2.1, .bool (frV a b M).2.2]) ∧ Below w.heap.size w w' := by
  have Hg0 := Lib.hid (fun w9 => foundGroup_any a b false M w9 h hM)
  have Hl0 := Lib.hid (fg_64 (s := false) (M := M) h)
  have Hk0 := Lib.hid (fun hk => fg_rk (s := false) (M := M) h hk)
  have Hg1 := Lib.hid (fun w9 => foundGroup_any a b true M w9 h hM)
  have Hl1 := Lib.hid (fg_64 (s := true) (M := M) h)
  have Hk1 := Lib.hid (fun hk => fg_rk (s := true) (M := M) h hk)
  have HY := Lib.hid (fun (h1 : (fgV a b false M).2 = true) (h2 : (fgV a b true M).2 = true) => show frV a b M = (lgI (fgV a b false M), lgI (fgV a b true M), true) from if_pos ⟨h1, h2⟩)
  have HN := Lib.hid (fun (hx : ¬ ((fgV a b false M).2 = true ∧ (fgV a b true M).2 = true)) => show frV a b M = (0, 0, false) from if_neg hx)
  unfold lgI at HY
  clear h
  generalize frV a b M = V at *
  generalize fgV a b false M = U0 at *
  generalize fgV a b true M = U1 at *
  obtain ⟨X0, k0⟩ := U0
  obtain ⟨X1, k1⟩ := U1
  dsimp only at *
  have Hr0 := Lib.hid (fun A c w9 h9 => rankI_any A c X0 w9 h9 (by have := Hl0.out; omega))
  have Hr1 := Lib.hid (fun A c w9 h9 => rankI_any A c X1 w9 h9 (by have := Hl1.out; omega))
  cases k0
  · have HV := Lib.hid (HN.out (by simp))
    go_enter Tryz.func44, Tryz.ntmps44
    go_wp2_with fail
    refine (Hg0.out _).mono ?_; rintro e w1 ⟨⟨A1, c1, rfl, hr1⟩, hb1⟩
    have S1 := Lib.hid (show w.heap.size + 1 ≤ w1.heap.size by have h9 := hb1.size; (try simp only [World.size_alloc, World.size_setCell, World.size_drew] at h9); omega)
    have NTB := Lib.hid ((Blk.new w 24 #[.int .i64 a, .int .i64 b]).on hb1)
    have TB := NTB; clear NTB
    have Hb1 := Lib.hid (bthen (bal (Below.refl w.heap.size w) (Obj.cells #[.int .i64 a, .int .i64 b] 24)) hb1)
    clear hb1
    have HR1 := Lib.hid hr1; clear hr1
    have qTB0 : w1.cell? ⟨w.heap.size, 0, none⟩ = some (.int .i64 a) := TB.out.cell 0
    have qTB1 : w1.cell? ⟨w.heap.size, 1, none⟩ = some (.int .i64 b) := TB.out.cell 1
    have qTBl := TB.out.lt
    go_wp2_with fail
    clear qTB0 qTB1 qTBl
    refine (Hg1.out _).mono ?_; rintro e w2 ⟨⟨A2, c2, rfl, hr2⟩, hb2⟩
    have S2 := Lib.hid (show w1.heap.size + 0 ≤ w2.heap.size by have h9 := hb2.size; (try simp only [World.size_alloc, World.size_setCell, World.size_drew] at h9); omega)
    have Z2 := Lib.hid (And.intro S1.out S2.out)
    have NTB := Lib.hid (TB.out.on hb2)
    have TB := NTB; clear NTB
    replace HR1 := Lib.hid (HR1.out.on (bthen ((Below.refl _ _)) hb2))
    have Hb2 := Lib.hid (bthen Hb1.out hb2)
    clear hb2
    have HR2 := Lib.hid hr2; clear hr2
    go_wp2
    exact bodyPost_ret (v := .tuple #[.int .i64 0, .int .i64 0, .bool false]) (by simp [results, Tryz.results44, go_sem]) rfl ⟨by rw [HV.out], Hb2.out⟩
  cases k1
  · have HV := Lib.hid (HN.out (by simp))
    go_enter Tryz.func44, Tryz.ntmps44
    go_wp2_with fail
    refine (Hg0.out _).mono ?_; rintro e w3 ⟨⟨A1, c1, rfl, hr1⟩, hb3⟩
    have S3 := Lib.hid (show w.heap.size + 1 ≤ w3.heap.size by have h9 := hb3.size; (try simp only [World.size_alloc, World.size_setCell, World.size_drew] at h9); omega)
    have NTB := Lib.hid ((Blk.new w 24 #[.int .i64 a, .int .i64 b]).on hb3)
    have TB := NTB; clear NTB
    have Hb3 := Lib.hid (bthen (bal (Below.refl w.heap.size w) (Obj.cells #[.int .i64 a, .int .i64 b] 24)) hb3)
    clear hb3
    have HR1 := Lib.hid hr1; clear hr1
    have qTB0 : w3.cell? ⟨w.heap.size, 0, none⟩ = some (.int .i64 a) := TB.out.cell 0
    have qTB1 : w3.cell? ⟨w.heap.size, 1, none⟩ = some (.int .i64 b) := TB.out.cell 1
    have qTBl := TB.out.lt
    go_wp2_with fail
    clear qTB0 qTB1 qTBl
    refine (Hg1.out _).mono ?_; rintro e w4 ⟨⟨A2, c2, rfl, hr2⟩, hb4⟩
    have S4 := Lib.hid (show w3.heap.size + 0 ≤ w4.heap.size by have h9 := hb4.size; (try simp only [World.size_alloc, World.size_setCell, World.size_drew] at h9); omega)
    have Z4 := Lib.hid (And.intro S3.out S4.out)
    have NTB := Lib.hid (TB.out.on hb4)
    have TB := NTB; clear NTB
    replace HR1 := Lib.hid (HR1.out.on (bthen ((Below.refl _ _)) hb4))
    have Hb4 := Lib.hid (bthen Hb3.out hb4)
    clear hb4
    have HR2 := Lib.hid hr2; clear hr2
    go_wp2
    exact bodyPost_ret (v := .tuple #[.int .i64 0, .int .i64 0, .bool false]) (by simp [results, Tryz.results44, go_sem]) rfl ⟨by rw [HV.out], Hb4.out⟩
  rw [Hk0.out rfl] at Hr0
  rw [Hk1.out rfl] at Hr1
  have HV := Lib.hid (HY.out rfl rfl)
  generalize ((lgV X0.length : Nat) : Int) = n0 at *
  generalize ((lgV X1.length : Nat) : Int) = n1 at *
  dsimp only at *
  go_enter Tryz.func44, Tryz.ntmps44
  go_wp2_with fail
  refine (Hg0.out _).mono ?_; rintro e w5 ⟨⟨A1, c1, rfl, hr1⟩, hb5⟩
  have S5 := Lib.hid (show w.heap.size + 1 ≤ w5.heap.size by have h9 := hb5.size; (try simp only [World.size_alloc, World.size_setCell, World.size_drew] at h9); omega)
  have NTB := Lib.hid ((Blk.new w 24 #[.int .i64 a, .int .i64 b]).on hb5)
  have TB := NTB; clear NTB
  have Hb5 := Lib.hid (bthen (bal (Below.refl w.heap.size w) (Obj.cells #[.int .i64 a, .int .i64 b] 24)) hb5)
  clear hb5
  have HR1 := Lib.hid hr1; clear hr1
  have qTB0 : w5.cell? ⟨w.heap.size, 0, none⟩ = some (.int .i64 a) := TB.out.cell 0
  have qTB1 : w5.cell? ⟨w.heap.size, 1, none⟩ = some (.int .i64 b) := TB.out.cell 1
  have qTBl := TB.out.lt
  go_wp2_with fail
  clear qTB0 qTB1 qTBl
  refine (Hg1.out _).mono ?_; rintro e w6 ⟨⟨A2, c2, rfl, hr2⟩, hb6⟩
  have S6 := Lib.hid (show w5.heap.size + 0 ≤ w6.heap.size by have h9 := hb6.size; (try simp only [World.size_alloc, World.size_setCell, World.size_drew] at h9); omega)
  have Z6 := Lib.hid (And.intro S5.out S6.out)
  have NTB := Lib.hid (TB.out.on hb6)
  have TB := NTB; clear NTB
  replace HR1 := Lib.hid (HR1.out.on (bthen ((Below.refl _ _)) hb6))
  have Hb6 := Lib.hid (bthen Hb5.out hb6)
  clear hb6
  have HR2 := Lib.hid hr2; clear hr2
  have qTB0 : w6.cell? ⟨w.heap.size, 0, none⟩ = some (.int .i64 a) := TB.out.cell 0
  have qTB1 : w6.cell? ⟨w.heap.size, 1, none⟩ = some (.int .i64 b) := TB.out.cell 1
  have qTBl := TB.out.lt
  go_wp2_with fail
  clear qTB0 qTB1 qTBl
  refine (Hr0.out _ _ _ HR1.out).mono ?_; rintro e w7 ⟨rfl, hb7⟩
  have S7 := Lib.hid (show w6.heap.size + 0 ≤ w7.heap.size by have h9 := hb7.size; (try simp only [World.size_alloc, World.size_setCell, World.size_drew] at h9); omega)
  have Z7 := Lib.hid (And.intro Z6.out S7.out)
  have NTB := Lib.hid (TB.out.on hb7)
  have TB := NTB; clear NTB
  replace HR1 := Lib.hid (HR1.out.on (bthen ((Below.refl _ _)) hb7))
  replace HR2 := Lib.hid (HR2.out.on (bthen ((Below.refl _ _)) hb7))
  have Hb7 := Lib.hid (bthen Hb6.out hb7)
  clear hb7
  have qTB0 : w7.cell? ⟨w.heap.size, 0, none⟩ = some (.int .i64 a) := TB.out.cell 0
  have qTB1 : w7.cell? ⟨w.heap.size, 1, none⟩ = some (.int .i64 b) := TB.out.cell 1
  have qTBl := TB.out.lt
  go_wp2_with fail
  clear qTB0 qTB1 qTBl
  refine (Hr1.out _ _ _ HR2.out).mono ?_; rintro e w8 ⟨rfl, hb8⟩
  have S8 := Lib.hid (show w7.heap.size + 0 ≤ w8.heap.size by have h9 := hb8.size; (try simp only [World.size_alloc, World.size_setCell, World.size_drew] at h9); omega)
  have Z8 := Lib.hid (And.intro Z7.out S8.out)
  have NTB := Lib.hid (TB.out.on hb8)
  have TB := NTB; clear NTB
  replace HR1 := Lib.hid (HR1.out.on (bthen ((Below.refl _ _)) hb8))
  replace HR2 := Lib.hid (HR2.out.on (bthen ((Below.refl _ _)) hb8))
  have Hb8 := Lib.hid (bthen Hb7.out hb8)
  clear hb8
  go_wp2
  exact bodyPost_ret (v := .tuple #[.int .i64 n0, .int .i64 n1, .bool true]) (by simp [results, Tryz.results44, go_sem]) rfl ⟨by rw [HV.out], Hb8.out⟩
set_option linter.unusedSimpArgs false in
set_option linter.unusedVariables false in
set_option maxRecDepth 8000 in
set_option maxHeartbeats 8000000 in
theorem rkSelmer_any (a b : Int) (w : World) (h : twB a b = true) :
    Calls Tryz.prog 67 #[.agg #[.int .i64 a, .int .i64 b]] w fun e w' => e = .returned (.tuple #[.int .i64 (srV a b).1, .int .i64 (srV a b).2.1, .bool (srV a b).2.2]) ∧ Below w.heap.size w w' := by
  have Hg0 := Lib.hid (fun w9 => dsSelmer_any a b false w9 h)
  have Hl0 := Lib.hid (sm_len (s := false) h)
  have Hg1 := Lib.hid (fun w9 => dsSelmer_any a b true w9 h)
  have Hl1 := Lib.hid (sm_len (s := true) h)
  have HY := Lib.hid (fun (h1 : (smV a b false).2 = true) (h2 : (smV a b true).2 = true) (h3 : (rkV (smV a b false).1).2 = true) (h4 : (rkV (smV a b true).1).2 = true) => show srV a b = ((rkV (smV a b false).1).1, (rkV (smV a b true).1).1, true) from if_pos ⟨⟨h1, h2⟩, h3, h4⟩)
  have HN := Lib.hid (fun (hx : ¬ (((smV a b false).2 = true ∧ (smV a b true).2 = true) ∧ ((rkV (smV a b false).1).2 = true ∧ (rkV (smV a b true).1).2 = true))) => show srV a b = (0, 0, false) from if_neg hx)
  clear h
  generalize srV a b = V at *
  generalize smV a b false = U0 at *
  generalize smV a b true = U1 at *
  obtain ⟨X0, k0⟩ := U0
  obtain ⟨X1, k1⟩ := U1
  dsimp only at *
  have Hr0 := Lib.hid (fun A c w9 h9 => rankS_any A c X0 w9 h9 (by have := Hl0.out; omega))
  have Hr1 := Lib.hid (fun A c w9 h9 => rankS_any A c X1 w9 h9 (by have := Hl1.out; omega))
  cases k0
  · have HV := Lib.hid (HN.out (by simp))
    go_enter Tryz.func67, Tryz.ntmps67
    go_wp2_with fail
    refine (Hg0.out _).mono ?_; rintro e w1 ⟨⟨A1, c1, rfl, hr1⟩, hb1⟩
    have S1 := Lib.hid (show w.heap.size + 1 ≤ w1.heap.size by have h9 := hb1.size; (try simp only [World.size_alloc, World.size_setCell, World.size_drew] at h9); omega)
    have NTB := Lib.hid ((Blk.new w 24 #[.int .i64 a, .int .i64 b]).on hb1)
    have TB := NTB; clear NTB
    have Hb1 := Lib.hid (bthen (bal (Below.refl w.heap.size w) (Obj.cells #[.int .i64 a, .int .i64 b] 24)) hb1)
    clear hb1
    have HR1 := Lib.hid hr1; clear hr1
    have qTB0 : w1.cell? ⟨w.heap.size, 0, none⟩ = some (.int .i64 a) := TB.out.cell 0
    have qTB1 : w1.cell? ⟨w.heap.size, 1, none⟩ = some (.int .i64 b) := TB.out.cell 1
    have qTBl := TB.out.lt
    go_wp2_with fail
    clear qTB0 qTB1 qTBl
    refine (Hg1.out _).mono ?_; rintro e w2 ⟨⟨A2, c2, rfl, hr2⟩, hb2⟩
    have S2 := Lib.hid (show w1.heap.size + 0 ≤ w2.heap.size by have h9 := hb2.size; (try simp only [World.size_alloc, World.size_setCell, World.size_drew] at h9); omega)
    have Z2 := Lib.hid (And.intro S1.out S2.out)
    have NTB := Lib.hid (TB.out.on hb2)
    have TB := NTB; clear NTB
    replace HR1 := Lib.hid (HR1.out.on (bthen ((Below.refl _ _)) hb2))
    have Hb2 := Lib.hid (bthen Hb1.out hb2)
    clear hb2
    have HR2 := Lib.hid hr2; clear hr2
    go_wp2
    exact bodyPost_ret (v := .tuple #[.int .i64 0, .int .i64 0, .bool false]) (by simp [results, Tryz.results67, go_sem]) rfl ⟨by rw [HV.out], Hb2.out⟩
  cases k1
  · have HV := Lib.hid (HN.out (by simp))
    go_enter Tryz.func67, Tryz.ntmps67
    go_wp2_with fail
    refine (Hg0.out _).mono ?_; rintro e w3 ⟨⟨A1, c1, rfl, hr1⟩, hb3⟩
    have S3 := Lib.hid (show w.heap.size + 1 ≤ w3.heap.size by have h9 := hb3.size; (try simp only [World.size_alloc, World.size_setCell, World.size_drew] at h9); omega)
    have NTB := Lib.hid ((Blk.new w 24 #[.int .i64 a, .int .i64 b]).on hb3)
    have TB := NTB; clear NTB
    have Hb3 := Lib.hid (bthen (bal (Below.refl w.heap.size w) (Obj.cells #[.int .i64 a, .int .i64 b] 24)) hb3)
    clear hb3
    have HR1 := Lib.hid hr1; clear hr1
    have qTB0 : w3.cell? ⟨w.heap.size, 0, none⟩ = some (.int .i64 a) := TB.out.cell 0
    have qTB1 : w3.cell? ⟨w.heap.size, 1, none⟩ = some (.int .i64 b) := TB.out.cell 1
    have qTBl := TB.out.lt
    go_wp2_with fail
    clear qTB0 qTB1 qTBl
    refine (Hg1.out _).mono ?_; rintro e w4 ⟨⟨A2, c2, rfl, hr2⟩, hb4⟩
    have S4 := Lib.hid (show w3.heap.size + 0 ≤ w4.heap.size by have h9 := hb4.size; (try simp only [World.size_alloc, World.size_setCell, World.size_drew] at h9); omega)
    have Z4 := Lib.hid (And.intro S3.out S4.out)
    have NTB := Lib.hid (TB.out.on hb4)
    have TB := NTB; clear NTB
    replace HR1 := Lib.hid (HR1.out.on (bthen ((Below.refl _ _)) hb4))
    have Hb4 := Lib.hid (bthen Hb3.out hb4)
    clear hb4
    have HR2 := Lib.hid hr2; clear hr2
    go_wp2
    exact bodyPost_ret (v := .tuple #[.int .i64 0, .int .i64 0, .bool false]) (by simp [results, Tryz.results67, go_sem]) rfl ⟨by rw [HV.out], Hb4.out⟩
  generalize rkV X0 = K0 at *
  generalize rkV X1 = K1 at *
  obtain ⟨n0, k0⟩ := K0
  obtain ⟨n1, k1⟩ := K1
  dsimp only at *
  cases k0
  · have HV := Lib.hid (HN.out (by simp))
    go_enter Tryz.func67, Tryz.ntmps67
    go_wp2_with fail
    refine (Hg0.out _).mono ?_; rintro e w5 ⟨⟨A1, c1, rfl, hr1⟩, hb5⟩
    have S5 := Lib.hid (show w.heap.size + 1 ≤ w5.heap.size by have h9 := hb5.size; (try simp only [World.size_alloc, World.size_setCell, World.size_drew] at h9); omega)
    have NTB := Lib.hid ((Blk.new w 24 #[.int .i64 a, .int .i64 b]).on hb5)
    have TB := NTB; clear NTB
    have Hb5 := Lib.hid (bthen (bal (Below.refl w.heap.size w) (Obj.cells #[.int .i64 a, .int .i64 b] 24)) hb5)
    clear hb5
    have HR1 := Lib.hid hr1; clear hr1
    have qTB0 : w5.cell? ⟨w.heap.size, 0, none⟩ = some (.int .i64 a) := TB.out.cell 0
    have qTB1 : w5.cell? ⟨w.heap.size, 1, none⟩ = some (.int .i64 b) := TB.out.cell 1
    have qTBl := TB.out.lt
    go_wp2_with fail
    clear qTB0 qTB1 qTBl
    refine (Hg1.out _).mono ?_; rintro e w6 ⟨⟨A2, c2, rfl, hr2⟩, hb6⟩
    have S6 := Lib.hid (show w5.heap.size + 0 ≤ w6.heap.size by have h9 := hb6.size; (try simp only [World.size_alloc, World.size_setCell, World.size_drew] at h9); omega)
    have Z6 := Lib.hid (And.intro S5.out S6.out)
    have NTB := Lib.hid (TB.out.on hb6)
    have TB := NTB; clear NTB
    replace HR1 := Lib.hid (HR1.out.on (bthen ((Below.refl _ _)) hb6))
    have Hb6 := Lib.hid (bthen Hb5.out hb6)
    clear hb6
    have HR2 := Lib.hid hr2; clear hr2
    have qTB0 : w6.cell? ⟨w.heap.size, 0, none⟩ = some (.int .i64 a) := TB.out.cell 0
    have qTB1 : w6.cell? ⟨w.heap.size, 1, none⟩ = some (.int .i64 b) := TB.out.cell 1
    have qTBl := TB.out.lt
    go_wp2_with fail
    clear qTB0 qTB1 qTBl
    refine (Hr0.out _ _ _ HR1.out).mono ?_; rintro e w7 ⟨rfl, hb7⟩
    have S7 := Lib.hid (show w6.heap.size + 0 ≤ w7.heap.size by have h9 := hb7.size; (try simp only [World.size_alloc, World.size_setCell, World.size_drew] at h9); omega)
    have Z7 := Lib.hid (And.intro Z6.out S7.out)
    have NTB := Lib.hid (TB.out.on hb7)
    have TB := NTB; clear NTB
    replace HR1 := Lib.hid (HR1.out.on (bthen ((Below.refl _ _)) hb7))
    replace HR2 := Lib.hid (HR2.out.on (bthen ((Below.refl _ _)) hb7))
    have Hb7 := Lib.hid (bthen Hb6.out hb7)
    clear hb7
    have qTB0 : w7.cell? ⟨w.heap.size, 0, none⟩ = some (.int .i64 a) := TB.out.cell 0
    have qTB1 : w7.cell? ⟨w.heap.size, 1, none⟩ = some (.int .i64 b) := TB.out.cell 1
    have qTBl := TB.out.lt
    go_wp2_with fail
    clear qTB0 qTB1 qTBl
    refine (Hr1.out _ _ _ HR2.out).mono ?_; rintro e w8 ⟨rfl, hb8⟩
    have S8 := Lib.hid (show w7.heap.size + 0 ≤ w8.heap.size by have h9 := hb8.size; (try simp only [World.size_alloc, World.size_setCell, World.size_drew] at h9); omega)
    have Z8 := Lib.hid (And.intro Z7.out S8.out)
    have NTB := Lib.hid (TB.out.on hb8)
    have TB := NTB; clear NTB
    replace HR1 := Lib.hid (HR1.out.on (bthen ((Below.refl _ _)) hb8))
    replace HR2 := Lib.hid (HR2.out.on (bthen ((Below.refl _ _)) hb8))
    have Hb8 := Lib.hid (bthen Hb7.out hb8)
    clear hb8
    go_wp2
    exact bodyPost_ret (v := .tuple #[.int .i64 0, .int .i64 0, .bool false]) (by simp [results, Tryz.results67, go_sem]) rfl ⟨by rw [HV.out], Hb8.out⟩
  cases k1
  · have HV := Lib.hid (HN.out (by simp))
    go_enter Tryz.func67, Tryz.ntmps67
    go_wp2_with fail
    refine (Hg0.out _).mono ?_; rintro e w9 ⟨⟨A1, c1, rfl, hr1⟩, hb9⟩
    have S9 := Lib.hid (show w.heap.size + 1 ≤ w9.heap.size by have h9 := hb9.size; (try simp only [World.size_alloc, World.size_setCell, World.size_drew] at h9); omega)
    have NTB := Lib.hid ((Blk.new w 24 #[.int .i64 a, .int .i64 b]).on hb9)
    have TB := NTB; clear NTB
    have Hb9 := Lib.hid (bthen (bal (Below.refl w.heap.size w) (Obj.cells #[.int .i64 a, .int .i64 b] 24)) hb9)
    clear hb9
    have HR1 := Lib.hid hr1; clear hr1
    have qTB0 : w9.cell? ⟨w.heap.size, 0, none⟩ = some (.int .i64 a) := TB.out.cell 0
    have qTB1 : w9.cell? ⟨w.heap.size, 1, none⟩ = some (.int .i64 b) := TB.out.cell 1
    have qTBl := TB.out.lt
    go_wp2_with fail
    clear qTB0 qTB1 qTBl
    refine (Hg1.out _).mono ?_; rintro e w10 ⟨⟨A2, c2, rfl, hr2⟩, hb10⟩
    have S10 := Lib.hid (show w9.heap.size + 0 ≤ w10.heap.size by have h9 := hb10.size; (try simp only [World.size_alloc, World.size_setCell, World.size_drew] at h9); omega)
    have Z10 := Lib.hid (And.intro S9.out S10.out)
    have NTB := Lib.hid (TB.out.on hb10)
    have TB := NTB; clear NTB
    replace HR1 := Lib.hid (HR1.out.on (bthen ((Below.refl _ _)) hb10))
    have Hb10 := Lib.hid (bthen Hb9.out hb10)
    clear hb10
    have HR2 := Lib.hid hr2; clear hr2
    have qTB0 : w10.cell? ⟨w.heap.size, 0, none⟩ = some (.int .i64 a) := TB.out.cell 0
    have qTB1 : w10.cell? ⟨w.heap.size, 1, none⟩ = some (.int .i64 b) := TB.out.cell 1
    have qTBl := TB.out.lt
    go_wp2_with fail
    clear qTB0 qTB1 qTBl
    refine (Hr0.out _ _ _ HR1.out).mono ?_; rintro e w11 ⟨rfl, hb11⟩
    have S11 := Lib.hid (show w10.heap.size + 0 ≤ w11.heap.size by have h9 := hb11.size; (try simp only [World.size_alloc, World.size_setCell, World.size_drew] at h9); omega)
    have Z11 := Lib.hid (And.intro Z10.out S11.out)
    have NTB := Lib.hid (TB.out.on hb11)
    have TB := NTB; clear NTB
    replace HR1 := Lib.hid (HR1.out.on (bthen ((Below.refl _ _)) hb11))
    replace HR2 := Lib.hid (HR2.out.on (bthen ((Below.refl _ _)) hb11))
    have Hb11 := Lib.hid (bthen Hb10.out hb11)
    clear hb11
    have qTB0 : w11.cell? ⟨w.heap.size, 0, none⟩ = some (.int .i64 a) := TB.out.cell 0
    have qTB1 : w11.cell? ⟨w.heap.size, 1, none⟩ = some (.int .i64 b) := TB.out.cell 1
    have qTBl := TB.out.lt
    go_wp2_with fail
    clear qTB0 qTB1 qTBl
    refine (Hr1.out _ _ _ HR2.out).mono ?_; rintro e w12 ⟨rfl, hb12⟩
    have S12 := Lib.hid (show w11.heap.size + 0 ≤ w12.heap.size by have h9 := hb12.size; (try simp only [World.size_alloc, World.size_setCell, World.size_drew] at h9); omega)
    have Z12 := Lib.hid (And.intro Z11.out S12.out)
    have NTB := Lib.hid (TB.out.on hb12)
    have TB := NTB; clear NTB
    replace HR1 := Lib.hid (HR1.out.on (bthen ((Below.refl _ _)) hb12))
    replace HR2 := Lib.hid (HR2.out.on (bthen ((Below.refl _ _)) hb12))
    have Hb12 := Lib.hid (bthen Hb11.out hb12)
    clear hb12
    go_wp2
    exact bodyPost_ret (v := .tuple #[.int .i64 0, .int .i64 0, .bool false]) (by simp [results, Tryz.results67, go_sem]) rfl ⟨by rw [HV.out], Hb12.out⟩
  have HV := Lib.hid (HY.out rfl rfl rfl rfl)
  go_enter Tryz.func67, Tryz.ntmps67
  go_wp2_with fail
  refine (Hg0.out _).mono ?_; rintro e w13 ⟨⟨A1, c1, rfl, hr1⟩, hb13⟩
  have S13 := Lib.hid (show w.heap.size + 1 ≤ w13.heap.size by have h9 := hb13.size; (try simp only [World.size_alloc, World.size_setCell, World.size_drew] at h9); omega)
  have NTB := Lib.hid ((Blk.new w 24 #[.int .i64 a, .int .i64 b]).on hb13)
  have TB := NTB; clear NTB
  have Hb13 := Lib.hid (bthen (bal (Below.refl w.heap.size w) (Obj.cells #[.int .i64 a, .int .i64 b] 24)) hb13)
  clear hb13
  have HR1 := Lib.hid hr1; clear hr1
  have qTB0 : w13.cell? ⟨w.heap.size, 0, none⟩ = some (.int .i64 a) := TB.out.cell 0
  have qTB1 : w13.cell? ⟨w.heap.size, 1, none⟩ = some (.int .i64 b) := TB.out.cell 1
  have qTBl := TB.out.lt
  go_wp2_with fail
  clear qTB0 qTB1 qTBl
  refine (Hg1.out _).mono ?_; rintro e w14 ⟨⟨A2, c2, rfl, hr2⟩, hb14⟩
  have S14 := Lib.hid (show w13.heap.size + 0 ≤ w14.heap.size by have h9 := hb14.size; (try simp only [World.size_alloc, World.size_setCell, World.size_drew] at h9); omega)
  have Z14 := Lib.hid (And.intro S13.out S14.out)
  have NTB := Lib.hid (TB.out.on hb14)
  have TB := NTB; clear NTB
  replace HR1 := Lib.hid (HR1.out.on (bthen ((Below.refl _ _)) hb14))
  have Hb14 := Lib.hid (bthen Hb13.out hb14)
  clear hb14
  have HR2 := Lib.hid hr2; clear hr2
  have qTB0 : w14.cell? ⟨w.heap.size, 0, none⟩ = some (.int .i64 a) := TB.out.cell 0
  have qTB1 : w14.cell? ⟨w.heap.size, 1, none⟩ = some (.int .i64 b) := TB.out.cell 1
  have qTBl := TB.out.lt
  go_wp2_with fail
  clear qTB0 qTB1 qTBl
  refine (Hr0.out _ _ _ HR1.out).mono ?_; rintro e w15 ⟨rfl, hb15⟩
  have S15 := Lib.hid (show w14.heap.size + 0 ≤ w15.heap.size by have h9 := hb15.size; (try simp only [World.size_alloc, World.size_setCell, World.size_drew] at h9); omega)
  have Z15 := Lib.hid (And.intro Z14.out S15.out)
  have NTB := Lib.hid (TB.out.on hb15)
  have TB := NTB; clear NTB
  replace HR1 := Lib.hid (HR1.out.on (bthen ((Below.refl _ _)) hb15))
  replace HR2 := Lib.hid (HR2.out.on (bthen ((Below.refl _ _)) hb15))
  have Hb15 := Lib.hid (bthen Hb14.out hb15)
  clear hb15
  have qTB0 : w15.cell? ⟨w.heap.size, 0, none⟩ = some (.int .i64 a) := TB.out.cell 0
  have qTB1 : w15.cell? ⟨w.heap.size, 1, none⟩ = some (.int .i64 b) := TB.out.cell 1
  have qTBl := TB.out.lt
  go_wp2_with fail
  clear qTB0 qTB1 qTBl
  refine (Hr1.out _ _ _ HR2.out).mono ?_; rintro e w16 ⟨rfl, hb16⟩
  have S16 := Lib.hid (show w15.heap.size + 0 ≤ w16.heap.size by have h9 := hb16.size; (try simp only [World.size_alloc, World.size_setCell, World.size_drew] at h9); omega)
  have Z16 := Lib.hid (And.intro Z15.out S16.out)
  have NTB := Lib.hid (TB.out.on hb16)
  have TB := NTB; clear NTB
  replace HR1 := Lib.hid (HR1.out.on (bthen ((Below.refl _ _)) hb16))
  replace HR2 := Lib.hid (HR2.out.on (bthen ((Below.refl _ _)) hb16))
  have Hb16 := Lib.hid (bthen Hb15.out hb16)
  clear hb16
  go_wp2
  exact bodyPost_ret (v := .tuple #[.int .i64 n0, .int .i64 n1, .bool true]) (by simp [results, Tryz.results67, go_sem]) rfl ⟨by rw [HV.out], Hb16.out⟩
set_option linter.unusedSimpArgs false in
set_option linter.unusedVariables false in
set_option maxRecDepth 8000 in
set_option maxHeartbeats 8000000 in
theorem selmerRanks_any (a b : Int) (w : World) (h : twB a b = true) :
    Calls Tryz.prog 45 #[.agg #[.int .i64 a, .int .i64 b]] w fun e w' => e = .returned (.tuple #[.int .i64 (srV a b).1, .int .i64 (srV a b).2.1, .bool (srV a b).2.2]) ∧ Below w.heap.size w w' := by
  have Hg0 := Lib.hid (fun w9 => selmer_any a b false w9 h)
  have Hl0 := Lib.hid (sm_len (s := false) h)
  have Hg1 := Lib.hid (fun w9 => selmer_any a b true w9 h)
  have Hl1 := Lib.hid (sm_len (s := true) h)
  have HY := Lib.hid (fun (h1 : (smV a b false).2 = true) (h2 : (smV a b true).2 = true) (h3 : (rkV (smV a b false).1).2 = true) (h4 : (rkV (smV a b true).1).2 = true) => show srV a b = ((rkV (smV a b false).1).1, (rkV (smV a b true).1).1, true) from if_pos ⟨⟨h1, h2⟩, h3, h4⟩)
  have HN := Lib.hid (fun (hx : ¬ (((smV a b false).2 = true ∧ (smV a b true).2 = true) ∧ ((rkV (smV a b false).1).2 = true ∧ (rkV (smV a b true).1).2 = true))) => show srV a b = (0, 0, false) from if_neg hx)
  clear h
  generalize srV a b = V at *
  generalize smV a b false = U0 at *
  generalize smV a b true = U1 at *
  obtain ⟨X0, k0⟩ := U0
  obtain ⟨X1, k1⟩ := U1
  dsimp only at *
  have Hr0 := Lib.hid (fun A c w9 h9 => rankI_any A c X0 w9 h9 (by have := Hl0.out; omega))
  have Hr1 := Lib.hid (fun A c w9 h9 => rankI_any A c X1 w9 h9 (by have := Hl1.out; omega))
  cases k0
  · have HV := Lib.hid (HN.out (by simp))
    go_enter Tryz.func45, Tryz.ntmps45
    go_wp2_with fail
    refine (Hg0.out _).mono ?_; rintro e w1 ⟨⟨A1, c1, rfl, hr1⟩, hb1⟩
    have S1 := Lib.hid (show w.heap.size + 1 ≤ w1.heap.size by have h9 := hb1.size; (try simp only [World.size_alloc, World.size_setCell, World.size_drew] at h9); omega)
    have NTB := Lib.hid ((Blk.new w 24 #[.int .i64 a, .int .i64 b]).on hb1)
    have TB := NTB; clear NTB
    have Hb1 := Lib.hid (bthen (bal (Below.refl w.heap.size w) (Obj.cells #[.int .i64 a, .int .i64 b] 24)) hb1)
    clear hb1
    have HR1 := Lib.hid hr1; clear hr1
    have qTB0 : w1.cell? ⟨w.heap.size, 0, none⟩ = some (.int .i64 a) := TB.out.cell 0
    have qTB1 : w1.cell? ⟨w.heap.size, 1, none⟩ = some (.int .i64 b) := TB.out.cell 1
    have qTBl := TB.out.lt
    go_wp2_with fail
    clear qTB0 qTB1 qTBl
    refine (Hg1.out _).mono ?_; rintro e w2 ⟨⟨A2, c2, rfl, hr2⟩, hb2⟩
    have S2 := Lib.hid (show w1.heap.size + 0 ≤ w2.heap.size by have h9 := hb2.size; (try simp only [World.size_alloc, World.size_setCell, World.size_drew] at h9); omega)
    have Z2 := Lib.hid (And.intro S1.out S2.out)
    have NTB := Lib.hid (TB.out.on hb2)
    have TB := NTB; clear NTB
    replace HR1 := Lib.hid (HR1.out.on (bthen ((Below.refl _ _)) hb2))
    have Hb2 := Lib.hid (bthen Hb1.out hb2)
    clear hb2
    have HR2 := Lib.hid hr2; clear hr2
    go_wp2
    exact bodyPost_ret (v := .tuple #[.int .i64 0, .int .i64 0, .bool false]) (by simp [results, Tryz.results45, go_sem]) rfl ⟨by rw [HV.out], Hb2.out⟩
  cases k1
  · have HV := Lib.hid (HN.out (by simp))
    go_enter Tryz.func45, Tryz.ntmps45
    go_wp2_with fail
    refine (Hg0.out _).mono ?_; rintro e w3 ⟨⟨A1, c1, rfl, hr1⟩, hb3⟩
    have S3 := Lib.hid (show w.heap.size + 1 ≤ w3.heap.size by have h9 := hb3.size; (try simp only [World.size_alloc, World.size_setCell, World.size_drew] at h9); omega)
    have NTB := Lib.hid ((Blk.new w 24 #[.int .i64 a, .int .i64 b]).on hb3)
    have TB := NTB; clear NTB
    have Hb3 := Lib.hid (bthen (bal (Below.refl w.heap.size w) (Obj.cells #[.int .i64 a, .int .i64 b] 24)) hb3)
    clear hb3
    have HR1 := Lib.hid hr1; clear hr1
    have qTB0 : w3.cell? ⟨w.heap.size, 0, none⟩ = some (.int .i64 a) := TB.out.cell 0
    have qTB1 : w3.cell? ⟨w.heap.size, 1, none⟩ = some (.int .i64 b) := TB.out.cell 1
    have qTBl := TB.out.lt
    go_wp2_with fail
    clear qTB0 qTB1 qTBl
    refine (Hg1.out _).mono ?_; rintro e w4 ⟨⟨A2, c2, rfl, hr2⟩, hb4⟩
    have S4 := Lib.hid (show w3.heap.size + 0 ≤ w4.heap.size by have h9 := hb4.size; (try simp only [World.size_alloc, World.size_setCell, World.size_drew] at h9); omega)
    have Z4 := Lib.hid (And.intro S3.out S4.out)
    have NTB := Lib.hid (TB.out.on hb4)
    have TB := NTB; clear NTB
    replace HR1 := Lib.hid (HR1.out.on (bthen ((Below.refl _ _)) hb4))
    have Hb4 := Lib.hid (bthen Hb3.out hb4)
    clear hb4
    have HR2 := Lib.hid hr2; clear hr2
    go_wp2
    exact bodyPost_ret (v := .tuple #[.int .i64 0, .int .i64 0, .bool false]) (by simp [results, Tryz.results45, go_sem]) rfl ⟨by rw [HV.out], Hb4.out⟩
  generalize rkV X0 = K0 at *
  generalize rkV X1 = K1 at *
  obtain ⟨n0, k0⟩ := K0
  obtain ⟨n1, k1⟩ := K1
  dsimp only at *
  cases k0
  · have HV := Lib.hid (HN.out (by simp))
    go_enter Tryz.func45, Tryz.ntmps45
    go_wp2_with fail
    refine (Hg0.out _).mono ?_; rintro e w5 ⟨⟨A1, c1, rfl, hr1⟩, hb5⟩
    have S5 := Lib.hid (show w.heap.size + 1 ≤ w5.heap.size by have h9 := hb5.size; (try simp only [World.size_alloc, World.size_setCell, World.size_drew] at h9); omega)
    have NTB := Lib.hid ((Blk.new w 24 #[.int .i64 a, .int .i64 b]).on hb5)
    have TB := NTB; clear NTB
    have Hb5 := Lib.hid (bthen (bal (Below.refl w.heap.size w) (Obj.cells #[.int .i64 a, .int .i64 b] 24)) hb5)
    clear hb5
    have HR1 := Lib.hid hr1; clear hr1
    have qTB0 : w5.cell? ⟨w.heap.size, 0, none⟩ = some (.int .i64 a) := TB.out.cell 0
    have qTB1 : w5.cell? ⟨w.heap.size, 1, none⟩ = some (.int .i64 b) := TB.out.cell 1
    have qTBl := TB.out.lt
    go_wp2_with fail
    clear qTB0 qTB1 qTBl
    refine (Hg1.out _).mono ?_; rintro e w6 ⟨⟨A2, c2, rfl, hr2⟩, hb6⟩
    have S6 := Lib.hid (show w5.heap.size + 0 ≤ w6.heap.size by have h9 := hb6.size; (try simp only [World.size_alloc, World.size_setCell, World.size_drew] at h9); omega)
    have Z6 := Lib.hid (And.intro S5.out S6.out)
    have NTB := Lib.hid (TB.out.on hb6)
    have TB := NTB; clear NTB
    replace HR1 := Lib.hid (HR1.out.on (bthen ((Below.refl _ _)) hb6))
    have Hb6 := Lib.hid (bthen Hb5.out hb6)
    clear hb6
    have HR2 := Lib.hid hr2; clear hr2
    have qTB0 : w6.cell? ⟨w.heap.size, 0, none⟩ = some (.int .i64 a) := TB.out.cell 0
    have qTB1 : w6.cell? ⟨w.heap.size, 1, none⟩ = some (.int .i64 b) := TB.out.cell 1
    have qTBl := TB.out.lt
    go_wp2_with fail
    clear qTB0 qTB1 qTBl
    refine (Hr0.out _ _ _ HR1.out).mono ?_; rintro e w7 ⟨rfl, hb7⟩
    have S7 := Lib.hid (show w6.heap.size + 0 ≤ w7.heap.size by have h9 := hb7.size; (try simp only [World.size_alloc, World.size_setCell, World.size_drew] at h9); omega)
    have Z7 := Lib.hid (And.intro Z6.out S7.out)
    have NTB := Lib.hid (TB.out.on hb7)
    have TB := NTB; clear NTB
    replace HR1 := Lib.hid (HR1.out.on (bthen ((Below.refl _ _)) hb7))
    replace HR2 := Lib.hid (HR2.out.on (bthen ((Below.refl _ _)) hb7))
    have Hb7 := Lib.hid (bthen Hb6.out hb7)
    clear hb7
    have qTB0 : w7.cell? ⟨w.heap.size, 0, none⟩ = some (.int .i64 a) := TB.out.cell 0
    have qTB1 : w7.cell? ⟨w.heap.size, 1, none⟩ = some (.int .i64 b) := TB.out.cell 1
    have qTBl := TB.out.lt
    go_wp2_with fail
    clear qTB0 qTB1 qTBl
    refine (Hr1.out _ _ _ HR2.out).mono ?_; rintro e w8 ⟨rfl, hb8⟩
    have S8 := Lib.hid (show w7.heap.size + 0 ≤ w8.heap.size by have h9 := hb8.size; (try simp only [World.size_alloc, World.size_setCell, World.size_drew] at h9); omega)
    have Z8 := Lib.hid (And.intro Z7.out S8.out)
    have NTB := Lib.hid (TB.out.on hb8)
    have TB := NTB; clear NTB
    replace HR1 := Lib.hid (HR1.out.on (bthen ((Below.refl _ _)) hb8))
    replace HR2 := Lib.hid (HR2.out.on (bthen ((Below.refl _ _)) hb8))
    have Hb8 := Lib.hid (bthen Hb7.out hb8)
    clear hb8
    go_wp2
    exact bodyPost_ret (v := .tuple #[.int .i64 0, .int .i64 0, .bool false]) (by simp [results, Tryz.results45, go_sem]) rfl ⟨by rw [HV.out], Hb8.out⟩
  cases k1
  · have HV := Lib.hid (HN.out (by simp))
    go_enter Tryz.func45, Tryz.ntmps45
    go_wp2_with fail
    refine (Hg0.out _).mono ?_; rintro e w9 ⟨⟨A1, c1, rfl, hr1⟩, hb9⟩
    have S9 := Lib.hid (show w.heap.size + 1 ≤ w9.heap.size by have h9 := hb9.size; (try simp only [World.size_alloc, World.size_setCell, World.size_drew] at h9); omega)
    have NTB := Lib.hid ((Blk.new w 24 #[.int .i64 a, .int .i64 b]).on hb9)
    have TB := NTB; clear NTB
    have Hb9 := Lib.hid (bthen (bal (Below.refl w.heap.size w) (Obj.cells #[.int .i64 a, .int .i64 b] 24)) hb9)
    clear hb9
    have HR1 := Lib.hid hr1; clear hr1
    have qTB0 : w9.cell? ⟨w.heap.size, 0, none⟩ = some (.int .i64 a) := TB.out.cell 0
    have qTB1 : w9.cell? ⟨w.heap.size, 1, none⟩ = some (.int .i64 b) := TB.out.cell 1
    have qTBl := TB.out.lt
    go_wp2_with fail
    clear qTB0 qTB1 qTBl
    refine (Hg1.out _).mono ?_; rintro e w10 ⟨⟨A2, c2, rfl, hr2⟩, hb10⟩
    have S10 := Lib.hid (show w9.heap.size + 0 ≤ w10.heap.size by have h9 := hb10.size; (try simp only [World.size_alloc, World.size_setCell, World.size_drew] at h9); omega)
    have Z10 := Lib.hid (And.intro S9.out S10.out)
    have NTB := Lib.hid (TB.out.on hb10)
    have TB := NTB; clear NTB
    replace HR1 := Lib.hid (HR1.out.on (bthen ((Below.refl _ _)) hb10))
    have Hb10 := Lib.hid (bthen Hb9.out hb10)
    clear hb10
    have HR2 := Lib.hid hr2; clear hr2
    have qTB0 : w10.cell? ⟨w.heap.size, 0, none⟩ = some (.int .i64 a) := TB.out.cell 0
    have qTB1 : w10.cell? ⟨w.heap.size, 1, none⟩ = some (.int .i64 b) := TB.out.cell 1
    have qTBl := TB.out.lt
    go_wp2_with fail
    clear qTB0 qTB1 qTBl
    refine (Hr0.out _ _ _ HR1.out).mono ?_; rintro e w11 ⟨rfl, hb11⟩
    have S11 := Lib.hid (show w10.heap.size + 0 ≤ w11.heap.size by have h9 := hb11.size; (try simp only [World.size_alloc, World.size_setCell, World.size_drew] at h9); omega)
    have Z11 := Lib.hid (And.intro Z10.out S11.out)
    have NTB := Lib.hid (TB.out.on hb11)
    have TB := NTB; clear NTB
    replace HR1 := Lib.hid (HR1.out.on (bthen ((Below.refl _ _)) hb11))
    replace HR2 := Lib.hid (HR2.out.on (bthen ((Below.refl _ _)) hb11))
    have Hb11 := Lib.hid (bthen Hb10.out hb11)
    clear hb11
    have qTB0 : w11.cell? ⟨w.heap.size, 0, none⟩ = some (.int .i64 a) := TB.out.cell 0
    have qTB1 : w11.cell? ⟨w.heap.size, 1, none⟩ = some (.int .i64 b) := TB.out.cell 1
    have qTBl := TB.out.lt
    go_wp2_with fail
    clear qTB0 qTB1 qTBl
    refine (Hr1.out _ _ _ HR2.out).mono ?_; rintro e w12 ⟨rfl, hb12⟩
    have S12 := Lib.hid (show w11.heap.size + 0 ≤ w12.heap.size by have h9 := hb12.size; (try simp only [World.size_alloc, World.size_setCell, World.size_drew] at h9); omega)
    have Z12 := Lib.hid (And.intro Z11.out S12.out)
    have NTB := Lib.hid (TB.out.on hb12)
    have TB := NTB; clear NTB
    replace HR1 := Lib.hid (HR1.out.on (bthen ((Below.refl _ _)) hb12))
    replace HR2 := Lib.hid (HR2.out.on (bthen ((Below.refl _ _)) hb12))
    have Hb12 := Lib.hid (bthen Hb11.out hb12)
    clear hb12
    go_wp2
    exact bodyPost_ret (v := .tuple #[.int .i64 0, .int .i64 0, .bool false]) (by simp [results, Tryz.results45, go_sem]) rfl ⟨by rw [HV.out], Hb12.out⟩
  have HV := Lib.hid (HY.out rfl rfl rfl rfl)
  go_enter Tryz.func45, Tryz.ntmps45
  go_wp2_with fail
  refine (Hg0.out _).mono ?_; rintro e w13 ⟨⟨A1, c1, rfl, hr1⟩, hb13⟩
  have S13 := Lib.hid (show w.heap.size + 1 ≤ w13.heap.size by have h9 := hb13.size; (try simp only [World.size_alloc, World.size_setCell, World.size_drew] at h9); omega)
  have NTB := Lib.hid ((Blk.new w 24 #[.int .i64 a, .int .i64 b]).on hb13)
  have TB := NTB; clear NTB
  have Hb13 := Lib.hid (bthen (bal (Below.refl w.heap.size w) (Obj.cells #[.int .i64 a, .int .i64 b] 24)) hb13)
  clear hb13
  have HR1 := Lib.hid hr1; clear hr1
  have qTB0 : w13.cell? ⟨w.heap.size, 0, none⟩ = some (.int .i64 a) := TB.out.cell 0
  have qTB1 : w13.cell? ⟨w.heap.size, 1, none⟩ = some (.int .i64 b) := TB.out.cell 1
  have qTBl := TB.out.lt
  go_wp2_with fail
  clear qTB0 qTB1 qTBl
  refine (Hg1.out _).mono ?_; rintro e w14 ⟨⟨A2, c2, rfl, hr2⟩, hb14⟩
  have S14 := Lib.hid (show w13.heap.size + 0 ≤ w14.heap.size by have h9 := hb14.size; (try simp only [World.size_alloc, World.size_setCell, World.size_drew] at h9); omega)
  have Z14 := Lib.hid (And.intro S13.out S14.out)
  have NTB := Lib.hid (TB.out.on hb14)
  have TB := NTB; clear NTB
  replace HR1 := Lib.hid (HR1.out.on (bthen ((Below.refl _ _)) hb14))
  have Hb14 := Lib.hid (bthen Hb13.out hb14)
  clear hb14
  have HR2 := Lib.hid hr2; clear hr2
  have qTB0 : w14.cell? ⟨w.heap.size, 0, none⟩ = some (.int .i64 a) := TB.out.cell 0
  have qTB1 : w14.cell? ⟨w.heap.size, 1, none⟩ = some (.int .i64 b) := TB.out.cell 1
  have qTBl := TB.out.lt
  go_wp2_with fail
  clear qTB0 qTB1 qTBl
  refine (Hr0.out _ _ _ HR1.out).mono ?_; rintro e w15 ⟨rfl, hb15⟩
  have S15 := Lib.hid (show w14.heap.size + 0 ≤ w15.heap.size by have h9 := hb15.size; (try simp only [World.size_alloc, World.size_setCell, World.size_drew] at h9); omega)
  have Z15 := Lib.hid (And.intro Z14.out S15.out)
  have NTB := Lib.hid (TB.out.on hb15)
  have TB := NTB; clear NTB
  replace HR1 := Lib.hid (HR1.out.on (bthen ((Below.refl _ _)) hb15))
  replace HR2 := Lib.hid (HR2.out.on (bthen ((Below.refl _ _)) hb15))
  have Hb15 := Lib.hid (bthen Hb14.out hb15)
  clear hb15
  have qTB0 : w15.cell? ⟨w.heap.size, 0, none⟩ = some (.int .i64 a) := TB.out.cell 0
  have qTB1 : w15.cell? ⟨w.heap.size, 1, none⟩ = some (.int .i64 b) := TB.out.cell 1
  have qTBl := TB.out.lt
  go_wp2_with fail
  clear qTB0 qTB1 qTBl
  refine (Hr1.out _ _ _ HR2.out).mono ?_; rintro e w16 ⟨rfl, hb16⟩
  have S16 := Lib.hid (show w15.heap.size + 0 ≤ w16.heap.size by have h9 := hb16.size; (try simp only [World.size_alloc, World.size_setCell, World.size_drew] at h9); omega)
  have Z16 := Lib.hid (And.intro Z15.out S16.out)
  have NTB := Lib.hid (TB.out.on hb16)
  have TB := NTB; clear NTB
  replace HR1 := Lib.hid (HR1.out.on (bthen ((Below.refl _ _)) hb16))
  replace HR2 := Lib.hid (HR2.out.on (bthen ((Below.refl _ _)) hb16))
  have Hb16 := Lib.hid (bthen Hb15.out hb16)
  clear hb16
  go_wp2
  exact bodyPost_ret (v := .tuple #[.int .i64 n0, .int .i64 n1, .bool true]) (by simp [results, Tryz.results45, go_sem]) rfl ⟨by rw [HV.out], Hb16.out⟩
end
end Go.Proofs.YthdfpfhkmfmnbaaGreat
