/- Own texts put together: RankEntry: the walks of both sides. Conditions: those of each theorem. -/
import Derived.Test.YthdfpfhkmfmnbaaGreatRcM17
namespace Go.Proofs.YthdfpfhkmfmnbaaGreat
section
open Go Go.RowKit Go.Lib

def askB (a b n : Int) : Bool := twB a b && insB n 1 60
/-- What the reference answers: the entry's five numbers, and whether. -/
def reS (a b n : Int) : (Int × Int × Int × Int) × Bool :=
  if askB a b n = true ∧ (curveB (pmA a b) (pmB a b) = true ∧ (rbV a b n.toNat).2.2 = true) then ((pmA a b, pmB a b, (rbV a b n.toNat).1, (rbV a b n.toNat).2.1), true) else ((0, 0, 0, 0), false)
/-- What the program answers. -/
def reI (a b n : Int) : (Int × Int × Int × Int) × Bool :=
  if askB a b n = true ∧ (curveB (pmA a b) (pmB a b) = true ∧ (rbV a b n.toNat).2.2 = true) ∧ entB (pmA a b) (pmB a b) (rbV a b n.toNat).1 (rbV a b n.toNat).2.1 0 = true then ((pmA a b, pmB a b, (rbV a b n.toNat).1, (rbV a b n.toNat).2.1), true) else ((0, 0, 0, 0), false)
def reW (V : (Int × Int × Int × Int) × Bool) : Value := .tuple #[.agg #[.int .i64 V.1.1, .int .i64 V.1.2.1, .int .i64 V.1.2.2.1, .int .i64 V.1.2.2.2, .int .i64 0], .bool V.2]
theorem ins60 {n : Int} (h : insB n 1 60 = true) : n = ((n.toNat : Nat) : Int) ∧ n.toNat ≤ 60 := by
  obtain ⟨h1, h2⟩ := insB_true h
  omega
set_option linter.unusedSimpArgs false in
set_option linter.unusedVariables false in
set_option maxRecDepth 8000 in
set_option maxHeartbeats 8000000 in
theorem rkAsked_any (a b n : Int) (w : World) :
    Calls Tryz.prog 25 #[.agg #[.int .i64 a, .int .i64 b], .int .i64 n] w fun e w' => e = .returned (.bool (askB a b n)) ∧ Below w.heap.size w w' := by
  have Hm : Hid (∀ w9, Calls Tryz.prog 48 #[.int .i64 n] w9 fun e w' => e = .returned (.bool (insB n 1 60)) ∧ Below w9.heap.size w9 w') := Lib.hid (fun w9 => by
    have Hin := Lib.hid (fun w9 => l1In_lit (n := n) (lo := 1) (hi := 60) (k := insB n 1 60) rfl w9)
    generalize insB n 1 60 = k at *
    go_enter Tryz.func48, Tryz.ntmps48
    go_wp2_with (go_at_call 40; refine (Hin.out _).mono ?_; rintro e w1 ⟨rfl, hb1⟩)
    go_ret
    exact ⟨rfl, hb1⟩)
  have Ht := Lib.hid (fun w9 => tcGood_any a b w9)
  unfold askB
  generalize insB n 1 60 = k at *
  generalize twB a b = t at *
  cases t
  · go_enter Tryz.func25, Tryz.ntmps25
    go_wp2_with (go_at_call 47; refine (Ht.out _).mono ?_; rintro e w1 ⟨rfl, hb1⟩)
    go_ret
    exact ⟨rfl, bthen (bal (Below.refl _ _) _) hb1⟩
  · go_enter Tryz.func25, Tryz.ntmps25
    go_wp2_with (first | (go_at_call 47; refine (Ht.out _).mono ?_; rintro e w1 ⟨rfl, hb1⟩) | (go_at_call 48; refine (Hm.out _).mono ?_; rintro e w2 ⟨rfl, hb2⟩))
    go_ret
    exact ⟨by simp, bthen (bthen (bal (Below.refl _ _) _) hb1) hb2⟩
set_option linter.unusedSimpArgs false in
set_option linter.unusedVariables false in
set_option maxRecDepth 8000 in
set_option maxHeartbeats 8000000 in
theorem rankEntryS_any (a b n : Int) (w : World) :
    Calls Tryz.prog 10 #[.agg #[.int .i64 a, .int .i64 b], .int .i64 n] w fun e w' => e = .returned (reW (reS a b n)) ∧ Below w.heap.size w w' := by
  have Ha := Lib.hid (fun w9 => rkAsked_any a b n w9)
  obtain ⟨ask, hask⟩ : ∃ ask, askB a b n = ask := ⟨_, rfl⟩
  cases ask
  · have HV := Lib.hid (show reS a b n = ((0, 0, 0, 0), false) from if_neg (by rw [hask]; simp))
    rw [hask] at Ha
    clear hask
    generalize reS a b n = V at *
    go_enter Tryz.func10, Tryz.ntmps10
    go_wp2_with fail
    refine (Ha.out _).mono ?_; rintro e w1 ⟨rfl, hb1⟩
    have S1 := Lib.hid (show w.heap.size + 2 ≤ w1.heap.size by have h9 := hb1.size; (try simp only [World.size_alloc, World.size_setCell, World.size_drew] at h9); omega)
    have NTB := Lib.hid (((Blk.new w 24 #[.int .i64 a, .int .i64 b]).alloc (Obj.cells #[.int .i64 0, .int .i64 0, .int .i64 0, .int .i64 0, .int .i64 0] 33)).on hb1)
    have NRE := Lib.hid ((show Blk (World.alloc (World.alloc w (Obj.cells #[.int .i64 a, .int .i64 b] 24)) (Obj.cells #[.int .i64 0, .int .i64 0, .int .i64 0, .int .i64 0, .int .i64 0] 33)) (w.heap.size + 1) 33 #[.int .i64 0, .int .i64 0, .int .i64 0, .int .i64 0, .int .i64 0] by have h9 := (Blk.new (World.alloc w (Obj.cells #[.int .i64 a, .int .i64 b] 24)) 33 #[.int .i64 0, .int .i64 0, .int .i64 0, .int .i64 0, .int .i64 0]); (try simp only [World.size_alloc, World.size_setCell] at h9); exact h9).on hb1)
    have TB := NTB; clear NTB
    have RE := NRE; clear NRE
    have Hb1 := Lib.hid (bthen (bal (bal (Below.refl w.heap.size w) (Obj.cells #[.int .i64 a, .int .i64 b] 24)) (Obj.cells #[.int .i64 0, .int .i64 0, .int .i64 0, .int .i64 0, .int .i64 0] 33)) hb1)
    clear hb1
    have qRE0 : w1.cell? ⟨w.heap.size + 1, 0, none⟩ = some (.int .i64 0) := RE.out.cell 0
    have qRE1 : w1.cell? ⟨w.heap.size + 1, 1, none⟩ = some (.int .i64 0) := RE.out.cell 1
    have qRE2 : w1.cell? ⟨w.heap.size + 1, 2, none⟩ = some (.int .i64 0) := RE.out.cell 2
    have qRE3 : w1.cell? ⟨w.heap.size + 1, 3, none⟩ = some (.int .i64 0) := RE.out.cell 3
    have qRE4 : w1.cell? ⟨w.heap.size + 1, 4, none⟩ = some (.int .i64 0) := RE.out.cell 4
    have qREl := RE.out.lt
    have qREf0 := RE.out.frozen 0
    have qREf1 := RE.out.frozen 1
    have qREf2 := RE.out.frozen 2
    have qREf3 := RE.out.frozen 3
    have qREf4 := RE.out.frozen 4
    go_wp2
    clear qRE0 qRE1 qRE2 qRE3 qRE4 qREl qREf0 qREf1 qREf2 qREf3 qREf4
    have R9RE := (show Blk (World.setCell (World.setCell (World.setCell (World.setCell (World.setCell w1 ⟨w.heap.size + 1, 0, none⟩ (.int .i64 0)) ⟨w.heap.size + 1, 1, none⟩ (.int .i64 0)) ⟨w.heap.size + 1, 2, none⟩ (.int .i64 0)) ⟨w.heap.size + 1, 3, none⟩ (.int .i64 0)) ⟨w.heap.size + 1, 4, none⟩ (.int .i64 0)) (w.heap.size + 1) 33 #[.int .i64 0, .int .i64 0, .int .i64 0, .int .i64 0, .int .i64 0] by have h9 := (((((RE.out.set 0 (.int .i64 0)).set 1 (.int .i64 0)).set 2 (.int .i64 0)).set 3 (.int .i64 0)).set 4 (.int .i64 0)); simpa using h9)
    have kRE0 := R9RE.cell 0
    have kRE1 := R9RE.cell 1
    have kRE2 := R9RE.cell 2
    have kRE3 := R9RE.cell 3
    have kRE4 := R9RE.cell 4
    simp at kRE0 kRE1 kRE2 kRE3 kRE4
    exact bodyPost_ret (v := .tuple #[.agg #[.int .i64 0, .int .i64 0, .int .i64 0, .int .i64 0, .int .i64 0], .bool false]) (by simp [results, Tryz.results10, go_sem, kRE0, kRE1, kRE2, kRE3, kRE4]) rfl ⟨by rw [HV.out]; rfl, (bst (bst (bst (bst (bst Hb1.out (p := ⟨w.heap.size + 1, 0, none⟩) (show w.heap.size ≤ w.heap.size + 1 by have := S1.out; (try simp only [World.size_alloc, World.size_setCell, World.size_drew]); omega) (.int .i64 0)) (p := ⟨w.heap.size + 1, 1, none⟩) (show w.heap.size ≤ w.heap.size + 1 by have := S1.out; (try simp only [World.size_alloc, World.size_setCell, World.size_drew]); omega) (.int .i64 0)) (p := ⟨w.heap.size + 1, 2, none⟩) (show w.heap.size ≤ w.heap.size + 1 by have := S1.out; (try simp only [World.size_alloc, World.size_setCell, World.size_drew]); omega) (.int .i64 0)) (p := ⟨w.heap.size + 1, 3, none⟩) (show w.heap.size ≤ w.heap.size + 1 by have := S1.out; (try simp only [World.size_alloc, World.size_setCell, World.size_drew]); omega) (.int .i64 0)) (p := ⟨w.heap.size + 1, 4, none⟩) (show w.heap.size ≤ w.heap.size + 1 by have := S1.out; (try simp only [World.size_alloc, World.size_setCell, World.size_drew]); omega) (.int .i64 0))⟩
  have hh := hask
  unfold askB at hh
  rw [Bool.and_eq_true] at hh
  obtain ⟨htw, hin⟩ := hh
  obtain ⟨hn1, hn2⟩ := ins60 hin
  obtain ⟨ha, hb, -, -⟩ := twB_bd htw
  have Hp := Lib.hid (fun w9 => tcPlain_any a b w9 ha hb)
  have h9 := fun w9 => rkBounds_any a b n.toNat w9 htw hn2
  rw [← hn1] at h9
  have Hr := Lib.hid h9
  have Hg := Lib.hid (fun w9 => ecGood_any (pmA a b) (pmB a b) w9)
  have HY := Lib.hid (fun (h1 : curveB (pmA a b) (pmB a b) = true) (h2 : (rbV a b n.toNat).2.2 = true) => show reS a b n = ((pmA a b, pmB a b, (rbV a b n.toNat).1, (rbV a b n.toNat).2.1), true) from if_pos ⟨hask, h1, h2⟩)
  have HN := Lib.hid (fun (hx : ¬ (curveB (pmA a b) (pmB a b) = true ∧ (rbV a b n.toNat).2.2 = true)) => show reS a b n = ((0, 0, 0, 0), false) from if_neg (fun h => hx h.2))
  rw [hask] at Ha
  clear hask htw hin hn2 ha hb h9 hn1
  generalize reS a b n = V at *
  generalize rbV a b n.toNat = B at *
  generalize curveB (pmA a b) (pmB a b) = k at *
  generalize pmA a b = PA at *
  generalize pmB a b = PB at *
  obtain ⟨lo, hi, told⟩ := B
  dsimp only at *
  cases k
  · have HV := Lib.hid (HN.out (by simp))
    go_enter Tryz.func10, Tryz.ntmps10
    go_wp2_with fail
    refine (Ha.out _).mono ?_; rintro e w2 ⟨rfl, hb2⟩
    have S2 := Lib.hid (show w.heap.size + 2 ≤ w2.heap.size by have h9 := hb2.size; (try simp only [World.size_alloc, World.size_setCell, World.size_drew] at h9); omega)
    have NTB := Lib.hid (((Blk.new w 24 #[.int .i64 a, .int .i64 b]).alloc (Obj.cells #[.int .i64 0, .int .i64 0, .int .i64 0, .int .i64 0, .int .i64 0] 33)).on hb2)
    have NRE := Lib.hid ((show Blk (World.alloc (World.alloc w (Obj.cells #[.int .i64 a, .int .i64 b] 24)) (Obj.cells #[.int .i64 0, .int .i64 0, .int .i64 0, .int .i64 0, .int .i64 0] 33)) (w.heap.size + 1) 33 #[.int .i64 0, .int .i64 0, .int .i64 0, .int .i64 0, .int .i64 0] by have h9 := (Blk.new (World.alloc w (Obj.cells #[.int .i64 a, .int .i64 b] 24)) 33 #[.int .i64 0, .int .i64 0, .int .i64 0, .int .i64 0, .int .i64 0]); (try simp only [World.size_alloc, World.size_setCell] at h9); exact h9).on hb2)
    have TB := NTB; clear NTB
    have RE := NRE; clear NRE
    have Hb2 := Lib.hid (bthen (bal (bal (Below.refl w.heap.size w) (Obj.cells #[.int .i64 a, .int .i64 b] 24)) (Obj.cells #[.int .i64 0, .int .i64 0, .int .i64 0, .int .i64 0, .int .i64 0] 33)) hb2)
    clear hb2
    have qTB0 : w2.cell? ⟨w.heap.size, 0, none⟩ = some (.int .i64 a) := TB.out.cell 0
    have qTB1 : w2.cell? ⟨w.heap.size, 1, none⟩ = some (.int .i64 b) := TB.out.cell 1
    have qTBl := TB.out.lt
    go_wp2_with fail
    clear qTB0 qTB1 qTBl
    refine (Hp.out _).mono ?_; rintro e w3 ⟨⟨x9, y9, rfl⟩, hb3⟩
    have S3 := Lib.hid (show w2.heap.size + 0 ≤ w3.heap.size by have h9 := hb3.size; (try simp only [World.size_alloc, World.size_setCell, World.size_drew] at h9); omega)
    have Z3 := Lib.hid (And.intro S2.out S3.out)
    have NTB := Lib.hid (TB.out.on hb3)
    have NRE := Lib.hid (RE.out.on hb3)
    have TB := NTB; clear NTB
    have RE := NRE; clear NRE
    have Hb3 := Lib.hid (bthen Hb2.out hb3)
    clear hb3
    have qTB0 : w3.cell? ⟨w.heap.size, 0, none⟩ = some (.int .i64 a) := TB.out.cell 0
    have qTB1 : w3.cell? ⟨w.heap.size, 1, none⟩ = some (.int .i64 b) := TB.out.cell 1
    have qTBl := TB.out.lt
    go_wp2_with fail
    clear qTB0 qTB1 qTBl
    refine (Hr.out _).mono ?_; rintro e w4 ⟨rfl, hb4⟩
    have S4 := Lib.hid (show w3.heap.size + 1 ≤ w4.heap.size by have h9 := hb4.size; (try simp only [World.size_alloc, World.size_setCell, World.size_drew] at h9); omega)
    have Z4 := Lib.hid (And.intro Z3.out S4.out)
    have NTB := Lib.hid ((TB.out.alloc (Obj.cells #[.int .i64 PA, .int .i64 PB] 31)).on hb4)
    have NRE := Lib.hid ((RE.out.alloc (Obj.cells #[.int .i64 PA, .int .i64 PB] 31)).on hb4)
    have NPL := Lib.hid ((Blk.new w3 31 #[.int .i64 PA, .int .i64 PB]).on hb4)
    have TB := NTB; clear NTB
    have RE := NRE; clear NRE
    have PL := NPL; clear NPL
    have Hb4 := Lib.hid (bthen (bal Hb3.out (Obj.cells #[.int .i64 PA, .int .i64 PB] 31)) hb4)
    clear hb4
    have qPL0 : w4.cell? ⟨w3.heap.size, 0, none⟩ = some (.int .i64 PA) := PL.out.cell 0
    have qPL1 : w4.cell? ⟨w3.heap.size, 1, none⟩ = some (.int .i64 PB) := PL.out.cell 1
    have qPLl := PL.out.lt
    go_wp2_with fail
    clear qPL0 qPL1 qPLl
    refine (Hg.out _).mono ?_; rintro e w5 ⟨rfl, hb5⟩
    have S5 := Lib.hid (show w4.heap.size + 0 ≤ w5.heap.size by have h9 := hb5.size; (try simp only [World.size_alloc, World.size_setCell, World.size_drew] at h9); omega)
    have Z5 := Lib.hid (And.intro Z4.out S5.out)
    have NTB := Lib.hid (TB.out.on hb5)
    have NRE := Lib.hid (RE.out.on hb5)
    have NPL := Lib.hid (PL.out.on hb5)
    have TB := NTB; clear NTB
    have RE := NRE; clear NRE
    have PL := NPL; clear NPL
    have Hb5 := Lib.hid (bthen Hb4.out hb5)
    clear hb5
    have qRE0 : w5.cell? ⟨w.heap.size + 1, 0, none⟩ = some (.int .i64 0) := RE.out.cell 0
    have qRE1 : w5.cell? ⟨w.heap.size + 1, 1, none⟩ = some (.int .i64 0) := RE.out.cell 1
    have qRE2 : w5.cell? ⟨w.heap.size + 1, 2, none⟩ = some (.int .i64 0) := RE.out.cell 2
    have qRE3 : w5.cell? ⟨w.heap.size + 1, 3, none⟩ = some (.int .i64 0) := RE.out.cell 3
    have qRE4 : w5.cell? ⟨w.heap.size + 1, 4, none⟩ = some (.int .i64 0) := RE.out.cell 4
    have qREl := RE.out.lt
    have qREf0 := RE.out.frozen 0
    have qREf1 := RE.out.frozen 1
    have qREf2 := RE.out.frozen 2
    have qREf3 := RE.out.frozen 3
    have qREf4 := RE.out.frozen 4
    go_wp2
    clear qRE0 qRE1 qRE2 qRE3 qRE4 qREl qREf0 qREf1 qREf2 qREf3 qREf4
    have R9RE := (show Blk (World.setCell (World.setCell (World.setCell (World.setCell (World.setCell w5 ⟨w.heap.size + 1, 0, none⟩ (.int .i64 0)) ⟨w.heap.size + 1, 1, none⟩ (.int .i64 0)) ⟨w.heap.size + 1, 2, none⟩ (.int .i64 0)) ⟨w.heap.size + 1, 3, none⟩ (.int .i64 0)) ⟨w.heap.size + 1, 4, none⟩ (.int .i64 0)) (w.heap.size + 1) 33 #[.int .i64 0, .int .i64 0, .int .i64 0, .int .i64 0, .int .i64 0] by have h9 := (((((RE.out.set 0 (.int .i64 0)).set 1 (.int .i64 0)).set 2 (.int .i64 0)).set 3 (.int .i64 0)).set 4 (.int .i64 0)); simpa using h9)
    have kRE0 := R9RE.cell 0
    have kRE1 := R9RE.cell 1
    have kRE2 := R9RE.cell 2
    have kRE3 := R9RE.cell 3
    have kRE4 := R9RE.cell 4
    simp at kRE0 kRE1 kRE2 kRE3 kRE4
    exact bodyPost_ret (v := .tuple #[.agg #[.int .i64 0, .int .i64 0, .int .i64 0, .int .i64 0, .int .i64 0], .bool false]) (by simp [results, Tryz.results10, go_sem, kRE0, kRE1, kRE2, kRE3, kRE4]) rfl ⟨by rw [HV.out]; rfl, (bst (bst (bst (bst (bst Hb5.out (p := ⟨w.heap.size + 1, 0, none⟩) (show w.heap.size ≤ w.heap.size + 1 by have := Z5.out; (try simp only [World.size_alloc, World.size_setCell, World.size_drew]); omega) (.int .i64 0)) (p := ⟨w.heap.size + 1, 1, none⟩) (show w.heap.size ≤ w.heap.size + 1 by have := Z5.out; (try simp only [World.size_alloc, World.size_setCell, World.size_drew]); omega) (.int .i64 0)) (p := ⟨w.heap.size + 1, 2, none⟩) (show w.heap.size ≤ w.heap.size + 1 by have := Z5.out; (try simp only [World.size_alloc, World.size_setCell, World.size_drew]); omega) (.int .i64 0)) (p := ⟨w.heap.size + 1, 3, none⟩) (show w.heap.size ≤ w.heap.size + 1 by have := Z5.out; (try simp only [World.size_alloc, World.size_setCell, World.size_drew]); omega) (.int .i64 0)) (p := ⟨w.heap.size + 1, 4, none⟩) (show w.heap.size ≤ w.heap.size + 1 by have := Z5.out; (try simp only [World.size_alloc, World.size_setCell, World.size_drew]); omega) (.int .i64 0))⟩
  cases told
  · have HV := Lib.hid (HN.out (by simp))
    go_enter Tryz.func10, Tryz.ntmps10
    go_wp2_with fail
    refine (Ha.out _).mono ?_; rintro e w6 ⟨rfl, hb6⟩
    have S6 := Lib.hid (show w.heap.size + 2 ≤ w6.heap.size by have h9 := hb6.size; (try simp only [World.size_alloc, World.size_setCell, World.size_drew] at h9); omega)
    have NTB := Lib.hid (((Blk.new w 24 #[.int .i64 a, .int .i64 b]).alloc (Obj.cells #[.int .i64 0, .int .i64 0, .int .i64 0, .int .i64 0, .int .i64 0] 33)).on hb6)
    have NRE := Lib.hid ((show Blk (World.alloc (World.alloc w (Obj.cells #[.int .i64 a, .int .i64 b] 24)) (Obj.cells #[.int .i64 0, .int .i64 0, .int .i64 0, .int .i64 0, .int .i64 0] 33)) (w.heap.size + 1) 33 #[.int .i64 0, .int .i64 0, .int .i64 0, .int .i64 0, .int .i64 0] by have h9 := (Blk.new (World.alloc w (Obj.cells #[.int .i64 a, .int .i64 b] 24)) 33 #[.int .i64 0, .int .i64 0, .int .i64 0, .int .i64 0, .int .i64 0]); (try simp only [World.size_alloc, World.size_setCell] at h9); exact h9).on hb6)
    have TB := NTB; clear NTB
    have RE := NRE; clear NRE
    have Hb6 := Lib.hid (bthen (bal (bal (Below.refl w.heap.size w) (Obj.cells #[.int .i64 a, .int .i64 b] 24)) (Obj.cells #[.int .i64 0, .int .i64 0, .int .i64 0, .int .i64 0, .int .i64 0] 33)) hb6)
    clear hb6
    have qTB0 : w6.cell? ⟨w.heap.size, 0, none⟩ = some (.int .i64 a) := TB.out.cell 0
    have qTB1 : w6.cell? ⟨w.heap.size, 1, none⟩ = some (.int .i64 b) := TB.out.cell 1
    have qTBl := TB.out.lt
    go_wp2_with fail
    clear qTB0 qTB1 qTBl
    refine (Hp.out _).mono ?_; rintro e w7 ⟨⟨x9, y9, rfl⟩, hb7⟩
    have S7 := Lib.hid (show w6.heap.size + 0 ≤ w7.heap.size by have h9 := hb7.size; (try simp only [World.size_alloc, World.size_setCell, World.size_drew] at h9); omega)
    have Z7 := Lib.hid (And.intro S6.out S7.out)
    have NTB := Lib.hid (TB.out.on hb7)
    have NRE := Lib.hid (RE.out.on hb7)
    have TB := NTB; clear NTB
    have RE := NRE; clear NRE
    have Hb7 := Lib.hid (bthen Hb6.out hb7)
    clear hb7
    have qTB0 : w7.cell? ⟨w.heap.size, 0, none⟩ = some (.int .i64 a) := TB.out.cell 0
    have qTB1 : w7.cell? ⟨w.heap.size, 1, none⟩ = some (.int .i64 b) := TB.out.cell 1
    have qTBl := TB.out.lt
    go_wp2_with fail
    clear qTB0 qTB1 qTBl
    refine (Hr.out _).mono ?_; rintro e w8 ⟨rfl, hb8⟩
    have S8 := Lib.hid (show w7.heap.size + 1 ≤ w8.heap.size by have h9 := hb8.size; (try simp only [World.size_alloc, World.size_setCell, World.size_drew] at h9); omega)
    have Z8 := Lib.hid (And.intro Z7.out S8.out)
    have NTB := Lib.hid ((TB.out.alloc (Obj.cells #[.int .i64 PA, .int .i64 PB] 31)).on hb8)
    have NRE := Lib.hid ((RE.out.alloc (Obj.cells #[.int .i64 PA, .int .i64 PB] 31)).on hb8)
    have NPL := Lib.hid ((Blk.new w7 31 #[.int .i64 PA, .int .i64 PB]).on hb8)
    have TB := NTB; clear NTB
    have RE := NRE; clear NRE
    have PL := NPL; clear NPL
    have Hb8 := Lib.hid (bthen (bal Hb7.out (Obj.cells #[.int .i64 PA, .int .i64 PB] 31)) hb8)
    clear hb8
    have qPL0 : w8.cell? ⟨w7.heap.size, 0, none⟩ = some (.int .i64 PA) := PL.out.cell 0
    have qPL1 : w8.cell? ⟨w7.heap.size, 1, none⟩ = some (.int .i64 PB) := PL.out.cell 1
    have qPLl := PL.out.lt
    go_wp2_with fail
    clear qPL0 qPL1 qPLl
    refine (Hg.out _).mono ?_; rintro e w9 ⟨rfl, hb9⟩
    have S9 := Lib.hid (show w8.heap.size + 0 ≤ w9.heap.size by have h9 := hb9.size; (try simp only [World.size_alloc, World.size_setCell, World.size_drew] at h9); omega)
    have Z9 := Lib.hid (And.intro Z8.out S9.out)
    have NTB := Lib.hid (TB.out.on hb9)
    have NRE := Lib.hid (RE.out.on hb9)
    have NPL := Lib.hid (PL.out.on hb9)
    have TB := NTB; clear NTB
    have RE := NRE; clear NRE
    have PL := NPL; clear NPL
    have Hb9 := Lib.hid (bthen Hb8.out hb9)
    clear hb9
    have qRE0 : w9.cell? ⟨w.heap.size + 1, 0, none⟩ = some (.int .i64 0) := RE.out.cell 0
    have qRE1 : w9.cell? ⟨w.heap.size + 1, 1, none⟩ = some (.int .i64 0) := RE.out.cell 1
    have qRE2 : w9.cell? ⟨w.heap.size + 1, 2, none⟩ = some (.int .i64 0) := RE.out.cell 2
    have qRE3 : w9.cell? ⟨w.heap.size + 1, 3, none⟩ = some (.int .i64 0) := RE.out.cell 3
    have qRE4 : w9.cell? ⟨w.heap.size + 1, 4, none⟩ = some (.int .i64 0) := RE.out.cell 4
    have qREl := RE.out.lt
    have qREf0 := RE.out.frozen 0
    have qREf1 := RE.out.frozen 1
    have qREf2 := RE.out.frozen 2
    have qREf3 := RE.out.frozen 3
    have qREf4 := RE.out.frozen 4
    go_wp2
    clear qRE0 qRE1 qRE2 qRE3 qRE4 qREl qREf0 qREf1 qREf2 qREf3 qREf4
    have R9RE := (show Blk (World.setCell (World.setCell (World.setCell (World.setCell (World.setCell w9 ⟨w.heap.size + 1, 0, none⟩ (.int .i64 0)) ⟨w.heap.size + 1, 1, none⟩ (.int .i64 0)) ⟨w.heap.size + 1, 2, none⟩ (.int .i64 0)) ⟨w.heap.size + 1, 3, none⟩ (.int .i64 0)) ⟨w.heap.size + 1, 4, none⟩ (.int .i64 0)) (w.heap.size + 1) 33 #[.int .i64 0, .int .i64 0, .int .i64 0, .int .i64 0, .int .i64 0] by have h9 := (((((RE.out.set 0 (.int .i64 0)).set 1 (.int .i64 0)).set 2 (.int .i64 0)).set 3 (.int .i64 0)).set 4 (.int .i64 0)); simpa using h9)
    have kRE0 := R9RE.cell 0
    have kRE1 := R9RE.cell 1
    have kRE2 := R9RE.cell 2
    have kRE3 := R9RE.cell 3
    have kRE4 := R9RE.cell 4
    simp at kRE0 kRE1 kRE2 kRE3 kRE4
    exact bodyPost_ret (v := .tuple #[.agg #[.int .i64 0, .int .i64 0, .int .i64 0, .int .i64 0, .int .i64 0], .bool false]) (by simp [results, Tryz.results10, go_sem, kRE0, kRE1, kRE2, kRE3, kRE4]) rfl ⟨by rw [HV.out]; rfl, (bst (bst (bst (bst (bst Hb9.out (p := ⟨w.heap.size + 1, 0, none⟩) (show w.heap.size ≤ w.heap.size + 1 by have := Z9.out; (try simp only [World.size_alloc, World.size_setCell, World.size_drew]); omega) (.int .i64 0)) (p := ⟨w.heap.size + 1, 1, none⟩) (show w.heap.size ≤ w.heap.size + 1 by have := Z9.out; (try simp only [World.size_alloc, World.size_setCell, World.size_drew]); omega) (.int .i64 0)) (p := ⟨w.heap.size + 1, 2, none⟩) (show w.heap.size ≤ w.heap.size + 1 by have := Z9.out; (try simp only [World.size_alloc, World.size_setCell, World.size_drew]); omega) (.int .i64 0)) (p := ⟨w.heap.size + 1, 3, none⟩) (show w.heap.size ≤ w.heap.size + 1 by have := Z9.out; (try simp only [World.size_alloc, World.size_setCell, World.size_drew]); omega) (.int .i64 0)) (p := ⟨w.heap.size + 1, 4, none⟩) (show w.heap.size ≤ w.heap.size + 1 by have := Z9.out; (try simp only [World.size_alloc, World.size_setCell, World.size_drew]); omega) (.int .i64 0))⟩
  have HV := Lib.hid (HY.out rfl rfl)
  go_enter Tryz.func10, Tryz.ntmps10
  go_wp2_with fail
  refine (Ha.out _).mono ?_; rintro e w10 ⟨rfl, hb10⟩
  have S10 := Lib.hid (show w.heap.size + 2 ≤ w10.heap.size by have h9 := hb10.size; (try simp only [World.size_alloc, World.size_setCell, World.size_drew] at h9); omega)
  have NTB := Lib.hid (((Blk.new w 24 #[.int .i64 a, .int .i64 b]).alloc (Obj.cells #[.int .i64 0, .int .i64 0, .int .i64 0, .int .i64 0, .int .i64 0] 33)).on hb10)
  have NRE := Lib.hid ((show Blk (World.alloc (World.alloc w (Obj.cells #[.int .i64 a, .int .i64 b] 24)) (Obj.cells #[.int .i64 0, .int .i64 0, .int .i64 0, .int .i64 0, .int .i64 0] 33)) (w.heap.size + 1) 33 #[.int .i64 0, .int .i64 0, .int .i64 0, .int .i64 0, .int .i64 0] by have h9 := (Blk.new (World.alloc w (Obj.cells #[.int .i64 a, .int .i64 b] 24)) 33 #[.int .i64 0, .int .i64 0, .int .i64 0, .int .i64 0, .int .i64 0]); (try simp only [World.size_alloc, World.size_setCell] at h9); exact h9).on hb10)
  have TB := NTB; clear NTB
  have RE := NRE; clear NRE
  have Hb10 := Lib.hid (bthen (bal (bal (Below.refl w.heap.size w) (Obj.cells #[.int .i64 a, .int .i64 b] 24)) (Obj.cells #[.int .i64 0, .int .i64 0, .int .i64 0, .int .i64 0, .int .i64 0] 33)) hb10)
  clear hb10
  have qTB0 : w10.cell? ⟨w.heap.size, 0, none⟩ = some (.int .i64 a) := TB.out.cell 0
  have qTB1 : w10.cell? ⟨w.heap.size, 1, none⟩ = some (.int .i64 b) := TB.out.cell 1
  have qTBl := TB.out.lt
  go_wp2_with fail
  clear qTB0 qTB1 qTBl
  refine (Hp.out _).mono ?_; rintro e w11 ⟨⟨x9, y9, rfl⟩, hb11⟩
  have S11 := Lib.hid (show w10.heap.size + 0 ≤ w11.heap.size by have h9 := hb11.size; (try simp only [World.size_alloc, World.size_setCell, World.size_drew] at h9); omega)
  have Z11 := Lib.hid (And.intro S10.out S11.out)
  have NTB := Lib.hid (TB.out.on hb11)
  have NRE := Lib.hid (RE.out.on hb11)
  have TB := NTB; clear NTB
  have RE := NRE; clear NRE
  have Hb11 := Lib.hid (bthen Hb10.out hb11)
  clear hb11
  have qTB0 : w11.cell? ⟨w.heap.size, 0, none⟩ = some (.int .i64 a) := TB.out.cell 0
  have qTB1 : w11.cell? ⟨w.heap.size, 1, none⟩ = some (.int .i64 b) := TB.out.cell 1
  have qTBl := TB.out.lt
  go_wp2_with fail
  clear qTB0 qTB1 qTBl
  refine (Hr.out _).mono ?_; rintro e w12 ⟨rfl, hb12⟩
  have S12 := Lib.hid (show w11.heap.size + 1 ≤ w12.heap.size by have h9 := hb12.size; (try simp only [World.size_alloc, World.size_setCell, World.size_drew] at h9); omega)
  have Z12 := Lib.hid (And.intro Z11.out S12.out)
  have NTB := Lib.hid ((TB.out.alloc (Obj.cells #[.int .i64 PA, .int .i64 PB] 31)).on hb12)
  have NRE := Lib.hid ((RE.out.alloc (Obj.cells #[.int .i64 PA, .int .i64 PB] 31)).on hb12)
  have NPL := Lib.hid ((Blk.new w11 31 #[.int .i64 PA, .int .i64 PB]).on hb12)
  have TB := NTB; clear NTB
  have RE := NRE; clear NRE
  have PL := NPL; clear NPL
  have Hb12 := Lib.hid (bthen (bal Hb11.out (Obj.cells #[.int .i64 PA, .int .i64 PB] 31)) hb12)
  clear hb12
  have qPL0 : w12.cell? ⟨w11.heap.size, 0, none⟩ = some (.int .i64 PA) := PL.out.cell 0
  have qPL1 : w12.cell? ⟨w11.heap.size, 1, none⟩ = some (.int .i64 PB) := PL.out.cell 1
  have qPLl := PL.out.lt
  go_wp2_with fail
  clear qPL0 qPL1 qPLl
  refine (Hg.out _).mono ?_; rintro e w13 ⟨rfl, hb13⟩
  have S13 := Lib.hid (show w12.heap.size + 0 ≤ w13.heap.size by have h9 := hb13.size; (try simp only [World.size_alloc, World.size_setCell, World.size_drew] at h9); omega)
  have Z13 := Lib.hid (And.intro Z12.out S13.out)
  have NTB := Lib.hid (TB.out.on hb13)
  have NRE := Lib.hid (RE.out.on hb13)
  have NPL := Lib.hid (PL.out.on hb13)
  have TB := NTB; clear NTB
  have RE := NRE; clear NRE
  have PL := NPL; clear NPL
  have Hb13 := Lib.hid (bthen Hb12.out hb13)
  clear hb13
  have qPL0 : w13.cell? ⟨w11.heap.size, 0, none⟩ = some (.int .i64 PA) := PL.out.cell 0
  have qPL1 : w13.cell? ⟨w11.heap.size, 1, none⟩ = some (.int .i64 PB) := PL.out.cell 1
  have qPLl := PL.out.lt
  have qRE0 : w13.cell? ⟨w.heap.size + 1, 0, none⟩ = some (.int .i64 0) := RE.out.cell 0
  have qRE1 : w13.cell? ⟨w.heap.size + 1, 1, none⟩ = some (.int .i64 0) := RE.out.cell 1
  have qRE2 : w13.cell? ⟨w.heap.size + 1, 2, none⟩ = some (.int .i64 0) := RE.out.cell 2
  have qRE3 : w13.cell? ⟨w.heap.size + 1, 3, none⟩ = some (.int .i64 0) := RE.out.cell 3
  have qRE4 : w13.cell? ⟨w.heap.size + 1, 4, none⟩ = some (.int .i64 0) := RE.out.cell 4
  have qREl := RE.out.lt
  have qREf0 := RE.out.frozen 0
  have qREf1 := RE.out.frozen 1
  have qREf2 := RE.out.frozen 2
  have qREf3 := RE.out.frozen 3
  have qREf4 := RE.out.frozen 4
  have nPLRE : w11.heap.size ≠ w.heap.size + 1 := by have := Z13.out; (try simp only [World.size_alloc, World.size_setCell, World.size_drew]); omega
  have nREPL : w.heap.size + 1 ≠ w11.heap.size := fun e => nPLRE e.symm
  go_wp2
  clear qPL0 qPL1 qPLl qRE0 qRE1 qRE2 qRE3 qRE4 qREl qREf0 qREf1 qREf2 qREf3 qREf4 nPLRE nREPL
  have R9RE := (show Blk (World.setCell (World.setCell (World.setCell (World.setCell (World.setCell w13 ⟨w.heap.size + 1, 0, none⟩ (.int .i64 PA)) ⟨w.heap.size + 1, 1, none⟩ (.int .i64 PB)) ⟨w.heap.size + 1, 2, none⟩ (.int .i64 lo)) ⟨w.heap.size + 1, 3, none⟩ (.int .i64 hi)) ⟨w.heap.size + 1, 4, none⟩ (.int .i64 0)) (w.heap.size + 1) 33 #[.int .i64 PA, .int .i64 PB, .int .i64 lo, .int .i64 hi, .int .i64 0] by have h9 := (((((RE.out.set 0 (.int .i64 PA)).set 1 (.int .i64 PB)).set 2 (.int .i64 lo)).set 3 (.int .i64 hi)).set 4 (.int .i64 0)); simpa using h9)
  have kRE0 := R9RE.cell 0
  have kRE1 := R9RE.cell 1
  have kRE2 := R9RE.cell 2
  have kRE3 := R9RE.cell 3
  have kRE4 := R9RE.cell 4
  simp at kRE0 kRE1 kRE2 kRE3 kRE4
  exact bodyPost_ret (v := .tuple #[.agg #[.int .i64 PA, .int .i64 PB, .int .i64 lo, .int .i64 hi, .int .i64 0], .bool true]) (by simp [results, Tryz.results10, go_sem, kRE0, kRE1, kRE2, kRE3, kRE4]) rfl ⟨by rw [HV.out]; rfl, (bst (bst (bst (bst (bst Hb13.out (p := ⟨w.heap.size + 1, 0, none⟩) (show w.heap.size ≤ w.heap.size + 1 by have := Z13.out; (try simp only [World.size_alloc, World.size_setCell, World.size_drew]); omega) (.int .i64 PA)) (p := ⟨w.heap.size + 1, 1, none⟩) (show w.heap.size ≤ w.heap.size + 1 by have := Z13.out; (try simp only [World.size_alloc, World.size_setCell, World.size_drew]); omega) (.int .i64 PB)) (p := ⟨w.heap.size + 1, 2, none⟩) (show w.heap.size ≤ w.heap.size + 1 by have := Z13.out; (try simp only [World.size_alloc, World.size_setCell, World.size_drew]); omega) (.int .i64 lo)) (p := ⟨w.heap.size + 1, 3, none⟩) (show w.heap.size ≤ w.heap.size + 1 by have := Z13.out; (try simp only [World.size_alloc, World.size_setCell, World.size_drew]); omega) (.int .i64 hi)) (p := ⟨w.heap.size + 1, 4, none⟩) (show w.heap.size ≤ w.heap.size + 1 by have := Z13.out; (try simp only [World.size_alloc, World.size_setCell, World.size_drew]); omega) (.int .i64 0))⟩
set_option linter.unusedSimpArgs false in
set_option linter.unusedVariables false in
set_option maxRecDepth 8000 in
set_option maxHeartbeats 8000000 in
theorem rankEntryI_any (a b n : Int) (w : World) :
    Calls Tryz.prog 9 #[.agg #[.int .i64 a, .int .i64 b], .int .i64 n] w fun e w' => e = .returned (reW (reI a b n)) ∧ Below w.heap.size w w' := by
  have Ht := Lib.hid (fun w9 => isTwoCurve_any a b w9)
  have Hi := Lib.hid (fun w9 => inside_lit (n := n) (lo := 1) (hi := 60) (k := insB n 1 60) rfl w9)
  obtain ⟨t, htw⟩ : ∃ t, twB a b = t := ⟨_, rfl⟩
  cases t
  · have HV := Lib.hid (show reI a b n = ((0, 0, 0, 0), false) from if_neg (by unfold askB; rw [htw]; simp))
    rw [htw] at Ht
    clear htw
    generalize reI a b n = V at *
    go_enter Tryz.func9, Tryz.ntmps9
    go_wp2_with fail
    refine (Ht.out _).mono ?_; rintro e w1 ⟨rfl, hb1⟩
    have S1 := Lib.hid (show w.heap.size + 2 ≤ w1.heap.size by have h9 := hb1.size; (try simp only [World.size_alloc, World.size_setCell, World.size_drew] at h9); omega)
    have NTB := Lib.hid (((Blk.new w 24 #[.int .i64 a, .int .i64 b]).alloc (Obj.cells #[.int .i64 0, .int .i64 0, .int .i64 0, .int .i64 0, .int .i64 0] 33)).on hb1)
    have NRE := Lib.hid ((show Blk (World.alloc (World.alloc w (Obj.cells #[.int .i64 a, .int .i64 b] 24)) (Obj.cells #[.int .i64 0, .int .i64 0, .int .i64 0, .int .i64 0, .int .i64 0] 33)) (w.heap.size + 1) 33 #[.int .i64 0, .int .i64 0, .int .i64 0, .int .i64 0, .int .i64 0] by have h9 := (Blk.new (World.alloc w (Obj.cells #[.int .i64 a, .int .i64 b] 24)) 33 #[.int .i64 0, .int .i64 0, .int .i64 0, .int .i64 0, .int .i64 0]); (try simp only [World.size_alloc, World.size_setCell] at h9); exact h9).on hb1)
    have TB := NTB; clear NTB
    have RE := NRE; clear NRE
    have Hb1 := Lib.hid (bthen (bal (bal (Below.refl w.heap.size w) (Obj.cells #[.int .i64 a, .int .i64 b] 24)) (Obj.cells #[.int .i64 0, .int .i64 0, .int .i64 0, .int .i64 0, .int .i64 0] 33)) hb1)
    clear hb1
    have qRE0 : w1.cell? ⟨w.heap.size + 1, 0, none⟩ = some (.int .i64 0) := RE.out.cell 0
    have qRE1 : w1.cell? ⟨w.heap.size + 1, 1, none⟩ = some (.int .i64 0) := RE.out.cell 1
    have qRE2 : w1.cell? ⟨w.heap.size + 1, 2, none⟩ = some (.int .i64 0) := RE.out.cell 2
    have qRE3 : w1.cell? ⟨w.heap.size + 1, 3, none⟩ = some (.int .i64 0) := RE.out.cell 3
    have qRE4 : w1.cell? ⟨w.heap.size + 1, 4, none⟩ = some (.int .i64 0) := RE.out.cell 4
    have qREl := RE.out.lt
    have qREf0 := RE.out.frozen 0
    have qREf1 := RE.out.frozen 1
    have qREf2 := RE.out.frozen 2
    have qREf3 := RE.out.frozen 3
    have qREf4 := RE.out.frozen 4
    go_wp2
    clear qRE0 qRE1 qRE2 qRE3 qRE4 qREl qREf0 qREf1 qREf2 qREf3 qREf4
    have R9RE := (show Blk (World.setCell (World.setCell (World.setCell (World.setCell (World.setCell w1 ⟨w.heap.size + 1, 0, none⟩ (.int .i64 0)) ⟨w.heap.size + 1, 1, none⟩ (.int .i64 0)) ⟨w.heap.size + 1, 2, none⟩ (.int .i64 0)) ⟨w.heap.size + 1, 3, none⟩ (.int .i64 0)) ⟨w.heap.size + 1, 4, none⟩ (.int .i64 0)) (w.heap.size + 1) 33 #[.int .i64 0, .int .i64 0, .int .i64 0, .int .i64 0, .int .i64 0] by have h9 := (((((RE.out.set 0 (.int .i64 0)).set 1 (.int .i64 0)).set 2 (.int .i64 0)).set 3 (.int .i64 0)).set 4 (.int .i64 0)); simpa using h9)
    have kRE0 := R9RE.cell 0
    have kRE1 := R9RE.cell 1
    have kRE2 := R9RE.cell 2
    have kRE3 := R9RE.cell 3
    have kRE4 := R9RE.cell 4
    simp at kRE0 kRE1 kRE2 kRE3 kRE4
    exact bodyPost_ret (v := .tuple #[.agg #[.int .i64 0, .int .i64 0, .int .i64 0, .int .i64 0, .int .i64 0], .bool false]) (by simp [results, Tryz.results9, go_sem, kRE0, kRE1, kRE2, kRE3, kRE4]) rfl ⟨by rw [HV.out]; rfl, (bst (bst (bst (bst (bst Hb1.out (p := ⟨w.heap.size + 1, 0, none⟩) (show w.heap.size ≤ w.heap.size + 1 by have := S1.out; (try simp only [World.size_alloc, World.size_setCell, World.size_drew]); omega) (.int .i64 0)) (p := ⟨w.heap.size + 1, 1, none⟩) (show w.heap.size ≤ w.heap.size + 1 by have := S1.out; (try simp only [World.size_alloc, World.size_setCell, World.size_drew]); omega) (.int .i64 0)) (p := ⟨w.heap.size + 1, 2, none⟩) (show w.heap.size ≤ w.heap.size + 1 by have := S1.out; (try simp only [World.size_alloc, World.size_setCell, World.size_drew]); omega) (.int .i64 0)) (p := ⟨w.heap.size + 1, 3, none⟩) (show w.heap.size ≤ w.heap.size + 1 by have := S1.out; (try simp only [World.size_alloc, World.size_setCell, World.size_drew]); omega) (.int .i64 0)) (p := ⟨w.heap.size + 1, 4, none⟩) (show w.heap.size ≤ w.heap.size + 1 by have := S1.out; (try simp only [World.size_alloc, World.size_setCell, World.size_drew]); omega) (.int .i64 0))⟩
  obtain ⟨i, hin⟩ : ∃ i, insB n 1 60 = i := ⟨_, rfl⟩
  cases i
  · have HV := Lib.hid (show reI a b n = ((0, 0, 0, 0), false) from if_neg (by unfold askB; rw [hin]; simp))
    rw [htw] at Ht
    rw [hin] at Hi
    clear htw hin
    generalize reI a b n = V at *
    go_enter Tryz.func9, Tryz.ntmps9
    go_wp2_with fail
    refine (Ht.out _).mono ?_; rintro e w2 ⟨rfl, hb2⟩
    have S2 := Lib.hid (show w.heap.size + 2 ≤ w2.heap.size by have h9 := hb2.size; (try simp only [World.size_alloc, World.size_setCell, World.size_drew] at h9); omega)
    have NTB := Lib.hid (((Blk.new w 24 #[.int .i64 a, .int .i64 b]).alloc (Obj.cells #[.int .i64 0, .int .i64 0, .int .i64 0, .int .i64 0, .int .i64 0] 33)).on hb2)
    have NRE := Lib.hid ((show Blk (World.alloc (World.alloc w (Obj.cells #[.int .i64 a, .int .i64 b] 24)) (Obj.cells #[.int .i64 0, .int .i64 0, .int .i64 0, .int .i64 0, .int .i64 0] 33)) (w.heap.size + 1) 33 #[.int .i64 0, .int .i64 0, .int .i64 0, .int .i64 0, .int .i64 0] by have h9 := (Blk.new (World.alloc w (Obj.cells #[.int .i64 a, .int .i64 b] 24)) 33 #[.int .i64 0, .int .i64 0, .int .i64 0, .int .i64 0, .int .i64 0]); (try simp only [World.size_alloc, World.size_setCell] at h9); exact h9).on hb2)
    have TB := NTB; clear NTB
    have RE := NRE; clear NRE
    have Hb2 := Lib.hid (bthen (bal (bal (Below.refl w.heap.size w) (Obj.cells #[.int .i64 a, .int .i64 b] 24)) (Obj.cells #[.int .i64 0, .int .i64 0, .int .i64 0, .int .i64 0, .int .i64 0] 33)) hb2)
    clear hb2
    have qTB0 : w2.cell? ⟨w.heap.size, 0, none⟩ = some (.int .i64 a) := TB.out.cell 0
    have qTB1 : w2.cell? ⟨w.heap.size, 1, none⟩ = some (.int .i64 b) := TB.out.cell 1
    have qTBl := TB.out.lt
    go_wp2_with fail
    clear qTB0 qTB1 qTBl
    refine (Hi.out _).mono ?_; rintro e w3 ⟨rfl, hb3⟩
    have S3 := Lib.hid (show w2.heap.size + 0 ≤ w3.heap.size by have h9 := hb3.size; (try simp only [World.size_alloc, World.size_setCell, World.size_drew] at h9); omega)
    have Z3 := Lib.hid (And.intro S2.out S3.out)
    have NTB := Lib.hid (TB.out.on hb3)
    have NRE := Lib.hid (RE.out.on hb3)
    have TB := NTB; clear NTB
    have RE := NRE; clear NRE
    have Hb3 := Lib.hid (bthen Hb2.out hb3)
    clear hb3
    have qRE0 : w3.cell? ⟨w.heap.size + 1, 0, none⟩ = some (.int .i64 0) := RE.out.cell 0
    have qRE1 : w3.cell? ⟨w.heap.size + 1, 1, none⟩ = some (.int .i64 0) := RE.out.cell 1
    have qRE2 : w3.cell? ⟨w.heap.size + 1, 2, none⟩ = some (.int .i64 0) := RE.out.cell 2
    have qRE3 : w3.cell? ⟨w.heap.size + 1, 3, none⟩ = some (.int .i64 0) := RE.out.cell 3
    have qRE4 : w3.cell? ⟨w.heap.size + 1, 4, none⟩ = some (.int .i64 0) := RE.out.cell 4
    have qREl := RE.out.lt
    have qREf0 := RE.out.frozen 0
    have qREf1 := RE.out.frozen 1
    have qREf2 := RE.out.frozen 2
    have qREf3 := RE.out.frozen 3
    have qREf4 := RE.out.frozen 4
    go_wp2
    clear qRE0 qRE1 qRE2 qRE3 qRE4 qREl qREf0 qREf1 qREf2 qREf3 qREf4
    have R9RE := (show Blk (World.setCell (World.setCell (World.setCell (World.setCell (World.setCell w3 ⟨w.heap.size + 1, 0, none⟩ (.int .i64 0)) ⟨w.heap.size + 1, 1, none⟩ (.int .i64 0)) ⟨w.heap.size + 1, 2, none⟩ (.int .i64 0)) ⟨w.heap.size + 1, 3, none⟩ (.int .i64 0)) ⟨w.heap.size + 1, 4, none⟩ (.int .i64 0)) (w.heap.size + 1) 33 #[.int .i64 0, .int .i64 0, .int .i64 0, .int .i64 0, .int .i64 0] by have h9 := (((((RE.out.set 0 (.int .i64 0)).set 1 (.int .i64 0)).set 2 (.int .i64 0)).set 3 (.int .i64 0)).set 4 (.int .i64 0)); simpa using h9)
    have kRE0 := R9RE.cell 0
    have kRE1 := R9RE.cell 1
    have kRE2 := R9RE.cell 2
    have kRE3 := R9RE.cell 3
    have kRE4 := R9RE.cell 4
    simp at kRE0 kRE1 kRE2 kRE3 kRE4
    exact bodyPost_ret (v := .tuple #[.agg #[.int .i64 0, .int .i64 0, .int .i64 0, .int .i64 0, .int .i64 0], .bool false]) (by simp [results, Tryz.results9, go_sem, kRE0, kRE1, kRE2, kRE3, kRE4]) rfl ⟨by rw [HV.out]; rfl, (bst (bst (bst (bst (bst Hb3.out (p := ⟨w.heap.size + 1, 0, none⟩) (show w.heap.size ≤ w.heap.size + 1 by have := Z3.out; (try simp only [World.size_alloc, World.size_setCell, World.size_drew]); omega) (.int .i64 0)) (p := ⟨w.heap.size + 1, 1, none⟩) (show w.heap.size ≤ w.heap.size + 1 by have := Z3.out; (try simp only [World.size_alloc, World.size_setCell, World.size_drew]); omega) (.int .i64 0)) (p := ⟨w.heap.size + 1, 2, none⟩) (show w.heap.size ≤ w.heap.size + 1 by have := Z3.out; (try simp only [World.size_alloc, World.size_setCell, World.size_drew]); omega) (.int .i64 0)) (p := ⟨w.heap.size + 1, 3, none⟩) (show w.heap.size ≤ w.heap.size + 1 by have := Z3.out; (try simp only [World.size_alloc, World.size_setCell, World.size_drew]); omega) (.int .i64 0)) (p := ⟨w.heap.size + 1, 4, none⟩) (show w.heap.size ≤ w.heap.size + 1 by have := Z3.out; (try simp only [World.size_alloc, World.size_setCell, World.size_drew]); omega) (.int .i64 0))⟩
  have hask : askB a b n = true := by unfold askB; rw [htw, hin]; rfl
  obtain ⟨hn1, hn2⟩ := ins60 hin
  obtain ⟨ha, hb, -, -⟩ := twB_bd htw
  have Hp := Lib.hid (fun w9 => plainModel_any a b w9 ha hb)
  have h9 := fun w9 => rankBounds_any a b n.toNat w9 htw hn2
  rw [← hn1] at h9
  have Hr := Lib.hid h9
  have He := Lib.hid (fun w9 => isEntry_any (pmA a b) (pmB a b) (rbV a b n.toNat).1 (rbV a b n.toNat).2.1 0 w9)
  have HY := Lib.hid (fun (h1 : curveB (pmA a b) (pmB a b) = true) (h2 : (rbV a b n.toNat).2.2 = true) (h3 : entB (pmA a b) (pmB a b) (rbV a b n.toNat).1 (rbV a b n.toNat).2.1 0 = true) => show reI a b n = ((pmA a b, pmB a b, (rbV a b n.toNat).1, (rbV a b n.toNat).2.1), true) from if_pos ⟨hask, ⟨h1, h2⟩, h3⟩)
  have HN := Lib.hid (fun (hx : ¬ (curveB (pmA a b) (pmB a b) = true ∧ (rbV a b n.toNat).2.2 = true)) => show reI a b n = ((0, 0, 0, 0), false) from if_neg (fun h => hx h.2.1))
  have HN2 := Lib.hid (fun (hx : ¬ entB (pmA a b) (pmB a b) (rbV a b n.toNat).1 (rbV a b n.toNat).2.1 0 = true) => show reI a b n = ((0, 0, 0, 0), false) from if_neg (fun h => hx h.2.2))
  rw [htw] at Ht
  rw [hin] at Hi
  clear hask htw hin hn2 ha hb h9 hn1
  generalize reI a b n = V at *
  generalize rbV a b n.toNat = B at *
  generalize curveB (pmA a b) (pmB a b) = k at *
  generalize pmA a b = PA at *
  generalize pmB a b = PB at *
  obtain ⟨lo, hi, told⟩ := B
  dsimp only at *
  generalize entB PA PB lo hi 0 = en at *
  cases k
  · have HV := Lib.hid (HN.out (by simp))
    go_enter Tryz.func9, Tryz.ntmps9
    go_wp2_with fail
    refine (Ht.out _).mono ?_; rintro e w4 ⟨rfl, hb4⟩
    have S4 := Lib.hid (show w.heap.size + 2 ≤ w4.heap.size by have h9 := hb4.size; (try simp only [World.size_alloc, World.size_setCell, World.size_drew] at h9); omega)
    have NTB := Lib.hid (((Blk.new w 24 #[.int .i64 a, .int .i64 b]).alloc (Obj.cells #[.int .i64 0, .int .i64 0, .int .i64 0, .int .i64 0, .int .i64 0] 33)).on hb4)
    have NRE := Lib.hid ((show Blk (World.alloc (World.alloc w (Obj.cells #[.int .i64 a, .int .i64 b] 24)) (Obj.cells #[.int .i64 0, .int .i64 0, .int .i64 0, .int .i64 0, .int .i64 0] 33)) (w.heap.size + 1) 33 #[.int .i64 0, .int .i64 0, .int .i64 0, .int .i64 0, .int .i64 0] by have h9 := (Blk.new (World.alloc w (Obj.cells #[.int .i64 a, .int .i64 b] 24)) 33 #[.int .i64 0, .int .i64 0, .int .i64 0, .int .i64 0, .int .i64 0]); (try simp only [World.size_alloc, World.size_setCell] at h9); exact h9).on hb4)
    have TB := NTB; clear NTB
    have RE := NRE; clear NRE
    have Hb4 := Lib.hid (bthen (bal (bal (Below.refl w.heap.size w) (Obj.cells #[.int .i64 a, .int .i64 b] 24)) (Obj.cells #[.int .i64 0, .int .i64 0, .int .i64 0, .int .i64 0, .int .i64 0] 33)) hb4)
    clear hb4
    have qTB0 : w4.cell? ⟨w.heap.size, 0, none⟩ = some (.int .i64 a) := TB.out.cell 0
    have qTB1 : w4.cell? ⟨w.heap.size, 1, none⟩ = some (.int .i64 b) := TB.out.cell 1
    have qTBl := TB.out.lt
    go_wp2_with fail
    clear qTB0 qTB1 qTBl
    refine (Hi.out _).mono ?_; rintro e w5 ⟨rfl, hb5⟩
    have S5 := Lib.hid (show w4.heap.size + 0 ≤ w5.heap.size by have h9 := hb5.size; (try simp only [World.size_alloc, World.size_setCell, World.size_drew] at h9); omega)
    have Z5 := Lib.hid (And.intro S4.out S5.out)
    have NTB := Lib.hid (TB.out.on hb5)
    have NRE := Lib.hid (RE.out.on hb5)
    have TB := NTB; clear NTB
    have RE := NRE; clear NRE
    have Hb5 := Lib.hid (bthen Hb4.out hb5)
    clear hb5
    have qTB0 : w5.cell? ⟨w.heap.size, 0, none⟩ = some (.int .i64 a) := TB.out.cell 0
    have qTB1 : w5.cell? ⟨w.heap.size, 1, none⟩ = some (.int .i64 b) := TB.out.cell 1
    have qTBl := TB.out.lt
    go_wp2_with fail
    clear qTB0 qTB1 qTBl
    refine (Hp.out _).mono ?_; rintro e w6 ⟨⟨z9, rfl⟩, hb6⟩
    have S6 := Lib.hid (show w5.heap.size + 0 ≤ w6.heap.size by have h9 := hb6.size; (try simp only [World.size_alloc, World.size_setCell, World.size_drew] at h9); omega)
    have Z6 := Lib.hid (And.intro Z5.out S6.out)
    have NTB := Lib.hid (TB.out.on hb6)
    have NRE := Lib.hid (RE.out.on hb6)
    have TB := NTB; clear NTB
    have RE := NRE; clear NRE
    have Hb6 := Lib.hid (bthen Hb5.out hb6)
    clear hb6
    have qTB0 : w6.cell? ⟨w.heap.size, 0, none⟩ = some (.int .i64 a) := TB.out.cell 0
    have qTB1 : w6.cell? ⟨w.heap.size, 1, none⟩ = some (.int .i64 b) := TB.out.cell 1
    have qTBl := TB.out.lt
    go_wp2_with fail
    clear qTB0 qTB1 qTBl
    refine (Hr.out _).mono ?_; rintro e w7 ⟨rfl, hb7⟩
    have S7 := Lib.hid (show w6.heap.size + 1 ≤ w7.heap.size by have h9 := hb7.size; (try simp only [World.size_alloc, World.size_setCell, World.size_drew] at h9); omega)
    have Z7 := Lib.hid (And.intro Z6.out S7.out)
    have NTB := Lib.hid ((TB.out.alloc (Obj.cells #[.int .i64 0, .int .i64 0] 31)).on hb7)
    have NRE := Lib.hid ((RE.out.alloc (Obj.cells #[.int .i64 0, .int .i64 0] 31)).on hb7)
    have NPL := Lib.hid ((Blk.new w6 31 #[.int .i64 0, .int .i64 0]).on hb7)
    have TB := NTB; clear NTB
    have RE := NRE; clear NRE
    have PL := NPL; clear NPL
    have Hb7 := Lib.hid (bthen (bal Hb6.out (Obj.cells #[.int .i64 0, .int .i64 0] 31)) hb7)
    clear hb7
    have qPL0 : w7.cell? ⟨w6.heap.size, 0, none⟩ = some (.int .i64 0) := PL.out.cell 0
    have qPL1 : w7.cell? ⟨w6.heap.size, 1, none⟩ = some (.int .i64 0) := PL.out.cell 1
    have qPLl := PL.out.lt
    have qRE0 : w7.cell? ⟨w.heap.size + 1, 0, none⟩ = some (.int .i64 0) := RE.out.cell 0
    have qRE1 : w7.cell? ⟨w.heap.size + 1, 1, none⟩ = some (.int .i64 0) := RE.out.cell 1
    have qRE2 : w7.cell? ⟨w.heap.size + 1, 2, none⟩ = some (.int .i64 0) := RE.out.cell 2
    have qRE3 : w7.cell? ⟨w.heap.size + 1, 3, none⟩ = some (.int .i64 0) := RE.out.cell 3
    have qRE4 : w7.cell? ⟨w.heap.size + 1, 4, none⟩ = some (.int .i64 0) := RE.out.cell 4
    have qREl := RE.out.lt
    have qREf0 := RE.out.frozen 0
    have qREf1 := RE.out.frozen 1
    have qREf2 := RE.out.frozen 2
    have qREf3 := RE.out.frozen 3
    have qREf4 := RE.out.frozen 4
    have nPLRE : w6.heap.size ≠ w.heap.size + 1 := by have := Z7.out; (try simp only [World.size_alloc, World.size_setCell, World.size_drew]); omega
    have nREPL : w.heap.size + 1 ≠ w6.heap.size := fun e => nPLRE e.symm
    go_wp2
    clear qPL0 qPL1 qPLl qRE0 qRE1 qRE2 qRE3 qRE4 qREl qREf0 qREf1 qREf2 qREf3 qREf4 nPLRE nREPL
    have R9RE := (show Blk (World.alloc (World.setCell (World.setCell (World.setCell (World.setCell (World.setCell w7 ⟨w.heap.size + 1, 0, none⟩ (.int .i64 0)) ⟨w.heap.size + 1, 1, none⟩ (.int .i64 0)) ⟨w.heap.size + 1, 2, none⟩ (.int .i64 0)) ⟨w.heap.size + 1, 3, none⟩ (.int .i64 0)) ⟨w.heap.size + 1, 4, none⟩ (.int .i64 0)) (Obj.cells #[.int .i64 0, .int .i64 0, .int .i64 lo, .int .i64 hi, .int .i64 0] 33)) (w.heap.size + 1) 33 #[.int .i64 0, .int .i64 0, .int .i64 0, .int .i64 0, .int .i64 0] by have h9 := ((((((RE.out.set 0 (.int .i64 0)).set 1 (.int .i64 0)).set 2 (.int .i64 0)).set 3 (.int .i64 0)).set 4 (.int .i64 0)).alloc (Obj.cells #[.int .i64 0, .int .i64 0, .int .i64 lo, .int .i64 hi, .int .i64 0] 33)); simpa using h9)
    have kRE0 := R9RE.cell 0
    have kRE1 := R9RE.cell 1
    have kRE2 := R9RE.cell 2
    have kRE3 := R9RE.cell 3
    have kRE4 := R9RE.cell 4
    simp at kRE0 kRE1 kRE2 kRE3 kRE4
    exact bodyPost_ret (v := .tuple #[.agg #[.int .i64 0, .int .i64 0, .int .i64 0, .int .i64 0, .int .i64 0], .bool false]) (by simp [results, Tryz.results9, go_sem, kRE0, kRE1, kRE2, kRE3, kRE4]) rfl ⟨by rw [HV.out]; rfl, (bal (bst (bst (bst (bst (bst Hb7.out (p := ⟨w.heap.size + 1, 0, none⟩) (show w.heap.size ≤ w.heap.size + 1 by have := Z7.out; (try simp only [World.size_alloc, World.size_setCell, World.size_drew]); omega) (.int .i64 0)) (p := ⟨w.heap.size + 1, 1, none⟩) (show w.heap.size ≤ w.heap.size + 1 by have := Z7.out; (try simp only [World.size_alloc, World.size_setCell, World.size_drew]); omega) (.int .i64 0)) (p := ⟨w.heap.size + 1, 2, none⟩) (show w.heap.size ≤ w.heap.size + 1 by have := Z7.out; (try simp only [World.size_alloc, World.size_setCell, World.size_drew]); omega) (.int .i64 0)) (p := ⟨w.heap.size + 1, 3, none⟩) (show w.heap.size ≤ w.heap.size + 1 by have := Z7.out; (try simp only [World.size_alloc, World.size_setCell, World.size_drew]); omega) (.int .i64 0)) (p := ⟨w.heap.size + 1, 4, none⟩) (show w.heap.size ≤ w.heap.size + 1 by have := Z7.out; (try simp only [World.size_alloc, World.size_setCell, World.size_drew]); omega) (.int .i64 0)) (Obj.cells #[.int .i64 0, .int .i64 0, .int .i64 lo, .int .i64 hi, .int .i64 0] 33))⟩
  rw [if_pos rfl, if_pos rfl] at Hp
  cases told
  · have HV := Lib.hid (HN.out (by simp))
    go_enter Tryz.func9, Tryz.ntmps9
    go_wp2_with fail
    refine (Ht.out _).mono ?_; rintro e w8 ⟨rfl, hb8⟩
    have S8 := Lib.hid (show w.heap.size + 2 ≤ w8.heap.size by have h9 := hb8.size; (try simp only [World.size_alloc, World.size_setCell, World.size_drew] at h9); omega)
    have NTB := Lib.hid (((Blk.new w 24 #[.int .i64 a, .int .i64 b]).alloc (Obj.cells #[.int .i64 0, .int .i64 0, .int .i64 0, .int .i64 0, .int .i64 0] 33)).on hb8)
    have NRE := Lib.hid ((show Blk (World.alloc (World.alloc w (Obj.cells #[.int .i64 a, .int .i64 b] 24)) (Obj.cells #[.int .i64 0, .int .i64 0, .int .i64 0, .int .i64 0, .int .i64 0] 33)) (w.heap.size + 1) 33 #[.int .i64 0, .int .i64 0, .int .i64 0, .int .i64 0, .int .i64 0] by have h9 := (Blk.new (World.alloc w (Obj.cells #[.int .i64 a, .int .i64 b] 24)) 33 #[.int .i64 0, .int .i64 0, .int .i64 0, .int .i64 0, .int .i64 0]); (try simp only [World.size_alloc, World.size_setCell] at h9); exact h9).on hb8)
    have TB := NTB; clear NTB
    have RE := NRE; clear NRE
    have Hb8 := Lib.hid (bthen (bal (bal (Below.refl w.heap.size w) (Obj.cells #[.int .i64 a, .int .i64 b] 24)) (Obj.cells #[.int .i64 0, .int .i64 0, .int .i64 0, .int .i64 0, .int .i64 0] 33)) hb8)
    clear hb8
    have qTB0 : w8.cell? ⟨w.heap.size, 0, none⟩ = some (.int .i64 a) := TB.out.cell 0
    have qTB1 : w8.cell? ⟨w.heap.size, 1, none⟩ = some (.int .i64 b) := TB.out.cell 1
    have qTBl := TB.out.lt
    go_wp2_with fail
    clear qTB0 qTB1 qTBl
    refine (Hi.out _).mono ?_; rintro e w9 ⟨rfl, hb9⟩
    have S9 := Lib.hid (show w8.heap.size + 0 ≤ w9.heap.size by have h9 := hb9.size; (try simp only [World.size_alloc, World.size_setCell, World.size_drew] at h9); omega)
    have Z9 := Lib.hid (And.intro S8.out S9.out)
    have NTB := Lib.hid (TB.out.on hb9)
    have NRE := Lib.hid (RE.out.on hb9)
    have TB := NTB; clear NTB
    have RE := NRE; clear NRE
    have Hb9 := Lib.hid (bthen Hb8.out hb9)
    clear hb9
    have qTB0 : w9.cell? ⟨w.heap.size, 0, none⟩ = some (.int .i64 a) := TB.out.cell 0
    have qTB1 : w9.cell? ⟨w.heap.size, 1, none⟩ = some (.int .i64 b) := TB.out.cell 1
    have qTBl := TB.out.lt
    go_wp2_with fail
    clear qTB0 qTB1 qTBl
    refine (Hp.out _).mono ?_; rintro e w10 ⟨⟨z9, rfl⟩, hb10⟩
    have S10 := Lib.hid (show w9.heap.size + 0 ≤ w10.heap.size by have h9 := hb10.size; (try simp only [World.size_alloc, World.size_setCell, World.size_drew] at h9); omega)
    have Z10 := Lib.hid (And.intro Z9.out S10.out)
    have NTB := Lib.hid (TB.out.on hb10)
    have NRE := Lib.hid (RE.out.on hb10)
    have TB := NTB; clear NTB
    have RE := NRE; clear NRE
    have Hb10 := Lib.hid (bthen Hb9.out hb10)
    clear hb10
    have qTB0 : w10.cell? ⟨w.heap.size, 0, none⟩ = some (.int .i64 a) := TB.out.cell 0
    have qTB1 : w10.cell? ⟨w.heap.size, 1, none⟩ = some (.int .i64 b) := TB.out.cell 1
    have qTBl := TB.out.lt
    go_wp2_with fail
    clear qTB0 qTB1 qTBl
    refine (Hr.out _).mono ?_; rintro e w11 ⟨rfl, hb11⟩
    have S11 := Lib.hid (show w10.heap.size + 1 ≤ w11.heap.size by have h9 := hb11.size; (try simp only [World.size_alloc, World.size_setCell, World.size_drew] at h9); omega)
    have Z11 := Lib.hid (And.intro Z10.out S11.out)
    have NTB := Lib.hid ((TB.out.alloc (Obj.cells #[.int .i64 PA, .int .i64 PB] 31)).on hb11)
    have NRE := Lib.hid ((RE.out.alloc (Obj.cells #[.int .i64 PA, .int .i64 PB] 31)).on hb11)
    have NPL := Lib.hid ((Blk.new w10 31 #[.int .i64 PA, .int .i64 PB]).on hb11)
    have TB := NTB; clear NTB
    have RE := NRE; clear NRE
    have PL := NPL; clear NPL
    have Hb11 := Lib.hid (bthen (bal Hb10.out (Obj.cells #[.int .i64 PA, .int .i64 PB] 31)) hb11)
    clear hb11
    have qPL0 : w11.cell? ⟨w10.heap.size, 0, none⟩ = some (.int .i64 PA) := PL.out.cell 0
    have qPL1 : w11.cell? ⟨w10.heap.size, 1, none⟩ = some (.int .i64 PB) := PL.out.cell 1
    have qPLl := PL.out.lt
    have qRE0 : w11.cell? ⟨w.heap.size + 1, 0, none⟩ = some (.int .i64 0) := RE.out.cell 0
    have qRE1 : w11.cell? ⟨w.heap.size + 1, 1, none⟩ = some (.int .i64 0) := RE.out.cell 1
    have qRE2 : w11.cell? ⟨w.heap.size + 1, 2, none⟩ = some (.int .i64 0) := RE.out.cell 2
    have qRE3 : w11.cell? ⟨w.heap.size + 1, 3, none⟩ = some (.int .i64 0) := RE.out.cell 3
    have qRE4 : w11.cell? ⟨w.heap.size + 1, 4, none⟩ = some (.int .i64 0) := RE.out.cell 4
    have qREl := RE.out.lt
    have qREf0 := RE.out.frozen 0
    have qREf1 := RE.out.frozen 1
    have qREf2 := RE.out.frozen 2
    have qREf3 := RE.out.frozen 3
    have qREf4 := RE.out.frozen 4
    have nPLRE : w10.heap.size ≠ w.heap.size + 1 := by have := Z11.out; (try simp only [World.size_alloc, World.size_setCell, World.size_drew]); omega
    have nREPL : w.heap.size + 1 ≠ w10.heap.size := fun e => nPLRE e.symm
    go_wp2
    clear qPL0 qPL1 qPLl qRE0 qRE1 qRE2 qRE3 qRE4 qREl qREf0 qREf1 qREf2 qREf3 qREf4 nPLRE nREPL
    have R9RE := (show Blk (World.alloc (World.setCell (World.setCell (World.setCell (World.setCell (World.setCell w11 ⟨w.heap.size + 1, 0, none⟩ (.int .i64 0)) ⟨w.heap.size + 1, 1, none⟩ (.int .i64 0)) ⟨w.heap.size + 1, 2, none⟩ (.int .i64 0)) ⟨w.heap.size + 1, 3, none⟩ (.int .i64 0)) ⟨w.heap.size + 1, 4, none⟩ (.int .i64 0)) (Obj.cells #[.int .i64 PA, .int .i64 PB, .int .i64 lo, .int .i64 hi, .int .i64 0] 33)) (w.heap.size + 1) 33 #[.int .i64 0, .int .i64 0, .int .i64 0, .int .i64 0, .int .i64 0] by have h9 := ((((((RE.out.set 0 (.int .i64 0)).set 1 (.int .i64 0)).set 2 (.int .i64 0)).set 3 (.int .i64 0)).set 4 (.int .i64 0)).alloc (Obj.cells #[.int .i64 PA, .int .i64 PB, .int .i64 lo, .int .i64 hi, .int .i64 0] 33)); simpa using h9)
    have kRE0 := R9RE.cell 0
    have kRE1 := R9RE.cell 1
    have kRE2 := R9RE.cell 2
    have kRE3 := R9RE.cell 3
    have kRE4 := R9RE.cell 4
    simp at kRE0 kRE1 kRE2 kRE3 kRE4
    exact bodyPost_ret (v := .tuple #[.agg #[.int .i64 0, .int .i64 0, .int .i64 0, .int .i64 0, .int .i64 0], .bool false]) (by simp [results, Tryz.results9, go_sem, kRE0, kRE1, kRE2, kRE3, kRE4]) rfl ⟨by rw [HV.out]; rfl, (bal (bst (bst (bst (bst (bst Hb11.out (p := ⟨w.heap.size + 1, 0, none⟩) (show w.heap.size ≤ w.heap.size + 1 by have := Z11.out; (try simp only [World.size_alloc, World.size_setCell, World.size_drew]); omega) (.int .i64 0)) (p := ⟨w.heap.size + 1, 1, none⟩) (show w.heap.size ≤ w.heap.size + 1 by have := Z11.out; (try simp only [World.size_alloc, World.size_setCell, World.size_drew]); omega) (.int .i64 0)) (p := ⟨w.heap.size + 1, 2, none⟩) (show w.heap.size ≤ w.heap.size + 1 by have := Z11.out; (try simp only [World.size_alloc, World.size_setCell, World.size_drew]); omega) (.int .i64 0)) (p := ⟨w.heap.size + 1, 3, none⟩) (show w.heap.size ≤ w.heap.size + 1 by have := Z11.out; (try simp only [World.size_alloc, World.size_setCell, World.size_drew]); omega) (.int .i64 0)) (p := ⟨w.heap.size + 1, 4, none⟩) (show w.heap.size ≤ w.heap.size + 1 by have := Z11.out; (try simp only [World.size_alloc, World.size_setCell, World.size_drew]); omega) (.int .i64 0)) (Obj.cells #[.int .i64 PA, .int .i64 PB, .int .i64 lo, .int .i64 hi, .int .i64 0] 33))⟩
  cases en
  · have HV := Lib.hid (HN2.out (by simp))
    go_enter Tryz.func9, Tryz.ntmps9
    go_wp2_with fail
    refine (Ht.out _).mono ?_; rintro e w12 ⟨rfl, hb12⟩
    have S12 := Lib.hid (show w.heap.size + 2 ≤ w12.heap.size by have h9 := hb12.size; (try simp only [World.size_alloc, World.size_setCell, World.size_drew] at h9); omega)
    have NTB := Lib.hid (((Blk.new w 24 #[.int .i64 a, .int .i64 b]).alloc (Obj.cells #[.int .i64 0, .int .i64 0, .int .i64 0, .int .i64 0, .int .i64 0] 33)).on hb12)
    have NRE := Lib.hid ((show Blk (World.alloc (World.alloc w (Obj.cells #[.int .i64 a, .int .i64 b] 24)) (Obj.cells #[.int .i64 0, .int .i64 0, .int .i64 0, .int .i64 0, .int .i64 0] 33)) (w.heap.size + 1) 33 #[.int .i64 0, .int .i64 0, .int .i64 0, .int .i64 0, .int .i64 0] by have h9 := (Blk.new (World.alloc w (Obj.cells #[.int .i64 a, .int .i64 b] 24)) 33 #[.int .i64 0, .int .i64 0, .int .i64 0, .int .i64 0, .int .i64 0]); (try simp only [World.size_alloc, World.size_setCell] at h9); exact h9).on hb12)
    have TB := NTB; clear NTB
    have RE := NRE; clear NRE
    have Hb12 := Lib.hid (bthen (bal (bal (Below.refl w.heap.size w) (Obj.cells #[.int .i64 a, .int .i64 b] 24)) (Obj.cells #[.int .i64 0, .int .i64 0, .int .i64 0, .int .i64 0, .int .i64 0] 33)) hb12)
    clear hb12
    have qTB0 : w12.cell? ⟨w.heap.size, 0, none⟩ = some (.int .i64 a) := TB.out.cell 0
    have qTB1 : w12.cell? ⟨w.heap.size, 1, none⟩ = some (.int .i64 b) := TB.out.cell 1
    have qTBl := TB.out.lt
    go_wp2_with fail
    clear qTB0 qTB1 qTBl
    refine (Hi.out _).mono ?_; rintro e w13 ⟨rfl, hb13⟩
    have S13 := Lib.hid (show w12.heap.size + 0 ≤ w13.heap.size by have h9 := hb13.size; (try simp only [World.size_alloc, World.size_setCell, World.size_drew] at h9); omega)
    have Z13 := Lib.hid (And.intro S12.out S13.out)
    have NTB := Lib.hid (TB.out.on hb13)
    have NRE := Lib.hid (RE.out.on hb13)
    have TB := NTB; clear NTB
    have RE := NRE; clear NRE
    have Hb13 := Lib.hid (bthen Hb12.out hb13)
    clear hb13
    have qTB0 : w13.cell? ⟨w.heap.size, 0, none⟩ = some (.int .i64 a) := TB.out.cell 0
    have qTB1 : w13.cell? ⟨w.heap.size, 1, none⟩ = some (.int .i64 b) := TB.out.cell 1
    have qTBl := TB.out.lt
    go_wp2_with fail
    clear qTB0 qTB1 qTBl
    refine (Hp.out _).mono ?_; rintro e w14 ⟨⟨z9, rfl⟩, hb14⟩
    have S14 := Lib.hid (show w13.heap.size + 0 ≤ w14.heap.size by have h9 := hb14.size; (try simp only [World.size_alloc, World.size_setCell, World.size_drew] at h9); omega)
    have Z14 := Lib.hid (And.intro Z13.out S14.out)
    have NTB := Lib.hid (TB.out.on hb14)
    have NRE := Lib.hid (RE.out.on hb14)
    have TB := NTB; clear NTB
    have RE := NRE; clear NRE
    have Hb14 := Lib.hid (bthen Hb13.out hb14)
    clear hb14
    have qTB0 : w14.cell? ⟨w.heap.size, 0, none⟩ = some (.int .i64 a) := TB.out.cell 0
    have qTB1 : w14.cell? ⟨w.heap.size, 1, none⟩ = some (.int .i64 b) := TB.out.cell 1
    have qTBl := TB.out.lt
    go_wp2_with fail
    clear qTB0 qTB1 qTBl
    refine (Hr.out _).mono ?_; rintro e w15 ⟨rfl, hb15⟩
    have S15 := Lib.hid (show w14.heap.size + 1 ≤ w15.heap.size by have h9 := hb15.size; (try simp only [World.size_alloc, World.size_setCell, World.size_drew] at h9); omega)
    have Z15 := Lib.hid (And.intro Z14.out S15.out)
    have NTB := Lib.hid ((TB.out.alloc (Obj.cells #[.int .i64 PA, .int .i64 PB] 31)).on hb15)
    have NRE := Lib.hid ((RE.out.alloc (Obj.cells #[.int .i64 PA, .int .i64 PB] 31)).on hb15)
    have NPL := Lib.hid ((Blk.new w14 31 #[.int .i64 PA, .int .i64 PB]).on hb15)
    have TB := NTB; clear NTB
    have RE := NRE; clear NRE
    have PL := NPL; clear NPL
    have Hb15 := Lib.hid (bthen (bal Hb14.out (Obj.cells #[.int .i64 PA, .int .i64 PB] 31)) hb15)
    clear hb15
    have qPL0 : w15.cell? ⟨w14.heap.size, 0, none⟩ = some (.int .i64 PA) := PL.out.cell 0
    have qPL1 : w15.cell? ⟨w14.heap.size, 1, none⟩ = some (.int .i64 PB) := PL.out.cell 1
    have qPLl := PL.out.lt
    go_wp2_with fail
    clear qPL0 qPL1 qPLl
    refine (He.out _).mono ?_; rintro e w16 ⟨rfl, hb16⟩
    have S16 := Lib.hid (show w15.heap.size + 1 ≤ w16.heap.size by have h9 := hb16.size; (try simp only [World.size_alloc, World.size_setCell, World.size_drew] at h9); omega)
    have Z16 := Lib.hid (And.intro Z15.out S16.out)
    have NTB := Lib.hid ((TB.out.alloc (Obj.cells #[.int .i64 PA, .int .i64 PB, .int .i64 lo, .int .i64 hi, .int .i64 0] 33)).on hb16)
    have NRE := Lib.hid ((RE.out.alloc (Obj.cells #[.int .i64 PA, .int .i64 PB, .int .i64 lo, .int .i64 hi, .int .i64 0] 33)).on hb16)
    have NPL := Lib.hid ((PL.out.alloc (Obj.cells #[.int .i64 PA, .int .i64 PB, .int .i64 lo, .int .i64 hi, .int .i64 0] 33)).on hb16)
    have NEE := Lib.hid ((Blk.new w15 33 #[.int .i64 PA, .int .i64 PB, .int .i64 lo, .int .i64 hi, .int .i64 0]).on hb16)
    have TB := NTB; clear NTB
    have RE := NRE; clear NRE
    have PL := NPL; clear NPL
    have EE := NEE; clear NEE
    have Hb16 := Lib.hid (bthen (bal Hb15.out (Obj.cells #[.int .i64 PA, .int .i64 PB, .int .i64 lo, .int .i64 hi, .int .i64 0] 33)) hb16)
    clear hb16
    have qEE0 : w16.cell? ⟨w15.heap.size, 0, none⟩ = some (.int .i64 PA) := EE.out.cell 0
    have qEE1 : w16.cell? ⟨w15.heap.size, 1, none⟩ = some (.int .i64 PB) := EE.out.cell 1
    have qEE2 : w16.cell? ⟨w15.heap.size, 2, none⟩ = some (.int .i64 lo) := EE.out.cell 2
    have qEE3 : w16.cell? ⟨w15.heap.size, 3, none⟩ = some (.int .i64 hi) := EE.out.cell 3
    have qEE4 : w16.cell? ⟨w15.heap.size, 4, none⟩ = some (.int .i64 0) := EE.out.cell 4
    have qEEl := EE.out.lt
    have qRE0 : w16.cell? ⟨w.heap.size + 1, 0, none⟩ = some (.int .i64 0) := RE.out.cell 0
    have qRE1 : w16.cell? ⟨w.heap.size + 1, 1, none⟩ = some (.int .i64 0) := RE.out.cell 1
    have qRE2 : w16.cell? ⟨w.heap.size + 1, 2, none⟩ = some (.int .i64 0) := RE.out.cell 2
    have qRE3 : w16.cell? ⟨w.heap.size + 1, 3, none⟩ = some (.int .i64 0) := RE.out.cell 3
    have qRE4 : w16.cell? ⟨w.heap.size + 1, 4, none⟩ = some (.int .i64 0) := RE.out.cell 4
    have qREl := RE.out.lt
    have qREf0 := RE.out.frozen 0
    have qREf1 := RE.out.frozen 1
    have qREf2 := RE.out.frozen 2
    have qREf3 := RE.out.frozen 3
    have qREf4 := RE.out.frozen 4
    have nEERE : w15.heap.size ≠ w.heap.size + 1 := by have := Z16.out; (try simp only [World.size_alloc, World.size_setCell, World.size_drew]); omega
    have nREEE : w.heap.size + 1 ≠ w15.heap.size := fun e => nEERE e.symm
    go_wp2
    clear qEE0 qEE1 qEE2 qEE3 qEE4 qEEl qRE0 qRE1 qRE2 qRE3 qRE4 qREl qREf0 qREf1 qREf2 qREf3 qREf4 nEERE nREEE
    have R9RE := (show Blk (World.setCell (World.setCell (World.setCell (World.setCell (World.setCell w16 ⟨w.heap.size + 1, 0, none⟩ (.int .i64 0)) ⟨w.heap.size + 1, 1, none⟩ (.int .i64 0)) ⟨w.heap.size + 1, 2, none⟩ (.int .i64 0)) ⟨w.heap.size + 1, 3, none⟩ (.int .i64 0)) ⟨w.heap.size + 1, 4, none⟩ (.int .i64 0)) (w.heap.size + 1) 33 #[.int .i64 0, .int .i64 0, .int .i64 0, .int .i64 0, .int .i64 0] by have h9 := (((((RE.out.set 0 (.int .i64 0)).set 1 (.int .i64 0)).set 2 (.int .i64 0)).set 3 (.int .i64 0)).set 4 (.int .i64 0)); simpa using h9)
    have kRE0 := R9RE.cell 0
    have kRE1 := R9RE.cell 1
    have kRE2 := R9RE.cell 2
    have kRE3 := R9RE.cell 3
    have kRE4 := R9RE.cell 4
    simp at kRE0 kRE1 kRE2 kRE3 kRE4
    exact bodyPost_ret (v := .tuple #[.agg #[.int .i64 0, .int .i64 0, .int .i64 0, .int .i64 0, .int .i64 0], .bool false]) (by simp [results, Tryz.results9, go_sem, kRE0, kRE1, kRE2, kRE3, kRE4]) rfl ⟨by rw [HV.out]; rfl, (bst (bst (bst (bst (bst Hb16.out (p := ⟨w.heap.size + 1, 0, none⟩) (show w.heap.size ≤ w.heap.size + 1 by have := Z16.out; (try simp only [World.size_alloc, World.size_setCell, World.size_drew]); omega) (.int .i64 0)) (p := ⟨w.heap.size + 1, 1, none⟩) (show w.heap.size ≤ w.heap.size + 1 by have := Z16.out; (try simp only [World.size_alloc, World.size_setCell, World.size_drew]); omega) (.int .i64 0)) (p := ⟨w.heap.size + 1, 2, none⟩) (show w.heap.size ≤ w.heap.size + 1 by have := Z16.out; (try simp only [World.size_alloc, World.size_setCell, World.size_drew]); omega) (.int .i64 0)) (p := ⟨w.heap.size + 1, 3, none⟩) (show w.heap.size ≤ w.heap.size + 1 by have := Z16.out; (try simp only [World.size_alloc, World.size_setCell, World.size_drew]); omega) (.int .i64 0)) (p := ⟨w.heap.size + 1, 4, none⟩) (show w.heap.size ≤ w.heap.size + 1 by have := Z16.out; (try simp only [World.size_alloc, World.size_setCell, World.size_drew]); omega) (.int .i64 0))⟩
  have HV := Lib.hid (HY.out rfl rfl rfl)
  go_enter Tryz.func9, Tryz.ntmps9
  go_wp2_with fail
  refine (Ht.out _).mono ?_; rintro e w17 ⟨rfl, hb17⟩
  have S17 := Lib.hid (show w.heap.size + 2 ≤ w17.heap.size by have h9 := hb17.size; (try simp only [World.size_alloc, World.size_setCell, World.size_drew] at h9); omega)
  have NTB := Lib.hid (((Blk.new w 24 #[.int .i64 a, .int .i64 b]).alloc (Obj.cells #[.int .i64 0, .int .i64 0, .int .i64 0, .int .i64 0, .int .i64 0] 33)).on hb17)
  have NRE := Lib.hid ((show Blk (World.alloc (World.alloc w (Obj.cells #[.int .i64 a, .int .i64 b] 24)) (Obj.cells #[.int .i64 0, .int .i64 0, .int .i64 0, .int .i64 0, .int .i64 0] 33)) (w.heap.size + 1) 33 #[.int .i64 0, .int .i64 0, .int .i64 0, .int .i64 0, .int .i64 0] by have h9 := (Blk.new (World.alloc w (Obj.cells #[.int .i64 a, .int .i64 b] 24)) 33 #[.int .i64 0, .int .i64 0, .int .i64 0, .int .i64 0, .int .i64 0]); (try simp only [World.size_alloc, World.size_setCell] at h9); exact h9).on hb17)
  have TB := NTB; clear NTB
  have RE := NRE; clear NRE
  have Hb17 := Lib.hid (bthen (bal (bal (Below.refl w.heap.size w) (Obj.cells #[.int .i64 a, .int .i64 b] 24)) (Obj.cells #[.int .i64 0, .int .i64 0, .int .i64 0, .int .i64 0, .int .i64 0] 33)) hb17)
  clear hb17
  have qTB0 : w17.cell? ⟨w.heap.size, 0, none⟩ = some (.int .i64 a) := TB.out.cell 0
  have qTB1 : w17.cell? ⟨w.heap.size, 1, none⟩ = some (.int .i64 b) := TB.out.cell 1
  have qTBl := TB.out.lt
  go_wp2_with fail
  clear qTB0 qTB1 qTBl
  refine (Hi.out _).mono ?_; rintro e w18 ⟨rfl, hb18⟩
  have S18 := Lib.hid (show w17.heap.size + 0 ≤ w18.heap.size by have h9 := hb18.size; (try simp only [World.size_alloc, World.size_setCell, World.size_drew] at h9); omega)
  have Z18 := Lib.hid (And.intro S17.out S18.out)
  have NTB := Lib.hid (TB.out.on hb18)
  have NRE := Lib.hid (RE.out.on hb18)
  have TB := NTB; clear NTB
  have RE := NRE; clear NRE
  have Hb18 := Lib.hid (bthen Hb17.out hb18)
  clear hb18
  have qTB0 : w18.cell? ⟨w.heap.size, 0, none⟩ = some (.int .i64 a) := TB.out.cell 0
  have qTB1 : w18.cell? ⟨w.heap.size, 1, none⟩ = some (.int .i64 b) := TB.out.cell 1
  have qTBl := TB.out.lt
  go_wp2_with fail
  clear qTB0 qTB1 qTBl
  refine (Hp.out _).mono ?_; rintro e w19 ⟨⟨z9, rfl⟩, hb19⟩
  have S19 := Lib.hid (show w18.heap.size + 0 ≤ w19.heap.size by have h9 := hb19.size; (try simp only [World.size_alloc, World.size_setCell, World.size_drew] at h9); omega)
  have Z19 := Lib.hid (And.intro Z18.out S19.out)
  have NTB := Lib.hid (TB.out.on hb19)
  have NRE := Lib.hid (RE.out.on hb19)
  have TB := NTB; clear NTB
  have RE := NRE; clear NRE
  have Hb19 := Lib.hid (bthen Hb18.out hb19)
  clear hb19
  have qTB0 : w19.cell? ⟨w.heap.size, 0, none⟩ = some (.int .i64 a) := TB.out.cell 0
  have qTB1 : w19.cell? ⟨w.heap.size, 1, none⟩ = some (.int .i64 b) := TB.out.cell 1
  have qTBl := TB.out.lt
  go_wp2_with fail
  clear qTB0 qTB1 qTBl
  refine (Hr.out _).mono ?_; rintro e w20 ⟨rfl, hb20⟩
  have S20 := Lib.hid (show w19.heap.size + 1 ≤ w20.heap.size by have h9 := hb20.size; (try simp only [World.size_alloc, World.size_setCell, World.size_drew] at h9); omega)
  have Z20 := Lib.hid (And.intro Z19.out S20.out)
  have NTB := Lib.hid ((TB.out.alloc (Obj.cells #[.int .i64 PA, .int .i64 PB] 31)).on hb20)
  have NRE := Lib.hid ((RE.out.alloc (Obj.cells #[.int .i64 PA, .int .i64 PB] 31)).on hb20)
  have NPL := Lib.hid ((Blk.new w19 31 #[.int .i64 PA, .int .i64 PB]).on hb20)
  have TB := NTB; clear NTB
  have RE := NRE; clear NRE
  have PL := NPL; clear NPL
  have Hb20 := Lib.hid (bthen (bal Hb19.out (Obj.cells #[.int .i64 PA, .int .i64 PB] 31)) hb20)
  clear hb20
  have qPL0 : w20.cell? ⟨w19.heap.size, 0, none⟩ = some (.int .i64 PA) := PL.out.cell 0
  have qPL1 : w20.cell? ⟨w19.heap.size, 1, none⟩ = some (.int .i64 PB) := PL.out.cell 1
  have qPLl := PL.out.lt
  go_wp2_with fail
  clear qPL0 qPL1 qPLl
  refine (He.out _).mono ?_; rintro e w21 ⟨rfl, hb21⟩
  have S21 := Lib.hid (show w20.heap.size + 1 ≤ w21.heap.size by have h9 := hb21.size; (try simp only [World.size_alloc, World.size_setCell, World.size_drew] at h9); omega)
  have Z21 := Lib.hid (And.intro Z20.out S21.out)
  have NTB := Lib.hid ((TB.out.alloc (Obj.cells #[.int .i64 PA, .int .i64 PB, .int .i64 lo, .int .i64 hi, .int .i64 0] 33)).on hb21)
  have NRE := Lib.hid ((RE.out.alloc (Obj.cells #[.int .i64 PA, .int .i64 PB, .int .i64 lo, .int .i64 hi, .int .i64 0] 33)).on hb21)
  have NPL := Lib.hid ((PL.out.alloc (Obj.cells #[.int .i64 PA, .int .i64 PB, .int .i64 lo, .int .i64 hi, .int .i64 0] 33)).on hb21)
  have NEE := Lib.hid ((Blk.new w20 33 #[.int .i64 PA, .int .i64 PB, .int .i64 lo, .int .i64 hi, .int .i64 0]).on hb21)
  have TB := NTB; clear NTB
  have RE := NRE; clear NRE
  have PL := NPL; clear NPL
  have EE := NEE; clear NEE
  have Hb21 := Lib.hid (bthen (bal Hb20.out (Obj.cells #[.int .i64 PA, .int .i64 PB, .int .i64 lo, .int .i64 hi, .int .i64 0] 33)) hb21)
  clear hb21
  have qEE0 : w21.cell? ⟨w20.heap.size, 0, none⟩ = some (.int .i64 PA) := EE.out.cell 0
  have qEE1 : w21.cell? ⟨w20.heap.size, 1, none⟩ = some (.int .i64 PB) := EE.out.cell 1
  have qEE2 : w21.cell? ⟨w20.heap.size, 2, none⟩ = some (.int .i64 lo) := EE.out.cell 2
  have qEE3 : w21.cell? ⟨w20.heap.size, 3, none⟩ = some (.int .i64 hi) := EE.out.cell 3
  have qEE4 : w21.cell? ⟨w20.heap.size, 4, none⟩ = some (.int .i64 0) := EE.out.cell 4
  have qEEl := EE.out.lt
  have qRE0 : w21.cell? ⟨w.heap.size + 1, 0, none⟩ = some (.int .i64 0) := RE.out.cell 0
  have qRE1 : w21.cell? ⟨w.heap.size + 1, 1, none⟩ = some (.int .i64 0) := RE.out.cell 1
  have qRE2 : w21.cell? ⟨w.heap.size + 1, 2, none⟩ = some (.int .i64 0) := RE.out.cell 2
  have qRE3 : w21.cell? ⟨w.heap.size + 1, 3, none⟩ = some (.int .i64 0) := RE.out.cell 3
  have qRE4 : w21.cell? ⟨w.heap.size + 1, 4, none⟩ = some (.int .i64 0) := RE.out.cell 4
  have qREl := RE.out.lt
  have qREf0 := RE.out.frozen 0
  have qREf1 := RE.out.frozen 1
  have qREf2 := RE.out.frozen 2
  have qREf3 := RE.out.frozen 3
  have qREf4 := RE.out.frozen 4
  have nEERE : w20.heap.size ≠ w.heap.size + 1 := by have := Z21.out; (try simp only [World.size_alloc, World.size_setCell, World.size_drew]); omega
  have nREEE : w.heap.size + 1 ≠ w20.heap.size := fun e => nEERE e.symm
  go_wp2
  clear qEE0 qEE1 qEE2 qEE3 qEE4 qEEl qRE0 qRE1 qRE2 qRE3 qRE4 qREl qREf0 qREf1 qREf2 qREf3 qREf4 nEERE nREEE
  have R9RE := (show Blk (World.setCell (World.setCell (World.setCell (World.setCell (World.setCell w21 ⟨w.heap.size + 1, 0, none⟩ (.int .i64 PA)) ⟨w.heap.size + 1, 1, none⟩ (.int .i64 PB)) ⟨w.heap.size + 1, 2, none⟩ (.int .i64 lo)) ⟨w.heap.size + 1, 3, none⟩ (.int .i64 hi)) ⟨w.heap.size + 1, 4, none⟩ (.int .i64 0)) (w.heap.size + 1) 33 #[.int .i64 PA, .int .i64 PB, .int .i64 lo, .int .i64 hi, .int .i64 0] by have h9 := (((((RE.out.set 0 (.int .i64 PA)).set 1 (.int .i64 PB)).set 2 (.int .i64 lo)).set 3 (.int .i64 hi)).set 4 (.int .i64 0)); simpa using h9)
  have kRE0 := R9RE.cell 0
  have kRE1 := R9RE.cell 1
  have kRE2 := R9RE.cell 2
  have kRE3 := R9RE.cell 3
  have kRE4 := R9RE.cell 4
  simp at kRE0 kRE1 kRE2 kRE3 kRE4
  exact bodyPost_ret (v := .tuple #[.agg #[.int .i64 PA, .int .i64 PB, .int .i64 lo, .int .i64 hi, .int .i64 0], .bool true]) (by simp [results, Tryz.results9, go_sem, kRE0, kRE1, kRE2, kRE3, kRE4]) rfl ⟨by rw [HV.out]; rfl, (bst (bst (bst (bst (bst Hb21.out (p := ⟨w.heap.size + 1, 0, none⟩) (show w.heap.size ≤ w.heap.size + 1 by have := Z21.out; (try simp only [World.size_alloc, World.size_setCell, World.size_drew]); omega) (.int .i64 PA)) (p := ⟨w.heap.size + 1, 1, none⟩) (show w.heap.size ≤ w.heap.size + 1 by have := Z21.out; (try simp only [World.size_alloc, World.size_setCell, World.size_drew]); omega) (.int .i64 PB)) (p := ⟨w.heap.size + 1, 2, none⟩) (show w.heap.size ≤ w.heap.size + 1 by have := Z21.out; (try simp only [World.size_alloc, World.size_setCell, World.size_drew]); omega) (.int .i64 lo)) (p := ⟨w.heap.size + 1, 3, none⟩) (show w.heap.size ≤ w.heap.size + 1 by have := Z21.out; (try simp only [World.size_alloc, World.size_setCell, World.size_drew]); omega) (.int .i64 hi)) (p := ⟨w.heap.size + 1, 4, none⟩) (show w.heap.size ≤ w.heap.size + 1 by have := Z21.out; (try simp only [World.size_alloc, World.size_setCell, World.size_drew]); omega) (.int .i64 0))⟩
end
end Go.Proofs.YthdfpfhkmfmnbaaGreat
