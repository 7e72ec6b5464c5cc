/- The law FnRankClaims: its walk. Conditions: none. Printed by gen_rclaw.py. -/
import Derived.Test.YthdfpfhkmfmnbaaGreatRcM22
import Derived.Deep.DeepCutAuto
namespace Go.Proofs.YthdfpfhkmfmnbaaGreat
open Go Go.RowKit Go.Lib

theorem knI_lit {a b n : Int} {x y : Bool} (h : knV a b n = (x, y)) (w : World) : Calls Tryz.prog 5 #[.agg #[.int .i64 a, .int .i64 b], .int .i64 n] w fun r w' => r = .returned (.tuple #[.bool x, .bool y]) ∧ Below w.heap.size w w' := by
  have h1 := knownI_any a b n w
  rw [h] at h1
  exact h1
theorem knS_lit {a b n : Int} {x y : Bool} (h : knV a b n = (x, y)) (w : World) : Calls Tryz.prog 6 #[.agg #[.int .i64 a, .int .i64 b], .int .i64 n] w fun r w' => r = .returned (.tuple #[.bool x, .bool y]) ∧ Below w.heap.size w w' := by
  have h1 := knownS_any a b n w
  rw [h] at h1
  exact h1
theorem opI_lit {a b n x : Int} {y : Bool} (h : opV a b n = (x, y)) (w : World) : Calls Tryz.prog 7 #[.agg #[.int .i64 a, .int .i64 b], .int .i64 n] w fun r w' => r = .returned (.tuple #[.int .i64 x, .bool y]) ∧ Below w.heap.size w w' := by
  have h1 := openI_any a b n w
  rw [h] at h1
  exact h1
theorem opS_lit {a b n x : Int} {y : Bool} (h : opV a b n = (x, y)) (w : World) : Calls Tryz.prog 8 #[.agg #[.int .i64 a, .int .i64 b], .int .i64 n] w fun r w' => r = .returned (.tuple #[.int .i64 x, .bool y]) ∧ Below w.heap.size w w' := by
  have h1 := openS_any a b n w
  rw [h] at h1
  exact h1
theorem lsI_lit {a b n x : Int} {y : Bool} (h : lsV a b n = (x, y)) (w : World) : Calls Tryz.prog 15 #[.agg #[.int .i64 a, .int .i64 b], .int .i64 n] w fun r w' => r = .returned (.tuple #[.int .i64 x, .bool y]) ∧ Below w.heap.size w w' := by
  have h1 := leastI_any a b n w
  rw [h] at h1
  exact h1
theorem lsS_lit {a b n x : Int} {y : Bool} (h : lsV a b n = (x, y)) (w : World) : Calls Tryz.prog 16 #[.agg #[.int .i64 a, .int .i64 b], .int .i64 n] w fun r w' => r = .returned (.tuple #[.int .i64 x, .bool y]) ∧ Below w.heap.size w w' := by
  have h1 := leastS_any a b n w
  rw [h] at h1
  exact h1
theorem chI_lit {a b p q n : Int} {x y : Bool} (h : chV a b p q n = (x, y)) (w : World) : Calls Tryz.prog 12 #[.agg #[.int .i64 a, .int .i64 b], .int .i64 p, .int .i64 q, .int .i64 n] w fun r w' => r = .returned (.tuple #[.bool x, .bool y]) ∧ Below w.heap.size w w' := by
  have h1 := claimI_any a b p q n w
  rw [h] at h1
  exact h1
theorem chS_lit {a b p q n : Int} {x y : Bool} (h : chV a b p q n = (x, y)) (w : World) : Calls Tryz.prog 13 #[.agg #[.int .i64 a, .int .i64 b], .int .i64 p, .int .i64 q, .int .i64 n] w fun r w' => r = .returned (.tuple #[.bool x, .bool y]) ∧ Below w.heap.size w w' := by
  have h1 := claimS_any a b p q n w
  rw [h] at h1
  exact h1
theorem reI_lit {a b n x y lo hi : Int} {k : Bool} (h : reS a b n = ((x, y, lo, hi), k)) (w : World) : Calls Tryz.prog 9 #[.agg #[.int .i64 a, .int .i64 b], .int .i64 n] w fun r w' => r = .returned (.tuple #[.agg #[.int .i64 x, .int .i64 y, .int .i64 lo, .int .i64 hi, .int .i64 0], .bool k]) ∧ Below w.heap.size w w' := by
  have h1 := rankEntryI_any a b n w
  rw [re_eq] at h1
  rw [h] at h1
  exact h1
theorem reS_lit {a b n x y lo hi : Int} {k : Bool} (h : reS a b n = ((x, y, lo, hi), k)) (w : World) : Calls Tryz.prog 10 #[.agg #[.int .i64 a, .int .i64 b], .int .i64 n] w fun r w' => r = .returned (.tuple #[.agg #[.int .i64 x, .int .i64 y, .int .i64 lo, .int .i64 hi, .int .i64 0], .bool k]) ∧ Below w.heap.size w w' := by
  have h1 := rankEntryS_any a b n w
  rw [h] at h1
  exact h1
theorem fr_lit {a b n p q : Int} (hk : askB a b n = true) (h : frV a b n.toNat = (p, q, true)) (w : World) : Calls Tryz.prog 17 #[.agg #[.int .i64 a, .int .i64 b], .int .i64 n] w fun r w' => r = .returned (.tuple #[.int .i64 p, .int .i64 q, .bool true]) ∧ Below w.heap.size w w' := by
  have h1 := foundRanksX_any a b n w hk
  rw [h] at h1
  exact h1
theorem rb_lit {a b n p q : Int} (hk : askB a b n = true) (h : rbV a b n.toNat = (p, q, true)) (w : World) : Calls Tryz.prog 19 #[.agg #[.int .i64 a, .int .i64 b], .int .i64 n] w fun r w' => r = .returned (.tuple #[.int .i64 p, .int .i64 q, .bool true]) ∧ Below w.heap.size w w' := by
  have h1 := rankBoundsX_any a b n w hk
  rw [h] at h1
  exact h1
theorem sr_lit {a b p q : Int} (hk : twB a b = true) (h : srV a b = (p, q, true)) (w : World) : Calls Tryz.prog 18 #[.agg #[.int .i64 a, .int .i64 b]] w fun r w' => r = .returned (.tuple #[.int .i64 p, .int .i64 q, .bool true]) ∧ Below w.heap.size w w' := by
  have h1 := selmerRanksX_any a b w hk
  rw [h] at h1
  exact h1
set_option linter.unusedSimpArgs false in
set_option linter.unusedVariables false in
set_option maxRecDepth 8000 in
set_option maxHeartbeats 16000000 in
theorem isEntryX {x y lo hi : Int} (h : entB x y lo hi 0 = true) (w : World) : Calls Tryz.prog 20 #[.agg #[.int .i64 x, .int .i64 y, .int .i64 lo, .int .i64 hi, .int .i64 0]] w fun r w' => r = .returned (.bool true) ∧ Below w.heap.size w w' := by
  have He := Lib.hid (fun w9 => isEntry_any x y lo hi 0 w9)
  rw [h] at He
  go_enter Tryz.func20, Tryz.ntmps20
  go_wp2_with fail
  refine (He.out _).mono ?_; rintro e w1 ⟨rfl, hb1⟩
  have S1 := Lib.hid (show w.heap.size + 1 ≤ w1.heap.size by have h9 := hb1.size; (try simp only [World.size_alloc, World.size_setCell, World.size_drew] at h9); omega)
  have NEB := Lib.hid ((Blk.new w 33 #[.int .i64 x, .int .i64 y, .int .i64 lo, .int .i64 hi, .int .i64 0]).on hb1)
  have EB := NEB; clear NEB
  have Hb1 := Lib.hid (bthen (bal (Below.refl w.heap.size w) (Obj.cells #[.int .i64 x, .int .i64 y, .int .i64 lo, .int .i64 hi, .int .i64 0] 33)) hb1)
  clear hb1
  go_wp2
  go_ret
  exact ⟨rfl, Hb1.out⟩
set_option linter.unusedSimpArgs false in
set_option linter.unusedVariables false in
set_option maxRecDepth 8000 in
set_option maxHeartbeats 16000000 in
theorem fnRankClaims_walk (A : Option Addr) (n c : Nat) (B : Option Addr) (m d : Nat) (w : World) (ha : BytesAt w w.heap.size A n) (hb : BytesAt w w.heap.size B m) :
    Calls Tryz.prog 3 #[.slice A n c, .slice B m d] w fun e w' => e = .returned (.bool true) ∧ Below w.heap.size w w' := by
  have Ha := Lib.hid ha; have Hb := Lib.hid hb; clear ha hb
  go_enter Tryz.func3, Tryz.ntmps3
  by_cases hbg : 1048576 < wrap64 ((n : Int) + (m : Int))
  · have g1 : decide (1048576 < wrap64 ((n : Int) + (m : Int))) = true := decide_eq_true hbg
    go_wp2
    go_ret
    exact ⟨rfl, (Below.refl w.heap.size w)⟩
  · have g1 : decide (1048576 < wrap64 ((n : Int) + (m : Int))) = false := decide_eq_false hbg
    go_wp2_with fail
    refine (drawKnown_any A n c _ (Ha.out.on (Below.refl w.heap.size w))).mono ?_; rintro e w1 ⟨⟨a, b, N, ft, rfl⟩, hb1⟩
    have S1 := Lib.hid (show w.heap.size + 0 ≤ w1.heap.size by have h9 := hb1.size; (try simp only [World.size_alloc, World.size_setCell, World.size_drew] at h9); omega)
    have Hb1 := Lib.hid (bthen (Below.refl w.heap.size w) hb1)
    clear hb1
    have Ft := Lib.hid ft; clear ft
    clear g1 hbg
    obtain ⟨k, ok, hK⟩ : ∃ x y, knV a b N = (x, y) := ⟨_, _, rfl⟩
    have HK := Lib.hid hK
    obtain ⟨oc, one, hO⟩ : ∃ x y, opV a b N = (x, y) := ⟨_, _, rfl⟩
    have HO := Lib.hid hO
    obtain ⟨x, y, lo, hi, three, hR⟩ : ∃ x y lo hi k, reS a b N = ((x, y, lo, hi), k) := ⟨_, _, _, _, _, rfl⟩
    have HR := Lib.hid hR
    obtain rfl : ok = one := by have h9 := ok_one (n := N) Ft.out; rw [hK, hO] at h9; exact h9
    have H3 := Lib.hid (show three = true → ok = true from fun h9 => by subst h9; have h8 := (entry_facts hR).2.2.2; rw [hK] at h8; exact h8)
    clear hK hO hR
    go_wp2_with fail
    refine (knI_lit HK.out _).mono ?_; rintro e w2 ⟨rfl, hb2⟩
    have S2 := Lib.hid (show w1.heap.size + 1 ≤ w2.heap.size by have h9 := hb2.size; (try simp only [World.size_alloc, World.size_setCell, World.size_drew] at h9); omega)
    have Z2 := Lib.hid (And.intro S1.out S2.out)
    have NC := Lib.hid ((Blk.new w1 24 #[.int .i64 a, .int .i64 b]).on hb2)
    have C := NC; clear NC
    have Hb2 := Lib.hid (bthen (bal Hb1.out (Obj.cells #[.int .i64 a, .int .i64 b] 24)) hb2)
    clear hb2
    have qC0 : w2.cell? ⟨w1.heap.size, 0, none⟩ = some (.int .i64 a) := C.out.cell 0
    have qC1 : w2.cell? ⟨w1.heap.size, 1, none⟩ = some (.int .i64 b) := C.out.cell 1
    have qCl := C.out.lt
    go_wp2_with fail
    clear qC0 qC1 qCl
    refine (knS_lit HK.out _).mono ?_; rintro e w3 ⟨rfl, hb3⟩
    have S3 := Lib.hid (show w2.heap.size + 0 ≤ w3.heap.size by have h9 := hb3.size; (try simp only [World.size_alloc, World.size_setCell, World.size_drew] at h9); omega)
    have Z3 := Lib.hid (And.intro Z2.out S3.out)
    have NC := Lib.hid (C.out.on hb3)
    have C := NC; clear NC
    have Hb3 := Lib.hid (bthen Hb2.out hb3)
    clear hb3
    have qC0 : w3.cell? ⟨w1.heap.size, 0, none⟩ = some (.int .i64 a) := C.out.cell 0
    have qC1 : w3.cell? ⟨w1.heap.size, 1, none⟩ = some (.int .i64 b) := C.out.cell 1
    have qCl := C.out.lt
    go_wp2_with fail
    clear qC0 qC1 qCl
    refine (opI_lit HO.out _).mono ?_; rintro e w4 ⟨rfl, hb4⟩
    have S4 := Lib.hid (show w3.heap.size + 0 ≤ w4.heap.size by have h9 := hb4.size; (try simp only [World.size_alloc, World.size_setCell, World.size_drew] at h9); omega)
    have Z4 := Lib.hid (And.intro Z3.out S4.out)
    have NC := Lib.hid (C.out.on hb4)
    have C := NC; clear NC
    have Hb4 := Lib.hid (bthen Hb3.out hb4)
    clear hb4
    have qC0 : w4.cell? ⟨w1.heap.size, 0, none⟩ = some (.int .i64 a) := C.out.cell 0
    have qC1 : w4.cell? ⟨w1.heap.size, 1, none⟩ = some (.int .i64 b) := C.out.cell 1
    have qCl := C.out.lt
    go_wp2_with fail
    clear qC0 qC1 qCl
    refine (opS_lit HO.out _).mono ?_; rintro e w5 ⟨rfl, hb5⟩
    have S5 := Lib.hid (show w4.heap.size + 0 ≤ w5.heap.size by have h9 := hb5.size; (try simp only [World.size_alloc, World.size_setCell, World.size_drew] at h9); omega)
    have Z5 := Lib.hid (And.intro Z4.out S5.out)
    have NC := Lib.hid (C.out.on hb5)
    have C := NC; clear NC
    have Hb5 := Lib.hid (bthen Hb4.out hb5)
    clear hb5
    have qC0 : w5.cell? ⟨w1.heap.size, 0, none⟩ = some (.int .i64 a) := C.out.cell 0
    have qC1 : w5.cell? ⟨w1.heap.size, 1, none⟩ = some (.int .i64 b) := C.out.cell 1
    have qCl := C.out.lt
    go_wp2_with fail
    clear qC0 qC1 qCl
    refine (reI_lit HR.out _).mono ?_; rintro e w6 ⟨rfl, hb6⟩
    have S6 := Lib.hid (show w5.heap.size + 0 ≤ w6.heap.size by have h9 := hb6.size; (try simp only [World.size_alloc, World.size_setCell, World.size_drew] at h9); omega)
    have Z6 := Lib.hid (And.intro Z5.out S6.out)
    have NC := Lib.hid (C.out.on hb6)
    have C := NC; clear NC
    have Hb6 := Lib.hid (bthen Hb5.out hb6)
    clear hb6
    have qC0 : w6.cell? ⟨w1.heap.size, 0, none⟩ = some (.int .i64 a) := C.out.cell 0
    have qC1 : w6.cell? ⟨w1.heap.size, 1, none⟩ = some (.int .i64 b) := C.out.cell 1
    have qCl := C.out.lt
    go_wp2_with fail
    clear qC0 qC1 qCl
    refine (reS_lit HR.out _).mono ?_; rintro e w7 ⟨rfl, hb7⟩
    have S7 := Lib.hid (show w6.heap.size + 1 ≤ w7.heap.size by have h9 := hb7.size; (try simp only [World.size_alloc, World.size_setCell, World.size_drew] at h9); omega)
    have Z7 := Lib.hid (And.intro Z6.out S7.out)
    have NC := Lib.hid ((C.out.alloc (Obj.cells #[.int .i64 x, .int .i64 y, .int .i64 lo, .int .i64 hi, .int .i64 0] 33)).on hb7)
    have NE1 := Lib.hid ((Blk.new w6 33 #[.int .i64 x, .int .i64 y, .int .i64 lo, .int .i64 hi, .int .i64 0]).on hb7)
    have C := NC; clear NC
    have E1 := NE1; clear NE1
    have Hb7 := Lib.hid (bthen (bal Hb6.out (Obj.cells #[.int .i64 x, .int .i64 y, .int .i64 lo, .int .i64 hi, .int .i64 0] 33)) hb7)
    clear hb7
    go_wp2_with fail
    refine (drawClaim_any B m d _ (Hb.out.on (bal Hb7.out (Obj.cells #[.int .i64 x, .int .i64 y, .int .i64 lo, .int .i64 hi, .int .i64 0] 33)))).mono ?_; rintro e w8 ⟨⟨a2, b2, p1, p2, N2, -, rfl⟩, hb8⟩
    have S8 := Lib.hid (show w7.heap.size + 1 ≤ w8.heap.size by have h9 := hb8.size; (try simp only [World.size_alloc, World.size_setCell, World.size_drew] at h9); omega)
    have Z8 := Lib.hid (And.intro Z7.out S8.out)
    have NC := Lib.hid ((C.out.alloc (Obj.cells #[.int .i64 x, .int .i64 y, .int .i64 lo, .int .i64 hi, .int .i64 0] 33)).on hb8)
    have NE1 := Lib.hid ((E1.out.alloc (Obj.cells #[.int .i64 x, .int .i64 y, .int .i64 lo, .int .i64 hi, .int .i64 0] 33)).on hb8)
    have NE2 := Lib.hid ((Blk.new w7 33 #[.int .i64 x, .int .i64 y, .int .i64 lo, .int .i64 hi, .int .i64 0]).on hb8)
    have C := NC; clear NC
    have E1 := NE1; clear NE1
    have E2 := NE2; clear NE2
    have Hb8 := Lib.hid (bthen (bal Hb7.out (Obj.cells #[.int .i64 x, .int .i64 y, .int .i64 lo, .int .i64 hi, .int .i64 0] 33)) hb8)
    clear hb8
    obtain ⟨cl, five, hC⟩ : ∃ x y, chV a2 b2 p1 p2 N2 = (x, y) := ⟨_, _, rfl⟩
    have HC := Lib.hid hC; clear hC
    go_wp2_with fail
    refine (chI_lit HC.out _).mono ?_; rintro e w9 ⟨rfl, hb9⟩
    have S9 := Lib.hid (show w8.heap.size + 1 ≤ w9.heap.size by have h9 := hb9.size; (try simp only [World.size_alloc, World.size_setCell, World.size_drew] at h9); omega)
    have Z9 := Lib.hid (And.intro Z8.out S9.out)
    have NC := Lib.hid ((C.out.alloc (Obj.cells #[.int .i64 a2, .int .i64 b2] 24)).on hb9)
    have NE1 := Lib.hid ((E1.out.alloc (Obj.cells #[.int .i64 a2, .int .i64 b2] 24)).on hb9)
    have NE2 := Lib.hid ((E2.out.alloc (Obj.cells #[.int .i64 a2, .int .i64 b2] 24)).on hb9)
    have ND := Lib.hid ((Blk.new w8 24 #[.int .i64 a2, .int .i64 b2]).on hb9)
    have C := NC; clear NC
    have E1 := NE1; clear NE1
    have E2 := NE2; clear NE2
    have D := ND; clear ND
    have Hb9 := Lib.hid (bthen (bal Hb8.out (Obj.cells #[.int .i64 a2, .int .i64 b2] 24)) hb9)
    clear hb9
    have qD0 : w9.cell? ⟨w8.heap.size, 0, none⟩ = some (.int .i64 a2) := D.out.cell 0
    have qD1 : w9.cell? ⟨w8.heap.size, 1, none⟩ = some (.int .i64 b2) := D.out.cell 1
    have qDl := D.out.lt
    go_wp2_with fail
    clear qD0 qD1 qDl
    refine (chS_lit HC.out _).mono ?_; rintro e w10 ⟨rfl, hb10⟩
    have S10 := Lib.hid (show w9.heap.size + 0 ≤ w10.heap.size by have h9 := hb10.size; (try simp only [World.size_alloc, World.size_setCell, World.size_drew] at h9); omega)
    have Z10 := Lib.hid (And.intro Z9.out S10.out)
    have NC := Lib.hid (C.out.on hb10)
    have NE1 := Lib.hid (E1.out.on hb10)
    have NE2 := Lib.hid (E2.out.on hb10)
    have ND := Lib.hid (D.out.on hb10)
    have C := NC; clear NC
    have E1 := NE1; clear NE1
    have E2 := NE2; clear NE2
    have D := ND; clear ND
    have Hb10 := Lib.hid (bthen Hb9.out hb10)
    clear hb10
    go_wp2_with fail
    refine (drawLeast_any B m d _ (Hb.out.on Hb10.out)).mono ?_; rintro e w11 ⟨⟨a3, b3, N3, -, rfl⟩, hb11⟩
    have S11 := Lib.hid (show w10.heap.size + 0 ≤ w11.heap.size by have h9 := hb11.size; (try simp only [World.size_alloc, World.size_setCell, World.size_drew] at h9); omega)
    have Z11 := Lib.hid (And.intro Z10.out S11.out)
    have NC := Lib.hid (C.out.on hb11)
    have NE1 := Lib.hid (E1.out.on hb11)
    have NE2 := Lib.hid (E2.out.on hb11)
    have ND := Lib.hid (D.out.on hb11)
    have C := NC; clear NC
    have E1 := NE1; clear NE1
    have E2 := NE2; clear NE2
    have D := ND; clear ND
    have Hb11 := Lib.hid (bthen Hb10.out hb11)
    clear hb11
    obtain ⟨s, seven, hL⟩ : ∃ x y, lsV a3 b3 N3 = (x, y) := ⟨_, _, rfl⟩
    have HL := Lib.hid hL; clear hL
    go_wp2_with fail
    refine (lsI_lit HL.out _).mono ?_; rintro e w12 ⟨rfl, hb12⟩
    have S12 := Lib.hid (show w11.heap.size + 1 ≤ w12.heap.size by have h9 := hb12.size; (try simp only [World.size_alloc, World.size_setCell, World.size_drew] at h9); omega)
    have Z12 := Lib.hid (And.intro Z11.out S12.out)
    have NC := Lib.hid ((C.out.alloc (Obj.cells #[.int .i64 a3, .int .i64 b3] 24)).on hb12)
    have NE1 := Lib.hid ((E1.out.alloc (Obj.cells #[.int .i64 a3, .int .i64 b3] 24)).on hb12)
    have NE2 := Lib.hid ((E2.out.alloc (Obj.cells #[.int .i64 a3, .int .i64 b3] 24)).on hb12)
    have ND := Lib.hid ((D.out.alloc (Obj.cells #[.int .i64 a3, .int .i64 b3] 24)).on hb12)
    have NG := Lib.hid ((Blk.new w11 24 #[.int .i64 a3, .int .i64 b3]).on hb12)
    have C := NC; clear NC
    have E1 := NE1; clear NE1
    have E2 := NE2; clear NE2
    have D := ND; clear ND
    have G := NG; clear NG
    have Hb12 := Lib.hid (bthen (bal Hb11.out (Obj.cells #[.int .i64 a3, .int .i64 b3] 24)) hb12)
    clear hb12
    have qG0 : w12.cell? ⟨w11.heap.size, 0, none⟩ = some (.int .i64 a3) := G.out.cell 0
    have qG1 : w12.cell? ⟨w11.heap.size, 1, none⟩ = some (.int .i64 b3) := G.out.cell 1
    have qGl := G.out.lt
    go_wp2_with fail
    clear qG0 qG1 qGl
    refine (lsS_lit HL.out _).mono ?_; rintro e w13 ⟨rfl, hb13⟩
    have S13 := Lib.hid (show w12.heap.size + 0 ≤ w13.heap.size by have h9 := hb13.size; (try simp only [World.size_alloc, World.size_setCell, World.size_drew] at h9); omega)
    have Z13 := Lib.hid (And.intro Z12.out S13.out)
    have NC := Lib.hid (C.out.on hb13)
    have NE1 := Lib.hid (E1.out.on hb13)
    have NE2 := Lib.hid (E2.out.on hb13)
    have ND := Lib.hid (D.out.on hb13)
    have NG := Lib.hid (G.out.on hb13)
    have C := NC; clear NC
    have E1 := NE1; clear NE1
    have E2 := NE2; clear NE2
    have D := ND; clear ND
    have G := NG; clear NG
    have Hb13 := Lib.hid (bthen Hb12.out hb13)
    clear hb13
    go_upto_region 16 with fail
    go_cut [195] from 136 to 195 (fun r wx => r = .bool false ∧ wx = w13)
    case first =>
      have qE10 : w13.cell? ⟨w6.heap.size, 0, none⟩ = some (.int .i64 x) := E1.out.cell 0
      have qE11 : w13.cell? ⟨w6.heap.size, 1, none⟩ = some (.int .i64 y) := E1.out.cell 1
      have qE12 : w13.cell? ⟨w6.heap.size, 2, none⟩ = some (.int .i64 lo) := E1.out.cell 2
      have qE13 : w13.cell? ⟨w6.heap.size, 3, none⟩ = some (.int .i64 hi) := E1.out.cell 3
      have qE14 : w13.cell? ⟨w6.heap.size, 4, none⟩ = some (.int .i64 0) := E1.out.cell 4
      have qE1l := E1.out.lt
      have qE20 : w13.cell? ⟨w7.heap.size, 0, none⟩ = some (.int .i64 x) := E2.out.cell 0
      have qE21 : w13.cell? ⟨w7.heap.size, 1, none⟩ = some (.int .i64 y) := E2.out.cell 1
      have qE22 : w13.cell? ⟨w7.heap.size, 2, none⟩ = some (.int .i64 lo) := E2.out.cell 2
      have qE23 : w13.cell? ⟨w7.heap.size, 3, none⟩ = some (.int .i64 hi) := E2.out.cell 3
      have qE24 : w13.cell? ⟨w7.heap.size, 4, none⟩ = some (.int .i64 0) := E2.out.cell 4
      have qE2l := E2.out.lt
      cases three
      · go_wp2
        go_meet
        exact ⟨rfl, rfl⟩
      · obtain rfl := H3.out rfl
        go_wp2
        go_meet
        exact ⟨rfl, rfl⟩
    obtain ⟨rfl, hcw⟩ := hcut
    rw [hcw]; clear hcw
    go_upto_if 196 with fail
    go_cut [4] from 197 to 235 (fun r wx => Below w13.heap.size w13 wx)
    case first =>
      cases ok
      · go_wp2
        go_meet
        exact Below.refl _ _
      · obtain ⟨hask, p, q, u, v, hfr, hsr, ⟨p0, p6⟩, ⟨q0, q6⟩, ⟨u0, u6⟩, ⟨v0, v6⟩, hiff, hkn⟩ := known_facts HK.out HO.out
        have Hask := Lib.hid hask; have Hfr := Lib.hid hfr; have Hsr := Lib.hid hsr; have Hiff := Lib.hid hiff; have Hkn := Lib.hid hkn; clear hask hfr hsr hiff hkn
        have HbZ := Lib.hid (Below.refl w13.heap.size w13)
        have qC0 : w13.cell? ⟨w1.heap.size, 0, none⟩ = some (.int .i64 a) := C.out.cell 0
        have qC1 : w13.cell? ⟨w1.heap.size, 1, none⟩ = some (.int .i64 b) := C.out.cell 1
        have qCl := C.out.lt
        go_wp2_with fail
        clear qC0 qC1 qCl
        refine (fr_lit Hask.out Hfr.out _).mono ?_; rintro e w14 ⟨rfl, hb14⟩
        have S14 := Lib.hid (show w13.heap.size + 0 ≤ w14.heap.size by have h9 := hb14.size; (try simp only [World.size_alloc, World.size_setCell, World.size_drew] at h9); omega)
        have Z14 := Lib.hid (And.intro Z13.out S14.out)
        have NC := Lib.hid (C.out.on hb14)
        have NE1 := Lib.hid (E1.out.on hb14)
        have NE2 := Lib.hid (E2.out.on hb14)
        have ND := Lib.hid (D.out.on hb14)
        have NG := Lib.hid (G.out.on hb14)
        have C := NC; clear NC
        have E1 := NE1; clear NE1
        have E2 := NE2; clear NE2
        have D := ND; clear ND
        have G := NG; clear NG
        have Hb14 := Lib.hid (bthen HbZ.out hb14)
        clear hb14
        have qC0 : w14.cell? ⟨w1.heap.size, 0, none⟩ = some (.int .i64 a) := C.out.cell 0
        have qC1 : w14.cell? ⟨w1.heap.size, 1, none⟩ = some (.int .i64 b) := C.out.cell 1
        have qCl := C.out.lt
        go_wp2_with fail
        clear qC0 qC1 qCl
        refine (sr_lit (ask_tw Hask.out) Hsr.out _).mono ?_; rintro e w15 ⟨rfl, hb15⟩
        have S15 := Lib.hid (show w14.heap.size + 0 ≤ w15.heap.size by have h9 := hb15.size; (try simp only [World.size_alloc, World.size_setCell, World.size_drew] at h9); omega)
        have Z15 := Lib.hid (And.intro Z14.out S15.out)
        have NC := Lib.hid (C.out.on hb15)
        have NE1 := Lib.hid (E1.out.on hb15)
        have NE2 := Lib.hid (E2.out.on hb15)
        have ND := Lib.hid (D.out.on hb15)
        have NG := Lib.hid (G.out.on hb15)
        have C := NC; clear NC
        have E1 := NE1; clear NE1
        have E2 := NE2; clear NE2
        have D := ND; clear ND
        have G := NG; clear NG
        have Hb15 := Lib.hid (bthen Hb14.out hb15)
        clear hb15
        by_cases ho : oc = 0
        · have h1 := Hiff.out.1 ho
          obtain rfl := Hkn.out ho
          have g1 : (oc == 0) = true := by rw [ho]; rfl
          have g2 : (p + q == u + v) = true := by rw [h1]; simp
          have g3 : decide (oc = 0) = true := decide_eq_true ho
          have g4 : decide (p + q = u + v) = true := decide_eq_true h1
          clear ho h1
          go_wp2
          go_meet
          exact Hb15.out
        · have h1 : ¬ p + q = u + v := fun h9 => ho (Hiff.out.2 h9)
          have g1 : (oc == 0) = false := beq_eq_false_iff_ne.2 ho
          have g2 : (p + q == u + v) = false := beq_eq_false_iff_ne.2 h1
          have g3 : decide (oc = 0) = false := decide_eq_false ho
          have g4 : decide (p + q = u + v) = false := decide_eq_false h1
          clear ho h1
          go_wp2
          go_meet
          exact Hb15.out
    obtain ⟨w16, hw9⟩ : ∃ x, x = wc := ⟨_, rfl⟩; subst hw9
    have hb16 := hcut; clear hcut
    have S16 := Lib.hid (show w13.heap.size + 0 ≤ w16.heap.size by have h9 := hb16.size; (try simp only [World.size_alloc, World.size_setCell, World.size_drew] at h9); omega)
    have Z16 := Lib.hid (And.intro Z13.out S16.out)
    have NC := Lib.hid (C.out.on hb16)
    have NE1 := Lib.hid (E1.out.on hb16)
    have NE2 := Lib.hid (E2.out.on hb16)
    have ND := Lib.hid (D.out.on hb16)
    have NG := Lib.hid (G.out.on hb16)
    have C := NC; clear NC
    have E1 := NE1; clear NE1
    have E2 := NE2; clear NE2
    have D := ND; clear ND
    have G := NG; clear NG
    have Hb16 := Lib.hid (bthen Hb13.out hb16)
    clear hb16
    clear HK HO
    go_upto_if 236 with fail
    go_cut [4] from 237 to 267 (fun r wx => Below w16.heap.size w16 wx)
    case first =>
      cases three
      · go_wp2
        go_meet
        exact Below.refl _ _
      · obtain ⟨hask, hrb, hen, -⟩ := entry_facts HR.out
        have Hask := Lib.hid hask; have Hrb := Lib.hid hrb; have Hen := Lib.hid hen; clear hask hrb hen
        have HbZ := Lib.hid (Below.refl w16.heap.size w16)
        have qC0 : w16.cell? ⟨w1.heap.size, 0, none⟩ = some (.int .i64 a) := C.out.cell 0
        have qC1 : w16.cell? ⟨w1.heap.size, 1, none⟩ = some (.int .i64 b) := C.out.cell 1
        have qCl := C.out.lt
        go_wp2_with fail
        clear qC0 qC1 qCl
        refine (rb_lit Hask.out Hrb.out _).mono ?_; rintro e w17 ⟨rfl, hb17⟩
        have S17 := Lib.hid (show w16.heap.size + 0 ≤ w17.heap.size by have h9 := hb17.size; (try simp only [World.size_alloc, World.size_setCell, World.size_drew] at h9); omega)
        have Z17 := Lib.hid (And.intro Z16.out S17.out)
        have NC := Lib.hid (C.out.on hb17)
        have NE1 := Lib.hid (E1.out.on hb17)
        have NE2 := Lib.hid (E2.out.on hb17)
        have ND := Lib.hid (D.out.on hb17)
        have NG := Lib.hid (G.out.on hb17)
        have C := NC; clear NC
        have E1 := NE1; clear NE1
        have E2 := NE2; clear NE2
        have D := ND; clear ND
        have G := NG; clear NG
        have Hb17 := Lib.hid (bthen HbZ.out hb17)
        clear hb17
        have qE10 : w17.cell? ⟨w6.heap.size, 0, none⟩ = some (.int .i64 x) := E1.out.cell 0
        have qE11 : w17.cell? ⟨w6.heap.size, 1, none⟩ = some (.int .i64 y) := E1.out.cell 1
        have qE12 : w17.cell? ⟨w6.heap.size, 2, none⟩ = some (.int .i64 lo) := E1.out.cell 2
        have qE13 : w17.cell? ⟨w6.heap.size, 3, none⟩ = some (.int .i64 hi) := E1.out.cell 3
        have qE14 : w17.cell? ⟨w6.heap.size, 4, none⟩ = some (.int .i64 0) := E1.out.cell 4
        have qE1l := E1.out.lt
        have qE20 : w17.cell? ⟨w7.heap.size, 0, none⟩ = some (.int .i64 x) := E2.out.cell 0
        have qE21 : w17.cell? ⟨w7.heap.size, 1, none⟩ = some (.int .i64 y) := E2.out.cell 1
        have qE22 : w17.cell? ⟨w7.heap.size, 2, none⟩ = some (.int .i64 lo) := E2.out.cell 2
        have qE23 : w17.cell? ⟨w7.heap.size, 3, none⟩ = some (.int .i64 hi) := E2.out.cell 3
        have qE24 : w17.cell? ⟨w7.heap.size, 4, none⟩ = some (.int .i64 0) := E2.out.cell 4
        have qE2l := E2.out.lt
        go_wp2_with fail
        clear qE10 qE11 qE12 qE13 qE14 qE1l qE20 qE21 qE22 qE23 qE24 qE2l
        refine (isEntryX Hen.out _).mono ?_; rintro e w18 ⟨rfl, hb18⟩
        have S18 := Lib.hid (show w17.heap.size + 0 ≤ w18.heap.size by have h9 := hb18.size; (try simp only [World.size_alloc, World.size_setCell, World.size_drew] at h9); omega)
        have Z18 := Lib.hid (And.intro Z17.out S18.out)
        have NC := Lib.hid (C.out.on hb18)
        have NE1 := Lib.hid (E1.out.on hb18)
        have NE2 := Lib.hid (E2.out.on hb18)
        have ND := Lib.hid (D.out.on hb18)
        have NG := Lib.hid (G.out.on hb18)
        have C := NC; clear NC
        have E1 := NE1; clear NE1
        have E2 := NE2; clear NE2
        have D := ND; clear ND
        have G := NG; clear NG
        have Hb18 := Lib.hid (bthen Hb17.out hb18)
        clear hb18
        go_wp2
        go_meet
        exact Hb18.out
    obtain ⟨w19, hw9⟩ : ∃ x, x = wc := ⟨_, rfl⟩; subst hw9
    have hb19 := hcut; clear hcut
    have S19 := Lib.hid (show w16.heap.size + 0 ≤ w19.heap.size by have h9 := hb19.size; (try simp only [World.size_alloc, World.size_setCell, World.size_drew] at h9); omega)
    have Z19 := Lib.hid (And.intro Z16.out S19.out)
    have NC := Lib.hid (C.out.on hb19)
    have NE1 := Lib.hid (E1.out.on hb19)
    have NE2 := Lib.hid (E2.out.on hb19)
    have ND := Lib.hid (D.out.on hb19)
    have NG := Lib.hid (G.out.on hb19)
    have C := NC; clear NC
    have E1 := NE1; clear NE1
    have E2 := NE2; clear NE2
    have D := ND; clear ND
    have G := NG; clear NG
    have Hb19 := Lib.hid (bthen Hb16.out hb19)
    clear hb19
    clear HR E1 E2 C
    go_upto_if 268 with fail
    go_cut [4] from 269 to 289 (fun r wx => Below w19.heap.size w19 wx)
    case first =>
      cases five
      · go_wp2
        go_meet
        exact Below.refl _ _
      · obtain ⟨hask, l9, h9, hrb, hcl⟩ := claim_facts HC.out
        have Hask := Lib.hid hask; have Hrb := Lib.hid hrb; clear hask hrb
        have HbZ := Lib.hid (Below.refl w19.heap.size w19)
        have qD0 : w19.cell? ⟨w8.heap.size, 0, none⟩ = some (.int .i64 a2) := D.out.cell 0
        have qD1 : w19.cell? ⟨w8.heap.size, 1, none⟩ = some (.int .i64 b2) := D.out.cell 1
        have qDl := D.out.lt
        go_wp2_with fail
        clear qD0 qD1 qDl
        refine (rb_lit Hask.out Hrb.out _).mono ?_; rintro e w20 ⟨rfl, hb20⟩
        have S20 := Lib.hid (show w19.heap.size + 0 ≤ w20.heap.size by have h9 := hb20.size; (try simp only [World.size_alloc, World.size_setCell, World.size_drew] at h9); omega)
        have Z20 := Lib.hid (And.intro Z19.out S20.out)
        have ND := Lib.hid (D.out.on hb20)
        have NG := Lib.hid (G.out.on hb20)
        have D := ND; clear ND
        have G := NG; clear NG
        have Hb20 := Lib.hid (bthen HbZ.out hb20)
        clear hb20
        by_cases h1 : p1 ≤ l9
        · have g1 : decide (p1 ≤ l9) = true := decide_eq_true h1
          have g2 : decide (l9 ≥ p1) = true := decide_eq_true h1
          rw [g1, Bool.true_and] at hcl
          by_cases h2 : h9 ≤ p2
          · have g3 : decide (h9 ≤ p2) = true := decide_eq_true h2
            rw [g3] at hcl
            subst hcl
            go_wp2
            go_meet
            exact Hb20.out
          · have g3 : decide (h9 ≤ p2) = false := decide_eq_false h2
            rw [g3] at hcl
            subst hcl
            go_wp2
            go_meet
            exact Hb20.out
        · have g1 : decide (p1 ≤ l9) = false := decide_eq_false h1
          have g2 : decide (l9 ≥ p1) = false := decide_eq_false h1
          rw [g1, Bool.false_and] at hcl
          subst hcl
          go_wp2
          go_meet
          exact Hb20.out
    obtain ⟨w21, hw9⟩ : ∃ x, x = wc := ⟨_, rfl⟩; subst hw9
    have hb21 := hcut; clear hcut
    have S21 := Lib.hid (show w19.heap.size + 0 ≤ w21.heap.size by have h9 := hb21.size; (try simp only [World.size_alloc, World.size_setCell, World.size_drew] at h9); omega)
    have Z21 := Lib.hid (And.intro Z19.out S21.out)
    have ND := Lib.hid (D.out.on hb21)
    have NG := Lib.hid (G.out.on hb21)
    have D := ND; clear ND
    have G := NG; clear NG
    have Hb21 := Lib.hid (bthen Hb19.out hb21)
    clear hb21
    clear HC D
    cases seven
    · go_wp2
      go_ret
      exact ⟨rfl, Hb21.out⟩
    · obtain ⟨⟨s1, s2⟩, s3, hk1, hk2⟩ := least_facts HL.out
      have Hk1 := Lib.hid hk1; have Hk2 := Lib.hid hk2; clear hk1 hk2
      have g1 : decide (N3 < s) = false := decide_eq_false (by omega)
      have g2 : decide (s > N3) = false := decide_eq_false (by omega)
      have qG0 : w21.cell? ⟨w11.heap.size, 0, none⟩ = some (.int .i64 a3) := G.out.cell 0
      have qG1 : w21.cell? ⟨w11.heap.size, 1, none⟩ = some (.int .i64 b3) := G.out.cell 1
      have qGl := G.out.lt
      go_wp2_with fail
      clear qG0 qG1 qGl
      refine (knI_lit Hk1.out _).mono ?_; rintro e w22 ⟨rfl, hb22⟩
      have S22 := Lib.hid (show w21.heap.size + 0 ≤ w22.heap.size by have h9 := hb22.size; (try simp only [World.size_alloc, World.size_setCell, World.size_drew] at h9); omega)
      have Z22 := Lib.hid (And.intro Z21.out S22.out)
      have NG := Lib.hid (G.out.on hb22)
      have G := NG; clear NG
      have Hb22 := Lib.hid (bthen Hb21.out hb22)
      clear hb22
      by_cases h1 : 1 < s
      · have g3 : decide (1 < s) = true := decide_eq_true h1
        have g4 : decide (s > 1) = true := decide_eq_true h1
        have Hk3 := Lib.hid (Hk2.out h1)
        have qG0 : w22.cell? ⟨w11.heap.size, 0, none⟩ = some (.int .i64 a3) := G.out.cell 0
        have qG1 : w22.cell? ⟨w11.heap.size, 1, none⟩ = some (.int .i64 b3) := G.out.cell 1
        have qGl := G.out.lt
        go_wp2_with fail
        clear qG0 qG1 qGl
        refine (knI_lit Hk3.out _).mono ?_; rintro e w23 ⟨rfl, hb23⟩
        have S23 := Lib.hid (show w22.heap.size + 0 ≤ w23.heap.size by have h9 := hb23.size; (try simp only [World.size_alloc, World.size_setCell, World.size_drew] at h9); omega)
        have Z23 := Lib.hid (And.intro Z22.out S23.out)
        have NG := Lib.hid (G.out.on hb23)
        have G := NG; clear NG
        have Hb23 := Lib.hid (bthen Hb22.out hb23)
        clear hb23
        go_wp2
        go_ret
        exact ⟨rfl, Hb23.out⟩
      · have g3 : decide (1 < s) = false := decide_eq_false h1
        have g4 : decide (s > 1) = false := decide_eq_false h1
        go_wp2
        go_ret
        exact ⟨rfl, Hb22.out⟩
end Go.Proofs.YthdfpfhkmfmnbaaGreat
