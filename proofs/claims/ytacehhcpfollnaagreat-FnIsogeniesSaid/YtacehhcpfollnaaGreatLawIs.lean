/- The law FnIsogenies: its walk. Conditions: none. Printed by gen_islaw.py. -/
import Derived.Test.YtacehhcpfollnaaGreatIsM18
import Derived.Deep.DeepCutAuto
namespace Go.Proofs.YtacehhcpfollnaaGreat
open Go Go.RowKit

theorem Rd.len9 {w : World} {v : Value} {L : List Cu} (h : Rd cuS w w.heap.size v L) : L.length ≤ 9223372036854775807 := by
  obtain ⟨A', c', e, h1, h2, -⟩ := h
  unfold maxLen at h2
  omega
def NbQ (o : Option Cu) (x y : Int) (k : Bool) : Prop := match o with | some d => x = d.a ∧ y = d.b ∧ k = true | none => x = 0 ∧ y = 0 ∧ k = false
theorem NbQ.ex (o : Option Cu) : ∃ x y k, NbQ o x y k := by
  cases o with
  | none => exact ⟨0, 0, false, rfl, rfl, rfl⟩
  | some f => exact ⟨f.a, f.b, true, rfl, rfl, rfl⟩
theorem NbQ.lit {o : Option Cu} {x y : Int} {k : Bool} {r : Ending} (h : NbQ o x y k) (hr : CuR o r) : r = .returned (.tuple #[.agg #[.int .i64 x, .int .i64 y], .bool k]) := by
  cases o with
  | none => obtain ⟨rfl, rfl, rfl⟩ := h; exact hr
  | some d => obtain ⟨rfl, rfl, rfl⟩ := h; exact hr
theorem NbQ.yes {o : Option Cu} {x y : Int} {k : Bool} (h : NbQ o x y k) (hk : k = true) : o = some ⟨x, y⟩ := by
  cases o with
  | none => obtain ⟨-, -, h3⟩ := h; rw [h3] at hk; cases hk
  | some d => obtain ⟨rfl, rfl, -⟩ := h; rfl
theorem NbQ.of_none {x y : Int} {k : Bool} (h : NbQ none x y k) : k = false := h.2.2
def CaQ (o : Option (Fq × Fq)) (x y u v : Int) (k : Bool) : Prop := match o with | some (f, g) => x = f.1 ∧ y = f.2 ∧ u = g.1 ∧ v = g.2 ∧ k = true | none => x = 0 ∧ y = 0 ∧ u = 0 ∧ v = 0 ∧ k = false
theorem CaQ.ex (o : Option (Fq × Fq)) : ∃ x y u v k, CaQ o x y u v k := by
  cases o with
  | none => exact ⟨0, 0, 0, 0, false, rfl, rfl, rfl, rfl, rfl⟩
  | some f => exact ⟨f.1.1, f.1.2, f.2.1, f.2.2, true, rfl, rfl, rfl, rfl, rfl⟩
theorem CaQ.lit {o : Option (Fq × Fq)} {x y u v : Int} {k : Bool} (h : CaQ o x y u v k) : CaE o = .returned (.tuple #[.agg #[.int .i64 x, .int .i64 y], .agg #[.int .i64 u, .int .i64 v], .bool k]) := by
  cases o with
  | none => obtain ⟨rfl, rfl, rfl, rfl, rfl⟩ := h; rfl
  | some d => obtain ⟨rfl, rfl, rfl, rfl, rfl⟩ := h; rfl
theorem CaQ.yes {o : Option (Fq × Fq)} {x y u v : Int} {k : Bool} (h : CaQ o x y u v k) (hk : k = true) : o = some ((x, y), (u, v)) := by
  cases o with
  | none => obtain ⟨-, -, -, -, h3⟩ := h; rw [h3] at hk; cases hk
  | some d => obtain ⟨rfl, rfl, rfl, rfl, -⟩ := h; rfl

theorem nqI_lit {a b e x y : Int} {k : Bool} (h : NbQ (nqV a b e) x y k) (w : World) : Calls Tryz.prog 8 #[.agg #[.int .i64 a, .int .i64 b], .int .i64 e] w fun r w' => r = .returned (.tuple #[.agg #[.int .i64 x, .int .i64 y], .bool k]) ∧ Below w.heap.size w w' := by
  refine (nqI_any a b e w).mono ?_
  rintro r w1 ⟨hr, hb⟩
  exact ⟨h.lit hr, hb⟩
theorem nqS_lit {a b e x y : Int} {k : Bool} (h : NbQ (nqV a b e) x y k) (w : World) : Calls Tryz.prog 9 #[.agg #[.int .i64 a, .int .i64 b], .int .i64 e] w fun r w' => r = .returned (.tuple #[.agg #[.int .i64 x, .int .i64 y], .bool k]) ∧ Below w.heap.size w w' := by
  refine (neS_any a b e w).mono ?_
  rintro r w1 ⟨hr, hb⟩
  exact ⟨h.lit hr, hb⟩
theorem rwI_lit {a b e x y : Int} {k : Bool} (h : rwV a b e = (x, y, k)) (w : World) : Calls Tryz.prog 10 #[.agg #[.int .i64 a, .int .i64 b], .int .i64 e] w fun r w' => r = .returned (.tuple #[.int .i64 x, .int .i64 y, .bool k]) ∧ Below w.heap.size w w' := by
  have h1 := rwI_any a b e w
  rw [h] at h1
  exact h1
theorem rwS_lit {a b e x y : Int} {k : Bool} (h : rwV a b e = (x, y, k)) (w : World) : Calls Tryz.prog 11 #[.agg #[.int .i64 a, .int .i64 b], .int .i64 e] w fun r w' => r = .returned (.tuple #[.int .i64 x, .int .i64 y, .bool k]) ∧ Below w.heap.size w w' := by
  have h1 := rwS_any a b e w
  rw [h] at h1
  exact h1
theorem carI_lit {a b e x1 x2 y1 y2 p q u v : Int} {k : Bool} (h : CaQ (carV a b e (x1, x2) (y1, y2)) p q u v k) (w : World) : Calls Tryz.prog 19 #[.agg #[.int .i64 a, .int .i64 b], .int .i64 e, .agg #[.int .i64 x1, .int .i64 x2], .agg #[.int .i64 y1, .int .i64 y2]] w fun r w' => r = .returned (.tuple #[.agg #[.int .i64 p, .int .i64 q], .agg #[.int .i64 u, .int .i64 v], .bool k]) ∧ Below w.heap.size w w' := by
  refine (carI_any a b e x1 x2 y1 y2 w).mono ?_
  rintro r w1 ⟨hr, hb⟩
  exact ⟨by rw [hr, h.lit], hb⟩
theorem carS_lit {a b e x1 x2 y1 y2 p q u v : Int} {k : Bool} (h : CaQ (carV a b e (x1, x2) (y1, y2)) p q u v k) (w : World) : Calls Tryz.prog 20 #[.agg #[.int .i64 a, .int .i64 b], .int .i64 e, .agg #[.int .i64 x1, .int .i64 x2], .agg #[.int .i64 y1, .int .i64 y2]] w fun r w' => r = .returned (.tuple #[.agg #[.int .i64 p, .int .i64 q], .agg #[.int .i64 u, .int .i64 v], .bool k]) ∧ Below w.heap.size w w' := by
  refine (carS_any a b e x1 x2 y1 y2 w).mono ?_
  rintro r w1 ⟨hr, hb⟩
  exact ⟨by rw [hr, h.lit], hb⟩
theorem tnI_lit {a b : Int} {L : List Cu} {q : Bool} (h : allV a b = (L, q)) (hc : curveB a b = true) (w : World) : Calls Tryz.prog 13 #[.agg #[.int .i64 a, .int .i64 b]] w fun e w' => (∃ v : Value, e = .returned (.tuple #[v, .bool q]) ∧ Rd cuS w' w'.heap.size v L) ∧ Below w.heap.size w w' := by
  have h1 := tnI_any a b w hc
  rw [h] at h1
  exact h1
theorem tnS_lit {a b : Int} {L : List Cu} {q : Bool} (h : allV a b = (L, q)) (hc : curveB a b = true) (w : World) : Calls Tryz.prog 14 #[.agg #[.int .i64 a, .int .i64 b]] w fun e w' => (∃ v : Value, e = .returned (.tuple #[v, .bool q]) ∧ Rd cuS w' w'.heap.size v L) ∧ Below w.heap.size w w' := by
  have h1 := tnS_any a b w hc
  rw [h] at h1
  exact h1
theorem cpI_lit {a b n : Int} {p : Nat} {g : Bool} (h1 : nPts a b p = n) (h2 : gdB a b p = g) (hc : curveB a b = true) (hp : pr4 p) (w : World) : Calls Tryz.prog 16 #[.agg #[.int .i64 a, .int .i64 b], .int .i64 (p : Int)] w fun r w' => r = .returned (.tuple #[.int .i64 n, .bool g]) ∧ Below w.heap.size w w' := by
  have h := cpI_any a b p w hc hp
  rw [h1, h2] at h
  exact h
theorem cpS_lit {a b n : Int} {p : Nat} {g : Bool} (h1 : nPts a b p = n) (h2 : gdB a b p = g) (hc : curveB a b = true) (hp : pr4 p) (w : World) : Calls Tryz.prog 17 #[.agg #[.int .i64 a, .int .i64 b], .int .i64 (p : Int)] w fun r w' => r = .returned (.tuple #[.int .i64 n, .bool g]) ∧ Below w.heap.size w w' := by
  have h := cpS_any a b p w hc hp
  rw [h1, h2] at h
  exact h
theorem nb_three {a b e x y r1 r2 : Int} {k1 k2 : Bool} (h : NbQ (nqV a b e) x y k1) (hr : rwV a b e = (r1, r2, k2)) : (k1 = false ∧ k2 = false) ∨ (k1 = false ∧ k2 = true) ∨ (k1 = true ∧ k2 = true) := by
  cases hk : askB a b e
  · rw [nqV_no hk] at h
    rw [rwV_no hk] at hr
    injection hr with _ hr
    injection hr with _ hr
    exact Or.inl ⟨h.of_none, hr.symm⟩
  · rw [rwV_yes hk] at hr
    injection hr with _ hr
    injection hr with _ hr
    cases k1
    · exact Or.inr (Or.inl ⟨rfl, hr.symm⟩)
    · exact Or.inr (Or.inr ⟨rfl, hr.symm⟩)
/-- The raw neighbour's root, as the law has it. -/
theorem raw_zero {a b e r1 r2 : Int} (hr : rwV a b e = (r1, r2, true)) : (-8 * e * e * e - 2 * e * r1 + r2 = 0) ∧ (-100 ≤ e ∧ e ≤ 100) ∧ (-156000 ≤ r1 ∧ r1 ≤ 6000) ∧ (-21710000 ≤ r2 ∧ r2 ≤ 21710000) := by
  cases hk : askB a b e
  · rw [rwV_no hk] at hr
    injection hr with _ hr
    injection hr with _ hr
    cases hr
  · rw [rwV_yes hk] at hr
    injection hr with h1 hr
    injection hr with h2 hr
    obtain ⟨hc, hev, he⟩ := ask_bd hk
    obtain ⟨ha, hb⟩ := curveB_bd hc
    obtain ⟨b1, b2⟩ := raw_bd (e := e) ha hb he
    subst h1; subst h2
    refine ⟨?_, he, b1, b2⟩
    have h := raw_root hev
    unfold evZ at h
    grind
theorem nb_facts {a b e x y : Int} (h : NbQ (nqV a b e) x y true) : curveB a b = true ∧ evZ a b e = 0 ∧ nbV a b e = some ⟨x, y⟩ ∧ curveB x y = true := by
  have h1 := h.yes rfl
  unfold nqV at h1
  split at h1
  · rename_i hk
    obtain ⟨hc, hev, -⟩ := ask_bd hk
    exact ⟨hc, hev, h1, (nbV_good h1).1⟩
  · cases h1
theorem found_step {L : List Cu} {s : Cu} {q fb fb2 : Bool} {k : Nat} (h : (q = false ∨ ∃ j, j < k ∧ cuS.get L j = s) → fb = true) (h2 : fb = true → fb2 = true) (h3 : cuS.get L k = s → fb2 = true) : (q = false ∨ ∃ j, j < k + 1 ∧ cuS.get L j = s) → fb2 = true := by
  rintro (h4 | ⟨j, hj, h4⟩)
  · exact h2 (h (Or.inl h4))
  · rcases Nat.lt_or_ge j k with h5 | h5
    · exact h2 (h (Or.inr ⟨j, h5, h4⟩))
    · obtain rfl : j = k := by omega
      exact h3 h4
theorem found_end {a b e x y : Int} {L : List Cu} {q fb : Bool} (h : NbQ (nqV a b e) x y true) (hL : allV x y = (L, q)) (hf : (q = false ∨ ∃ j, j < L.length ∧ cuS.get L j = smC a b) → fb = true) : fb = true := by
  obtain ⟨hc, hev, hn, -⟩ := nb_facts h
  refine hf ?_
  cases q
  · exact Or.inl rfl
  · have h1 := back_mem hc hev hn (by rw [hL])
    rw [hL] at h1
    obtain ⟨j, hj, h2⟩ := List.getElem_of_mem h1
    exact Or.inr ⟨j, hj, by show L.getD j _ = _; rw [List.getD_eq_getElem?_getD, List.getElem?_eq_getElem hj]; exact h2⟩
theorem four_at {k : Nat} (hk : k < 4) : ∃ p : Nat, pr4 p ∧ (#[Value.int .i64 5, .int .i64 7, .int .i64 11, .int .i64 13] : Array Value)[k]? = some (.int .i64 (p : Int)) := by
  match k, hk with
  | 0, _ => exact ⟨5, Or.inl rfl, rfl⟩
  | 1, _ => exact ⟨7, Or.inr (Or.inl rfl), rfl⟩
  | 2, _ => exact ⟨11, Or.inr (Or.inr (Or.inl rfl)), rfl⟩
  | 3, _ => exact ⟨13, Or.inr (Or.inr (Or.inr rfl)), rfl⟩
theorem found_start (L : List Cu) (s : Cu) (q : Bool) : (q = false ∨ ∃ j, j < 0 ∧ cuS.get L j = s) → (!q) = true := by
  rintro (h | ⟨j, hj, -⟩)
  · rw [h]; rfl
  · exact absurd hj (Nat.not_lt_zero _)
set_option linter.unusedSimpArgs false in
set_option linter.unusedVariables false in
set_option maxRecDepth 8000 in
set_option maxHeartbeats 16000000 in
theorem fnIsogenies_walk (A : Option Addr) (n c : Nat) (B : Option Addr) (m d : Nat) (w : World) (ha : BytesAt w w.heap.size A n) (hb : BytesAt w w.heap.size B m) :
    Calls Tryz.prog 3 #[.slice A n c, .slice B m d] w fun e w' => e = .returned (.bool true) ∧ Below w.heap.size w w' := by
  have Ha := Lib.hid ha; have Hb := Lib.hid hb; clear ha hb
  go_enter Tryz.func3, Tryz.ntmps3
  go_wp2_with fail
  refine (big_any A n c B m d _).mono ?_; rintro e w1 ⟨rfl, hb1⟩
  have S1 := Lib.hid (show w.heap.size + 0 ≤ w1.heap.size by have h9 := hb1.size; (try simp only [World.size_alloc, World.size_setCell, World.size_drew] at h9); omega)
  have Hb1 := Lib.hid (bthen (Below.refl w.heap.size w) hb1)
  clear hb1
  cases hbg : bigB n m
  rotate_left
  · clear hbg
    go_wp2
    go_ret
    exact ⟨rfl, Hb1.out⟩
  · clear hbg
    go_wp2_with fail
    refine (drawNb_any A n c _ (Ha.out.on Hb1.out)).mono ?_; rintro e w2 ⟨⟨a, b, e, rfl⟩, hb2⟩
    have S2 := Lib.hid (show w1.heap.size + 0 ≤ w2.heap.size by have h9 := hb2.size; (try simp only [World.size_alloc, World.size_setCell, World.size_drew] at h9); omega)
    have Hb2 := Lib.hid (bthen Hb1.out hb2)
    clear hb2
    obtain ⟨dx, dy, k1, hN⟩ := NbQ.ex (nqV a b e)
    have HN := Lib.hid hN; clear hN
    obtain ⟨r1, r2, k2, hr⟩ : ∃ x y k, rwV a b e = (x, y, k) := ⟨_, _, _, rfl⟩
    have HR := Lib.hid hr; clear hr
    go_wp2_with fail
    refine (nqI_lit HN.out _).mono ?_; rintro e w3 ⟨rfl, hb3⟩
    have S3 := Lib.hid (show w2.heap.size + 1 ≤ w3.heap.size by have h9 := hb3.size; (try simp only [World.size_alloc, World.size_setCell, World.size_drew] at h9); omega)
    have NC := Lib.hid ((Blk.new w2 25 #[.int .i64 a, .int .i64 b]).on hb3)
    have C := NC; clear NC
    have Hb3 := Lib.hid (bthen (bal Hb2.out (Obj.cells #[.int .i64 a, .int .i64 b] 25)) hb3)
    clear hb3
    have qC0 : w3.cell? ⟨w2.heap.size, 0, none⟩ = some (.int .i64 a) := C.out.cell 0
    have qC1 : w3.cell? ⟨w2.heap.size, 1, none⟩ = some (.int .i64 b) := C.out.cell 1
    have qCl := C.out.lt
    go_wp2_with fail
    clear qC0 qC1 qCl
    refine (nqS_lit HN.out _).mono ?_; rintro e w4 ⟨rfl, hb4⟩
    have S4 := Lib.hid (show w3.heap.size + 1 ≤ w4.heap.size by have h9 := hb4.size; (try simp only [World.size_alloc, World.size_setCell, World.size_drew] at h9); omega)
    have NC := Lib.hid ((C.out.alloc (Obj.cells #[.int .i64 dx, .int .i64 dy] 25)).on hb4)
    have ND := Lib.hid ((Blk.new w3 25 #[.int .i64 dx, .int .i64 dy]).on hb4)
    have C := NC; clear NC
    have D := ND; clear ND
    have Hb4 := Lib.hid (bthen (bal Hb3.out (Obj.cells #[.int .i64 dx, .int .i64 dy] 25)) hb4)
    clear hb4
    have qC0 : w4.cell? ⟨w2.heap.size, 0, none⟩ = some (.int .i64 a) := C.out.cell 0
    have qC1 : w4.cell? ⟨w2.heap.size, 1, none⟩ = some (.int .i64 b) := C.out.cell 1
    have qCl := C.out.lt
    go_wp2_with fail
    clear qC0 qC1 qCl
    refine (rwI_lit HR.out _).mono ?_; rintro e w5 ⟨rfl, hb5⟩
    have S5 := Lib.hid (show w4.heap.size + 1 ≤ w5.heap.size by have h9 := hb5.size; (try simp only [World.size_alloc, World.size_setCell, World.size_drew] at h9); omega)
    have NC := Lib.hid ((C.out.alloc (Obj.cells #[.int .i64 dx, .int .i64 dy] 25)).on hb5)
    have ND := Lib.hid ((D.out.alloc (Obj.cells #[.int .i64 dx, .int .i64 dy] 25)).on hb5)
    have NN := Lib.hid ((Blk.new w4 25 #[.int .i64 dx, .int .i64 dy]).on hb5)
    have C := NC; clear NC
    have D := ND; clear ND
    have N := NN; clear NN
    have Hb5 := Lib.hid (bthen (bal Hb4.out (Obj.cells #[.int .i64 dx, .int .i64 dy] 25)) hb5)
    clear hb5
    have qC0 : w5.cell? ⟨w2.heap.size, 0, none⟩ = some (.int .i64 a) := C.out.cell 0
    have qC1 : w5.cell? ⟨w2.heap.size, 1, none⟩ = some (.int .i64 b) := C.out.cell 1
    have qCl := C.out.lt
    go_wp2_with fail
    clear qC0 qC1 qCl
    refine (rwS_lit HR.out _).mono ?_; rintro e w6 ⟨rfl, hb6⟩
    have S6 := Lib.hid (show w5.heap.size + 0 ≤ w6.heap.size by have h9 := hb6.size; (try simp only [World.size_alloc, World.size_setCell, World.size_drew] at h9); omega)
    have NC := Lib.hid (C.out.on hb6)
    have ND := Lib.hid (D.out.on hb6)
    have NN := Lib.hid (N.out.on hb6)
    have C := NC; clear NC
    have D := ND; clear ND
    have N := NN; clear NN
    have Hb6 := Lib.hid (bthen Hb5.out hb6)
    clear hb6
    have Hk : Hid ((k1 = false ∧ k2 = false) ∨ (k1 = false ∧ k2 = true) ∨ (k1 = true ∧ k2 = true)) := Lib.hid (nb_three HN.out HR.out)
    go_upto_region 8 with fail
    go_cut [123] from 94 to 123 (fun r wx => r = .bool false ∧ wx = w6)
    case first =>
      have qD0 : w6.cell? ⟨w3.heap.size, 0, none⟩ = some (.int .i64 dx) := D.out.cell 0
      have qD1 : w6.cell? ⟨w3.heap.size, 1, none⟩ = some (.int .i64 dy) := D.out.cell 1
      have qDl := D.out.lt
      have qN0 : w6.cell? ⟨w4.heap.size, 0, none⟩ = some (.int .i64 dx) := N.out.cell 0
      have qN1 : w6.cell? ⟨w4.heap.size, 1, none⟩ = some (.int .i64 dy) := N.out.cell 1
      have qNl := N.out.lt
      rcases Hk.out with ⟨rfl, rfl⟩ | ⟨rfl, rfl⟩ | ⟨rfl, rfl⟩
      all_goals go_wp2
      all_goals go_meet
      all_goals exact ⟨rfl, rfl⟩
    obtain ⟨rfl, hcw⟩ := hcut
    rw [hcw]; clear hcw
    go_upto_region 10 with fail
    go_cut [140] from 124 to 140 (fun r wx => r = .bool false ∧ wx = w6)
    case first =>
      cases k2
      · go_wp2
        go_meet
        exact ⟨rfl, rfl⟩
      · obtain ⟨hz, he, h1, h2⟩ := raw_zero HR.out
        obtain ⟨m1, m2⟩ := mul_bd (-8 * e) e 800 100 (by omega) (by omega) he.1 he.2
        obtain ⟨m3, m4⟩ := mul_bd (-8 * e * e) e 80000 100 (by omega) (by omega) he.1 he.2
        obtain ⟨m5, m6⟩ := mul_bd (2 * e) r1 200 156000 (by omega) (by omega) (by omega) (by omega)
        go_wp2
        go_meet
        exact ⟨rfl, rfl⟩
    obtain ⟨rfl, hcw⟩ := hcut
    rw [hcw]; clear hcw
    go_upto_if 141 with fail
    go_cut [4] from 142 to 247 (fun r wx => Below w.heap.size w wx)
    case first =>
      cases k1
      · go_wp2
        go_meet
        exact Hb6.out
      · clear Hk
        obtain ⟨hc, hev, hnb, hcd⟩ := nb_facts HN.out
        have Hc := Lib.hid hc; have Hev := Lib.hid hev; have Hnb := Lib.hid hnb; have Hcd := Lib.hid hcd; clear hc hev hnb hcd
        obtain ⟨L, q, hL⟩ : ∃ L q, allV dx dy = (L, q) := ⟨_, _, rfl⟩
        have HL := Lib.hid hL; clear hL
        obtain ⟨sm, hsm⟩ : ∃ s, smC a b = s := ⟨_, rfl⟩
        have Hsm := Lib.hid hsm; have Hend := Lib.hid (fun (fb : Bool) => found_end (fb := fb) HN.out HL.out)
        rw [hsm] at Hend
        have Hsc := Lib.hid (fun w9 => smallS_any a b w9 Hc.out)
        rw [hsm] at Hsc
        clear hsm
        have qC0 : w6.cell? ⟨w2.heap.size, 0, none⟩ = some (.int .i64 a) := C.out.cell 0
        have qC1 : w6.cell? ⟨w2.heap.size, 1, none⟩ = some (.int .i64 b) := C.out.cell 1
        have qCl := C.out.lt
        go_wp2_with fail
        clear qC0 qC1 qCl
        refine (Hsc.out _).mono ?_; rintro e w7 ⟨⟨u, rfl⟩, hb7⟩
        have S7 := Lib.hid (show w6.heap.size + 0 ≤ w7.heap.size by have h9 := hb7.size; (try simp only [World.size_alloc, World.size_setCell, World.size_drew] at h9); omega)
        have NC := Lib.hid (C.out.on hb7)
        have ND := Lib.hid (D.out.on hb7)
        have NN := Lib.hid (N.out.on hb7)
        have C := NC; clear NC
        have D := ND; clear ND
        have N := NN; clear NN
        have Hb7 := Lib.hid (bthen Hb6.out hb7)
        clear hb7
        have qD0 : w7.cell? ⟨w3.heap.size, 0, none⟩ = some (.int .i64 dx) := D.out.cell 0
        have qD1 : w7.cell? ⟨w3.heap.size, 1, none⟩ = some (.int .i64 dy) := D.out.cell 1
        have qDl := D.out.lt
        go_wp2_with fail
        clear qD0 qD1 qDl
        refine (tnI_lit HL.out Hcd.out _).mono ?_; rintro e w8 ⟨⟨v1, rfl, h9⟩, hb8⟩
        have S8 := Lib.hid (show w7.heap.size + 1 ≤ w8.heap.size by have h9 := hb8.size; (try simp only [World.size_alloc, World.size_setCell, World.size_drew] at h9); omega)
        have NC := Lib.hid ((C.out.alloc (Obj.cells #[.int .i64 sm.a, .int .i64 sm.b] 25)).on hb8)
        have ND := Lib.hid ((D.out.alloc (Obj.cells #[.int .i64 sm.a, .int .i64 sm.b] 25)).on hb8)
        have NN := Lib.hid ((N.out.alloc (Obj.cells #[.int .i64 sm.a, .int .i64 sm.b] 25)).on hb8)
        have NS := Lib.hid ((Blk.new w7 25 #[.int .i64 sm.a, .int .i64 sm.b]).on hb8)
        have C := NC; clear NC
        have D := ND; clear ND
        have N := NN; clear NN
        have S := NS; clear NS
        have Hb8 := Lib.hid (bthen (bal Hb7.out (Obj.cells #[.int .i64 sm.a, .int .i64 sm.b] 25)) hb8)
        clear hb8
        have R1 := Lib.hid h9; clear h9
        have qN0 : w8.cell? ⟨w4.heap.size, 0, none⟩ = some (.int .i64 dx) := N.out.cell 0
        have qN1 : w8.cell? ⟨w4.heap.size, 1, none⟩ = some (.int .i64 dy) := N.out.cell 1
        have qNl := N.out.lt
        go_wp2_with fail
        clear qN0 qN1 qNl
        refine (tnS_lit HL.out Hcd.out _).mono ?_; rintro e w9 ⟨⟨v2, rfl, h9⟩, hb9⟩
        have S9 := Lib.hid (show w8.heap.size + 0 ≤ w9.heap.size by have h9 := hb9.size; (try simp only [World.size_alloc, World.size_setCell, World.size_drew] at h9); omega)
        have NC := Lib.hid (C.out.on hb9)
        have ND := Lib.hid (D.out.on hb9)
        have NN := Lib.hid (N.out.on hb9)
        have NS := Lib.hid (S.out.on hb9)
        have C := NC; clear NC
        have D := ND; clear ND
        have N := NN; clear NN
        have S := NS; clear NS
        replace R1 := Lib.hid (R1.out.on (bthen ((Below.refl _ _)) hb9))
        have Hb9 := Lib.hid (bthen Hb8.out hb9)
        clear hb9
        have hlm := h9.len9
        obtain ⟨A2, c2, rfl⟩ := h9.formC9
        have R2 := Lib.hid h9; clear h9
        go_wp2_with fail
        refine (qCuSame _ _ L _ R1.out R2.out).mono ?_; rintro e w10 ⟨rfl, hb10⟩
        have S10 := Lib.hid (show w9.heap.size + 0 ≤ w10.heap.size by have h9 := hb10.size; (try simp only [World.size_alloc, World.size_setCell, World.size_drew] at h9); omega)
        have NC := Lib.hid (C.out.on hb10)
        have ND := Lib.hid (D.out.on hb10)
        have NN := Lib.hid (N.out.on hb10)
        have NS := Lib.hid (S.out.on hb10)
        have C := NC; clear NC
        have D := ND; clear ND
        have N := NN; clear NN
        have S := NS; clear NS
        replace R1 := Lib.hid (R1.out.on (bthen ((Below.refl _ _)) hb10))
        replace R2 := Lib.hid (R2.out.on (bthen ((Below.refl _ _)) hb10))
        have Hb10 := Lib.hid (bthen Hb9.out hb10)
        clear hb10
        clear R1
        go_wp2
        go_loopw [175, 24] (fun i f wr => ∃ (k : Nat) (fb : Bool), k ≤ L.length ∧ i = .int .i64 (k : Int) ∧ f = .bool fb ∧ Hid ((q = false ∨ ∃ j, j < k ∧ cuS.get L j = sm) → fb = true) ∧ Hid (Blk wr (w2.heap.size) 25 #[.int .i64 a, .int .i64 b]) ∧ Hid (Blk wr (w3.heap.size) 25 #[.int .i64 dx, .int .i64 dy]) ∧ Hid (Blk wr (w4.heap.size) 25 #[.int .i64 dx, .int .i64 dy]) ∧ Hid (Blk wr (w7.heap.size) 25 #[.int .i64 sm.a, .int .i64 sm.b]) ∧ Hid (Rd cuS wr wr.heap.size (.slice A2 L.length c2) L) ∧ Hid (Below w.heap.size w wr)) (fun i _ _ => L.length - (intOf i).toNat)
        case atStart => exact ⟨0, !q, Nat.zero_le _, rfl, rfl, Lib.hid (found_start L sm q), C, D, N, S, R2, Hb10⟩
        case round =>
          obtain ⟨k, fb, hk, rfl, rfl, Hf, C, D, N, S, R2, HbR⟩ := hrel
          by_cases hlt : k < L.length
          · obtain ⟨g, off, hA, hg, f0, f1⟩ := R2.out.cuAt9 hlt
            have hi0 : (0 : Int) ≤ (k : Int) := by omega
            have hi1 : (k : Int) < (L.length : Int) := by omega
            obtain ⟨y, hy⟩ : ∃ y, cuS.get L k = y := ⟨_, rfl⟩
            rw [hy] at f0 f1
            have Hst := Lib.hid (fun (fb2 : Bool) h2 h3 => found_step (fb2 := fb2) (k := k) Hf.out h2 h3)
            rw [hy] at Hst
            have R9 := R2; clear R2
            subst hA
            clear hy
            cases fb
            · by_cases hya : y.a = sm.a
              · have z1 : (y.a == sm.a) = true := by rw [hya]; simp
                have z11 : decide (y.a = sm.a) = true := decide_eq_true hya
                by_cases hyb : y.b = sm.b
                · have z2 : (y.b == sm.b) = true := by rw [hyb]; simp
                  have z21 : decide (y.b = sm.b) = true := decide_eq_true hyb
                  clear hya hyb
                  have qS0 : wr.cell? ⟨w7.heap.size, 0, none⟩ = some (.int .i64 sm.a) := S.out.cell 0
                  have qS1 : wr.cell? ⟨w7.heap.size, 1, none⟩ = some (.int .i64 sm.b) := S.out.cell 1
                  have qSl := S.out.lt
                  go_wp2
                  clear qS0 qS1 qSl
                  go_roundw
                  case rel => exact ⟨k + 1, true, by omega, by go_num, rfl, Lib.hid (Hst.out _ (fun h => rfl) (fun h => rfl)), Lib.hid (C.out.alloc (Obj.cells #[.int .i64 y.a, .int .i64 y.b] 25)), Lib.hid (D.out.alloc (Obj.cells #[.int .i64 y.a, .int .i64 y.b] 25)), Lib.hid (N.out.alloc (Obj.cells #[.int .i64 y.a, .int .i64 y.b] 25)), Lib.hid (S.out.alloc (Obj.cells #[.int .i64 y.a, .int .i64 y.b] 25)), Lib.hid (R9.out.on (bal (Below.refl _ _) _)), Lib.hid (bal HbR.out (Obj.cells #[.int .i64 y.a, .int .i64 y.b] 25))⟩
                  case measure => simp [intOf]; omega
                · have z2 : (y.b == sm.b) = false := beq_eq_false_iff_ne.2 hyb
                  have z21 : decide (y.b = sm.b) = false := decide_eq_false hyb
                  have Hne := Lib.hid (show y ≠ sm from fun h => hyb (by rw [h]))
                  clear hya hyb
                  have qS0 : wr.cell? ⟨w7.heap.size, 0, none⟩ = some (.int .i64 sm.a) := S.out.cell 0
                  have qS1 : wr.cell? ⟨w7.heap.size, 1, none⟩ = some (.int .i64 sm.b) := S.out.cell 1
                  have qSl := S.out.lt
                  go_wp2
                  clear qS0 qS1 qSl
                  go_roundw
                  case rel => exact ⟨k + 1, false, by omega, by go_num, rfl, Lib.hid (Hst.out _ (fun h => h) (fun h => absurd h Hne.out)), Lib.hid (C.out.alloc (Obj.cells #[.int .i64 y.a, .int .i64 y.b] 25)), Lib.hid (D.out.alloc (Obj.cells #[.int .i64 y.a, .int .i64 y.b] 25)), Lib.hid (N.out.alloc (Obj.cells #[.int .i64 y.a, .int .i64 y.b] 25)), Lib.hid (S.out.alloc (Obj.cells #[.int .i64 y.a, .int .i64 y.b] 25)), Lib.hid (R9.out.on (bal (Below.refl _ _) _)), Lib.hid (bal HbR.out (Obj.cells #[.int .i64 y.a, .int .i64 y.b] 25))⟩
                  case measure => simp [intOf]; omega
              · have z1 : (y.a == sm.a) = false := beq_eq_false_iff_ne.2 hya
                have z11 : decide (y.a = sm.a) = false := decide_eq_false hya
                have Hne := Lib.hid (show y ≠ sm from fun h => hya (by rw [h]))
                clear hya
                have qS0 : wr.cell? ⟨w7.heap.size, 0, none⟩ = some (.int .i64 sm.a) := S.out.cell 0
                have qS1 : wr.cell? ⟨w7.heap.size, 1, none⟩ = some (.int .i64 sm.b) := S.out.cell 1
                have qSl := S.out.lt
                go_wp2
                clear qS0 qS1 qSl
                go_roundw
                case rel => exact ⟨k + 1, false, by omega, by go_num, rfl, Lib.hid (Hst.out _ (fun h => h) (fun h => absurd h Hne.out)), Lib.hid (C.out.alloc (Obj.cells #[.int .i64 y.a, .int .i64 y.b] 25)), Lib.hid (D.out.alloc (Obj.cells #[.int .i64 y.a, .int .i64 y.b] 25)), Lib.hid (N.out.alloc (Obj.cells #[.int .i64 y.a, .int .i64 y.b] 25)), Lib.hid (S.out.alloc (Obj.cells #[.int .i64 y.a, .int .i64 y.b] 25)), Lib.hid (R9.out.on (bal (Below.refl _ _) _)), Lib.hid (bal HbR.out (Obj.cells #[.int .i64 y.a, .int .i64 y.b] 25))⟩
                case measure => simp [intOf]; omega
            · go_wp2
              go_roundw
              case rel => exact ⟨k + 1, true, by omega, by go_num, rfl, Lib.hid (Hst.out _ (fun h => rfl) (fun h => rfl)), Lib.hid (C.out.alloc (Obj.cells #[.int .i64 y.a, .int .i64 y.b] 25)), Lib.hid (D.out.alloc (Obj.cells #[.int .i64 y.a, .int .i64 y.b] 25)), Lib.hid (N.out.alloc (Obj.cells #[.int .i64 y.a, .int .i64 y.b] 25)), Lib.hid (S.out.alloc (Obj.cells #[.int .i64 y.a, .int .i64 y.b] 25)), Lib.hid (R9.out.on (bal (Below.refl _ _) _)), Lib.hid (bal HbR.out (Obj.cells #[.int .i64 y.a, .int .i64 y.b] 25))⟩
              case measure => simp [intOf]; omega
          · obtain rfl : k = L.length := by omega
            have hfb := Hend.out fb Hf.out
            subst hfb
            clear R2 S Hf
            obtain ⟨wl, hwl⟩ : ∃ x, x = wr := ⟨_, rfl⟩; subst hwl
            go_wp2
            go_loopw [190] (fun i wq => ∃ k : Nat, k ≤ 4 ∧ i = .int .i64 (k : Int) ∧ Hid (Blk wq (w2.heap.size) 25 #[.int .i64 a, .int .i64 b]) ∧ Hid (Blk wq (w3.heap.size) 25 #[.int .i64 dx, .int .i64 dy]) ∧ Hid (Blk wq (w4.heap.size) 25 #[.int .i64 dx, .int .i64 dy]) ∧ Hid (Blk wq (wl.heap.size) 3 #[.int .i64 5, .int .i64 7, .int .i64 11, .int .i64 13]) ∧ Hid (wl.heap.size < wq.heap.size) ∧ Hid (Below w.heap.size w wq)) (fun i _ => 4 - (intOf i).toNat)
            case atStart => exact ⟨0, by omega, rfl, Lib.hid (C.out.alloc (Obj.cells #[.int .i64 5, .int .i64 7, .int .i64 11, .int .i64 13] 3)), Lib.hid (D.out.alloc (Obj.cells #[.int .i64 5, .int .i64 7, .int .i64 11, .int .i64 13] 3)), Lib.hid (N.out.alloc (Obj.cells #[.int .i64 5, .int .i64 7, .int .i64 11, .int .i64 13] 3)), Lib.hid (Blk.new wl 3 #[.int .i64 5, .int .i64 7, .int .i64 11, .int .i64 13]), Lib.hid (by simp), Lib.hid (bal HbR.out (Obj.cells #[.int .i64 5, .int .i64 7, .int .i64 11, .int .i64 13] 3))⟩
            case round =>
              skip
              obtain ⟨k, hk, rfl, C, D, N, P4, Hsz, HbR⟩ := hrel
              by_cases hlt : k < 4
              · obtain ⟨p, hp, hpc⟩ := four_at hlt
                have hi0 : (0 : Int) ≤ (k : Int) := by omega
                have hi1 : (k : Int) < 4 := by omega
                have Hp := Lib.hid hp; clear hp
                have f0 : wr.cell? ⟨wl.heap.size, k, none⟩ = some (.int .i64 (p : Int)) := (P4.out.cell k).trans hpc
                have fl := P4.out.lt
                clear hpc
                obtain ⟨n1, hn1⟩ : ∃ z, nPts a b p = z := ⟨_, rfl⟩
                obtain ⟨g1, hg1⟩ : ∃ z, gdB a b p = z := ⟨_, rfl⟩
                obtain ⟨n2, hn2⟩ : ∃ z, nPts dx dy p = z := ⟨_, rfl⟩
                obtain ⟨g2, hg2⟩ : ∃ z, gdB dx dy p = z := ⟨_, rfl⟩
                have Heq : Hid (g1 = true → g2 = true → n1 = n2) := Lib.hid (fun h1 h2 => by rw [← hn1, ← hn2]; exact cnt_eq Hp.out Hc.out Hev.out Hnb.out (hg1.trans h1) (hg2.trans h2))
                have Hn1 := Lib.hid hn1; have Hg1 := Lib.hid hg1; have Hn2 := Lib.hid hn2; have Hg2 := Lib.hid hg2; clear hn1 hg1 hn2 hg2
                have qC0 : wr.cell? ⟨w2.heap.size, 0, none⟩ = some (.int .i64 a) := C.out.cell 0
                have qC1 : wr.cell? ⟨w2.heap.size, 1, none⟩ = some (.int .i64 b) := C.out.cell 1
                have qCl := C.out.lt
                go_wp2_with fail
                clear qC0 qC1 qCl
                refine (cpI_lit Hn1.out Hg1.out Hc.out Hp.out _).mono ?_; rintro e w11 ⟨rfl, hb11⟩
                have S11 := Lib.hid (show wr.heap.size + 0 ≤ w11.heap.size by have h9 := hb11.size; (try simp only [World.size_alloc, World.size_setCell, World.size_drew] at h9); omega)
                have NC := Lib.hid (C.out.on hb11)
                have ND := Lib.hid (D.out.on hb11)
                have NN := Lib.hid (N.out.on hb11)
                have NP4 := Lib.hid (P4.out.on hb11)
                have C := NC; clear NC
                have D := ND; clear ND
                have N := NN; clear NN
                have P4 := NP4; clear NP4
                have Hb11 := Lib.hid (bthen HbR.out hb11)
                clear hb11
                clear f0 fl
                have qD0 : w11.cell? ⟨w3.heap.size, 0, none⟩ = some (.int .i64 dx) := D.out.cell 0
                have qD1 : w11.cell? ⟨w3.heap.size, 1, none⟩ = some (.int .i64 dy) := D.out.cell 1
                have qDl := D.out.lt
                go_wp2_with fail
                clear qD0 qD1 qDl
                refine (cpI_lit Hn2.out Hg2.out Hcd.out Hp.out _).mono ?_; rintro e w12 ⟨rfl, hb12⟩
                have S12 := Lib.hid (show w11.heap.size + 0 ≤ w12.heap.size by have h9 := hb12.size; (try simp only [World.size_alloc, World.size_setCell, World.size_drew] at h9); omega)
                have NC := Lib.hid (C.out.on hb12)
                have ND := Lib.hid (D.out.on hb12)
                have NN := Lib.hid (N.out.on hb12)
                have NP4 := Lib.hid (P4.out.on hb12)
                have C := NC; clear NC
                have D := ND; clear ND
                have N := NN; clear NN
                have P4 := NP4; clear NP4
                have Hb12 := Lib.hid (bthen Hb11.out hb12)
                clear hb12
                have qC0 : w12.cell? ⟨w2.heap.size, 0, none⟩ = some (.int .i64 a) := C.out.cell 0
                have qC1 : w12.cell? ⟨w2.heap.size, 1, none⟩ = some (.int .i64 b) := C.out.cell 1
                have qCl := C.out.lt
                go_wp2_with fail
                clear qC0 qC1 qCl
                refine (cpS_lit Hn1.out Hg1.out Hc.out Hp.out _).mono ?_; rintro e w13 ⟨rfl, hb13⟩
                have S13 := Lib.hid (show w12.heap.size + 0 ≤ w13.heap.size by have h9 := hb13.size; (try simp only [World.size_alloc, World.size_setCell, World.size_drew] at h9); omega)
                have NC := Lib.hid (C.out.on hb13)
                have ND := Lib.hid (D.out.on hb13)
                have NN := Lib.hid (N.out.on hb13)
                have NP4 := Lib.hid (P4.out.on hb13)
                have C := NC; clear NC
                have D := ND; clear ND
                have N := NN; clear NN
                have P4 := NP4; clear NP4
                have Hb13 := Lib.hid (bthen Hb12.out hb13)
                clear hb13
                have qN0 : w13.cell? ⟨w4.heap.size, 0, none⟩ = some (.int .i64 dx) := N.out.cell 0
                have qN1 : w13.cell? ⟨w4.heap.size, 1, none⟩ = some (.int .i64 dy) := N.out.cell 1
                have qNl := N.out.lt
                go_wp2_with fail
                clear qN0 qN1 qNl
                refine (cpS_lit Hn2.out Hg2.out Hcd.out Hp.out _).mono ?_; rintro e w14 ⟨rfl, hb14⟩
                have S14 := Lib.hid (show w13.heap.size + 0 ≤ w14.heap.size by have h9 := hb14.size; (try simp only [World.size_alloc, World.size_setCell, World.size_drew] at h9); omega)
                have NC := Lib.hid (C.out.on hb14)
                have ND := Lib.hid (D.out.on hb14)
                have NN := Lib.hid (N.out.on hb14)
                have NP4 := Lib.hid (P4.out.on hb14)
                have C := NC; clear NC
                have D := ND; clear ND
                have N := NN; clear NN
                have P4 := NP4; clear NP4
                have Hb14 := Lib.hid (bthen Hb13.out hb14)
                clear hb14
                cases g1
                · go_wp2
                  go_roundw
                  case rel => exact ⟨k + 1, by omega, by go_num, C, D, N, P4, Lib.hid (by have := Hsz.out; have := S11.out; have := S12.out; have := S13.out; have := S14.out; omega), Hb14⟩
                  case measure => simp [intOf]; omega
                · cases g2
                  · go_wp2
                    go_roundw
                    case rel => exact ⟨k + 1, by omega, by go_num, C, D, N, P4, Lib.hid (by have := Hsz.out; have := S11.out; have := S12.out; have := S13.out; have := S14.out; omega), Hb14⟩
                    case measure => simp [intOf]; omega
                  · obtain rfl := Heq.out rfl rfl
                    go_wp2
                    go_roundw
                    case rel => exact ⟨k + 1, by omega, by go_num, C, D, N, P4, Lib.hid (by have := Hsz.out; have := S11.out; have := S12.out; have := S13.out; have := S14.out; omega), Hb14⟩
                    case measure => simp [intOf]; omega
              · obtain rfl : k = 4 := by omega
                go_wp2
                go_meet
                exact HbR.out
    clear C D N Hk HN HR
    obtain ⟨w15, hw9⟩ : ∃ x, x = wc := ⟨_, rfl⟩; subst hw9
    have Hb15 := Lib.hid hcut; clear hcut
    go_wp2_with fail
    refine (drawCarry_any B m d _ (Hb.out.on Hb15.out)).mono ?_; rintro e w16 ⟨⟨a, b, e, x1, x2, y1, y2, rfl⟩, hb16⟩
    have S16 := Lib.hid (show w15.heap.size + 0 ≤ w16.heap.size by have h9 := hb16.size; (try simp only [World.size_alloc, World.size_setCell, World.size_drew] at h9); omega)
    have Hb16 := Lib.hid (bthen Hb15.out hb16)
    clear hb16
    obtain ⟨ux, uy, vx, vy, k3, hQ⟩ := CaQ.ex (carV a b e (x1, x2) (y1, y2))
    have HQ := Lib.hid hQ; clear hQ
    go_wp2_with fail
    refine (carI_lit HQ.out _).mono ?_; rintro e w17 ⟨rfl, hb17⟩
    have S17 := Lib.hid (show w16.heap.size + 3 ≤ w17.heap.size by have h9 := hb17.size; (try simp only [World.size_alloc, World.size_setCell, World.size_drew] at h9); omega)
    have NC := Lib.hid ((((Blk.new w16 25 #[.int .i64 a, .int .i64 b]).alloc (Obj.cells #[.int .i64 x1, .int .i64 x2] 42)).alloc (Obj.cells #[.int .i64 y1, .int .i64 y2] 42)).on hb17)
    have NX := Lib.hid (((show Blk (World.alloc (World.alloc w16 (Obj.cells #[.int .i64 a, .int .i64 b] 25)) (Obj.cells #[.int .i64 x1, .int .i64 x2] 42)) (w16.heap.size + 1) 42 #[.int .i64 x1, .int .i64 x2] by have h9 := (Blk.new (World.alloc w16 (Obj.cells #[.int .i64 a, .int .i64 b] 25)) 42 #[.int .i64 x1, .int .i64 x2]); (try simp only [World.size_alloc, World.size_setCell] at h9); exact h9).alloc (Obj.cells #[.int .i64 y1, .int .i64 y2] 42)).on hb17)
    have NY := Lib.hid ((show Blk (World.alloc (World.alloc (World.alloc w16 (Obj.cells #[.int .i64 a, .int .i64 b] 25)) (Obj.cells #[.int .i64 x1, .int .i64 x2] 42)) (Obj.cells #[.int .i64 y1, .int .i64 y2] 42)) (w16.heap.size + 1 + 1) 42 #[.int .i64 y1, .int .i64 y2] by have h9 := (Blk.new (World.alloc (World.alloc w16 (Obj.cells #[.int .i64 a, .int .i64 b] 25)) (Obj.cells #[.int .i64 x1, .int .i64 x2] 42)) 42 #[.int .i64 y1, .int .i64 y2]); (try simp only [World.size_alloc, World.size_setCell] at h9); exact h9).on hb17)
    have C := NC; clear NC
    have X := NX; clear NX
    have Y := NY; clear NY
    have Hb17 := Lib.hid (bthen (bal (bal (bal Hb16.out (Obj.cells #[.int .i64 a, .int .i64 b] 25)) (Obj.cells #[.int .i64 x1, .int .i64 x2] 42)) (Obj.cells #[.int .i64 y1, .int .i64 y2] 42)) hb17)
    clear hb17
    have qC0 : w17.cell? ⟨w16.heap.size, 0, none⟩ = some (.int .i64 a) := C.out.cell 0
    have qC1 : w17.cell? ⟨w16.heap.size, 1, none⟩ = some (.int .i64 b) := C.out.cell 1
    have qCl := C.out.lt
    have qCl1 : w16.heap.size < w17.heap.size + 1 := Nat.lt_succ_of_lt qCl
    have qX0 : w17.cell? ⟨w16.heap.size + 1, 0, none⟩ = some (.int .i64 x1) := X.out.cell 0
    have qX1 : w17.cell? ⟨w16.heap.size + 1, 1, none⟩ = some (.int .i64 x2) := X.out.cell 1
    have qXl := X.out.lt
    have qXl1 : w16.heap.size + 1 < w17.heap.size + 1 := Nat.lt_succ_of_lt qXl
    have qY0 : w17.cell? ⟨w16.heap.size + 1 + 1, 0, none⟩ = some (.int .i64 y1) := Y.out.cell 0
    have qY1 : w17.cell? ⟨w16.heap.size + 1 + 1, 1, none⟩ = some (.int .i64 y2) := Y.out.cell 1
    have qYl := Y.out.lt
    have qYl1 : w16.heap.size + 1 + 1 < w17.heap.size + 1 := Nat.lt_succ_of_lt qYl
    go_wp2_with fail
    clear qC0 qC1 qCl qCl1 qX0 qX1 qXl qXl1 qY0 qY1 qYl qYl1
    refine (carS_lit HQ.out _).mono ?_; rintro e w18 ⟨rfl, hb18⟩
    have S18 := Lib.hid (show w17.heap.size + 2 ≤ w18.heap.size by have h9 := hb18.size; (try simp only [World.size_alloc, World.size_setCell, World.size_drew] at h9); omega)
    have NC := Lib.hid (((C.out.alloc (Obj.cells #[.int .i64 ux, .int .i64 uy] 42)).alloc (Obj.cells #[.int .i64 vx, .int .i64 vy] 42)).on hb18)
    have NX := Lib.hid (((X.out.alloc (Obj.cells #[.int .i64 ux, .int .i64 uy] 42)).alloc (Obj.cells #[.int .i64 vx, .int .i64 vy] 42)).on hb18)
    have NY := Lib.hid (((Y.out.alloc (Obj.cells #[.int .i64 ux, .int .i64 uy] 42)).alloc (Obj.cells #[.int .i64 vx, .int .i64 vy] 42)).on hb18)
    have NU := Lib.hid (((Blk.new w17 42 #[.int .i64 ux, .int .i64 uy]).alloc (Obj.cells #[.int .i64 vx, .int .i64 vy] 42)).on hb18)
    have NV := Lib.hid ((show Blk (World.alloc (World.alloc w17 (Obj.cells #[.int .i64 ux, .int .i64 uy] 42)) (Obj.cells #[.int .i64 vx, .int .i64 vy] 42)) (w17.heap.size + 1) 42 #[.int .i64 vx, .int .i64 vy] by have h9 := (Blk.new (World.alloc w17 (Obj.cells #[.int .i64 ux, .int .i64 uy] 42)) 42 #[.int .i64 vx, .int .i64 vy]); (try simp only [World.size_alloc, World.size_setCell] at h9); exact h9).on hb18)
    have C := NC; clear NC
    have X := NX; clear NX
    have Y := NY; clear NY
    have U := NU; clear NU
    have V := NV; clear NV
    have Hb18 := Lib.hid (bthen (bal (bal Hb17.out (Obj.cells #[.int .i64 ux, .int .i64 uy] 42)) (Obj.cells #[.int .i64 vx, .int .i64 vy] 42)) hb18)
    clear hb18
    cases k3
    · have qU0 : w18.cell? ⟨w17.heap.size, 0, none⟩ = some (.int .i64 ux) := U.out.cell 0
      have qU1 : w18.cell? ⟨w17.heap.size, 1, none⟩ = some (.int .i64 uy) := U.out.cell 1
      have qUl := U.out.lt
      have qUl1 : w17.heap.size < w18.heap.size + 1 := Nat.lt_succ_of_lt qUl
      have qV0 : w18.cell? ⟨w17.heap.size + 1, 0, none⟩ = some (.int .i64 vx) := V.out.cell 0
      have qV1 : w18.cell? ⟨w17.heap.size + 1, 1, none⟩ = some (.int .i64 vy) := V.out.cell 1
      have qVl := V.out.lt
      have qVl1 : w17.heap.size + 1 < w18.heap.size + 1 := Nat.lt_succ_of_lt qVl
      go_wp2
      clear qU0 qU1 qUl qUl1 qV0 qV1 qVl qVl1
      go_ret
      exact ⟨rfl, (bal (bal Hb18.out (Obj.cells #[.int .i64 ux, .int .i64 uy] 42)) (Obj.cells #[.int .i64 vx, .int .i64 vy] 42))⟩
    · have Hcar := Lib.hid (HQ.out.yes rfl)
      have Hrw := Lib.hid (rwV_yes (carV_ask Hcar.out))
      obtain ⟨ra, hra⟩ : ∃ z, rawA a e = z := ⟨_, rfl⟩
      obtain ⟨rb, hrb⟩ : ∃ z, rawB a b e = z := ⟨_, rfl⟩
      rw [hra, hrb] at Hrw
      have Hend := Lib.hid (fun p1 p2 p3 p4 p5 => carry_end (p1 := p1) (p2 := p2) (p3 := p3) (p4 := p4) (p5 := p5) Hcar.out)
      rw [hra, hrb] at Hend
      clear hra hrb
      have qC0 : w18.cell? ⟨w16.heap.size, 0, none⟩ = some (.int .i64 a) := C.out.cell 0
      have qC1 : w18.cell? ⟨w16.heap.size, 1, none⟩ = some (.int .i64 b) := C.out.cell 1
      have qCl := C.out.lt
      have qCl1 : w16.heap.size < w18.heap.size + 1 := Nat.lt_succ_of_lt qCl
      have qU0 : w18.cell? ⟨w17.heap.size, 0, none⟩ = some (.int .i64 ux) := U.out.cell 0
      have qU1 : w18.cell? ⟨w17.heap.size, 1, none⟩ = some (.int .i64 uy) := U.out.cell 1
      have qUl := U.out.lt
      have qUl1 : w17.heap.size < w18.heap.size + 1 := Nat.lt_succ_of_lt qUl
      have qV0 : w18.cell? ⟨w17.heap.size + 1, 0, none⟩ = some (.int .i64 vx) := V.out.cell 0
      have qV1 : w18.cell? ⟨w17.heap.size + 1, 1, none⟩ = some (.int .i64 vy) := V.out.cell 1
      have qVl := V.out.lt
      have qVl1 : w17.heap.size + 1 < w18.heap.size + 1 := Nat.lt_succ_of_lt qVl
      go_wp2_with fail
      clear qC0 qC1 qCl qCl1 qU0 qU1 qUl qUl1 qV0 qV1 qVl qVl1
      refine (rwS_lit Hrw.out _).mono ?_; rintro e w19 ⟨rfl, hb19⟩
      have S19 := Lib.hid (show w18.heap.size + 2 ≤ w19.heap.size by have h9 := hb19.size; (try simp only [World.size_alloc, World.size_setCell, World.size_drew] at h9); omega)
      have NC := Lib.hid (((C.out.alloc (Obj.cells #[.int .i64 ux, .int .i64 uy] 42)).alloc (Obj.cells #[.int .i64 vx, .int .i64 vy] 42)).on hb19)
      have NX := Lib.hid (((X.out.alloc (Obj.cells #[.int .i64 ux, .int .i64 uy] 42)).alloc (Obj.cells #[.int .i64 vx, .int .i64 vy] 42)).on hb19)
      have NY := Lib.hid (((Y.out.alloc (Obj.cells #[.int .i64 ux, .int .i64 uy] 42)).alloc (Obj.cells #[.int .i64 vx, .int .i64 vy] 42)).on hb19)
      have NU := Lib.hid (((U.out.alloc (Obj.cells #[.int .i64 ux, .int .i64 uy] 42)).alloc (Obj.cells #[.int .i64 vx, .int .i64 vy] 42)).on hb19)
      have NV := Lib.hid (((V.out.alloc (Obj.cells #[.int .i64 ux, .int .i64 uy] 42)).alloc (Obj.cells #[.int .i64 vx, .int .i64 vy] 42)).on hb19)
      have NU2 := Lib.hid (((Blk.new w18 42 #[.int .i64 ux, .int .i64 uy]).alloc (Obj.cells #[.int .i64 vx, .int .i64 vy] 42)).on hb19)
      have NV2 := Lib.hid ((show Blk (World.alloc (World.alloc w18 (Obj.cells #[.int .i64 ux, .int .i64 uy] 42)) (Obj.cells #[.int .i64 vx, .int .i64 vy] 42)) (w18.heap.size + 1) 42 #[.int .i64 vx, .int .i64 vy] by have h9 := (Blk.new (World.alloc w18 (Obj.cells #[.int .i64 ux, .int .i64 uy] 42)) 42 #[.int .i64 vx, .int .i64 vy]); (try simp only [World.size_alloc, World.size_setCell] at h9); exact h9).on hb19)
      have C := NC; clear NC
      have X := NX; clear NX
      have Y := NY; clear NY
      have U := NU; clear NU
      have V := NV; clear NV
      have U2 := NU2; clear NU2
      have V2 := NV2; clear NV2
      have Hb19 := Lib.hid (bthen (bal (bal Hb18.out (Obj.cells #[.int .i64 ux, .int .i64 uy] 42)) (Obj.cells #[.int .i64 vx, .int .i64 vy] 42)) hb19)
      clear hb19
      obtain ⟨s1, s2, o6, h9⟩ := FrQ.ex (mulG (vx, vy) (vx, vy))
      have F6 := Lib.hid h9; clear h9
      obtain ⟨p1, p2, o7, h9⟩ := FrQ.ex (mulG (ux, uy) (ux, uy))
      have F7 := Lib.hid h9; clear h9
      obtain ⟨q1, q2, o8, h9⟩ := FrQ.ex (sumG (p1, p2) (ra, 1))
      have F8 := Lib.hid h9; clear h9
      obtain ⟨t1, t2, o9, h9⟩ := FrQ.ex (mulG (q1, q2) (ux, uy))
      have F9 := Lib.hid h9; clear h9
      obtain ⟨z1, z2, o10, h9⟩ := FrQ.ex (sumG (t1, t2) (rb, 1))
      have F10 := Lib.hid h9; clear h9
      have qV20 : w19.cell? ⟨w18.heap.size + 1, 0, none⟩ = some (.int .i64 vx) := V2.out.cell 0
      have qV21 : w19.cell? ⟨w18.heap.size + 1, 1, none⟩ = some (.int .i64 vy) := V2.out.cell 1
      have qV2l := V2.out.lt
      go_wp2_with fail
      clear qV20 qV21 qV2l
      refine (prodS_lit F6.out _).mono ?_; rintro e w20 ⟨rfl, hb20⟩
      have S20 := Lib.hid (show w19.heap.size + 0 ≤ w20.heap.size by have h9 := hb20.size; (try simp only [World.size_alloc, World.size_setCell, World.size_drew] at h9); omega)
      have NC := Lib.hid (C.out.on hb20)
      have NX := Lib.hid (X.out.on hb20)
      have NY := Lib.hid (Y.out.on hb20)
      have NU := Lib.hid (U.out.on hb20)
      have NV := Lib.hid (V.out.on hb20)
      have NU2 := Lib.hid (U2.out.on hb20)
      have NV2 := Lib.hid (V2.out.on hb20)
      have C := NC; clear NC
      have X := NX; clear NX
      have Y := NY; clear NY
      have U := NU; clear NU
      have V := NV; clear NV
      have U2 := NU2; clear NU2
      have V2 := NV2; clear NV2
      have Hb20 := Lib.hid (bthen Hb19.out hb20)
      clear hb20
      have qU20 : w20.cell? ⟨w18.heap.size, 0, none⟩ = some (.int .i64 ux) := U2.out.cell 0
      have qU21 : w20.cell? ⟨w18.heap.size, 1, none⟩ = some (.int .i64 uy) := U2.out.cell 1
      have qU2l := U2.out.lt
      go_wp2_with fail
      clear qU20 qU21 qU2l
      refine (prodS_lit F7.out _).mono ?_; rintro e w21 ⟨rfl, hb21⟩
      have S21 := Lib.hid (show w20.heap.size + 1 ≤ w21.heap.size by have h9 := hb21.size; (try simp only [World.size_alloc, World.size_setCell, World.size_drew] at h9); omega)
      have NC := Lib.hid ((C.out.alloc (Obj.cells #[.int .i64 s1, .int .i64 s2] 42)).on hb21)
      have NX := Lib.hid ((X.out.alloc (Obj.cells #[.int .i64 s1, .int .i64 s2] 42)).on hb21)
      have NY := Lib.hid ((Y.out.alloc (Obj.cells #[.int .i64 s1, .int .i64 s2] 42)).on hb21)
      have NU := Lib.hid ((U.out.alloc (Obj.cells #[.int .i64 s1, .int .i64 s2] 42)).on hb21)
      have NV := Lib.hid ((V.out.alloc (Obj.cells #[.int .i64 s1, .int .i64 s2] 42)).on hb21)
      have NU2 := Lib.hid ((U2.out.alloc (Obj.cells #[.int .i64 s1, .int .i64 s2] 42)).on hb21)
      have NV2 := Lib.hid ((V2.out.alloc (Obj.cells #[.int .i64 s1, .int .i64 s2] 42)).on hb21)
      have NP6 := Lib.hid ((Blk.new w20 42 #[.int .i64 s1, .int .i64 s2]).on hb21)
      have C := NC; clear NC
      have X := NX; clear NX
      have Y := NY; clear NY
      have U := NU; clear NU
      have V := NV; clear NV
      have U2 := NU2; clear NU2
      have V2 := NV2; clear NV2
      have P6 := NP6; clear NP6
      have Hb21 := Lib.hid (bthen (bal Hb20.out (Obj.cells #[.int .i64 s1, .int .i64 s2] 42)) hb21)
      clear hb21
      go_wp2_with fail
      refine (sumS_lit F8.out _).mono ?_; rintro e w22 ⟨rfl, hb22⟩
      have S22 := Lib.hid (show w21.heap.size + 1 ≤ w22.heap.size by have h9 := hb22.size; (try simp only [World.size_alloc, World.size_setCell, World.size_drew] at h9); omega)
      have NC := Lib.hid ((C.out.alloc (Obj.cells #[.int .i64 p1, .int .i64 p2] 42)).on hb22)
      have NX := Lib.hid ((X.out.alloc (Obj.cells #[.int .i64 p1, .int .i64 p2] 42)).on hb22)
      have NY := Lib.hid ((Y.out.alloc (Obj.cells #[.int .i64 p1, .int .i64 p2] 42)).on hb22)
      have NU := Lib.hid ((U.out.alloc (Obj.cells #[.int .i64 p1, .int .i64 p2] 42)).on hb22)
      have NV := Lib.hid ((V.out.alloc (Obj.cells #[.int .i64 p1, .int .i64 p2] 42)).on hb22)
      have NU2 := Lib.hid ((U2.out.alloc (Obj.cells #[.int .i64 p1, .int .i64 p2] 42)).on hb22)
      have NV2 := Lib.hid ((V2.out.alloc (Obj.cells #[.int .i64 p1, .int .i64 p2] 42)).on hb22)
      have NP6 := Lib.hid ((P6.out.alloc (Obj.cells #[.int .i64 p1, .int .i64 p2] 42)).on hb22)
      have NP7 := Lib.hid ((Blk.new w21 42 #[.int .i64 p1, .int .i64 p2]).on hb22)
      have C := NC; clear NC
      have X := NX; clear NX
      have Y := NY; clear NY
      have U := NU; clear NU
      have V := NV; clear NV
      have U2 := NU2; clear NU2
      have V2 := NV2; clear NV2
      have P6 := NP6; clear NP6
      have P7 := NP7; clear NP7
      have Hb22 := Lib.hid (bthen (bal Hb21.out (Obj.cells #[.int .i64 p1, .int .i64 p2] 42)) hb22)
      clear hb22
      have qU20 : w22.cell? ⟨w18.heap.size, 0, none⟩ = some (.int .i64 ux) := U2.out.cell 0
      have qU21 : w22.cell? ⟨w18.heap.size, 1, none⟩ = some (.int .i64 uy) := U2.out.cell 1
      have qU2l := U2.out.lt
      go_wp2_with fail
      clear qU20 qU21 qU2l
      refine (prodS_lit F9.out _).mono ?_; rintro e w23 ⟨rfl, hb23⟩
      have S23 := Lib.hid (show w22.heap.size + 1 ≤ w23.heap.size by have h9 := hb23.size; (try simp only [World.size_alloc, World.size_setCell, World.size_drew] at h9); omega)
      have NC := Lib.hid ((C.out.alloc (Obj.cells #[.int .i64 q1, .int .i64 q2] 42)).on hb23)
      have NX := Lib.hid ((X.out.alloc (Obj.cells #[.int .i64 q1, .int .i64 q2] 42)).on hb23)
      have NY := Lib.hid ((Y.out.alloc (Obj.cells #[.int .i64 q1, .int .i64 q2] 42)).on hb23)
      have NU := Lib.hid ((U.out.alloc (Obj.cells #[.int .i64 q1, .int .i64 q2] 42)).on hb23)
      have NV := Lib.hid ((V.out.alloc (Obj.cells #[.int .i64 q1, .int .i64 q2] 42)).on hb23)
      have NU2 := Lib.hid ((U2.out.alloc (Obj.cells #[.int .i64 q1, .int .i64 q2] 42)).on hb23)
      have NV2 := Lib.hid ((V2.out.alloc (Obj.cells #[.int .i64 q1, .int .i64 q2] 42)).on hb23)
      have NP6 := Lib.hid ((P6.out.alloc (Obj.cells #[.int .i64 q1, .int .i64 q2] 42)).on hb23)
      have NP7 := Lib.hid ((P7.out.alloc (Obj.cells #[.int .i64 q1, .int .i64 q2] 42)).on hb23)
      have NP8 := Lib.hid ((Blk.new w22 42 #[.int .i64 q1, .int .i64 q2]).on hb23)
      have C := NC; clear NC
      have X := NX; clear NX
      have Y := NY; clear NY
      have U := NU; clear NU
      have V := NV; clear NV
      have U2 := NU2; clear NU2
      have V2 := NV2; clear NV2
      have P6 := NP6; clear NP6
      have P7 := NP7; clear NP7
      have P8 := NP8; clear NP8
      have Hb23 := Lib.hid (bthen (bal Hb22.out (Obj.cells #[.int .i64 q1, .int .i64 q2] 42)) hb23)
      clear hb23
      go_wp2_with fail
      refine (sumS_lit F10.out _).mono ?_; rintro e w24 ⟨rfl, hb24⟩
      have S24 := Lib.hid (show w23.heap.size + 1 ≤ w24.heap.size by have h9 := hb24.size; (try simp only [World.size_alloc, World.size_setCell, World.size_drew] at h9); omega)
      have NC := Lib.hid ((C.out.alloc (Obj.cells #[.int .i64 t1, .int .i64 t2] 42)).on hb24)
      have NX := Lib.hid ((X.out.alloc (Obj.cells #[.int .i64 t1, .int .i64 t2] 42)).on hb24)
      have NY := Lib.hid ((Y.out.alloc (Obj.cells #[.int .i64 t1, .int .i64 t2] 42)).on hb24)
      have NU := Lib.hid ((U.out.alloc (Obj.cells #[.int .i64 t1, .int .i64 t2] 42)).on hb24)
      have NV := Lib.hid ((V.out.alloc (Obj.cells #[.int .i64 t1, .int .i64 t2] 42)).on hb24)
      have NU2 := Lib.hid ((U2.out.alloc (Obj.cells #[.int .i64 t1, .int .i64 t2] 42)).on hb24)
      have NV2 := Lib.hid ((V2.out.alloc (Obj.cells #[.int .i64 t1, .int .i64 t2] 42)).on hb24)
      have NP6 := Lib.hid ((P6.out.alloc (Obj.cells #[.int .i64 t1, .int .i64 t2] 42)).on hb24)
      have NP7 := Lib.hid ((P7.out.alloc (Obj.cells #[.int .i64 t1, .int .i64 t2] 42)).on hb24)
      have NP8 := Lib.hid ((P8.out.alloc (Obj.cells #[.int .i64 t1, .int .i64 t2] 42)).on hb24)
      have NP9 := Lib.hid ((Blk.new w23 42 #[.int .i64 t1, .int .i64 t2]).on hb24)
      have C := NC; clear NC
      have X := NX; clear NX
      have Y := NY; clear NY
      have U := NU; clear NU
      have V := NV; clear NV
      have U2 := NU2; clear NU2
      have V2 := NV2; clear NV2
      have P6 := NP6; clear NP6
      have P7 := NP7; clear NP7
      have P8 := NP8; clear NP8
      have P9 := NP9; clear NP9
      have Hb24 := Lib.hid (bthen (bal Hb23.out (Obj.cells #[.int .i64 t1, .int .i64 t2] 42)) hb24)
      clear hb24
      cases o6
      · go_wp2
        go_ret
        exact ⟨rfl, (bal Hb24.out (Obj.cells #[.int .i64 z1, .int .i64 z2] 42))⟩
      · cases o7
        · go_wp2
          go_ret
          exact ⟨rfl, (bal Hb24.out (Obj.cells #[.int .i64 z1, .int .i64 z2] 42))⟩
        · cases o8
          · go_wp2
            go_ret
            exact ⟨rfl, (bal Hb24.out (Obj.cells #[.int .i64 z1, .int .i64 z2] 42))⟩
          · cases o9
            · go_wp2
              go_ret
              exact ⟨rfl, (bal Hb24.out (Obj.cells #[.int .i64 z1, .int .i64 z2] 42))⟩
            · cases o10
              · go_wp2
                go_ret
                exact ⟨rfl, (bal Hb24.out (Obj.cells #[.int .i64 z1, .int .i64 z2] 42))⟩
              · have Hpp := Lib.hid (Hend.out _ _ _ _ _ (F6.out.yes rfl) (F7.out.yes rfl) (F8.out.yes rfl) (F9.out.yes rfl) (F10.out.yes rfl))
                obtain ⟨e1, e2⟩ : z1 = s1 ∧ z2 = s2 := Prod.mk.inj Hpp.out
                have v1 : (z1 == s1) = true := by rw [e1]; simp
                have v2 : (z2 == s2) = true := by rw [e2]; simp
                have v3 : decide (z1 = s1) = true := decide_eq_true e1
                have v4 : decide (z2 = s2) = true := decide_eq_true e2
                clear e1 e2
                have qP60 : w24.cell? ⟨w20.heap.size, 0, none⟩ = some (.int .i64 s1) := P6.out.cell 0
                have qP61 : w24.cell? ⟨w20.heap.size, 1, none⟩ = some (.int .i64 s2) := P6.out.cell 1
                have qP6l := P6.out.lt
                go_wp2
                clear qP60 qP61 qP6l
                go_ret
                exact ⟨rfl, (bal Hb24.out (Obj.cells #[.int .i64 z1, .int .i64 z2] 42))⟩
end Go.Proofs.YtacehhcpfollnaaGreat
