/- Own texts put together: The reference's search by a tree (loBest): what it tells; The reference's answer at a prime (loFind, loSolves). Conditions: those of each theorem. -/
import Derived.Test.YthdfpfhkmfmnbaaGreatRcM6
namespace Go.Proofs.YthdfpfhkmfmnbaaGreat
section
open Go Go.RowKit

def anR (n : Nat) (f : Nat → Bool) : Bool := (List.range n).any f
theorem anR_zero (f : Nat → Bool) : anR 0 f = false := rfl
theorem anR_succ (n : Nat) (f : Nat → Bool) : anR (n + 1) f = (anR n f || f n) := by unfold anR; rw [List.range_succ, List.any_append]; simp
theorem bsE_zero {P : Nat → Nat → Bool} {Q : Nat → Bool} {p x k : Nat} (hk : 1 ≤ k) : bsE P Q p 0 x k = (P x k && Q x) := by
  unfold bsE
  rw [show (k == 0) = false from beq_eq_false_iff_ne.2 (by omega), Bool.false_or]
theorem bsE_no {P : Nat → Nat → Bool} {Q : Nat → Bool} {p r x i : Nat} (hi : 1 ≤ i) (h : P x i = false) : bsE P Q p r x i = false := by
  cases r <;> unfold bsE <;> rw [show (i == 0) = false from beq_eq_false_iff_ne.2 (by omega), h] <;> rfl
theorem bsE_yes {P : Nat → Nat → Bool} {Q : Nat → Bool} {p r x i : Nat} (h : i = 0 ∨ P x i = true) : bsE P Q p (r + 1) x i = anR p (fun t => bsE P Q p r (x + t * p ^ i) (i + 1)) := by
  unfold anR
  rw [bsE]
  rcases h with h | h
  · subst h; rfl
  · rw [h, Bool.or_true, Bool.true_and]
/-- What loBest hands back. -/
def BsR (b l : Bool) (w : World) (e : Ending) (w' : World) : Prop := ∃ y : Int, e = .returned (.tuple #[.int .i64 y, .bool b]) ∧ decide (0 ≤ y) = l ∧ (-1 ≤ y ∧ y ≤ 1000000000) ∧ Below w.heap.size w w'
theorem best_cases {y B : Int} {l f : Bool} (hB : decide (0 ≤ B) = l) (hy : decide (0 ≤ y) = f) : decide (0 ≤ (if 0 ≤ y ∧ (B < 0 ∨ y < B) then y else B)) = (l || f) := by
  subst hB hy
  by_cases h1 : 0 ≤ y <;> by_cases h2 : 0 ≤ B <;> by_cases h3 : y < B <;> simp only [h1, h2, h3, true_and, false_and, or_true, if_true, if_false, decide_true, decide_false, Bool.or_true, Bool.or_false] <;> (try omega) <;> simp <;> omega

set_option linter.unusedSimpArgs false in
set_option linter.unusedVariables false in
set_option maxRecDepth 8000 in
set_option maxHeartbeats 8000000 in
theorem loBestP_any (d a c : Int) (p k : Nat) (hp : 2 ≤ p) (hp2 : p ≤ 1000) (hk : k ≤ 100) (hk1 : 1 ≤ k) (hb : p ^ k ≤ 1000000000) : ∀ (r x i : Nat) (w : World), i + r = k → x < p ^ i → 
    Calls Tryz.prog 144 #[.agg #[.int .i64 d, .int .i64 a, .int .i64 c], .bool false, .int .i64 (p : Int), .int .i64 (k : Int), .int .i64 (x : Int), .int .i64 (i : Int)] w (BsR (bsE (fun x i => lpB d a c x 1 p i) (fun _ => true) p r x i) (bsE (fun x i => lpB d a c x 1 p i) (fun x => llB d a c x 1 p k) p r x i) w) := by
  intro r
  induction r with
  | zero =>
    intro x i w hi hx
    obtain rfl : i = k := by omega
    have h1 : 1 < p ^ i := Nat.lt_of_lt_of_le (show 1 < p ^ 1 by rw [Nat.pow_one]; omega) (pow_mono (by omega) hk1)
    have Hl := Lib.hid (show ∀ w9, Calls Tryz.prog 152 #[.agg #[.int .i64 d, .int .i64 a, .int .i64 c], .int .i64 (x : Int), .int .i64 1, .int .i64 (p : Int), .int .i64 (i : Int)] w9 fun r w' => r = .returned (.tuple #[.bool (lpB d a c x 1 p i), .bool (lpB d a c x 1 p i && llB d a c x 1 p i)]) ∧ Below w9.heap.size w9 w' from fun w9 => loLifts_any d a c x 1 p i w9 hp hp2 (by omega) hb hx h1)
    have Hz1 := Lib.hid (show bsE (fun x i => lpB d a c x 1 p i) (fun _ => true) p 0 x i = lpB d a c x 1 p i by rw [bsE_zero hk1, Bool.and_true])
    have Hz2 := Lib.hid (show bsE (fun x i => lpB d a c x 1 p i) (fun x => llB d a c x 1 p i) p 0 x i = (lpB d a c x 1 p i && llB d a c x 1 p i) from bsE_zero hk1)
    have hxb : (x : Int) ≤ 1000000000 := by omega
    generalize bsE (fun x i => lpB d a c x 1 p i) (fun _ => true) p 0 x i = b1 at Hz1 ⊢
    generalize bsE (fun x i => lpB d a c x 1 p i) (fun x => llB d a c x 1 p i) p 0 x i = b2 at Hz2 ⊢
    generalize lpB d a c x 1 p i = B1 at *
    generalize llB d a c x 1 p i = B2 at *
    have hd : decide ((0 : Int) < (i : Int)) = true := decide_eq_true (by omega)
    have hdn : decide (0 < i) = true := decide_eq_true (by omega)
    clear hx h1 hi hb
    go_enter Tryz.func144, Tryz.ntmps144
    go_wp2_with fail
    refine (Hl.out _).mono ?_; rintro e w1 ⟨rfl, hb1⟩
    have S1 := Lib.hid (show w.heap.size + 1 ≤ w1.heap.size by have h9 := hb1.size; (try simp only [World.size_alloc, World.size_setCell, World.size_drew] at h9); omega)
    have NQQ := Lib.hid ((Blk.new w 82 #[.int .i64 d, .int .i64 a, .int .i64 c]).on hb1)
    have QQ := NQQ; clear NQQ
    have Hb1 := Lib.hid (bthen (bal (Below.refl w.heap.size w) (Obj.cells #[.int .i64 d, .int .i64 a, .int .i64 c] 82)) hb1)
    clear hb1
    cases B1
    · go_wp2
      exact bodyPost_ret (v := .tuple #[.int .i64 (-1), .bool false]) (by simp [results, Tryz.results144, go_sem]) rfl ⟨-1, by rw [Hz1.out], by rw [Hz2.out] <;> rfl, by omega, Hb1.out⟩
    · cases B2
      · go_wp2
        exact bodyPost_ret (v := .tuple #[.int .i64 (-1), .bool true]) (by simp [results, Tryz.results144, go_sem]) rfl ⟨-1, by rw [Hz1.out], by rw [Hz2.out] <;> rfl, by omega, Hb1.out⟩
      · go_wp2
        exact bodyPost_ret (v := .tuple #[.int .i64 (x : Int), .bool true]) (by simp [results, Tryz.results144, go_sem]) rfl ⟨(x : Int), by rw [Hz1.out], by rw [Hz2.out]; exact decide_eq_true (by omega), by omega, Hb1.out⟩
  | succ r ih =>
    intro x i w hi hx
    have hbi : p ^ i ≤ 1000000000 := Nat.le_trans (pow_mono (by omega) (by omega)) hb
    have Hw := Lib.hid (fun w9 => loPower_blw p i w9 (by omega) (by omega) (by omega) hbi)
    have Hih := Lib.hid (fun (t : Nat) (ht : t < p) w9 => ih (x + t * p ^ i) (i + 1) w9 (by omega) (lt_next hx ht))
    have Hxt := Lib.hid (fun (t : Nat) (ht : t < p) => (show x + t * p ^ i ≤ 1000000000 from Nat.le_trans (Nat.le_of_lt (lt_next hx ht)) (Nat.le_trans (pow_mono (by omega) (by omega)) hb)))
    clear ih
    rcases Nat.eq_zero_or_pos i with h0 | h0
    · have Hyes := Lib.hid (show i = 0 ∨ lpB d a c x 1 p i = true from .inl h0)
      have hd : decide ((0 : Int) < (i : Int)) = false := decide_eq_false (by omega)
      have hdn : decide (0 < i) = false := decide_eq_false (by omega)
      clear h0
      go_enter Tryz.func144, Tryz.ntmps144
      go_wp2_with fail
      refine (Hw.out _).mono ?_; rintro e w1 ⟨rfl, hb1⟩
      have S1 := Lib.hid (show w.heap.size + 1 ≤ w1.heap.size by have h9 := hb1.size; (try simp only [World.size_alloc, World.size_setCell, World.size_drew] at h9); omega)
      have NQQ := Lib.hid ((Blk.new w 82 #[.int .i64 d, .int .i64 a, .int .i64 c]).on hb1)
      have QQ := NQQ; clear NQQ
      have Hb1 := Lib.hid (bthen (bal (Below.refl w.heap.size w) (Obj.cells #[.int .i64 d, .int .i64 a, .int .i64 c] 82)) hb1)
      clear hb1
      have Hy1 := Lib.hid (bsE_yes (P := (fun x i => lpB d a c x 1 p i)) (Q := fun _ => true) (p := p) (r := r) (x := x) (i := i) Hyes.out)
      have Hy2 := Lib.hid (bsE_yes (P := (fun x i => lpB d a c x 1 p i)) (Q := (fun x => llB d a c x 1 p k)) (p := p) (r := r) (x := x) (i := i) Hyes.out)
      obtain ⟨f1, hf1⟩ : ∃ f, f = (fun t => bsE (fun x i => lpB d a c x 1 p i) (fun _ => true) p r (x + t * p ^ i) (i + 1)) := ⟨_, rfl⟩
      obtain ⟨f2, hf2⟩ : ∃ f, f = (fun t => bsE (fun x i => lpB d a c x 1 p i) (fun x => llB d a c x 1 p k) p r (x + t * p ^ i) (i + 1)) := ⟨_, rfl⟩
      rw [← hf1] at Hy1
      rw [← hf2] at Hy2
      have Hih2 := Lib.hid (show ∀ (t : Nat), t < p → ∀ w9, Calls Tryz.prog 144 #[.agg #[.int .i64 d, .int .i64 a, .int .i64 c], .bool false, .int .i64 (p : Int), .int .i64 (k : Int), .int .i64 ((x : Int) + (t : Int) * ((p ^ i : Nat) : Int)), .int .i64 ((i : Int) + 1)] w9 (BsR (f1 t) (f2 t) w9) from fun t ht w9 => by have h9 := Hih.out t ht w9; rw [hf1, hf2]; rwa [Int.natCast_add, Int.natCast_add, Int.natCast_mul] at h9)
      clear hf1 hf2 Hih Hyes
      have Hxt2 := Lib.hid (show ∀ t : Nat, t < p → (0 : Int) ≤ (x : Int) + (t : Int) * ((p ^ i : Nat) : Int) ∧ (x : Int) + (t : Int) * ((p ^ i : Nat) : Int) ≤ 1000000000 ∧ 0 ≤ (t : Int) * ((p ^ i : Nat) : Int) ∧ (t : Int) * ((p ^ i : Nat) : Int) ≤ 1000000000 from fun t ht => by have h9 := Hxt.out t ht; rw [← Int.natCast_mul]; omega)
      have hpi : (0 : Int) ≤ ((p ^ i : Nat) : Int) := Int.natCast_nonneg _
      clear hx hb hbi Hxt
      generalize ((p ^ i : Nat) : Int) = PI at *
      go_wp2
      go_loopw [18, 19, 21] (fun bv sv tv wr => ∃ (t : Nat) (B : Int) (S : Bool), bv = .int .i64 B ∧ sv = .bool S ∧ tv = .int .i64 (t : Int) ∧ t ≤ p ∧ Hid (S = anR t f1) ∧ Hid (decide (0 ≤ B) = anR t f2) ∧ Hid (-1 ≤ B ∧ B ≤ 1000000000) ∧ Hid (Blk wr (w.heap.size) 82 #[.int .i64 d, .int .i64 a, .int .i64 c]) ∧ Hid (Below w.heap.size w wr)) (fun _ _ tv _ => p - (intOf tv).toNat)
      case atStart => exact ⟨0, -1, false, rfl, rfl, rfl, Nat.zero_le _, Lib.hid rfl, Lib.hid rfl, Lib.hid (by omega), QQ, Hb1⟩
      case round =>
        obtain ⟨t, B, S, rfl, rfl, rfl, ht, HS, HB, HBb, QQ, Hbr⟩ := hrel
        by_cases hlt : t < p
        · have hd0 : decide ((t : Int) < (p : Int)) = true := decide_eq_true (by omega)
          have hd0n : decide (t < p) = true := decide_eq_true hlt
          obtain ⟨x1, x2, x3, x4⟩ := Hxt2.out t hlt
          obtain ⟨bb1, bb2⟩ := HBb.out
          have Sz := Lib.hid (show w.heap.size ≤ wr.heap.size from Hbr.out.size)
          have qQQ0 : wr.cell? ⟨w.heap.size, 0, none⟩ = some (.int .i64 d) := QQ.out.cell 0
          have qQQ1 : wr.cell? ⟨w.heap.size, 1, none⟩ = some (.int .i64 a) := QQ.out.cell 1
          have qQQ2 : wr.cell? ⟨w.heap.size, 2, none⟩ = some (.int .i64 c) := QQ.out.cell 2
          have qQQl := QQ.out.lt
          go_wp2_with fail
          clear qQQ0 qQQ1 qQQ2 qQQl
          refine (Hih2.out t hlt _).mono ?_; rintro e w2 ⟨y, rfl, hy1, hy2, hb2⟩
          have Hy := Lib.hid hy1; clear hy1
          obtain ⟨y3, y4⟩ := hy2
          have S2 := Lib.hid (show wr.heap.size + 0 ≤ w2.heap.size by have h9 := hb2.size; (try simp only [World.size_alloc, World.size_setCell, World.size_drew] at h9); omega)
          have Z2 := Lib.hid (And.intro Sz.out S2.out)
          have NQQ := Lib.hid (QQ.out.on hb2)
          have QQ := NQQ; clear NQQ
          have Hb2 := Lib.hid (bthen Hbr.out hb2)
          clear hb2
          have HS2 := Lib.hid (show (S || f1 t) = anR (t + 1) f1 by rw [anR_succ, ← HS.out])
          have HB2 := Lib.hid (show decide (0 ≤ (if 0 ≤ y ∧ (B < 0 ∨ y < B) then y else B)) = anR (t + 1) f2 by rw [anR_succ]; exact best_cases HB.out Hy.out)
          generalize f1 t = b at HS2 ⊢
          clear HS HB Hy x1 x2 x3 x4
          by_cases h0 : 0 ≤ y
          · have k0 : decide (0 ≤ y) = true := decide_eq_true h0
            by_cases h2 : B < 0
            · have k1 : decide (B < 0) = true := decide_eq_true h2
              have HBi := Lib.hid (show (if 0 ≤ y ∧ (B < 0 ∨ y < B) then y else B) = y from if_pos ⟨h0, .inl h2⟩)
              have HB3 := Lib.hid (show decide (0 ≤ y) = anR (t + 1) f2 by have h9 := HB2.out; rwa [HBi.out] at h9)
              clear HB2 HBi
              cases b <;> cases S
              all_goals go_wp2
              all_goals go_roundw
              all_goals try (case rel => exact ⟨t + 1, y, _, rfl, rfl, by go_num, by omega, HS2, HB3, Lib.hid (by omega), QQ, Hb2⟩)
              all_goals (simp [intOf]; omega)
            · have k1 : decide (B < 0) = false := decide_eq_false h2
              by_cases h3 : y < B
              · have k2 : decide (y < B) = true := decide_eq_true h3
                have HBi := Lib.hid (show (if 0 ≤ y ∧ (B < 0 ∨ y < B) then y else B) = y from if_pos ⟨h0, .inr h3⟩)
                have HB3 := Lib.hid (show decide (0 ≤ y) = anR (t + 1) f2 by have h9 := HB2.out; rwa [HBi.out] at h9)
                clear HB2 HBi
                cases b <;> cases S
                all_goals go_wp2
                all_goals go_roundw
                all_goals try (case rel => exact ⟨t + 1, y, _, rfl, rfl, by go_num, by omega, HS2, HB3, Lib.hid (by omega), QQ, Hb2⟩)
                all_goals (simp [intOf]; omega)
              · have k2 : decide (y < B) = false := decide_eq_false h3
                have HBi := Lib.hid (show (if 0 ≤ y ∧ (B < 0 ∨ y < B) then y else B) = B from if_neg (fun h => h.2.elim h2 h3))
                have HB3 := Lib.hid (show decide (0 ≤ B) = anR (t + 1) f2 by have h9 := HB2.out; rwa [HBi.out] at h9)
                clear HB2 HBi
                cases b <;> cases S
                all_goals go_wp2
                all_goals go_roundw
                all_goals try (case rel => exact ⟨t + 1, B, _, rfl, rfl, by go_num, by omega, HS2, HB3, Lib.hid (by omega), QQ, Hb2⟩)
                all_goals (simp [intOf]; omega)
          · have k0 : decide (0 ≤ y) = false := decide_eq_false h0
            have HBi := Lib.hid (show (if 0 ≤ y ∧ (B < 0 ∨ y < B) then y else B) = B from if_neg (fun h => h0 h.1))
            have HB3 := Lib.hid (show decide (0 ≤ B) = anR (t + 1) f2 by have h9 := HB2.out; rwa [HBi.out] at h9)
            clear HB2 HBi
            cases b <;> cases S
            all_goals go_wp2
            all_goals go_roundw
            all_goals try (case rel => exact ⟨t + 1, B, _, rfl, rfl, by go_num, by omega, HS2, HB3, Lib.hid (by omega), QQ, Hb2⟩)
            all_goals (simp [intOf]; omega)
        · obtain rfl : t = p := by omega
          have hd0 : decide ((t : Int) < (t : Int)) = false := decide_eq_false (by omega)
          have hd0n : decide (t < t) = false := decide_eq_false (by omega)
          go_wp2
          exact bodyPost_ret (v := .tuple #[.int .i64 B, .bool S]) (by simp [results, Tryz.results144, go_sem]) rfl ⟨B, by rw [Hy1.out, HS.out], by rw [Hy2.out, HB.out], HBb.out, Hbr.out⟩
    · have hd : decide ((0 : Int) < (i : Int)) = true := decide_eq_true (by omega)
      have hdn : decide (0 < i) = true := decide_eq_true (by omega)
      have hne : ((i : Int) == (k : Int)) = false := beq_eq_false_iff_ne.2 (by omega)
      have hnen : (i == k) = false := beq_eq_false_iff_ne.2 (by omega)
      have h1 : 1 < p ^ i := Nat.lt_of_lt_of_le (show 1 < p ^ 1 by rw [Nat.pow_one]; omega) (pow_mono (by omega) (by omega))
      have Hl := Lib.hid (show ∀ w9, Calls Tryz.prog 152 #[.agg #[.int .i64 d, .int .i64 a, .int .i64 c], .int .i64 (x : Int), .int .i64 1, .int .i64 (p : Int), .int .i64 (i : Int)] w9 fun r w' => r = .returned (.tuple #[.bool (lpB d a c x 1 p i), .bool (lpB d a c x 1 p i && llB d a c x 1 p i)]) ∧ Below w9.heap.size w9 w' from fun w9 => loLifts_any d a c x 1 p i w9 hp hp2 (by omega) hbi hx h1)
      obtain ⟨B1, hB1⟩ : ∃ z, lpB d a c x 1 p i = z := ⟨_, rfl⟩
      obtain ⟨B2, hB2⟩ : ∃ z, llB d a c x 1 p i = z := ⟨_, rfl⟩
      rw [hB1, hB2] at Hl
      go_enter Tryz.func144, Tryz.ntmps144
      go_wp2_with fail
      refine (Hl.out _).mono ?_; rintro e w3 ⟨rfl, hb3⟩
      have S3 := Lib.hid (show w.heap.size + 1 ≤ w3.heap.size by have h9 := hb3.size; (try simp only [World.size_alloc, World.size_setCell, World.size_drew] at h9); omega)
      have NQQ := Lib.hid ((Blk.new w 82 #[.int .i64 d, .int .i64 a, .int .i64 c]).on hb3)
      have QQ := NQQ; clear NQQ
      have Hb3 := Lib.hid (bthen (bal (Below.refl w.heap.size w) (Obj.cells #[.int .i64 d, .int .i64 a, .int .i64 c] 82)) hb3)
      clear hb3
      cases B1
      · have Hz1 := Lib.hid (bsE_no (P := (fun x i => lpB d a c x 1 p i)) (Q := fun _ => true) (p := p) (r := r + 1) (x := x) (i := i) (by omega) hB1)
        have Hz2 := Lib.hid (bsE_no (P := (fun x i => lpB d a c x 1 p i)) (Q := (fun x => llB d a c x 1 p k)) (p := p) (r := r + 1) (x := x) (i := i) (by omega) hB1)
        clear hB1 hB2
        go_wp2
        exact bodyPost_ret (v := .tuple #[.int .i64 (-1), .bool false]) (by simp [results, Tryz.results144, go_sem]) rfl ⟨-1, by rw [Hz1.out], by rw [Hz2.out] <;> rfl, by omega, Hb3.out⟩
      · have Hyes := Lib.hid (show i = 0 ∨ lpB d a c x 1 p i = true from .inr hB1)
        clear hB1 hB2
        go_wp2_with fail
        refine (Hw.out _).mono ?_; rintro e w4 ⟨rfl, hb4⟩
        have S4 := Lib.hid (show w3.heap.size + 0 ≤ w4.heap.size by have h9 := hb4.size; (try simp only [World.size_alloc, World.size_setCell, World.size_drew] at h9); omega)
        have Z4 := Lib.hid (And.intro S3.out S4.out)
        have NQQ := Lib.hid (QQ.out.on hb4)
        have QQ := NQQ; clear NQQ
        have Hb4 := Lib.hid (bthen Hb3.out hb4)
        clear hb4
        have Hy1 := Lib.hid (bsE_yes (P := (fun x i => lpB d a c x 1 p i)) (Q := fun _ => true) (p := p) (r := r) (x := x) (i := i) Hyes.out)
        have Hy2 := Lib.hid (bsE_yes (P := (fun x i => lpB d a c x 1 p i)) (Q := (fun x => llB d a c x 1 p k)) (p := p) (r := r) (x := x) (i := i) Hyes.out)
        obtain ⟨f1, hf1⟩ : ∃ f, f = (fun t => bsE (fun x i => lpB d a c x 1 p i) (fun _ => true) p r (x + t * p ^ i) (i + 1)) := ⟨_, rfl⟩
        obtain ⟨f2, hf2⟩ : ∃ f, f = (fun t => bsE (fun x i => lpB d a c x 1 p i) (fun x => llB d a c x 1 p k) p r (x + t * p ^ i) (i + 1)) := ⟨_, rfl⟩
        rw [← hf1] at Hy1
        rw [← hf2] at Hy2
        have Hih2 := Lib.hid (show ∀ (t : Nat), t < p → ∀ w9, Calls Tryz.prog 144 #[.agg #[.int .i64 d, .int .i64 a, .int .i64 c], .bool false, .int .i64 (p : Int), .int .i64 (k : Int), .int .i64 ((x : Int) + (t : Int) * ((p ^ i : Nat) : Int)), .int .i64 ((i : Int) + 1)] w9 (BsR (f1 t) (f2 t) w9) from fun t ht w9 => by have h9 := Hih.out t ht w9; rw [hf1, hf2]; rwa [Int.natCast_add, Int.natCast_add, Int.natCast_mul] at h9)
        clear hf1 hf2 Hih Hyes
        have Hxt2 := Lib.hid (show ∀ t : Nat, t < p → (0 : Int) ≤ (x : Int) + (t : Int) * ((p ^ i : Nat) : Int) ∧ (x : Int) + (t : Int) * ((p ^ i : Nat) : Int) ≤ 1000000000 ∧ 0 ≤ (t : Int) * ((p ^ i : Nat) : Int) ∧ (t : Int) * ((p ^ i : Nat) : Int) ≤ 1000000000 from fun t ht => by have h9 := Hxt.out t ht; rw [← Int.natCast_mul]; omega)
        have hpi : (0 : Int) ≤ ((p ^ i : Nat) : Int) := Int.natCast_nonneg _
        clear hx hb hbi Hxt
        generalize ((p ^ i : Nat) : Int) = PI at *
        go_wp2
        go_loopw [18, 19, 21] (fun bv sv tv wr => ∃ (t : Nat) (B : Int) (S : Bool), bv = .int .i64 B ∧ sv = .bool S ∧ tv = .int .i64 (t : Int) ∧ t ≤ p ∧ Hid (S = anR t f1) ∧ Hid (decide (0 ≤ B) = anR t f2) ∧ Hid (-1 ≤ B ∧ B ≤ 1000000000) ∧ Hid (Blk wr (w.heap.size) 82 #[.int .i64 d, .int .i64 a, .int .i64 c]) ∧ Hid (Below w.heap.size w wr)) (fun _ _ tv _ => p - (intOf tv).toNat)
        case atStart => exact ⟨0, -1, false, rfl, rfl, rfl, Nat.zero_le _, Lib.hid rfl, Lib.hid rfl, Lib.hid (by omega), QQ, Hb4⟩
        case round =>
          obtain ⟨t, B, S, rfl, rfl, rfl, ht, HS, HB, HBb, QQ, Hbr⟩ := hrel
          by_cases hlt : t < p
          · have hd0 : decide ((t : Int) < (p : Int)) = true := decide_eq_true (by omega)
            have hd0n : decide (t < p) = true := decide_eq_true hlt
            obtain ⟨x1, x2, x3, x4⟩ := Hxt2.out t hlt
            obtain ⟨bb1, bb2⟩ := HBb.out
            have Sz := Lib.hid (show w.heap.size ≤ wr.heap.size from Hbr.out.size)
            have qQQ0 : wr.cell? ⟨w.heap.size, 0, none⟩ = some (.int .i64 d) := QQ.out.cell 0
            have qQQ1 : wr.cell? ⟨w.heap.size, 1, none⟩ = some (.int .i64 a) := QQ.out.cell 1
            have qQQ2 : wr.cell? ⟨w.heap.size, 2, none⟩ = some (.int .i64 c) := QQ.out.cell 2
            have qQQl := QQ.out.lt
            go_wp2_with fail
            clear qQQ0 qQQ1 qQQ2 qQQl
            refine (Hih2.out t hlt _).mono ?_; rintro e w5 ⟨y, rfl, hy1, hy2, hb5⟩
            have Hy := Lib.hid hy1; clear hy1
            obtain ⟨y3, y4⟩ := hy2
            have S5 := Lib.hid (show wr.heap.size + 0 ≤ w5.heap.size by have h9 := hb5.size; (try simp only [World.size_alloc, World.size_setCell, World.size_drew] at h9); omega)
            have Z5 := Lib.hid (And.intro Sz.out S5.out)
            have NQQ := Lib.hid (QQ.out.on hb5)
            have QQ := NQQ; clear NQQ
            have Hb5 := Lib.hid (bthen Hbr.out hb5)
            clear hb5
            have HS2 := Lib.hid (show (S || f1 t) = anR (t + 1) f1 by rw [anR_succ, ← HS.out])
            have HB2 := Lib.hid (show decide (0 ≤ (if 0 ≤ y ∧ (B < 0 ∨ y < B) then y else B)) = anR (t + 1) f2 by rw [anR_succ]; exact best_cases HB.out Hy.out)
            generalize f1 t = b at HS2 ⊢
            clear HS HB Hy x1 x2 x3 x4
            by_cases h0 : 0 ≤ y
            · have k0 : decide (0 ≤ y) = true := decide_eq_true h0
              by_cases h2 : B < 0
              · have k1 : decide (B < 0) = true := decide_eq_true h2
                have HBi := Lib.hid (show (if 0 ≤ y ∧ (B < 0 ∨ y < B) then y else B) = y from if_pos ⟨h0, .inl h2⟩)
                have HB3 := Lib.hid (show decide (0 ≤ y) = anR (t + 1) f2 by have h9 := HB2.out; rwa [HBi.out] at h9)
                clear HB2 HBi
                cases b <;> cases S
                all_goals go_wp2
                all_goals go_roundw
                all_goals try (case rel => exact ⟨t + 1, y, _, rfl, rfl, by go_num, by omega, HS2, HB3, Lib.hid (by omega), QQ, Hb5⟩)
                all_goals (simp [intOf]; omega)
              · have k1 : decide (B < 0) = false := decide_eq_false h2
                by_cases h3 : y < B
                · have k2 : decide (y < B) = true := decide_eq_true h3
                  have HBi := Lib.hid (show (if 0 ≤ y ∧ (B < 0 ∨ y < B) then y else B) = y from if_pos ⟨h0, .inr h3⟩)
                  have HB3 := Lib.hid (show decide (0 ≤ y) = anR (t + 1) f2 by have h9 := HB2.out; rwa [HBi.out] at h9)
                  clear HB2 HBi
                  cases b <;> cases S
                  all_goals go_wp2
                  all_goals go_roundw
                  all_goals try (case rel => exact ⟨t + 1, y, _, rfl, rfl, by go_num, by omega, HS2, HB3, Lib.hid (by omega), QQ, Hb5⟩)
                  all_goals (simp [intOf]; omega)
                · have k2 : decide (y < B) = false := decide_eq_false h3
                  have HBi := Lib.hid (show (if 0 ≤ y ∧ (B < 0 ∨ y < B) then y else B) = B from if_neg (fun h => h.2.elim h2 h3))
                  have HB3 := Lib.hid (show decide (0 ≤ B) = anR (t + 1) f2 by have h9 := HB2.out; rwa [HBi.out] at h9)
                  clear HB2 HBi
                  cases b <;> cases S
                  all_goals go_wp2
                  all_goals go_roundw
                  all_goals try (case rel => exact ⟨t + 1, B, _, rfl, rfl, by go_num, by omega, HS2, HB3, Lib.hid (by omega), QQ, Hb5⟩)
                  all_goals (simp [intOf]; omega)
            · have k0 : decide (0 ≤ y) = false := decide_eq_false h0
              have HBi := Lib.hid (show (if 0 ≤ y ∧ (B < 0 ∨ y < B) then y else B) = B from if_neg (fun h => h0 h.1))
              have HB3 := Lib.hid (show decide (0 ≤ B) = anR (t + 1) f2 by have h9 := HB2.out; rwa [HBi.out] at h9)
              clear HB2 HBi
              cases b <;> cases S
              all_goals go_wp2
              all_goals go_roundw
              all_goals try (case rel => exact ⟨t + 1, B, _, rfl, rfl, by go_num, by omega, HS2, HB3, Lib.hid (by omega), QQ, Hb5⟩)
              all_goals (simp [intOf]; omega)
          · obtain rfl : t = p := by omega
            have hd0 : decide ((t : Int) < (t : Int)) = false := decide_eq_false (by omega)
            have hd0n : decide (t < t) = false := decide_eq_false (by omega)
            go_wp2
            exact bodyPost_ret (v := .tuple #[.int .i64 B, .bool S]) (by simp [results, Tryz.results144, go_sem]) rfl ⟨B, by rw [Hy1.out, HS.out], by rw [Hy2.out, HB.out], HBb.out, Hbr.out⟩
set_option linter.unusedSimpArgs false in
set_option linter.unusedVariables false in
set_option maxRecDepth 8000 in
set_option maxHeartbeats 8000000 in
theorem loBestT_any (d a c : Int) (p k : Nat) (hp : 2 ≤ p) (hp2 : p ≤ 1000) (hk : k ≤ 100) (hk1 : 1 ≤ k) (hb : p ^ k ≤ 1000000000) : ∀ (r x i : Nat) (w : World), i + r = k → x < p ^ i → 1 ≤ i →
    Calls Tryz.prog 144 #[.agg #[.int .i64 d, .int .i64 a, .int .i64 c], .bool true, .int .i64 (p : Int), .int .i64 (k : Int), .int .i64 (x : Int), .int .i64 (i : Int)] w (BsR (bsE (fun x i => lpB d a c 1 x p i) (fun _ => true) p r x i) (bsE (fun x i => lpB d a c 1 x p i) (fun x => llB d a c 1 x p k) p r x i) w) := by
  intro r
  induction r with
  | zero =>
    intro x i w hi hx hi1
    obtain rfl : i = k := by omega
    have h1 : 1 < p ^ i := Nat.lt_of_lt_of_le (show 1 < p ^ 1 by rw [Nat.pow_one]; omega) (pow_mono (by omega) hk1)
    have Hl := Lib.hid (show ∀ w9, Calls Tryz.prog 152 #[.agg #[.int .i64 d, .int .i64 a, .int .i64 c], .int .i64 1, .int .i64 (x : Int), .int .i64 (p : Int), .int .i64 (i : Int)] w9 fun r w' => r = .returned (.tuple #[.bool (lpB d a c 1 x p i), .bool (lpB d a c 1 x p i && llB d a c 1 x p i)]) ∧ Below w9.heap.size w9 w' from fun w9 => loLifts_any d a c 1 x p i w9 hp hp2 (by omega) hb h1 hx)
    have Hz1 := Lib.hid (show bsE (fun x i => lpB d a c 1 x p i) (fun _ => true) p 0 x i = lpB d a c 1 x p i by rw [bsE_zero hk1, Bool.and_true])
    have Hz2 := Lib.hid (show bsE (fun x i => lpB d a c 1 x p i) (fun x => llB d a c 1 x p i) p 0 x i = (lpB d a c 1 x p i && llB d a c 1 x p i) from bsE_zero hk1)
    have hxb : (x : Int) ≤ 1000000000 := by omega
    generalize bsE (fun x i => lpB d a c 1 x p i) (fun _ => true) p 0 x i = b1 at Hz1 ⊢
    generalize bsE (fun x i => lpB d a c 1 x p i) (fun x => llB d a c 1 x p i) p 0 x i = b2 at Hz2 ⊢
    generalize lpB d a c 1 x p i = B1 at *
    generalize llB d a c 1 x p i = B2 at *
    have hd : decide ((0 : Int) < (i : Int)) = true := decide_eq_true (by omega)
    have hdn : decide (0 < i) = true := decide_eq_true (by omega)
    clear hx h1 hi hb
    go_enter Tryz.func144, Tryz.ntmps144
    go_wp2_with fail
    refine (Hl.out _).mono ?_; rintro e w1 ⟨rfl, hb1⟩
    have S1 := Lib.hid (show w.heap.size + 1 ≤ w1.heap.size by have h9 := hb1.size; (try simp only [World.size_alloc, World.size_setCell, World.size_drew] at h9); omega)
    have NQQ := Lib.hid ((Blk.new w 82 #[.int .i64 d, .int .i64 a, .int .i64 c]).on hb1)
    have QQ := NQQ; clear NQQ
    have Hb1 := Lib.hid (bthen (bal (Below.refl w.heap.size w) (Obj.cells #[.int .i64 d, .int .i64 a, .int .i64 c] 82)) hb1)
    clear hb1
    cases B1
    · go_wp2
      exact bodyPost_ret (v := .tuple #[.int .i64 (-1), .bool false]) (by simp [results, Tryz.results144, go_sem]) rfl ⟨-1, by rw [Hz1.out], by rw [Hz2.out] <;> rfl, by omega, Hb1.out⟩
    · cases B2
      · go_wp2
        exact bodyPost_ret (v := .tuple #[.int .i64 (-1), .bool true]) (by simp [results, Tryz.results144, go_sem]) rfl ⟨-1, by rw [Hz1.out], by rw [Hz2.out] <;> rfl, by omega, Hb1.out⟩
      · go_wp2
        exact bodyPost_ret (v := .tuple #[.int .i64 (x : Int), .bool true]) (by simp [results, Tryz.results144, go_sem]) rfl ⟨(x : Int), by rw [Hz1.out], by rw [Hz2.out]; exact decide_eq_true (by omega), by omega, Hb1.out⟩
  | succ r ih =>
    intro x i w hi hx hi1
    have hbi : p ^ i ≤ 1000000000 := Nat.le_trans (pow_mono (by omega) (by omega)) hb
    have Hw := Lib.hid (fun w9 => loPower_blw p i w9 (by omega) (by omega) (by omega) hbi)
    have Hih := Lib.hid (fun (t : Nat) (ht : t < p) w9 => ih (x + t * p ^ i) (i + 1) w9 (by omega) (lt_next hx ht) (by omega))
    have Hxt := Lib.hid (fun (t : Nat) (ht : t < p) => (show x + t * p ^ i ≤ 1000000000 from Nat.le_trans (Nat.le_of_lt (lt_next hx ht)) (Nat.le_trans (pow_mono (by omega) (by omega)) hb)))
    clear ih
    have hd : decide ((0 : Int) < (i : Int)) = true := decide_eq_true (by omega)
    have hdn : decide (0 < i) = true := decide_eq_true (by omega)
    have hne : ((i : Int) == (k : Int)) = false := beq_eq_false_iff_ne.2 (by omega)
    have hnen : (i == k) = false := beq_eq_false_iff_ne.2 (by omega)
    have h1 : 1 < p ^ i := Nat.lt_of_lt_of_le (show 1 < p ^ 1 by rw [Nat.pow_one]; omega) (pow_mono (by omega) (by omega))
    have Hl := Lib.hid (show ∀ w9, Calls Tryz.prog 152 #[.agg #[.int .i64 d, .int .i64 a, .int .i64 c], .int .i64 1, .int .i64 (x : Int), .int .i64 (p : Int), .int .i64 (i : Int)] w9 fun r w' => r = .returned (.tuple #[.bool (lpB d a c 1 x p i), .bool (lpB d a c 1 x p i && llB d a c 1 x p i)]) ∧ Below w9.heap.size w9 w' from fun w9 => loLifts_any d a c 1 x p i w9 hp hp2 (by omega) hbi h1 hx)
    obtain ⟨B1, hB1⟩ : ∃ z, lpB d a c 1 x p i = z := ⟨_, rfl⟩
    obtain ⟨B2, hB2⟩ : ∃ z, llB d a c 1 x p i = z := ⟨_, rfl⟩
    rw [hB1, hB2] at Hl
    go_enter Tryz.func144, Tryz.ntmps144
    go_wp2_with fail
    refine (Hl.out _).mono ?_; rintro e w1 ⟨rfl, hb1⟩
    have S1 := Lib.hid (show w.heap.size + 1 ≤ w1.heap.size by have h9 := hb1.size; (try simp only [World.size_alloc, World.size_setCell, World.size_drew] at h9); omega)
    have NQQ := Lib.hid ((Blk.new w 82 #[.int .i64 d, .int .i64 a, .int .i64 c]).on hb1)
    have QQ := NQQ; clear NQQ
    have Hb1 := Lib.hid (bthen (bal (Below.refl w.heap.size w) (Obj.cells #[.int .i64 d, .int .i64 a, .int .i64 c] 82)) hb1)
    clear hb1
    cases B1
    · have Hz1 := Lib.hid (bsE_no (P := (fun x i => lpB d a c 1 x p i)) (Q := fun _ => true) (p := p) (r := r + 1) (x := x) (i := i) (by omega) hB1)
      have Hz2 := Lib.hid (bsE_no (P := (fun x i => lpB d a c 1 x p i)) (Q := (fun x => llB d a c 1 x p k)) (p := p) (r := r + 1) (x := x) (i := i) (by omega) hB1)
      clear hB1 hB2
      go_wp2
      exact bodyPost_ret (v := .tuple #[.int .i64 (-1), .bool false]) (by simp [results, Tryz.results144, go_sem]) rfl ⟨-1, by rw [Hz1.out], by rw [Hz2.out] <;> rfl, by omega, Hb1.out⟩
    · have Hyes := Lib.hid (show i = 0 ∨ lpB d a c 1 x p i = true from .inr hB1)
      clear hB1 hB2
      go_wp2_with fail
      refine (Hw.out _).mono ?_; rintro e w2 ⟨rfl, hb2⟩
      have S2 := Lib.hid (show w1.heap.size + 0 ≤ w2.heap.size by have h9 := hb2.size; (try simp only [World.size_alloc, World.size_setCell, World.size_drew] at h9); omega)
      have Z2 := Lib.hid (And.intro S1.out S2.out)
      have NQQ := Lib.hid (QQ.out.on hb2)
      have QQ := NQQ; clear NQQ
      have Hb2 := Lib.hid (bthen Hb1.out hb2)
      clear hb2
      have Hy1 := Lib.hid (bsE_yes (P := (fun x i => lpB d a c 1 x p i)) (Q := fun _ => true) (p := p) (r := r) (x := x) (i := i) Hyes.out)
      have Hy2 := Lib.hid (bsE_yes (P := (fun x i => lpB d a c 1 x p i)) (Q := (fun x => llB d a c 1 x p k)) (p := p) (r := r) (x := x) (i := i) Hyes.out)
      obtain ⟨f1, hf1⟩ : ∃ f, f = (fun t => bsE (fun x i => lpB d a c 1 x p i) (fun _ => true) p r (x + t * p ^ i) (i + 1)) := ⟨_, rfl⟩
      obtain ⟨f2, hf2⟩ : ∃ f, f = (fun t => bsE (fun x i => lpB d a c 1 x p i) (fun x => llB d a c 1 x p k) p r (x + t * p ^ i) (i + 1)) := ⟨_, rfl⟩
      rw [← hf1] at Hy1
      rw [← hf2] at Hy2
      have Hih2 := Lib.hid (show ∀ (t : Nat), t < p → ∀ w9, Calls Tryz.prog 144 #[.agg #[.int .i64 d, .int .i64 a, .int .i64 c], .bool true, .int .i64 (p : Int), .int .i64 (k : Int), .int .i64 ((x : Int) + (t : Int) * ((p ^ i : Nat) : Int)), .int .i64 ((i : Int) + 1)] w9 (BsR (f1 t) (f2 t) w9) from fun t ht w9 => by have h9 := Hih.out t ht w9; rw [hf1, hf2]; rwa [Int.natCast_add, Int.natCast_add, Int.natCast_mul] at h9)
      clear hf1 hf2 Hih Hyes
      have Hxt2 := Lib.hid (show ∀ t : Nat, t < p → (0 : Int) ≤ (x : Int) + (t : Int) * ((p ^ i : Nat) : Int) ∧ (x : Int) + (t : Int) * ((p ^ i : Nat) : Int) ≤ 1000000000 ∧ 0 ≤ (t : Int) * ((p ^ i : Nat) : Int) ∧ (t : Int) * ((p ^ i : Nat) : Int) ≤ 1000000000 from fun t ht => by have h9 := Hxt.out t ht; rw [← Int.natCast_mul]; omega)
      have hpi : (0 : Int) ≤ ((p ^ i : Nat) : Int) := Int.natCast_nonneg _
      clear hx hb hbi Hxt
      generalize ((p ^ i : Nat) : Int) = PI at *
      go_wp2
      go_loopw [18, 19, 21] (fun bv sv tv wr => ∃ (t : Nat) (B : Int) (S : Bool), bv = .int .i64 B ∧ sv = .bool S ∧ tv = .int .i64 (t : Int) ∧ t ≤ p ∧ Hid (S = anR t f1) ∧ Hid (decide (0 ≤ B) = anR t f2) ∧ Hid (-1 ≤ B ∧ B ≤ 1000000000) ∧ Hid (Blk wr (w.heap.size) 82 #[.int .i64 d, .int .i64 a, .int .i64 c]) ∧ Hid (Below w.heap.size w wr)) (fun _ _ tv _ => p - (intOf tv).toNat)
      case atStart => exact ⟨0, -1, false, rfl, rfl, rfl, Nat.zero_le _, Lib.hid rfl, Lib.hid rfl, Lib.hid (by omega), QQ, Hb2⟩
      case round =>
        obtain ⟨t, B, S, rfl, rfl, rfl, ht, HS, HB, HBb, QQ, Hbr⟩ := hrel
        by_cases hlt : t < p
        · have hd0 : decide ((t : Int) < (p : Int)) = true := decide_eq_true (by omega)
          have hd0n : decide (t < p) = true := decide_eq_true hlt
          have hi0 : ((i : Int) == 0) = false := beq_eq_false_iff_ne.2 (by omega)
          have hi0n : (i == 0) = false := beq_eq_false_iff_ne.2 (by omega)
          obtain ⟨x1, x2, x3, x4⟩ := Hxt2.out t hlt
          obtain ⟨bb1, bb2⟩ := HBb.out
          have Sz := Lib.hid (show w.heap.size ≤ wr.heap.size from Hbr.out.size)
          have qQQ0 : wr.cell? ⟨w.heap.size, 0, none⟩ = some (.int .i64 d) := QQ.out.cell 0
          have qQQ1 : wr.cell? ⟨w.heap.size, 1, none⟩ = some (.int .i64 a) := QQ.out.cell 1
          have qQQ2 : wr.cell? ⟨w.heap.size, 2, none⟩ = some (.int .i64 c) := QQ.out.cell 2
          have qQQl := QQ.out.lt
          go_wp2_with fail
          clear qQQ0 qQQ1 qQQ2 qQQl
          refine (Hih2.out t hlt _).mono ?_; rintro e w3 ⟨y, rfl, hy1, hy2, hb3⟩
          have Hy := Lib.hid hy1; clear hy1
          obtain ⟨y3, y4⟩ := hy2
          have S3 := Lib.hid (show wr.heap.size + 0 ≤ w3.heap.size by have h9 := hb3.size; (try simp only [World.size_alloc, World.size_setCell, World.size_drew] at h9); omega)
          have Z3 := Lib.hid (And.intro Sz.out S3.out)
          have NQQ := Lib.hid (QQ.out.on hb3)
          have QQ := NQQ; clear NQQ
          have Hb3 := Lib.hid (bthen Hbr.out hb3)
          clear hb3
          have HS2 := Lib.hid (show (S || f1 t) = anR (t + 1) f1 by rw [anR_succ, ← HS.out])
          have HB2 := Lib.hid (show decide (0 ≤ (if 0 ≤ y ∧ (B < 0 ∨ y < B) then y else B)) = anR (t + 1) f2 by rw [anR_succ]; exact best_cases HB.out Hy.out)
          generalize f1 t = b at HS2 ⊢
          clear HS HB Hy x1 x2 x3 x4
          by_cases h0 : 0 ≤ y
          · have k0 : decide (0 ≤ y) = true := decide_eq_true h0
            by_cases h2 : B < 0
            · have k1 : decide (B < 0) = true := decide_eq_true h2
              have HBi := Lib.hid (show (if 0 ≤ y ∧ (B < 0 ∨ y < B) then y else B) = y from if_pos ⟨h0, .inl h2⟩)
              have HB3 := Lib.hid (show decide (0 ≤ y) = anR (t + 1) f2 by have h9 := HB2.out; rwa [HBi.out] at h9)
              clear HB2 HBi
              cases b <;> cases S
              all_goals go_wp2
              all_goals go_roundw
              all_goals try (case rel => exact ⟨t + 1, y, _, rfl, rfl, by go_num, by omega, HS2, HB3, Lib.hid (by omega), QQ, Hb3⟩)
              all_goals (simp [intOf]; omega)
            · have k1 : decide (B < 0) = false := decide_eq_false h2
              by_cases h3 : y < B
              · have k2 : decide (y < B) = true := decide_eq_true h3
                have HBi := Lib.hid (show (if 0 ≤ y ∧ (B < 0 ∨ y < B) then y else B) = y from if_pos ⟨h0, .inr h3⟩)
                have HB3 := Lib.hid (show decide (0 ≤ y) = anR (t + 1) f2 by have h9 := HB2.out; rwa [HBi.out] at h9)
                clear HB2 HBi
                cases b <;> cases S
                all_goals go_wp2
                all_goals go_roundw
                all_goals try (case rel => exact ⟨t + 1, y, _, rfl, rfl, by go_num, by omega, HS2, HB3, Lib.hid (by omega), QQ, Hb3⟩)
                all_goals (simp [intOf]; omega)
              · have k2 : decide (y < B) = false := decide_eq_false h3
                have HBi := Lib.hid (show (if 0 ≤ y ∧ (B < 0 ∨ y < B) then y else B) = B from if_neg (fun h => h.2.elim h2 h3))
                have HB3 := Lib.hid (show decide (0 ≤ B) = anR (t + 1) f2 by have h9 := HB2.out; rwa [HBi.out] at h9)
                clear HB2 HBi
                cases b <;> cases S
                all_goals go_wp2
                all_goals go_roundw
                all_goals try (case rel => exact ⟨t + 1, B, _, rfl, rfl, by go_num, by omega, HS2, HB3, Lib.hid (by omega), QQ, Hb3⟩)
                all_goals (simp [intOf]; omega)
          · have k0 : decide (0 ≤ y) = false := decide_eq_false h0
            have HBi := Lib.hid (show (if 0 ≤ y ∧ (B < 0 ∨ y < B) then y else B) = B from if_neg (fun h => h0 h.1))
            have HB3 := Lib.hid (show decide (0 ≤ B) = anR (t + 1) f2 by have h9 := HB2.out; rwa [HBi.out] at h9)
            clear HB2 HBi
            cases b <;> cases S
            all_goals go_wp2
            all_goals go_roundw
            all_goals try (case rel => exact ⟨t + 1, B, _, rfl, rfl, by go_num, by omega, HS2, HB3, Lib.hid (by omega), QQ, Hb3⟩)
            all_goals (simp [intOf]; omega)
        · obtain rfl : t = p := by omega
          have hd0 : decide ((t : Int) < (t : Int)) = false := decide_eq_false (by omega)
          have hd0n : decide (t < t) = false := decide_eq_false (by omega)
          go_wp2
          exact bodyPost_ret (v := .tuple #[.int .i64 B, .bool S]) (by simp [results, Tryz.results144, go_sem]) rfl ⟨B, by rw [Hy1.out, HS.out], by rw [Hy2.out, HB.out], HBb.out, Hbr.out⟩
end
section
open Go Go.RowKit

theorem gF_pow {p : Nat} (hp : 2 ≤ p) : ∀ (n j : Nat), 0 < n → j < gF p n → n * p ^ j ≤ 1000000000 := by
  intro n
  induction n using gF.induct (p := p) with
  | case1 n h ih =>
    intro j h0 hj
    obtain ⟨h1, h2, h3⟩ := h
    rw [gF_yes h1 h2 h3] at hj
    cases j with
    | zero => rw [Nat.pow_zero, Nat.mul_one]; exact h1
    | succ j =>
      have := ih j (Nat.mul_pos h3 (by omega)) (by omega)
      rw [Nat.pow_succ, Nat.mul_comm (p ^ j), ← Nat.mul_assoc]; exact this
  | case2 n h =>
    intro j h0 hj
    rw [gF, dif_neg h] at hj; omega
theorem dp_pos {p : Nat} (hp : 2 ≤ p) (hp2 : p ≤ 1000) : 1 ≤ dpV p := by unfold dpV; rw [gF_yes (by omega) hp (by omega)]; omega
theorem dp_pow {p k : Nat} (hp : 2 ≤ p) (hk : k ≤ dpV p) : p ^ k ≤ 1000000000 := by
  cases k with
  | zero => rw [Nat.pow_zero]; omega
  | succ k =>
    have := gF_pow hp p k (by omega) hk
    rw [Nat.pow_succ, Nat.mul_comm]; exact this
theorem dp_le {p : Nat} (hp : 2 ≤ p) : dpV p ≤ 29 := by
  rcases Nat.lt_or_ge 29 (dpV p) with h | h
  · have h1 := dp_pow hp (show 30 ≤ dpV p from h)
    have h2 : 2 ^ 30 ≤ p ^ 30 := Nat.pow_le_pow_left hp 30
    omega
  · exact h
/-- Level by level: has one lifted (and then nothing else counts); is some pair possible to the end? -/
def fdS (pos lif : Nat → Bool) : Nat → Nat → Bool × Bool
  | 0, _ => (false, true)
  | n + 1, k => if lif k = true then (true, true) else if pos k = true then fdS pos lif n (k + 1) else (false, false)
/-- Some pair modulo p ^ k is possible (at all levels). -/
def posB (d a c : Int) (p k : Nat) : Bool := bsE (fun x i => lpB d a c x 1 p i) (fun _ => true) p k 0 0 || bsE (fun x i => lpB d a c 1 x p i) (fun _ => true) p (k - 1) 0 1
/-- Some such pair lifts. -/
def lifB (d a c : Int) (p k : Nat) : Bool := bsE (fun x i => lpB d a c x 1 p i) (fun x => llB d a c x 1 p k) p k 0 0 || bsE (fun x i => lpB d a c 1 x p i) (fun x => llB d a c 1 x p k) p (k - 1) 0 1
/-- Is the quartic soluble at p; is some pair possible to the depth? -/
def fdV (d a c : Int) (p : Nat) : Bool × Bool := fdS (posB d a c p) (lifB d a c p) (dpV p) 1
def FdR (V : Bool × Bool) (w : World) (e : Ending) (w' : World) : Prop := ∃ (m n k : Int) (b : Bool), e = .returned (.tuple #[.int .i64 m, .int .i64 n, .int .i64 k, .bool b]) ∧ decide (0 < k) = V.1 ∧ (V.1 = false → b = V.2) ∧ (0 ≤ k ∧ k ≤ 100) ∧ Below w.heap.size w w'
theorem fdS_yes {pos lif : Nat → Bool} {n k : Nat} (h : lif k = true) : fdS pos lif (n + 1) k = (true, true) := by rw [fdS, if_pos h]
theorem fdS_on {pos lif : Nat → Bool} {n k : Nat} (h : lif k = false) (h2 : pos k = true) : fdS pos lif (n + 1) k = fdS pos lif n (k + 1) := by rw [fdS, if_neg (by rw [h]; decide), if_pos h2]
theorem fdS_no {pos lif : Nat → Bool} {n k : Nat} (h : lif k = false) (h2 : pos k = false) : fdS pos lif (n + 1) k = (false, false) := by rw [fdS, if_neg (by rw [h]; decide), if_neg (by rw [h2]; decide)]
set_option linter.unusedSimpArgs false in
set_option linter.unusedVariables false in
set_option maxRecDepth 8000 in
set_option maxHeartbeats 8000000 in
theorem loBest0_any (d a c : Int) (p k : Nat) (w : World) (hp : 2 ≤ p) (hp2 : p ≤ 1000) (hk : k ≤ 100) (hk1 : 1 ≤ k) (hb : p ^ k ≤ 1000000000) :
    Calls Tryz.prog 144 #[.agg #[.int .i64 d, .int .i64 a, .int .i64 c], .bool true, .int .i64 (p : Int), .int .i64 (k : Int), .int .i64 0, .int .i64 0] w (BsR (bsE (fun x i => lpB d a c 1 x p i) (fun _ => true) p (k - 1) 0 1) (bsE (fun x i => lpB d a c 1 x p i) (fun x => llB d a c 1 x p k) p (k - 1) 0 1) w) := by
  have Hw := Lib.hid (show ∀ w9, Calls Tryz.prog 153 #[.int .i64 (p : Int), .int .i64 0] w9 fun r w' => r = .returned (.int .i64 1) ∧ Below w9.heap.size w9 w' from fun w9 => loPower_blw p 0 w9 (by omega) (by omega) (by omega) (by rw [Nat.pow_zero]; omega))
  have Hc := Lib.hid (show ∀ w9, Calls Tryz.prog 144 #[.agg #[.int .i64 d, .int .i64 a, .int .i64 c], .bool true, .int .i64 (p : Int), .int .i64 (k : Int), .int .i64 0, .int .i64 1] w9 (BsR (bsE (fun x i => lpB d a c 1 x p i) (fun _ => true) p (k - 1) 0 1) (bsE (fun x i => lpB d a c 1 x p i) (fun x => llB d a c 1 x p k) p (k - 1) 0 1) w9) from fun w9 => loBestT_any d a c p k hp hp2 hk hk1 hb (k - 1) 0 1 w9 (by omega) (pw_pos hp 1) (by omega))
  generalize bsE (fun x i => lpB d a c 1 x p i) (fun _ => true) p (k - 1) 0 1 = b1 at *
  generalize bsE (fun x i => lpB d a c 1 x p i) (fun x => llB d a c 1 x p k) p (k - 1) 0 1 = b2 at *
  clear hk hk1 hb
  have hd0 : decide ((0 : Int) < (p : Int)) = true := decide_eq_true (by omega)
  have hd0n : decide (0 < p) = true := decide_eq_true (by omega)
  have hd1 : decide ((1 : Int) < (p : Int)) = true := decide_eq_true (by omega)
  have hd1n : decide (1 < p) = true := decide_eq_true (by omega)
  go_enter Tryz.func144, Tryz.ntmps144
  go_wp2_with fail
  refine (Hw.out _).mono ?_; rintro e w1 ⟨rfl, hb1⟩
  have S1 := Lib.hid (show w.heap.size + 1 ≤ w1.heap.size by have h9 := hb1.size; (try simp only [World.size_alloc, World.size_setCell, World.size_drew] at h9); omega)
  have NQQ := Lib.hid ((Blk.new w 82 #[.int .i64 d, .int .i64 a, .int .i64 c]).on hb1)
  have QQ := NQQ; clear NQQ
  have Hb1 := Lib.hid (bthen (bal (Below.refl w.heap.size w) (Obj.cells #[.int .i64 d, .int .i64 a, .int .i64 c] 82)) hb1)
  clear hb1
  go_wp2
  go_loopw [18, 19, 21] (fun bv sv tv wr => ∃ (B : Int) (S : Bool), bv = .int .i64 B ∧ sv = .bool S ∧ Hid (-1 ≤ B ∧ B ≤ 1000000000) ∧ ((tv = .int .i64 0 ∧ Hid (B = -1 ∧ S = false)) ∨ (tv = .int .i64 1 ∧ Hid (S = b1 ∧ decide (0 ≤ B) = b2))) ∧ Hid (Blk wr (w.heap.size) 82 #[.int .i64 d, .int .i64 a, .int .i64 c]) ∧ Hid (Below w.heap.size w wr)) (fun _ _ tv _ => 2 - (intOf tv).toNat)
  case atStart => exact ⟨-1, false, rfl, rfl, Lib.hid (by omega), .inl ⟨rfl, Lib.hid ⟨rfl, rfl⟩⟩, QQ, Hb1⟩
  case round =>
    obtain ⟨B, S, rfl, rfl, HBb, ht, QQ, Hbr⟩ := hrel
    have Sz := Lib.hid (show w.heap.size ≤ wr.heap.size from Hbr.out.size)
    rcases ht with ⟨rfl, HT⟩ | ⟨rfl, HT⟩
    · obtain ⟨rfl, rfl⟩ := HT.out
      clear HT HBb
      have qQQ0 : wr.cell? ⟨w.heap.size, 0, none⟩ = some (.int .i64 d) := QQ.out.cell 0
      have qQQ1 : wr.cell? ⟨w.heap.size, 1, none⟩ = some (.int .i64 a) := QQ.out.cell 1
      have qQQ2 : wr.cell? ⟨w.heap.size, 2, none⟩ = some (.int .i64 c) := QQ.out.cell 2
      have qQQl := QQ.out.lt
      go_wp2_with fail
      clear qQQ0 qQQ1 qQQ2 qQQl
      refine (Hc.out _).mono ?_; rintro e w2 ⟨y, rfl, hy1, hy2, hb2⟩
      have Hy := Lib.hid hy1; clear hy1
      obtain ⟨y3, y4⟩ := hy2
      have S2 := Lib.hid (show wr.heap.size + 0 ≤ w2.heap.size by have h9 := hb2.size; (try simp only [World.size_alloc, World.size_setCell, World.size_drew] at h9); omega)
      have Z2 := Lib.hid (And.intro Sz.out S2.out)
      have NQQ := Lib.hid (QQ.out.on hb2)
      have QQ := NQQ; clear NQQ
      have Hb2 := Lib.hid (bthen Hbr.out hb2)
      clear hb2
      by_cases h0 : 0 ≤ y
      · have k0 : decide (0 ≤ y) = true := decide_eq_true h0
        cases b1
        all_goals go_wp2
        all_goals go_roundw
        all_goals try (case rel => exact ⟨y, _, rfl, rfl, Lib.hid (by omega), .inr ⟨by first | rfl | go_num, Lib.hid ⟨rfl, Hy.out⟩⟩, QQ, Hb2⟩)
        all_goals (simp [intOf])
      · have k0 : decide (0 ≤ y) = false := decide_eq_false h0
        cases b1
        all_goals go_wp2
        all_goals go_roundw
        all_goals try (case rel => exact ⟨-1, _, rfl, rfl, Lib.hid (by omega), .inr ⟨by first | rfl | go_num, Lib.hid ⟨rfl, by rw [← Hy.out, decide_eq_false (show ¬ 0 ≤ y by omega)]; rfl⟩⟩, QQ, Hb2⟩)
        all_goals (simp [intOf])
    · have H1 := Lib.hid HT.out.1; have H2 := Lib.hid HT.out.2; clear HT
      go_wp2
      exact bodyPost_ret (v := .tuple #[.int .i64 B, .bool S]) (by simp [results, Tryz.results144, go_sem]) rfl ⟨B, by rw [H1.out], H2.out, HBb.out, Hbr.out⟩
theorem loDepth_blw (p : Nat) (w : World) (hp : 2 ≤ p) (hp2 : p ≤ 1000) : Calls Tryz.prog 143 #[.int .i64 (p : Int)] w fun r w' => r = .returned (.int .i64 (dpV p : Int)) ∧ Below w.heap.size w w' := by
  refine (loDepth_any p w hp hp2).mono ?_
  rintro e w1 ⟨rfl, rfl⟩
  exact ⟨rfl, Below.refl _ _⟩
set_option linter.unusedSimpArgs false in
set_option linter.unusedVariables false in
set_option maxRecDepth 8000 in
set_option maxHeartbeats 8000000 in
theorem loFind_any (d a c : Int) (p : Nat) (w : World) (hp : 2 ≤ p) (hp2 : p ≤ 1000) :
    Calls Tryz.prog 130 #[.agg #[.int .i64 d, .int .i64 a, .int .i64 c], .int .i64 (p : Int)] w (FdR (fdV d a c p) w) := by
  have Hv := Lib.hid (show fdV d a c p = fdS (posB d a c p) (lifB d a c p) (dpV p) 1 from rfl)
  generalize fdV d a c p = V at *
  have Hd := Lib.hid (fun w9 => loDepth_blw p w9 hp hp2)
  have hD1 := dp_pos hp hp2
  have hD2 := dp_le hp
  have Hpw := Lib.hid (fun (k : Nat) (hk : k ≤ dpV p) => dp_pow hp hk)
  generalize dpV p = D at *
  go_enter Tryz.func130, Tryz.ntmps130
  go_wp2_with fail
  obtain ⟨w1, hw9⟩ : ∃ x, x = (World.alloc w (Obj.cells #[.int .i64 d, .int .i64 a, .int .i64 c] 82)) := ⟨_, rfl⟩
  rw [← hw9]
  have hb1 : Below ((World.alloc w (Obj.cells #[.int .i64 d, .int .i64 a, .int .i64 c] 82))).heap.size (World.alloc w (Obj.cells #[.int .i64 d, .int .i64 a, .int .i64 c] 82)) w1 := by rw [hw9]; exact Below.refl _ _
  have S1 := Lib.hid (show w.heap.size + 1 ≤ w1.heap.size by have h9 := hb1.size; (try simp only [World.size_alloc, World.size_setCell, World.size_drew] at h9); omega)
  have NQQ := Lib.hid ((Blk.new w 82 #[.int .i64 d, .int .i64 a, .int .i64 c]).on hb1)
  have QQ := NQQ; clear NQQ
  have Hb1 := Lib.hid (bthen (bal (Below.refl w.heap.size w) (Obj.cells #[.int .i64 d, .int .i64 a, .int .i64 c] 82)) hb1)
  clear hb1
  clear hw9
  go_loopw [8, 9] (fun bv kv wr => ∃ (b : Bool) (k n : Nat), bv = .bool b ∧ kv = .int .i64 (k : Int) ∧ 1 ≤ k ∧ k + n = D + 1 ∧ Hid (k = 1 ∨ b = true) ∧ Hid (V = fdS (posB d a c p) (lifB d a c p) n k) ∧ Hid (Blk wr (w.heap.size) 82 #[.int .i64 d, .int .i64 a, .int .i64 c]) ∧ Hid (Below w.heap.size w wr)) (fun _ kv _ => D + 1 - (intOf kv).toNat)
  case atStart => exact ⟨false, 1, D, rfl, rfl, Nat.le_refl _, by omega, Lib.hid (.inl rfl), Hv, QQ, Hb1⟩
  case round =>
    obtain ⟨b, k, n, rfl, rfl, hk1, hkn, Hb0, HV, QQ, Hbr⟩ := hrel
    have Sz := Lib.hid (show w.heap.size ≤ wr.heap.size from Hbr.out.size)
    go_wp2_with fail
    refine (Hd.out _).mono ?_; rintro e w2 ⟨rfl, hb2⟩
    have S2 := Lib.hid (show wr.heap.size + 0 ≤ w2.heap.size by have h9 := hb2.size; (try simp only [World.size_alloc, World.size_setCell, World.size_drew] at h9); omega)
    have Z2 := Lib.hid (And.intro Sz.out S2.out)
    have NQQ := Lib.hid (QQ.out.on hb2)
    have QQ := NQQ; clear NQQ
    have Hb2 := Lib.hid (bthen Hbr.out hb2)
    clear hb2
    by_cases hlt : k ≤ D
    · obtain ⟨n, rfl⟩ : ∃ m, n = m + 1 := ⟨n - 1, by omega⟩
      have hk100 : k ≤ 100 := by omega
      have hd0 : decide ((k : Int) ≤ (D : Int)) = true := decide_eq_true (by omega)
      have hd0n : decide (k ≤ D) = true := decide_eq_true hlt
      have Hc1 := Lib.hid (show ∀ w9, Calls Tryz.prog 144 #[.agg #[.int .i64 d, .int .i64 a, .int .i64 c], .bool false, .int .i64 (p : Int), .int .i64 (k : Int), .int .i64 0, .int .i64 0] w9 (BsR (bsE (fun x i => lpB d a c x 1 p i) (fun _ => true) p k 0 0) (bsE (fun x i => lpB d a c x 1 p i) (fun x => llB d a c x 1 p k) p k 0 0) w9) from fun w9 => loBestP_any d a c p k hp hp2 hk100 hk1 (Hpw.out k hlt) k 0 0 w9 (by omega) (pw_pos hp 0))
      have Hc2 := Lib.hid (fun w9 => loBest0_any d a c p k w9 hp hp2 hk100 hk1 (Hpw.out k hlt))
      have Hpo := Lib.hid (show posB d a c p k = (bsE (fun x i => lpB d a c x 1 p i) (fun _ => true) p k 0 0 || bsE (fun x i => lpB d a c 1 x p i) (fun _ => true) p (k - 1) 0 1) from rfl)
      have Hli := Lib.hid (show lifB d a c p k = (bsE (fun x i => lpB d a c x 1 p i) (fun x => llB d a c x 1 p k) p k 0 0 || bsE (fun x i => lpB d a c 1 x p i) (fun x => llB d a c 1 x p k) p (k - 1) 0 1) from rfl)
      generalize bsE (fun x i => lpB d a c x 1 p i) (fun _ => true) p k 0 0 = P1 at Hc1 Hpo
      generalize bsE (fun x i => lpB d a c x 1 p i) (fun x => llB d a c x 1 p k) p k 0 0 = L1 at Hc1 Hli
      generalize bsE (fun x i => lpB d a c 1 x p i) (fun _ => true) p (k - 1) 0 1 = P2 at Hc2 Hpo
      generalize bsE (fun x i => lpB d a c 1 x p i) (fun x => llB d a c 1 x p k) p (k - 1) 0 1 = L2 at Hc2 Hli
      have Hlt := Lib.hid hlt; clear hlt
      have qQQ0 : w2.cell? ⟨w.heap.size, 0, none⟩ = some (.int .i64 d) := QQ.out.cell 0
      have qQQ1 : w2.cell? ⟨w.heap.size, 1, none⟩ = some (.int .i64 a) := QQ.out.cell 1
      have qQQ2 : w2.cell? ⟨w.heap.size, 2, none⟩ = some (.int .i64 c) := QQ.out.cell 2
      have qQQl := QQ.out.lt
      go_wp2_with fail
      clear qQQ0 qQQ1 qQQ2 qQQl
      refine (Hc1.out _).mono ?_; rintro e w3 ⟨y, rfl, hy1, hy2, hb3⟩
      have Hy := Lib.hid hy1; clear hy1
      obtain ⟨y3, y4⟩ := hy2
      have S3 := Lib.hid (show w2.heap.size + 0 ≤ w3.heap.size by have h9 := hb3.size; (try simp only [World.size_alloc, World.size_setCell, World.size_drew] at h9); omega)
      have Z3 := Lib.hid (And.intro Z2.out S3.out)
      have NQQ := Lib.hid (QQ.out.on hb3)
      have QQ := NQQ; clear NQQ
      have Hb3 := Lib.hid (bthen Hb2.out hb3)
      clear hb3
      by_cases h0 : 0 ≤ y
      · have k0 : decide (0 ≤ y) = true := decide_eq_true h0
        have Hl1 := Lib.hid (show V = (true, true) by rw [HV.out]; exact fdS_yes (by rw [Hli.out, ← Hy.out, k0, Bool.true_or]))
        go_wp2
        exact bodyPost_ret (v := .tuple #[.int .i64 y, .int .i64 1, .int .i64 (k : Int), .bool true]) (by simp [results, Tryz.results130, go_sem]) rfl ⟨y, 1, (k : Int), true, rfl, by rw [Hl1.out]; exact decide_eq_true (by omega), fun h => by rw [Hl1.out] at h; exact absurd h (by decide), by omega, Hb3.out⟩
      · have k0 : decide (0 ≤ y) = false := decide_eq_false h0
        have Hl1 := Lib.hid (show L1 = false by rw [← Hy.out, k0])
        clear Hy
        have qQQ0 : w3.cell? ⟨w.heap.size, 0, none⟩ = some (.int .i64 d) := QQ.out.cell 0
        have qQQ1 : w3.cell? ⟨w.heap.size, 1, none⟩ = some (.int .i64 a) := QQ.out.cell 1
        have qQQ2 : w3.cell? ⟨w.heap.size, 2, none⟩ = some (.int .i64 c) := QQ.out.cell 2
        have qQQl := QQ.out.lt
        go_wp2_with fail
        clear qQQ0 qQQ1 qQQ2 qQQl
        refine (Hc2.out _).mono ?_; rintro e w4 ⟨z, rfl, hz1, hz2, hb4⟩
        have Hz := Lib.hid hz1; clear hz1
        obtain ⟨z3, z4⟩ := hz2
        have S4 := Lib.hid (show w3.heap.size + 0 ≤ w4.heap.size by have h9 := hb4.size; (try simp only [World.size_alloc, World.size_setCell, World.size_drew] at h9); omega)
        have Z4 := Lib.hid (And.intro Z3.out S4.out)
        have NQQ := Lib.hid (QQ.out.on hb4)
        have QQ := NQQ; clear NQQ
        have Hb4 := Lib.hid (bthen Hb3.out hb4)
        clear hb4
        by_cases g0 : 0 ≤ z
        · have j0 : decide (0 ≤ z) = true := decide_eq_true g0
          have Hl2 := Lib.hid (show V = (true, true) by rw [HV.out]; exact fdS_yes (by rw [Hli.out, ← Hz.out, j0, Bool.or_true]))
          go_wp2
          exact bodyPost_ret (v := .tuple #[.int .i64 1, .int .i64 z, .int .i64 (k : Int), .bool true]) (by simp [results, Tryz.results130, go_sem]) rfl ⟨1, z, (k : Int), true, rfl, by rw [Hl2.out]; exact decide_eq_true (by omega), fun h => by rw [Hl2.out] at h; exact absurd h (by decide), by omega, Hb4.out⟩
        · have j0 : decide (0 ≤ z) = false := decide_eq_false g0
          have Hl2 := Lib.hid (show lifB d a c p k = false by rw [Hli.out, ← Hz.out, j0, Hl1.out]; rfl)
          clear Hz Hl1
          cases P1 <;> cases P2
          · have Hv2 := Lib.hid (show V = (false, false) by rw [HV.out]; exact fdS_no Hl2.out (by rw [Hpo.out]; rfl))
            go_wp2
            exact bodyPost_ret (v := .tuple #[.int .i64 0, .int .i64 0, .int .i64 0, .bool false]) (by simp [results, Tryz.results130, go_sem]) rfl ⟨0, 0, 0, false, rfl, by rw [Hv2.out]; rfl, fun h => by rw [Hv2.out], by omega, Hb4.out⟩
          · have Hv2 := Lib.hid (show V = fdS (posB d a c p) (lifB d a c p) n (k + 1) by rw [HV.out]; exact fdS_on Hl2.out (by rw [Hpo.out]; rfl))
            go_wp2
            go_roundw
            case rel => exact ⟨true, k + 1, n, rfl, by first | rfl | go_num, by omega, by omega, Lib.hid (.inr rfl), Hv2, QQ, Hb4⟩
            case measure => simp [intOf]; omega
          · have Hv2 := Lib.hid (show V = fdS (posB d a c p) (lifB d a c p) n (k + 1) by rw [HV.out]; exact fdS_on Hl2.out (by rw [Hpo.out]; rfl))
            go_wp2
            go_roundw
            case rel => exact ⟨true, k + 1, n, rfl, by first | rfl | go_num, by omega, by omega, Lib.hid (.inr rfl), Hv2, QQ, Hb4⟩
            case measure => simp [intOf]; omega
          · have Hv2 := Lib.hid (show V = fdS (posB d a c p) (lifB d a c p) n (k + 1) by rw [HV.out]; exact fdS_on Hl2.out (by rw [Hpo.out]; rfl))
            go_wp2
            go_roundw
            case rel => exact ⟨true, k + 1, n, rfl, by first | rfl | go_num, by omega, by omega, Lib.hid (.inr rfl), Hv2, QQ, Hb4⟩
            case measure => simp [intOf]; omega
    · have hd0 : decide ((k : Int) ≤ (D : Int)) = false := decide_eq_false (by omega)
      have hd0n : decide (k ≤ D) = false := decide_eq_false hlt
      have Hb1 := Lib.hid (show b = true from Hb0.out.elim (fun h => absurd h (by omega)) id)
      have Hn := Lib.hid (show V = (false, true) by rw [HV.out, show n = 0 by omega]; rfl)
      go_wp2
      exact bodyPost_ret (v := .tuple #[.int .i64 0, .int .i64 0, .int .i64 0, .bool b]) (by simp [results, Tryz.results130, go_sem]) rfl ⟨0, 0, 0, b, rfl, by rw [Hn.out]; rfl, fun h => by rw [Hn.out, Hb1.out], by omega, Hb2.out⟩
/-- Is the quartic soluble at p; is that told? -/
def slV (d a c : Int) (p : Nat) : Bool × Bool := ((fdV d a c p).1, (fdV d a c p).1 || !(fdV d a c p).2)
set_option linter.unusedSimpArgs false in
set_option linter.unusedVariables false in
set_option maxRecDepth 8000 in
set_option maxHeartbeats 8000000 in
theorem loSolves_any (d a c : Int) (p : Nat) (w : World) (hp : 2 ≤ p) (hp2 : p ≤ 1000) :
    Calls Tryz.prog 108 #[.agg #[.int .i64 d, .int .i64 a, .int .i64 c], .int .i64 (p : Int)] w fun r w' => r = .returned (.tuple #[.bool (slV d a c p).1, .bool (slV d a c p).2]) ∧ Below w.heap.size w w' := by
  have Hc := Lib.hid (fun w9 => loFind_any d a c p w9 hp hp2)
  have Hv := Lib.hid (show slV d a c p = ((fdV d a c p).1, (fdV d a c p).1 || !(fdV d a c p).2) from rfl)
  generalize slV d a c p = V at *
  generalize fdV d a c p = U at *
  obtain ⟨u1, u2⟩ := U
  go_enter Tryz.func108, Tryz.ntmps108
  go_wp2_with fail
  refine (Hc.out _).mono ?_; rintro e w1 ⟨m, n, k, b, rfl, hy1, hy2, hy3, hb1⟩
  have Hy := Lib.hid hy1; have Hz := Lib.hid hy2; clear hy1 hy2
  have S1 := Lib.hid (show w.heap.size + 1 ≤ w1.heap.size by have h9 := hb1.size; (try simp only [World.size_alloc, World.size_setCell, World.size_drew] at h9); omega)
  have NQQ := Lib.hid ((Blk.new w 82 #[.int .i64 d, .int .i64 a, .int .i64 c]).on hb1)
  have QQ := NQQ; clear NQQ
  have Hb1 := Lib.hid (bthen (bal (Below.refl w.heap.size w) (Obj.cells #[.int .i64 d, .int .i64 a, .int .i64 c] 82)) hb1)
  clear hb1
  by_cases h0 : 0 < k
  · have k0 : decide (0 < k) = true := decide_eq_true h0
    have H1 := Lib.hid (show V = (true, true) by rw [Hv.out]; have h9 := Hy.out; rw [k0] at h9; dsimp only at h9; subst h9; rfl)
    go_wp2
    exact bodyPost_ret (v := .tuple #[.bool true, .bool true]) (by simp [results, Tryz.results108, go_sem]) rfl ⟨by rw [H1.out], Hb1.out⟩
  · have k0 : decide (0 < k) = false := decide_eq_false h0
    have H1 := Lib.hid (show V = (false, !b) by rw [Hv.out]; have h9 := Hy.out; rw [k0] at h9; dsimp only at h9; subst h9; rw [Hz.out rfl]; rfl)
    cases b
    · go_wp2
      exact bodyPost_ret (v := .tuple #[.bool false, .bool true]) (by simp [results, Tryz.results108, go_sem]) rfl ⟨by rw [H1.out] <;> rfl, Hb1.out⟩
    · go_wp2
      exact bodyPost_ret (v := .tuple #[.bool false, .bool false]) (by simp [results, Tryz.results108, go_sem]) rfl ⟨by rw [H1.out] <;> rfl, Hb1.out⟩
end
end Go.Proofs.YthdfpfhkmfmnbaaGreat
