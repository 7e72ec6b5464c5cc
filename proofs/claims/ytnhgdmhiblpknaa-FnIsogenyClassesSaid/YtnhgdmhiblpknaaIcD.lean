/- The plain law of isogenies of degree two: a neighbour leads back. Conditions: none. -/
import Derived.Test.YtnhgdmhiblpknaaIcP
namespace Go.Proofs.Ytnhgdmhiblpknaa
open Go Go.RowKit

theorem raw_root {a b e : Int} (he : evZ a b e = 0) : evZ (rawA a e) (rawB a b e) (-2 * e) = 0 := by
  unfold evZ rawA rawB nbT at *
  grind
theorem raw_rawA (a e : Int) : rawA (rawA a e) (-2 * e) = 16 * a := by
  unfold rawA nbT
  grind
theorem raw_rawB {a b e : Int} (he : evZ a b e = 0) : rawB (rawA a e) (rawB a b e) (-2 * e) = 64 * b := by
  unfold evZ at he
  unfold rawA rawB nbT
  grind
/-- All grows alike. -/
theorem ev_scale (s a b e : Int) : evZ (p4 s * a) (p6 s * b) (s * s * e) = p6 s * evZ a b e := by
  unfold evZ p4 p6
  grind
theorem rawA_scale (s a e : Int) : rawA (p4 s * a) (s * s * e) = p4 s * rawA a e := by
  unfold rawA nbT p4
  grind
theorem rawB_scale (s a b e : Int) : rawB (p4 s * a) (p6 s * b) (s * s * e) = p6 s * rawB a b e := by
  unfold rawB nbT p4 p6
  grind
theorem dvd_cop {a b c : Int} (h : Int.gcd a b = 1) (hd : a ∣ b * c) : a ∣ c := by
  have h1 : a.natAbs ∣ b.natAbs * c.natAbs := by rw [← Int.natAbs_mul]; exact Int.natAbs_dvd_natAbs.2 hd
  exact Int.natAbs_dvd_natAbs.1 (Nat.Coprime.dvd_of_dvd_mul_left h h1)
/-- A root of a cubic whose coefficients grow with q is a multiple of q. -/
theorem cube_dvd {q x a b : Int} (hq : 0 < q) (h : x * x * x + q * q * a * x + q * q * q * b = 0) : q ∣ x := by
  have hg : 0 < Int.gcd x q := Int.gcd_pos_of_ne_zero_right x (by omega)
  have hc := Int.gcd_ediv_gcd_ediv_gcd hg
  obtain ⟨g, hgg⟩ : ∃ g : Int, (Int.gcd x q : Int) = g := ⟨_, rfl⟩
  have hg0 : 0 < g := by omega
  have h1 : g * (x / g) = x := Int.mul_ediv_cancel' (hgg ▸ Int.gcd_dvd_left x q)
  have h2 : g * (q / g) = q := Int.mul_ediv_cancel' (hgg ▸ Int.gcd_dvd_right x q)
  rw [hgg] at hc
  generalize x / g = y at h1 hc
  generalize q / g = r at h2 hc
  subst h1; subst h2
  have h3 : (g * g * g) * (y * y * y + r * r * a * y + r * r * r * b) = 0 := by rw [← h]; grind
  have hg3 : g * g * g ≠ 0 := Int.mul_ne_zero (Int.mul_ne_zero (by omega) (by omega)) (by omega)
  have h4 : y * y * y + r * r * a * y + r * r * r * b = 0 := (Int.mul_eq_zero.1 h3).resolve_left hg3
  have h5 : r ∣ y * (y * y) := ⟨-(r * a * y + r * r * b), by grind⟩
  rw [Int.gcd_comm] at hc
  have h6 := dvd_cop hc (dvd_cop hc h5)
  have h7 : r ∣ 1 := by
    have h8 : r ∣ y * 1 := by rw [Int.mul_one]; exact h6
    exact dvd_cop hc h8
  obtain ⟨k, hk⟩ := h7
  exact ⟨k * y, by rw [Int.mul_assoc, ← Int.mul_assoc r, ← hk, Int.one_mul]⟩

/-! ### Numbers of 2, 3 and 5 alone -/
def smth (s : Int) : Prop := ∃ i j k : Nat, s = 2 ^ i * 3 ^ j * 5 ^ k
theorem smth.pos {s : Int} (h : smth s) : 0 < s := by
  obtain ⟨i, j, k, rfl⟩ := h
  exact Int.mul_pos (Int.mul_pos (Int.pow_pos (by omega)) (Int.pow_pos (by omega))) (Int.pow_pos (by omega))
theorem smth.mul {s t : Int} (h : smth s) (h2 : smth t) : smth (s * t) := by
  obtain ⟨i, j, k, rfl⟩ := h
  obtain ⟨i', j', k', rfl⟩ := h2
  exact ⟨i + i', j + j', k + k', by rw [Int.pow_add, Int.pow_add, Int.pow_add]; grind⟩
theorem smth_two (i : Nat) : smth (2 ^ i) := ⟨i, 0, 0, by simp⟩
theorem smth_three (i : Nat) : smth (3 ^ i) := ⟨0, i, 0, by simp⟩
theorem smth_five (i : Nat) : smth (5 ^ i) := ⟨0, 0, i, by simp⟩
theorem smth_small {u : Int} (h : 1 ≤ u ∧ u ≤ 5) : smth u := by
  have : u = 1 ∨ u = 2 ∨ u = 3 ∨ u = 4 ∨ u = 5 := by omega
  rcases this with rfl | rfl | rfl | rfl | rfl
  · exact smth_two 0
  · exact smth_two 1
  · exact smth_three 1
  · exact smth_two 2
  · exact smth_five 1
/-- No division by 2, 3 or 5 is left. -/
def mn (a b : Int) : Prop := ¬ (p4 2 ∣ a ∧ p6 2 ∣ b) ∧ ¬ (p4 3 ∣ a ∧ p6 3 ∣ b) ∧ ¬ (p4 5 ∣ a ∧ p6 5 ∣ b)
theorem gcd_prime {p s : Int} (hp : p = 2 ∨ p = 3 ∨ p = 5) (h : ¬ p ∣ s) : Int.gcd s p = 1 := by
  have h1 : (Int.gcd s p : Int) ∣ p := Int.gcd_dvd_right s p
  have h2 : (Int.gcd s p : Int) ∣ s := Int.gcd_dvd_left s p
  have h3 : 0 < Int.gcd s p := Int.gcd_pos_of_ne_zero_right s (by omega)
  generalize Int.gcd s p = g at *
  have h4 : (g : Int) ≤ p := Int.le_of_dvd (by omega) h1
  rcases hp with rfl | rfl | rfl
  · have : g = 1 ∨ g = 2 := by omega
    rcases this with rfl | rfl
    · rfl
    · exact absurd h2 h
  · have : g = 1 ∨ g = 2 ∨ g = 3 := by omega
    rcases this with rfl | rfl | rfl
    · rfl
    · omega
    · exact absurd h2 h
  · have : g = 1 ∨ g = 2 ∨ g = 3 ∨ g = 4 ∨ g = 5 := by omega
    rcases this with rfl | rfl | rfl | rfl | rfl
    · rfl
    · omega
    · omega
    · omega
    · exact absurd h2 h
/-- A divisor of such a number is 1, or 2, 3 or 5 divides it. -/
theorem smth_dvd {s d : Int} (h : smth s) (hd : d ∣ s) (h0 : 0 < d) : d = 1 ∨ 2 ∣ d ∨ 3 ∣ d ∨ 5 ∣ d := by
  by_cases h2 : (2 : Int) ∣ d
  · exact .inr (.inl h2)
  by_cases h3 : (3 : Int) ∣ d
  · exact .inr (.inr (.inl h3))
  by_cases h5 : (5 : Int) ∣ d
  · exact .inr (.inr (.inr h5))
  left
  obtain ⟨i, j, k, rfl⟩ := h
  have g2 := Int.gcd_pow_right_of_gcd_eq_one (k := i) (gcd_prime (.inl rfl) h2)
  have g3 := Int.gcd_pow_right_of_gcd_eq_one (k := j) (gcd_prime (.inr (.inl rfl)) h3)
  have g5 := Int.gcd_pow_right_of_gcd_eq_one (k := k) (gcd_prime (.inr (.inr rfl)) h5)
  rw [Int.mul_assoc] at hd
  have e1 := dvd_cop g3 (dvd_cop g2 hd)
  have e2 : d ∣ 5 ^ k * 1 := by rw [Int.mul_one]; exact e1
  have e3 := dvd_cop g5 e2
  have := Int.le_of_dvd (by omega) e3
  omega
theorem p4_dvd {p s : Int} (h : p ∣ s) : p4 p ∣ p4 s := by obtain ⟨k, rfl⟩ := h; exact ⟨p4 k, p4_mul _ _⟩
theorem p6_dvd {p s : Int} (h : p ∣ s) : p6 p ∣ p6 s := by obtain ⟨k, rfl⟩ := h; exact ⟨p6 k, p6_mul _ _⟩
theorem gcd_p4 {r s : Int} (h : Int.gcd r s = 1) : Int.gcd (p4 r) (p4 s) = 1 := by
  have e : ∀ x, p4 x = x ^ 4 := fun x => by unfold p4; grind
  rw [e, e]; exact Int.pow_gcd_pow_of_gcd_eq_one h
theorem gcd_p6 {r s : Int} (h : Int.gcd r s = 1) : Int.gcd (p6 r) (p6 s) = 1 := by
  have e : ∀ x, p6 x = x ^ 6 := fun x => by unfold p6; grind
  rw [e, e]; exact Int.pow_gcd_pow_of_gcd_eq_one h
/-- What is left, when all was divided, is one. -/
theorem mn_uniq {r s a b a' b' : Int} (hr : smth r) (hs : smth s) (h4 : p4 s * a = p4 r * a') (h6 : p6 s * b = p6 r * b') (hm : mn a b) (hm' : mn a' b') : a = a' ∧ b = b' := by
  have hr0 := hr.pos
  have hs0 := hs.pos
  have hg : 0 < Int.gcd r s := Int.gcd_pos_of_ne_zero_right r (by omega)
  have hc := Int.gcd_ediv_gcd_ediv_gcd hg
  have hd1 := Int.gcd_dvd_left r s
  have hd2 := Int.gcd_dvd_right r s
  obtain ⟨g, hgg⟩ : ∃ g : Int, (Int.gcd r s : Int) = g := ⟨_, rfl⟩
  have hg0 : 0 < g := by omega
  rw [hgg] at hc hd1 hd2
  have h1 : g * (r / g) = r := Int.mul_ediv_cancel' hd1
  have h2 : g * (s / g) = s := Int.mul_ediv_cancel' hd2
  generalize r / g = x at h1 hc
  generalize s / g = y at h2 hc
  have hx0 : 0 < x := by
    rcases Int.lt_trichotomy x 0 with h | h | h
    · have := Int.mul_neg_of_pos_of_neg hg0 h; omega
    · subst h; rw [Int.mul_zero] at h1; omega
    · exact h
  have hy0 : 0 < y := by
    rcases Int.lt_trichotomy y 0 with h | h | h
    · have := Int.mul_neg_of_pos_of_neg hg0 h; omega
    · subst h; rw [Int.mul_zero] at h2; omega
    · exact h
  have hp4 : p4 g ≠ 0 := Int.mul_ne_zero (Int.mul_ne_zero (Int.mul_ne_zero (by omega) (by omega)) (by omega)) (by omega)
  have hp6 : p6 g ≠ 0 := Int.mul_ne_zero (Int.mul_ne_zero (Int.mul_ne_zero (Int.mul_ne_zero (Int.mul_ne_zero (by omega) (by omega)) (by omega)) (by omega)) (by omega)) (by omega)
  have k4 : p4 y * a = p4 x * a' := by
    rw [← h1, ← h2, p4_mul, p4_mul, Int.mul_assoc, Int.mul_assoc] at h4
    exact Int.eq_of_mul_eq_mul_left hp4 h4
  have k6 : p6 y * b = p6 x * b' := by
    rw [← h1, ← h2, p6_mul, p6_mul, Int.mul_assoc, Int.mul_assoc] at h6
    exact Int.eq_of_mul_eq_mul_left hp6 h6
  have sx : ∀ {d : Int}, d ∣ r → 0 < d → (d = 1 ∨ 2 ∣ d ∨ 3 ∣ d ∨ 5 ∣ d) := fun h h0 => smth_dvd hr h h0
  have sy : ∀ {d : Int}, d ∣ s → 0 < d → (d = 1 ∨ 2 ∣ d ∨ 3 ∣ d ∨ 5 ∣ d) := fun h h0 => smth_dvd hs h h0
  have one : ∀ {x y a b a' b' : Int}, (x = 1 ∨ 2 ∣ x ∨ 3 ∣ x ∨ 5 ∣ x) → Int.gcd x y = 1 → p4 y * a = p4 x * a' → p6 y * b = p6 x * b' → mn a b → x = 1 := by
    intro x y a b a' b' hx hg h4 h6 hm
    have d4 : p4 x ∣ a := dvd_cop (gcd_p4 hg) ⟨a', h4⟩
    have d6 : p6 x ∣ b := dvd_cop (gcd_p6 hg) ⟨b', h6⟩
    rcases hx with h | h | h | h
    · exact h
    · exact absurd ⟨Int.dvd_trans (p4_dvd h) d4, Int.dvd_trans (p6_dvd h) d6⟩ hm.1
    · exact absurd ⟨Int.dvd_trans (p4_dvd h) d4, Int.dvd_trans (p6_dvd h) d6⟩ hm.2.1
    · exact absurd ⟨Int.dvd_trans (p4_dvd h) d4, Int.dvd_trans (p6_dvd h) d6⟩ hm.2.2
  have ex : x = 1 := one (sx ⟨g, by rw [← h1, Int.mul_comm]⟩ hx0) hc k4 k6 hm
  have ey : y = 1 := one (sy ⟨g, by rw [← h2, Int.mul_comm]⟩ hy0) (by rw [Int.gcd_comm]; exact hc) k4.symm k6.symm hm'
  subst ex; subst ey
  have q4 : p4 1 = 1 := rfl
  have q6 : p6 1 = 1 := rfl
  rw [q4, Int.one_mul, Int.one_mul] at k4
  rw [q6, Int.one_mul, Int.one_mul] at k6
  exact ⟨k4, k6⟩

/-! ### What a neighbour is -/
theorem red_all {a b : Int} (hz : ¬ (a = 0 ∧ b = 0)) : ∃ s, smth s ∧ a = p4 s * (red 5 (red 3 (red 2 a b).1 (red 2 a b).2).1 (red 3 (red 2 a b).1 (red 2 a b).2).2).1 ∧ b = p6 s * (red 5 (red 3 (red 2 a b).1 (red 2 a b).2).1 (red 3 (red 2 a b).1 (red 2 a b).2).2).2 ∧
    mn (red 5 (red 3 (red 2 a b).1 (red 2 a b).2).1 (red 3 (red 2 a b).1 (red 2 a b).2).2).1 (red 5 (red 3 (red 2 a b).1 (red 2 a b).2).1 (red 3 (red 2 a b).1 (red 2 a b).2).2).2 := by
  have d2 := red_done 2 (by omega) _ a b (Nat.le_refl _) hz
  have z2 := red_nz 2 (by omega) hz
  obtain ⟨i, a1, b1⟩ := red_scale 2 (by omega) _ a b (Nat.le_refl _)
  generalize red 2 a b = x at *
  have d3 := red_done 3 (by omega) _ x.1 x.2 (Nat.le_refl _) z2
  have z3 := red_nz 3 (by omega) z2
  have d23 := red_keep (r := 3) (by omega) d2
  obtain ⟨j, a2, b2⟩ := red_scale 3 (by omega) _ x.1 x.2 (Nat.le_refl _)
  generalize red 3 x.1 x.2 = y at *
  have d5 := red_done 5 (by omega) _ y.1 y.2 (Nat.le_refl _) z3
  have d25 := red_keep (r := 5) (by omega) d23
  have d35 := red_keep (r := 5) (by omega) d3
  obtain ⟨k, a3, b3⟩ := red_scale 5 (by omega) _ y.1 y.2 (Nat.le_refl _)
  generalize red 5 y.1 y.2 = z at *
  refine ⟨2 ^ i * 3 ^ j * 5 ^ k, ⟨i, j, k, rfl⟩, ?_, ?_, d25, d35, d5⟩
  · rw [p4_mul, p4_mul, Int.mul_assoc, ← a3, Int.mul_assoc, ← a2]; exact a1
  · rw [p6_mul, p6_mul, Int.mul_assoc, ← b3, Int.mul_assoc, ← b2]; exact b1
theorem nbV_some {a b e : Int} {d : Cu} (h : curveB a b = true) (he : evZ a b e = 0) (hn : nbV a b e = some d) : ∃ s, smth s ∧ rawA a e = p4 s * d.a ∧ rawB a b e = p6 s * d.b ∧ mn d.a d.b := by
  obtain ⟨-, h2⟩ := nbV_good hn
  obtain ⟨s, h3, h4, h5, h6⟩ := red_all (raw_nz h he)
  unfold nbR at h2
  rw [h2] at h4 h5 h6
  exact ⟨s, h3, h4, h5, h6⟩
theorem smC_mn {a b : Int} (h : curveB a b = true) : mn (smC a b).a (smC a b).b ∧ a = p4 (smU a b) * (smC a b).a ∧ b = p6 (smU a b) * (smC a b).b := by
  have hd := smU_dv a b
  unfold dvU at hd
  rw [decide_eq_true_eq] at hd
  have e4 : a = p4 (smU a b) * (smC a b).a := (dvd_div hd.1).symm
  have e6 : b = p6 (smU a b) * (smC a b).b := (dvd_div hd.2).symm
  refine ⟨?_, e4, e6⟩
  have hu := smU_bd a b
  have key : ∀ p : Int, 2 ≤ p → (∀ v, dvU a b v = true → v ≤ smU a b) → ¬ (p4 p ∣ (smC a b).a ∧ p6 p ∣ (smC a b).b) := by
    intro p hp hv
    rintro ⟨k4, k6⟩
    have h1 : dvU a b (smU a b * p) = true := by
      unfold dvU
      rw [decide_eq_true_eq, p4_mul, p6_mul]
      refine ⟨?_, ?_⟩
      · obtain ⟨x, hx⟩ := k4
        refine ⟨x, ?_⟩
        rw [Int.mul_assoc, ← hx]; exact e4
      · obtain ⟨x, hx⟩ := k6
        refine ⟨x, ?_⟩
        rw [Int.mul_assoc, ← hx]; exact e6
    have h2 := hv _ h1
    have h3 : smU a b * 2 ≤ smU a b * p := Int.mul_le_mul_of_nonneg_left hp (by omega)
    omega
  have hv : ∀ v, dvU a b v = true → v ≤ smU a b := by
    intro v hv
    rcases Int.lt_or_le 5 v with h5 | h5
    · rw [dvU_big h (by omega)] at hv; cases hv
    · rcases Int.lt_or_le v 2 with h2 | h2
      · omega
      · have hz : v = 2 ∨ v = 3 ∨ v = 4 ∨ v = 5 := by omega
        have no : ∀ {x : Bool}, x = false → x = true → False := fun h1 h2 => by rw [h1] at h2; cases h2
        rcases smU_cases a b with ⟨h0, g2, g3, g4, g5⟩ | ⟨h0, -, g3, g4, g5⟩ | ⟨h0, -, g4, g5⟩ | ⟨h0, -, g5⟩ | ⟨h0, -⟩ <;> rcases hz with rfl | rfl | rfl | rfl <;> first | (rw [h0]; omega) | exact (no g2 hv).elim | exact (no g3 hv).elim | exact (no g4 hv).elim | exact (no g5 hv).elim
  exact ⟨key 2 (by omega) hv, key 3 (by omega) hv, key 5 (by omega) hv⟩
theorem core_scale (s a b : Int) : coreI (p4 s * a) (p6 s * b) = p6 s * p6 s * coreI a b := by
  unfold coreI p4 p6
  grind
theorem div_bd {p x y m : Int} (hp : 1 ≤ p) (h : x = p * y) (hx : -m ≤ x ∧ x ≤ m) : -m ≤ y ∧ y ≤ m := by
  rcases Int.le_total 0 y with hy | hy
  · have : 0 ≤ (p - 1) * y := Int.mul_nonneg (by omega) hy
    rw [Int.sub_mul] at this
    omega
  · have : 0 ≤ (p - 1) * (-y) := Int.mul_nonneg (by omega) (by omega)
    rw [Int.sub_mul, Int.mul_neg] at this
    omega
theorem smC_good {a b : Int} (h : curveB a b = true) : curveB (smC a b).a (smC a b).b = true := by
  obtain ⟨-, e4, e6⟩ := smC_mn h
  have hu := smU_bd a b
  obtain ⟨ha, hb⟩ := curveB_bd h
  have hc := curveB_core h
  have g4 : 1 ≤ p4 (smU a b) := Int.mul_pos (Int.mul_pos (Int.mul_pos (by omega) (by omega)) (by omega)) (by omega)
  have g6 : 1 ≤ p6 (smU a b) := Int.mul_pos (Int.mul_pos (Int.mul_pos (Int.mul_pos (Int.mul_pos (by omega) (by omega)) (by omega)) (by omega)) (by omega)) (by omega)
  refine curveB_mk (div_bd g4 e4 ha) (div_bd g6 e6 hb) (fun h0 => hc ?_)
  have e := core_scale (smU a b) (smC a b).a (smC a b).b
  rw [← e4, ← e6, h0, Int.mul_zero] at e
  exact e
theorem mn_smU {a b : Int} (h : mn a b) : smU a b = 1 := by
  have hd := smU_dv a b
  unfold dvU at hd
  rw [decide_eq_true_eq] at hd
  rcases smU_cases a b with hc | hc | hc | hc | hc
  · exact hc.1
  · rw [hc.1] at hd; exact absurd hd h.1
  · rw [hc.1] at hd; exact absurd hd h.2.1
  · rw [hc.1] at hd; exact absurd ⟨Int.dvd_trans ⟨16, rfl⟩ hd.1, Int.dvd_trans ⟨64, rfl⟩ hd.2⟩ h.1
  · rw [hc.1] at hd; exact absurd hd h.2.2
theorem smC_one {a b : Int} (h : smU a b = 1) : smC a b = ⟨a, b⟩ := by
  unfold smC
  rw [h]
  simp [p4, p6]
/-- A neighbour leads back to the smallest model. -/
theorem nb_back {a b e : Int} {d : Cu} (h : curveB a b = true) (he : evZ a b e = 0) (hn : nbV a b e = some d) : ∃ f, evZ d.a d.b f = 0 ∧ nbV d.a d.b f = some (smC a b) := by
  obtain ⟨hg, -⟩ := nbV_good hn
  obtain ⟨s, hs, h4, h6, hm⟩ := nbV_some h he hn
  have hs0 := hs.pos
  have hroot := raw_root he
  rw [h4, h6] at hroot
  have hdv : s * s ∣ -2 * e := by
    refine cube_dvd (a := d.a) (b := d.b) (Int.mul_pos hs0 hs0) ?_
    rw [← hroot]
    unfold evZ p4 p6
    grind
  obtain ⟨f, hf⟩ := hdv
  have hp6 : p6 s ≠ 0 := Int.ne_of_gt (Int.mul_pos (Int.mul_pos (Int.mul_pos (Int.mul_pos (Int.mul_pos hs0 hs0) hs0) hs0) hs0) hs0)
  have hf0 : evZ d.a d.b f = 0 := by
    rw [hf, ev_scale] at hroot
    exact (Int.mul_eq_zero.1 hroot).resolve_left hp6
  refine ⟨f, hf0, ?_⟩
  have k4 : p4 s * rawA d.a f = 16 * a := by rw [← rawA_scale, ← hf, ← h4]; exact raw_rawA a e
  have k6 : p6 s * rawB d.a d.b f = 64 * b := by rw [← rawB_scale, ← hf, ← h4, ← h6]; exact raw_rawB he
  obtain ⟨t, ht, t4, t6, hm2⟩ := red_all (raw_nz hg hf0)
  obtain ⟨hms, e4, e6⟩ := smC_mn h
  have hgs := smC_good h
  have huu := smth_small (smU_bd a b)
  unfold nbV nbR
  generalize red 5 (red 3 (red 2 (rawA d.a f) (rawB d.a d.b f)).1 (red 2 (rawA d.a f) (rawB d.a d.b f)).2).1 (red 3 (red 2 (rawA d.a f) (rawB d.a d.b f)).1 (red 2 (rawA d.a f) (rawB d.a d.b f)).2).2 = z at *
  obtain ⟨q1, q2⟩ : z.1 = (smC a b).a ∧ z.2 = (smC a b).b := by
    refine mn_uniq (r := 2 * smU a b) (s := s * t) ((smth_two 1).mul huu) (hs.mul ht) ?_ ?_ hm2 hms
    · rw [p4_mul, p4_mul, Int.mul_assoc, ← t4, k4, Int.mul_assoc, ← e4]; rfl
    · rw [p6_mul, p6_mul, Int.mul_assoc, ← t6, k6, Int.mul_assoc, ← e6]; rfl
  rw [q1, q2, if_pos hgs]
end Go.Proofs.Ytnhgdmhiblpknaa
