/- Own texts put together: The plain law of isogenies of degree two: a neighbour leads back; The carried point lies on the raw neighbour: the identity, denominators cleared; Fractions: lowest terms, their value is one; A fraction made of a numerator and a denominator: its value; The plain law of carried points: where all steps are fractions, the carried point lies on the raw neighbour; Fractions, both sides: the walks of good ones, made ones, sums, differences, products, quotients; Fractions made, both sides. Conditions: those of each theorem. -/
import Derived.Test.YtacehhcpfollnaaGreatIsM1
namespace Go.Proofs.YtacehhcpfollnaaGreat
section
open Go Go.RowKit

theorem raw_root {a b e : Int} (he : evZ a b e = 0) : evZ (rawA a e) (rawB a b e) (-2 * e) = 0 := by
  unfold evZ rawA rawB nbT at *
  grind
theorem raw_rawA (a e : Int) : rawA (rawA a e) (-2 * e) = 16 * a := by
  unfold rawA nbT
  grind
theorem raw_rawB {a b e : Int} (he : evZ a b e = 0) : rawB (rawA a e) (rawB a b e) (-2 * e) = 64 * b := by
  unfold evZ at he
  unfold rawA rawB nbT
  grind
/-- All grows alike. -/
theorem ev_scale (s a b e : Int) : evZ (p4 s * a) (p6 s * b) (s * s * e) = p6 s * evZ a b e := by
  unfold evZ p4 p6
  grind
theorem rawA_scale (s a e : Int) : rawA (p4 s * a) (s * s * e) = p4 s * rawA a e := by
  unfold rawA nbT p4
  grind
theorem rawB_scale (s a b e : Int) : rawB (p4 s * a) (p6 s * b) (s * s * e) = p6 s * rawB a b e := by
  unfold rawB nbT p4 p6
  grind
theorem dvd_cop {a b c : Int} (h : Int.gcd a b = 1) (hd : a ∣ b * c) : a ∣ c := by
  have h1 : a.natAbs ∣ b.natAbs * c.natAbs := by rw [← Int.natAbs_mul]; exact Int.natAbs_dvd_natAbs.2 hd
  exact Int.natAbs_dvd_natAbs.1 (Nat.Coprime.dvd_of_dvd_mul_left h h1)
/-- A root of a cubic whose coefficients grow with q is a multiple of q. -/
theorem cube_dvd {q x a b : Int} (hq : 0 < q) (h : x * x * x + q * q * a * x + q * q * q * b = 0) : q ∣ x := by
  have hg : 0 < Int.gcd x q := Int.gcd_pos_of_ne_zero_right x (by omega)
  have hc := Int.gcd_ediv_gcd_ediv_gcd hg
  obtain ⟨g, hgg⟩ : ∃ g : Int, (Int.gcd x q : Int) = g := ⟨_, rfl⟩
  have hg0 : 0 < g := by omega
  have h1 : g * (x / g) = x := Int.mul_ediv_cancel' (hgg ▸ Int.gcd_dvd_left x q)
  have h2 : g * (q / g) = q := Int.mul_ediv_cancel' (hgg ▸ Int.gcd_dvd_right x q)
  rw [hgg] at hc
  generalize x / g = y at h1 hc
  generalize q / g = r at h2 hc
  subst h1; subst h2
  have h3 : (g * g * g) * (y * y * y + r * r * a * y + r * r * r * b) = 0 := by rw [← h]; grind
  have hg3 : g * g * g ≠ 0 := Int.mul_ne_zero (Int.mul_ne_zero (by omega) (by omega)) (by omega)
  have h4 : y * y * y + r * r * a * y + r * r * r * b = 0 := (Int.mul_eq_zero.1 h3).resolve_left hg3
  have h5 : r ∣ y * (y * y) := ⟨-(r * a * y + r * r * b), by grind⟩
  rw [Int.gcd_comm] at hc
  have h6 := dvd_cop hc (dvd_cop hc h5)
  have h7 : r ∣ 1 := by
    have h8 : r ∣ y * 1 := by rw [Int.mul_one]; exact h6
    exact dvd_cop hc h8
  obtain ⟨k, hk⟩ := h7
  exact ⟨k * y, by rw [Int.mul_assoc, ← Int.mul_assoc r, ← hk, Int.one_mul]⟩

/-! ### Numbers of 2, 3 and 5 alone -/
def smth (s : Int) : Prop := ∃ i j k : Nat, s = 2 ^ i * 3 ^ j * 5 ^ k
theorem smth.pos {s : Int} (h : smth s) : 0 < s := by
  obtain ⟨i, j, k, rfl⟩ := h
  exact Int.mul_pos (Int.mul_pos (Int.pow_pos (by omega)) (Int.pow_pos (by omega))) (Int.pow_pos (by omega))
theorem smth.mul {s t : Int} (h : smth s) (h2 : smth t) : smth (s * t) := by
  obtain ⟨i, j, k, rfl⟩ := h
  obtain ⟨i', j', k', rfl⟩ := h2
  exact ⟨i + i', j + j', k + k', by rw [Int.pow_add, Int.pow_add, Int.pow_add]; grind⟩
theorem smth_two (i : Nat) : smth (2 ^ i) := ⟨i, 0, 0, by simp⟩
theorem smth_three (i : Nat) : smth (3 ^ i) := ⟨0, i, 0, by simp⟩
theorem smth_five (i : Nat) : smth (5 ^ i) := ⟨0, 0, i, by simp⟩
theorem smth_small {u : Int} (h : 1 ≤ u ∧ u ≤ 5) : smth u := by
  have : u = 1 ∨ u = 2 ∨ u = 3 ∨ u = 4 ∨ u = 5 := by omega
  rcases this with rfl | rfl | rfl | rfl | rfl
  · exact smth_two 0
  · exact smth_two 1
  · exact smth_three 1
  · exact smth_two 2
  · exact smth_five 1
/-- No division by 2, 3 or 5 is left. -/
def mn (a b : Int) : Prop := ¬ (p4 2 ∣ a ∧ p6 2 ∣ b) ∧ ¬ (p4 3 ∣ a ∧ p6 3 ∣ b) ∧ ¬ (p4 5 ∣ a ∧ p6 5 ∣ b)
theorem gcd_prime {p s : Int} (hp : p = 2 ∨ p = 3 ∨ p = 5) (h : ¬ p ∣ s) : Int.gcd s p = 1 := by
  have h1 : (Int.gcd s p : Int) ∣ p := Int.gcd_dvd_right s p
  have h2 : (Int.gcd s p : Int) ∣ s := Int.gcd_dvd_left s p
  have h3 : 0 < Int.gcd s p := Int.gcd_pos_of_ne_zero_right s (by omega)
  generalize Int.gcd s p = g at *
  have h4 : (g : Int) ≤ p := Int.le_of_dvd (by omega) h1
  rcases hp with rfl | rfl | rfl
  · have : g = 1 ∨ g = 2 := by omega
    rcases this with rfl | rfl
    · rfl
    · exact absurd h2 h
  · have : g = 1 ∨ g = 2 ∨ g = 3 := by omega
    rcases this with rfl | rfl | rfl
    · rfl
    · omega
    · exact absurd h2 h
  · have : g = 1 ∨ g = 2 ∨ g = 3 ∨ g = 4 ∨ g = 5 := by omega
    rcases this with rfl | rfl | rfl | rfl | rfl
    · rfl
    · omega
    · omega
    · omega
    · exact absurd h2 h
/-- A divisor of such a number is 1, or 2, 3 or 5 divides it. -/
theorem smth_dvd {s d : Int} (h : smth s) (hd : d ∣ s) (h0 : 0 < d) : d = 1 ∨ 2 ∣ d ∨ 3 ∣ d ∨ 5 ∣ d := by
  by_cases h2 : (2 : Int) ∣ d
  · exact .inr (.inl h2)
  by_cases h3 : (3 : Int) ∣ d
  · exact .inr (.inr (.inl h3))
  by_cases h5 : (5 : Int) ∣ d
  · exact .inr (.inr (.inr h5))
  left
  obtain ⟨i, j, k, rfl⟩ := h
  have g2 := Int.gcd_pow_right_of_gcd_eq_one (k := i) (gcd_prime (.inl rfl) h2)
  have g3 := Int.gcd_pow_right_of_gcd_eq_one (k := j) (gcd_prime (.inr (.inl rfl)) h3)
  have g5 := Int.gcd_pow_right_of_gcd_eq_one (k := k) (gcd_prime (.inr (.inr rfl)) h5)
  rw [Int.mul_assoc] at hd
  have e1 := dvd_cop g3 (dvd_cop g2 hd)
  have e2 : d ∣ 5 ^ k * 1 := by rw [Int.mul_one]; exact e1
  have e3 := dvd_cop g5 e2
  have := Int.le_of_dvd (by omega) e3
  omega
theorem p4_dvd {p s : Int} (h : p ∣ s) : p4 p ∣ p4 s := by obtain ⟨k, rfl⟩ := h; exact ⟨p4 k, p4_mul _ _⟩
theorem p6_dvd {p s : Int} (h : p ∣ s) : p6 p ∣ p6 s := by obtain ⟨k, rfl⟩ := h; exact ⟨p6 k, p6_mul _ _⟩
theorem gcd_p4 {r s : Int} (h : Int.gcd r s = 1) : Int.gcd (p4 r) (p4 s) = 1 := by
  have e : ∀ x, p4 x = x ^ 4 := fun x => by unfold p4; grind
  rw [e, e]; exact Int.pow_gcd_pow_of_gcd_eq_one h
theorem gcd_p6 {r s : Int} (h : Int.gcd r s = 1) : Int.gcd (p6 r) (p6 s) = 1 := by
  have e : ∀ x, p6 x = x ^ 6 := fun x => by unfold p6; grind
  rw [e, e]; exact Int.pow_gcd_pow_of_gcd_eq_one h
/-- What is left, when all was divided, is one. -/
theorem mn_uniq {r s a b a' b' : Int} (hr : smth r) (hs : smth s) (h4 : p4 s * a = p4 r * a') (h6 : p6 s * b = p6 r * b') (hm : mn a b) (hm' : mn a' b') : a = a' ∧ b = b' := by
  have hr0 := hr.pos
  have hs0 := hs.pos
  have hg : 0 < Int.gcd r s := Int.gcd_pos_of_ne_zero_right r (by omega)
  have hc := Int.gcd_ediv_gcd_ediv_gcd hg
  have hd1 := Int.gcd_dvd_left r s
  have hd2 := Int.gcd_dvd_right r s
  obtain ⟨g, hgg⟩ : ∃ g : Int, (Int.gcd r s : Int) = g := ⟨_, rfl⟩
  have hg0 : 0 < g := by omega
  rw [hgg] at hc hd1 hd2
  have h1 : g * (r / g) = r := Int.mul_ediv_cancel' hd1
  have h2 : g * (s / g) = s := Int.mul_ediv_cancel' hd2
  generalize r / g = x at h1 hc
  generalize s / g = y at h2 hc
  have hx0 : 0 < x := by
    rcases Int.lt_trichotomy x 0 with h | h | h
    · have := Int.mul_neg_of_pos_of_neg hg0 h; omega
    · subst h; rw [Int.mul_zero] at h1; omega
    · exact h
  have hy0 : 0 < y := by
    rcases Int.lt_trichotomy y 0 with h | h | h
    · have := Int.mul_neg_of_pos_of_neg hg0 h; omega
    · subst h; rw [Int.mul_zero] at h2; omega
    · exact h
  have hp4 : p4 g ≠ 0 := Int.mul_ne_zero (Int.mul_ne_zero (Int.mul_ne_zero (by omega) (by omega)) (by omega)) (by omega)
  have hp6 : p6 g ≠ 0 := Int.mul_ne_zero (Int.mul_ne_zero (Int.mul_ne_zero (Int.mul_ne_zero (Int.mul_ne_zero (by omega) (by omega)) (by omega)) (by omega)) (by omega)) (by omega)
  have k4 : p4 y * a = p4 x * a' := by
    rw [← h1, ← h2, p4_mul, p4_mul, Int.mul_assoc, Int.mul_assoc] at h4
    exact Int.eq_of_mul_eq_mul_left hp4 h4
  have k6 : p6 y * b = p6 x * b' := by
    rw [← h1, ← h2, p6_mul, p6_mul, Int.mul_assoc, Int.mul_assoc] at h6
    exact Int.eq_of_mul_eq_mul_left hp6 h6
  have sx : ∀ {d : Int}, d ∣ r → 0 < d → (d = 1 ∨ 2 ∣ d ∨ 3 ∣ d ∨ 5 ∣ d) := fun h h0 => smth_dvd hr h h0
  have sy : ∀ {d : Int}, d ∣ s → 0 < d → (d = 1 ∨ 2 ∣ d ∨ 3 ∣ d ∨ 5 ∣ d) := fun h h0 => smth_dvd hs h h0
  have one : ∀ {x y a b a' b' : Int}, (x = 1 ∨ 2 ∣ x ∨ 3 ∣ x ∨ 5 ∣ x) → Int.gcd x y = 1 → p4 y * a = p4 x * a' → p6 y * b = p6 x * b' → mn a b → x = 1 := by
    intro x y a b a' b' hx hg h4 h6 hm
    have d4 : p4 x ∣ a := dvd_cop (gcd_p4 hg) ⟨a', h4⟩
    have d6 : p6 x ∣ b := dvd_cop (gcd_p6 hg) ⟨b', h6⟩
    rcases hx with h | h | h | h
    · exact h
    · exact absurd ⟨Int.dvd_trans (p4_dvd h) d4, Int.dvd_trans (p6_dvd h) d6⟩ hm.1
    · exact absurd ⟨Int.dvd_trans (p4_dvd h) d4, Int.dvd_trans (p6_dvd h) d6⟩ hm.2.1
    · exact absurd ⟨Int.dvd_trans (p4_dvd h) d4, Int.dvd_trans (p6_dvd h) d6⟩ hm.2.2
  have ex : x = 1 := one (sx ⟨g, by rw [← h1, Int.mul_comm]⟩ hx0) hc k4 k6 hm
  have ey : y = 1 := one (sy ⟨g, by rw [← h2, Int.mul_comm]⟩ hy0) (by rw [Int.gcd_comm]; exact hc) k4.symm k6.symm hm'
  subst ex; subst ey
  have q4 : p4 1 = 1 := rfl
  have q6 : p6 1 = 1 := rfl
  rw [q4, Int.one_mul, Int.one_mul] at k4
  rw [q6, Int.one_mul, Int.one_mul] at k6
  exact ⟨k4, k6⟩

/-! ### What a neighbour is -/
theorem red_all {a b : Int} (hz : ¬ (a = 0 ∧ b = 0)) : ∃ s, smth s ∧ a = p4 s * (red 5 (red 3 (red 2 a b).1 (red 2 a b).2).1 (red 3 (red 2 a b).1 (red 2 a b).2).2).1 ∧ b = p6 s * (red 5 (red 3 (red 2 a b).1 (red 2 a b).2).1 (red 3 (red 2 a b).1 (red 2 a b).2).2).2 ∧
    mn (red 5 (red 3 (red 2 a b).1 (red 2 a b).2).1 (red 3 (red 2 a b).1 (red 2 a b).2).2).1 (red 5 (red 3 (red 2 a b).1 (red 2 a b).2).1 (red 3 (red 2 a b).1 (red 2 a b).2).2).2 := by
  have d2 := red_done 2 (by omega) _ a b (Nat.le_refl _) hz
  have z2 := red_nz 2 (by omega) hz
  obtain ⟨i, a1, b1⟩ := red_scale 2 (by omega) _ a b (Nat.le_refl _)
  generalize red 2 a b = x at *
  have d3 := red_done 3 (by omega) _ x.1 x.2 (Nat.le_refl _) z2
  have z3 := red_nz 3 (by omega) z2
  have d23 := red_keep (r := 3) (by omega) d2
  obtain ⟨j, a2, b2⟩ := red_scale 3 (by omega) _ x.1 x.2 (Nat.le_refl _)
  generalize red 3 x.1 x.2 = y at *
  have d5 := red_done 5 (by omega) _ y.1 y.2 (Nat.le_refl _) z3
  have d25 := red_keep (r := 5) (by omega) d23
  have d35 := red_keep (r := 5) (by omega) d3
  obtain ⟨k, a3, b3⟩ := red_scale 5 (by omega) _ y.1 y.2 (Nat.le_refl _)
  generalize red 5 y.1 y.2 = z at *
  refine ⟨2 ^ i * 3 ^ j * 5 ^ k, ⟨i, j, k, rfl⟩, ?_, ?_, d25, d35, d5⟩
  · rw [p4_mul, p4_mul, Int.mul_assoc, ← a3, Int.mul_assoc, ← a2]; exact a1
  · rw [p6_mul, p6_mul, Int.mul_assoc, ← b3, Int.mul_assoc, ← b2]; exact b1
theorem nbV_some {a b e : Int} {d : Cu} (h : curveB a b = true) (he : evZ a b e = 0) (hn : nbV a b e = some d) : ∃ s, smth s ∧ rawA a e = p4 s * d.a ∧ rawB a b e = p6 s * d.b ∧ mn d.a d.b := by
  obtain ⟨-, h2⟩ := nbV_good hn
  obtain ⟨s, h3, h4, h5, h6⟩ := red_all (raw_nz h he)
  unfold nbR at h2
  rw [h2] at h4 h5 h6
  exact ⟨s, h3, h4, h5, h6⟩
theorem smC_mn {a b : Int} (h : curveB a b = true) : mn (smC a b).a (smC a b).b ∧ a = p4 (smU a b) * (smC a b).a ∧ b = p6 (smU a b) * (smC a b).b := by
  have hd := smU_dv a b
  unfold dvU at hd
  rw [decide_eq_true_eq] at hd
  have e4 : a = p4 (smU a b) * (smC a b).a := (dvd_div hd.1).symm
  have e6 : b = p6 (smU a b) * (smC a b).b := (dvd_div hd.2).symm
  refine ⟨?_, e4, e6⟩
  have hu := smU_bd a b
  have key : ∀ p : Int, 2 ≤ p → (∀ v, dvU a b v = true → v ≤ smU a b) → ¬ (p4 p ∣ (smC a b).a ∧ p6 p ∣ (smC a b).b) := by
    intro p hp hv
    rintro ⟨k4, k6⟩
    have h1 : dvU a b (smU a b * p) = true := by
      unfold dvU
      rw [decide_eq_true_eq, p4_mul, p6_mul]
      refine ⟨?_, ?_⟩
      · obtain ⟨x, hx⟩ := k4
        refine ⟨x, ?_⟩
        rw [Int.mul_assoc, ← hx]; exact e4
      · obtain ⟨x, hx⟩ := k6
        refine ⟨x, ?_⟩
        rw [Int.mul_assoc, ← hx]; exact e6
    have h2 := hv _ h1
    have h3 : smU a b * 2 ≤ smU a b * p := Int.mul_le_mul_of_nonneg_left hp (by omega)
    omega
  have hv : ∀ v, dvU a b v = true → v ≤ smU a b := by
    intro v hv
    rcases Int.lt_or_le 5 v with h5 | h5
    · rw [dvU_big h (by omega)] at hv; cases hv
    · rcases Int.lt_or_le v 2 with h2 | h2
      · omega
      · have hz : v = 2 ∨ v = 3 ∨ v = 4 ∨ v = 5 := by omega
        have no : ∀ {x : Bool}, x = false → x = true → False := fun h1 h2 => by rw [h1] at h2; cases h2
        rcases smU_cases a b with ⟨h0, g2, g3, g4, g5⟩ | ⟨h0, -, g3, g4, g5⟩ | ⟨h0, -, g4, g5⟩ | ⟨h0, -, g5⟩ | ⟨h0, -⟩ <;> rcases hz with rfl | rfl | rfl | rfl <;> first | (rw [h0]; omega) | exact (no g2 hv).elim | exact (no g3 hv).elim | exact (no g4 hv).elim | exact (no g5 hv).elim
  exact ⟨key 2 (by omega) hv, key 3 (by omega) hv, key 5 (by omega) hv⟩
theorem core_scale (s a b : Int) : coreI (p4 s * a) (p6 s * b) = p6 s * p6 s * coreI a b := by
  unfold coreI p4 p6
  grind
theorem div_bd {p x y m : Int} (hp : 1 ≤ p) (h : x = p * y) (hx : -m ≤ x ∧ x ≤ m) : -m ≤ y ∧ y ≤ m := by
  rcases Int.le_total 0 y with hy | hy
  · have : 0 ≤ (p - 1) * y := Int.mul_nonneg (by omega) hy
    rw [Int.sub_mul] at this
    omega
  · have : 0 ≤ (p - 1) * (-y) := Int.mul_nonneg (by omega) (by omega)
    rw [Int.sub_mul, Int.mul_neg] at this
    omega
theorem smC_good {a b : Int} (h : curveB a b = true) : curveB (smC a b).a (smC a b).b = true := by
  obtain ⟨-, e4, e6⟩ := smC_mn h
  have hu := smU_bd a b
  obtain ⟨ha, hb⟩ := curveB_bd h
  have hc := curveB_core h
  have g4 : 1 ≤ p4 (smU a b) := Int.mul_pos (Int.mul_pos (Int.mul_pos (by omega) (by omega)) (by omega)) (by omega)
  have g6 : 1 ≤ p6 (smU a b) := Int.mul_pos (Int.mul_pos (Int.mul_pos (Int.mul_pos (Int.mul_pos (by omega) (by omega)) (by omega)) (by omega)) (by omega)) (by omega)
  refine curveB_mk (div_bd g4 e4 ha) (div_bd g6 e6 hb) (fun h0 => hc ?_)
  have e := core_scale (smU a b) (smC a b).a (smC a b).b
  rw [← e4, ← e6, h0, Int.mul_zero] at e
  exact e
theorem mn_smU {a b : Int} (h : mn a b) : smU a b = 1 := by
  have hd := smU_dv a b
  unfold dvU at hd
  rw [decide_eq_true_eq] at hd
  rcases smU_cases a b with hc | hc | hc | hc | hc
  · exact hc.1
  · rw [hc.1] at hd; exact absurd hd h.1
  · rw [hc.1] at hd; exact absurd hd h.2.1
  · rw [hc.1] at hd; exact absurd ⟨Int.dvd_trans ⟨16, rfl⟩ hd.1, Int.dvd_trans ⟨64, rfl⟩ hd.2⟩ h.1
  · rw [hc.1] at hd; exact absurd hd h.2.2
theorem smC_one {a b : Int} (h : smU a b = 1) : smC a b = ⟨a, b⟩ := by
  unfold smC
  rw [h]
  simp [p4, p6]
/-- A neighbour leads back to the smallest model. -/
theorem nb_back {a b e : Int} {d : Cu} (h : curveB a b = true) (he : evZ a b e = 0) (hn : nbV a b e = some d) : ∃ f, evZ d.a d.b f = 0 ∧ nbV d.a d.b f = some (smC a b) := by
  obtain ⟨hg, -⟩ := nbV_good hn
  obtain ⟨s, hs, h4, h6, hm⟩ := nbV_some h he hn
  have hs0 := hs.pos
  have hroot := raw_root he
  rw [h4, h6] at hroot
  have hdv : s * s ∣ -2 * e := by
    refine cube_dvd (a := d.a) (b := d.b) (Int.mul_pos hs0 hs0) ?_
    rw [← hroot]
    unfold evZ p4 p6
    grind
  obtain ⟨f, hf⟩ := hdv
  have hp6 : p6 s ≠ 0 := Int.ne_of_gt (Int.mul_pos (Int.mul_pos (Int.mul_pos (Int.mul_pos (Int.mul_pos hs0 hs0) hs0) hs0) hs0) hs0)
  have hf0 : evZ d.a d.b f = 0 := by
    rw [hf, ev_scale] at hroot
    exact (Int.mul_eq_zero.1 hroot).resolve_left hp6
  refine ⟨f, hf0, ?_⟩
  have k4 : p4 s * rawA d.a f = 16 * a := by rw [← rawA_scale, ← hf, ← h4]; exact raw_rawA a e
  have k6 : p6 s * rawB d.a d.b f = 64 * b := by rw [← rawB_scale, ← hf, ← h4, ← h6]; exact raw_rawB he
  obtain ⟨t, ht, t4, t6, hm2⟩ := red_all (raw_nz hg hf0)
  obtain ⟨hms, e4, e6⟩ := smC_mn h
  have hgs := smC_good h
  have huu := smth_small (smU_bd a b)
  unfold nbV nbR
  generalize red 5 (red 3 (red 2 (rawA d.a f) (rawB d.a d.b f)).1 (red 2 (rawA d.a f) (rawB d.a d.b f)).2).1 (red 3 (red 2 (rawA d.a f) (rawB d.a d.b f)).1 (red 2 (rawA d.a f) (rawB d.a d.b f)).2).2 = z at *
  obtain ⟨q1, q2⟩ : z.1 = (smC a b).a ∧ z.2 = (smC a b).b := by
    refine mn_uniq (r := 2 * smU a b) (s := s * t) ((smth_two 1).mul huu) (hs.mul ht) ?_ ?_ hm2 hms
    · rw [p4_mul, p4_mul, Int.mul_assoc, ← t4, k4, Int.mul_assoc, ← e4]; rfl
    · rw [p6_mul, p6_mul, Int.mul_assoc, ← t6, k6, Int.mul_assoc, ← e6]; rfl
  rw [q1, q2, if_pos hgs]
end
section
open Go

theorem carry_id (a b e x D : Int) (hx : x = D + e) (he : evZ a b e = 0) :
    (x * x * x + a * x + b) * ((D * D - nbT a e) * (D * D - nbT a e)) = (x * D + nbT a e) * (x * D + nbT a e) * (x * D + nbT a e) * D + rawA a e * (x * D + nbT a e) * (D * D * D) + rawB a b e * (D * D * D * D) := by
  unfold evZ at he
  unfold rawA rawB nbT
  subst hx
  have hb : b = -(e * e * e + a * e) := by grind
  subst hb
  grind
/-- The same for x = m / n: D = m - e n. -/
theorem carry_hom (a b e m n D : Int) (hm : m = D + e * n) (he : evZ a b e = 0) :
    (m * m * m + a * m * n * n + b * n * n * n) * ((D * D - nbT a e * n * n) * (D * D - nbT a e * n * n)) = ((m * D + nbT a e * n * n) * (m * D + nbT a e * n * n) * (m * D + nbT a e * n * n) + rawA a e * (m * D + nbT a e * n * n) * (n * D) * (n * D) + rawB a b e * (n * D) * (n * D) * (n * D)) * D := by
  unfold evZ at he
  unfold rawA rawB nbT
  subst hm
  have hb : b = -(e * e * e + a * e) := by grind
  subst hb
  grind
/-- The same over the rationals (grind knows fields). -/
theorem carry_rat (a b e x y D t : Rat) (hD : D ≠ 0) (hx : x = D + e) (ht : t = 3 * e * e + a) (he : e * e * e + a * e + b = 0) (hy : y * y = x * x * x + a * x + b) :
    (y * (1 - t / D / D)) * (y * (1 - t / D / D)) = (x + t / D) * (x + t / D) * (x + t / D) + (a - 5 * t) * (x + t / D) + (b - 7 * e * t) := by
  subst hx; subst ht
  have hb : b = -(e * e * e + a * e) := by grind
  subst hb
  grind
end
section
open Go

theorem low_eq {a b c d : Int} (hb : 0 < b) (hd : 0 < d) (h1 : Int.gcd a b = 1) (h2 : Int.gcd c d = 1) (h : a * d = c * b) : a = c ∧ b = d := by
  have k1 : b ∣ d := by
    have e : b ∣ a * d := ⟨c, by rw [h]; exact Int.mul_comm _ _⟩
    exact dvd_cop (by rw [Int.gcd_comm]; exact h1) e
  have k2 : d ∣ b := by
    have e : d ∣ c * b := ⟨a, by rw [← h]; exact Int.mul_comm _ _⟩
    exact dvd_cop (by rw [Int.gcd_comm]; exact h2) e
  have e : b = d := Int.dvd_antisymm (by omega) (by omega) k1 k2
  subst e
  exact ⟨Int.eq_of_mul_eq_mul_right (by omega) h, rfl⟩
/-- The value of a fraction. -/
def rv (n d : Int) : Rat := (n : Rat) / (d : Rat)
theorem rat_ne {d : Int} (h : d ≠ 0) : (d : Rat) ≠ 0 := by
  intro e
  exact h (Rat.intCast_inj.1 (by rw [e]; rfl))
theorem rv_cross {a b c d : Int} (hb : b ≠ 0) (hd : d ≠ 0) (h : rv a b = rv c d) : a * d = c * b := by
  unfold rv at h
  have h1 := rat_ne hb
  have h2 := rat_ne hd
  have h3 : (a : Rat) * (d : Rat) = (c : Rat) * (b : Rat) := by grind
  exact Rat.intCast_inj.1 (by rw [Rat.intCast_mul, Rat.intCast_mul]; exact h3)
theorem rv_same {a b c d : Int} (hb : 0 < b) (hd : 0 < d) (h1 : Int.gcd a b = 1) (h2 : Int.gcd c d = 1) (h : rv a b = rv c d) : a = c ∧ b = d :=
  low_eq hb hd h1 h2 (rv_cross (by omega) (by omega) h)
theorem rv_scale {a b k : Int} (hb : b ≠ 0) (hk : k ≠ 0) : rv (a * k) (b * k) = rv a b := by
  unfold rv
  have h1 := rat_ne hb
  have h2 := rat_ne hk
  rw [Rat.intCast_mul, Rat.intCast_mul]
  grind
end
section
open Go

/-- Good: a denominator from 1 to M, a numerator from -M to M, no common divisor. -/
def frB (M x y : Int) : Bool := decide (1 ≤ y) && decide (y ≤ M) && decide (-M ≤ x) && decide (x ≤ M) && decide (Int.gcd x y = 1)
def sgD (n d : Int) : Int := if d < 0 then -(Int.gcd n d : Int) else (Int.gcd n d : Int)
def mkF (M n d : Int) : Option (Int × Int) := if d = 0 then none else if frB M (n.tdiv (sgD n d)) (d.tdiv (sgD n d)) = true then some (n.tdiv (sgD n d), d.tdiv (sgD n d)) else none
theorem sgD_ne {n d : Int} (hd : d ≠ 0) : sgD n d ≠ 0 := by
  have h : Int.gcd n d ≠ 0 := fun e => hd (Int.gcd_eq_zero_iff.1 e).2
  unfold sgD
  split <;> omega
theorem sgD_dvd (n d : Int) : sgD n d ∣ n ∧ sgD n d ∣ d := by
  unfold sgD
  split
  · exact ⟨Int.neg_dvd.2 (Int.gcd_dvd_left ..), Int.neg_dvd.2 (Int.gcd_dvd_right ..)⟩
  · exact ⟨Int.gcd_dvd_left .., Int.gcd_dvd_right ..⟩
theorem mkF_val {M n d x y : Int} (h : mkF M n d = some (x, y)) : d ≠ 0 ∧ 0 < y ∧ Int.gcd x y = 1 ∧ rv x y = rv n d := by
  unfold mkF at h
  by_cases hd : d = 0
  · rw [if_pos hd] at h; cases h
  · rw [if_neg hd] at h
    split at h
    · rename_i hg
      injection h with h
      have hx : n.tdiv (sgD n d) = x := congrArg Prod.fst h
      have hy : d.tdiv (sgD n d) = y := congrArg Prod.snd h
      rw [hx, hy] at hg
      unfold frB at hg
      simp only [Bool.and_eq_true, decide_eq_true_eq] at hg
      obtain ⟨h1, h2⟩ := sgD_dvd n d
      have e1 := Int.tdiv_mul_cancel h1
      have e2 := Int.tdiv_mul_cancel h2
      rw [hx] at e1
      rw [hy] at e2
      refine ⟨hd, by omega, hg.2, ?_⟩
      have h9 := rv_scale (a := x) (b := y) (k := sgD n d) (by omega) (sgD_ne hd)
      rw [e1, e2] at h9
      exact h9.symm
    · cases h
end
section
open Go

abbrev Fq := Int × Int
def vF (x : Fq) : Rat := rv x.1 x.2
def okQ (x : Fq) : Prop := 0 < x.2 ∧ Int.gcd x.1 x.2 = 1
def addF (M : Int) (x y : Fq) : Option Fq := mkF M (x.1 * y.2 + y.1 * x.2) (x.2 * y.2)
def subF (M : Int) (x y : Fq) : Option Fq := mkF M (x.1 * y.2 - y.1 * x.2) (x.2 * y.2)
def mulF (M : Int) (x y : Fq) : Option Fq := mkF M (x.1 * y.1) (x.2 * y.2)
def divF (M : Int) (x y : Fq) : Option Fq := if y.1 = 0 then none else mkF M (x.1 * y.2) (x.2 * y.1)
section
variable {M : Int} {x y z : Fq}
theorem addF_val (hx : okQ x) (hy : okQ y) (h : addF M x y = some z) : okQ z ∧ vF z = vF x + vF y := by
  obtain ⟨h1, h2, h3, h4⟩ := mkF_val (x := z.1) (y := z.2) h
  refine ⟨⟨h2, h3⟩, ?_⟩
  have k1 := rat_ne (d := x.2) (by have := hx.1; omega)
  have k2 := rat_ne (d := y.2) (by have := hy.1; omega)
  show rv z.1 z.2 = _
  rw [h4]
  unfold vF rv
  rw [Rat.intCast_add, Rat.intCast_mul, Rat.intCast_mul, Rat.intCast_mul]
  grind
theorem subF_val (hx : okQ x) (hy : okQ y) (h : subF M x y = some z) : okQ z ∧ vF z = vF x - vF y := by
  obtain ⟨h1, h2, h3, h4⟩ := mkF_val (x := z.1) (y := z.2) h
  refine ⟨⟨h2, h3⟩, ?_⟩
  have k1 := rat_ne (d := x.2) (by have := hx.1; omega)
  have k2 := rat_ne (d := y.2) (by have := hy.1; omega)
  show rv z.1 z.2 = _
  rw [h4]
  unfold vF rv
  rw [Rat.intCast_sub, Rat.intCast_mul, Rat.intCast_mul, Rat.intCast_mul]
  grind
theorem mulF_val (hx : okQ x) (hy : okQ y) (h : mulF M x y = some z) : okQ z ∧ vF z = vF x * vF y := by
  obtain ⟨h1, h2, h3, h4⟩ := mkF_val (x := z.1) (y := z.2) h
  refine ⟨⟨h2, h3⟩, ?_⟩
  have k1 := rat_ne (d := x.2) (by have := hx.1; omega)
  have k2 := rat_ne (d := y.2) (by have := hy.1; omega)
  show rv z.1 z.2 = _
  rw [h4]
  unfold vF rv
  rw [Rat.intCast_mul, Rat.intCast_mul]
  grind
theorem divF_val (hx : okQ x) (hy : okQ y) (h : divF M x y = some z) : okQ z ∧ vF y ≠ 0 ∧ vF z = vF x / vF y := by
  unfold divF at h
  by_cases h0 : y.1 = 0
  · rw [if_pos h0] at h; cases h
  · rw [if_neg h0] at h
    obtain ⟨h1, h2, h3, h4⟩ := mkF_val (x := z.1) (y := z.2) h
    have k1 := rat_ne (d := x.2) (by have := hx.1; omega)
    have k2 := rat_ne (d := y.2) (by have := hy.1; omega)
    have k3 := rat_ne h0
    refine ⟨⟨h2, h3⟩, ?_, ?_⟩
    · unfold vF rv; grind
    · show rv z.1 z.2 = _
      rw [h4]
      unfold vF rv
      rw [Rat.intCast_mul, Rat.intCast_mul]
      grind
end
theorem okQ_int (n : Int) : okQ (n, 1) := ⟨by show (0 : Int) < 1; omega, Int.gcd_one_right n⟩
theorem vF_int (n : Int) : vF (n, 1) = (n : Rat) := by unfold vF rv; grind
theorem vF_same {x y : Fq} (hx : okQ x) (hy : okQ y) (h : vF x = vF y) : x = y := by
  obtain ⟨h1, h2⟩ := rv_same hx.1 hy.1 hx.2 hy.2 h
  exact Prod.ext h1 h2
/-- What is carried, and its test. -/
theorem carry_law {M a b e : Int} {x y s1 s2 s3 s4 far ad u q le v p1 p2 p3 p4 p5 : Fq} (he : evZ a b e = 0) (hx : okQ x) (hy : okQ y)
    (h1 : mulF M y y = some s4) (h2 : mulF M x x = some s1) (h3 : addF M s1 (a, 1) = some s2) (h4 : mulF M s2 x = some s3) (h5 : addF M s3 (b, 1) = some s4)
    (h6 : subF M x (e, 1) = some far) (h7 : divF M (3 * e * e + a, 1) far = some ad) (h8 : addF M x ad = some u) (h9 : divF M ad far = some q) (h10 : subF M (1, 1) q = some le) (h11 : mulF M y le = some v)
    (k1 : mulF M v v = some p1) (k2 : mulF M u u = some p2) (k3 : addF M p2 (rawA a e, 1) = some p3) (k4 : mulF M p3 u = some p4) (k5 : addF M p4 (rawB a b e, 1) = some p5) : p5 = p1 := by
  obtain ⟨o1, v1⟩ := mulF_val hy hy h1
  obtain ⟨o2, v2⟩ := mulF_val hx hx h2
  obtain ⟨o3, v3⟩ := addF_val o2 (okQ_int a) h3
  obtain ⟨o4, v4⟩ := mulF_val o3 hx h4
  obtain ⟨o5, v5⟩ := addF_val o4 (okQ_int b) h5
  obtain ⟨o6, v6⟩ := subF_val hx (okQ_int e) h6
  obtain ⟨o7, n7, v7⟩ := divF_val (okQ_int _) o6 h7
  obtain ⟨o8, v8⟩ := addF_val hx o7 h8
  obtain ⟨o9, n9, v9⟩ := divF_val o7 o6 h9
  obtain ⟨o10, v10⟩ := subF_val (okQ_int 1) o9 h10
  obtain ⟨o11, v11⟩ := mulF_val hy o10 h11
  obtain ⟨q1, w1⟩ := mulF_val o11 o11 k1
  obtain ⟨q2, w2⟩ := mulF_val o8 o8 k2
  obtain ⟨q3, w3⟩ := addF_val q2 (okQ_int _) k3
  obtain ⟨q4, w4⟩ := mulF_val q3 o8 k4
  obtain ⟨q5, w5⟩ := addF_val q4 (okQ_int _) k5
  rw [vF_int] at v3 v5 v6 v7 v10 w3 w5
  have hev : (e : Rat) * e * e + a * e + b = 0 := by
    have h : ((evZ a b e : Int) : Rat) = 0 := by rw [he]; rfl
    unfold evZ at h
    simp only [Rat.intCast_add, Rat.intCast_mul] at h
    grind
  have hA : ((rawA a e : Int) : Rat) = (a : Rat) - 5 * (3 * (e : Rat) * e + a) := by
    unfold rawA nbT
    simp only [Rat.intCast_add, Rat.intCast_sub, Rat.intCast_mul]
    grind
  have hB : ((rawB a b e : Int) : Rat) = (b : Rat) - 7 * (e : Rat) * (3 * (e : Rat) * e + a) := by
    unfold rawB nbT
    simp only [Rat.intCast_add, Rat.intCast_sub, Rat.intCast_mul]
    grind
  have hT : ((3 * e * e + a : Int) : Rat) = 3 * (e : Rat) * e + a := by
    simp only [Rat.intCast_add, Rat.intCast_mul]
    grind
  rw [hT] at v7
  rw [hA] at w3
  rw [hB] at w5
  refine vF_same q5 q1 ?_
  have key := carry_rat (a : Rat) (b : Rat) (e : Rat) (vF x) (vF y) (vF far) (3 * (e : Rat) * e + a) n7 (by rw [v6]; grind) rfl hev (by rw [← v1, v5, v4, v3, v2]; grind)
  rw [w5, w4, w3, w2, w1, v11, v10, v9, v8, v7]
  have h1c : ((1 : Int) : Rat) = 1 := rfl
  rw [h1c]
  grind
end
section
open Go Go.RowKit

abbrev BF : Int := 1000000000
theorem frB_parts (x y : Int) : frB 1000000000 x y = (insB y 1 1000000000 && (insB x (-1000000000) 1000000000 && (gcdI x y == 1))) := by
  unfold frB insB gcdI Int.gcd
  rw [Bool.eq_iff_iff]
  simp only [Bool.and_eq_true, decide_eq_true_eq, beq_iff_eq]
  omega
theorem frB_bd {x y : Int} (h : frB 1000000000 x y = true) : (1 ≤ y ∧ y ≤ 1000000000) ∧ (-1000000000 ≤ x ∧ x ≤ 1000000000) ∧ gcdI x y = 1 := by
  rw [frB_parts] at h
  unfold insB at h
  simp only [Bool.and_eq_true, decide_eq_true_eq, beq_iff_eq] at h
  exact ⟨h.1, h.2.1, h.2.2⟩
/-- What a function that makes a fraction answers. -/
def FrQ (o : Option Fq) (x y : Int) (b : Bool) : Prop := match o with | some f => x = f.1 ∧ y = f.2 ∧ b = true | none => x = 0 ∧ y = 0 ∧ b = false
theorem FrQ.ex (o : Option Fq) : ∃ x y b, FrQ o x y b := by
  cases o with
  | none => exact ⟨0, 0, false, rfl, rfl, rfl⟩
  | some f => exact ⟨f.1, f.2, true, rfl, rfl, rfl⟩
theorem FrQ.yes {o : Option Fq} {x y : Int} {b : Bool} (h : FrQ o x y b) (hb : b = true) : o = some (x, y) := by
  cases o with
  | none => obtain ⟨-, -, h3⟩ := h; rw [h3] at hb; cases hb
  | some f => obtain ⟨rfl, rfl, -⟩ := h; rfl
theorem FrQ.no {o : Option Fq} {x y : Int} {b : Bool} (h : FrQ o x y b) (hb : b = false) : o = none ∧ x = 0 ∧ y = 0 := by
  cases o with
  | none => obtain ⟨h1, h2, -⟩ := h; exact ⟨rfl, h1, h2⟩
  | some f => obtain ⟨-, -, h3⟩ := h; rw [h3] at hb; cases hb
theorem FrQ.of_none {x y : Int} {b : Bool} (h : FrQ none x y b) : x = 0 ∧ y = 0 ∧ b = false := h
theorem mkF_no {M n d : Int} (h : frB M (n.tdiv (sgD n d)) (d.tdiv (sgD n d)) = false) : mkF M n d = none := by
  unfold mkF
  split
  · rfl
  · rw [if_neg (by rw [h]; exact Bool.false_ne_true)]
theorem mkF_yes {M n d : Int} (hd : d ≠ 0) (h : frB M (n.tdiv (sgD n d)) (d.tdiv (sgD n d)) = true) : mkF M n d = some (n.tdiv (sgD n d), d.tdiv (sgD n d)) := by
  unfold mkF
  rw [if_neg hd, if_pos h]
theorem mkF_good {M n d : Int} {f : Fq} (h : mkF M n d = some f) : frB M f.1 f.2 = true := by
  unfold mkF at h
  split at h
  · cases h
  · split at h
    · injection h with h; subst h; assumption
    · cases h
theorem gcdI_pos {n d : Int} (hd : d ≠ 0) : 0 < gcdI n d := by
  unfold gcdI
  have h : Nat.gcd n.natAbs d.natAbs ≠ 0 := fun e => by have := (Nat.gcd_eq_zero_iff.1 e).2; omega
  omega
theorem gcdI_le {n d : Int} (hd : d ≠ 0) : gcdI n d ≤ max d (-d) := by
  unfold gcdI
  have h := Nat.gcd_le_right n.natAbs (n := d.natAbs) (by omega)
  omega
theorem sgD_neg {n d : Int} (h : d < 0) : sgD n d = -(gcdI n d) := by unfold sgD; rw [if_pos h]; rfl
theorem sgD_pos {n d : Int} (h : ¬ d < 0) : sgD n d = gcdI n d := by unfold sgD; rw [if_neg h]; rfl
theorem tdiv_bd {a g : Int} {B : Int} (h1 : -B ≤ a) (h2 : a ≤ B) : -B ≤ a.tdiv g ∧ a.tdiv g ≤ B := by
  have h := Int.natAbs_tdiv_le_natAbs a g
  omega
set_option maxHeartbeats 800000 in
theorem isFraction_any (x y : Int) (w : World) :
    Calls Tryz.prog 63 #[.agg #[.int .i64 x, .int .i64 y]] w fun e w' => e = .returned (.bool (frB 1000000000 x y)) ∧ Below w.heap.size w w' := by
  rw [frB_parts]
  cases ha : insB y 1 1000000000
  · go_enter Tryz.func63, Tryz.ntmps63
    go_wp2_with (go_at_call 81; refine (inside_any _ _ _ _).mono ?_; rintro e w' ⟨rfl, rfl⟩)
    go_ret
    refine ⟨rfl, (Below.refl _ _).alloc (Nat.le_refl _) _⟩
  · cases hb : insB x (-1000000000) 1000000000
    · go_enter Tryz.func63, Tryz.ntmps63
      go_wp2_with (go_at_call 81; refine (inside_any _ _ _ _).mono ?_; rintro e w' ⟨rfl, rfl⟩)
      go_ret
      refine ⟨rfl, (Below.refl _ _).alloc (Nat.le_refl _) _⟩
    · have h1 := insB_true ha
      have h2 := insB_true hb
      go_enter Tryz.func63, Tryz.ntmps63
      go_wp2_with (first | (go_at_call 81; refine (inside_any _ _ _ _).mono ?_; rintro e w' ⟨rfl, rfl⟩) | (go_at_call 126; refine (gcdB_any _ _ _ (by omega) (by omega)).mono ?_; rintro e w' ⟨rfl, hb1⟩))
      go_ret
      exact ⟨rfl, ((Below.refl _ _).alloc (Nat.le_refl _) _).trans (hb1.mono (by simp))⟩
theorem gcdI_absL (x y : Int) : gcdI (max x (-x)) y = gcdI x y := by
  unfold gcdI
  rw [show (max x (-x)).natAbs = x.natAbs by omega]
theorem gcdI_absR (x y : Int) : gcdI x (max y (-y)) = gcdI x y := by
  unfold gcdI
  rw [show (max y (-y)).natAbs = y.natAbs by omega]
set_option maxHeartbeats 800000 in
theorem frGood_any (x y : Int) (w : World) :
    Calls Tryz.prog 124 #[.agg #[.int .i64 x, .int .i64 y]] w fun e w' => e = .returned (.bool (frB 1000000000 x y)) ∧ Below w.heap.size w w' := by
  rw [frB_parts]
  cases ha : insB y 1 1000000000
  · go_enter Tryz.func124, Tryz.ntmps124
    go_wp2_with fail
    refine wp_region_tame (by kernel_rfl) (by kernel_rfl) (fun T _ W hT => ?_)
    have hx := hT.cell
    repeat (go_big_quiet_step ((go_at_call 96; refine (l1In_any _ _ _ _).mono ?_; rintro e w' ⟨rfl, rfl⟩; exact ⟨by rw [ha], _, rfl⟩)))
    refine wpQuiet_nil ?_
    intro tt
    clear hx
    go_wp2
    go_ret
    exact ⟨rfl, bthen (bal (Below.refl _ _) _) (hT.below tt)⟩
  · cases hb : insB x (-1000000000) 1000000000
    · go_enter Tryz.func124, Tryz.ntmps124
      go_wp2_with fail
      refine wp_region_tame (by kernel_rfl) (by kernel_rfl) (fun T _ W hT => ?_)
      have hx := hT.cell
      repeat (go_big_quiet_step ((go_at_call 96; refine (l1In_any _ _ _ _).mono ?_; rintro e w' ⟨rfl, rfl⟩; exact ⟨by first | rw [ha] | rw [hb], _, rfl⟩)))
      refine wpQuiet_nil ?_
      intro tt
      clear hx
      go_wp2
      go_ret
      exact ⟨rfl, bthen (bal (Below.refl _ _) _) (hT.below tt)⟩
    · have h1 := insB_true ha
      have h2 := insB_true hb
      have Hg := Lib.hid (gcdI_absL x y)
      go_enter Tryz.func124, Tryz.ntmps124
      go_wp2_with fail
      refine wp_region_tame (by kernel_rfl) (by kernel_rfl) (fun T _ W hT => ?_)
      have hx := hT.cell
      repeat (go_big_quiet_step (first | (go_at_call 96; refine (l1In_any _ _ _ _).mono ?_; rintro e w' ⟨rfl, rfl⟩; exact ⟨by first | rw [ha] | rw [hb], _, rfl⟩) | (go_at_call 123; refine (l1AbsB_any _ _ (by omega)).mono ?_; rintro e w' ⟨rfl, rfl⟩; exact ⟨rfl, _, rfl⟩) | (go_at_call 122; refine (bgCommonB_any _ _ _ (by omega) (by omega)).mono ?_; rintro e w' ⟨rfl, rfl⟩; exact ⟨by rw [Hg.out], _, rfl⟩)))
      refine wpQuiet_nil ?_
      intro tt
      clear hx
      go_wp2
      go_ret
      exact ⟨rfl, bthen (bal (Below.refl _ _) _) (hT.below tt)⟩
end
section
open Go Go.RowKit
set_option linter.unusedSimpArgs false in
set_option maxHeartbeats 1600000 in
theorem mkI_lit {n d x y : Int} {b : Bool} (h : FrQ (mkF 1000000000 n d) x y b) (h0 : d ≠ 0) (w : World) (hn : -4000000000000000000 ≤ n ∧ n ≤ 4000000000000000000) (hd : -4000000000000000000 ≤ d ∧ d ≤ 4000000000000000000) :
    Calls Tryz.prog 130 #[.int .i64 n, .int .i64 d] w fun e w' => e = .returned (.tuple #[.agg #[.int .i64 x, .int .i64 y], .bool b]) ∧ Below w.heap.size w w' := by
  have Hn := Lib.hid hn; have Hd := Lib.hid hd
  have hgp := gcdI_pos (n := n) h0
  have hgl := gcdI_le (n := n) h0
  have hg0 : ¬ gcdI n d = 0 := by omega
  have hx := fun s => tdiv_bd (g := s) hn.1 hn.2
  have hy := fun s => tdiv_bd (g := s) hd.1 hd.2
  have Hyes := Lib.hid (fun k => mkF_yes (M := 1000000000) (n := n) h0 k)
  have Hno := Lib.hid (fun k => mkF_no (M := 1000000000) (n := n) (d := d) k)
  by_cases hneg : d < 0
  · rw [sgD_neg hneg] at Hyes Hno
    obtain ⟨g, hg⟩ : ∃ g, gcdI n d = g := ⟨_, rfl⟩
    rw [hg] at hgp hgl hg0 Hyes Hno
    have hgu : g ≤ 4000000000000000000 := by have := Hd.out; omega
    obtain ⟨X, hX⟩ : ∃ X, n.tdiv (-g) = X := ⟨_, rfl⟩
    obtain ⟨Y, hY⟩ : ∃ Y, d.tdiv (-g) = Y := ⟨_, rfl⟩
    obtain ⟨x1, x2⟩ := hx (-g); obtain ⟨y1, y2⟩ := hy (-g)
    rw [hX] at x1 x2; rw [hY] at y1 y2
    rw [hX, hY] at Hyes Hno
    clear hx hy hn hd
    have hw1 : IntKind.i64.wrap X = X := by rw [IntKind.wrap_i64]; omega
    have hw2 : IntKind.i64.wrap Y = Y := by rw [IntKind.wrap_i64]; omega
    have Hg := Lib.hid hg; clear hg
    have hng : ¬ (-g) = 0 := by omega
    have hw0 : wrap64 (-g) = -g := IntWalk.wrap64_in _ (by omega)
    have H := Lib.hid h; clear h
    have HR0 := Lib.hid (Blk.new w 42 #[.int .i64 0, .int .i64 0])
    go_enter Tryz.func130, Tryz.ntmps130
    go_wp2_with (go_at_call 126; refine (gcdB_any _ _ _ Hn.out Hd.out).mono ?_; rw [Hg.out]; rintro e w1 ⟨rfl, hb1⟩)
    have HB1 := Lib.hid (bthen (bal (Below.refl w.heap.size w) (Obj.cells #[.int .i64 0, .int .i64 0] 42)) hb1)
    have HR1 := Lib.hid (HR0.out.on hb1); have hs1 := hb1.size
    clear HR0 hb1
    rw [World.size_alloc] at hs1
    go_region
    go_wp2_with fail
    refine (isFraction_any _ _ _).mono ?_; rintro e w2 ⟨rfl, hb2⟩
    have HB2 := Lib.hid (bthen (Below.drew (bal HB1.out (Obj.cells #[.int .i64 X, .int .i64 Y] 42))) hb2)
    have HR2 := Lib.hid ((HR1.out.alloc (Obj.cells #[.int .i64 X, .int .i64 Y] 42)).drew.on hb2)
    have HF2 := Lib.hid ((Blk.new w1 42 #[.int .i64 X, .int .i64 Y]).drew.on hb2)
    clear HR1 hb2
    have r0 : w2.cell? ⟨w.heap.size, 0, none⟩ = some (.int .i64 0) := HR2.out.cell 0
    have r1 : w2.cell? ⟨w.heap.size, 1, none⟩ = some (.int .i64 0) := HR2.out.cell 1
    have rl := HR2.out.lt
    have f0 := HR2.out.frozen 0
    have f1 := HR2.out.frozen 1
    have z0 : w2.cell? ⟨w1.heap.size, 0, none⟩ = some (.int .i64 X) := HF2.out.cell 0
    have z1 : w2.cell? ⟨w1.heap.size, 1, none⟩ = some (.int .i64 Y) := HF2.out.cell 1
    have zl := HF2.out.lt
    cases hk : frB 1000000000 X Y
    · obtain ⟨rfl, rfl, rfl⟩ : x = 0 ∧ y = 0 ∧ b = false := by have h9 := H.out; rw [Hno.out hk] at h9; exact h9
      have hBB := Lib.hid (bst (bst HB2.out (p := ⟨w.heap.size, 0, none⟩) (by simp) (.int .i64 0)) (p := ⟨w.heap.size, 1, none⟩) (by simp) (.int .i64 0))
      clear hk H Hno Hyes
      go_wp2
      clear r0 r1 f0 f1 rl z0 z1 zl
      have HR4 := HR2.out.set2 (b0 := .int .i64 0) (b1 := .int .i64 0)
      have k0 := HR4.cell 0
      have k1 := HR4.cell 1
      simp at k0 k1
      exact bodyPost_ret (v := .tuple #[.agg #[.int .i64 0, .int .i64 0], .bool false]) (by simp [results, Tryz.results130, go_sem, k0, k1]) rfl ⟨rfl, hBB.out⟩
    · obtain ⟨rfl, rfl, rfl⟩ : x = X ∧ y = Y ∧ b = true := by have h9 := H.out; rw [Hyes.out hk] at h9; exact h9
      have hBB := Lib.hid (bst (bst HB2.out (p := ⟨w.heap.size, 0, none⟩) (by simp) (.int .i64 x)) (p := ⟨w.heap.size, 1, none⟩) (by simp) (.int .i64 y))
      clear hk H Hno Hyes
      go_wp2
      clear r0 r1 f0 f1 rl z0 z1 zl
      have HR4 := HR2.out.set2 (b0 := .int .i64 x) (b1 := .int .i64 y)
      have k0 := HR4.cell 0
      have k1 := HR4.cell 1
      simp at k0 k1
      exact bodyPost_ret (v := .tuple #[.agg #[.int .i64 x, .int .i64 y], .bool true]) (by simp [results, Tryz.results130, go_sem, k0, k1]) rfl ⟨rfl, hBB.out⟩
  · rw [sgD_pos hneg] at Hyes Hno
    obtain ⟨g, hg⟩ : ∃ g, gcdI n d = g := ⟨_, rfl⟩
    rw [hg] at hgp hgl hg0 Hyes Hno
    have hgu : g ≤ 4000000000000000000 := by have := Hd.out; omega
    obtain ⟨X, hX⟩ : ∃ X, n.tdiv g = X := ⟨_, rfl⟩
    obtain ⟨Y, hY⟩ : ∃ Y, d.tdiv g = Y := ⟨_, rfl⟩
    obtain ⟨x1, x2⟩ := hx g; obtain ⟨y1, y2⟩ := hy g
    rw [hX] at x1 x2; rw [hY] at y1 y2
    rw [hX, hY] at Hyes Hno
    clear hx hy hn hd
    have hw1 : IntKind.i64.wrap X = X := by rw [IntKind.wrap_i64]; omega
    have hw2 : IntKind.i64.wrap Y = Y := by rw [IntKind.wrap_i64]; omega
    have Hg := Lib.hid hg; clear hg
    have hng : ¬ g = 0 := by omega
    have H := Lib.hid h; clear h
    have HR0 := Lib.hid (Blk.new w 42 #[.int .i64 0, .int .i64 0])
    go_enter Tryz.func130, Tryz.ntmps130
    go_wp2_with (go_at_call 126; refine (gcdB_any _ _ _ Hn.out Hd.out).mono ?_; rw [Hg.out]; rintro e w1 ⟨rfl, hb1⟩)
    have HB1 := Lib.hid (bthen (bal (Below.refl w.heap.size w) (Obj.cells #[.int .i64 0, .int .i64 0] 42)) hb1)
    have HR1 := Lib.hid (HR0.out.on hb1); have hs1 := hb1.size
    clear HR0 hb1
    rw [World.size_alloc] at hs1
    go_region
    go_wp2_with fail
    refine (isFraction_any _ _ _).mono ?_; rintro e w2 ⟨rfl, hb2⟩
    have HB2 := Lib.hid (bthen (Below.drew (bal HB1.out (Obj.cells #[.int .i64 X, .int .i64 Y] 42))) hb2)
    have HR2 := Lib.hid ((HR1.out.alloc (Obj.cells #[.int .i64 X, .int .i64 Y] 42)).drew.on hb2)
    have HF2 := Lib.hid ((Blk.new w1 42 #[.int .i64 X, .int .i64 Y]).drew.on hb2)
    clear HR1 hb2
    have r0 : w2.cell? ⟨w.heap.size, 0, none⟩ = some (.int .i64 0) := HR2.out.cell 0
    have r1 : w2.cell? ⟨w.heap.size, 1, none⟩ = some (.int .i64 0) := HR2.out.cell 1
    have rl := HR2.out.lt
    have f0 := HR2.out.frozen 0
    have f1 := HR2.out.frozen 1
    have z0 : w2.cell? ⟨w1.heap.size, 0, none⟩ = some (.int .i64 X) := HF2.out.cell 0
    have z1 : w2.cell? ⟨w1.heap.size, 1, none⟩ = some (.int .i64 Y) := HF2.out.cell 1
    have zl := HF2.out.lt
    cases hk : frB 1000000000 X Y
    · obtain ⟨rfl, rfl, rfl⟩ : x = 0 ∧ y = 0 ∧ b = false := by have h9 := H.out; rw [Hno.out hk] at h9; exact h9
      have hBB := Lib.hid (bst (bst HB2.out (p := ⟨w.heap.size, 0, none⟩) (by simp) (.int .i64 0)) (p := ⟨w.heap.size, 1, none⟩) (by simp) (.int .i64 0))
      clear hk H Hno Hyes
      go_wp2
      clear r0 r1 f0 f1 rl z0 z1 zl
      have HR4 := HR2.out.set2 (b0 := .int .i64 0) (b1 := .int .i64 0)
      have k0 := HR4.cell 0
      have k1 := HR4.cell 1
      simp at k0 k1
      exact bodyPost_ret (v := .tuple #[.agg #[.int .i64 0, .int .i64 0], .bool false]) (by simp [results, Tryz.results130, go_sem, k0, k1]) rfl ⟨rfl, hBB.out⟩
    · obtain ⟨rfl, rfl, rfl⟩ : x = X ∧ y = Y ∧ b = true := by have h9 := H.out; rw [Hyes.out hk] at h9; exact h9
      have hBB := Lib.hid (bst (bst HB2.out (p := ⟨w.heap.size, 0, none⟩) (by simp) (.int .i64 x)) (p := ⟨w.heap.size, 1, none⟩) (by simp) (.int .i64 y))
      clear hk H Hno Hyes
      go_wp2
      clear r0 r1 f0 f1 rl z0 z1 zl
      have HR4 := HR2.out.set2 (b0 := .int .i64 x) (b1 := .int .i64 y)
      have k0 := HR4.cell 0
      have k1 := HR4.cell 1
      simp at k0 k1
      exact bodyPost_ret (v := .tuple #[.agg #[.int .i64 x, .int .i64 y], .bool true]) (by simp [results, Tryz.results130, go_sem, k0, k1]) rfl ⟨rfl, hBB.out⟩
theorem mkF_zero (M n : Int) : mkF M n 0 = none := by unfold mkF; rw [if_pos rfl]
set_option linter.unusedSimpArgs false in
set_option maxHeartbeats 1600000 in
theorem mkS_lit {n d x y : Int} {b : Bool} (h : FrQ (mkF 1000000000 n d) x y b) (w : World) (hn : -4000000000000000000 ≤ n ∧ n ≤ 4000000000000000000) (hd : -4000000000000000000 ≤ d ∧ d ≤ 4000000000000000000) :
    Calls Tryz.prog 61 #[.int .i64 n, .int .i64 d] w fun e w' => e = .returned (.tuple #[.agg #[.int .i64 x, .int .i64 y], .bool b]) ∧ Below w.heap.size w w' := by
  by_cases h0 : d = 0
  · subst h0
    rw [mkF_zero] at h
    obtain ⟨rfl, rfl, rfl⟩ := h
    have HR2 := Lib.hid (Blk.new w 42 #[.int .i64 0, .int .i64 0])
    have hBB := Lib.hid (bal (Below.refl w.heap.size w) (Obj.cells #[.int .i64 0, .int .i64 0] 42))
    go_enter Tryz.func61, Tryz.ntmps61
    go_wp2
    have k0 := HR2.out.cell 0
    have k1 := HR2.out.cell 1
    simp at k0 k1
    exact bodyPost_ret (v := .tuple #[.agg #[.int .i64 0, .int .i64 0], .bool false]) (by simp [results, Tryz.results61, go_sem, k0, k1]) rfl ⟨rfl, hBB.out⟩
  have Hn := Lib.hid hn; have Hd := Lib.hid hd
  have hgp := gcdI_pos (n := n) h0
  have hgl := gcdI_le (n := n) h0
  have hg0 : ¬ gcdI n d = 0 := by omega
  have hx := fun s => tdiv_bd (g := s) hn.1 hn.2
  have hy := fun s => tdiv_bd (g := s) hd.1 hd.2
  have Hyes := Lib.hid (fun k => mkF_yes (M := 1000000000) (n := n) h0 k)
  have Hno := Lib.hid (fun k => mkF_no (M := 1000000000) (n := n) (d := d) k)
  by_cases hneg : d < 0
  · rw [sgD_neg hneg] at Hyes Hno
    obtain ⟨g, hg⟩ : ∃ g, gcdI n d = g := ⟨_, rfl⟩
    rw [hg] at hgp hgl hg0 Hyes Hno
    have hgu : g ≤ 4000000000000000000 := by have := Hd.out; omega
    obtain ⟨X, hX⟩ : ∃ X, n.tdiv (-g) = X := ⟨_, rfl⟩
    obtain ⟨Y, hY⟩ : ∃ Y, d.tdiv (-g) = Y := ⟨_, rfl⟩
    obtain ⟨x1, x2⟩ := hx (-g); obtain ⟨y1, y2⟩ := hy (-g)
    rw [hX] at x1 x2; rw [hY] at y1 y2
    rw [hX, hY] at Hyes Hno
    clear hx hy hn hd
    have hw1 : IntKind.i64.wrap X = X := by rw [IntKind.wrap_i64]; omega
    have hw2 : IntKind.i64.wrap Y = Y := by rw [IntKind.wrap_i64]; omega
    have Hg := Lib.hid hg; clear hg
    have hng : ¬ (-g) = 0 := by omega
    have hw0 : wrap64 (-g) = -g := IntWalk.wrap64_in _ (by omega)
    have H := Lib.hid h; clear h
    have HR0 := Lib.hid (Blk.new w 42 #[.int .i64 0, .int .i64 0])
    go_enter Tryz.func61, Tryz.ntmps61
    have Ga := Lib.hid (show gcdI (max n (-n)) (max d (-d)) = g by rw [gcdI_absL, gcdI_absR]; exact Hg.out)
    go_wp2_with (first | (go_at_call 123; refine (l1AbsB_any _ _ (by first | exact Hn.out | exact Hd.out)).mono ?_; rintro e w1 ⟨rfl, rfl⟩) | (go_at_call 122; refine (bgCommonB_any _ _ _ (by have := Hn.out; omega) (by have := Hd.out; omega)).mono ?_; rw [Ga.out]; rintro e w1 ⟨rfl, hb0⟩))
    have hb1 : Below (w.alloc (Obj.cells #[.int .i64 0, .int .i64 0] 42)).heap.size (w.alloc (Obj.cells #[.int .i64 0, .int .i64 0] 42)) w1 := by rw [hb0]; exact Below.refl _ _
    clear hb0
    have HB1 := Lib.hid (bthen (bal (Below.refl w.heap.size w) (Obj.cells #[.int .i64 0, .int .i64 0] 42)) hb1)
    have HR1 := Lib.hid (HR0.out.on hb1); have hs1 := hb1.size
    clear HR0 hb1
    rw [World.size_alloc] at hs1
    go_region
    go_wp2_with fail
    refine (frGood_any _ _ _).mono ?_; rintro e w2 ⟨rfl, hb2⟩
    have HB2 := Lib.hid (bthen (Below.drew (bal HB1.out (Obj.cells #[.int .i64 X, .int .i64 Y] 42))) hb2)
    have HR2 := Lib.hid ((HR1.out.alloc (Obj.cells #[.int .i64 X, .int .i64 Y] 42)).drew.on hb2)
    have HF2 := Lib.hid ((Blk.new w1 42 #[.int .i64 X, .int .i64 Y]).drew.on hb2)
    clear HR1 hb2
    have r0 : w2.cell? ⟨w.heap.size, 0, none⟩ = some (.int .i64 0) := HR2.out.cell 0
    have r1 : w2.cell? ⟨w.heap.size, 1, none⟩ = some (.int .i64 0) := HR2.out.cell 1
    have rl := HR2.out.lt
    have f0 := HR2.out.frozen 0
    have f1 := HR2.out.frozen 1
    have z0 : w2.cell? ⟨w1.heap.size, 0, none⟩ = some (.int .i64 X) := HF2.out.cell 0
    have z1 : w2.cell? ⟨w1.heap.size, 1, none⟩ = some (.int .i64 Y) := HF2.out.cell 1
    have zl := HF2.out.lt
    cases hk : frB 1000000000 X Y
    · obtain ⟨rfl, rfl, rfl⟩ : x = 0 ∧ y = 0 ∧ b = false := by have h9 := H.out; rw [Hno.out hk] at h9; exact h9
      have hBB := Lib.hid (bst (bst HB2.out (p := ⟨w.heap.size, 0, none⟩) (by simp) (.int .i64 0)) (p := ⟨w.heap.size, 1, none⟩) (by simp) (.int .i64 0))
      clear hk H Hno Hyes
      go_wp2
      clear r0 r1 f0 f1 rl z0 z1 zl
      have HR4 := HR2.out.set2 (b0 := .int .i64 0) (b1 := .int .i64 0)
      have k0 := HR4.cell 0
      have k1 := HR4.cell 1
      simp at k0 k1
      exact bodyPost_ret (v := .tuple #[.agg #[.int .i64 0, .int .i64 0], .bool false]) (by simp [results, Tryz.results61, go_sem, k0, k1]) rfl ⟨rfl, hBB.out⟩
    · obtain ⟨rfl, rfl, rfl⟩ : x = X ∧ y = Y ∧ b = true := by have h9 := H.out; rw [Hyes.out hk] at h9; exact h9
      have hBB := Lib.hid (bst (bst HB2.out (p := ⟨w.heap.size, 0, none⟩) (by simp) (.int .i64 x)) (p := ⟨w.heap.size, 1, none⟩) (by simp) (.int .i64 y))
      clear hk H Hno Hyes
      go_wp2
      clear r0 r1 f0 f1 rl z0 z1 zl
      have HR4 := HR2.out.set2 (b0 := .int .i64 x) (b1 := .int .i64 y)
      have k0 := HR4.cell 0
      have k1 := HR4.cell 1
      simp at k0 k1
      exact bodyPost_ret (v := .tuple #[.agg #[.int .i64 x, .int .i64 y], .bool true]) (by simp [results, Tryz.results61, go_sem, k0, k1]) rfl ⟨rfl, hBB.out⟩
  · rw [sgD_pos hneg] at Hyes Hno
    obtain ⟨g, hg⟩ : ∃ g, gcdI n d = g := ⟨_, rfl⟩
    rw [hg] at hgp hgl hg0 Hyes Hno
    have hgu : g ≤ 4000000000000000000 := by have := Hd.out; omega
    obtain ⟨X, hX⟩ : ∃ X, n.tdiv g = X := ⟨_, rfl⟩
    obtain ⟨Y, hY⟩ : ∃ Y, d.tdiv g = Y := ⟨_, rfl⟩
    obtain ⟨x1, x2⟩ := hx g; obtain ⟨y1, y2⟩ := hy g
    rw [hX] at x1 x2; rw [hY] at y1 y2
    rw [hX, hY] at Hyes Hno
    clear hx hy hn hd
    have hw1 : IntKind.i64.wrap X = X := by rw [IntKind.wrap_i64]; omega
    have hw2 : IntKind.i64.wrap Y = Y := by rw [IntKind.wrap_i64]; omega
    have Hg := Lib.hid hg; clear hg
    have hng : ¬ g = 0 := by omega
    have H := Lib.hid h; clear h
    have HR0 := Lib.hid (Blk.new w 42 #[.int .i64 0, .int .i64 0])
    go_enter Tryz.func61, Tryz.ntmps61
    have Ga := Lib.hid (show gcdI (max n (-n)) (max d (-d)) = g by rw [gcdI_absL, gcdI_absR]; exact Hg.out)
    go_wp2_with (first | (go_at_call 123; refine (l1AbsB_any _ _ (by first | exact Hn.out | exact Hd.out)).mono ?_; rintro e w1 ⟨rfl, rfl⟩) | (go_at_call 122; refine (bgCommonB_any _ _ _ (by have := Hn.out; omega) (by have := Hd.out; omega)).mono ?_; rw [Ga.out]; rintro e w1 ⟨rfl, hb0⟩))
    have hb1 : Below (w.alloc (Obj.cells #[.int .i64 0, .int .i64 0] 42)).heap.size (w.alloc (Obj.cells #[.int .i64 0, .int .i64 0] 42)) w1 := by rw [hb0]; exact Below.refl _ _
    clear hb0
    have HB1 := Lib.hid (bthen (bal (Below.refl w.heap.size w) (Obj.cells #[.int .i64 0, .int .i64 0] 42)) hb1)
    have HR1 := Lib.hid (HR0.out.on hb1); have hs1 := hb1.size
    clear HR0 hb1
    rw [World.size_alloc] at hs1
    go_region
    go_wp2_with fail
    refine (frGood_any _ _ _).mono ?_; rintro e w2 ⟨rfl, hb2⟩
    have HB2 := Lib.hid (bthen (Below.drew (bal HB1.out (Obj.cells #[.int .i64 X, .int .i64 Y] 42))) hb2)
    have HR2 := Lib.hid ((HR1.out.alloc (Obj.cells #[.int .i64 X, .int .i64 Y] 42)).drew.on hb2)
    have HF2 := Lib.hid ((Blk.new w1 42 #[.int .i64 X, .int .i64 Y]).drew.on hb2)
    clear HR1 hb2
    have r0 : w2.cell? ⟨w.heap.size, 0, none⟩ = some (.int .i64 0) := HR2.out.cell 0
    have r1 : w2.cell? ⟨w.heap.size, 1, none⟩ = some (.int .i64 0) := HR2.out.cell 1
    have rl := HR2.out.lt
    have f0 := HR2.out.frozen 0
    have f1 := HR2.out.frozen 1
    have z0 : w2.cell? ⟨w1.heap.size, 0, none⟩ = some (.int .i64 X) := HF2.out.cell 0
    have z1 : w2.cell? ⟨w1.heap.size, 1, none⟩ = some (.int .i64 Y) := HF2.out.cell 1
    have zl := HF2.out.lt
    cases hk : frB 1000000000 X Y
    · obtain ⟨rfl, rfl, rfl⟩ : x = 0 ∧ y = 0 ∧ b = false := by have h9 := H.out; rw [Hno.out hk] at h9; exact h9
      have hBB := Lib.hid (bst (bst HB2.out (p := ⟨w.heap.size, 0, none⟩) (by simp) (.int .i64 0)) (p := ⟨w.heap.size, 1, none⟩) (by simp) (.int .i64 0))
      clear hk H Hno Hyes
      go_wp2
      clear r0 r1 f0 f1 rl z0 z1 zl
      have HR4 := HR2.out.set2 (b0 := .int .i64 0) (b1 := .int .i64 0)
      have k0 := HR4.cell 0
      have k1 := HR4.cell 1
      simp at k0 k1
      exact bodyPost_ret (v := .tuple #[.agg #[.int .i64 0, .int .i64 0], .bool false]) (by simp [results, Tryz.results61, go_sem, k0, k1]) rfl ⟨rfl, hBB.out⟩
    · obtain ⟨rfl, rfl, rfl⟩ : x = X ∧ y = Y ∧ b = true := by have h9 := H.out; rw [Hyes.out hk] at h9; exact h9
      have hBB := Lib.hid (bst (bst HB2.out (p := ⟨w.heap.size, 0, none⟩) (by simp) (.int .i64 x)) (p := ⟨w.heap.size, 1, none⟩) (by simp) (.int .i64 y))
      clear hk H Hno Hyes
      go_wp2
      clear r0 r1 f0 f1 rl z0 z1 zl
      have HR4 := HR2.out.set2 (b0 := .int .i64 x) (b1 := .int .i64 y)
      have k0 := HR4.cell 0
      have k1 := HR4.cell 1
      simp at k0 k1
      exact bodyPost_ret (v := .tuple #[.agg #[.int .i64 x, .int .i64 y], .bool true]) (by simp [results, Tryz.results61, go_sem, k0, k1]) rfl ⟨rfl, hBB.out⟩
end
end Go.Proofs.YtacehhcpfollnaaGreat
