/- The plain law of neighbours by isogenies: roots, smallest models, neighbours, the list of all of them, the pairs of a list. Conditions: none. -/
import Derived.Test.YtnhgdmhiblpknaaShapes
namespace Go.Proofs.Ytnhgdmhiblpknaa
open Go Go.RowKit

/-! ### Roots -/
def evZ (a b x : Int) : Int := x * x * x + a * x + b
def rootsF (a b lo : Int) (n : Nat) : List Int := ((List.range n).map (fun k : Nat => lo + (k : Int))).filter (fun x => evZ a b x == 0)
def rootsV (a b : Int) : List Int := rootsF a b (-100) 201
theorem rootsF_zero (a b lo : Int) : rootsF a b lo 0 = [] := rfl
theorem rootsF_succ (a b lo : Int) (n : Nat) : rootsF a b lo (n + 1) = rootsF a b lo n ++ (if evZ a b (lo + n) = 0 then [lo + (n : Int)] else []) := by
  unfold rootsF
  rw [List.range_succ, List.map_append, List.filter_append]
  congr 1
  simp only [List.map_cons, List.map_nil, List.filter_cons, List.filter_nil, beq_iff_eq]
theorem rootsF_yes {a b lo : Int} {n : Nat} (h : evZ a b (lo + n) = 0) : rootsF a b lo (n + 1) = rootsF a b lo n ++ [lo + (n : Int)] := by rw [rootsF_succ, if_pos h]
theorem rootsF_no {a b lo : Int} {n : Nat} (h : evZ a b (lo + n) ≠ 0) : rootsF a b lo (n + 1) = rootsF a b lo n := by rw [rootsF_succ, if_neg h, List.append_nil]
theorem rootsF_add (a b lo : Int) (m : Nat) : ∀ n, rootsF a b lo (m + n) = rootsF a b lo m ++ rootsF a b (lo + m) n
  | 0 => by rw [rootsF_zero, List.append_nil]; rfl
  | n + 1 => by
    rw [show m + (n + 1) = (m + n) + 1 from rfl, rootsF_succ, rootsF_succ, rootsF_add a b lo m n, List.append_assoc, Int.natCast_add, Int.add_assoc]
theorem rootsF_none (a b lo : Int) : ∀ n, (∀ k : Nat, k < n → evZ a b (lo + k) ≠ 0) → rootsF a b lo n = []
  | 0, _ => rfl
  | n + 1, h => by
    rw [rootsF_no (h n (by omega))]
    exact rootsF_none a b lo n (fun k hk => h k (by omega))
theorem rootsF_len (a b lo : Int) (n : Nat) : (rootsF a b lo n).length ≤ n := by
  unfold rootsF
  refine Nat.le_trans (List.length_filter_le _ _) ?_
  simp
theorem rootsF_mem {a b lo x : Int} {n : Nat} : x ∈ rootsF a b lo n ↔ (lo ≤ x ∧ x < lo + n) ∧ evZ a b x = 0 := by
  unfold rootsF
  rw [List.mem_filter]
  simp only [List.mem_map, List.mem_range, beq_iff_eq]
  constructor
  · rintro ⟨⟨k, hk, rfl⟩, h⟩
    exact ⟨⟨by omega, by omega⟩, h⟩
  · rintro ⟨⟨h1, h2⟩, h⟩
    exact ⟨⟨(x - lo).toNat, by omega, by omega⟩, h⟩
theorem ev_far {a b x : Int} (h : curveB a b = true) (hx : x < -100 ∨ 100 < x) : evZ a b x ≠ 0 := by
  obtain ⟨⟨ha1, ha2⟩, hb1, hb2⟩ := curveB_bd h
  unfold evZ
  rcases hx with hx | hx
  · have h0 : 101 * 101 ≤ (-x) * (-x) := Int.mul_le_mul (by omega) (by omega) (by omega) (by omega)
    rw [Int.neg_mul_neg] at h0
    have h1 : 0 ≤ (x * x - 10201) * (-x) := Int.mul_nonneg (by omega) (by omega)
    have h2 : 0 ≤ (a + 1000) * (-x) := Int.mul_nonneg (by omega) (by omega)
    simp only [Int.sub_mul, Int.add_mul, Int.mul_neg] at h1 h2
    omega
  · have h0 : 101 * 101 ≤ x * x := Int.mul_le_mul (by omega) (by omega) (by omega) (by omega)
    have h1 : 0 ≤ (x * x - 10201) * x := Int.mul_nonneg (by omega) (by omega)
    have h2 : 0 ≤ (a + 1000) * x := Int.mul_nonneg (by omega) (by omega)
    simp only [Int.sub_mul, Int.add_mul] at h1 h2
    omega
theorem roots_wide {a b : Int} (h : curveB a b = true) : rootsF a b (-200) 401 = rootsV a b := by
  have e1 : rootsF a b (-200) 401 = rootsF a b (-200) 100 ++ (rootsF a b (-100) 201 ++ rootsF a b 101 100) := by
    rw [show (401 : Nat) = 100 + (201 + 100) from rfl, rootsF_add, rootsF_add]; rfl
  rw [e1, rootsF_none a b (-200) 100 (fun k hk => ev_far h (by omega)), rootsF_none a b 101 100 (fun k hk => ev_far h (by omega))]
  simp [rootsV]
theorem roots_mem {a b x : Int} (h : curveB a b = true) : x ∈ rootsV a b ↔ evZ a b x = 0 := by
  unfold rootsV
  rw [rootsF_mem]
  refine ⟨fun h2 => h2.2, fun h2 => ⟨?_, h2⟩⟩
  refine ⟨?_, ?_⟩
  · rcases Int.lt_or_le x (-100) with h3 | h3
    · exact absurd h2 (ev_far h (.inl h3))
    · exact h3
  · rcases Int.lt_or_le 100 x with h3 | h3
    · exact absurd h2 (ev_far h (.inr h3))
    · omega
theorem root_bd {a b e : Int} (h : e ∈ rootsV a b) : -100 ≤ e ∧ e ≤ 100 := by
  unfold rootsV at h
  rw [rootsF_mem] at h
  omega
theorem root_ev {a b e : Int} (h : e ∈ rootsV a b) : evZ a b e = 0 := by
  unfold rootsV at h
  rw [rootsF_mem] at h
  exact h.2

/-! ### Division by u^4 and u^6 -/
def p4 (u : Int) : Int := u * u * u * u
def p6 (u : Int) : Int := u * u * u * u * u * u
def dvU (a b u : Int) : Bool := decide (p4 u ∣ a ∧ p6 u ∣ b)
def smU (a b : Int) : Int := if dvU a b 5 then 5 else if dvU a b 4 then 4 else if dvU a b 3 then 3 else if dvU a b 2 then 2 else 1
def smC (a b : Int) : Cu := ⟨a / p4 (smU a b), b / p6 (smU a b)⟩
theorem dvd_small {q a : Int} (h : q ∣ a) (hb : -q < a ∧ a < q) : a = 0 := by
  obtain ⟨k, rfl⟩ := h
  rcases Int.lt_trichotomy k 0 with hk | rfl | hk
  · have h1 : 0 ≤ q * (-1 - k) := Int.mul_nonneg (by omega) (by omega)
    simp only [Int.mul_sub, Int.mul_neg, Int.mul_one] at h1; omega
  · exact Int.mul_zero _
  · have h1 : 0 ≤ q * (k - 1) := Int.mul_nonneg (by omega) (by omega)
    simp only [Int.mul_sub, Int.mul_one] at h1; omega
theorem curveB_core {a b : Int} (h : curveB a b = true) : coreI a b ≠ 0 := by
  unfold curveB at h
  simp only [Bool.and_eq_true, bne_iff_ne, ne_eq] at h
  exact h.2.2
theorem curveB_mk {a b : Int} (h1 : -1000 ≤ a ∧ a ≤ 1000) (h2 : -10000 ≤ b ∧ b ≤ 10000) (h3 : coreI a b ≠ 0) : curveB a b = true := by
  unfold curveB
  rw [insB_mk h1.1 h1.2, insB_mk h2.1 h2.2]
  simpa using h3
theorem curveB_nz {a b : Int} (h : curveB a b = true) : ¬ (a = 0 ∧ b = 0) := by
  rintro ⟨rfl, rfl⟩
  exact curveB_core h (by rfl)
theorem dvU_big {a b u : Int} (h : curveB a b = true) (hu : 6 ≤ u) : dvU a b u = false := by
  obtain ⟨⟨ha1, ha2⟩, hb1, hb2⟩ := curveB_bd h
  unfold dvU
  rw [decide_eq_false_iff_not]
  rintro ⟨h4, h6⟩
  have e2 : 6 * 6 ≤ u * u := Int.mul_le_mul hu hu (by omega) (by omega)
  have e3 : 36 * 6 ≤ u * u * u := Int.mul_le_mul e2 hu (by omega) (by omega)
  have e4 : 216 * 6 ≤ u * u * u * u := Int.mul_le_mul e3 hu (by omega) (by omega)
  have e5 : 1296 * 6 ≤ u * u * u * u * u := Int.mul_le_mul e4 hu (by omega) (by omega)
  have e6 : 7776 * 6 ≤ u * u * u * u * u * u := Int.mul_le_mul e5 hu (by omega) (by omega)
  refine curveB_nz h ⟨dvd_small h4 ?_, dvd_small h6 ?_⟩
  · unfold p4; omega
  · unfold p6; omega
theorem dvU_one (a b : Int) : dvU a b 1 = true := by
  unfold dvU p4 p6
  exact decide_eq_true ⟨⟨a, by omega⟩, ⟨b, by omega⟩⟩
theorem smU_cases (a b : Int) : (smU a b = 1 ∧ dvU a b 2 = false ∧ dvU a b 3 = false ∧ dvU a b 4 = false ∧ dvU a b 5 = false) ∨ (smU a b = 2 ∧ dvU a b 2 = true ∧ dvU a b 3 = false ∧ dvU a b 4 = false ∧ dvU a b 5 = false) ∨
    (smU a b = 3 ∧ dvU a b 3 = true ∧ dvU a b 4 = false ∧ dvU a b 5 = false) ∨ (smU a b = 4 ∧ dvU a b 4 = true ∧ dvU a b 5 = false) ∨ (smU a b = 5 ∧ dvU a b 5 = true) := by
  unfold smU
  cases dvU a b 5 <;> cases dvU a b 4 <;> cases dvU a b 3 <;> cases dvU a b 2 <;> simp
/-- The greatest u that divides is the one. -/
theorem smU_max {a b u : Int} (h : curveB a b = true) (hd : dvU a b u = true) (hu : 1 ≤ u) (hm : ∀ v, u < v → v ≤ 10 → dvU a b v = false) (h10 : u ≤ 10) : smU a b = u := by
  have h5 : u ≤ 5 := by
    rcases Int.lt_or_le 5 u with h1 | h1
    · rw [dvU_big h (by omega)] at hd; cases hd
    · exact h1
  have hz : u = 1 ∨ u = 2 ∨ u = 3 ∨ u = 4 ∨ u = 5 := by omega
  unfold smU
  rcases hz with rfl | rfl | rfl | rfl | rfl
  · simp [hm 5 (by omega) (by omega), hm 4 (by omega) (by omega), hm 3 (by omega) (by omega), hm 2 (by omega) (by omega)]
  · simp [hm 5 (by omega) (by omega), hm 4 (by omega) (by omega), hm 3 (by omega) (by omega), hd]
  · simp [hm 5 (by omega) (by omega), hm 4 (by omega) (by omega), hd]
  · simp [hm 5 (by omega) (by omega), hd]
  · simp [hd]
/-- What the reference's loop has found before u. -/
def smB (a b : Int) : Nat → Int
  | 0 => 1
  | n + 1 => if dvU a b ((n : Int) + 2) then (n : Int) + 2 else smB a b n
theorem smB_all (a b : Int) : smB a b 4 = smU a b := by
  unfold smB smB smB smB smB smU
  simp only [show ((3 : Nat) : Int) + 2 = 5 from rfl, show ((2 : Nat) : Int) + 2 = 4 from rfl, show ((1 : Nat) : Int) + 2 = 3 from rfl, show ((0 : Nat) : Int) + 2 = 2 from rfl]
theorem smB_bd (a b : Int) : ∀ n, 1 ≤ smB a b n ∧ smB a b n ≤ (n : Int) + 1
  | 0 => by unfold smB; omega
  | n + 1 => by
    have := smB_bd a b n
    unfold smB
    split <;> omega
theorem smU_dv (a b : Int) : dvU a b (smU a b) = true := by
  rcases smU_cases a b with h | h | h | h | h
  · rw [h.1]; exact dvU_one a b
  · rw [h.1]; exact h.2.1
  · rw [h.1]; exact h.2.1
  · rw [h.1]; exact h.2.1
  · rw [h.1]; exact h.2
theorem smU_bd (a b : Int) : 1 ≤ smU a b ∧ smU a b ≤ 5 := by
  rcases smU_cases a b with h | h | h | h | h <;> (rw [h.1]; omega)
theorem dvd_div {q a : Int} (h : q ∣ a) : q * (a / q) = a := Int.mul_ediv_cancel' h
/-! ### Neighbours -/
def nbT (a e : Int) : Int := 3 * e * e + a
def rawA (a e : Int) : Int := a - 5 * nbT a e
def rawB (a b e : Int) : Int := b - 7 * e * nbT a e
theorem natAbs_div {q a : Int} (hq : 16 ≤ q) (h : q ∣ a) : (a / q).natAbs ≤ a.natAbs ∧ (a ≠ 0 → (a / q).natAbs < a.natAbs) := by
  obtain ⟨k, rfl⟩ := h
  rw [Int.mul_ediv_cancel_left _ (by omega), Int.natAbs_mul]
  have h1 : 16 ≤ q.natAbs := by omega
  constructor
  · exact Nat.le_trans (by omega) (Nat.mul_le_mul_right k.natAbs h1)
  · intro h2
    have h3 : k.natAbs ≠ 0 := by
      intro h3
      rw [Int.natAbs_eq_zero] at h3
      subst h3; exact h2 (Int.mul_zero _)
    exact Nat.lt_of_lt_of_le (by omega) (Nat.mul_le_mul_right k.natAbs h1)
theorem p4_ge {r : Int} (h : 2 ≤ r) : 16 ≤ p4 r := by
  have e2 : 2 * 2 ≤ r * r := Int.mul_le_mul h h (by omega) (by omega)
  have e3 : 4 * 2 ≤ r * r * r := Int.mul_le_mul e2 h (by omega) (by omega)
  exact Int.mul_le_mul e3 h (by omega) (by omega)
theorem p6_ge {r : Int} (h : 2 ≤ r) : 16 ≤ p6 r := by
  have e4 := p4_ge h
  unfold p4 at e4
  have e5 : 16 * 2 ≤ r * r * r * r * r := Int.mul_le_mul e4 h (by omega) (by omega)
  have e6 : 32 * 2 ≤ r * r * r * r * r * r := Int.mul_le_mul e5 h (by omega) (by omega)
  unfold p6; omega
theorem red_dec {r a b : Int} (h : 2 ≤ r ∧ ¬ (a = 0 ∧ b = 0) ∧ p4 r ∣ a ∧ p6 r ∣ b) : (a / p4 r).natAbs + (b / p6 r).natAbs < a.natAbs + b.natAbs := by
  obtain ⟨h1, h2, h3, h4⟩ := h
  have h5 := natAbs_div (p4_ge h1) h3
  have h6 := natAbs_div (p6_ge h1) h4
  by_cases ha : a = 0
  · have := h6.2 (fun hb => h2 ⟨ha, hb⟩); omega
  · have := h5.2 ha; omega
/-- Divided by r^4 and r^6 as often as that goes. -/
def red (r a b : Int) : Int × Int :=
  if _h : 2 ≤ r ∧ ¬ (a = 0 ∧ b = 0) ∧ p4 r ∣ a ∧ p6 r ∣ b then red r (a / p4 r) (b / p6 r) else (a, b)
termination_by a.natAbs + b.natAbs
decreasing_by exact red_dec _h
theorem red_step {r a b : Int} (h : 2 ≤ r ∧ ¬ (a = 0 ∧ b = 0) ∧ p4 r ∣ a ∧ p6 r ∣ b) : red r a b = red r (a / p4 r) (b / p6 r) := by
  rw [red, dif_pos h]
theorem red_end {r a b : Int} (h : ¬ (2 ≤ r ∧ ¬ (a = 0 ∧ b = 0) ∧ p4 r ∣ a ∧ p6 r ∣ b)) : red r a b = (a, b) := by
  rw [red, dif_neg h]
theorem div_nz {r a b : Int} (h : 2 ≤ r ∧ ¬ (a = 0 ∧ b = 0) ∧ p4 r ∣ a ∧ p6 r ∣ b) : ¬ (a / p4 r = 0 ∧ b / p6 r = 0) := by
  rintro ⟨h1, h2⟩
  refine h.2.1 ⟨?_, ?_⟩
  · rw [← dvd_div h.2.2.1, h1, Int.mul_zero]
  · rw [← dvd_div h.2.2.2, h2, Int.mul_zero]
theorem p4_mul (r s : Int) : p4 (r * s) = p4 r * p4 s := by unfold p4; simp only [Int.mul_comm, Int.mul_left_comm]
theorem p6_mul (r s : Int) : p6 (r * s) = p6 r * p6 s := by unfold p6; simp only [Int.mul_comm, Int.mul_left_comm]
/-- By how much it was divided. -/
theorem red_scale (r : Int) (hr : 2 ≤ r) : ∀ (n : Nat) (a b : Int), a.natAbs + b.natAbs ≤ n → ∃ k : Nat, a = p4 (r ^ k) * (red r a b).1 ∧ b = p6 (r ^ k) * (red r a b).2
  | 0, a, b, h => by
    have ha : a = 0 := by omega
    have hb : b = 0 := by omega
    subst ha; subst hb
    refine ⟨0, ?_, ?_⟩ <;> (rw [red_end (fun h => h.2.1 ⟨rfl, rfl⟩)]; simp)
  | n + 1, a, b, h => by
    by_cases hc : 2 ≤ r ∧ ¬ (a = 0 ∧ b = 0) ∧ p4 r ∣ a ∧ p6 r ∣ b
    · obtain ⟨k, h1, h2⟩ := red_scale r hr n (a / p4 r) (b / p6 r) (by have := red_dec hc; omega)
      refine ⟨k + 1, ?_, ?_⟩
      · rw [red_step hc, Int.pow_succ, p4_mul, Int.mul_comm (p4 (r ^ k)), Int.mul_assoc, ← h1, dvd_div hc.2.2.1]
      · rw [red_step hc, Int.pow_succ, p6_mul, Int.mul_comm (p6 (r ^ k)), Int.mul_assoc, ← h2, dvd_div hc.2.2.2]
    · refine ⟨0, ?_, ?_⟩ <;> (rw [red_end hc]; simp [p4, p6])
theorem red_nz (r : Int) (hr : 2 ≤ r) {a b : Int} (hz : ¬ (a = 0 ∧ b = 0)) : ¬ ((red r a b).1 = 0 ∧ (red r a b).2 = 0) := by
  obtain ⟨k, h1, h2⟩ := red_scale r hr _ a b (Nat.le_refl _)
  rintro ⟨h3, h4⟩
  exact hz ⟨by rw [h1, h3, Int.mul_zero], by rw [h2, h4, Int.mul_zero]⟩
theorem red_done (r : Int) (hr : 2 ≤ r) : ∀ (n : Nat) (a b : Int), a.natAbs + b.natAbs ≤ n → ¬ (a = 0 ∧ b = 0) → ¬ (p4 r ∣ (red r a b).1 ∧ p6 r ∣ (red r a b).2)
  | 0, a, b, h, hz => absurd ⟨by omega, by omega⟩ hz
  | n + 1, a, b, h, hz => by
    by_cases hc : 2 ≤ r ∧ ¬ (a = 0 ∧ b = 0) ∧ p4 r ∣ a ∧ p6 r ∣ b
    · rw [red_step hc]
      exact red_done r hr n _ _ (by have := red_dec hc; omega) (div_nz hc)
    · rw [red_end hc]
      exact fun h2 => hc ⟨hr, hz, h2⟩
theorem red_keep {q r a b : Int} (hr : 2 ≤ r) (h : ¬ (p4 q ∣ a ∧ p6 q ∣ b)) : ¬ (p4 q ∣ (red r a b).1 ∧ p6 q ∣ (red r a b).2) := by
  obtain ⟨k, h1, h2⟩ := red_scale r hr _ a b (Nat.le_refl _)
  rintro ⟨h3, h4⟩
  exact h ⟨by rw [h1]; exact Int.dvd_trans h3 ⟨p4 (r ^ k), Int.mul_comm _ _⟩, by rw [h2]; exact Int.dvd_trans h4 ⟨p6 (r ^ k), Int.mul_comm _ _⟩⟩
/-- What 2 does not divide any more, 4 does not. -/
theorem red_four {a b : Int} (h : ¬ (p4 2 ∣ a ∧ p6 2 ∣ b)) : red 4 a b = (a, b) := by
  refine red_end (fun h2 => h ⟨Int.dvd_trans ?_ h2.2.2.1, Int.dvd_trans ?_ h2.2.2.2⟩)
  · exact ⟨16, rfl⟩
  · exact ⟨64, rfl⟩
theorem raw_nz {a b e : Int} (h : curveB a b = true) (he : evZ a b e = 0) : ¬ (rawA a e = 0 ∧ rawB a b e = 0) := by
  rintro ⟨h1, h2⟩
  unfold rawA nbT at h1
  unfold rawB nbT at h2
  unfold evZ at he
  obtain ⟨q, hq⟩ : ∃ q, e * e = q := ⟨_, rfl⟩
  obtain ⟨c, hc⟩ : ∃ c, e * q = c := ⟨_, rfl⟩
  have ht : 3 * e * e + a = 3 * q + a := by rw [Int.mul_assoc, hq]
  rw [ht] at h1 h2
  rw [Int.mul_assoc, hq, hc] at he
  have e1 : 4 * (a * e) = -15 * c := by
    have : 4 * a = -15 * q := by omega
    have h3 : 4 * (a * e) = (4 * a) * e := (Int.mul_assoc _ _ _).symm
    rw [h3, this, Int.mul_assoc, Int.mul_comm q e, hc]
  have e2 : 4 * b = -21 * c := by
    have h3 : 4 * (7 * e * (3 * q + a)) = 7 * (e * (4 * (3 * q + a))) := by simp only [Int.mul_assoc, Int.mul_left_comm]
    have h4 : 4 * (3 * q + a) = -3 * q := by omega
    rw [h4] at h3
    have h5 : e * (-3 * q) = -3 * c := by rw [← hc]; simp only [Int.mul_left_comm]
    rw [h5] at h3
    omega
  have hc0 : c = 0 := by omega
  have he0 : e = 0 := by
    rcases Int.lt_trichotomy e 0 with h3 | h3 | h3
    · have hq0 : 0 < q := by rw [← hq]; exact Int.mul_pos_of_neg_of_neg h3 h3
      have := Int.mul_neg_of_neg_of_pos h3 hq0
      omega
    · exact h3
    · have hq0 : 0 < q := by rw [← hq]; exact Int.mul_pos h3 h3
      have := Int.mul_pos h3 hq0
      omega
  subst he0
  refine curveB_nz h ⟨?_, by omega⟩
  have : q = 0 := by rw [← hq]; rfl
  omega
theorem nbT_bd {a e : Int} (ha : -1000 ≤ a ∧ a ≤ 1000) (he : -100 ≤ e ∧ e ≤ 100) : -1000 ≤ nbT a e ∧ nbT a e ≤ 31000 := by
  have h1 := mul_bd e e 100 100 he.1 he.2 he.1 he.2
  have h2 : 0 ≤ e * e := by
    rcases Int.le_total 0 e with h | h
    · exact Int.mul_nonneg h h
    · exact Int.mul_nonneg_of_nonpos_of_nonpos h h
  unfold nbT
  rw [Int.mul_assoc]
  omega
theorem raw_bd {a b e : Int} (ha : -1000 ≤ a ∧ a ≤ 1000) (hb : -10000 ≤ b ∧ b ≤ 10000) (he : -100 ≤ e ∧ e ≤ 100) : (-156000 ≤ rawA a e ∧ rawA a e ≤ 6000) ∧ (-21710000 ≤ rawB a b e ∧ rawB a b e ≤ 21710000) := by
  have h1 := nbT_bd ha he
  have h2 := mul_bd (7 * e) (nbT a e) 700 31000 (by omega) (by omega) (by omega) (by omega)
  unfold rawA rawB
  omega
def nbR (a b e : Int) : Int × Int :=
  red 5 (red 3 (red 2 (rawA a e) (rawB a b e)).1 (red 2 (rawA a e) (rawB a b e)).2).1 (red 3 (red 2 (rawA a e) (rawB a b e)).1 (red 2 (rawA a e) (rawB a b e)).2).2
/-- The reference divides by 4, too: that does nothing. -/
theorem nbR_four {a b e : Int} (h : curveB a b = true) (he : evZ a b e = 0) :
    red 4 (red 3 (red 2 (rawA a e) (rawB a b e)).1 (red 2 (rawA a e) (rawB a b e)).2).1 (red 3 (red 2 (rawA a e) (rawB a b e)).1 (red 2 (rawA a e) (rawB a b e)).2).2 = red 3 (red 2 (rawA a e) (rawB a b e)).1 (red 2 (rawA a e) (rawB a b e)).2 :=
  red_four (red_keep (by omega) (red_done 2 (by omega) _ _ _ (Nat.le_refl _) (raw_nz h he)))
/-- The neighbour at e, if it is valid. -/
def nbV (a b e : Int) : Option Cu := if curveB (nbR a b e).1 (nbR a b e).2 = true then some ⟨(nbR a b e).1, (nbR a b e).2⟩ else none
theorem nbV_good {a b e : Int} {d : Cu} (h : nbV a b e = some d) : curveB d.a d.b = true ∧ nbR a b e = (d.a, d.b) := by
  unfold nbV at h
  split at h
  · rename_i hc; cases h; exact ⟨hc, rfl⟩
  · cases h
/-- A division does not make numbers greater. -/
theorem red_bd {r : Int} (hr : 2 ≤ r) (a b : Int) : (red r a b).1.natAbs ≤ a.natAbs ∧ (red r a b).2.natAbs ≤ b.natAbs := by
  obtain ⟨k, h1, h2⟩ := red_scale r hr _ a b (Nat.le_refl _)
  have key : ∀ {p x y : Int}, p ≠ 0 → x = p * y → y.natAbs ≤ x.natAbs := by
    intro p x y hp h
    rw [h, Int.natAbs_mul]
    exact Nat.le_mul_of_pos_left _ (by omega)
  have hp : r ^ k ≠ 0 := Int.ne_of_gt (Int.pow_pos (by omega))
  refine ⟨key ?_ h1, key ?_ h2⟩
  · unfold p4; exact Int.mul_ne_zero (Int.mul_ne_zero (Int.mul_ne_zero hp hp) hp) hp
  · unfold p6; exact Int.mul_ne_zero (Int.mul_ne_zero (Int.mul_ne_zero (Int.mul_ne_zero (Int.mul_ne_zero hp hp) hp) hp) hp) hp

/-! ### All neighbours -/
def nbsF (a b : Int) : List Int → Option (List Cu)
  | [] => some []
  | e :: es => match nbV a b e with
    | none => none
    | some d => match nbsF a b es with
      | none => none
      | some l => some (d :: l)
theorem nbsF_snoc (a b e : Int) : ∀ es, nbsF a b (es ++ [e]) = match nbsF a b es with | none => none | some l => (match nbV a b e with | none => none | some d => some (l ++ [d]))
  | [] => by
    simp only [List.nil_append, nbsF]
  | x :: es => by
    have ih := nbsF_snoc a b e es
    simp only [List.cons_append, nbsF]
    rw [ih]
    cases nbV a b x <;> cases nbsF a b es <;> cases nbV a b e <;> rfl
theorem nbsF_app_no {a b : Int} {es : List Int} (fs : List Int) (h : nbsF a b es = none) : nbsF a b (es ++ fs) = none := by
  induction es with
  | nil => cases h
  | cons x es ih =>
    simp only [List.cons_append, nbsF] at h ⊢
    cases hx : nbV a b x with
    | none => rfl
    | some d =>
      rw [hx] at h
      cases hn : nbsF a b es with
      | none => rw [ih hn]
      | some l => rw [hn] at h; cases h
theorem nbsF_take {a b : Int} {es : List Int} {k : Nat} (hk : k < es.length) : nbsF a b (es.take (k + 1)) = match nbsF a b (es.take k) with | none => none | some l => (match nbV a b es[k] with | none => none | some d => some (l ++ [d])) := by
  rw [List.take_succ_eq_append_getElem hk, nbsF_snoc]
theorem nbsF_no {a b : Int} {es : List Int} {k : Nat} (hk : k < es.length) (h : nbV a b es[k] = none) : nbsF a b es = none := by
  rw [← List.take_append_drop (k + 1) es]
  refine nbsF_app_no _ ?_
  rw [nbsF_take hk, h]
  cases nbsF a b (es.take k) <;> rfl
theorem nbsF_mem {a b : Int} : ∀ {es : List Int} {l : List Cu}, nbsF a b es = some l → ∀ d, d ∈ l ↔ ∃ e ∈ es, nbV a b e = some d
  | [], l, h, d => by cases h; simp
  | e :: es, l, h, d => by
    unfold nbsF at h
    cases hx : nbV a b e with
    | none => rw [hx] at h; cases h
    | some x =>
      rw [hx] at h
      cases hn : nbsF a b es with
      | none => rw [hn] at h; cases h
      | some m =>
        rw [hn] at h
        cases h
        rw [List.mem_cons, nbsF_mem hn d]
        constructor
        · rintro (rfl | ⟨y, hy, h2⟩)
          · exact ⟨e, List.mem_cons_self, hx⟩
          · exact ⟨y, List.mem_cons_of_mem _ hy, h2⟩
        · rintro ⟨y, hy, h2⟩
          rcases List.mem_cons.1 hy with rfl | hy
          · rw [hx] at h2; cases h2; exact .inl rfl
          · exact .inr ⟨y, hy, h2⟩
theorem nbsF_len {a b : Int} : ∀ {es : List Int} {l : List Cu}, nbsF a b es = some l → l.length = es.length
  | [], l, h => by cases h; rfl
  | e :: es, l, h => by
    unfold nbsF at h
    cases hx : nbV a b e with
    | none => rw [hx] at h; cases h
    | some x =>
      rw [hx] at h
      cases hn : nbsF a b es with
      | none => rw [hn] at h; cases h
      | some m => rw [hn] at h; cases h; rw [List.length_cons, List.length_cons, nbsF_len hn]

/-! ### Sets of curves, in order -/
def ltC (x y : Cu) : Prop := cmpC x.a x.b y.a y.b < 0
instance (x y : Cu) : Decidable (ltC x y) := inferInstanceAs (Decidable (_ < _))
theorem ltC_iff (x y : Cu) : ltC x y ↔ (x.a < y.a ∨ x.a = y.a ∧ x.b < y.b) := cmpC_lt _ _ _ _
theorem ltC_irr (x : Cu) : ¬ ltC x x := by rw [ltC_iff]; omega
theorem ltC_trans {x y z : Cu} (h : ltC x y) (k : ltC y z) : ltC x z := by rw [ltC_iff] at *; omega
theorem ltC_or {x y : Cu} (h : ¬ ltC x y) (hne : x ≠ y) : ltC y x := by
  rw [ltC_iff] at *
  have : ¬ (x.a = y.a ∧ x.b = y.b) := fun h2 => hne (by cases x; cases y; simp_all)
  omega
def putC : List Cu → Cu → List Cu
  | [], c => [c]
  | d :: l, c => if ltC d c then d :: putC l c else if d = c then d :: l else c :: d :: l
theorem putC_mem (c x : Cu) : ∀ l, x ∈ putC l c ↔ x = c ∨ x ∈ l
  | [] => by simp [putC]
  | d :: l => by
    have ih := putC_mem c x l
    unfold putC
    split
    · rw [List.mem_cons, ih, List.mem_cons]
      constructor
      · rintro (h | h | h)
        · exact .inr (.inl h)
        · exact .inl h
        · exact .inr (.inr h)
      · rintro (h | h | h)
        · exact .inr (.inl h)
        · exact .inl h
        · exact .inr (.inr h)
    · split
      · rename_i h; subst h
        rw [List.mem_cons]
        constructor
        · exact .inr
        · rintro (h | h)
          · exact .inl h
          · exact h
      · rw [List.mem_cons]
theorem putC_srt (c : Cu) : ∀ {l : List Cu}, l.Pairwise ltC → (putC l c).Pairwise ltC
  | [], _ => by simp [putC]
  | d :: l, h => by
    rw [List.pairwise_cons] at h
    unfold putC
    split
    · rename_i hd
      rw [List.pairwise_cons]
      refine ⟨fun x hx => ?_, putC_srt c h.2⟩
      rcases (putC_mem c x l).1 hx with rfl | hx
      · exact hd
      · exact h.1 x hx
    · rename_i hd
      split
      · rw [List.pairwise_cons]; exact h
      · rename_i hne
        have hc := ltC_or hd hne
        rw [List.pairwise_cons, List.pairwise_cons]
        refine ⟨fun x hx => ?_, h⟩
        rcases List.mem_cons.1 hx with rfl | hx
        · exact hc
        · exact ltC_trans hc (h.1 x hx)
def setC (l : List Cu) : List Cu := l.foldl putC []
theorem setC_snoc (l : List Cu) (c : Cu) : setC (l ++ [c]) = putC (setC l) c := by simp [setC, List.foldl_append]
theorem setC_mem (x : Cu) (l : List Cu) : x ∈ setC l ↔ x ∈ l := by
  have key : ∀ (l acc : List Cu), x ∈ l.foldl putC acc ↔ x ∈ acc ∨ x ∈ l := by
    intro l
    induction l with
    | nil => intro acc; simp
    | cons d l ih =>
      intro acc
      rw [List.foldl_cons, ih, putC_mem, List.mem_cons]
      constructor
      · rintro ((h | h) | h)
        · exact .inr (.inl h)
        · exact .inl h
        · exact .inr (.inr h)
      · rintro (h | h | h)
        · exact .inl (.inr h)
        · exact .inl (.inl h)
        · exact .inr h
  rw [setC, key]; simp
theorem setC_srt (l : List Cu) : (setC l).Pairwise ltC := by
  have key : ∀ (l acc : List Cu), acc.Pairwise ltC → (l.foldl putC acc).Pairwise ltC := by
    intro l
    induction l with
    | nil => intro acc h; exact h
    | cons d l ih => intro acc h; rw [List.foldl_cons]; exact ih _ (putC_srt d h)
  exact key l [] List.Pairwise.nil
theorem srt_uniq : ∀ {x y : List Cu}, x.Pairwise ltC → y.Pairwise ltC → (∀ c, c ∈ x ↔ c ∈ y) → x = y
  | [], [], _, _, _ => rfl
  | [], d :: y, _, _, h => absurd ((h d).2 List.mem_cons_self) (by simp)
  | d :: x, [], _, _, h => absurd ((h d).1 List.mem_cons_self) (by simp)
  | d :: x, f :: y, hx, hy, h => by
    rw [List.pairwise_cons] at hx hy
    have hdf : d = f := by
      rcases List.mem_cons.1 ((h d).1 List.mem_cons_self) with h1 | h1
      · exact h1
      · rcases List.mem_cons.1 ((h f).2 List.mem_cons_self) with h2 | h2
        · exact h2.symm
        · exact absurd (ltC_trans (hx.1 f h2) (hy.1 d h1)) (ltC_irr d)
    subst hdf
    congr 1
    refine srt_uniq hx.2 hy.2 (fun c => ?_)
    constructor
    · intro hc
      rcases List.mem_cons.1 ((h c).1 (List.mem_cons_of_mem _ hc)) with rfl | h2
      · exact absurd (hx.1 c hc) (ltC_irr c)
      · exact h2
    · intro hc
      rcases List.mem_cons.1 ((h c).2 (List.mem_cons_of_mem _ hc)) with rfl | h2
      · exact absurd (hy.1 c hc) (ltC_irr c)
      · exact h2
/-- The place that the reference's loop finds. -/
theorem putC_at (c : Cu) : ∀ (l : List Cu) (k : Nat), k ≤ l.length → (∀ j, j < k → ltC (cuS.get l j) c) → (k < l.length → ¬ ltC (cuS.get l k) c) → putC l c = if k < l.length ∧ cuS.get l k = c then l else l.take k ++ c :: l.drop k
  | [], k, hk, _, _ => by
    obtain rfl : k = 0 := by simpa using hk
    rfl
  | d :: l, 0, _, _, h => by
    have h1 : ¬ ltC d c := h (by simp)
    unfold putC
    rw [if_neg h1]
    by_cases hd : d = c
    · rw [if_pos hd, if_pos ⟨by simp, hd⟩]
    · rw [if_neg hd, if_neg (fun h2 => hd h2.2)]; rfl
  | d :: l, k + 1, hk, h1, h2 => by
    have hd : ltC d c := h1 0 (by omega)
    have ih := putC_at c l k (by simpa using hk) (fun j hj => h1 (j + 1) (by omega)) (fun hl => h2 (by simpa using hl))
    unfold putC
    rw [if_pos hd, ih]
    have hg : cuS.get (d :: l) (k + 1) = cuS.get l k := rfl
    by_cases hc : k < l.length ∧ cuS.get l k = c
    · rw [if_pos hc, if_pos ⟨by simpa using hc.1, hc.2⟩]
    · rw [if_neg hc, if_neg (fun h3 => hc ⟨by simpa using h3.1, h3.2⟩)]; rfl
theorem putC_len (l : List Cu) (c : Cu) : (putC l c).length ≤ l.length + 1 := by
  induction l with
  | nil => simp [putC]
  | cons d l ih =>
    unfold putC
    split
    · simp; omega
    · split <;> simp
theorem setC_len (l : List Cu) : (setC l).length ≤ l.length := by
  have key : ∀ (l acc : List Cu), (l.foldl putC acc).length ≤ acc.length + l.length := by
    intro l
    induction l with
    | nil => intro acc; simp
    | cons d l ih => intro acc; rw [List.foldl_cons, List.length_cons]; have := ih (putC acc d); have := putC_len acc d; omega
  have := key l []
  simpa [setC] using this
/-- What slices.Compact leaves. -/
def cptC : List Cu → List Cu
  | [] => []
  | x :: l => match cptC l with
    | [] => [x]
    | y :: m => if x = y then y :: m else x :: y :: m
theorem cptC_mem (c : Cu) : ∀ l, c ∈ cptC l ↔ c ∈ l
  | [] => Iff.rfl
  | x :: l => by
    have ih := cptC_mem c l
    unfold cptC
    cases h : cptC l with
    | nil => rw [h] at ih; rw [List.mem_cons, List.mem_cons, ih]
    | cons y m =>
      rw [h] at ih
      simp only
      split
      · rename_i hxy; subst hxy
        rw [ih, List.mem_cons]
        constructor
        · exact .inr
        · rintro (rfl | h2)
          · exact ih.1 List.mem_cons_self
          · exact h2
      · rw [List.mem_cons, ih, List.mem_cons]
theorem cptC_srt : ∀ {l : List Cu}, l.Pairwise (fun x y => ¬ ltC y x) → (cptC l).Pairwise ltC
  | [], _ => List.Pairwise.nil
  | x :: l, h => by
    rw [List.pairwise_cons] at h
    have ih := cptC_srt h.2
    have hm := fun c => cptC_mem c l
    unfold cptC
    cases hc : cptC l with
    | nil => simp
    | cons y m =>
      rw [hc] at ih hm
      simp only
      split
      · exact ih
      · rename_i hne
        have hxy : ltC x y := ltC_or (h.1 y ((hm y).1 List.mem_cons_self)) (fun e => hne e.symm)
        rw [List.pairwise_cons]
        refine ⟨fun c hcm => ?_, ih⟩
        rcases List.mem_cons.1 hcm with rfl | h2
        · exact hxy
        · exact ltC_trans hxy ((List.pairwise_cons.1 ih).1 c h2)
/-- Sorted and compact: the set. -/
theorem cpt_set {d l : List Cu} (hp : d.Perm l) (hs : d.Pairwise (fun x y => ¬ ltC y x)) : cptC d = setC l :=
  srt_uniq (cptC_srt hs) (setC_srt l) (fun c => by rw [cptC_mem, setC_mem, hp.mem_iff])

def allV (a b : Int) : List Cu × Bool := match nbsF a b (rootsV a b) with
  | some l => (setC l, true)
  | none => ([], false)
theorem allV_yes {a b : Int} {l : List Cu} (h : nbsF a b (rootsV a b) = some l) : allV a b = (setC l, true) := by unfold allV; rw [h]
theorem allV_no {a b : Int} (h : nbsF a b (rootsV a b) = none) : allV a b = ([], false) := by unfold allV; rw [h]
theorem allV_len (a b : Int) : (allV a b).1.length ≤ 201 := by
  unfold allV
  cases h : nbsF a b (rootsV a b) with
  | none => simp
  | some l =>
    have h1 := setC_len l
    rw [nbsF_len h] at h1
    have h2 : (rootsV a b).length ≤ 201 := rootsF_len a b (-100) 201
    simp only
    omega

/-! ### The pairs of a list -/
def edOk (L : List Cu) (k : Nat) : Bool := curveB (cuS.get L k).a (cuS.get L k).b && ((k == 0 || decide (ltC (cuS.get L (k - 1)) (cuS.get L k))) && decide (smU (cuS.get L k).a (cuS.get L k).b = 1))
def alC (x : Cu) : List Cu × Bool := allV x.a x.b
def edAt (L : List Cu) (i : Nat) (n : Nat) : List (List Int) := ((List.range n).filter (fun k => decide (i < k) && decide (cuS.get L k ∈ (alC (cuS.get L i)).1))).map (fun k : Nat => [(i : Int), (k : Int)])
def edTo (L : List Cu) (n : Nat) : List (List Int) := (List.range n).flatMap (fun i => edAt L i L.length)
def edB (L : List Cu) : Bool := decide (L.length ≤ 8) && ((List.range L.length).all (edOk L) && (List.range L.length).all (fun k => (alC (cuS.get L k)).2))
def edgesV (L : List Cu) : List (List Int) × Bool := if edB L then (edTo L L.length, true) else ([], false)
theorem edTo_succ (L : List Cu) (n : Nat) : edTo L (n + 1) = edTo L n ++ edAt L n L.length := by
  unfold edTo; rw [List.range_succ, List.flatMap_append]; simp
theorem edAt_low (L : List Cu) (i : Nat) : ∀ n, n ≤ i + 1 → edAt L i n = []
  | n, h => by
    unfold edAt
    rw [List.map_eq_nil_iff, List.filter_eq_nil_iff]
    intro k hk
    rw [List.mem_range] at hk
    rw [decide_eq_false (show ¬ i < k by omega)]
    simp
theorem edAt_yes {L : List Cu} {i n : Nat} (h : i < n) (hm : cuS.get L n ∈ (alC (cuS.get L i)).1) : edAt L i (n + 1) = edAt L i n ++ [[(i : Int), (n : Int)]] := by
  unfold edAt
  rw [List.range_succ, List.filter_append, List.map_append, List.filter_cons, if_pos (by rw [decide_eq_true h, decide_eq_true hm]; rfl)]
  rfl
theorem edAt_no {L : List Cu} {i n : Nat} (hm : ¬ cuS.get L n ∈ (alC (cuS.get L i)).1) : edAt L i (n + 1) = edAt L i n := by
  unfold edAt
  rw [List.range_succ, List.filter_append, List.map_append, List.filter_cons, if_neg (by rw [decide_eq_false hm]; simp)]
  simp
theorem edAt_len (L : List Cu) (i n : Nat) : (edAt L i n).length ≤ n := by
  unfold edAt
  rw [List.length_map]
  exact Nat.le_trans (List.length_filter_le _ _) (by simp)
theorem edTo_len (L : List Cu) : ∀ n, (edTo L n).length ≤ n * L.length
  | 0 => by simp [edTo]
  | n + 1 => by
    rw [edTo_succ, List.length_append, Nat.add_mul]
    have := edTo_len L n
    have := edAt_len L n L.length
    omega
end Go.Proofs.Ytnhgdmhiblpknaa
