/- Plain laws: the float root of a small whole number is bounded; whole roots; greatest common divisors. Conditions: bounds. -/
import Derived.Laws.FloatArith
namespace Go.Proofs.Ytjnghjgfhlgbiaa
open Go

/-! ### The square root of a small whole number, in floats: bounded, and a whole number can be made of it -/
theorem rootFrom_sq (n : Nat) : ∀ (todo root : Nat), root * root ≤ n → Ieee.Datum.rootFrom n todo root * Ieee.Datum.rootFrom n todo root ≤ n
  | 0, root, h => h
  | todo + 1, root, h => by
    unfold Ieee.Datum.rootFrom
    by_cases hl : (root + 1 <<< todo) * (root + 1 <<< todo) ≤ n
    · simp only [hl, if_true]
      exact rootFrom_sq n todo _ hl
    · simp only [hl, if_false]
      exact rootFrom_sq n todo _ h

theorem log_lt {m k : Nat} (h : m < 2 ^ (k + 1)) : m.log2 ≤ k := by
  by_cases h0 : m = 0
  · subst h0; simp
  · exact Nat.le_of_lt_succ ((Nat.log2_lt h0).2 h)

/-- A number that is cut loses digits: it stays small. -/
theorem cut_le (way : Ieee.Toward) (n drop k : Nat) (h : n.log2 ≤ k + drop) : way.cut false n drop ≤ 2 ^ (k + 1) := by
  unfold Ieee.Toward.cut
  have hlow : n / (1 <<< min drop (n.log2 + 2)) < 2 ^ (k + 1) := by
    rw [Nat.one_shiftLeft]
    have hn : n < 2 ^ (n.log2 + 1) := Nat.lt_log2_self
    rcases Nat.le_total drop (n.log2 + 2) with hm | hm
    · rw [Nat.min_eq_left hm]
      refine Nat.div_lt_of_lt_mul ?_
      rw [← Nat.pow_add]
      exact Nat.lt_of_lt_of_le hn (Nat.pow_le_pow_right (by omega) (by omega))
    · rw [Nat.min_eq_right hm, Nat.div_eq_of_lt (Nat.lt_of_lt_of_le hn (Nat.pow_le_pow_right (by omega) (by omega)))]
      exact Nat.two_pow_pos _
  have hb : ∀ b : Bool, b.toNat ≤ 1 := fun b => by cases b <;> simp
  simp only
  refine Nat.le_trans (Nat.add_le_add_left (hb _) _) hlow

theorem near_read {mag : Nat} {place L : Int} (h : place + mag.log2 ≤ L) (h1 : -1000 ≤ L) (h2 : L ≤ 900) :
    ∃ (m : Nat) (p : Int), Ieee.double.read (Ieee.double.nearest false mag place) = .number false m p ∧ m < 2 ^ 53 ∧ p ≤ L - 51 := by
  have e1 : Ieee.double.leastPlace = -1074 := rfl
  have e2 : Ieee.double.binade = 2 ^ 52 := rfl
  have e3 : Ieee.double.infRung = 2047 * 2 ^ 52 := rfl
  have e4 : Ieee.double.signWeight = 2 ^ 63 := rfl
  have e5 : Ieee.double.fractionBits = 52 := rfl
  obtain ⟨rung, hr, hle⟩ : ∃ rung : Nat, Ieee.double.nearest false mag place = rung ∧ (rung : Int) ≤ (L + 1024) * 4503599627370496 := by
    unfold Ieee.Format.nearest
    by_cases h0 : mag = 0
    · rw [if_pos h0]
      exact ⟨0, rfl, by omega⟩
    · rw [if_neg h0, e1, e2, e3, e5]
      simp only
      obtain ⟨last, hlast⟩ : ∃ last : Int, last = max (place + (mag.log2 : Int) - (52 : Nat)) (-1074) := ⟨_, rfl⟩
      rw [← hlast]
      have hkept : Ieee.Toward.even.cut false (mag <<< (place - last).toNat) (last - place).toNat ≤ 2 ^ 53 := by
        by_cases hp : place < last
        · have hz : (place - last).toNat = 0 := by omega
          rw [hz, Nat.shiftLeft_zero]
          exact cut_le _ _ _ 52 (by omega)
        · have hz : (last - place).toNat = 0 := by omega
          rw [hz]
          refine cut_le _ _ _ 52 ?_
          refine log_lt ?_
          rw [Nat.shiftLeft_eq]
          have hm : mag < 2 ^ (mag.log2 + 1) := Nat.lt_log2_self
          refine Nat.lt_of_lt_of_le (Nat.mul_lt_mul_of_pos_right hm (Nat.two_pow_pos _)) ?_
          rw [← Nat.pow_add]
          exact Nat.pow_le_pow_right (by omega) (by omega)
      generalize Ieee.Toward.even.cut false (mag <<< (place - last).toNat) (last - place).toNat = kept at hkept
      refine ⟨_, rfl, ?_⟩
      unfold Ieee.Format.word
      simp only [Bool.false_eq_true, if_false]
      have hl : last ≤ L - 52 := by omega
      have hl2 : -1074 ≤ last := by omega
      have hz : ((last - -1074).toNat : Int) = last + 1074 := by omega
      generalize (last - -1074).toNat = q at hz
      have h53 : (2 : Nat) ^ 53 = 2 * 4503599627370496 := rfl
      have h52 : (2 : Nat) ^ 52 = 4503599627370496 := rfl
      rw [h53] at hkept
      rw [h52]
      have hq : (q : Int) ≤ L + 1022 := by omega
      clear h53 h52
      have hc0 : (4503599627370496 : Int) = ((4503599627370496 : Nat) : Int) := rfl
      rw [hc0]
      generalize (4503599627370496 : Nat) = c at hkept
      have h3 : ((q : Int) + 2) * (c : Int) ≤ (L + 1024) * (c : Int) := Int.mul_le_mul_of_nonneg_right (by omega) (by omega)
      rw [Int.add_mul] at h3
      have h4 := Nat.min_le_left (q * c + kept) (2047 * c)
      have h5 : ((q * c + kept : Nat) : Int) = (q : Int) * c + kept := by simp
      generalize min (q * c + kept) (2047 * c) = mn at h4
      generalize (q : Int) * c = qc at h3 h5
      generalize (L + 1024) * (c : Int) = lc at h3
      omega
  rw [hr]
  unfold Ieee.Format.read
  rw [e1, e2, e3, e4]
  have h63 : (2 : Nat) ^ 63 = 9223372036854775808 := rfl
  have h52 : (2 : Nat) ^ 52 = 4503599627370496 := rfl
  have h53 : (2 : Nat) ^ 53 = 9007199254740992 := rfl
  rw [h63, h52, h53]
  have hlt : rung < 9223372036854775808 := by omega
  have hneg : (rung / 9223372036854775808 % 2 == 1) = false := by
    rw [Nat.div_eq_of_lt hlt]; rfl
  simp only [hneg, Nat.mod_eq_of_lt hlt]
  by_cases hs : rung < 4503599627370496
  · rw [if_pos hs]
    exact ⟨rung, -1074, rfl, by omega, by omega⟩
  · rw [if_neg hs, if_pos (by omega)]
    exact ⟨_, _, rfl, by omega, by omega⟩

/-- The float root of a number below 2^50 is a whole number below 2^28, cut towards zero. -/
theorem sqrt_small (n : Nat) (hn : n < 2 ^ 50) :
    ∃ (s r : Nat), FloatKind.f64.format.sqrt (FloatKind.f64.encode (.number false n 0)) = some s ∧ floatToIntVal .f64 s .i64 = some (r : Int) ∧ r ≤ 2 ^ 27 := by
  obtain ⟨m, p, hread, hm, hp⟩ := near_read (mag := n) (place := 0) (L := 49) (by have := log_lt (k := 49) hn; omega) (by omega) (by omega)
  unfold FloatKind.format Ieee.Format.sqrt FloatKind.encode Ieee.Format.write
  simp only [FloatKind.format]
  rw [hread]
  obtain ⟨m2, p2, hroot, hl2⟩ : ∃ (m2 : Nat) (p2 : Int), (Ieee.Datum.number false m p).root (Ieee.double.fractionBits + 2) = some (.number false m2 p2) ∧ (p2 + m2.log2 ≤ 25) := by
    unfold Ieee.Datum.root
    by_cases h0 : m = 0
    · subst h0
      exact ⟨0, p, by simp, by simp; omega⟩
    · simp only [h0, if_false, Bool.false_eq_true]
      refine ⟨_, _, rfl, ?_⟩
      have e5 : Ieee.double.fractionBits = 52 := rfl
      rw [e5]
      have hlm : m.log2 ≤ 52 := log_lt hm
      obtain ⟨more, hmore, hlo, hhi⟩ : ∃ more : Nat, more = 2 * (52 + 2) - m.log2 + ((p - ((2 * (52 + 2) - m.log2 : Nat) : Int)) % 2).toNat ∧ 108 - m.log2 ≤ more ∧ more ≤ 109 - m.log2 := ⟨_, rfl, by omega, by omega⟩
      rw [← hmore]
      have hN : m <<< more < 2 ^ 110 := by
        rw [Nat.shiftLeft_eq]
        have hm' : m < 2 ^ (m.log2 + 1) := Nat.lt_log2_self
        refine Nat.lt_of_lt_of_le (Nat.mul_lt_mul_of_pos_right hm' (Nat.two_pow_pos _)) ?_
        rw [← Nat.pow_add]
        exact Nat.pow_le_pow_right (by omega) (by omega)
      have hsq := rootFrom_sq (m <<< more) ((m <<< more).log2 / 2 + 1) 0 (Nat.zero_le _)
      generalize Ieee.Datum.rootFrom (m <<< more) ((m <<< more).log2 / 2 + 1) 0 = whole at hsq
      have hw : whole < 2 ^ 55 := by
        refine Nat.lt_of_not_le fun hc => ?_
        have := Nat.mul_le_mul hc hc
        rw [← Nat.pow_add] at this
        omega
      have hb : ∀ b : Bool, b.toNat ≤ 1 := fun b => by cases b <;> simp
      have hbb := hb (whole * whole != m <<< more)
      generalize (whole * whole != m <<< more).toNat = bb at hbb
      have hlw : (2 * whole + bb).log2 ≤ 55 := log_lt (by
        have e : (2 : Nat) ^ (55 + 1) = 2 * 2 ^ 55 := by rw [Nat.pow_succ, Nat.mul_comm]
        rw [e]; omega)
      omega
  rw [hroot]
  simp only [Option.map_some]
  obtain ⟨m3, p3, hread3, hm3, hp3⟩ := near_read hl2 (by omega) (by omega)
  have e : floatToIntVal .f64 (Ieee.double.nearest false m2 p2) .i64 = some ((Ieee.Toward.zero.cut false (m3 <<< p3.toNat) (-p3).toNat : Nat) : Int) ∧ Ieee.Toward.zero.cut false (m3 <<< p3.toNat) (-p3).toNat ≤ 2 ^ 27 := by
    have hz : p3.toNat = 0 := by omega
    have hle : Ieee.Toward.zero.cut false (m3 <<< p3.toNat) (-p3).toNat ≤ 2 ^ (26 + 1) := cut_le _ _ _ 26 (by
      rw [hz, Nat.shiftLeft_zero]
      have := log_lt (k := 52) hm3
      omega)
    refine ⟨?_, hle⟩
    unfold floatToIntVal FloatKind.decode FloatKind.format
    simp only
    rw [hread3]
    unfold Ieee.Datum.toInt Ieee.Datum.integral Ieee.signed
    simp only [Bool.false_eq_true, if_false, Nat.shiftLeft_zero]
    generalize Ieee.Toward.zero.cut false (m3 <<< p3.toNat) (-p3).toNat = r at hle
    have h27 : (2 : Nat) ^ (26 + 1) = 134217728 := rfl
    rw [h27] at hle
    have a1 : IntKind.i64.min ≤ (r : Int) := by rw [show IntKind.i64.min = -9223372036854775808 from rfl]; omega
    have a2 : (r : Int) ≤ IntKind.i64.max := by rw [show IntKind.i64.max = 9223372036854775807 from rfl]; omega
    rw [if_pos ⟨a1, a2⟩]
  exact ⟨_, _, rfl, e.1, e.2⟩

/-! ### The whole root -/
def fsq : Nat → Nat
  | 0 => 0
  | n + 1 => if (fsq n + 1) * (fsq n + 1) ≤ n + 1 then fsq n + 1 else fsq n
theorem sq_succ (r : Nat) : (r + 1) * (r + 1) = r * r + 2 * r + 1 := by
  rw [Nat.add_mul, Nat.mul_add, Nat.one_mul, Nat.mul_one]; omega
theorem fsq_spec : ∀ n : Nat, fsq n * fsq n ≤ n ∧ n < (fsq n + 1) * (fsq n + 1)
  | 0 => by simp [fsq]
  | n + 1 => by
    obtain ⟨h1, h2⟩ := fsq_spec n
    unfold fsq
    by_cases h : (fsq n + 1) * (fsq n + 1) ≤ n + 1
    · rw [if_pos h]
      have e1 := sq_succ (fsq n)
      have e2 := sq_succ (fsq n + 1)
      exact ⟨h, by omega⟩
    · rw [if_neg h]
      exact ⟨by omega, by omega⟩
theorem sq_lt {a b : Nat} (h : a * a < b * b) : a < b := by
  refine Nat.lt_of_not_le fun hc => ?_
  have := Nat.mul_le_mul hc hc
  omega
theorem fsq_uniq {n r : Nat} (h1 : r * r ≤ n) (h2 : n < (r + 1) * (r + 1)) : r = fsq n := by
  obtain ⟨h3, h4⟩ := fsq_spec n
  have a := sq_lt (Nat.lt_of_le_of_lt h1 h4)
  have b := sq_lt (Nat.lt_of_le_of_lt h3 h2)
  omega
/-- Is a number the square of a whole one? -/
def rootK (n : Int) : Bool := decide (0 ≤ n) && decide (fsq n.toNat * fsq n.toNat = n.toNat)
/-- Its root, or nought. -/
def rootV (n : Int) : Int := if rootK n then (fsq n.toNat : Int) else 0
theorem rootK_neg {n : Int} (h : n < 0) : rootK n = false := by unfold rootK; rw [decide_eq_false (by omega)]; rfl
theorem rootK_iff {n : Int} {r : Nat} (h0 : 0 ≤ n) (h1 : (r : Int) * r ≤ n) (h2 : n < ((r : Int) + 1) * (r + 1)) : rootK n = decide ((r : Int) * r = n) ∧ fsq n.toNat = r := by
  have e1 : ((r * r : Nat) : Int) = (r : Int) * r := by simp
  have e2 : (((r + 1) * (r + 1) : Nat) : Int) = ((r : Int) + 1) * (r + 1) := by simp
  have hr : r = fsq n.toNat := fsq_uniq (by omega) (by omega)
  refine ⟨?_, hr.symm⟩
  unfold rootK
  rw [← hr, decide_eq_true h0, Bool.true_and]
  rw [Bool.eq_iff_iff]; simp only [decide_eq_true_eq]; omega
end Go.Proofs.Ytjnghjgfhlgbiaa
