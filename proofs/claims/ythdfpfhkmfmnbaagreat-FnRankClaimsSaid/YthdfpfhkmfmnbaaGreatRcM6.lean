/- Own texts put together: Squares modulo a power of a prime: the walks of both sides; Squares modulo a power of a prime: the program's walk; Values of a quartic modulo n, as both sides reckon them: plain laws; A product of residues: the program's walk; The residues of a quartic's value and of both other sums: the reference's walk; Is a pair possible, and does it lift: the reference's walk; Pairs that are possible at every level: the search by a tree and the lists, level by level. Conditions: those of each theorem. -/
import Derived.Test.YthdfpfhkmfmnbaaGreatRcM5
namespace Go.Proofs.YthdfpfhkmfmnbaaGreat
section
open Go Go.RowKit

/-- How often does p divide a residue modulo p ^ k? -/
def ofV (n p k : Nat) : Nat := if n = 0 then k else vlN n p
def uqV (n p k : Nat) : Bool := if 2 < p then decide (pwV ((rsN n p : Nat) : Int) (((p : Int) - 1) / 2).toNat p = 1) else decide (((rsN n p : Nat) : Int) % ((2 ^ min 3 (k - vlN n p) : Nat) : Int) = 1)
/-- Is a residue modulo p ^ k a square? -/
def sqV (n p k : Nat) : Bool := if n = 0 then true else if vlN n p % 2 = 1 then false else uqV n p k
theorem vl_pow {n p : Nat} (hp : 2 ≤ p) (h0 : 0 < n) : p ^ vlN n p ≤ n := by
  obtain ⟨h1, -, h3, -⟩ := rsN_spec hp h0
  have := Nat.le_mul_of_pos_right (p ^ vlN n p) h3
  omega
theorem vl_lt {n p k : Nat} (hp : 2 ≤ p) (h0 : 0 < n) (hn : n < p ^ k) : vlN n p < k := by
  have h2 := vl_pow hp h0
  refine Nat.lt_of_not_le (fun h => ?_)
  have := pow_mono (p := p) (by omega) h
  omega
theorem sy_one {u : Int} {p : Nat} (hp : 2 < p) : (syS u p = 1 ↔ pwV u (((p : Int) - 1) / 2).toNat p = 1) ∧ (syI u p = 1 ↔ pwV u (((p : Int) - 1) / 2).toNat p = 1) := by
  unfold syS syI
  generalize pwV u (((p : Int) - 1) / 2).toNat p = x
  constructor
  · split <;> omega
  · split <;> (try split) <;> omega
theorem l1LeastK_lit {x y z : Int} (h : min x y = z) (w : World) : Calls Tryz.prog 159 #[.int .i64 x, .int .i64 y] w fun e w' => e = .returned (.int .i64 z) ∧ w = w' := by
  subst h
  by_cases h : x < y
  · have hd : decide (x < y) = true := decide_eq_true h
    have hm : min x y = x := by omega
    rw [hm]
    go_enter Tryz.func159, Tryz.ntmps159
    go_wp2
    go_ret
    exact ⟨rfl, rfl⟩
  · have hd : decide (x < y) = false := decide_eq_false h
    have hm : min x y = y := by omega
    rw [hm]
    go_enter Tryz.func159, Tryz.ntmps159
    go_wp2
    go_ret
    exact ⟨rfl, rfl⟩
set_option linter.unusedVariables false in
set_option maxRecDepth 4000 in
set_option maxHeartbeats 4000000 in
theorem often_any (n p k : Nat) (w : World) (hp : 2 ≤ p) (hp2 : p ≤ 1000) (hn : n < p ^ k) (hb : p ^ k ≤ 1000000000) :
    Calls Tryz.prog 160 #[.int .i64 (n : Int), .int .i64 (p : Int), .int .i64 (k : Int)] w fun r w' => r = .returned (.int .i64 (ofV n p k : Int)) ∧ Below w.heap.size w w' := by
  by_cases h0 : n = 0
  · have hz : ((n : Int) == 0) = true := by rw [h0]; rfl
    have Hf := Lib.hid (show ofV n p k = k by unfold ofV; rw [if_pos h0])
    clear h0 hn hb
    go_enter Tryz.func160, Tryz.ntmps160
    go_wp2
    go_ret
    exact ⟨by rw [Hf.out] <;> rfl, Below.refl _ _⟩
  · have hz : ((n : Int) == 0) = false := beq_eq_false_iff_ne.2 (by omega)
    have Hf := Lib.hid (show ofV n p k = vlN n p by unfold ofV; rw [if_neg h0])
    have hvk := vl_lt hp (by omega) hn
    have Hv := Lib.hid (fun w9 => by have := val_any (n : Int) p w9 (by omega) (by rw [Int.natAbs_natCast]; omega) hp (by omega); rwa [Int.natAbs_natCast] at this)
    generalize vlN n p = v at Hv Hf hvk
    have Hm := Lib.hid (show min (k : Int) (v : Int) = (v : Int) by omega)
    clear h0 hn hb
    go_enter Tryz.func160, Tryz.ntmps160
    go_wp2_with fail
    refine (Hv.out _).mono ?_; rintro r w1 ⟨rfl, hb1⟩
    have Hb1 := Lib.hid hb1; clear hb1
    go_wp2_with fail
    refine (l1LeastK_lit Hm.out _).mono ?_; rintro r w2 ⟨rfl, rfl⟩
    go_wp2
    go_ret
    exact ⟨by rw [Hf.out] <;> rfl, Hb1.out⟩
structure QF (n p k v P U : Nat) : Prop where
  v1 : v < k
  p0 : 0 < P
  p1 : P ≤ 1000000000
  pe : P = p ^ v
  ue : U = rsN n p
  ud : (n : Int) / (P : Int) = (U : Int)
  u0 : U % p ≠ 0
  u1 : U ≤ 1000000000
theorem QF.of {n p k : Nat} (hp : 2 ≤ p) (h0 : 0 < n) (hn : n < p ^ k) (hb : p ^ k ≤ 1000000000) : QF n p k (vlN n p) (p ^ vlN n p) (rsN n p) := by
  have h1 := vl_lt hp h0 hn
  have h2 := vl_pow hp h0
  obtain ⟨h3, h4, h5, h6⟩ := rsN_spec hp h0
  exact ⟨h1, Nat.pow_pos (by omega), by omega, rfl, rfl, rfl, h4, by omega⟩
set_option linter.unusedVariables false in
set_option maxRecDepth 4000 in
set_option maxHeartbeats 4000000 in
theorem loSquare_any (n p k : Nat) (w : World) (hp : 2 ≤ p) (hp2 : p ≤ 1000) (hk : k ≤ 100) (hn : n < p ^ k) (hb : p ^ k ≤ 1000000000) :
    Calls Tryz.prog 158 #[.int .i64 (n : Int), .int .i64 (p : Int), .int .i64 (k : Int)] w fun r w' => r = .returned (.bool (sqV n p k)) ∧ Below w.heap.size w w' := by
  have Ho := Lib.hid (fun w9 => often_any n p k w9 hp hp2 hn hb)
  by_cases h0 : n = 0
  · have Hf := Lib.hid (show sqV n p k = true by unfold sqV; rw [if_pos h0])
    rw [show ofV n p k = k by unfold ofV; rw [if_pos h0]] at Ho
    have hz : ((k : Int) == (k : Int)) = true := by simp
    clear h0 hn hb
    go_enter Tryz.func158, Tryz.ntmps158
    go_wp2_with fail
    refine (Ho.out _).mono ?_; rintro r w1 ⟨rfl, hb1⟩
    have Hb1 := Lib.hid hb1; clear hb1
    go_wp2
    go_ret
    exact ⟨by rw [Hf.out] <;> rfl, Hb1.out⟩
  have Q := QF.of hp (show 0 < n by omega) hn hb
  rw [show ofV n p k = vlN n p by unfold ofV; rw [if_neg h0]] at Ho
  have Hs := Lib.hid (show sqV n p k = if vlN n p % 2 = 1 then false else uqV n p k by unfold sqV; rw [if_neg h0])
  have Hu := Lib.hid (show uqV n p k = if 2 < p then decide (pwV ((rsN n p : Nat) : Int) (((p : Int) - 1) / 2).toNat p = 1) else decide (((rsN n p : Nat) : Int) % ((2 ^ min 3 (k - vlN n p) : Nat) : Int) = 1) from rfl)
  have hnb : n < 1000000000 := by omega
  have Hb := Lib.hid hb
  have HP := Lib.hid (fun w9 hv hl => loPower_any p (vlN n p) w9 (by omega) (by omega) hv hl)
  clear h0 hn hb
  generalize uqV n p k = B9 at Hs Hu
  generalize p ^ vlN n p = P at Q HP
  generalize vlN n p = v at *
  generalize rsN n p = U at Q Hu
  obtain ⟨q1, q2, q3, -, -, q6, q7, q8⟩ := Q
  have HPw := Lib.hid (fun w9 => HP.out w9 (by omega) q3); clear HP
  have Hq6 := Lib.hid q6
  have hz : ((v : Int) == (k : Int)) = false := beq_eq_false_iff_ne.2 (by omega)
  have hz2 : (v == k) = false := beq_eq_false_iff_ne.2 (by omega)
  have hv0 : (0 : Int) ≤ (v : Int) := by omega
  by_cases hv : v % 2 = 1
  · have hm : ((v : Int) % 2 != 0) = true := bne_iff_ne.2 (by omega)
    have Hf := Lib.hid (show sqV n p k = false by rw [Hs.out, if_pos hv])
    clear q6
    go_enter Tryz.func158, Tryz.ntmps158
    go_wp2_with fail
    refine (Ho.out _).mono ?_; rintro r w1 ⟨rfl, hb1⟩
    have Hb1 := Lib.hid hb1; clear hb1
    go_wp2
    go_ret
    exact ⟨by rw [Hf.out] <;> rfl, Hb1.out⟩
  have hm : ((v : Int) % 2 != 0) = false := by have : (v : Int) % 2 = 0 := by omega
                                               rw [this]; rfl
  have hq0 : 0 ≤ (n : Int) / (P : Int) := by rw [q6]; omega
  have hq9 : (n : Int) / (P : Int) ≤ 1000000000 := by rw [q6]; omega
  have hPi : (0 : Int) < (P : Int) := by omega
  clear q6
  by_cases h2 : 2 < p
  · have hd : decide ((p : Int) > 2) = true := decide_eq_true (by omega)
    have hd2 : decide ((2 : Int) < (p : Int)) = true := decide_eq_true (by omega)
    have hd3 : decide (2 < p) = true := decide_eq_true h2
    have Hsy := Lib.hid (fun w9 => mdSymbol_any ((n : Int) / (P : Int)) (p : Int) w9 (by omega) (by omega))
    rw [Hq6.out] at Hsy
    have Hf := Lib.hid (show sqV n p k = (syS (U : Int) p == 1) by
      rw [Hs.out, if_neg hv, Hu.out, if_pos h2, Bool.eq_iff_iff]
      simp only [decide_eq_true_eq, beq_iff_eq]
      exact (sy_one h2).1.symm)
    clear Hs Hu
    generalize syS (U : Int) p = S9 at Hsy Hf
    go_enter Tryz.func158, Tryz.ntmps158
    go_wp2_with fail
    refine (Ho.out _).mono ?_; rintro r w1 ⟨rfl, hb1⟩
    have Hb1 := Lib.hid hb1; clear hb1
    go_wp2_with fail
    refine (HPw.out _).mono ?_; rintro r w2 ⟨rfl, rfl⟩
    go_wp2_with fail
    rw [Hq6.out]
    refine (Hsy.out _).mono ?_; rintro r w3 ⟨rfl, hb3⟩
    have Hb3 := Lib.hid (bthen Hb1.out hb3); clear hb3
    go_wp2
    go_ret
    exact ⟨by rw [Hf.out] <;> rfl, Hb3.out⟩
  · have hp9 : p = 2 := by omega
    have hd : decide ((p : Int) > 2) = false := decide_eq_false (by omega)
    have hd2 : decide ((2 : Int) < (p : Int)) = false := decide_eq_false (by omega)
    have hd3 : decide (2 < p) = false := decide_eq_false h2
    obtain ⟨m, hm9⟩ : ∃ m, min 3 (k - v) = m := ⟨_, rfl⟩
    have Hmn := Lib.hid (show min (3 : Int) ((k : Int) - (v : Int)) = (m : Int) by omega)
    have hmb : m ≤ 3 := by omega
    have hQ : 1 ≤ 2 ^ m ∧ 2 ^ m ≤ 8 := ⟨Nat.one_le_two_pow, by have := pow_mono (p := 2) (by omega) hmb; omega⟩
    have HPq := Lib.hid (fun w9 => loPower_any 2 m w9 (by omega) (by omega) (by omega) (by omega))
    have Hf := Lib.hid (show sqV n p k = ((U : Int) % ((2 ^ m : Nat) : Int) == 1) by
      rw [Hs.out, if_neg hv, Hu.out, if_neg h2, hm9, Bool.eq_iff_iff]
      simp only [decide_eq_true_eq, beq_iff_eq])
    clear Hs Hu hm9 hp9
    generalize 2 ^ m = Q at hQ HPq Hf
    obtain ⟨hQ1, hQ2⟩ := hQ
    have hQi : (0 : Int) < (Q : Int) := by omega
    go_enter Tryz.func158, Tryz.ntmps158
    go_wp2_with fail
    refine (Ho.out _).mono ?_; rintro r w1 ⟨rfl, hb1⟩
    have Hb1 := Lib.hid hb1; clear hb1
    go_wp2_with fail
    refine (HPw.out _).mono ?_; rintro r w2 ⟨rfl, rfl⟩
    go_wp2_with fail
    refine (l1LeastK_lit Hmn.out _).mono ?_; rintro r w3 ⟨rfl, rfl⟩
    go_wp2_with fail
    refine (HPq.out _).mono ?_; rintro r w4 ⟨rfl, rfl⟩
    go_wp2
    go_ret
    exact ⟨by rw [Hf.out, ← Hq6.out] <;> rfl, Hb1.out⟩
end
section
open Go Go.RowKit

theorem modulo_lit {a p z : Int} (h : a % p = z) (w : World) (hp : 0 < p) (hp' : p ≤ 1000000000000000000) : Calls Tryz.prog 155 #[.int .i64 a, .int .i64 p] w fun e w' => e = .returned (.int .i64 z) ∧ w = w' := by
  subst h; exact modulo_any a p w hp hp'
theorem two_of {p : Nat} (hp : 2 ≤ p) (h : ¬ 2 < p) : p = 2 := by omega
set_option linter.unusedVariables false in
set_option maxRecDepth 4000 in
set_option maxHeartbeats 2000000 in
theorem squareModulo_any (a : Int) (n p k : Nat) (w : World) (hp : 2 ≤ p) (hp2 : p ≤ 1000) (hk : k ≤ 100) (ha : a % ((p ^ k : Nat) : Int) = (n : Int)) (hb : p ^ k ≤ 1000000000) :
    Calls Tryz.prog 154 #[.int .i64 a, .int .i64 (p : Int), .int .i64 (k : Int)] w fun r w' => r = .returned (.bool (sqV n p k)) ∧ Below w.heap.size w w' := by
  have hPk : 0 < p ^ k := Nat.pow_pos (by omega)
  have hn : n < p ^ k := by have := Int.emod_lt_of_pos a (show (0 : Int) < ((p ^ k : Nat) : Int) by omega); omega
  have HK := Lib.hid (fun w9 => intPower_any p k w9 (by omega) (by omega) hk hb)
  have HM := Lib.hid (fun w9 => modulo_lit ha w9 (by omega) (by omega))
  by_cases h0 : n = 0
  · have Hf := Lib.hid (show sqV n p k = true by unfold sqV; rw [if_pos h0])
    have hz : ((n : Int) == 0) = true := by rw [h0]; rfl
    clear h0 ha
    generalize p ^ k = PK at HK HM hPk hn hb
    go_enter Tryz.func154, Tryz.ntmps154
    go_wp2_with fail
    refine (HK.out _).mono ?_; rintro r w1 ⟨rfl, rfl⟩
    go_wp2_with fail
    refine (HM.out _).mono ?_; rintro r w2 ⟨rfl, rfl⟩
    go_wp2
    go_ret
    exact ⟨by rw [Hf.out] <;> rfl, Below.refl _ _⟩
  have Q := QF.of hp (show 0 < n by omega) hn hb
  have Hs := Lib.hid (show sqV n p k = if vlN n p % 2 = 1 then false else uqV n p k by unfold sqV; rw [if_neg h0])
  have Hu := Lib.hid (show uqV n p k = if 2 < p then decide (pwV ((rsN n p : Nat) : Int) (((p : Int) - 1) / 2).toNat p = 1) else decide (((rsN n p : Nat) : Int) % ((2 ^ min 3 (k - vlN n p) : Nat) : Int) = 1) from rfl)
  have hnb : n < 1000000000 := by omega
  have HP := Lib.hid (fun w9 hv hl => intPower_any p (vlN n p) w9 (by omega) (by omega) hv hl)
  have Hv := Lib.hid (fun w9 => by have := valI_any (n : Int) p w9 (by omega) (by rw [Int.natAbs_natCast]; omega) hp (by omega); rwa [Int.natAbs_natCast] at this)
  have hz : ((n : Int) == 0) = false := beq_eq_false_iff_ne.2 (by omega)
  clear h0 hn ha
  generalize p ^ k = PK at HK HM hPk hb
  generalize uqV n p k = B9 at Hs Hu
  generalize p ^ vlN n p = P at Q HP
  generalize vlN n p = v at *
  generalize rsN n p = U at Q Hu
  obtain ⟨q1, q2, q3, -, -, q6, q7, q8⟩ := Q
  have HPw := Lib.hid (fun w9 => HP.out w9 (by omega) q3); clear HP
  have Hq6 := Lib.hid q6
  have hv0 : (0 : Int) ≤ (v : Int) := by omega
  have hq0 : 0 ≤ (n : Int) / (P : Int) := by rw [q6]; omega
  have hq9 : (n : Int) / (P : Int) ≤ 1000000000 := by rw [q6]; omega
  have hPi : (0 : Int) < (P : Int) := by omega
  clear q6
  by_cases hv : v % 2 = 1
  · have hm : ((v : Int) % 2 == 1) = true := beq_iff_eq.2 (by omega)
    have Hf := Lib.hid (show sqV n p k = false by rw [Hs.out, if_pos hv])
    go_enter Tryz.func154, Tryz.ntmps154
    go_wp2_with fail
    refine (HK.out _).mono ?_; rintro r w1 ⟨rfl, rfl⟩
    go_wp2_with fail
    refine (HM.out _).mono ?_; rintro r w2 ⟨rfl, rfl⟩
    go_wp2_with fail
    refine (Hv.out _).mono ?_; rintro r w3 ⟨rfl, hb3⟩
    have Hb3 := Lib.hid hb3; clear hb3
    go_wp2_with fail
    refine (HPw.out _).mono ?_; rintro r w4 ⟨rfl, rfl⟩
    go_wp2
    go_ret
    exact ⟨by rw [Hf.out] <;> rfl, Hb3.out⟩
  have hm : ((v : Int) % 2 == 1) = false := beq_eq_false_iff_ne.2 (by omega)
  by_cases h2 : 2 < p
  · have hd : decide ((p : Int) > 2) = true := decide_eq_true (by omega)
    have hd2 : decide ((2 : Int) < (p : Int)) = true := decide_eq_true (by omega)
    have hd3 : decide (2 < p) = true := decide_eq_true h2
    have Hsy := Lib.hid (fun w9 => symbol_any ((n : Int) / (P : Int)) (p : Int) w9 (by omega) (by omega))
    rw [Hq6.out] at Hsy
    have Hf := Lib.hid (show sqV n p k = (syI (U : Int) p == 1) by
      rw [Hs.out, if_neg hv, Hu.out, if_pos h2, Bool.eq_iff_iff]
      simp only [decide_eq_true_eq, beq_iff_eq]
      exact (sy_one h2).2.symm)
    clear Hs Hu
    generalize syI (U : Int) p = S9 at Hsy Hf
    go_enter Tryz.func154, Tryz.ntmps154
    go_wp2_with fail
    refine (HK.out _).mono ?_; rintro r w1 ⟨rfl, rfl⟩
    go_wp2_with fail
    refine (HM.out _).mono ?_; rintro r w2 ⟨rfl, rfl⟩
    go_wp2_with fail
    refine (Hv.out _).mono ?_; rintro r w3 ⟨rfl, hb3⟩
    have Hb3 := Lib.hid hb3; clear hb3
    go_wp2_with fail
    refine (HPw.out _).mono ?_; rintro r w4 ⟨rfl, rfl⟩
    go_wp2_with fail
    rw [Hq6.out]
    refine (Hsy.out _).mono ?_; rintro r w5 ⟨rfl, hb5⟩
    have Hb5 := Lib.hid (bthen Hb3.out hb5); clear hb5
    go_wp2
    go_ret
    exact ⟨by rw [Hf.out] <;> rfl, Hb5.out⟩
  · have hd : decide ((p : Int) > 2) = false := decide_eq_false (by omega)
    have hd2 : decide ((2 : Int) < (p : Int)) = false := decide_eq_false (by omega)
    have hd3 : decide (2 < p) = false := decide_eq_false h2
    have hodd : U % 2 = 1 := by have := two_of hp h2; subst this; omega
    have Hf := Lib.hid (show sqV n p k = decide ((U : Int) % ((2 ^ min 3 (k - v) : Nat) : Int) = 1) by rw [Hs.out, if_neg hv, Hu.out, if_neg h2])
    have Hodd := Lib.hid hodd
    clear Hs Hu q7 h2 hodd
    by_cases e1 : k - v = 1
    · have z1 : ((k : Int) - (v : Int) == 1) = true := beq_iff_eq.2 (by omega)
      have Hg := Lib.hid (show sqV n p k = true by rw [Hf.out, e1, decide_eq_true]; have := Hodd.out; show (U : Int) % 2 = 1; omega)
      clear e1 Hf
      go_enter Tryz.func154, Tryz.ntmps154
      go_wp2_with fail
      refine (HK.out _).mono ?_; rintro r w1 ⟨rfl, rfl⟩
      go_wp2_with fail
      refine (HM.out _).mono ?_; rintro r w2 ⟨rfl, rfl⟩
      go_wp2_with fail
      refine (Hv.out _).mono ?_; rintro r w3 ⟨rfl, hb3⟩
      have Hb3 := Lib.hid hb3; clear hb3
      go_wp2_with fail
      refine (HPw.out _).mono ?_; rintro r w4 ⟨rfl, rfl⟩
      go_wp2
      go_ret
      exact ⟨by rw [Hg.out] <;> rfl, Hb3.out⟩
    have z1 : ((k : Int) - (v : Int) == 1) = false := beq_eq_false_iff_ne.2 (by omega)
    by_cases e2 : k - v = 2
    · have z2 : ((k : Int) - (v : Int) == 2) = true := beq_iff_eq.2 (by omega)
      have Hg := Lib.hid (show sqV n p k = ((n : Int) / (P : Int) % 4 == 1) by
        rw [Hf.out, e2, Hq6.out, Bool.eq_iff_iff]; simp only [decide_eq_true_eq, beq_iff_eq]; exact Iff.rfl)
      clear e1 e2 Hf
      go_enter Tryz.func154, Tryz.ntmps154
      go_wp2_with fail
      refine (HK.out _).mono ?_; rintro r w1 ⟨rfl, rfl⟩
      go_wp2_with fail
      refine (HM.out _).mono ?_; rintro r w2 ⟨rfl, rfl⟩
      go_wp2_with fail
      refine (Hv.out _).mono ?_; rintro r w3 ⟨rfl, hb3⟩
      have Hb3 := Lib.hid hb3; clear hb3
      go_wp2_with fail
      refine (HPw.out _).mono ?_; rintro r w4 ⟨rfl, rfl⟩
      go_wp2
      go_ret
      exact ⟨by rw [Hg.out] <;> rfl, Hb3.out⟩
    have z2 : ((k : Int) - (v : Int) == 2) = false := beq_eq_false_iff_ne.2 (by omega)
    have Hg := Lib.hid (show sqV n p k = ((n : Int) / (P : Int) % 8 == 1) by
      rw [Hf.out, show min 3 (k - v) = 3 by omega, Hq6.out, Bool.eq_iff_iff]; simp only [decide_eq_true_eq, beq_iff_eq]; exact Iff.rfl)
    clear e1 e2 Hf
    go_enter Tryz.func154, Tryz.ntmps154
    go_wp2_with fail
    refine (HK.out _).mono ?_; rintro r w1 ⟨rfl, rfl⟩
    go_wp2_with fail
    refine (HM.out _).mono ?_; rintro r w2 ⟨rfl, rfl⟩
    go_wp2_with fail
    refine (Hv.out _).mono ?_; rintro r w3 ⟨rfl, hb3⟩
    have Hb3 := Lib.hid hb3; clear hb3
    go_wp2_with fail
    refine (HPw.out _).mono ?_; rintro r w4 ⟨rfl, rfl⟩
    go_wp2
    go_ret
    exact ⟨by rw [Hg.out] <;> rfl, Hb3.out⟩
end
section
open Go Go.RowKit

/-- Two numbers are the same modulo n. -/
def Em (n x y : Int) : Prop := x % n = y % n
theorem Em.mod (n x : Int) : Em n (x % n) x := Int.emod_emod x n
theorem Em.refl (n x : Int) : Em n x x := rfl
theorem Em.add {n x y u v : Int} (h : Em n x y) (k : Em n u v) : Em n (x + u) (y + v) := by
  unfold Em at *
  rw [Int.add_emod, h, k, ← Int.add_emod]
theorem Em.mul {n x y u v : Int} (h : Em n x y) (k : Em n u v) : Em n (x * u) (y * v) := by
  unfold Em at *
  rw [Int.mul_emod, h, k, ← Int.mul_emod]
theorem Em.md {n x y : Int} (h : Em n x y) : Em n (x % n) y := (Em.mod n x).trans h
theorem Em.to {n x y z : Int} (h : Em n x y) (e : y = z) : x % n = z % n := by rw [← e]; exact h
/-- The residues of a quartic's value and of both other sums. -/
def vqV (d a c m e n : Int) : Int := qvV d a c m e % n
def bmV (d a m e n : Int) : Int := (4 * (d * m * m * m) + 2 * (a * m * e * e)) % n
def beV (a c m e n : Int) : Int := (2 * (a * m * m * e) + 4 * (c * e * e * e)) % n
theorem at_value (d a c m e n : Int) : (d % n * (m * m % n * (m * m % n) % n) % n + a % n * (m * m % n * (e * e % n) % n) % n + c % n * (e * e % n * (e * e % n) % n) % n) % n = vqV d a c m e n := by
  have D := Em.mod n d
  have A := Em.mod n a
  have C := Em.mod n c
  have M := Em.mod n (m * m)
  have E := Em.mod n (e * e)
  exact (((D.mul (M.mul M).md).md.add (A.mul (M.mul E).md).md).add (C.mul (E.mul E).md).md).to (by unfold qvV; grind)
theorem at_byM (d a m e n : Int) : (4 * (d % n * (m * m % n * m % n) % n) + 2 * (a % n * (m * (e * e % n) % n) % n)) % n = bmV d a m e n := by
  have D := Em.mod n d
  have A := Em.mod n a
  have M := Em.mod n (m * m)
  have E := Em.mod n (e * e)
  exact (((Em.refl n 4).mul (D.mul (M.mul (Em.refl n m)).md).md).add ((Em.refl n 2).mul (A.mul ((Em.refl n m).mul E).md).md)).to (by grind)
theorem at_byE (a c m e n : Int) : (2 * (a % n * (m * m % n * e % n) % n) + 4 * (c % n * (e * e % n * e % n) % n)) % n = beV a c m e n := by
  have A := Em.mod n a
  have C := Em.mod n c
  have M := Em.mod n (m * m)
  have E := Em.mod n (e * e)
  exact (((Em.refl n 2).mul (A.mul (M.mul (Em.refl n e)).md).md).add ((Em.refl n 4).mul (C.mul (E.mul (Em.refl n e)).md).md)).to (by grind)
/-- A product of residues, from the left. -/
def tmF (n o : Int) : List Int → Int
  | [] => o
  | x :: l => tmF n (o * (x % n) % n) l
def tmV (n : Int) (l : List Int) : Int := tmF n (1 % n) l
theorem tmF_em {n : Int} : ∀ (l : List Int) (o z : Int), Em n o z → Em n (tmF n o l) (l.foldl (· * ·) z)
  | [], _, _, h => h
  | x :: l, _, _, h => tmF_em l _ _ (h.mul (Em.mod n x)).md
theorem tmV_em (n : Int) (l : List Int) : Em n (tmV n l) (l.foldl (· * ·) 1) := tmF_em l _ _ (Em.mod n 1)
theorem times_value (d a c m e n : Int) : (tmV n [d, m, m, m, m] + tmV n [a, m, m, e, e] + tmV n [c, e, e, e, e]) % n = vqV d a c m e n :=
  (((tmV_em n _).add (tmV_em n _)).add (tmV_em n _)).to (by unfold qvV; simp only [List.foldl]; grind)
theorem times_byM (d a m e n : Int) : (tmV n [4, d, m, m, m] + tmV n [2, a, m, e, e]) % n = bmV d a m e n :=
  ((tmV_em n _).add (tmV_em n _)).to (by simp only [List.foldl]; grind)
theorem times_byE (a c m e n : Int) : (tmV n [2, a, m, m, e] + tmV n [4, c, e, e, e]) % n = beV a c m e n :=
  ((tmV_em n _).add (tmV_em n _)).to (by simp only [List.foldl]; grind)
theorem tmF_bd {n : Int} (hn : 0 < n) : ∀ (l : List Int) (o : Int), (0 ≤ o ∧ o < n) → 0 ≤ tmF n o l ∧ tmF n o l < n
  | [], _, h => h
  | x :: l, o, _ => tmF_bd hn l _ (md_bd (o * (x % n)) hn)
theorem tmV_bd {n : Int} (hn : 0 < n) (l : List Int) : 0 ≤ tmV n l ∧ tmV n l < n := tmF_bd hn l _ (md_bd 1 hn)
theorem vq_bd (d a c m e : Int) {n : Int} (hn : 0 < n) : 0 ≤ vqV d a c m e n ∧ vqV d a c m e n < n := md_bd _ hn
theorem bm_bd (d a m e : Int) {n : Int} (hn : 0 < n) : 0 ≤ bmV d a m e n ∧ bmV d a m e n < n := md_bd _ hn
theorem be_bd (a c m e : Int) {n : Int} (hn : 0 < n) : 0 ≤ beV a c m e n ∧ beV a c m e n < n := md_bd _ hn
end
section
open Go Go.RowKit

theorem tm_step {n o z : Int} {l : List Int} {k : Nat} (hk : k < l.length) (h : tmF n o (l.drop k) = z) : tmF n (o * (l[k] % n) % n) (l.drop (k + 1)) = z := by
  rw [List.drop_eq_getElem_cons hk] at h
  exact h
theorem tm_end {n o z : Int} {l : List Int} (h : tmF n o (l.drop l.length) = z) : z = o := by rw [List.drop_length] at h; exact h.symm
set_option linter.unusedVariables false in
set_option maxRecDepth 4000 in
set_option maxHeartbeats 2000000 in
theorem times_any (n : Int) (l : List Int) (g off c : Nat) (w : World) (hn : 0 < n) (hn2 : n ≤ 1000000000) (hl : l.length ≤ 100) (hc : l.length ≤ c)
    (hcell : ∀ j (h : j < l.length), w.cell? ⟨g, off + j, none⟩ = some (.int .i64 (l[j]))) :
    Calls Tryz.prog 148 #[.int .i64 n, .slice (some ⟨g, off, none⟩) l.length c] w fun r w' => r = .returned (.int .i64 (tmV n l)) ∧ w = w' := by
  obtain ⟨h1a, h1b⟩ := md_bd 1 hn
  obtain ⟨Z, hZ⟩ : ∃ Z, tmV n l = Z := ⟨_, rfl⟩
  have HZ := Lib.hid (show tmF n (1 % n) (l.drop 0) = Z from hZ)
  have Hcell := Lib.hid hcell; clear hcell
  rw [hZ]; clear hZ
  have hn0 : ¬ n = 0 := by omega
  go_enter Tryz.func148, Tryz.ntmps148
  go_wp2
  go_loopw [5, 12] (fun o i wr => ∃ (k : Nat) (O : Int), k ≤ l.length ∧ i = .int .i64 (k : Int) ∧ o = .int .i64 O ∧ Hid (tmF n O (l.drop k) = Z) ∧ Hid (0 ≤ O ∧ O < n) ∧ Hid (wr = w)) (fun _ i _ => l.length - (intOf i).toNat)
  case atStart => exact ⟨0, 1 % n, Nat.zero_le _, rfl, rfl, HZ, Lib.hid ⟨h1a, h1b⟩, Lib.hid rfl⟩
  case round =>
    obtain ⟨k, O, hk, rfl, rfl, HS, HO, HW⟩ := hrel
    have hW := HW.out
    subst hW
    by_cases hlt : k < l.length
    · have hd : decide ((k : Int) < (l.length : Int)) = true := decide_eq_true (by omega)
      have hk0 : (0 : Int) ≤ (k : Int) := by omega
      have hk1 : (k : Int) < (l.length : Int) := by omega
      have hcl := Hcell.out k hlt
      have HS2 := Lib.hid (tm_step hlt HS.out)
      generalize l[k] = x at hcl HS2
      obtain ⟨y, hy⟩ : ∃ y, x % n = y := ⟨_, rfl⟩
      obtain ⟨y0, y1⟩ := md_bd x hn
      have HM := Lib.hid (fun w9 => modulo_lit hy w9 hn (by omega))
      rw [hy] at y0 y1 HS2
      obtain ⟨o0, o1⟩ := HO.out
      obtain ⟨m0, m1⟩ := mul_lt o0 o1 y0 y1 hn2
      have HB := Lib.hid (md_bd (O * y) hn)
      clear hy
      go_wp2_with fail
      refine (HM.out _).mono ?_; rintro r w3 ⟨rfl, rfl⟩
      go_wp2
      go_roundw
      case rel => exact ⟨k + 1, O * y % n, by omega, by go_num, rfl, HS2, HB, Lib.hid (by first | rfl | trivial)⟩
      case measure => simp [intOf]; omega
    · obtain rfl : k = l.length := by omega
      have hd : decide ((l.length : Int) < (l.length : Int)) = false := decide_eq_false (by omega)
      have Hf := Lib.hid (tm_end HS.out)
      go_wp2
      go_ret
      exact ⟨by rw [Hf.out] <;> rfl, rfl⟩
end
section
open Go Go.RowKit

theorem mdMod_lit {a p z : Int} (h : a % p = z) (w : World) (hp : 0 < p) (hp' : p ≤ 1000000000000000000) : Calls Tryz.prog 162 #[.int .i64 a, .int .i64 p] w fun e w' => e = .returned (.int .i64 z) ∧ Below w.heap.size w w' := by
  subst h
  refine (mdMod_any a p w hp hp').mono ?_
  rintro e w1 ⟨rfl, rfl⟩
  exact ⟨rfl, Below.refl _ _⟩
set_option linter.unusedVariables false in
set_option linter.unusedSimpArgs false in
set_option maxRecDepth 8000 in
set_option maxHeartbeats 8000000 in
theorem loAt_any (d a c m e n : Int) (w : World) (hn : 0 < n) (hn2 : n ≤ 1000000000) (hm : 0 ≤ m ∧ m < n) (he : 0 ≤ e ∧ e < n) :
    Calls Tryz.prog 157 #[.agg #[.int .i64 d, .int .i64 a, .int .i64 c], .int .i64 m, .int .i64 e, .int .i64 n] w fun r w' => r = .returned (.tuple #[.int .i64 (vqV d a c m e n), .int .i64 (bmV d a m e n), .int .i64 (beV a c m e n)]) ∧ Below w.heap.size w w' := by
    have V1 := Lib.hid (at_value d a c m e n)
    have V2 := Lib.hid (at_byM d a m e n)
    have V3 := Lib.hid (at_byE a c m e n)
    have hn0 : ¬ n = 0 := by omega
    have HD := Lib.hid (fun (w9 : World) => mdMod_lit (show d % n = d % n from rfl) w9 hn (by omega))
    have BD := md_bd d hn
    have HA := Lib.hid (fun (w9 : World) => mdMod_lit (show a % n = a % n from rfl) w9 hn (by omega))
    have BA := md_bd a hn
    have HC := Lib.hid (fun (w9 : World) => mdMod_lit (show c % n = c % n from rfl) w9 hn (by omega))
    have BC := md_bd c hn
    generalize vqV d a c m e n = R1 at *
    generalize bmV d a m e n = R2 at *
    generalize beV a c m e n = R3 at *
    generalize d % n = D at *
    generalize a % n = A at *
    generalize c % n = C at *
    obtain ⟨D0, D1⟩ := BD; obtain ⟨A0, A1⟩ := BA; obtain ⟨C0, C1⟩ := BC
    obtain ⟨m0, m1⟩ := hm; obtain ⟨e0, e1⟩ := he
    obtain ⟨p1, s1⟩ := mul_lt m0 m1 m0 m1 hn2
    obtain ⟨r1, t1⟩ := md_bd (m * m) hn
    obtain ⟨p2, s2⟩ := mul_lt e0 e1 e0 e1 hn2
    obtain ⟨r2, t2⟩ := md_bd (e * e) hn
    obtain ⟨p3, s3⟩ := mul_lt r1 t1 r1 t1 hn2
    obtain ⟨r3, t3⟩ := md_bd ((m * m % n) * (m * m % n)) hn
    obtain ⟨p4, s4⟩ := mul_lt D0 D1 r3 t3 hn2
    obtain ⟨r4, t4⟩ := md_bd (D * ((m * m % n) * (m * m % n) % n)) hn
    obtain ⟨p5, s5⟩ := mul_lt r1 t1 r2 t2 hn2
    obtain ⟨r5, t5⟩ := md_bd ((m * m % n) * (e * e % n)) hn
    obtain ⟨p6, s6⟩ := mul_lt A0 A1 r5 t5 hn2
    obtain ⟨r6, t6⟩ := md_bd (A * ((m * m % n) * (e * e % n) % n)) hn
    obtain ⟨p7, s7⟩ := mul_lt r2 t2 r2 t2 hn2
    obtain ⟨r7, t7⟩ := md_bd ((e * e % n) * (e * e % n)) hn
    obtain ⟨p8, s8⟩ := mul_lt C0 C1 r7 t7 hn2
    obtain ⟨r8, t8⟩ := md_bd (C * ((e * e % n) * (e * e % n) % n)) hn
    obtain ⟨p9, s9⟩ := mul_lt r1 t1 m0 m1 hn2
    obtain ⟨r9, t9⟩ := md_bd ((m * m % n) * m) hn
    obtain ⟨p10, s10⟩ := mul_lt D0 D1 r9 t9 hn2
    obtain ⟨r10, t10⟩ := md_bd (D * ((m * m % n) * m % n)) hn
    obtain ⟨p11, s11⟩ := mul_lt m0 m1 r2 t2 hn2
    obtain ⟨r11, t11⟩ := md_bd (m * (e * e % n)) hn
    obtain ⟨p12, s12⟩ := mul_lt A0 A1 r11 t11 hn2
    obtain ⟨r12, t12⟩ := md_bd (A * (m * (e * e % n) % n)) hn
    obtain ⟨p13, s13⟩ := mul_lt r1 t1 e0 e1 hn2
    obtain ⟨r13, t13⟩ := md_bd ((m * m % n) * e) hn
    obtain ⟨p14, s14⟩ := mul_lt A0 A1 r13 t13 hn2
    obtain ⟨r14, t14⟩ := md_bd (A * ((m * m % n) * e % n)) hn
    obtain ⟨p15, s15⟩ := mul_lt r2 t2 e0 e1 hn2
    obtain ⟨r15, t15⟩ := md_bd ((e * e % n) * e) hn
    obtain ⟨p16, s16⟩ := mul_lt C0 C1 r15 t15 hn2
    obtain ⟨r16, t16⟩ := md_bd (C * ((e * e % n) * e % n)) hn
    go_enter Tryz.func157, Tryz.ntmps157
    go_upto_region 1 with fail
    obtain ⟨w1, hw9⟩ : ∃ x, x = (World.alloc w (Obj.cells #[.int .i64 d, .int .i64 a, .int .i64 c] 82)) := ⟨_, rfl⟩
    rw [← hw9]
    have hb1 : Below ((World.alloc w (Obj.cells #[.int .i64 d, .int .i64 a, .int .i64 c] 82))).heap.size (World.alloc w (Obj.cells #[.int .i64 d, .int .i64 a, .int .i64 c] 82)) w1 := by rw [hw9]; exact Below.refl _ _
    have S1 := Lib.hid (show w.heap.size + 1 ≤ w1.heap.size by have h9 := hb1.size; (try simp only [World.size_alloc, World.size_setCell, World.size_drew] at h9); omega)
    have NQQ := Lib.hid ((Blk.new w 82 #[.int .i64 d, .int .i64 a, .int .i64 c]).on hb1)
    have QQ := NQQ; clear NQQ
    have Hb1 := Lib.hid (bthen (bal (Below.refl w.heap.size w) (Obj.cells #[.int .i64 d, .int .i64 a, .int .i64 c] 82)) hb1)
    clear hb1
    clear hw9
    have qQQ0 : w1.cell? ⟨w.heap.size, 0, none⟩ = some (.int .i64 d) := QQ.out.cell 0
    have qQQ1 : w1.cell? ⟨w.heap.size, 1, none⟩ = some (.int .i64 a) := QQ.out.cell 1
    have qQQ2 : w1.cell? ⟨w.heap.size, 2, none⟩ = some (.int .i64 c) := QQ.out.cell 2
    have qQQl := QQ.out.lt
    go_wp2_with fail
    refine wp_region_tame (by kernel_rfl) (by kernel_rfl) (fun T _ W hT => ?_)
    have hx := hT.cell
    repeat (go_big_quiet_step ((first | (go_at_call 162; with_reducible first | exact hT.call (HD.out _) | exact hT.call (HA.out _) | exact hT.call (HC.out _)) | fail)))
    refine wpQuiet_nil ?_
    intro tt
    clear hx
    have hb2 := hT.below tt
    generalize W tt = w2 at hb2 ⊢
    clear hT
    clear qQQ0 qQQ1 qQQ2 qQQl
    have S2 := Lib.hid (show w1.heap.size + 0 ≤ w2.heap.size by have h9 := hb2.size; (try simp only [World.size_alloc, World.size_setCell, World.size_drew] at h9); omega)
    have Z2 := Lib.hid (And.intro S1.out S2.out)
    have NQQ := Lib.hid (QQ.out.on hb2)
    have QQ := NQQ; clear NQQ
    have Hb2 := Lib.hid (bthen Hb1.out hb2)
    clear hb2
    go_wp2_with fail
    refine wp_region_tame (by kernel_rfl) (by kernel_rfl) (fun T _ W hT => ?_)
    have hx := hT.cell
    repeat (go_big_quiet_step ((first | fail)))
    refine wpQuiet_nil ?_
    intro tt
    clear hx
    have hb3 := hT.below tt
    generalize W tt = w3 at hb3 ⊢
    clear hT
    have S3 := Lib.hid (show w2.heap.size + 0 ≤ w3.heap.size by have h9 := hb3.size; (try simp only [World.size_alloc, World.size_setCell, World.size_drew] at h9); omega)
    have Z3 := Lib.hid (And.intro Z2.out S3.out)
    have NQQ := Lib.hid (QQ.out.on hb3)
    have QQ := NQQ; clear NQQ
    have Hb3 := Lib.hid (bthen Hb2.out hb3)
    clear hb3
    go_wp2_with fail
    refine wp_region_tame (by kernel_rfl) (by kernel_rfl) (fun T _ W hT => ?_)
    have hx := hT.cell
    repeat (go_big_quiet_step ((first | fail)))
    refine wpQuiet_nil ?_
    intro tt
    clear hx
    have hb4 := hT.below tt
    generalize W tt = w4 at hb4 ⊢
    clear hT
    have S4 := Lib.hid (show w3.heap.size + 0 ≤ w4.heap.size by have h9 := hb4.size; (try simp only [World.size_alloc, World.size_setCell, World.size_drew] at h9); omega)
    have Z4 := Lib.hid (And.intro Z3.out S4.out)
    have NQQ := Lib.hid (QQ.out.on hb4)
    have QQ := NQQ; clear NQQ
    have Hb4 := Lib.hid (bthen Hb3.out hb4)
    clear hb4
    go_wp2_with fail
    refine wp_region_tame (by kernel_rfl) (by kernel_rfl) (fun T _ W hT => ?_)
    have hx := hT.cell
    repeat (go_big_quiet_step ((first | fail)))
    refine wpQuiet_nil ?_
    intro tt
    clear hx
    have hb5 := hT.below tt
    generalize W tt = w5 at hb5 ⊢
    clear hT
    have S5 := Lib.hid (show w4.heap.size + 0 ≤ w5.heap.size by have h9 := hb5.size; (try simp only [World.size_alloc, World.size_setCell, World.size_drew] at h9); omega)
    have Z5 := Lib.hid (And.intro Z4.out S5.out)
    have NQQ := Lib.hid (QQ.out.on hb5)
    have QQ := NQQ; clear NQQ
    have Hb5 := Lib.hid (bthen Hb4.out hb5)
    clear hb5
    go_wp2_with fail
    refine wp_region_tame (by kernel_rfl) (by kernel_rfl) (fun T _ W hT => ?_)
    have hx := hT.cell
    repeat (go_big_quiet_step ((first | fail)))
    refine wpQuiet_nil ?_
    intro tt
    clear hx
    have hb6 := hT.below tt
    generalize W tt = w6 at hb6 ⊢
    clear hT
    have S6 := Lib.hid (show w5.heap.size + 0 ≤ w6.heap.size by have h9 := hb6.size; (try simp only [World.size_alloc, World.size_setCell, World.size_drew] at h9); omega)
    have Z6 := Lib.hid (And.intro Z5.out S6.out)
    have NQQ := Lib.hid (QQ.out.on hb6)
    have QQ := NQQ; clear NQQ
    have Hb6 := Lib.hid (bthen Hb5.out hb6)
    clear hb6
    go_wp2
    exact bodyPost_ret (v := .tuple #[.int .i64 R1, .int .i64 R2, .int .i64 R3]) (by simp [results, Tryz.results157, go_sem]; exact ⟨by first | exact V1.out | simpa using V1.out, by first | exact V2.out | simpa using V2.out, by first | exact V3.out | simpa using V3.out⟩) rfl ⟨rfl, Hb6.out⟩
end
section
open Go Go.RowKit

theorem ofV_le {n p k : Nat} (hp : 2 ≤ p) (hn : n < p ^ k) : ofV n p k ≤ k := by
  unfold ofV
  by_cases h : n = 0
  · rw [if_pos h]; exact Nat.le_refl _
  · rw [if_neg h]; exact Nat.le_of_lt (vl_lt hp (by omega) hn)
/-- What is lost, out of the three residues. -/
def lwV (p k j x y : Nat) : Nat := if j < k then min (min x y) (j / 2 + if p = 2 then 1 else 0) else min x y
def vqN (d a c : Int) (m e p k : Nat) : Nat := (vqV d a c m e ((p ^ k : Nat) : Int)).toNat
def bmN (d a : Int) (m e p k : Nat) : Nat := (bmV d a m e ((p ^ k : Nat) : Int)).toNat
def beN (a c : Int) (m e p k : Nat) : Nat := (beV a c m e ((p ^ k : Nat) : Int)).toNat
/-- Is a pair possible modulo p ^ k? -/
def lpB (d a c : Int) (m e p k : Nat) : Bool := sqV (vqN d a c m e p k) p k
/-- Does a possible pair lift? -/
def llB (d a c : Int) (m e p k : Nat) : Bool := decide (2 * lwV p k (ofV (vqN d a c m e p k) p k) (ofV (bmN d a m e p k) p k) (ofV (beN a c m e p k) p k) + 1 ≤ k)
structure LF (d a c : Int) (m e p k V M E : Nat) : Prop where
  f1 : vqV d a c m e ((p ^ k : Nat) : Int) = (V : Int)
  f2 : bmV d a m e ((p ^ k : Nat) : Int) = (M : Int)
  f3 : beV a c m e ((p ^ k : Nat) : Int) = (E : Int)
  f4 : V < p ^ k
  f5 : M < p ^ k
  f6 : E < p ^ k
theorem LF.of (d a c : Int) (m e : Nat) {p : Nat} (k : Nat) (hp : 2 ≤ p) : LF d a c m e p k (vqN d a c m e p k) (bmN d a m e p k) (beN a c m e p k) := by
  have h0 : 0 < p ^ k := Nat.pow_pos (by omega)
  have h1 := vq_bd d a c m e (n := ((p ^ k : Nat) : Int)) (by omega)
  have h2 := bm_bd d a m e (n := ((p ^ k : Nat) : Int)) (by omega)
  have h3 := be_bd a c m e (n := ((p ^ k : Nat) : Int)) (by omega)
  refine ⟨?_, ?_, ?_, ?_, ?_, ?_⟩ <;> (try unfold vqN) <;> (try unfold bmN) <;> (try unfold beN) <;> omega
theorem loPower_blw (p k : Nat) (w : World) (hp : 0 < p) (hp2 : p ≤ 1000000000) (hk : k ≤ 100) (hb : p ^ k ≤ 1000000000) :
    Calls Tryz.prog 153 #[.int .i64 (p : Int), .int .i64 (k : Int)] w fun r w' => r = .returned (.int .i64 ((p ^ k : Nat) : Int)) ∧ Below w.heap.size w w' := by
  refine (loPower_any p k w hp hp2 hk hb).mono ?_
  rintro e w1 ⟨rfl, rfl⟩
  exact ⟨rfl, Below.refl _ _⟩
theorem l1LeastK_blw {x y z : Int} (h : min x y = z) (w : World) : Calls Tryz.prog 159 #[.int .i64 x, .int .i64 y] w fun e w' => e = .returned (.int .i64 z) ∧ Below w.heap.size w w' := by
  refine (l1LeastK_lit h w).mono ?_
  rintro e w1 ⟨rfl, rfl⟩
  exact ⟨rfl, Below.refl _ _⟩
set_option linter.unusedVariables false in
set_option linter.unusedSimpArgs false in
set_option maxRecDepth 8000 in
set_option maxHeartbeats 4000000 in
theorem loLifts_any (d a c : Int) (m e p k : Nat) (w : World) (hp : 2 ≤ p) (hp2 : p ≤ 1000) (hk : k ≤ 100) (hb : p ^ k ≤ 1000000000) (hm : m < p ^ k) (he : e < p ^ k) :
    Calls Tryz.prog 152 #[.agg #[.int .i64 d, .int .i64 a, .int .i64 c], .int .i64 (m : Int), .int .i64 (e : Int), .int .i64 (p : Int), .int .i64 (k : Int)] w fun r w' => r = .returned (.tuple #[.bool (lpB d a c m e p k), .bool (lpB d a c m e p k && llB d a c m e p k)]) ∧ Below w.heap.size w w' := by
    have L := LF.of d a c m e k hp
    have h0 : 0 < p ^ k := Nat.pow_pos (by omega)
    have Hp1 := Lib.hid (show lpB d a c m e p k = sqV (vqN d a c m e p k) p k from rfl)
    have Hp2 := Lib.hid (show llB d a c m e p k = decide (2 * lwV p k (ofV (vqN d a c m e p k) p k) (ofV (bmN d a m e p k) p k) (ofV (beN a c m e p k) p k) + 1 ≤ k) from rfl)
    generalize lpB d a c m e p k = B1 at Hp1 ⊢
    generalize llB d a c m e p k = B2 at Hp2 ⊢
    generalize vqN d a c m e p k = V at *
    generalize bmN d a m e p k = M at *
    generalize beN a c m e p k = E at *
    obtain ⟨l1, l2, l3, l4, l5, l6⟩ := L
    have Ha := Lib.hid (fun w9 => by have := loAt_any d a c m e ((p ^ k : Nat) : Int) w9 (by omega) (by omega) (by omega) (by omega); rwa [l1, l2, l3] at this)
    have Hw := Lib.hid (fun w9 => loPower_blw p k w9 (by omega) (by omega) hk hb)
    have Hs := Lib.hid (fun w9 => loSquare_any V p k w9 hp hp2 hk l4 hb)
    have Ho1 := Lib.hid (fun w9 => often_any V p k w9 hp hp2 l4 hb)
    have Ho2 := Lib.hid (fun w9 => often_any M p k w9 hp hp2 l5 hb)
    have Ho3 := Lib.hid (fun w9 => often_any E p k w9 hp hp2 l6 hb)
    have b1 := ofV_le hp l4
    have b2 := ofV_le hp l5
    have b3 := ofV_le hp l6
    clear l1 l2 l3 l4 l5 l6 hm he h0 hb
    generalize p ^ k = PK at *
    generalize sqV V p k = S at *
    generalize ofV V p k = j at *
    generalize ofV M p k = x at *
    generalize ofV E p k = y at *
    go_enter Tryz.func152, Tryz.ntmps152
    go_upto_region 1 with fail
    obtain ⟨w1, hw9⟩ : ∃ x, x = (World.alloc w (Obj.cells #[.int .i64 d, .int .i64 a, .int .i64 c] 82)) := ⟨_, rfl⟩
    rw [← hw9]
    have hb1 : Below ((World.alloc w (Obj.cells #[.int .i64 d, .int .i64 a, .int .i64 c] 82))).heap.size (World.alloc w (Obj.cells #[.int .i64 d, .int .i64 a, .int .i64 c] 82)) w1 := by rw [hw9]; exact Below.refl _ _
    have S1 := Lib.hid (show w.heap.size + 1 ≤ w1.heap.size by have h9 := hb1.size; (try simp only [World.size_alloc, World.size_setCell, World.size_drew] at h9); omega)
    have NQQ := Lib.hid ((Blk.new w 82 #[.int .i64 d, .int .i64 a, .int .i64 c]).on hb1)
    have QQ := NQQ; clear NQQ
    have Hb1 := Lib.hid (bthen (bal (Below.refl w.heap.size w) (Obj.cells #[.int .i64 d, .int .i64 a, .int .i64 c] 82)) hb1)
    clear hb1
    clear hw9
    have qQQ0 : w1.cell? ⟨w.heap.size, 0, none⟩ = some (.int .i64 d) := QQ.out.cell 0
    have qQQ1 : w1.cell? ⟨w.heap.size, 1, none⟩ = some (.int .i64 a) := QQ.out.cell 1
    have qQQ2 : w1.cell? ⟨w.heap.size, 2, none⟩ = some (.int .i64 c) := QQ.out.cell 2
    have qQQl := QQ.out.lt
    go_wp2_with fail
    refine wp_region_tame (by kernel_rfl) (by kernel_rfl) (fun T _ W hT => ?_)
    have hx := hT.cell
    repeat (go_big_quiet_step ((first | (go_at_call 153; with_reducible exact hT.call (Hw.out _)) | (go_at_call 157; with_reducible exact hT.call (Ha.out _)) | fail)))
    refine wpQuiet_nil ?_
    intro tt
    clear hx
    have hb2 := hT.below tt
    generalize W tt = w2 at hb2 ⊢
    clear hT
    clear qQQ0 qQQ1 qQQ2 qQQl
    have S2 := Lib.hid (show w1.heap.size + 0 ≤ w2.heap.size by have h9 := hb2.size; (try simp only [World.size_alloc, World.size_setCell, World.size_drew] at h9); omega)
    have Z2 := Lib.hid (And.intro S1.out S2.out)
    have NQQ := Lib.hid (QQ.out.on hb2)
    have QQ := NQQ; clear NQQ
    have Hb2 := Lib.hid (bthen Hb1.out hb2)
    clear hb2
    go_wp2_with fail
    refine (Hs.out _).mono ?_; rintro e w3 ⟨rfl, hb3⟩
    have S3 := Lib.hid (show w2.heap.size + 0 ≤ w3.heap.size by have h9 := hb3.size; (try simp only [World.size_alloc, World.size_setCell, World.size_drew] at h9); omega)
    have Z3 := Lib.hid (And.intro Z2.out S3.out)
    have NQQ := Lib.hid (QQ.out.on hb3)
    have QQ := NQQ; clear NQQ
    have Hb3 := Lib.hid (bthen Hb2.out hb3)
    clear hb3
    cases S
    · go_wp2
      exact bodyPost_ret (v := .tuple #[.bool false, .bool false]) (by simp [results, Tryz.results152, go_sem]) rfl ⟨by rw [Hp1.out] <;> rfl, Hb3.out⟩
    · go_wp2_with fail
      refine (Ho2.out _).mono ?_; rintro e w4 ⟨rfl, hb4⟩
      have S4 := Lib.hid (show w3.heap.size + 0 ≤ w4.heap.size by have h9 := hb4.size; (try simp only [World.size_alloc, World.size_setCell, World.size_drew] at h9); omega)
      have Z4 := Lib.hid (And.intro Z3.out S4.out)
      have NQQ := Lib.hid (QQ.out.on hb4)
      have QQ := NQQ; clear NQQ
      have Hb4 := Lib.hid (bthen Hb3.out hb4)
      clear hb4
      go_wp2_with fail
      refine (Ho3.out _).mono ?_; rintro e w5 ⟨rfl, hb5⟩
      have S5 := Lib.hid (show w4.heap.size + 0 ≤ w5.heap.size by have h9 := hb5.size; (try simp only [World.size_alloc, World.size_setCell, World.size_drew] at h9); omega)
      have Z5 := Lib.hid (And.intro Z4.out S5.out)
      have NQQ := Lib.hid (QQ.out.on hb5)
      have QQ := NQQ; clear NQQ
      have Hb5 := Lib.hid (bthen Hb4.out hb5)
      clear hb5
      have Hmin := Lib.hid (show min (x : Int) (y : Int) = ((min x y : Nat) : Int) by omega)
      obtain ⟨z, hz⟩ : ∃ z, min x y = z := ⟨_, rfl⟩
      have hzb : z ≤ k := by omega
      rw [hz] at Hmin
      have Hz := Lib.hid hz; clear hz
      go_wp2_with fail
      refine (l1LeastK_blw Hmin.out _).mono ?_; rintro e w6 ⟨rfl, hb6⟩
      have S6 := Lib.hid (show w5.heap.size + 0 ≤ w6.heap.size by have h9 := hb6.size; (try simp only [World.size_alloc, World.size_setCell, World.size_drew] at h9); omega)
      have Z6 := Lib.hid (And.intro Z5.out S6.out)
      have NQQ := Lib.hid (QQ.out.on hb6)
      have QQ := NQQ; clear NQQ
      have Hb6 := Lib.hid (bthen Hb5.out hb6)
      clear hb6
      go_wp2_with fail
      refine (Ho1.out _).mono ?_; rintro e w7 ⟨rfl, hb7⟩
      have S7 := Lib.hid (show w6.heap.size + 0 ≤ w7.heap.size by have h9 := hb7.size; (try simp only [World.size_alloc, World.size_setCell, World.size_drew] at h9); omega)
      have Z7 := Lib.hid (And.intro Z6.out S7.out)
      have NQQ := Lib.hid (QQ.out.on hb7)
      have QQ := NQQ; clear NQQ
      have Hb7 := Lib.hid (bthen Hb6.out hb7)
      clear hb7
      by_cases hj : j < k
      · have hd : decide ((j : Int) < (k : Int)) = true := decide_eq_true (by omega)
        have hd2 : decide (j < k) = true := decide_eq_true hj
        have hj0 : (0 : Int) ≤ (j : Int) := by omega
        by_cases h2 : p = 2
        · have e2 : ((p : Int) == 2) = true := beq_iff_eq.2 (by omega)
          have Hm2 := Lib.hid (show min (z : Int) ((j : Int) / 2 + 1) = ((min z (j / 2 + 1) : Nat) : Int) by omega)
          obtain ⟨q, hq⟩ : ∃ q, min z (j / 2 + 1) = q := ⟨_, rfl⟩
          have hqb : q ≤ k := by omega
          rw [hq] at Hm2
          have H2 := Lib.hid h2; have Hj := Lib.hid hj; have Hq := Lib.hid hq; clear h2 hj hq
          go_wp2_with fail
          refine (l1LeastK_blw Hm2.out _).mono ?_; rintro e w8 ⟨rfl, hb8⟩
          have S8 := Lib.hid (show w7.heap.size + 0 ≤ w8.heap.size by have h9 := hb8.size; (try simp only [World.size_alloc, World.size_setCell, World.size_drew] at h9); omega)
          have Z8 := Lib.hid (And.intro Z7.out S8.out)
          have NQQ := Lib.hid (QQ.out.on hb8)
          have QQ := NQQ; clear NQQ
          have Hb8 := Lib.hid (bthen Hb7.out hb8)
          clear hb8
          have Hf := Lib.hid (show (B1 && B2) = decide ((k : Int) ≥ 2 * (q : Int) + 1) by rw [Hp1.out, Hp2.out, Bool.true_and]; unfold lwV; rw [if_pos Hj.out, if_pos H2.out, Hz.out, Hq.out]; try exact decide_eq_decide.2 (by omega))
          go_wp2
          exact bodyPost_ret (v := .tuple #[.bool true, .bool (decide ((k : Int) ≥ 2 * (q : Int) + 1))]) (by simp [results, Tryz.results152, go_sem]) rfl ⟨by rw [Hf.out, Hp1.out] <;> rfl, Hb8.out⟩
        · have e2 : ((p : Int) == 2) = false := beq_eq_false_iff_ne.2 (by omega)
          have Hm2 := Lib.hid (show min (z : Int) ((j : Int) / 2) = ((min z (j / 2) : Nat) : Int) by omega)
          obtain ⟨q, hq⟩ : ∃ q, min z (j / 2) = q := ⟨_, rfl⟩
          have hqb : q ≤ k := by omega
          rw [hq] at Hm2
          have H2 := Lib.hid h2; have Hj := Lib.hid hj; have Hq := Lib.hid hq; clear h2 hj hq
          go_wp2_with fail
          refine (l1LeastK_blw Hm2.out _).mono ?_; rintro e w9 ⟨rfl, hb9⟩
          have S9 := Lib.hid (show w7.heap.size + 0 ≤ w9.heap.size by have h9 := hb9.size; (try simp only [World.size_alloc, World.size_setCell, World.size_drew] at h9); omega)
          have Z9 := Lib.hid (And.intro Z7.out S9.out)
          have NQQ := Lib.hid (QQ.out.on hb9)
          have QQ := NQQ; clear NQQ
          have Hb9 := Lib.hid (bthen Hb7.out hb9)
          clear hb9
          have Hf := Lib.hid (show (B1 && B2) = decide ((k : Int) ≥ 2 * (q : Int) + 1) by rw [Hp1.out, Hp2.out, Bool.true_and]; unfold lwV; rw [if_pos Hj.out, if_neg H2.out, show j / 2 + 0 = j / 2 from rfl, Hz.out, Hq.out]; try exact decide_eq_decide.2 (by omega))
          go_wp2
          exact bodyPost_ret (v := .tuple #[.bool true, .bool (decide ((k : Int) ≥ 2 * (q : Int) + 1))]) (by simp [results, Tryz.results152, go_sem]) rfl ⟨by rw [Hf.out, Hp1.out] <;> rfl, Hb9.out⟩
      · have hd : decide ((j : Int) < (k : Int)) = false := decide_eq_false (by omega)
        have hd2 : decide (j < k) = false := decide_eq_false hj
        have Hj := Lib.hid hj; clear hj
        have Hf := Lib.hid (show (B1 && B2) = decide ((k : Int) ≥ 2 * (z : Int) + 1) by rw [Hp1.out, Hp2.out, Bool.true_and]; unfold lwV; rw [if_neg Hj.out]; rw [Hz.out]; exact decide_eq_decide.2 (by omega))
        go_wp2
        exact bodyPost_ret (v := .tuple #[.bool true, .bool (decide ((k : Int) ≥ 2 * (z : Int) + 1))]) (by simp [results, Tryz.results152, go_sem]) rfl ⟨by rw [Hf.out, Hp1.out] <;> rfl, Hb7.out⟩
end
section
open Go Go.RowKit

/-- A residue modulo p ^ k that is possible at every level up to k. -/
def Pth (P : Nat → Nat → Bool) (p k x : Nat) : Prop := x < p ^ k ∧ ∀ j, 1 ≤ j → j ≤ k → P (x % p ^ j) j = true
theorem pw_pos {p : Nat} (hp : 2 ≤ p) (k : Nat) : 0 < p ^ k := Nat.pow_pos (by omega)
theorem mod_low {p i j x t : Nat} (h : j ≤ i) : (x + t * p ^ i) % p ^ j = x % p ^ j := by
  have e : p ^ i = p ^ j * p ^ (i - j) := by rw [← Nat.pow_add]; congr 1; omega
  rw [e, ← Nat.mul_assoc, Nat.mul_comm t, Nat.mul_assoc, Nat.add_mul_mod_self_left]
theorem lt_next {p i x t : Nat} (hx : x < p ^ i) (ht : t < p) : x + t * p ^ i < p ^ (i + 1) := by
  have h := Nat.mul_le_mul_right (p ^ i) (show t + 1 ≤ p by omega)
  rw [Nat.pow_succ, Nat.mul_comm (p ^ i)]
  rw [Nat.succ_mul] at h
  omega
theorem Pth.next {P : Nat → Nat → Bool} {p k y : Nat} (hp : 2 ≤ p) : Pth P p (k + 1) y ↔ ∃ x t, Pth P p k x ∧ t < p ∧ y = x + t * p ^ k ∧ P y (k + 1) = true := by
  constructor
  · rintro ⟨h1, h2⟩
    have hk := pw_pos hp k
    refine ⟨y % p ^ k, y / p ^ k, ⟨Nat.mod_lt _ hk, fun j h3 h4 => ?_⟩, ?_, ?_, ?_⟩
    · have h5 := h2 j h3 (by omega)
      have h6 := mod_low (p := p) (x := y % p ^ k) (t := y / p ^ k) h4
      rw [Nat.mul_comm, Nat.mod_add_div] at h6
      rw [← h6]; exact h5
    · rw [Nat.div_lt_iff_lt_mul hk, Nat.mul_comm, ← Nat.pow_succ]; exact h1
    · rw [Nat.mul_comm, Nat.mod_add_div]
    · have h5 := h2 (k + 1) (by omega) (Nat.le_refl _)
      rw [Nat.mod_eq_of_lt h1] at h5; exact h5
  · rintro ⟨x, t, ⟨h1, h2⟩, ht, rfl, h3⟩
    refine ⟨lt_next h1 ht, fun j h4 h5 => ?_⟩
    rcases Nat.lt_or_ge k j with h | h
    · obtain rfl : j = k + 1 := by omega
      rw [Nat.mod_eq_of_lt (lt_next h1 ht)]; exact h3
    · rw [mod_low h]; exact h2 j h4 h
/-- The tree's search below x of level i, r levels on: is there a possible pair that passes Q? -/
def bsE (P : Nat → Nat → Bool) (Q : Nat → Bool) (p : Nat) : Nat → Nat → Nat → Bool
  | 0, x, i => (i == 0 || P x i) && Q x
  | r + 1, x, i => (i == 0 || P x i) && (List.range p).any (fun t => bsE P Q p r (x + t * p ^ i) (i + 1))
theorem bsE_iff {P : Nat → Nat → Bool} {Q : Nat → Bool} {p : Nat} (hp : 2 ≤ p) : ∀ (r x i : Nat), x < p ^ i →
    (bsE P Q p r x i = true ↔ ∃ y, y < p ^ (i + r) ∧ y % p ^ i = x ∧ (∀ j, 1 ≤ j → i ≤ j → j ≤ i + r → P (y % p ^ j) j = true) ∧ Q y = true) := by
  intro r
  induction r with
  | zero =>
    intro x i hx
    unfold bsE
    rw [Bool.and_eq_true, Bool.or_eq_true, beq_iff_eq]
    constructor
    · rintro ⟨h1, h2⟩
      refine ⟨x, hx, Nat.mod_eq_of_lt hx, fun j h3 h4 h5 => ?_, h2⟩
      obtain rfl : j = i := by omega
      rw [Nat.mod_eq_of_lt hx]
      rcases h1 with h1 | h1
      · omega
      · exact h1
    · rintro ⟨y, h1, h2, h3, h4⟩
      rw [Nat.add_zero] at h1
      rw [Nat.mod_eq_of_lt h1] at h2
      subst h2
      refine ⟨?_, h4⟩
      rcases Nat.eq_zero_or_pos i with h | h
      · exact .inl h
      · have := h3 i h (Nat.le_refl _) (by omega)
        rw [Nat.mod_eq_of_lt h1] at this
        exact .inr this
  | succ r ih =>
    intro x i hx
    unfold bsE
    rw [Bool.and_eq_true, Bool.or_eq_true, beq_iff_eq, List.any_eq_true]
    constructor
    · rintro ⟨h1, t, ht, h2⟩
      rw [List.mem_range] at ht
      obtain ⟨y, h3, h4, h5, h6⟩ := (ih _ _ (lt_next hx ht)).1 h2
      have hyi : y % p ^ i = x := by
        have e := mod_low (p := p) (i := i + 1) (j := i) (x := y % p ^ (i + 1)) (t := y / p ^ (i + 1)) (by omega)
        rw [Nat.mul_comm, Nat.mod_add_div, h4, mod_low (Nat.le_refl _), Nat.mod_eq_of_lt hx] at e
        exact e
      refine ⟨y, by rw [show i + (r + 1) = i + 1 + r by omega]; exact h3, hyi, fun j h7 h8 h9 => ?_, h6⟩
      rcases Nat.lt_or_ge i j with h | h
      · exact h5 j h7 (by omega) (by omega)
      · obtain rfl : j = i := by omega
        rw [hyi]
        rcases h1 with h1 | h1
        · omega
        · exact h1
    · rintro ⟨y, h1, h2, h3, h4⟩
      refine ⟨?_, y / p ^ i % p, List.mem_range.2 (Nat.mod_lt _ (by omega)), ?_⟩
      · rcases Nat.eq_zero_or_pos i with h | h
        · exact .inl h
        · have := h3 i h (Nat.le_refl _) (by omega)
          rw [h2] at this
          exact .inr this
      · have e : x + y / p ^ i % p * p ^ i = y % p ^ (i + 1) := by
          rw [Nat.mod_pow_succ, h2, Nat.mul_comm]
        rw [e]
        exact (ih _ _ (Nat.mod_lt _ (pw_pos hp _))).2 ⟨y, by rw [show i + 1 + r = i + (r + 1) by omega]; exact h1, rfl, fun j h7 h8 h9 => h3 j h7 (by omega) (by omega), h4⟩
/-- From the root: the tree finds what is possible at every level. -/
theorem bsE_root {P : Nat → Nat → Bool} {Q : Nat → Bool} {p : Nat} (hp : 2 ≤ p) (k : Nat) : bsE P Q p k 0 0 = true ↔ ∃ y, Pth P p k y ∧ Q y = true := by
  rw [bsE_iff hp k 0 0 (pw_pos hp 0), Nat.zero_add]
  constructor
  · rintro ⟨y, h1, -, h3, h4⟩; exact ⟨y, ⟨h1, fun j h5 h6 => h3 j h5 (Nat.zero_le _) h6⟩, h4⟩
  · rintro ⟨y, ⟨h1, h2⟩, h4⟩; exact ⟨y, h1, by rw [Nat.pow_zero, Nat.mod_one], fun j h5 _ h6 => h2 j h5 h6, h4⟩
end
end Go.Proofs.YthdfpfhkmfmnbaaGreat
