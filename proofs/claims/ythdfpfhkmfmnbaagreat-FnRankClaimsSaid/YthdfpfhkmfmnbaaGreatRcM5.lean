/- Own texts put together: Plain laws: the float root of a small whole number is bounded; whole roots; greatest common divisors; The walks: math; Values of quartics, and the number of their points within a bound: the walks of both sides; Powers and the depth of a prime: the walks of both sides; Residues: the walks of both sides (residue, power, symbol, primes). Conditions: those of each theorem. -/
import Derived.Laws.FloatArith
import Derived.Test.YthdfpfhkmfmnbaaGreatRcM1
import Derived.Laws.Externs
import Derived.IntWalk
import Derived.Test.YthdfpfhkmfmnbaaGreatRcM4
namespace Go.Proofs.YthdfpfhkmfmnbaaGreat
section
open Go

/-! ### The square root of a small whole number, in floats: bounded, and a whole number can be made of it -/
theorem rootFrom_sq (n : Nat) : ∀ (todo root : Nat), root * root ≤ n → Ieee.Datum.rootFrom n todo root * Ieee.Datum.rootFrom n todo root ≤ n
  | 0, root, h => h
  | todo + 1, root, h => by
    unfold Ieee.Datum.rootFrom
    by_cases hl : (root + 1 <<< todo) * (root + 1 <<< todo) ≤ n
    · simp only [hl, if_true]
      exact rootFrom_sq n todo _ hl
    · simp only [hl, if_false]
      exact rootFrom_sq n todo _ h

theorem log_lt {m k : Nat} (h : m < 2 ^ (k + 1)) : m.log2 ≤ k := by
  by_cases h0 : m = 0
  · subst h0; simp
  · exact Nat.le_of_lt_succ ((Nat.log2_lt h0).2 h)

/-- A number that is cut loses digits: it stays small. -/
theorem cut_le (way : Ieee.Toward) (n drop k : Nat) (h : n.log2 ≤ k + drop) : way.cut false n drop ≤ 2 ^ (k + 1) := by
  unfold Ieee.Toward.cut
  have hlow : n / (1 <<< min drop (n.log2 + 2)) < 2 ^ (k + 1) := by
    rw [Nat.one_shiftLeft]
    have hn : n < 2 ^ (n.log2 + 1) := Nat.lt_log2_self
    rcases Nat.le_total drop (n.log2 + 2) with hm | hm
    · rw [Nat.min_eq_left hm]
      refine Nat.div_lt_of_lt_mul ?_
      rw [← Nat.pow_add]
      exact Nat.lt_of_lt_of_le hn (Nat.pow_le_pow_right (by omega) (by omega))
    · rw [Nat.min_eq_right hm, Nat.div_eq_of_lt (Nat.lt_of_lt_of_le hn (Nat.pow_le_pow_right (by omega) (by omega)))]
      exact Nat.two_pow_pos _
  have hb : ∀ b : Bool, b.toNat ≤ 1 := fun b => by cases b <;> simp
  simp only
  refine Nat.le_trans (Nat.add_le_add_left (hb _) _) hlow

theorem near_read {mag : Nat} {place L : Int} (h : place + mag.log2 ≤ L) (h1 : -1000 ≤ L) (h2 : L ≤ 900) :
    ∃ (m : Nat) (p : Int), Ieee.double.read (Ieee.double.nearest false mag place) = .number false m p ∧ m < 2 ^ 53 ∧ p ≤ L - 51 := by
  have e1 : Ieee.double.leastPlace = -1074 := rfl
  have e2 : Ieee.double.binade = 2 ^ 52 := rfl
  have e3 : Ieee.double.infRung = 2047 * 2 ^ 52 := rfl
  have e4 : Ieee.double.signWeight = 2 ^ 63 := rfl
  have e5 : Ieee.double.fractionBits = 52 := rfl
  obtain ⟨rung, hr, hle⟩ : ∃ rung : Nat, Ieee.double.nearest false mag place = rung ∧ (rung : Int) ≤ (L + 1024) * 4503599627370496 := by
    unfold Ieee.Format.nearest
    by_cases h0 : mag = 0
    · rw [if_pos h0]
      exact ⟨0, rfl, by omega⟩
    · rw [if_neg h0, e1, e2, e3, e5]
      simp only
      obtain ⟨last, hlast⟩ : ∃ last : Int, last = max (place + (mag.log2 : Int) - (52 : Nat)) (-1074) := ⟨_, rfl⟩
      rw [← hlast]
      have hkept : Ieee.Toward.even.cut false (mag <<< (place - last).toNat) (last - place).toNat ≤ 2 ^ 53 := by
        by_cases hp : place < last
        · have hz : (place - last).toNat = 0 := by omega
          rw [hz, Nat.shiftLeft_zero]
          exact cut_le _ _ _ 52 (by omega)
        · have hz : (last - place).toNat = 0 := by omega
          rw [hz]
          refine cut_le _ _ _ 52 ?_
          refine log_lt ?_
          rw [Nat.shiftLeft_eq]
          have hm : mag < 2 ^ (mag.log2 + 1) := Nat.lt_log2_self
          refine Nat.lt_of_lt_of_le (Nat.mul_lt_mul_of_pos_right hm (Nat.two_pow_pos _)) ?_
          rw [← Nat.pow_add]
          exact Nat.pow_le_pow_right (by omega) (by omega)
      generalize Ieee.Toward.even.cut false (mag <<< (place - last).toNat) (last - place).toNat = kept at hkept
      refine ⟨_, rfl, ?_⟩
      unfold Ieee.Format.word
      simp only [Bool.false_eq_true, if_false]
      have hl : last ≤ L - 52 := by omega
      have hl2 : -1074 ≤ last := by omega
      have hz : ((last - -1074).toNat : Int) = last + 1074 := by omega
      generalize (last - -1074).toNat = q at hz
      have h53 : (2 : Nat) ^ 53 = 2 * 4503599627370496 := rfl
      have h52 : (2 : Nat) ^ 52 = 4503599627370496 := rfl
      rw [h53] at hkept
      rw [h52]
      have hq : (q : Int) ≤ L + 1022 := by omega
      clear h53 h52
      have hc0 : (4503599627370496 : Int) = ((4503599627370496 : Nat) : Int) := rfl
      rw [hc0]
      generalize (4503599627370496 : Nat) = c at hkept
      have h3 : ((q : Int) + 2) * (c : Int) ≤ (L + 1024) * (c : Int) := Int.mul_le_mul_of_nonneg_right (by omega) (by omega)
      rw [Int.add_mul] at h3
      have h4 := Nat.min_le_left (q * c + kept) (2047 * c)
      have h5 : ((q * c + kept : Nat) : Int) = (q : Int) * c + kept := by simp
      generalize min (q * c + kept) (2047 * c) = mn at h4
      generalize (q : Int) * c = qc at h3 h5
      generalize (L + 1024) * (c : Int) = lc at h3
      omega
  rw [hr]
  unfold Ieee.Format.read
  rw [e1, e2, e3, e4]
  have h63 : (2 : Nat) ^ 63 = 9223372036854775808 := rfl
  have h52 : (2 : Nat) ^ 52 = 4503599627370496 := rfl
  have h53 : (2 : Nat) ^ 53 = 9007199254740992 := rfl
  rw [h63, h52, h53]
  have hlt : rung < 9223372036854775808 := by omega
  have hneg : (rung / 9223372036854775808 % 2 == 1) = false := by
    rw [Nat.div_eq_of_lt hlt]; rfl
  simp only [hneg, Nat.mod_eq_of_lt hlt]
  by_cases hs : rung < 4503599627370496
  · rw [if_pos hs]
    exact ⟨rung, -1074, rfl, by omega, by omega⟩
  · rw [if_neg hs, if_pos (by omega)]
    exact ⟨_, _, rfl, by omega, by omega⟩

/-- The float root of a number below 2^50 is a whole number below 2^28, cut towards zero. -/
theorem sqrt_small (n : Nat) (hn : n < 2 ^ 50) :
    ∃ (s r : Nat), FloatKind.f64.format.sqrt (FloatKind.f64.encode (.number false n 0)) = some s ∧ floatToIntVal .f64 s .i64 = some (r : Int) ∧ r ≤ 2 ^ 27 := by
  obtain ⟨m, p, hread, hm, hp⟩ := near_read (mag := n) (place := 0) (L := 49) (by have := log_lt (k := 49) hn; omega) (by omega) (by omega)
  unfold FloatKind.format Ieee.Format.sqrt FloatKind.encode Ieee.Format.write
  simp only [FloatKind.format]
  rw [hread]
  obtain ⟨m2, p2, hroot, hl2⟩ : ∃ (m2 : Nat) (p2 : Int), (Ieee.Datum.number false m p).root (Ieee.double.fractionBits + 2) = some (.number false m2 p2) ∧ (p2 + m2.log2 ≤ 25) := by
    unfold Ieee.Datum.root
    by_cases h0 : m = 0
    · subst h0
      exact ⟨0, p, by simp, by simp; omega⟩
    · simp only [h0, if_false, Bool.false_eq_true]
      refine ⟨_, _, rfl, ?_⟩
      have e5 : Ieee.double.fractionBits = 52 := rfl
      rw [e5]
      have hlm : m.log2 ≤ 52 := log_lt hm
      obtain ⟨more, hmore, hlo, hhi⟩ : ∃ more : Nat, more = 2 * (52 + 2) - m.log2 + ((p - ((2 * (52 + 2) - m.log2 : Nat) : Int)) % 2).toNat ∧ 108 - m.log2 ≤ more ∧ more ≤ 109 - m.log2 := ⟨_, rfl, by omega, by omega⟩
      rw [← hmore]
      have hN : m <<< more < 2 ^ 110 := by
        rw [Nat.shiftLeft_eq]
        have hm' : m < 2 ^ (m.log2 + 1) := Nat.lt_log2_self
        refine Nat.lt_of_lt_of_le (Nat.mul_lt_mul_of_pos_right hm' (Nat.two_pow_pos _)) ?_
        rw [← Nat.pow_add]
        exact Nat.pow_le_pow_right (by omega) (by omega)
      have hsq := rootFrom_sq (m <<< more) ((m <<< more).log2 / 2 + 1) 0 (Nat.zero_le _)
      generalize Ieee.Datum.rootFrom (m <<< more) ((m <<< more).log2 / 2 + 1) 0 = whole at hsq
      have hw : whole < 2 ^ 55 := by
        refine Nat.lt_of_not_le fun hc => ?_
        have := Nat.mul_le_mul hc hc
        rw [← Nat.pow_add] at this
        omega
      have hb : ∀ b : Bool, b.toNat ≤ 1 := fun b => by cases b <;> simp
      have hbb := hb (whole * whole != m <<< more)
      generalize (whole * whole != m <<< more).toNat = bb at hbb
      have hlw : (2 * whole + bb).log2 ≤ 55 := log_lt (by
        have e : (2 : Nat) ^ (55 + 1) = 2 * 2 ^ 55 := by rw [Nat.pow_succ, Nat.mul_comm]
        rw [e]; omega)
      omega
  rw [hroot]
  simp only [Option.map_some]
  obtain ⟨m3, p3, hread3, hm3, hp3⟩ := near_read hl2 (by omega) (by omega)
  have e : floatToIntVal .f64 (Ieee.double.nearest false m2 p2) .i64 = some ((Ieee.Toward.zero.cut false (m3 <<< p3.toNat) (-p3).toNat : Nat) : Int) ∧ Ieee.Toward.zero.cut false (m3 <<< p3.toNat) (-p3).toNat ≤ 2 ^ 27 := by
    have hz : p3.toNat = 0 := by omega
    have hle : Ieee.Toward.zero.cut false (m3 <<< p3.toNat) (-p3).toNat ≤ 2 ^ (26 + 1) := cut_le _ _ _ 26 (by
      rw [hz, Nat.shiftLeft_zero]
      have := log_lt (k := 52) hm3
      omega)
    refine ⟨?_, hle⟩
    unfold floatToIntVal FloatKind.decode FloatKind.format
    simp only
    rw [hread3]
    unfold Ieee.Datum.toInt Ieee.Datum.integral Ieee.signed
    simp only [Bool.false_eq_true, if_false, Nat.shiftLeft_zero]
    generalize Ieee.Toward.zero.cut false (m3 <<< p3.toNat) (-p3).toNat = r at hle
    have h27 : (2 : Nat) ^ (26 + 1) = 134217728 := rfl
    rw [h27] at hle
    have a1 : IntKind.i64.min ≤ (r : Int) := by rw [show IntKind.i64.min = -9223372036854775808 from rfl]; omega
    have a2 : (r : Int) ≤ IntKind.i64.max := by rw [show IntKind.i64.max = 9223372036854775807 from rfl]; omega
    rw [if_pos ⟨a1, a2⟩]
  exact ⟨_, _, rfl, e.1, e.2⟩

/-! ### The whole root -/
def fsq : Nat → Nat
  | 0 => 0
  | n + 1 => if (fsq n + 1) * (fsq n + 1) ≤ n + 1 then fsq n + 1 else fsq n
theorem sq_succ (r : Nat) : (r + 1) * (r + 1) = r * r + 2 * r + 1 := by
  rw [Nat.add_mul, Nat.mul_add, Nat.one_mul, Nat.mul_one]; omega
theorem fsq_spec : ∀ n : Nat, fsq n * fsq n ≤ n ∧ n < (fsq n + 1) * (fsq n + 1)
  | 0 => by simp [fsq]
  | n + 1 => by
    obtain ⟨h1, h2⟩ := fsq_spec n
    unfold fsq
    by_cases h : (fsq n + 1) * (fsq n + 1) ≤ n + 1
    · rw [if_pos h]
      have e1 := sq_succ (fsq n)
      have e2 := sq_succ (fsq n + 1)
      exact ⟨h, by omega⟩
    · rw [if_neg h]
      exact ⟨by omega, by omega⟩
theorem sq_lt {a b : Nat} (h : a * a < b * b) : a < b := by
  refine Nat.lt_of_not_le fun hc => ?_
  have := Nat.mul_le_mul hc hc
  omega
theorem fsq_uniq {n r : Nat} (h1 : r * r ≤ n) (h2 : n < (r + 1) * (r + 1)) : r = fsq n := by
  obtain ⟨h3, h4⟩ := fsq_spec n
  have a := sq_lt (Nat.lt_of_le_of_lt h1 h4)
  have b := sq_lt (Nat.lt_of_le_of_lt h3 h2)
  omega
/-- Is a number the square of a whole one? -/
def rootK (n : Int) : Bool := decide (0 ≤ n) && decide (fsq n.toNat * fsq n.toNat = n.toNat)
/-- Its root, or nought. -/
def rootV (n : Int) : Int := if rootK n then (fsq n.toNat : Int) else 0
theorem rootK_neg {n : Int} (h : n < 0) : rootK n = false := by unfold rootK; rw [decide_eq_false (by omega)]; rfl
theorem rootK_iff {n : Int} {r : Nat} (h0 : 0 ≤ n) (h1 : (r : Int) * r ≤ n) (h2 : n < ((r : Int) + 1) * (r + 1)) : rootK n = decide ((r : Int) * r = n) ∧ fsq n.toNat = r := by
  have e1 : ((r * r : Nat) : Int) = (r : Int) * r := by simp
  have e2 : (((r + 1) * (r + 1) : Nat) : Int) = ((r : Int) + 1) * (r + 1) := by simp
  have hr : r = fsq n.toNat := fsq_uniq (by omega) (by omega)
  refine ⟨?_, hr.symm⟩
  unfold rootK
  rw [← hr, decide_eq_true h0, Bool.true_and]
  rw [Bool.eq_iff_iff]; simp only [decide_eq_true_eq]; omega
end
section
open Go Go.RowKit

/-! ### math.Sqrt -/
theorem run_sqrt {x s : Nat} (h : FloatKind.f64.format.sqrt x = some s) (w : World) : (callFunc 142 #[.float .f64 x]).run Tryz.prog w = .ok (.value (.float .f64 s)) w := by
  rw [run_callFunc_extern (e := Extern.MathSqrt.sqrt) Tryz.func142 (by kernel_rfl) (by kernel_rfl) (by kernel_rfl) (by kernel_rfl)]
  rw [show Extern.MathSqrt.sqrt #[.float .f64 x] = (match FloatKind.f64.format.sqrt x with
    | some r => pure (.float .f64 r)
    | none => do pure (.float .f64 (← choose (.nanBits .f64 x x)))) from rfl, h]
  rfl
theorem mathSqrt_any {x s : Nat} (h : FloatKind.f64.format.sqrt x = some s) (w : World) : Calls Tryz.prog 129 #[.float .f64 x] w fun e w' => e = .returned (.float .f64 s) ∧ w = w' := by
  have hr := run_sqrt h
  clear h
  go_enter Tryz.func129, Tryz.ntmps129
  go_wp2
  go_ret
  exact ⟨rfl, rfl⟩

/-! ### exactRoot -/
theorem sq_bound {r b : Nat} (h : r ≤ b) : (r : Int) * r ≤ (b : Int) * b := Int.mul_le_mul (by omega) (by omega) (by omega) (by omega)
theorem sq_nn (r : Nat) : (0 : Int) ≤ (r : Int) * r := Int.mul_nonneg (by omega) (by omega)
theorem sqr_lt {r : Nat} {n : Int} {b : Nat} (h : (r : Int) * r ≤ n) (hn : n < (b : Int) * b) : r < b := by
  refine Nat.lt_of_not_le fun hc => ?_
  have := sq_bound hc
  omega
theorem ret_root {n : Int} {v : Int} {k : Bool} (h1 : v = rootV n) (h2 : k = rootK n) : Ending.returned (.tuple #[.int .i64 v, .bool k]) = .returned (.tuple #[.int .i64 (rootV n), .bool (rootK n)]) := by rw [h1, h2]

set_option maxRecDepth 8000 in
set_option maxHeartbeats 1600000 in
theorem exactRoot_any (n : Int) (w : World) (hn : n < 16000000000000) :
    Calls Tryz.prog 105 #[.int .i64 n] w fun e w' => e = .returned (.tuple #[.int .i64 (rootV n), .bool (rootK n)]) ∧ w = w' := by
  by_cases h0 : n < 0
  · have hz := rootK_neg h0
    have Hz := Lib.hid hz; clear hz
    go_enter Tryz.func105, Tryz.ntmps105
    go_wp2
    go_ret2
    exact ⟨ret_root (by unfold rootV; rw [Hz.out]; rfl) Hz.out.symm, rfl⟩
  · have hnn : 0 ≤ n := by omega
    obtain ⟨s, r0, hs, hr, hr0⟩ := sqrt_small n.toNat (by omega)
    have hf : ∀ w, (convert 3 117 (.int .i64 n)).run Tryz.prog w = .ok (.float .f64 (FloatKind.f64.encode (.number false n.toNat 0))) w := fun w => by
      rw [run_convert_int_float w 3 117 .i64 .f64 n (by rw [Tryz.underlying3]; rfl) Tryz.underlying117]
      unfold floatOfInt FloatKind.nearest
      rw [decide_eq_false (by omega), show n.natAbs = n.toNat by omega]
    have hc : ∀ w, (convert 117 3 (.float .f64 s)).run Tryz.prog w = .ok (.int .i64 (r0 : Int)) w := fun w => run_convert_float_int w 117 3 .f64 .i64 s r0 (by rw [Tryz.underlying117]; rfl) Tryz.underlying3 hr
    have hm := fun w => mathSqrt_any hs w
    have Hm := Lib.hid hm; clear hm hs hr
    generalize FloatKind.f64.encode (.number false n.toNat 0) = x at hf Hm
    have hr1 : r0 ≤ 134217728 := hr0
    clear hr0 h0
    have Hr1 := Lib.hid hr1; clear hr1
    go_enter Tryz.func105, Tryz.ntmps105
    go_wp2_with (go_at_call 129; refine (Hm.out _).mono ?_; rintro e w' ⟨rfl, rfl⟩)
    clear hf hc Hm
    go_loop [4] (fun t => ∃ r : Nat, r ≤ 134217728 ∧ t = .int .i64 r) (fun t => (intOf t).toNat)
    case atStart => exact ⟨r0, Hr1.out, rfl⟩
    case round =>
      obtain ⟨r, hr, rfl⟩ := hrel
      have b1 := sq_bound hr
      have b0 := sq_nn r
      by_cases hlt : n < (r : Int) * r
      · have hpos : 1 ≤ r := by
          rcases Nat.eq_zero_or_pos r with rfl | h
          · simp at hlt; omega
          · exact h
        go_wp2
        go_round
        case rel => exact ⟨r - 1, by omega, by congr 1; omega⟩
        case measure => simp [intOf]; omega
      · go_wp2
        clear b1 b0
        go_loop [4] (fun t => ∃ r : Nat, (r : Int) * r ≤ n ∧ t = .int .i64 r) (fun t => n.toNat - (intOf t).toNat)
        case atStart => exact ⟨r, by omega, rfl⟩
        case round =>
          obtain ⟨r, hr, rfl⟩ := hrel
          have hrb : r < 33554432 := sqr_lt hr (by omega)
          have b1 := sq_bound (r := r + 1) (b := 33554432) (by omega)
          have b2 := sq_nn (r + 1)
          have b0 := sq_nn r
          simp only [Int.natCast_add, Int.natCast_one] at b1 b2
          have hle : ((r * r : Nat) : Int) ≤ n := by simpa using hr
          by_cases hlt : ((r : Int) + 1) * (r + 1) ≤ n
          · have hrn : (r : Int) < n := by
              have e : ((r : Int) + 1) * (r + 1) = (((r + 1) * (r + 1) : Nat) : Int) := by simp
              have e2 := sq_succ r
              have e3 : r ≤ r * r := Nat.le_mul_self r
              omega
            clear hle
            go_wp2
            go_round
            case rel => exact ⟨r + 1, by simpa using hlt, by go_num⟩
            case measure => simp [intOf]; omega
          · obtain ⟨e1, e2⟩ := rootK_iff (n := n) hnn hr (by omega)
            have Hk := Lib.hid e1; have Hv := Lib.hid e2; clear e1 e2 hle
            by_cases heq : (r : Int) * r = n
            · have hne : (((r : Int) * r) != n) = false := by simp [heq]
              have Heq := Lib.hid heq; clear heq
              go_wp2
              go_ret2
              have hkk : rootK n = true := by rw [Hk.out]; exact decide_eq_true Heq.out
              exact ⟨ret_root (by unfold rootV; rw [hkk, Hv.out]; rfl) hkk.symm, rfl⟩
            · have hne : (((r : Int) * r) != n) = true := by simp [heq]
              have Heq := Lib.hid heq; clear heq
              go_wp2
              go_ret2
              have hkk : rootK n = false := by rw [Hk.out]; exact decide_eq_false Heq.out
              exact ⟨ret_root (by unfold rootV; rw [hkk]; rfl) hkk.symm, rfl⟩

/-! ### seRoot -/
def rootS (n : Int) : Int := if rootK n then (fsq n.toNat : Int) else -1
set_option maxRecDepth 8000 in
set_option maxHeartbeats 1600000 in
theorem seRoot_any (n : Int) (w : World) (hn : n < 16000000000000) :
    Calls Tryz.prog 111 #[.int .i64 n] w fun e w' => e = .returned (.int .i64 (rootS n)) ∧ w = w' := by
  by_cases h0 : n < 0
  · have Hz := Lib.hid (rootK_neg h0)
    go_enter Tryz.func111, Tryz.ntmps111
    go_wp2
    go_ret
    exact ⟨ret_int (by unfold rootS; rw [Hz.out]; rfl), rfl⟩
  · have h1 : 0 ≤ n := by omega
    clear h0
    go_enter Tryz.func111, Tryz.ntmps111
    go_wp2
    go_loop [3, 4] (fun l h => ∃ lo hi : Nat, lo ≤ hi ∧ hi ≤ 4000000 ∧ (lo : Int) * lo ≤ n ∧ n < ((hi : Int) + 1) * (hi + 1) ∧ l = .int .i64 lo ∧ h = .int .i64 hi) (fun l h => (intOf h).toNat - (intOf l).toNat)
    case atStart => exact ⟨0, 4000000, by omega, by omega, by omega, by omega, rfl, rfl⟩
    case round =>
      obtain ⟨lo, hi, hle, hhi, hl, hh, rfl, rfl⟩ := hrel
      by_cases hlt : lo < hi
      · obtain ⟨mid, hmid⟩ : ∃ mid : Nat, mid = (lo + hi + 1) / 2 := ⟨_, rfl⟩
        have hm : ((lo : Int) + hi + 1) / 2 = (mid : Int) := by omega
        have m1 : lo < mid := by omega
        have m2 : mid ≤ hi := by omega
        have b1 := sq_bound (r := mid) (b := 4000000) (by omega)
        have b0 := sq_nn mid
        clear hmid
        by_cases ht : (mid : Int) * mid ≤ n
        · go_wp2
          go_round
          case rel => exact ⟨mid, hi, m2, hhi, ht, hh, by rw [hm], rfl⟩
          case measure => simp [intOf]; omega
        · obtain ⟨q, hq⟩ : ∃ q, mid = q + 1 := ⟨mid - 1, by omega⟩
          have Hq := Lib.hid hq; clear hq
          have Ht := Lib.hid (show n < (mid : Int) * mid by omega)
          go_wp2
          go_round
          case rel => exact ⟨lo, q, by have := Hq.out; omega, by have := Hq.out; omega, hl, by have := Ht.out; rw [Hq.out] at this; simpa using this, rfl, by congr 1; have := Hq.out; omega⟩
          case measure => have := Hq.out; simp [intOf]; omega
      · obtain rfl : lo = hi := by omega
        obtain ⟨e1, e2⟩ := rootK_iff h1 hl hh
        have Hk := Lib.hid e1; have Hv := Lib.hid e2; clear e1 e2
        have b1 := sq_bound hhi
        have b0 := sq_nn lo
        clear hh hl
        by_cases heq : (lo : Int) * lo = n
        · have hne : (((lo : Int) * lo) != n) = false := by simp [heq]
          have Heq := Lib.hid heq; clear heq
          go_wp2
          go_ret
          have hkk : rootK n = true := by rw [Hk.out]; exact decide_eq_true Heq.out
          exact ⟨ret_int (by unfold rootS; rw [hkk, Hv.out]; rfl), rfl⟩
        · have hne : (((lo : Int) * lo) != n) = true := by simp [heq]
          have Heq := Lib.hid heq; clear heq
          go_wp2
          go_ret
          have hkk : rootK n = false := by rw [Hk.out]; exact decide_eq_false Heq.out
          exact ⟨ret_int (by unfold rootS; rw [hkk]; rfl), rfl⟩
end
section
open Go Go.RowKit

structure QB (d a c : Int) : Prop where
  d1 : -100000 ≤ d
  d2 : d ≤ 100000
  a1 : -100000 ≤ a
  a2 : a ≤ 100000
  c1 : -100000 ≤ c
  c2 : c ≤ 100000
def qvV (d a c m e : Int) : Int := d * (m * m) * (m * m) + a * (m * m) * (e * e) + c * (e * e) * (e * e)
theorem m_bd {m : Nat} (h : m ≤ 60) : 0 ≤ (m : Int) * m ∧ (m : Int) * m ≤ 3600 := ⟨Int.mul_nonneg (by omega) (by omega), (mul_bd (m : Int) m 60 60 (by omega) (by omega) (by omega) (by omega)).2⟩
theorem q1_bd {x u v : Int} (h1 : -100000 ≤ x) (h2 : x ≤ 100000) (h3 : 0 ≤ u ∧ u ≤ 3600) (h4 : 0 ≤ v ∧ v ≤ 3600) : (-360000000 ≤ x * u ∧ x * u ≤ 360000000) ∧ (-1296000000000 ≤ x * u * v ∧ x * u * v ≤ 1296000000000) := by
  have k1 := mul_bd x u 100000 3600 h1 h2 (by omega) h3.2
  have k2 := mul_bd (x * u) v 360000000 3600 (by omega) (by omega) (by omega) h4.2
  omega
theorem qv_bd {d a c : Int} (h : QB d a c) {m e : Nat} (hm : m ≤ 60) (he : e ≤ 60) : -3888000000000 ≤ qvV d a c m e ∧ qvV d a c m e ≤ 3888000000000 := by
  have k1 := q1_bd h.d1 h.d2 (m_bd hm) (m_bd hm)
  have k2 := q1_bd h.a1 h.a2 (m_bd hm) (m_bd he)
  have k3 := q1_bd h.c1 h.c2 (m_bd he) (m_bd he)
  unfold qvV
  omega
/-- Is there a point of the quartic at m and e? -/
def qpB (d a c : Int) (m e : Nat) : Bool := decide (gcdI m e = 1) && rootK (qvV d a c m e)
def ctI (d a c : Int) (m : Nat) : Nat → Nat
  | 0 => 0
  | k + 1 => ctI d a c m k + (if qpB d a c m k = true then 1 else 0)
def ctO (d a c : Int) (M : Nat) : Nat → Nat
  | 0 => 0
  | k + 1 => ctO d a c M k + ctI d a c k (M + 1)
theorem ctI_le (d a c : Int) (m : Nat) : ∀ k, ctI d a c m k ≤ k
  | 0 => Nat.le_refl _
  | k + 1 => by have := ctI_le d a c m k; unfold ctI; split <;> omega
theorem ctO_le (d a c : Int) (M : Nat) : ∀ k, ctO d a c M k ≤ k * (M + 1)
  | 0 => Nat.zero_le _
  | k + 1 => by have h1 := ctO_le d a c M k; have h2 := ctI_le d a c k (M + 1); unfold ctO; rw [Nat.succ_mul]; omega
/-- How many points the quartic has within M. -/
def ctV (d a c : Int) (M : Nat) : Nat := ctO d a c M (M + 1)
theorem rootS_iff (n : Int) : (decide (0 ≤ rootS n)) = rootK n := by
  unfold rootS
  cases h : rootK n
  · rfl
  · simp

set_option linter.unusedSimpArgs false in
set_option linter.unusedVariables false in
set_option maxRecDepth 4000 in
set_option maxHeartbeats 8000000 in
theorem loValue_any (d a c : Int) (m e : Nat) (w : World) (h : QB d a c) (hm : m ≤ 60) (he : e ≤ 60) :
    Calls Tryz.prog 112 #[.agg #[.int .i64 d, .int .i64 a, .int .i64 c], .int .i64 (m : Int), .int .i64 (e : Int)] w fun r w' => r = .returned (.int .i64 (qvV d a c m e)) ∧ Below w.heap.size w w' := by
  obtain ⟨u1, u2⟩ := m_bd hm
  obtain ⟨v1, v2⟩ := m_bd he
  obtain ⟨⟨k1, k2⟩, k3, k4⟩ := q1_bd h.d1 h.d2 (m_bd hm) (m_bd hm)
  obtain ⟨⟨k5, k6⟩, k7, k8⟩ := q1_bd h.a1 h.a2 (m_bd hm) (m_bd he)
  obtain ⟨⟨k9, k10⟩, k11, k12⟩ := q1_bd h.c1 h.c2 (m_bd he) (m_bd he)
  go_enter Tryz.func112, Tryz.ntmps112
  go_wp2
  go_ret
  exact ⟨rfl, (bal (Below.refl w.heap.size w) (Obj.cells #[.int .i64 d, .int .i64 a, .int .i64 c] 82))⟩
theorem qi_eq (d a c m e : Int) : (d * m * m + a * e * e) * m * m + c * e * e * e * e = qvV d a c m e := by unfold qvV; grind
set_option linter.unusedSimpArgs false in
set_option linter.unusedVariables false in
set_option maxRecDepth 4000 in
set_option maxHeartbeats 8000000 in
theorem qValue_any (d a c : Int) (m e : Nat) (w : World) (h : QB d a c) (hm : m ≤ 60) (he : e ≤ 60) :
    Calls Tryz.prog 106 #[.agg #[.int .i64 d, .int .i64 a, .int .i64 c], .int .i64 (m : Int), .int .i64 (e : Int)] w fun r w' => r = .returned (.int .i64 (qvV d a c m e)) ∧ Below w.heap.size w w' := by
  have Hq := Lib.hid (qi_eq d a c m e)
  obtain ⟨d1, d2, a1, a2, c1, c2⟩ := h
  obtain ⟨x1, x2⟩ := mul_bd d m 100000 60 d1 d2 (by omega) (by omega)
  obtain ⟨x3, x4⟩ := mul_bd (d * m) m 6000000 60 x1 x2 (by omega) (by omega)
  obtain ⟨x5, x6⟩ := mul_bd a e 100000 60 a1 a2 (by omega) (by omega)
  obtain ⟨x7, x8⟩ := mul_bd (a * e) e 6000000 60 x5 x6 (by omega) (by omega)
  obtain ⟨x9, x10⟩ := mul_bd (d * m * m + a * e * e) m 720000000 60 (by omega) (by omega) (by omega) (by omega)
  obtain ⟨x11, x12⟩ := mul_bd ((d * m * m + a * e * e) * m) m 43200000000 60 (by omega) (by omega) (by omega) (by omega)
  obtain ⟨y1, y2⟩ := mul_bd c e 100000 60 c1 c2 (by omega) (by omega)
  obtain ⟨y3, y4⟩ := mul_bd (c * e) e 6000000 60 y1 y2 (by omega) (by omega)
  obtain ⟨y5, y6⟩ := mul_bd (c * e * e) e 360000000 60 (by omega) (by omega) (by omega) (by omega)
  obtain ⟨y7, y8⟩ := mul_bd (c * e * e * e) e 21600000000 60 (by omega) (by omega) (by omega) (by omega)
  go_enter Tryz.func106, Tryz.ntmps106
  go_wp2
  go_ret
  exact ⟨ret_int Hq.out, (bal (Below.refl w.heap.size w) (Obj.cells #[.int .i64 d, .int .i64 a, .int .i64 c] 82))⟩
theorem Blk.grownI {x y : World} {b : Nat} {t : TypeId} {cs : Array Value} {row : Option Nat} (h : Blk x b t cs) (hg : x.grownBy y row) (hr : ∀ r, row = some r → r ≠ b) : Blk y b t cs := (hg.block _ h.lt (fun e => hr _ e.symm rfl)).trans h
set_option linter.unusedSimpArgs false in
set_option linter.unusedVariables false in
set_option maxRecDepth 4000 in
set_option maxHeartbeats 8000000 in
theorem seOn_any (d a c : Int) (M : Nat) (w : World) (h : QB d a c) (hM : M ≤ 60) :
    Calls Tryz.prog 93 #[.agg #[.int .i64 d, .int .i64 a, .int .i64 c], .int .i64 (M : Int)] w fun r w' => (∃ (A : Option Addr) (cp : Nat), r = .returned (.slice A (ctV d a c M) cp)) ∧ Below w.heap.size w w' := by
  obtain ⟨i0, hi, hz0, hz1, hz2⟩ := info_parts infoSlI
  have HQ := Lib.hid h
  have HbA := Lib.hid (show Below w.heap.size w (w.alloc (Obj.cells #[.int .i64 d, .int .i64 a, .int .i64 c] 82)) from bal (Below.refl _ _) _)
  have HB := Lib.hid (Blk.new w 82 #[.int .i64 d, .int .i64 a, .int .i64 c])
  clear h
  go_enter Tryz.func93, Tryz.ntmps93
  go_wp2
  go_loopw [5, 6] (fun o i wr => ∃ k : Nat, k ≤ M + 1 ∧ i = .int .i64 (k : Int) ∧ Hid (∃ vs : List Value, vs.length = ctO d a c M k ∧ wr.ownsRow (w.heap.size + 1) 48 1 o (ctO d a c M k) vs) ∧ Hid (Blk wr w.heap.size 82 #[.int .i64 d, .int .i64 a, .int .i64 c]) ∧ Hid (Below w.heap.size w wr)) (fun _ i _ => M + 1 - (intOf i).toNat)
  case atStart => exact ⟨0, Nat.zero_le _, rfl, Lib.hid ⟨[], rfl, ⟨rfl, Or.inl ⟨rfl, rfl⟩⟩⟩, HB, HbA⟩
  case round =>
    obtain ⟨m, hm, rfl, Hrow, HBr, Hb⟩ := hrel
    by_cases hlt : m < M + 1
    · have hd0 : decide ((m : Int) ≤ (M : Int)) = true := decide_eq_true (by omega)
      have hm60 : m ≤ 60 := by omega
      have Hol := Lib.hid (ctO_le d a c M m)
      obtain ⟨wm, hwm⟩ : ∃ x, x = wr := ⟨_, rfl⟩; subst hwm
      have hd0n : decide (m ≤ M) = true := decide_eq_true (by omega)
      go_wp2
      try simp only [hd0n]
      go_loopw [5, 7] (fun o i wr => ∃ k : Nat, k ≤ M + 1 ∧ i = .int .i64 (k : Int) ∧ Hid (∃ vs : List Value, vs.length = ctO d a c M m + ctI d a c m k ∧ wr.ownsRow (w.heap.size + 1) 48 1 o (ctO d a c M m + ctI d a c m k) vs) ∧ Hid (Blk wr w.heap.size 82 #[.int .i64 d, .int .i64 a, .int .i64 c]) ∧ Hid (Below w.heap.size w wr)) (fun _ i _ => M + 1 - (intOf i).toNat)
      case atStart => exact ⟨0, Nat.zero_le _, rfl, Hrow, HBr, Hb⟩
      case round =>
        obtain ⟨e, he, rfl, Hrow, HBr, Hb⟩ := hrel
        by_cases hlt2 : e < M + 1
        · have hd2 : decide ((e : Int) ≤ (M : Int)) = true := decide_eq_true (by omega)
          have he60 : e ≤ 60 := by omega
          have Hstep := Lib.hid (show ctI d a c m (e + 1) = ctI d a c m e + (if qpB d a c m e = true then 1 else 0) from rfl)
          have Hil := Lib.hid (ctI_le d a c m e)
          have Hq := Lib.hid (show qpB d a c m e = (decide (gcdI m e = 1) && rootK (qvV d a c m e)) from rfl)
          have Hg := Lib.hid (fun w9 => bgCommonB_any (m : Int) (e : Int) w9 (by omega) (by omega))
          have Hv := Lib.hid (fun w9 => loValue_any d a c m e w9 HQ.out hm60 he60)
          have Hvb := Lib.hid (qv_bd HQ.out hm60 he60)
          have Hr := Lib.hid (fun w9 => seRoot_any (qvV d a c m e) w9 (by have := Hvb.out; omega))
          generalize qvV d a c m e = V at Hq Hv Hr Hvb
          generalize gcdI m e = G at Hq Hg
          generalize qpB d a c m e = B9 at Hq Hstep
          go_wp2_with fail
          refine (Hg.out _).mono ?_; rintro r w3 ⟨rfl, HG3⟩
          obtain rfl := HG3
          have HB4 := HBr; have Hb4 := Hb; have Hrow4 := Hrow
          obtain ⟨w4, hw4⟩ : ∃ x, x = wr := ⟨_, rfl⟩; subst hw4
          by_cases hg1 : G = 1
          · have z1 : (G != 1) = false := by rw [hg1]; rfl
            have z2 : (G == 1) = true := by rw [hg1]; rfl
            have Hq1 := Lib.hid (show B9 = rootK V by rw [Hq.out, decide_eq_true hg1, Bool.true_and])
            clear hg1
            have q0 : w4.cell? ⟨w.heap.size, 0, none⟩ = some (.int .i64 d) := HB4.out.cell 0
            have q1 : w4.cell? ⟨w.heap.size, 1, none⟩ = some (.int .i64 a) := HB4.out.cell 1
            have q2 : w4.cell? ⟨w.heap.size, 2, none⟩ = some (.int .i64 c) := HB4.out.cell 2
            have ql := HB4.out.lt
            go_wp2_with fail
            refine (Hv.out _).mono ?_; rintro r w5 ⟨rfl, hb5⟩
            have HB5 := Lib.hid (HB4.out.on hb5); have Hb5 := Lib.hid (bthen Hb4.out hb5)
            have Hrow5 := Lib.hid (Hrow4.out.imp (fun vs h => And.intro h.1 (own_below h.2 hb5)))
            clear hb5 q0 q1 q2 ql HB4 Hb4 Hrow4
            go_wp2_with fail
            refine (Hr.out _).mono ?_; rintro r w6 ⟨rfl, rfl⟩
            have Hrs := Lib.hid (rootS_iff V)
            obtain ⟨R, hR⟩ : ∃ z, rootS V = z := ⟨_, rfl⟩
            rw [hR] at Hrs ⊢; clear hR
            cases hk : rootK V
            · have Hst := Lib.hid (show ctI d a c m (e + 1) = ctI d a c m e by rw [Hstep.out, Hq1.out, hk]; rfl)
              have hR0 : decide (0 ≤ R) = false := by rw [Hrs.out, hk]
              clear hk
              go_wp2
              go_roundw
              case rel => exact ⟨e + 1, by omega, by go_num, by rw [Hst.out]; exact Hrow5, HB5, Hb5⟩
              case measure => simp [intOf]; omega
            · have Hst := Lib.hid (show ctI d a c m (e + 1) = ctI d a c m e + 1 by rw [Hstep.out, Hq1.out, hk]; rfl)
              have hR0 : decide (0 ≤ R) = true := by rw [Hrs.out, hk]
              clear hk
              obtain ⟨vs, e1, e2⟩ := Hrow5.out
              have Hvs := Lib.hid e1; have Hown := Lib.hid e2; clear e1 e2
              have Hcb := Lib.hid (show ctO d a c M m + ctI d a c m e ≤ 10000 by have h1 := Hol.out; have h2 := Hil.out; have h3 : m * (M + 1) ≤ 60 * 61 := Nat.mul_le_mul hm60 (by omega); omega)
              have hszw : w.heap.size + 1 ≤ w5.heap.size := HB5.out.lt
              have hszx : w.heap.size ≤ w5.heap.size := by omega
              obtain ⟨CN, hCN⟩ : ∃ z, ctO d a c M m + ctI d a c m e = z := ⟨_, rfl⟩
              rw [hCN] at Hown Hcb
              have HCN := Lib.hid hCN; clear hCN
              go_wp2_with (at_builtin; refine wpList_append_own _ rfl _ _ 89 rfl (w.heap.size + 1) 48 i0 (.slice none 0 0) 1 24 Tryz.underlying89 hi hz0 hz1 hz2 rfl (by decide) _ _ _ rfl ((Hown.out.alloc _).alloc _) ⟨w5.heap.size + 1, 0, none⟩ 1 1 [.slice (some ⟨w5.heap.size, 0, none⟩) 3 3] rfl rfl ?c1 ?c2 ?c3 ?c4 ?c5 ?_)
              try
                case c1 =>
                  intro j u hj
                  match j, hj with
                  | 0, hj => simp at hj; subst hj; exact (Blk.new1 w5 _ _ _).cell 0
              case c2 => first | rfl | (intro u hu; simp at hu; subst hu; rfl)
              case c3 => have := Hcb.out; unfold maxLen; omega
              case c4 => have := Hcb.out; omega
              case c5 => first | omega | (simp; omega)
              intro v8 w8 hown8 hg8 _
              have HB8 := Lib.hid (Blk.grownI ((HB5.out.alloc (Obj.cells #[.int .i64 (m : Int), .int .i64 (e : Int), .int .i64 R] 3)).alloc (Obj.cells #[.slice (some ⟨w5.heap.size, 0, none⟩) 3 3] 48)) hg8 (fun r hr => by have h1 := (Hown.out.lt r hr).1; omega))
              have Hb8 := Lib.hid (show Below w.heap.size w w8 from Below.grown ((Hb5.out.alloc hszx _).alloc (by simp; omega) _) hg8 (by simp; omega) (fun j hj => by have h1 := (Hown.out.lt j hj).1; omega))
              have Hrow8 := Lib.hid (show ∃ vs : List Value, vs.length = CN + 1 ∧ w8.ownsRow (w.heap.size + 1) 48 1 v8 (CN + 1) vs from ⟨_, by simp [Hvs.out, HCN.out], hown8⟩)
              clear hown8 hg8
              go_wp2
              go_roundw
              case rel => exact ⟨e + 1, by omega, by go_num, by rw [Hst.out, ← Nat.add_assoc, HCN.out]; exact Hrow8, HB8, Hb8⟩
              case measure => simp [intOf]; omega
          · have z1 : (G != 1) = true := bne_iff_ne.2 hg1
            have z2 : (G == 1) = false := beq_eq_false_iff_ne.2 hg1
            have Hst := Lib.hid (show ctI d a c m (e + 1) = ctI d a c m e by rw [Hstep.out, Hq.out, decide_eq_false hg1]; rfl)
            clear hg1
            go_wp2
            go_roundw
            case rel => exact ⟨e + 1, by omega, by go_num, by rw [Hst.out]; exact Hrow4, HB4, Hb4⟩
            case measure => simp [intOf]; omega
        · obtain rfl : e = M + 1 := by omega
          have hd2 : decide (((M + 1 : Nat) : Int) ≤ (M : Int)) = false := decide_eq_false (by omega)
          go_wp2
          go_roundw
          case rel => exact ⟨m + 1, by omega, by go_num, Hrow, HBr, Hb⟩
          case measure => simp [intOf]; omega
    · obtain rfl : m = M + 1 := by omega
      have hd0 : decide (((M + 1 : Nat) : Int) ≤ (M : Int)) = false := decide_eq_false (by omega)
      obtain ⟨vs, e1, e2⟩ := Hrow.out
      obtain ⟨A, cp, hA⟩ := own_formI e2
      subst hA
      clear e1 e2
      go_wp2
      go_ret
      exact ⟨⟨A, cp, rfl⟩, Hb.out⟩
set_option linter.unusedSimpArgs false in
set_option linter.unusedVariables false in
set_option maxRecDepth 4000 in
set_option maxHeartbeats 8000000 in
theorem points_any (d a c : Int) (M : Nat) (w : World) (h : QB d a c) (hM : M ≤ 60) :
    Calls Tryz.prog 80 #[.agg #[.int .i64 d, .int .i64 a, .int .i64 c], .int .i64 (M : Int)] w fun r w' => (∃ (A : Option Addr) (cp : Nat), r = .returned (.slice A (ctV d a c M) cp)) ∧ Below w.heap.size w w' := by
  obtain ⟨i0, hi, hz0, hz1, hz2⟩ := info_parts infoSlI
  have HQ := Lib.hid h
  have HbA := Lib.hid (show Below w.heap.size w (w.alloc (Obj.cells #[.int .i64 d, .int .i64 a, .int .i64 c] 82)) from bal (Below.refl _ _) _)
  have HB := Lib.hid (Blk.new w 82 #[.int .i64 d, .int .i64 a, .int .i64 c])
  clear h
  go_enter Tryz.func80, Tryz.ntmps80
  go_wp2
  go_loopw [5, 12] (fun o i wr => ∃ k : Nat, k ≤ M + 1 ∧ i = .int .i64 (k : Int) ∧ Hid (∃ vs : List Value, vs.length = ctO d a c M k ∧ wr.ownsRow (w.heap.size + 1) 48 1 o (ctO d a c M k) vs) ∧ Hid (Blk wr w.heap.size 82 #[.int .i64 d, .int .i64 a, .int .i64 c]) ∧ Hid (Below w.heap.size w wr)) (fun _ i _ => M + 1 - (intOf i).toNat)
  case atStart => exact ⟨0, Nat.zero_le _, rfl, Lib.hid ⟨[], rfl, ⟨rfl, Or.inl ⟨rfl, rfl⟩⟩⟩, HB, HbA⟩
  case round =>
    obtain ⟨m, hm, rfl, Hrow, HBr, Hb⟩ := hrel
    by_cases hlt : m < M + 1
    · have hd0 : decide ((m : Int) < (M : Int) + 1) = true := decide_eq_true (by omega)
      have hm60 : m ≤ 60 := by omega
      have Hol := Lib.hid (ctO_le d a c M m)
      obtain ⟨wm, hwm⟩ : ∃ x, x = wr := ⟨_, rfl⟩; subst hwm
      have hd0n : decide (m ≤ M) = true := decide_eq_true (by omega)
      go_wp2
      try simp only [hd0n]
      go_loopw [5, 17] (fun o i wr => ∃ k : Nat, k ≤ M + 1 ∧ i = .int .i64 (k : Int) ∧ Hid (∃ vs : List Value, vs.length = ctO d a c M m + ctI d a c m k ∧ wr.ownsRow (w.heap.size + 1) 48 1 o (ctO d a c M m + ctI d a c m k) vs) ∧ Hid (Blk wr w.heap.size 82 #[.int .i64 d, .int .i64 a, .int .i64 c]) ∧ Hid (Below w.heap.size w wr)) (fun _ i _ => M + 1 - (intOf i).toNat)
      case atStart => exact ⟨0, Nat.zero_le _, rfl, Hrow, HBr, Hb⟩
      case round =>
        obtain ⟨e, he, rfl, Hrow, HBr, Hb⟩ := hrel
        by_cases hlt2 : e < M + 1
        · have hd2 : decide ((e : Int) < (M : Int) + 1) = true := decide_eq_true (by omega)
          have he60 : e ≤ 60 := by omega
          have Hstep := Lib.hid (show ctI d a c m (e + 1) = ctI d a c m e + (if qpB d a c m e = true then 1 else 0) from rfl)
          have Hil := Lib.hid (ctI_le d a c m e)
          have Hq := Lib.hid (show qpB d a c m e = (decide (gcdI m e = 1) && rootK (qvV d a c m e)) from rfl)
          have Hg := Lib.hid (fun w9 => gcdB_any (m : Int) (e : Int) w9 (by omega) (by omega))
          have Hv := Lib.hid (fun w9 => qValue_any d a c m e w9 HQ.out hm60 he60)
          have Hvb := Lib.hid (qv_bd HQ.out hm60 he60)
          have Hr := Lib.hid (fun w9 => exactRoot_any (qvV d a c m e) w9 (by have := Hvb.out; omega))
          generalize qvV d a c m e = V at Hq Hv Hr Hvb
          generalize gcdI m e = G at Hq Hg
          generalize qpB d a c m e = B9 at Hq Hstep
          go_wp2_with fail
          refine (Hg.out _).mono ?_; rintro r w3 ⟨rfl, HG3⟩
          have HB4 := Lib.hid (HBr.out.on HG3); have Hb4 := Lib.hid (bthen Hb.out HG3)
          have Hrow4 := Lib.hid (Hrow.out.imp (fun vs h => And.intro h.1 (own_below h.2 HG3)))
          clear HG3 HBr Hb Hrow
          obtain ⟨w4, hw4⟩ : ∃ x, x = w3 := ⟨_, rfl⟩; subst hw4
          by_cases hg1 : G = 1
          · have z1 : (G != 1) = false := by rw [hg1]; rfl
            have z2 : (G == 1) = true := by rw [hg1]; rfl
            have Hq1 := Lib.hid (show B9 = rootK V by rw [Hq.out, decide_eq_true hg1, Bool.true_and])
            clear hg1
            have q0 : w4.cell? ⟨w.heap.size, 0, none⟩ = some (.int .i64 d) := HB4.out.cell 0
            have q1 : w4.cell? ⟨w.heap.size, 1, none⟩ = some (.int .i64 a) := HB4.out.cell 1
            have q2 : w4.cell? ⟨w.heap.size, 2, none⟩ = some (.int .i64 c) := HB4.out.cell 2
            have ql := HB4.out.lt
            go_wp2_with fail
            refine (Hv.out _).mono ?_; rintro r w5 ⟨rfl, hb5⟩
            have HB5 := Lib.hid (HB4.out.on hb5); have Hb5 := Lib.hid (bthen Hb4.out hb5)
            have Hrow5 := Lib.hid (Hrow4.out.imp (fun vs h => And.intro h.1 (own_below h.2 hb5)))
            clear hb5 q0 q1 q2 ql HB4 Hb4 Hrow4
            go_wp2_with fail
            refine (Hr.out _).mono ?_; rintro r w6 ⟨rfl, rfl⟩
            obtain ⟨R, hR⟩ : ∃ z, rootV V = z := ⟨_, rfl⟩
            rw [hR]; clear hR
            cases hk : rootK V
            · have Hst := Lib.hid (show ctI d a c m (e + 1) = ctI d a c m e by rw [Hstep.out, Hq1.out, hk]; rfl)
              clear hk
              go_wp2
              go_roundw
              case rel => exact ⟨e + 1, by omega, by go_num, by rw [Hst.out]; exact Hrow5, HB5, Hb5⟩
              case measure => simp [intOf]; omega
            · have Hst := Lib.hid (show ctI d a c m (e + 1) = ctI d a c m e + 1 by rw [Hstep.out, Hq1.out, hk]; rfl)
              clear hk
              obtain ⟨vs, e1, e2⟩ := Hrow5.out
              have Hvs := Lib.hid e1; have Hown := Lib.hid e2; clear e1 e2
              have Hcb := Lib.hid (show ctO d a c M m + ctI d a c m e ≤ 10000 by have h1 := Hol.out; have h2 := Hil.out; have h3 : m * (M + 1) ≤ 60 * 61 := Nat.mul_le_mul hm60 (by omega); omega)
              have hszw : w.heap.size + 1 ≤ w5.heap.size := HB5.out.lt
              have hszx : w.heap.size ≤ w5.heap.size := by omega
              obtain ⟨CN, hCN⟩ : ∃ z, ctO d a c M m + ctI d a c m e = z := ⟨_, rfl⟩
              rw [hCN] at Hown Hcb
              have HCN := Lib.hid hCN; clear hCN
              go_wp2_with (at_builtin; refine wpList_append_own _ rfl _ _ 89 rfl (w.heap.size + 1) 48 i0 (.slice none 0 0) 1 24 Tryz.underlying89 hi hz0 hz1 hz2 rfl (by decide) _ _ _ rfl ((Hown.out.alloc _).alloc _) ⟨w5.heap.size + 1, 0, none⟩ 1 1 [.slice (some ⟨w5.heap.size, 0, none⟩) 3 3] rfl rfl ?c1 ?c2 ?c3 ?c4 ?c5 ?_)
              try
                case c1 =>
                  intro j u hj
                  match j, hj with
                  | 0, hj => simp at hj; subst hj; exact (Blk.new1 w5 _ _ _).cell 0
              case c2 => first | rfl | (intro u hu; simp at hu; subst hu; rfl)
              case c3 => have := Hcb.out; unfold maxLen; omega
              case c4 => have := Hcb.out; omega
              case c5 => first | omega | (simp; omega)
              intro v8 w8 hown8 hg8 _
              have HB8 := Lib.hid (Blk.grownI ((HB5.out.alloc (Obj.cells #[.int .i64 (m : Int), .int .i64 (e : Int), .int .i64 R] 3)).alloc (Obj.cells #[.slice (some ⟨w5.heap.size, 0, none⟩) 3 3] 48)) hg8 (fun r hr => by have h1 := (Hown.out.lt r hr).1; omega))
              have Hb8 := Lib.hid (show Below w.heap.size w w8 from Below.grown ((Hb5.out.alloc hszx _).alloc (by simp; omega) _) hg8 (by simp; omega) (fun j hj => by have h1 := (Hown.out.lt j hj).1; omega))
              have Hrow8 := Lib.hid (show ∃ vs : List Value, vs.length = CN + 1 ∧ w8.ownsRow (w.heap.size + 1) 48 1 v8 (CN + 1) vs from ⟨_, by simp [Hvs.out, HCN.out], hown8⟩)
              clear hown8 hg8
              go_wp2
              go_roundw
              case rel => exact ⟨e + 1, by omega, by go_num, by rw [Hst.out, ← Nat.add_assoc, HCN.out]; exact Hrow8, HB8, Hb8⟩
              case measure => simp [intOf]; omega
          · have z1 : (G != 1) = true := bne_iff_ne.2 hg1
            have z2 : (G == 1) = false := beq_eq_false_iff_ne.2 hg1
            have Hst := Lib.hid (show ctI d a c m (e + 1) = ctI d a c m e by rw [Hstep.out, Hq.out, decide_eq_false hg1]; rfl)
            clear hg1
            go_wp2
            go_roundw
            case rel => exact ⟨e + 1, by omega, by go_num, by rw [Hst.out]; exact Hrow4, HB4, Hb4⟩
            case measure => simp [intOf]; omega
        · obtain rfl : e = M + 1 := by omega
          have hd2 : decide (((M + 1 : Nat) : Int) < (M : Int) + 1) = false := decide_eq_false (by omega)
          go_wp2
          go_roundw
          case rel => exact ⟨m + 1, by omega, by go_num, Hrow, HBr, Hb⟩
          case measure => simp [intOf]; omega
    · obtain rfl : m = M + 1 := by omega
      have hd0 : decide (((M + 1 : Nat) : Int) < (M : Int) + 1) = false := decide_eq_false (by omega)
      obtain ⟨vs, e1, e2⟩ := Hrow.out
      obtain ⟨A, cp, hA⟩ := own_formI e2
      subst hA
      clear e1 e2
      go_wp2
      go_ret
      exact ⟨⟨A, cp, rfl⟩, Hb.out⟩
end
section
open Go Go.RowKit

/-- How often may n be multiplied by p and stay within the greatest modulus? -/
def gF (p n : Nat) : Nat := if _h : n ≤ 1000000000 ∧ 2 ≤ p ∧ 0 < n then 1 + gF p (n * p) else 0
termination_by 1000000001 - n
decreasing_by
  obtain ⟨h1, h2, h3⟩ := _h
  have := Nat.mul_le_mul_left n h2
  omega
theorem gF_yes {p n : Nat} (h1 : n ≤ 1000000000) (h2 : 2 ≤ p) (h3 : 0 < n) : gF p n = gF p (n * p) + 1 := by rw [gF, dif_pos ⟨h1, h2, h3⟩, Nat.add_comm]
theorem gF_no {p n : Nat} (h1 : ¬ n ≤ 1000000000) : gF p n = 0 := by rw [gF, dif_neg (fun h => h1 h.1)]
theorem gF_le (p n : Nat) : gF p n ≤ 1000000001 - n := by
  induction n using gF.induct (p := p) with
  | case1 n h ih =>
    obtain ⟨h1, h2, h3⟩ := h
    have := Nat.mul_le_mul_left n h2
    rw [gF_yes h1 h2 h3]; omega
  | case2 n h => rw [gF, dif_neg h]; exact Nat.zero_le _
/-- The depth of a prime. -/
def dpV (p : Nat) : Nat := gF p p
theorem pow_mono {p j k : Nat} (hp : 0 < p) (h : j ≤ k) : p ^ j ≤ p ^ k := Nat.pow_le_pow_right hp h

set_option linter.unusedVariables false in
set_option maxRecDepth 4000 in
set_option maxHeartbeats 4000000 in
theorem loPower_any (p k : Nat) (w : World) (hp : 0 < p) (hp2 : p ≤ 1000000000) (hk : k ≤ 100) (hb : p ^ k ≤ 1000000000) :
    Calls Tryz.prog 153 #[.int .i64 (p : Int), .int .i64 (k : Int)] w fun r w' => r = .returned (.int .i64 ((p ^ k : Nat) : Int)) ∧ w' = w := by
  obtain ⟨N, hN⟩ : ∃ N, p ^ k = N := ⟨_, rfl⟩
  rw [hN] at hb ⊢
  have HN := Lib.hid hN; clear hN
  have Hp := Lib.hid hp
  go_enter Tryz.func153, Tryz.ntmps153
  go_wp2
  go_loop [1, 5] (fun i o => ∃ j X : Nat, j ≤ k ∧ i = .int .i64 (j : Int) ∧ o = .int .i64 (X : Int) ∧ Hid (X * p ^ j = N)) (fun i _ => (intOf i).toNat)
  case atStart => exact ⟨k, 1, Nat.le_refl _, rfl, rfl, Lib.hid (by rw [Nat.one_mul]; exact HN.out)⟩
  case round =>
    obtain ⟨j, X, hj, rfl, rfl, HX⟩ := hrel
    by_cases hj0 : 0 < j
    · have hd : decide ((j : Int) > 0) = true := decide_eq_true (by omega)
      have hd2 : decide ((0 : Int) < (j : Int)) = true := decide_eq_true (by omega)
      obtain ⟨i, rfl⟩ : ∃ i, j = i + 1 := ⟨j - 1, by omega⟩
      have HX2 := Lib.hid (show X * p * p ^ i = N by rw [← HX.out, Nat.pow_succ, Nat.mul_assoc, Nat.mul_comm p])
      have hx : X * p ≤ N := by rw [← HX2.out]; exact Nat.le_mul_of_pos_right _ (Nat.pow_pos Hp.out)
      have hx1 : (X : Int) * (p : Int) ≤ 1000000000 := by rw [← Int.natCast_mul]; omega
      have hx0 : 0 ≤ (X : Int) * (p : Int) := by rw [← Int.natCast_mul]; omega
      clear hx
      go_wp2
      go_round
      case rel => exact ⟨i, X * p, by omega, by first | rfl | (congr 1; omega) | go_num, by rw [Int.natCast_mul], HX2⟩
      case measure => simp [intOf]; try omega
    · obtain rfl : j = 0 := by omega
      have hX := HX.out
      rw [Nat.pow_zero, Nat.mul_one] at hX
      subst hX
      go_wp2
      go_ret
      exact ⟨rfl, rfl⟩
set_option linter.unusedVariables false in
set_option maxRecDepth 4000 in
set_option maxHeartbeats 4000000 in
theorem intPower_any (p k : Nat) (w : World) (hp : 0 < p) (hp2 : p ≤ 1000000000) (hk : k ≤ 100) (hb : p ^ k ≤ 1000000000) :
    Calls Tryz.prog 146 #[.int .i64 (p : Int), .int .i64 (k : Int)] w fun r w' => r = .returned (.int .i64 ((p ^ k : Nat) : Int)) ∧ w' = w := by
  obtain ⟨N, hN⟩ : ∃ N, p ^ k = N := ⟨_, rfl⟩
  rw [hN] at hb ⊢
  have HN := Lib.hid hN; clear hN
  have Hp := Lib.hid hp
  go_enter Tryz.func146, Tryz.ntmps146
  go_wp2
  go_loop [5, 7] (fun o i => ∃ j X : Nat, j ≤ k ∧ i = .int .i64 (j : Int) ∧ o = .int .i64 (X : Int) ∧ Hid (p ^ j = X)) (fun _ i => k - (intOf i).toNat)
  case atStart => exact ⟨0, 1, Nat.zero_le _, rfl, rfl, Lib.hid (Nat.pow_zero p)⟩
  case round =>
    obtain ⟨j, X, hj, rfl, rfl, HX⟩ := hrel
    by_cases hj0 : j < k
    · have hd : decide ((j : Int) < (k : Int)) = true := decide_eq_true (by omega)
      have hd2 : decide (j < k) = true := decide_eq_true hj0
      have HX2 := Lib.hid (show p ^ (j + 1) = X * p by rw [Nat.pow_succ, HX.out])
      have hx : X * p ≤ N := by rw [← HX2.out, ← HN.out]; exact pow_mono Hp.out (by omega)
      have hx1 : (X : Int) * (p : Int) ≤ 1000000000 := by rw [← Int.natCast_mul]; omega
      have hx0 : 0 ≤ (X : Int) * (p : Int) := by rw [← Int.natCast_mul]; omega
      clear hx
      go_wp2
      go_round
      case rel => exact ⟨j + 1, X * p, by omega, by go_num, by rw [Int.natCast_mul], HX2⟩
      case measure => simp [intOf]; try omega
    · obtain rfl : j = k := by omega
      have hd : decide ((j : Int) < (j : Int)) = false := decide_eq_false (by omega)
      have hX : N = X := HN.out.symm.trans HX.out
      subst hX
      go_wp2
      go_ret
      exact ⟨rfl, rfl⟩
set_option linter.unusedVariables false in
set_option maxRecDepth 4000 in
set_option maxHeartbeats 4000000 in
theorem depth_any (p : Nat) (w : World) (hp : 2 ≤ p) (hp2 : p ≤ 1000) :
    Calls Tryz.prog 133 #[.int .i64 (p : Int)] w fun r w' => r = .returned (.int .i64 (dpV p : Int)) ∧ w' = w := by
  obtain ⟨N, hN⟩ : ∃ N, dpV p = N := ⟨_, rfl⟩
  have hNb : N ≤ 1000000001 := by rw [← hN]; have := gF_le p p; unfold dpV; omega
  rw [hN]
  have HN := Lib.hid hN; clear hN
  go_enter Tryz.func133, Tryz.ntmps133
  go_wp2
  go_loop [3, 4] (fun o i => ∃ j X : Nat, o = .int .i64 (j : Int) ∧ i = .int .i64 (X : Int) ∧ Hid (0 < X ∧ X ≤ 1000000000000) ∧ Hid (j + gF p X = N)) (fun _ i => 1000000001 - (intOf i).toNat)
  case atStart => exact ⟨0, p, rfl, rfl, Lib.hid ⟨by omega, by omega⟩, Lib.hid (by rw [Nat.zero_add]; exact HN.out)⟩
  case round =>
    obtain ⟨j, X, rfl, rfl, HX, HS⟩ := hrel
    obtain ⟨hX1, hX2⟩ := HX.out
    by_cases hl : X ≤ 1000000000
    · have hd : decide ((X : Int) ≤ 1000000000) = true := decide_eq_true (by omega)
      have hS := HS.out
      rw [gF_yes hl hp hX1] at hS
      have hjb : j + 1 ≤ N := by omega
      have HS2 := Lib.hid (show j + 1 + gF p (X * p) = N by omega)
      clear hS
      have hx : X * 2 ≤ X * p := Nat.mul_le_mul_left X hp
      have hx3 : X * p ≤ 1000000000 * 1000 := Nat.mul_le_mul hl hp2
      have hx1 : (X : Int) * (p : Int) ≤ 1000000000000 := by rw [← Int.natCast_mul]; omega
      have hx0 : 0 ≤ (X : Int) * (p : Int) := by rw [← Int.natCast_mul]; omega
      have HX2 := Lib.hid (show 0 < X * p ∧ X * p ≤ 1000000000000 by omega)
      have HM := Lib.hid (show X < X * p by omega)
      clear hx hx3
      go_wp2
      go_round
      case rel => exact ⟨j + 1, X * p, by go_num, by rw [Int.natCast_mul], HX2, HS2⟩
      case measure => simp only [intOf]; rw [← Int.natCast_mul]; have := HM.out; omega
    · have hd : decide ((X : Int) ≤ 1000000000) = false := decide_eq_false (by omega)
      have hS := HS.out
      rw [gF_no hl, Nat.add_zero] at hS
      subst hS
      go_wp2
      go_ret
      exact ⟨rfl, rfl⟩
set_option linter.unusedVariables false in
set_option maxRecDepth 4000 in
set_option maxHeartbeats 4000000 in
theorem loDepth_any (p : Nat) (w : World) (hp : 2 ≤ p) (hp2 : p ≤ 1000) :
    Calls Tryz.prog 143 #[.int .i64 (p : Int)] w fun r w' => r = .returned (.int .i64 (dpV p : Int)) ∧ w' = w := by
  obtain ⟨N, hN⟩ : ∃ N, dpV p = N := ⟨_, rfl⟩
  have hNb : N ≤ 1000000001 := by rw [← hN]; have := gF_le p p; unfold dpV; omega
  rw [hN]
  have HN := Lib.hid hN; clear hN
  go_enter Tryz.func143, Tryz.ntmps143
  go_wp2
  go_loop [3, 4] (fun o i => ∃ j X : Nat, o = .int .i64 (j : Int) ∧ i = .int .i64 (X : Int) ∧ Hid (0 < X ∧ X ≤ 1000000000) ∧ Hid (j + gF p (X * p) = N)) (fun _ i => 1000000001 - (intOf i).toNat)
  case atStart => exact ⟨0, 1, rfl, rfl, Lib.hid ⟨by omega, by omega⟩, Lib.hid (by rw [Nat.zero_add, Nat.one_mul]; exact HN.out)⟩
  case round =>
    obtain ⟨j, X, rfl, rfl, HX, HS⟩ := hrel
    obtain ⟨hX1, hX2⟩ := HX.out
    by_cases hl : X * p ≤ 1000000000
    · have hd : decide ((X : Int) ≤ 1000000000 / (p : Int)) = true := decide_eq_true ((Int.le_ediv_iff_mul_le (by omega)).2 (by rw [← Int.natCast_mul]; omega))
      have hx : X * 2 ≤ X * p := Nat.mul_le_mul_left X hp
      have hS := HS.out
      rw [gF_yes hl hp (by omega)] at hS
      have hjb : j + 1 ≤ N := by omega
      have HS2 := Lib.hid (show j + 1 + gF p (X * p * p) = N by omega)
      clear hS
      have hx1 : (X : Int) * (p : Int) ≤ 1000000000000 := by rw [← Int.natCast_mul]; omega
      have hx0 : 0 ≤ (X : Int) * (p : Int) := by rw [← Int.natCast_mul]; omega
      have HX2 := Lib.hid (show 0 < X * p ∧ X * p ≤ 1000000000 by omega)
      have HM := Lib.hid (show X < X * p by omega)
      clear hx
      go_wp2
      go_round
      case rel => exact ⟨j + 1, X * p, by go_num, by rw [Int.natCast_mul], HX2, HS2⟩
      case measure => simp only [intOf]; rw [← Int.natCast_mul]; have := HM.out; omega
    · have hd : decide ((X : Int) ≤ 1000000000 / (p : Int)) = false := decide_eq_false (fun h => hl (by have := (Int.le_ediv_iff_mul_le (show (0 : Int) < (p : Int) by omega)).1 h; rw [← Int.natCast_mul] at this; omega))
      have hS := HS.out
      rw [gF_no hl, Nat.add_zero] at hS
      subst hS
      go_wp2
      go_ret
      exact ⟨rfl, rfl⟩
end
section
open Go Go.RowKit

theorem tm_bd {a p : Int} (hp : 0 < p) : -p < a.tmod p ∧ a.tmod p < p := by
  have h : (a.tmod p).natAbs < p.natAbs := by rw [Int.natAbs_tmod]; exact Nat.mod_lt _ (by omega)
  omega
theorem tm_fix {a p : Int} (hp : 0 < p) : (a.tmod p + p).tmod p = a % p := by
  have h := tm_bd (a := a) hp
  rw [Int.tmod_eq_emod_of_nonneg (by omega), Int.add_emod_right, Int.tmod_def, Int.sub_mul_emod_self_left]
theorem md_bd (a : Int) {p : Int} (hp : 0 < p) : 0 ≤ a % p ∧ a % p < p := ⟨Int.emod_nonneg _ (by omega), Int.emod_lt_of_pos _ hp⟩
theorem mul_lt {x y p : Int} (hx : 0 ≤ x) (hx' : x < p) (hy : 0 ≤ y) (hy' : y < p) (hp : p ≤ 1000000000) : 0 ≤ x * y ∧ x * y ≤ 1000000000000000000 :=
  ⟨Int.mul_nonneg hx hy, (mul_bd x y 1000000000 1000000000 (by omega) (by omega) (by omega) (by omega)).2⟩
/-- Powers modulo p, as both sides reckon them. -/
def pwN (p out base : Int) (n : Nat) : Int := if h : n = 0 then out else pwN p (if n % 2 = 1 then out * base % p else out) (base * base % p) (n / 2)
termination_by n
decreasing_by omega
def pwV (a : Int) (n : Nat) (p : Int) : Int := pwN p 1 (a % p) n
theorem pwN_zero (p o b : Int) : pwN p o b 0 = o := by rw [pwN]; rfl
theorem pwN_odd {p o b : Int} {n : Nat} (h : n % 2 = 1) : pwN p o b n = pwN p (o * b % p) (b * b % p) (n / 2) := by
  rw [pwN, dif_neg (by omega), if_pos h]
theorem pwN_even {p o b : Int} {n : Nat} (h0 : 0 < n) (h : n % 2 ≠ 1) : pwN p o b n = pwN p o (b * b % p) (n / 2) := by
  rw [pwN, dif_neg (by omega), if_neg h]
set_option maxHeartbeats 800000 in
theorem modulo_any (a p : Int) (w : World) (hp : 0 < p) (hp' : p ≤ 1000000000000000000) :
    Calls Tryz.prog 155 #[.int .i64 a, .int .i64 p] w fun e w' => e = .returned (.int .i64 (a % p)) ∧ w = w' := by
  have Hf := Lib.hid (tm_fix (a := a) hp)
  have hb := tm_bd (a := a) hp
  have hm := md_bd a hp
  have hp0 : ¬ p = 0 := by omega
  obtain ⟨x, hx⟩ : ∃ x, a.tmod p = x := ⟨_, rfl⟩
  rw [hx] at hb Hf
  obtain ⟨h1, h2⟩ := hb
  have hn : 0 ≤ x + p := by omega
  rw [Int.tmod_eq_emod_of_nonneg hn] at Hf
  go_enter Tryz.func155, Tryz.ntmps155
  go_wp2
  go_ret
  exact ⟨ret_int Hf.out, rfl⟩
set_option maxHeartbeats 800000 in
theorem mdMod_any (a p : Int) (w : World) (hp : 0 < p) (hp' : p ≤ 1000000000000000000) :
    Calls Tryz.prog 162 #[.int .i64 a, .int .i64 p] w fun e w' => e = .returned (.int .i64 (a % p)) ∧ w = w' := by
  have Hf := Lib.hid (tm_fix (a := a) hp)
  have hb := tm_bd (a := a) hp
  have hm := md_bd a hp
  have hp0 : ¬ p = 0 := by omega
  obtain ⟨x, hx⟩ : ∃ x, a.tmod p = x := ⟨_, rfl⟩
  rw [hx] at hb Hf
  obtain ⟨h1, h2⟩ := hb
  have hn : 0 ≤ x + p := by omega
  rw [Int.tmod_eq_emod_of_nonneg hn] at Hf
  go_enter Tryz.func162, Tryz.ntmps162
  go_wp2
  go_ret
  exact ⟨ret_int Hf.out, rfl⟩
set_option maxHeartbeats 1600000 in
theorem mdPower_any (a : Int) (n : Nat) (p : Int) (w : World) (hp : 2 ≤ p) (hp' : p ≤ 1000000000) (hn : n ≤ 1000000000) :
    Calls Tryz.prog 165 #[.int .i64 a, .int .i64 (n : Int), .int .i64 p] w fun e w' => e = .returned (.int .i64 (pwV a n p)) ∧ Below w.heap.size w w' := by
  have hm := md_bd a (p := p) (by omega)
  have Hv := Lib.hid (show pwN p 1 (a % p) n = pwV a n p from rfl)
  generalize pwV a n p = V at Hv
  have hp0 : ¬ p = 0 := by omega
  go_enter Tryz.func165, Tryz.ntmps165
  go_wp2_with (go_at_call 162; refine (mdMod_any _ _ _ (by omega) (by omega)).mono ?_; rintro e w' ⟨rfl, rfl⟩)
  generalize a % p = b0 at Hv hm
  go_loopw [1, 7, 8] (fun s t u wr => ∃ (k : Nat) (x y : Int), s = .int .i64 (k : Int) ∧ t = .int .i64 x ∧ u = .int .i64 y ∧ Hid (pwN p x y k = V) ∧ k ≤ 1000000000 ∧ 0 ≤ x ∧ x < p ∧ 0 ≤ y ∧ y < p ∧ Hid (Below w.heap.size w wr)) (fun s _ _ _ => (intOf s).toNat)
  case atStart => exact ⟨n, 1, b0, rfl, rfl, rfl, Hv, hn, by omega, by omega, hm.1, hm.2, Lib.hid (Below.refl _ _)⟩
  case round =>
    obtain ⟨k, x, y, rfl, rfl, rfl, Hk, hk, hx0, hx1, hy0, hy1, Hb⟩ := hrel
    clear Hv hn hm
    rcases Nat.eq_zero_or_pos k with h0 | h0
    · subst h0
      have Hfin := Lib.hid (show x = V by rw [← Hk.out, pwN_zero])
      clear Hk
      have hxx : x % p = x := Int.emod_eq_of_lt hx0 hx1
      go_wp2
      go_ret
      exact ⟨ret_int (by first | exact Hfin.out | (rw [hxx]; exact Hfin.out)), Hb.out⟩
    · obtain ⟨m1, m2⟩ := mul_lt hx0 hx1 hy0 hy1 hp'
      obtain ⟨q1, q2⟩ := mul_lt hy0 hy1 hy0 hy1 hp'
      obtain ⟨r1, r2⟩ := md_bd (x * y) (p := p) (by omega)
      obtain ⟨s1, s2⟩ := md_bd (y * y) (p := p) (by omega)
      have hd0 : decide ((0 : Int) < (k : Int)) = true := decide_eq_true (by omega)
      have Hk2n := Lib.hid (show (k : Int) / 2 = ((k / 2 : Nat) : Int) by omega)
      by_cases ho : k % 2 = 1
      · have Hk2 := Lib.hid (show pwN p (x * y % p) (y * y % p) (k / 2) = V by rw [← pwN_odd ho]; exact Hk.out)
        have hkm : (k : Int) % 2 = 1 := by omega
        clear Hk ho
        go_wp2
        go_roundw
        case rel => exact ⟨k / 2, x * y % p, y * y % p, by rw [Hk2n.out], rfl, rfl, Hk2, by omega, r1, r2, s1, s2, Hb⟩
        case measure => simp [intOf]; omega
      · have Hk2 := Lib.hid (show pwN p x (y * y % p) (k / 2) = V by rw [← pwN_even h0 ho]; exact Hk.out)
        have hkm : (k : Int) % 2 = 0 := by omega
        clear Hk ho
        go_wp2
        go_roundw
        case rel => exact ⟨k / 2, x, y * y % p, by rw [Hk2n.out], rfl, rfl, Hk2, by omega, hx0, hx1, s1, s2, Hb⟩
        case measure => simp [intOf]; omega
set_option maxHeartbeats 1600000 in
theorem power_any (a : Int) (n : Nat) (p : Int) (w : World) (hp : 2 ≤ p) (hp' : p ≤ 1000000000) (hn : n ≤ 1000000000) :
    Calls Tryz.prog 164 #[.int .i64 a, .int .i64 (n : Int), .int .i64 p] w fun e w' => e = .returned (.int .i64 (pwV a n p)) ∧ Below w.heap.size w w' := by
  have hm := md_bd a (p := p) (by omega)
  have Hv := Lib.hid (show pwN p 1 (a % p) n = pwV a n p from rfl)
  generalize pwV a n p = V at Hv
  have hp0 : ¬ p = 0 := by omega
  go_enter Tryz.func164, Tryz.ntmps164
  have h1p : (1 : Int) % p = 1 := Int.emod_eq_of_lt (by omega) (by omega)
  go_wp2_with fail
  refine wp_region_tame (by kernel_rfl) (by kernel_rfl) (fun T _ W hT => ?_)
  have hx := hT.cell
  repeat (go_big_quiet_step ((go_at_call 155; refine (modulo_any _ _ _ (by omega) (by omega)).mono ?_; rintro e w' ⟨rfl, rfl⟩; exact ⟨rfl, _, rfl⟩)))
  refine wpQuiet_nil ?_
  intro tt
  clear hx
  have hbt := Lib.hid (hT.below tt)
  generalize W tt = w1 at hbt ⊢
  clear hT
  generalize a % p = b0 at Hv hm
  go_wp2
  go_loopw [1, 7, 8] (fun s t u wr => ∃ (k : Nat) (x y : Int), s = .int .i64 (k : Int) ∧ t = .int .i64 x ∧ u = .int .i64 y ∧ Hid (pwN p x y k = V) ∧ k ≤ 1000000000 ∧ 0 ≤ x ∧ x < p ∧ 0 ≤ y ∧ y < p ∧ Hid (Below w.heap.size w wr)) (fun s _ _ _ => (intOf s).toNat)
  case atStart => exact ⟨n, 1, b0, rfl, by rw [h1p], rfl, Hv, hn, by omega, by omega, hm.1, hm.2, hbt⟩
  case round =>
    obtain ⟨k, x, y, rfl, rfl, rfl, Hk, hk, hx0, hx1, hy0, hy1, Hb⟩ := hrel
    clear Hv hn hm
    rcases Nat.eq_zero_or_pos k with h0 | h0
    · subst h0
      have Hfin := Lib.hid (show x = V by rw [← Hk.out, pwN_zero])
      clear Hk
      have hxx : x % p = x := Int.emod_eq_of_lt hx0 hx1
      go_wp2
      go_ret
      exact ⟨ret_int (by first | exact Hfin.out | (rw [hxx]; exact Hfin.out)), Hb.out⟩
    · obtain ⟨m1, m2⟩ := mul_lt hx0 hx1 hy0 hy1 hp'
      obtain ⟨q1, q2⟩ := mul_lt hy0 hy1 hy0 hy1 hp'
      obtain ⟨r1, r2⟩ := md_bd (x * y) (p := p) (by omega)
      obtain ⟨s1, s2⟩ := md_bd (y * y) (p := p) (by omega)
      have hd0 : decide ((0 : Int) < (k : Int)) = true := decide_eq_true (by omega)
      have Hk2n := Lib.hid (show (k : Int) / 2 = ((k / 2 : Nat) : Int) by omega)
      by_cases ho : k % 2 = 1
      · have Hk2 := Lib.hid (show pwN p (x * y % p) (y * y % p) (k / 2) = V by rw [← pwN_odd ho]; exact Hk.out)
        have hkm : (k : Int) % 2 = 1 := by omega
        clear Hk ho
        go_wp2
        go_roundw
        case rel => exact ⟨k / 2, x * y % p, y * y % p, by rw [Hk2n.out], rfl, rfl, Hk2, by omega, r1, r2, s1, s2, Hb⟩
        case measure => simp [intOf]; omega
      · have Hk2 := Lib.hid (show pwN p x (y * y % p) (k / 2) = V by rw [← pwN_even h0 ho]; exact Hk.out)
        have hkm : (k : Int) % 2 = 0 := by omega
        clear Hk ho
        go_wp2
        go_roundw
        case rel => exact ⟨k / 2, x, y * y % p, by rw [Hk2n.out], rfl, rfl, Hk2, by omega, hx0, hx1, s1, s2, Hb⟩
        case measure => simp [intOf]; omega
/-- The square symbol, as the program and as the reference has it. -/
def syI (a p : Int) : Int := if pwV a ((p - 1) / 2).toNat p = 0 then 0 else if pwV a ((p - 1) / 2).toNat p = 1 then 1 else -1
def syS (a p : Int) : Int := if pwV a ((p - 1) / 2).toNat p = p - 1 then -1 else pwV a ((p - 1) / 2).toNat p
set_option maxHeartbeats 1600000 in
theorem symbol_any (a p : Int) (w : World) (hp : 2 ≤ p) (hp' : p ≤ 1000000000) :
    Calls Tryz.prog 161 #[.int .i64 a, .int .i64 p] w fun e w' => e = .returned (.int .i64 (syI a p)) ∧ Below w.heap.size w w' := by
  obtain ⟨n, hn⟩ : ∃ n : Nat, ((p - 1) / 2).toNat = n := ⟨_, rfl⟩
  have hn2 : (p - 1) / 2 = (n : Int) := by omega
  have hnb : n ≤ 1000000000 := by omega
  have Hs := (show syI a p = if pwV a n p = 0 then 0 else if pwV a n p = 1 then 1 else -1 by unfold syI; rw [hn])
  obtain ⟨s, hs⟩ : ∃ s, syI a p = s := ⟨_, rfl⟩
  rw [hs] at Hs ⊢
  clear hs hn
  have Hc := Lib.hid (fun w => power_any a n p w hp hp' hnb)
  generalize pwV a n p = v at Hs Hc
  by_cases h0 : v = 0
  · rw [if_pos h0] at Hs
    have z0 : (v == 0) = true := by rw [h0]; rfl
    clear h0
    replace Hs := Lib.hid Hs
    go_enter Tryz.func161, Tryz.ntmps161
    go_wp2_with (go_at_call 164; refine (Hc.out _).mono ?_; rintro e w1 ⟨rfl, hb1⟩)
    go_ret
    exact ⟨ret_int Hs.out.symm, hb1⟩
  · rw [if_neg h0] at Hs
    have z0 : (v == 0) = false := beq_eq_false_iff_ne.2 h0
    clear h0
    by_cases h1 : v = 1
    · rw [if_pos h1] at Hs
      have z1 : (v == 1) = true := by rw [h1]; rfl
      clear h1
      replace Hs := Lib.hid Hs
      go_enter Tryz.func161, Tryz.ntmps161
      go_wp2_with (go_at_call 164; refine (Hc.out _).mono ?_; rintro e w1 ⟨rfl, hb1⟩)
      go_ret
      exact ⟨ret_int Hs.out.symm, hb1⟩
    · rw [if_neg h1] at Hs
      have z1 : (v == 1) = false := beq_eq_false_iff_ne.2 h1
      clear h1
      replace Hs := Lib.hid Hs
      go_enter Tryz.func161, Tryz.ntmps161
      go_wp2_with (go_at_call 164; refine (Hc.out _).mono ?_; rintro e w1 ⟨rfl, hb1⟩)
      go_ret
      exact ⟨ret_int Hs.out.symm, hb1⟩
set_option maxHeartbeats 1600000 in
theorem mdSymbol_any (a p : Int) (w : World) (hp : 2 ≤ p) (hp' : p ≤ 1000000000) :
    Calls Tryz.prog 163 #[.int .i64 a, .int .i64 p] w fun e w' => e = .returned (.int .i64 (syS a p)) ∧ Below w.heap.size w w' := by
  obtain ⟨n, hn⟩ : ∃ n : Nat, ((p - 1) / 2).toNat = n := ⟨_, rfl⟩
  have hn2 : (p - 1) / 2 = (n : Int) := by omega
  have hnb : n ≤ 1000000000 := by omega
  have Hs := (show syS a p = if pwV a n p = p - 1 then -1 else pwV a n p by unfold syS; rw [hn])
  obtain ⟨s, hs⟩ : ∃ s, syS a p = s := ⟨_, rfl⟩
  rw [hs] at Hs ⊢
  clear hs hn
  have Hc := Lib.hid (fun w => mdPower_any a n p w hp hp' hnb)
  generalize pwV a n p = v at Hs Hc
  by_cases h0 : v = p - 1
  · rw [if_pos h0] at Hs
    have z0 : (v == p - 1) = true := by rw [h0]; simp
    clear h0
    replace Hs := Lib.hid Hs
    go_enter Tryz.func163, Tryz.ntmps163
    go_wp2_with (go_at_call 165; refine (Hc.out _).mono ?_; rintro e w1 ⟨rfl, hb1⟩)
    go_ret
    exact ⟨ret_int Hs.out.symm, hb1⟩
  · rw [if_neg h0] at Hs
    have z0 : (v == p - 1) = false := beq_eq_false_iff_ne.2 h0
    clear h0
    replace Hs := Lib.hid Hs
    go_enter Tryz.func163, Tryz.ntmps163
    go_wp2_with (go_at_call 165; refine (Hc.out _).mono ?_; rintro e w1 ⟨rfl, hb1⟩)
    go_ret
    exact ⟨ret_int Hs.out.symm, hb1⟩
end
end Go.Proofs.YthdfpfhkmfmnbaaGreat
