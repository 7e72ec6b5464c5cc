/- The walks: math.Sqrt at a small whole number, exactRoot of the program, seRoot of the reference, greatest common divisors of both. Conditions: bounds. -/
import Derived.Test.YtjnghjgfhlgbiaaBase2
import Derived.Test.YtjnghjgfhlgbiaaSqrtL
import Derived.Laws.Externs
import Derived.IntWalk
namespace Go.Proofs.Ytjnghjgfhlgbiaa
open Go Go.RowKit

/-! ### math.Sqrt -/
theorem run_sqrt {x s : Nat} (h : FloatKind.f64.format.sqrt x = some s) (w : World) : (callFunc 67 #[.float .f64 x]).run Try.prog w = .ok (.value (.float .f64 s)) w := by
  rw [run_callFunc_extern (e := Extern.MathSqrt.sqrt) Try.func67 (by kernel_rfl) (by kernel_rfl) (by kernel_rfl) (by kernel_rfl)]
  rw [show Extern.MathSqrt.sqrt #[.float .f64 x] = (match FloatKind.f64.format.sqrt x with
    | some r => pure (.float .f64 r)
    | none => do pure (.float .f64 (← choose (.nanBits .f64 x x)))) from rfl, h]
  rfl
theorem mathSqrt_any {x s : Nat} (h : FloatKind.f64.format.sqrt x = some s) (w : World) : Calls Try.prog 62 #[.float .f64 x] w fun e w' => e = .returned (.float .f64 s) ∧ w = w' := by
  have hr := run_sqrt h
  clear h
  go_enter Try.func62, Try.ntmps62
  go_wp2
  go_ret
  exact ⟨rfl, rfl⟩

/-! ### exactRoot -/
theorem sq_bound {r b : Nat} (h : r ≤ b) : (r : Int) * r ≤ (b : Int) * b := Int.mul_le_mul (by omega) (by omega) (by omega) (by omega)
theorem sq_nn (r : Nat) : (0 : Int) ≤ (r : Int) * r := Int.mul_nonneg (by omega) (by omega)
theorem sqr_lt {r : Nat} {n : Int} {b : Nat} (h : (r : Int) * r ≤ n) (hn : n < (b : Int) * b) : r < b := by
  refine Nat.lt_of_not_le fun hc => ?_
  have := sq_bound hc
  omega
theorem ret_root {n : Int} {v : Int} {k : Bool} (h1 : v = rootV n) (h2 : k = rootK n) : Ending.returned (.tuple #[.int .i64 v, .bool k]) = .returned (.tuple #[.int .i64 (rootV n), .bool (rootK n)]) := by rw [h1, h2]

set_option maxRecDepth 8000 in
set_option maxHeartbeats 1600000 in
theorem exactRoot_any (n : Int) (w : World) (hn : n < 16000000000000) :
    Calls Try.prog 57 #[.int .i64 n] w fun e w' => e = .returned (.tuple #[.int .i64 (rootV n), .bool (rootK n)]) ∧ w = w' := by
  by_cases h0 : n < 0
  · have hz := rootK_neg h0
    have Hz := Lib.hid hz; clear hz
    go_enter Try.func57, Try.ntmps57
    go_wp2
    go_ret2
    exact ⟨ret_root (by unfold rootV; rw [Hz.out]; rfl) Hz.out.symm, rfl⟩
  · have hnn : 0 ≤ n := by omega
    obtain ⟨s, r0, hs, hr, hr0⟩ := sqrt_small n.toNat (by omega)
    have hf : ∀ w, (convert 3 76 (.int .i64 n)).run Try.prog w = .ok (.float .f64 (FloatKind.f64.encode (.number false n.toNat 0))) w := fun w => by
      rw [run_convert_int_float w 3 76 .i64 .f64 n (by rw [Try.underlying3]; rfl) Try.underlying76]
      unfold floatOfInt FloatKind.nearest
      rw [decide_eq_false (by omega), show n.natAbs = n.toNat by omega]
    have hc : ∀ w, (convert 76 3 (.float .f64 s)).run Try.prog w = .ok (.int .i64 (r0 : Int)) w := fun w => run_convert_float_int w 76 3 .f64 .i64 s r0 (by rw [Try.underlying76]; rfl) Try.underlying3 hr
    have hm := fun w => mathSqrt_any hs w
    have Hm := Lib.hid hm; clear hm hs hr
    generalize FloatKind.f64.encode (.number false n.toNat 0) = x at hf Hm
    have hr1 : r0 ≤ 134217728 := hr0
    clear hr0 h0
    have Hr1 := Lib.hid hr1; clear hr1
    go_enter Try.func57, Try.ntmps57
    go_wp2_with (go_at_call 62; refine (Hm.out _).mono ?_; rintro e w' ⟨rfl, rfl⟩)
    clear hf hc Hm
    go_loop [4] (fun t => ∃ r : Nat, r ≤ 134217728 ∧ t = .int .i64 r) (fun t => (intOf t).toNat)
    case atStart => exact ⟨r0, Hr1.out, rfl⟩
    case round =>
      obtain ⟨r, hr, rfl⟩ := hrel
      have b1 := sq_bound hr
      have b0 := sq_nn r
      by_cases hlt : n < (r : Int) * r
      · have hpos : 1 ≤ r := by
          rcases Nat.eq_zero_or_pos r with rfl | h
          · simp at hlt; omega
          · exact h
        go_wp2
        go_round
        case rel => exact ⟨r - 1, by omega, by congr 1; omega⟩
        case measure => simp [intOf]; omega
      · go_wp2
        clear b1 b0
        go_loop [4] (fun t => ∃ r : Nat, (r : Int) * r ≤ n ∧ t = .int .i64 r) (fun t => n.toNat - (intOf t).toNat)
        case atStart => exact ⟨r, by omega, rfl⟩
        case round =>
          obtain ⟨r, hr, rfl⟩ := hrel
          have hrb : r < 33554432 := sqr_lt hr (by omega)
          have b1 := sq_bound (r := r + 1) (b := 33554432) (by omega)
          have b2 := sq_nn (r + 1)
          have b0 := sq_nn r
          simp only [Int.natCast_add, Int.natCast_one] at b1 b2
          have hle : ((r * r : Nat) : Int) ≤ n := by simpa using hr
          by_cases hlt : ((r : Int) + 1) * (r + 1) ≤ n
          · have hrn : (r : Int) < n := by
              have e : ((r : Int) + 1) * (r + 1) = (((r + 1) * (r + 1) : Nat) : Int) := by simp
              have e2 := sq_succ r
              have e3 : r ≤ r * r := Nat.le_mul_self r
              omega
            clear hle
            go_wp2
            go_round
            case rel => exact ⟨r + 1, by simpa using hlt, by go_num⟩
            case measure => simp [intOf]; omega
          · obtain ⟨e1, e2⟩ := rootK_iff (n := n) hnn hr (by omega)
            have Hk := Lib.hid e1; have Hv := Lib.hid e2; clear e1 e2 hle
            by_cases heq : (r : Int) * r = n
            · have hne : (((r : Int) * r) != n) = false := by simp [heq]
              have Heq := Lib.hid heq; clear heq
              go_wp2
              go_ret2
              have hkk : rootK n = true := by rw [Hk.out]; exact decide_eq_true Heq.out
              exact ⟨ret_root (by unfold rootV; rw [hkk, Hv.out]; rfl) hkk.symm, rfl⟩
            · have hne : (((r : Int) * r) != n) = true := by simp [heq]
              have Heq := Lib.hid heq; clear heq
              go_wp2
              go_ret2
              have hkk : rootK n = false := by rw [Hk.out]; exact decide_eq_false Heq.out
              exact ⟨ret_root (by unfold rootV; rw [hkk]; rfl) hkk.symm, rfl⟩

/-! ### seRoot -/
def rootS (n : Int) : Int := if rootK n then (fsq n.toNat : Int) else -1
set_option maxRecDepth 8000 in
set_option maxHeartbeats 1600000 in
theorem seRoot_any (n : Int) (w : World) (hn : n < 16000000000000) :
    Calls Try.prog 65 #[.int .i64 n] w fun e w' => e = .returned (.int .i64 (rootS n)) ∧ w = w' := by
  by_cases h0 : n < 0
  · have Hz := Lib.hid (rootK_neg h0)
    go_enter Try.func65, Try.ntmps65
    go_wp2
    go_ret
    exact ⟨ret_int (by unfold rootS; rw [Hz.out]; rfl), rfl⟩
  · have h1 : 0 ≤ n := by omega
    clear h0
    go_enter Try.func65, Try.ntmps65
    go_wp2
    go_loop [3, 4] (fun l h => ∃ lo hi : Nat, lo ≤ hi ∧ hi ≤ 4000000 ∧ (lo : Int) * lo ≤ n ∧ n < ((hi : Int) + 1) * (hi + 1) ∧ l = .int .i64 lo ∧ h = .int .i64 hi) (fun l h => (intOf h).toNat - (intOf l).toNat)
    case atStart => exact ⟨0, 4000000, by omega, by omega, by omega, by omega, rfl, rfl⟩
    case round =>
      obtain ⟨lo, hi, hle, hhi, hl, hh, rfl, rfl⟩ := hrel
      by_cases hlt : lo < hi
      · obtain ⟨mid, hmid⟩ : ∃ mid : Nat, mid = (lo + hi + 1) / 2 := ⟨_, rfl⟩
        have hm : ((lo : Int) + hi + 1) / 2 = (mid : Int) := by omega
        have m1 : lo < mid := by omega
        have m2 : mid ≤ hi := by omega
        have b1 := sq_bound (r := mid) (b := 4000000) (by omega)
        have b0 := sq_nn mid
        clear hmid
        by_cases ht : (mid : Int) * mid ≤ n
        · go_wp2
          go_round
          case rel => exact ⟨mid, hi, m2, hhi, ht, hh, by rw [hm], rfl⟩
          case measure => simp [intOf]; omega
        · obtain ⟨q, hq⟩ : ∃ q, mid = q + 1 := ⟨mid - 1, by omega⟩
          have Hq := Lib.hid hq; clear hq
          have Ht := Lib.hid (show n < (mid : Int) * mid by omega)
          go_wp2
          go_round
          case rel => exact ⟨lo, q, by have := Hq.out; omega, by have := Hq.out; omega, hl, by have := Ht.out; rw [Hq.out] at this; simpa using this, rfl, by congr 1; have := Hq.out; omega⟩
          case measure => have := Hq.out; simp [intOf]; omega
      · obtain rfl : lo = hi := by omega
        obtain ⟨e1, e2⟩ := rootK_iff h1 hl hh
        have Hk := Lib.hid e1; have Hv := Lib.hid e2; clear e1 e2
        have b1 := sq_bound hhi
        have b0 := sq_nn lo
        clear hh hl
        by_cases heq : (lo : Int) * lo = n
        · have hne : (((lo : Int) * lo) != n) = false := by simp [heq]
          have Heq := Lib.hid heq; clear heq
          go_wp2
          go_ret
          have hkk : rootK n = true := by rw [Hk.out]; exact decide_eq_true Heq.out
          exact ⟨ret_int (by unfold rootS; rw [hkk, Hv.out]; rfl), rfl⟩
        · have hne : (((lo : Int) * lo) != n) = true := by simp [heq]
          have Heq := Lib.hid heq; clear heq
          go_wp2
          go_ret
          have hkk : rootK n = false := by rw [Hk.out]; exact decide_eq_false Heq.out
          exact ⟨ret_int (by unfold rootS; rw [hkk]; rfl), rfl⟩
end Go.Proofs.Ytjnghjgfhlgbiaa
