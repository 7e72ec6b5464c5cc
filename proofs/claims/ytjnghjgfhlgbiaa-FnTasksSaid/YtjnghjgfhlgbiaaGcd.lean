/- The walks: greatest common divisors of the program and of the reference. Conditions: bounds. -/
import Derived.Test.YtjnghjgfhlgbiaaBase2
import Derived.IntWalk
namespace Go.Proofs.Ytjnghjgfhlgbiaa
open Go Go.RowKit

def gcdI (a b : Int) : Int := (Nat.gcd a.natAbs b.natAbs : Nat)
theorem gcdI_step (a b : Int) : gcdI b (a.tmod b) = gcdI a b := by
  unfold gcdI
  rw [Int.natAbs_tmod, Nat.gcd_comm, ← Nat.gcd_rec, Nat.gcd_comm]
theorem gcdI_zero (a : Int) : gcdI a 0 = max a (-a) := by unfold gcdI; simp; omega
theorem tmod_lt {a b : Int} (h : b ≠ 0) : (a.tmod b).natAbs < b.natAbs := by
  rw [Int.natAbs_tmod]
  exact Nat.mod_lt _ (by omega)

set_option maxHeartbeats 1600000 in
theorem gcd_any (a b : Int) (w : World) (ha : -1000000000000 ≤ a ∧ a ≤ 1000000000000) (hb : -1000000000000 ≤ b ∧ b ≤ 1000000000000) :
    Calls Try.prog 56 #[.int .i64 a, .int .i64 b] w fun e w' => e = .returned (.int .i64 (gcdI a b)) ∧ Below w.heap.size w w' := by
  generalize hG : gcdI a b = G
  replace hG := Lib.hid hG
  go_enter Try.func56, Try.ntmps56
  go_wp2
  go_loopw [0, 1] (fun s t wr => ∃ x y : Int, s = .int .i64 x ∧ t = .int .i64 y ∧ Hid (gcdI x y = G) ∧ -1000000000000 ≤ x ∧ x ≤ 1000000000000 ∧ -1000000000000 ≤ y ∧ y ≤ 1000000000000 ∧ Below w.heap.size w wr) (fun _ t _ => (intOf t).natAbs)
  case atStart => exact ⟨a, b, rfl, rfl, hG, ha.1, ha.2, hb.1, hb.2, Below.refl _ _⟩
  case round =>
    obtain ⟨x, y, rfl, rfl, Hg, hx1, hx2, hy1, hy2, hbw⟩ := hrel
    clear ha hb
    by_cases hy : y = 0
    · subst hy
      have hm := Lib.hid (show max x (-x) = G by rw [← gcdI_zero]; exact Hg.out)
      go_wp2
      all_goals go_ret
      all_goals exact ⟨ret_int (by have := hm.out; omega), hbw⟩
    · have hne : (y != 0) = true := by simp [hy]
      obtain ⟨z, hz⟩ : ∃ z, x.tmod y = z := ⟨_, rfl⟩
      have Hlt := Lib.hid (show z.natAbs < y.natAbs by rw [← hz]; exact tmod_lt hy)
      have Hg2 := Lib.hid (show gcdI y z = G by rw [← hz, gcdI_step]; exact Hg.out)
      have Hz := Lib.hid hz; clear hz
      go_wp2
      refine wp_region_tame (by kernel_rfl) (by kernel_rfl) (fun T _ W hT => ?_)
      have hcell := hT.cell
      repeat (go_big_quiet_step (fail))
      refine wpQuiet_nil ?_
      intro t
      clear hcell
      go_wp2
      go_roundw
      case rel => exact ⟨y, z, rfl, by rw [Hz.out], Hg2, hy1, hy2, by have := Hlt.out; omega, by have := Hlt.out; omega, bthen hbw (hT.below t)⟩
      case measure => have := Hlt.out; simp only [intOf, Hz.out]; omega
set_option maxHeartbeats 1600000 in
theorem bgCommon_any (a b : Int) (w : World) (ha : 0 ≤ a ∧ a ≤ 1000000000000) (hb : 0 ≤ b ∧ b ≤ 1000000000000) :
    Calls Try.prog 63 #[.int .i64 a, .int .i64 b] w fun e w' => e = .returned (.int .i64 (gcdI a b)) ∧ w = w' := by
  generalize hG : gcdI a b = G
  replace hG := Lib.hid hG
  go_enter Try.func63, Try.ntmps63
  go_wp2
  go_loop [0, 1] (fun s t => ∃ x y : Int, s = .int .i64 x ∧ t = .int .i64 y ∧ Hid (gcdI x y = G) ∧ 0 ≤ x ∧ x ≤ 1000000000000 ∧ 0 ≤ y ∧ y ≤ 1000000000000) (fun _ t => (intOf t).natAbs)
  case atStart => exact ⟨a, b, rfl, rfl, hG, ha.1, ha.2, hb.1, hb.2⟩
  case round =>
    obtain ⟨x, y, rfl, rfl, Hg, hx1, hx2, hy1, hy2⟩ := hrel
    clear ha hb
    by_cases hy : y = 0
    · subst hy
      have hm := Lib.hid (show x = G by have h := Hg.out; rw [gcdI_zero] at h; omega)
      go_wp2
      go_ret
      exact ⟨ret_int hm.out, rfl⟩
    · have hpos : 0 < y := by omega
      have Hlt := Lib.hid (show 0 ≤ x % y ∧ x % y < y from ⟨Int.emod_nonneg _ hy, Int.emod_lt_of_pos _ hpos⟩)
      have Hg2 := Lib.hid (show gcdI y (x % y) = G by rw [← Int.tmod_eq_emod_of_nonneg hx1, gcdI_step]; exact Hg.out)
      go_wp2
      go_round
      case rel => exact ⟨y, x % y, rfl, rfl, Hg2, hy1, hy2, Hlt.out.1, by have := Hlt.out; omega⟩
      case measure => have := Hlt.out; simp [intOf]; omega
theorem l1Most_any (a b : Int) (w : World) : Calls Try.prog 68 #[.int .i64 a, .int .i64 b] w fun e w' => e = .returned (.int .i64 (max a b)) ∧ w = w' := by
  go_enter Try.func68, Try.ntmps68
  go_wp2
  all_goals go_ret
  all_goals exact ⟨ret_int (by omega), rfl⟩
theorem l1Least_any (a b : Int) (w : World) : Calls Try.prog 31 #[.int .i64 a, .int .i64 b] w fun e w' => e = .returned (.int .i64 (min a b)) ∧ w = w' := by
  go_enter Try.func31, Try.ntmps31
  go_wp2
  all_goals go_ret
  all_goals exact ⟨ret_int (by omega), rfl⟩
theorem l1Abs_any (a : Int) (w : World) (ha : -1000000000000 ≤ a ∧ a ≤ 1000000000000) : Calls Try.prog 64 #[.int .i64 a] w fun e w' => e = .returned (.int .i64 (max a (-a))) ∧ w = w' := by
  obtain ⟨h1, h2⟩ := ha
  go_enter Try.func64, Try.ntmps64
  go_wp2_with (go_at_call 68; refine (l1Most_any _ _ _).mono ?_; rintro e w' ⟨rfl, rfl⟩)
  go_ret
  exact ⟨rfl, rfl⟩
end Go.Proofs.Ytjnghjgfhlgbiaa
