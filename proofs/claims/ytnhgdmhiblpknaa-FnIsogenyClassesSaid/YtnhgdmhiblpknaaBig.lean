/- The laws' bound on what they draw from. Conditions: none. -/
import Derived.Test.YtnhgdmhiblpknaaBase2
namespace Go.Proofs.Ytnhgdmhiblpknaa
open Go Go.RowKit
def bigB (n m : Nat) : Bool := decide (1048576 < (n : Int)) || decide (1048576 - (n : Int) < (m : Int))
theorem big_any (A : Option Addr) (n c : Nat) (B : Option Addr) (m d : Nat) (w : World) :
    Calls Try.prog 14 #[.slice A n c, .slice B m d] w fun r w' => r = .returned (.bool (bigB n m)) ∧ Below w.heap.size w w' := by
  by_cases h1 : (1048576 : Int) < (n : Int)
  · have h1' : 1048576 < n := by omega
    have hv : bigB n m = true := by unfold bigB; rw [decide_eq_true h1]; rfl
    rw [hv]; clear hv
    go_enter Try.func14, Try.ntmps14
    go_wp2
    go_ret
    exact ⟨rfl, Below.refl _ _⟩
  · have h1' : ¬ 1048576 < n := by omega
    have hv : bigB n m = decide (1048576 - (n : Int) < (m : Int)) := by unfold bigB; rw [decide_eq_false h1]; rfl
    rw [hv]; clear hv
    go_enter Try.func14, Try.ntmps14
    go_wp2
    go_ret
    exact ⟨rfl, Below.refl _ _⟩
end Go.Proofs.Ytnhgdmhiblpknaa
