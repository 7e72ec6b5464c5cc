/- Helpers of the laws of reports: own rows of reports, big, the program's AreReports. Conditions: none. Printed by gen_replaw.py. -/
import Derived.Test.YtjnghjgfhlgbiaaDoorDrI
import Derived.Test.YtjnghjgfhlgbiaaDoorQRe
import Derived.Test.YtjnghjgfhlgbiaaDoorGoodReport
namespace Go.Proofs.YtjnghjgfhlgbiaaDoor
open Go Go.RowKit

def rpMk9 (c : Nat → Int) : Rp := ⟨c 0, c 1, c 2, c 3, c 4, c 5, c 6⟩
theorem rpMk9_cell (c : Nat → Int) (j : Nat) (hj : j < rpS.size) : rpS.cell (rpMk9 c) j = .int .i64 (c j) := by
  match j, hj with
  | 0, _ => rfl
  | 1, _ => rfl
  | 2, _ => rfl
  | 3, _ => rfl
  | 4, _ => rfl
  | 5, _ => rfl
  | 6, _ => rfl
theorem IR.rp {w : World} {B : Nat} {t : TypeId} {v : Value} {n : Nat} (h : IR w B t 7 v n) : ∃ es : List Rp, es.length = n ∧ w.ownsRow B t 7 v es.length (rpS.flat es) := by
  obtain ⟨xs, h1, h2⟩ := h.ex
  obtain ⟨es, h3, h4⟩ := flat_ex rpS rpMk9 rpMk9_cell n xs h1.1 h2
  exact ⟨es, h3, by rw [h3, h4]; exact h1⟩
theorem qRp_eq (u v : Value) (es fs : List Rp) (w : World) (e : es = fs) (hu : Rd rpS w w.heap.size u es) (hv : Rd rpS w w.heap.size v fs) :
    Calls Tryd.prog 8 #[u, v] w fun r w' => r = .returned (.bool true) ∧ Below w.heap.size w w' := by
  have h := qRp_any u v es fs w hu hv
  rwa [decide_eq_true e] at h
theorem qRp_same (u v : Value) (es : List Rp) (w : World) (hu : Rd rpS w w.heap.size u es) (hv : Rd rpS w w.heap.size v es) :
    Calls Tryd.prog 8 #[u, v] w fun r w' => r = .returned (.bool true) ∧ Below w.heap.size w w' := qRp_eq u v es es w rfl hu hv
def bigB (n m : Nat) : Bool := decide (1048576 < (n : Int)) || decide (1048576 - (n : Int) < (m : Int))
theorem big_any (A : Option Addr) (n c : Nat) (B : Option Addr) (m d : Nat) (w : World) :
    Calls Tryd.prog 4 #[.slice A n c, .slice B m d] w fun r w' => r = .returned (.bool (bigB n m)) ∧ Below w.heap.size w w' := by
  by_cases h1 : (1048576 : Int) < (n : Int)
  · have h1' : 1048576 < n := by omega
    have hv : bigB n m = true := by unfold bigB; rw [decide_eq_true h1]; rfl
    rw [hv]; clear hv
    go_enter Tryd.func4, Tryd.ntmps4
    go_wp2
    go_ret
    exact ⟨rfl, Below.refl _ _⟩
  · have h1' : ¬ 1048576 < n := by omega
    have hv : bigB n m = decide (1048576 - (n : Int) < (m : Int)) := by unfold bigB; rw [decide_eq_false h1]; rfl
    rw [hv]; clear hv
    go_enter Tryd.func4, Tryd.ntmps4
    go_wp2
    go_ret
    exact ⟨rfl, Below.refl _ _⟩
theorem areI_any (v : Value) (es : List Rp) (w : World) (h : Rd rpS w w.heap.size v es) :
    Calls Tryd.prog 10 #[v] w fun e w' => e = .returned (.bool (repsB es)) ∧ Below w.heap.size w w' := by
  go_enter Tryd.func10, Tryd.ntmps10
  go_wp2_with (go_at_call 27; refine (areReports_any _ _ _ h).mono ?_; rintro e w' ⟨rfl, hb1⟩)
  go_ret
  exact ⟨rfl, by (repeat (with_reducible first | exact Below.refl _ _ | assumption | refine bal ?_ _ | refine bst ?_ (by simp <;> omega) _ | refine Below.drew ?_ | refine bthen ?_ (by assumption)))⟩
end Go.Proofs.YtjnghjgfhlgbiaaDoor
