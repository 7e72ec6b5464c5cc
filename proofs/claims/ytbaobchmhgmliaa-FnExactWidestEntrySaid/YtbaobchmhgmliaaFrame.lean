/- What the frames of the laws share. Conditions: none. -/
import Derived.Test.YtbaobchmhgmliaaRows
import Derived.Test.YtbaobchmhgmliaaOpen
import Derived.Test.YtbaobchmhgmliaaShapes
namespace Go.Proofs.Ytbaobchmhgmliaa
open Go Go.RowKit Go.ChangeShapes Go.WideShapes
theorem own_knob : ownKnob Try.prog.godebug = none := by kernel_rfl
theorem laid_out : laidOutB Try.prog = true := by kernel_rfl
theorem bounds_i64 {n : Int} (h : (Lit.int .i64 n).wf = true) : -9223372036854775808 ≤ n ∧ n ≤ 9223372036854775807 := by
  simp [Lit.wf, IntKind.min, IntKind.max, IntKind.signed, IntKind.bits] at h
  omega
def cuMk (c : Nat → Int) : Cu := ⟨c 0, c 1⟩
def enMk (c : Nat → Int) : En := ⟨c 0, c 1, c 2, c 3, c 4⟩
def rpMk (c : Nat → Int) : Rp := ⟨c 0, c 1, c 2, c 3, c 4, c 5, c 6⟩
theorem cuMk_cell (c : Nat → Int) (j : Nat) (hj : j < cuS.size) : cuS.cell (cuMk c) j = .int .i64 (c j) := by
  match j, hj with
  | 0, _ => rfl
  | 1, _ => rfl
theorem enMk_cell (c : Nat → Int) (j : Nat) (hj : j < enS.size) : enS.cell (enMk c) j = .int .i64 (c j) := by
  match j, hj with
  | 0, _ => rfl
  | 1, _ => rfl
  | 2, _ => rfl
  | 3, _ => rfl
  | 4, _ => rfl
theorem rpMk_cell (c : Nat → Int) (j : Nat) (hj : j < rpS.size) : rpS.cell (rpMk c) j = .int .i64 (c j) := by
  match j, hj with
  | 0, _ => rfl
  | 1, _ => rfl
  | 2, _ => rfl
  | 3, _ => rfl
  | 4, _ => rfl
  | 5, _ => rfl
  | 6, _ => rfl
end Go.Proofs.Ytbaobchmhgmliaa
