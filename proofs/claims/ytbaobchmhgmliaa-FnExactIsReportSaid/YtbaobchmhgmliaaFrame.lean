/- What the frames of the laws share. Conditions: none. -/
import Derived.Test.YtbaobchmhgmliaaRows
import Derived.Test.YtbaobchmhgmliaaOpen
namespace Go.Proofs.Ytbaobchmhgmliaa
open Go Go.RowKit Go.ChangeShapes Go.WideShapes
theorem own_knob : ownKnob Try.prog.godebug = none := by kernel_rfl
theorem laid_out : laidOutB Try.prog = true := by kernel_rfl
theorem bounds_i64 {n : Int} (h : (Lit.int .i64 n).wf = true) : -9223372036854775808 ≤ n ∧ n ≤ 9223372036854775807 := by
  simp [Lit.wf, IntKind.min, IntKind.max, IntKind.signed, IntKind.bits] at h
  omega
end Go.Proofs.Ytbaobchmhgmliaa
