/- A journal among the arguments: opened to its two texts. Conditions: none. -/
import Derived.Test.YticbmpjdcanjkaaDoorFrame
import Derived.Lib.SmallJoins
namespace Go.Proofs.YticbmpjdcanjkaaDoor
open Go Go.RowKit Go.ChangeShapes Go.WideShapes Go.Deep
theorem open_jrn {H : Type} {enc : TypeId × Value → H} {P : Program} {w : World} {base : Nat} {spare : Nat → Bool} {held : Bool} {r : Reach} {b0 : Nat} {t : TypeId} {f0 f1 : Field} {v : Value} {d : DataW H} {p : List MemPlace}
    (hs : P.underlying t = some (.struct #[f0, f1])) (u0 : P.underlying f0.type = some .string) (u1 : P.underlying f1.type = some .string) (hone : oneCellFields P #[f0, f1] = true) (hC : P.cellsOf t = 2)
    (hv : Value.okWide P w r b0 t v) (h : DataW.Trod enc P w base spare held t v d p) : ∃ D Q : ByteArray, v = .agg #[.string D, .string Q] ∧ D.size ≤ maxLen ∧ Q.size ≤ maxLen := by
  obtain ⟨v0, v1, y0, y1, n, rfl, -, -, h0, h1⟩ := Joins.open_agg2 hs hone hC hv h
  obtain ⟨D, hD, -, hDs⟩ := DataW.trod_string u0 h0
  obtain ⟨Q, hQ, -, hQs⟩ := DataW.trod_string u1 h1
  simp at hD hQ
  subst hD; subst hQ
  exact ⟨D, Q, rfl, hDs, hQs⟩
end Go.Proofs.YticbmpjdcanjkaaDoor
