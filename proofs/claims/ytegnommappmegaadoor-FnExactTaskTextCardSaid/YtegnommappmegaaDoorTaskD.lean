/- A task with other candidates done: doneTo and skAt. Conditions: bounds of a task. -/
import Derived.Test.YtegnommappmegaaDoorTaskS
import Derived.Test.YtegnommappmegaaDoorRow
import Derived.Test.YtegnommappmegaaDoorFrame
namespace Go.Proofs.YtegnommappmegaaDoor
open Go Go.RowKit

theorem own_far {w w' : World} {base : Nat} {e : TypeId} {size : Nat} {v : Value} {n : Nat} {xs : List Value} {g : Nat} (h : w.ownsRow base e size v n xs) (hw : w.grownBy w' (some g)) (hg : g < base) : w'.ownsRow base e size v n xs :=
  World.ownsRow.kept h hw (by
    cases hv : v.ownBlock with
    | none => exact .inl rfl
    | some k =>
      have := (h.lt k hv).1
      refine .inr (fun e => ?_)
      injection e with e
      omega)
theorem bthenB {B : Nat} {W0 w1 w2 : World} (h : Below B W0 w1) (hs : B ≤ W0.heap.size) (k : Below w1.heap.size w1 w2) : Below B W0 w2 := h.trans (k.mono (Nat.le_trans hs h.size))
theorem bstB {B : Nat} {W0 w1 : World} (h : Below B W0 w1) {p : Addr} (hp : B ≤ p.block) (u : Value) : Below B W0 (w1.setCell p u) := h.setCell hp u
theorem only_drew {a w : World} {row : Option Nat} (h : a.grownBy w row) : a.grownBy w.drew row := ⟨h.os, h.tape, h.output, h.size, h.block⟩

end Go.Proofs.YtegnommappmegaaDoor
