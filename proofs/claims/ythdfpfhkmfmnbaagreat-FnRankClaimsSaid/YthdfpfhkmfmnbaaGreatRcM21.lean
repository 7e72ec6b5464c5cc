/- Own texts put together: The reference's source of drawn curves and entries. Conditions: those of each theorem. -/
import Derived.Test.YthdfpfhkmfmnbaaGreatRcM20
namespace Go.Proofs.YthdfpfhkmfmnbaaGreat
section
open Go Go.RowKit

theorem among_lit (g k b : Nat) (es : List Int) (w : World) (hb : b = w.heap.size) (hc : Cur w g k) (hne : es ≠ []) (hl : es.length ≤ 1000) (hk : k ≤ 900000) :
    Calls Tryz.prog 39 #[.pointer (some ⟨g, 0, none⟩), .slice (some ⟨b, 0, none⟩) es.length es.length] (w.alloc (Obj.cells (es.map (Value.int .i64)).toArray 3)) fun e w' => (∃ y : Int, y ∈ es ∧ e = .returned (.int .i64 y)) ∧ Cur w' g (k + 2) ∧ Dg g (w.alloc (Obj.cells (es.map (Value.int .i64)).toArray 3)) w' := by
  subst hb
  have hl2 := hc.lt
  refine among_any g k _ es _ (hc.alloc _) (rdI w 3 es hl) hne (fun A n c e => ?_) hk
  injection e with e1 e2 e3
  injection e1 with e1
  subst e1
  show w.heap.size ≠ g
  omega
theorem ag2 {es : List Int} {x : Int} (h : x ∈ es) {lo hi : Int} (hall : ∀ y ∈ es, lo ≤ y ∧ y ≤ hi) : lo ≤ x ∧ x ≤ hi := hall x h
theorem own_st {w : World} {base : Nat} {e : TypeId} {size n : Nat} {v : Value} {xs : List Value} (h : w.ownsRow base e size v n xs) {p : Addr} (hp : ∀ k, v.ownBlock = some k → k ≠ p.block) (u : Value) : (w.setCell p u).ownsRow base e size v n xs := by
  refine World.ownsRow.kept (row := some p.block) h ⟨rfl, rfl, rfl, by rw [World.size_setCell]; exact Nat.le_refl _, fun i hi hne => Below.heap_setCell w p u i (fun e => hne (by rw [e]))⟩ ?_
  cases hv : v.ownBlock with
  | none => exact .inl rfl
  | some k => exact .inr (fun e => hp k hv (by injection e))

end
end Go.Proofs.YthdfpfhkmfmnbaaGreat
