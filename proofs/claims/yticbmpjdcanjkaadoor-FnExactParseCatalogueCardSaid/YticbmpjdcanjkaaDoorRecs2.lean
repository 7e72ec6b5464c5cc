/- The program's records of a journal. Conditions: Env. -/
import Derived.Test.YticbmpjdcanjkaaDoorRecs
namespace Go.Proofs.YticbmpjdcanjkaaDoor
open Go Go.RowKit

/-- What both hand back: the records, if the journal is valid. -/
def jrV (D P : ByteArray) : List Rc := if jrOk D P = true then jrRecs D P else []
theorem jrV_ok {D P : ByteArray} (h : jrOk D P = true) : jrV D P = jrRecs D P := by unfold jrV; rw [if_pos h]
theorem jrV_no {D P : ByteArray} (h : jrOk D P = false) : jrV D P = [] := by unfold jrV; rw [h]; rfl
theorem rc_one (ys : List Rc) : ∀ u ∈ rcS.flat ys, u.oneCell' = true := by
  intro u hu
  obtain ⟨r, -, hr⟩ := List.mem_flatMap.1 hu
  have hr2 : u ∈ rcS.flat [r] := by simpa [Shape.flat] using hr
  rw [rc4] at hr2
  simp at hr2
  rcases hr2 with rfl | rfl | rfl | rfl <;> rfl
theorem own_two {w : World} {b : Nat} {t : TypeId} {z n c : Nat} {A : Option Addr} {xs : List Value} (h : w.ownsRow b t z (.slice A n c) n xs) : (n = 0 ∧ A = none ∧ c = 0) ∨ ∃ g, A = some ⟨g, 0, none⟩ ∧ b ≤ g ∧ g < w.heap.size := by
  rcases h.2 with ⟨h', hn⟩ | ⟨g, cap, cur, h', hb, hg, -⟩
  · cases h'; exact Or.inl ⟨hn, rfl, rfl⟩
  · cases h'; exact Or.inr ⟨g, rfl, hb, (Array.getElem?_eq_some_iff.1 hg).1⟩
theorem Addr.add_zero_block (g j : Nat) : (⟨g, 0, none⟩ : Addr).add j = ⟨g, j, none⟩ := by
  unfold Addr.add
  by_cases h : j = 0 <;> simp [h]
end Go.Proofs.YticbmpjdcanjkaaDoor
