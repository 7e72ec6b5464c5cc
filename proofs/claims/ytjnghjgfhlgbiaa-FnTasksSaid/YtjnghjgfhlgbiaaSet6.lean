/- Own lemma that knows no program: a block of six cells written anew. Conditions: none. -/
import Derived.Test.YtjnghjgfhlgbiaaKit
namespace Go.Proofs.Ytjnghjgfhlgbiaa
open Go Go.RowKit

section
variable {w : World} {g : Nat} {t : TypeId}
theorem Blk.set6 {a0 a1 a2 a3 a4 a5 b0 b1 b2 b3 b4 b5 : Value} (h : Blk w g t #[a0, a1, a2, a3, a4, a5]) : Blk ((((((w.setCell ⟨g, 0, none⟩ b0).setCell ⟨g, 1, none⟩ b1).setCell ⟨g, 2, none⟩ b2).setCell ⟨g, 3, none⟩ b3).setCell ⟨g, 4, none⟩ b4).setCell ⟨g, 5, none⟩ b5) g t #[b0, b1, b2, b3, b4, b5] := by
  have q := ((((((h.set 0 b0).set 1 b1).set 2 b2).set 3 b3).set 4 b4).set 5 b5)
  simp only [List.setIfInBounds_toArray, List.set_cons_zero, List.set_cons_succ] at q
  exact q
end
end Go.Proofs.Ytjnghjgfhlgbiaa
