/- MergeCatalogues and TightenEntry of the reference and of the program: the walks. Conditions: none. -/
import Derived.Test.YtkalelljncapdaaApp2
import Derived.Test.YtkalelljncapdaaTight2
import Derived.Test.YtkalelljncapdaaMergeI
namespace Go.Proofs.Ytkalelljncapdaa
open Go Go.RowKit

theorem rd_lit {w : World} {b : Nat} {y : En} (h : Blk w b 42 #[.int .i64 y.a, .int .i64 y.b, .int .i64 y.lo, .int .i64 y.hi, .int .i64 y.to]) : Rd enS w w.heap.size (.slice (some ⟨b, 0, none⟩) 1 1) [y] := by
  refine ⟨some ⟨b, 0, none⟩, 1, rfl, Nat.le_refl _, by unfold maxLen; omega, fun _ => ⟨b, 0, rfl, h.lt, fun k hk j hj => ?_⟩⟩
  have hk0 : k = 0 := by simpa using hk
  subst hk0
  have hj5 : j < 5 := hj
  match j, hj5 with
  | 0, _ => exact h.cell 0
  | 1, _ => exact h.cell 1
  | 2, _ => exact h.cell 2
  | 3, _ => exact h.cell 3
  | 4, _ => exact h.cell 4
theorem cat_ok {es : List En} (h : catB es = true) : es.length ≤ 12 ∧ okCat es := catB_spec h
theorem one_ent {y : En} (hy : entE y = true) : ∀ k, k < [y].length → entE (enS.get [y] k) = true := by
  intro k hk
  have hk0 : k = 0 := by simpa using hk
  subst hk0
  exact hy
theorem cat_ents {bs : List En} (h : catB bs = true) : ∀ k, k < bs.length → entE (enS.get bs k) = true := fun k hk => okE_ent ((catB_spec h).2 k hk)




end Go.Proofs.Ytkalelljncapdaa
