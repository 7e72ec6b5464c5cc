/- Own lemma that knows no program: a row of a slice of slices that an append grows, stored back in its place. Conditions: none. -/
import Derived.Test.YtnhgdmhiblpknaaNest
namespace Go.Proofs.Ytnhgdmhiblpknaa
open Go Go.RowKit

theorem vat_setv_ne {vs : List Value} {j i : Nat} {u : Value} (h : i ≠ j) : vat (vs.set j u) i = vat vs i := by
  unfold vat; rw [List.getD_eq_getElem?_getD, List.getD_eq_getElem?_getD, List.getElem?_set_ne (fun e => h e.symm)]
theorem vat_setv_eq {vs : List Value} {j : Nat} {u : Value} (h : j < vs.length) : vat (vs.set j u) j = u := by
  unfold vat; rw [List.getD_eq_getElem?_getD, List.getElem?_set_self h]; rfl
theorem NOwn.grow {w w1 : World} {te ti : TypeId} {base hi g0 cap : Nat} {vs : List Value} {css : List (List Value)} (h : NOwn w te ti base hi (.slice (some ⟨g0, 0, none⟩) css.length cap) vs css) {j : Nat} (hj : j < css.length) {u : Value} {c : List Value}
    (hrow : w1.ownsRow base ti 1 u c.length c) (hg : w.grownBy w1 (vat vs j).ownBlock) (hat : u.ownBlock = (vat vs j).ownBlock ∨ u.ownBlock = some w.heap.size) (hhi : hi ≤ w.heap.size) :
    NOwn (w1.setCell ⟨g0, j, none⟩ u) te ti base (w1.setCell ⟨g0, j, none⟩ u).heap.size (.slice (some ⟨g0, 0, none⟩) (css.set j c).length cap) (vs.set j u) (css.set j c) ∧ w.grownBy w1 (vat vs j).ownBlock ∧ w1.grownBy (w1.setCell ⟨g0, j, none⟩ u) (some g0) := by
  have hl : (css.set j c).length = css.length := List.length_set
  have hob : (Value.slice (some ⟨g0, 0, none⟩) css.length cap).ownBlock = some g0 := rfl
  have hg0 : g0 < hi := h.vhi g0 hob
  have hv1 : vs.length = css.length := h.len
  have hout1 := World.ownsRow.kept h.out hg (own_ne (fun g h1 h2 => h.top j g hj h2 h1))
  have hst := hout1.stored j u
  have hu : ∀ g, u.ownBlock = some g → g ≠ g0 ∧ (∀ i, i < css.length → i ≠ j → (vat vs i).ownBlock ≠ some g) := by
    intro g hgu
    rcases hat with h1 | h1
    · rw [h1] at hgu
      exact ⟨fun e => h.top j g hj hgu (by rw [e]; exact hob), fun i hi2 hne h2 => h.apart i j g hi2 hj hne h2 hgu⟩
    · rw [h1] at hgu
      cases hgu
      refine ⟨by omega, fun i hi2 _ h2 => ?_⟩
      have := h.ihi i _ hi2 h2
      omega
  have hsz : (w1.setCell ⟨g0, j, none⟩ u).heap.size = w1.heap.size := World.size_setCell ..
  have hvat : ∀ i, i < css.length → (i = j ∧ vat (vs.set j u) i = u) ∨ (i ≠ j ∧ vat (vs.set j u) i = vat vs i) := by
    intro i hi2
    by_cases hij : i = j
    · subst hij; exact .inl ⟨rfl, vat_setv_eq (by omega)⟩
    · exact .inr ⟨hij, vat_setv_ne hij⟩
  refine ⟨⟨by rw [List.length_set, List.length_set]; exact hv1, by rw [hl]; exact hst.1, ?_, ?_, ?_, ?_, ?_⟩, hg, hst.2⟩
  · intro i hi2
    rw [hl] at hi2
    rcases hvat i hi2 with ⟨hij, e⟩ | ⟨hij, e⟩
    · subst hij
      rw [e, vat_set_eq hj]
      exact World.ownsRow.kept hrow hst.2 (by
        cases hb : u.ownBlock with
        | none => exact .inl rfl
        | some k => exact .inr (fun e2 => (hu k hb).1 (by cases e2; rfl)))
    · rw [e, vat_set_ne hij]
      have hk1 := World.ownsRow.kept (h.row i hi2) hg (own_ne (fun g h1 h2 => h.apart i j g hi2 hj hij h1 h2))
      exact World.ownsRow.kept hk1 hst.2 (by
        cases hb : (vat vs i).ownBlock with
        | none => exact .inl rfl
        | some k => exact .inr (fun e2 => h.top i k hi2 hb (by cases e2; exact hob)))
  · intro i k g hi2 hk2 hne h1 h2
    rw [hl] at hi2 hk2
    rcases hvat i hi2 with ⟨hij, e⟩ | ⟨hij, e⟩ <;> rcases hvat k hk2 with ⟨hkj, e2⟩ | ⟨hkj, e2⟩
    · exact hne (hij.trans hkj.symm)
    · rw [e] at h1; rw [e2] at h2; exact (hu g h1).2 k hk2 hkj h2
    · rw [e] at h1; rw [e2] at h2; exact (hu g h2).2 i hi2 hij h1
    · rw [e] at h1; rw [e2] at h2; exact h.apart i k g hi2 hk2 hne h1 h2
  · intro i g hi2 h1 h2
    rw [hl] at hi2
    have e3 : g = g0 := by
      have : (Value.slice (some ⟨g0, 0, none⟩) (css.set j c).length cap).ownBlock = some g0 := rfl
      rw [this] at h2; cases h2; rfl
    rcases hvat i hi2 with ⟨hij, e⟩ | ⟨hij, e⟩
    · rw [e] at h1; exact (hu g h1).1 e3
    · rw [e] at h1; exact h.top i g hi2 h1 (by rw [e3]; exact hob)
  · intro g h2
    have : (Value.slice (some ⟨g0, 0, none⟩) (css.set j c).length cap).ownBlock = some g0 := rfl
    rw [this] at h2; cases h2
    rw [hsz]
    have := hg.size
    omega
  · intro i g hi2 h1
    rw [hl] at hi2
    rw [hsz]
    rcases hvat i hi2 with ⟨hij, e⟩ | ⟨hij, e⟩
    · rw [e] at h1; exact (hrow.lt g h1).2
    · rw [e] at h1; have := h.ihi i g hi2 h1; have := hg.size; omega
end Go.Proofs.Ytnhgdmhiblpknaa
