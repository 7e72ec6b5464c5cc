/- FindEntry of the reference and of the program. Conditions: none. -/
import Derived.Test.YticbmpjdcanjkaaGreatDoorFind
namespace Go.Proofs.YticbmpjdcanjkaaGreatDoor
open Go Go.RowKit

theorem okAt_lt {es : List En} {k : Nat} (h : okAt es (k + 1) = true) : cmpC (enS.get es k).a (enS.get es k).b (enS.get es (k + 1)).a (enS.get es (k + 1)).b < 0 := by
  unfold okAt at h
  simp only [Bool.and_eq_true, Bool.or_eq_true, decide_eq_true_eq, Nat.add_sub_cancel] at h
  rcases h.2 with h' | h'
  · simp at h'
  · exact h'
theorem cmpC_trans {a b c d e f : Int} (h1 : cmpC a b c d < 0) (h2 : cmpC c d e f < 0) : cmpC a b e f < 0 := by
  rw [cmpC_lt] at *
  omega
/-- A catalogue is in order. -/
theorem cat_sorted {es : List En} (hv : ∀ k, k < es.length → okAt es k = true) (i : Nat) : ∀ d, i + d + 1 < es.length → cmpC (enS.get es i).a (enS.get es i).b (enS.get es (i + d + 1)).a (enS.get es (i + d + 1)).b < 0
  | 0, h => okAt_lt (hv _ h)
  | d + 1, h => cmpC_trans (cat_sorted hv i d (by omega)) (okAt_lt (hv _ h))
theorem cat_lt {es : List En} (hv : ∀ k, k < es.length → okAt es k = true) {i j : Nat} (hij : i < j) (hj : j < es.length) : cmpC (enS.get es i).a (enS.get es i).b (enS.get es j).a (enS.get es j).b < 0 := by
  have := cat_sorted hv i (j - i - 1) (by omega)
  rw [show i + (j - i - 1) + 1 = j by omega] at this
  exact this

theorem isCu_iff {es : List En} {a b : Int} {k : Nat} : isCu es a b k = true ↔ (enS.get es k).a = a ∧ (enS.get es k).b = b := by
  unfold isCu
  simp
theorem bef_notCu {es : List En} {a b : Int} {k : Nat} (h : befB es a b k = true) : isCu es a b k = false := by
  cases hc : isCu es a b k
  · rfl
  · obtain ⟨h1, h2⟩ := isCu_iff.1 hc
    unfold befB at h
    rw [decide_eq_true_eq, cmpC_lt] at h
    omega
theorem first_le (es : List En) (a b : Int) : firstN es a b ≤ es.length := by
  have := (lead_spec (fun k => !isCu es a b k) es.length 0).2.1
  unfold firstN; omega
theorem place_le (es : List En) (a b : Int) : placeN es a b ≤ es.length := by
  have := (lead_spec (befB es a b) es.length 0).2.1
  unfold placeN; omega
/-- In a catalogue the place of a curve is the first place that does not come before it, or there is none. -/
theorem place_first {es : List En} {a b : Int} (hv : ∀ k, k < es.length → okAt es k = true) : firstN es a b = if atB es (placeN es a b) a b then placeN es a b else es.length := by
  obtain ⟨_, g2, g3, g4⟩ := lead_spec (befB es a b) es.length 0
  rw [Nat.zero_add] at g2 g4
  change placeN es a b ≤ _ at g2
  change ∀ j, 0 ≤ j → j < placeN es a b → _ at g3
  change placeN es a b < _ → befB es a b (placeN es a b) = false at g4
  generalize placeN es a b = p at g2 g3 g4
  have hlow : ∀ j, j < p → isCu es a b j = false := fun j hj => bef_notCu (g3 j (by omega) hj)
  unfold atB
  rcases Nat.lt_or_ge p es.length with hp | hp
  · rw [decide_eq_true hp, Bool.true_and]
    cases hc : isCu es a b p
    · rw [if_neg (by simp)]
      refine lead_eq _ _ _ (Nat.le_refl _) (fun j hj => ?_) (fun h => by omega)
      rcases Nat.lt_trichotomy j p with h | h | h
      · rw [hlow j h]; rfl
      · rw [h, hc]; rfl
      · have h1 := cat_lt hv h hj
        have h2 := g4 hp
        unfold befB at h2
        rw [decide_eq_false_iff_not, cmpC_lt] at h2
        rw [cmpC_lt] at h1
        have h3 : ¬ ((enS.get es p).a = a ∧ (enS.get es p).b = b) := fun e => by rw [isCu_iff.2 e] at hc; cases hc
        cases hj' : isCu es a b j
        · rfl
        · obtain ⟨e1, e2⟩ := isCu_iff.1 hj'
          omega
    · rw [if_pos rfl]
      exact lead_eq _ _ _ (by omega) (fun j hj => by rw [hlow j hj]; rfl) (fun _ => by rw [hc]; rfl)
  · rw [decide_eq_false (by omega), Bool.false_and, if_neg (by simp)]
    exact lead_eq _ _ _ (Nat.le_refl _) (fun j hj => by rw [hlow j (by omega)]; rfl) (fun h => by omega)
theorem first_valid {es : List En} {a b : Int} (hv : ∀ k, k < es.length → okAt es k = true) (h : firstN es a b < es.length) : curveB a b = true := by
  obtain ⟨_, g2, g3, g4⟩ := lead_spec (fun k => !isCu es a b k) es.length 0
  rw [Nat.zero_add] at g4
  have h1 := g4 h
  change (!isCu es a b (firstN es a b)) = false at h1
  obtain ⟨e1, e2⟩ := isCu_iff.1 (by simpa using h1)
  have := entB_curve (okAt_ent (hv _ h))
  rw [e1, e2] at this
  exact this

theorem findV_no {es : List En} {a b : Int} (h : ¬ firstN es a b < es.length) : findV es a b = (⟨0, 0, 0, 0, 0⟩, false) := by
  unfold findV
  rw [decide_eq_false h, Bool.and_false]; rfl
theorem findV_bad {es : List En} {a b : Int} (h : catB es = false) : findV es a b = (⟨0, 0, 0, 0, 0⟩, false) := by
  unfold findV
  rw [h, Bool.false_and]; rfl
theorem findV_yes {es : List En} {a b : Int} (h : catB es = true) (h2 : firstN es a b < es.length) : findV es a b = (enS.get es (firstN es a b), true) := by
  unfold findV
  rw [h, decide_eq_true h2]; rfl

end Go.Proofs.YticbmpjdcanjkaaGreatDoor
