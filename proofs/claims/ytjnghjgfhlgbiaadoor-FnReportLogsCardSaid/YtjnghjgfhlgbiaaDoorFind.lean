/- The entry of a curve: both functions. Conditions: none. -/
import Derived.Test.YtjnghjgfhlgbiaaDoorGoodEntry
namespace Go.Proofs.YtjnghjgfhlgbiaaDoor
open Go Go.RowKit

/-- Does the k-th entry's curve come before a curve? -/
def befB (es : List En) (a b : Int) (k : Nat) : Bool := decide (cmpC (enS.get es k).a (enS.get es k).b a b < 0)
def isCu (es : List En) (a b : Int) (k : Nat) : Bool := (enS.get es k).a == a && (enS.get es k).b == b

/-- The number of the leading k's with p. -/
def lead (p : Nat → Bool) : Nat → Nat → Nat
  | 0, k => k
  | f + 1, k => if p k then lead p f (k + 1) else k
theorem lead_spec (p : Nat → Bool) : ∀ f k, k ≤ lead p f k ∧ lead p f k ≤ k + f ∧ (∀ j, k ≤ j → j < lead p f k → p j = true) ∧ (lead p f k < k + f → p (lead p f k) = false)
  | 0, k => ⟨Nat.le_refl _, Nat.le_refl _, fun j h1 h2 => by unfold lead at h2; omega, fun h => by unfold lead at h; omega⟩
  | f + 1, k => by
    unfold lead
    by_cases h : p k = true
    · rw [if_pos h]
      obtain ⟨h1, h2, h3, h4⟩ := lead_spec p f (k + 1)
      refine ⟨by omega, by omega, fun j hj1 hj2 => ?_, fun hl => h4 (by omega)⟩
      rcases Nat.lt_or_ge k j with hk | hk
      · exact h3 j (by omega) hj2
      · obtain rfl : j = k := by omega
        exact h
    · rw [if_neg h]
      exact ⟨Nat.le_refl _, by omega, fun j h1 h2 => by omega, fun _ => by simpa using h⟩
theorem lead_eq (p : Nat → Bool) (n m : Nat) (h1 : m ≤ n) (h2 : ∀ j, j < m → p j = true) (h3 : m < n → p m = false) : lead p n 0 = m := by
  obtain ⟨_, g2, g3, g4⟩ := lead_spec p n 0
  rcases Nat.lt_trichotomy (lead p n 0) m with h | h | h
  · have := g4 (by omega); rw [h2 _ h] at this; cases this
  · exact h
  · have := g3 m (by omega) h; rw [h3 (by omega)] at this; cases this

/-- The first place that does not come before a curve. -/
def placeN (es : List En) (a b : Int) : Nat := lead (befB es a b) es.length 0
def atB (es : List En) (k : Nat) (a b : Int) : Bool := decide (k < es.length) && isCu es a b k
/-- The first place of a curve. -/
def firstN (es : List En) (a b : Int) : Nat := lead (fun k => !isCu es a b k) es.length 0
def findV (es : List En) (a b : Int) : En × Bool := if catB es && decide (firstN es a b < es.length) then (enS.get es (firstN es a b), true) else (⟨0, 0, 0, 0, 0⟩, false)

theorem okAt_ent {es : List En} {k : Nat} (h : okAt es k = true) : entB (enS.get es k).a (enS.get es k).b (enS.get es k).lo (enS.get es k).hi (enS.get es k).to = true := by
  unfold okAt at h
  simp only [Bool.and_eq_true] at h
  exact h.1

/-- Two curves, held against each other: one Bool. -/
theorem eqlCu (x y a b : Int) (W : World) : (binOp .eql 26 (.agg #[.int .i64 x, .int .i64 y]) (.agg #[.int .i64 a, .int .i64 b])).run Tryd.prog W = .ok (.bool (x == a && y == b)) W := by
  by_cases h1 : x = a <;> by_cases h2 : y = b <;> simp [go_sem, h1, h2]

end Go.Proofs.YtjnghjgfhlgbiaaDoor
