/- The line of a record: sealRecord of the program and jrLine of the reference; SealRecord of both. Conditions: bounds; the table of powers of ten. -/
import Derived.Test.YtjnghjgfhlgbiaaDoorText
namespace Go.Proofs.YtjnghjgfhlgbiaaDoor
open Go Go.RowKit

/-! ### The sum of a text's bytes -/
def sumL (l : List UInt8) : Int := l.foldl (fun o b => (31 * o + (b.toNat : Int)) % 1000003) 1
theorem sumL_bd : ∀ l : List UInt8, 0 ≤ sumL l ∧ sumL l < 1000003 := by
  have key : ∀ (l : List UInt8) (z : Int), 0 ≤ z ∧ z < 1000003 → 0 ≤ l.foldl (fun o b => (31 * o + (b.toNat : Int)) % 1000003) z ∧ l.foldl (fun o b => (31 * o + (b.toNat : Int)) % 1000003) z < 1000003 := by
    intro l
    induction l with
    | nil => exact fun z h => h
    | cons b l ih => exact fun z h => ih _ (show 0 ≤ (31 * z + (b.toNat : Int)) % 1000003 ∧ (31 * z + (b.toNat : Int)) % 1000003 < 1000003 by omega)
  exact fun l => key l 1 (by omega)
theorem sumL_snoc (l : List UInt8) (b : UInt8) : sumL (l ++ [b]) = (31 * sumL l + (b.toNat : Int)) % 1000003 := by simp [sumL]
theorem take_snoc (s : ByteArray) (k : Nat) (h : k < s.size) : s.data.toList.take (k + 1) = s.data.toList.take k ++ [s[k]] := by
  rw [List.take_succ_eq_append_getElem (by simpa using h)]; rfl

/-! ### The line -/
def lineS (k a b lo hi : Int) : ByteArray := nText [k, a, b, lo, hi] ++ ⟨#[35]⟩ ++ itS (sumL (nText [k, a, b, lo, hi]).data.toList) ++ ⟨#[10]⟩
theorem nText5 (k a b lo hi : Int) : nText [k, a, b, lo, hi] = itS k ++ ⟨#[32]⟩ ++ nText [a, b] ++ ⟨#[32]⟩ ++ itS lo ++ ⟨#[32]⟩ ++ itS hi := by
  unfold nText
  apply ByteArray.ext
  simp [Lib.join, List.intercalate]
theorem nText_size (es : List Int) (b : Nat) (h : ∀ e ∈ es, e.natAbs ≤ b) : (nText es).size ≤ es.length * (b + 3) := nText_len es b h
/-- The bounds of a record and of its number. -/
structure RcB (k a b lo hi : Int) : Prop where
  k : 0 ≤ k ∧ k ≤ 29
  a : -1000 ≤ a ∧ a ≤ 1000
  b : -10000 ≤ b ∧ b ≤ 10000
  lo : 0 ≤ lo ∧ lo ≤ 20
  hi : 0 ≤ hi ∧ hi ≤ 20
theorem RcB.size {k a b lo hi : Int} (h : RcB k a b lo hi) : (nText [k, a, b, lo, hi]).size ≤ 100000 := by
  have := nText_size [k, a, b, lo, hi] 10000 (by
    intro e he
    have h1 := h.k; have h2 := h.a; have h3 := h.b; have h4 := h.lo; have h5 := h.hi
    simp at he
    omega)
  simp at this
  omega

theorem rd_ints (w : World) (t : TypeId) (es : List Int) (hl : es.length ≤ 1000) : Rd inS (w.alloc (.cells (es.map (Value.int .i64)).toArray t)) (w.alloc (.cells (es.map (Value.int .i64)).toArray t)).heap.size (.slice (some ⟨w.heap.size, 0, none⟩) es.length es.length) es := by
  refine ⟨_, es.length, rfl, Nat.le_refl _, by unfold maxLen; omega, fun _ => ⟨w.heap.size, 0, rfl, by rw [World.size_alloc]; omega, fun k hk j hj => ?_⟩⟩
  have hj0 : j = 0 := by simp [inS] at hj; exact hj
  subst hj0
  rw [show 0 + k * inS.size + 0 = k by simp [inS], (Blk.new w t (es.map (Value.int .i64)).toArray).cell k]
  rw [List.getElem?_toArray, List.getElem?_map, List.getElem?_eq_getElem hk, inS_get hk]
  rfl
end Go.Proofs.YtjnghjgfhlgbiaaDoor
