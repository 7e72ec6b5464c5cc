/- Own lemmas that know no program: a row of the call's own, edited in place. Conditions: none. -/
import Derived.Test.YtnhgdmhiblpknaaKit
import Derived.Laws.IdiomCopy
namespace Go.Proofs.Ytnhgdmhiblpknaa
open Go Go.RowKit

section
variable {w w1 w2 : World} {row : Option Nat} {B g : Nat}
theorem gthen (h : w.grownBy w1 row) (k : Below w1.heap.size w1 w2) : w.grownBy w2 row :=
  ⟨k.os.trans h.os, k.tape.trans h.tape, k.output.trans h.output, Nat.le_trans h.size k.size, fun i hi hne => (k.block i (Nat.lt_of_lt_of_le hi h.size)).trans (h.block i hi hne)⟩
theorem gthen2 (h : w.grownBy w1 row) (k : w1.grownBy w2 row) : w.grownBy w2 row :=
  ⟨k.os.trans h.os, k.tape.trans h.tape, k.output.trans h.output, Nat.le_trans h.size k.size, fun i hi hne => (k.block i (Nat.lt_of_lt_of_le hi h.size) hne).trans (h.block i hi hne)⟩
theorem grefl (w : World) (row : Option Nat) : w.grownBy w row := ⟨rfl, rfl, rfl, Nat.le_refl _, fun _ _ _ => rfl⟩
theorem gof (k : Below w.heap.size w w1) : w.grownBy w1 row := gthen (grefl _ _) k
theorem gnone (k : w.grownBy w1 none) : w.grownBy w1 row := ⟨k.os, k.tape, k.output, k.size, fun i hi _ => k.block i hi (by simp)⟩
end

/-! ### Cells laid over a list -/
def lay (xs : List Value) (o : Nat) : List Value → List Value
  | [] => xs
  | v :: r => lay (xs.set o v) (o + 1) r
theorem length_lay : ∀ (vs xs : List Value) (o : Nat), (lay xs o vs).length = xs.length
  | [], _, _ => rfl
  | v :: r, xs, o => by unfold lay; rw [length_lay r, List.length_set]
theorem lay_right : ∀ (vs ys bs : List Value) (o : Nat), ys.length ≤ o → lay (ys ++ bs) o vs = ys ++ lay bs (o - ys.length) vs
  | [], _, _, _, _ => rfl
  | v :: r, ys, bs, o, h => by
    unfold lay
    rw [List.set_append_right _ _ h, lay_right r ys _ (o + 1) (by omega)]
    congr 2
    omega
theorem lay_over : ∀ (vs pre ys bs : List Value), vs.length = ys.length → lay (pre ++ (ys ++ bs)) pre.length vs = pre ++ (vs ++ bs)
  | [], _, [], _, _ => rfl
  | v :: r, pre, a :: ys, bs, h => by
    have ih := lay_over r (pre ++ [v]) ys bs (by simpa using h)
    rw [List.length_append, List.length_singleton] at ih
    unfold lay
    rw [List.set_append_right _ _ (Nat.le_refl _), Nat.sub_self]
    simp only [List.cons_append, List.set_cons_zero, List.append_assoc, List.nil_append] at ih ⊢
    exact ih
theorem lay_take : ∀ (vs xs : List Value) (o m : Nat), m ≤ o → (lay xs o vs).take m = xs.take m
  | [], _, _, _, _ => rfl
  | v :: r, xs, o, m, h => by
    unfold lay
    rw [lay_take r _ (o + 1) m (by omega), List.take_set_of_le h]
section
variable {E : Type} {S : Shape E}
theorem lay_flat : ∀ (ys : List E) (i : Nat) (u : E), lay (S.flat ys) (i * S.size) (S.cells u) = S.flat (ys.set i u) ∨ ys.length ≤ i
  | [], i, u => .inr (by simp)
  | y :: ys, 0, u => .inl (by
    have := lay_over (S.cells u) [] (S.cells y) (S.flat ys) (by rw [Shape.length_cells, Shape.length_cells])
    simpa [Shape.flat] using this)
  | y :: ys, i + 1, u => by
    rcases lay_flat ys i u with h | h
    · refine .inl ?_
      have e1 : S.flat (y :: ys) = S.cells y ++ S.flat ys := by simp [Shape.flat]
      have e2 : S.flat ((y :: ys).set (i + 1) u) = S.cells y ++ S.flat (ys.set i u) := by simp [Shape.flat]
      rw [e1, e2, lay_right _ _ _ _ (by rw [Shape.length_cells, Nat.add_mul]; omega), Shape.length_cells, ← h]
      congr 2
      rw [Nat.add_mul]; omega
    · exact .inr (by simpa using h)
theorem flat_take : ∀ (ys : List E) (i : Nat), (S.flat ys).take (i * S.size) = S.flat (ys.take i)
  | [], i => by simp [Shape.flat]
  | y :: ys, 0 => by simp [Shape.flat]
  | y :: ys, i + 1 => by
    have ih := flat_take ys i
    have e1 : S.flat (y :: ys) = S.cells y ++ S.flat ys := by simp [Shape.flat]
    have e2 : S.flat ((y :: ys).take (i + 1)) = S.cells y ++ S.flat (ys.take i) := by simp [Shape.flat]
    rw [e1, e2, List.take_append, Shape.length_cells, List.take_of_length_le (by rw [Shape.length_cells, Nat.add_mul]; omega), ← ih]
    congr 2
    rw [Nat.add_mul]; omega
end

section
variable {w : World} {base : Nat} {e : TypeId} {size g n cap : Nat} {xs : List Value}
theorem own_lay : ∀ (vs : List Value) (w : World) (xs : List Value) (o : Nat), w.ownsRow base e size (.slice (some ⟨g, 0, none⟩) n cap) n xs →
    (w.setCells g o vs).ownsRow base e size (.slice (some ⟨g, 0, none⟩) n cap) n (lay xs o vs) ∧ w.grownBy (w.setCells g o vs) (some g)
  | [], w, xs, o, h => ⟨h, grefl _ _⟩
  | v :: r, w, xs, o, h => by
    have h1 := h.stored o v
    have h2 := own_lay r _ _ (o + 1) h1.1
    exact ⟨h2.1, gthen2 h1.2 h2.2⟩
theorem own_cut {i : Nat} (h : w.ownsRow base e size (.slice (some ⟨g, 0, none⟩) n cap) n xs) (hi : i ≤ n) : w.ownsRow base e size (.slice (some ⟨g, 0, none⟩) i cap) i (xs.take (i * size)) := by
  have hm : i * size ≤ n * size := Nat.mul_le_mul_right _ hi
  rcases h.2 with ⟨h', _⟩ | ⟨g', cap', cur, h', hb, hg, hnc, hcm, hcs, htake⟩
  · simp at h'
  · simp only [Value.slice.injEq, Option.some.injEq, Addr.mk.injEq, and_true, true_and] at h'
    obtain ⟨rfl, rfl⟩ := h'
    refine ⟨by rw [List.length_take, h.1]; omega, .inr ⟨g, cap, cur, rfl, hb, hg, by omega, hcm, hcs, ?_⟩⟩
    rw [← htake, List.take_take, Nat.min_eq_left hm]
theorem zeroCells_one {cs : Array Value} (h : ∀ i (hi : i < cs.size), cs[i].oneCell' = true) (hpos : 0 < cs.size) (n : Nat) : ∀ u ∈ (Builtin.zeroCells cs n).toList, u.oneCell' = true := by
  intro u hu
  simp only [Builtin.zeroCells, Array.toList_map, List.mem_map] at hu
  obtain ⟨j, -, rfl⟩ := hu
  rw [getElem!_pos cs _ (Nat.mod_lt _ hpos)]
  exact h _ _
theorem own_base (h : w.ownsRow base e size (.slice (some ⟨g, 0, none⟩) n cap) n xs) : base ≤ g ∧ g < w.heap.size := h.lt g rfl
/-- 'clear(s[i:])' on a row of the call's own. -/
theorem run_clear_row {P : Program} {t : TypeId} {z : Value} {i : Nat} (ht : P.underlying t = some (.slice e)) (hv : ∀ w, (zeroValue e).run P w = .ok z w) (h1 : ∀ u ∈ (Builtin.zeroCells z.cells (n - i)).toList, u.oneCell' = true) (hl : ∀ m, (Builtin.zeroCells z.cells m).size = m * size)
    (h : w.ownsRow base e size (.slice (some ⟨g, 0, none⟩) n cap) n xs) (hi : i ≤ n) (ty : TypeId) (c : Nat) :
    (Builtin.clear_ #[t] ty #[.slice (some ⟨g, i * size, none⟩) (n - i) c]).run P w = .ok (.tuple #[]) (w.setCells g (i * size) (Builtin.zeroCells z.cells (n - i)).toList) := by
  have hin : ∀ j, j < (n - i) * size → i * size + j < n * size := fun j hj => by
    rw [Nat.sub_mul] at hj
    omega
  have hst := run_storeCells_cells (P := P) g (i * size) (Builtin.zeroCells z.cells (n - i)).toList 0 w
    (fun j hj => by
      rw [Array.length_toList, hl] at hj
      have hc := h.cellAt (i * size + 0 + j) (by have := hin j hj; omega)
      have hlt : i * size + 0 + j < xs.length := by rw [h.1]; have := hin j hj; omega
      rw [List.getElem?_eq_getElem hlt] at hc
      rw [hc]; rfl)
    (fun j _ => h.frozenAt _) h1
  rcases Nat.eq_zero_or_pos (n - i) with h0 | h0
  · have hnil : (Builtin.zeroCells z.cells 0).toList = [] := List.eq_nil_of_length_eq_zero (by rw [Array.length_toList, hl, Nat.zero_mul])
    rw [h0, hnil]
    simp [Builtin.clear_, run_underlying ht, World.setCells]
  · obtain ⟨m, hm⟩ : ∃ m, n - i = m + 1 := ⟨n - i - 1, by omega⟩
    rw [hm] at hst ⊢
    simp only [Nat.add_zero] at hst
    simp [Builtin.clear_, run_underlying ht, hv, hst]
end
end Go.Proofs.Ytnhgdmhiblpknaa
