/- Rows of ints of a call's own, whatever the ints: kept, written, read, appended to; they are the cells of some list. Conditions: none. -/
import Derived.Test.YtnhgdmhiblpknaaDrC
namespace Go.Proofs.Ytnhgdmhiblpknaa
open Go Go.RowKit

def AllI (xs : List Value) : Prop := ∀ u ∈ xs, ∃ i : Int, u = .int .i64 i
/-- A row of n elements of z ints each. -/
structure IR (w : World) (B : Nat) (t : TypeId) (z : Nat) (v : Value) (n : Nat) : Prop where
  ex : ∃ xs, w.ownsRow B t z v n xs ∧ AllI xs
theorem AllI.app {xs ys : List Value} (h : AllI xs) (k : AllI ys) : AllI (xs ++ ys) := fun u hu => (List.mem_append.1 hu).elim (h u) (k u)
theorem AllI.set {xs : List Value} (h : AllI xs) (j : Nat) (i : Int) : AllI (xs.set j (.int .i64 i)) := fun u hu => by
  rcases List.mem_or_eq_of_mem_set hu with h1 | h1
  · exact h u h1
  · exact ⟨i, h1⟩
theorem AllI.one {xs : List Value} (h : AllI xs) : ∀ u ∈ xs, u.oneCell' = true := fun u hu => by
  obtain ⟨i, rfl⟩ := h u hu
  rfl
section
variable {w w' : World} {B : Nat} {t : TypeId} {z n : Nat} {v : Value}
theorem IR.nil (w : World) (B : Nat) (t : TypeId) (z : Nat) : IR w B t z (.slice none 0 0) 0 := ⟨[], ⟨by simp, Or.inl ⟨rfl, rfl⟩⟩, by intro u hu; cases hu⟩
theorem IR.dg {g : Nat} (h : IR w B t z v n) (hd : Dg g w w') (hb : g < B) : IR w' B t z v n := let ⟨xs, h1, h2⟩ := h.ex; ⟨xs, own_dg h1 hd hb, h2⟩
theorem IR.on (h : IR w B t z v n) (hb : Below w.heap.size w w') : IR w' B t z v n := let ⟨xs, h1, h2⟩ := h.ex; ⟨xs, own_below h1 hb, h2⟩
theorem IR.alloc (h : IR w B t z v n) (o : Obj) : IR (w.alloc o) B t z v n := h.on (bal (Below.refl _ _) o)
theorem IR.mono {B' : Nat} (h : IR w B t z v n) (hb : B' ≤ B) : IR w B' t z v n := let ⟨xs, h1, h2⟩ := h.ex; ⟨xs, own_mono h1 hb, h2⟩
theorem IR.st (h : IR w B t z v n) {p : Addr} (hp : ∀ k, v.ownBlock = some k → k ≠ p.block) (u : Value) : IR (w.setCell p u) B t z v n := let ⟨xs, h1, h2⟩ := h.ex; ⟨xs, own_st h1 hp u, h2⟩
theorem IR.form (h : IR w B t z v n) : ∃ A c, v = .slice A n c ∧ n ≤ c ∧ c ≤ maxLen := by
  obtain ⟨xs, h1, -⟩ := h.ex
  rcases h1.2 with ⟨h', h0⟩ | ⟨g', cap', cur, h', hb, hg, hnc, hcm, -⟩
  · exact ⟨none, 0, by rw [h', h0], by omega, Nat.zero_le _⟩
  · exact ⟨_, _, h', hnc, hcm⟩
theorem IR.pos (h : IR w B t z v n) (h0 : 0 < n) : ∃ g c, v = .slice (some ⟨g, 0, none⟩) n c ∧ B ≤ g ∧ g < w.heap.size ∧ n ≤ c ∧ c ≤ maxLen := by
  obtain ⟨xs, h1, -⟩ := h.ex
  rcases h1.2 with ⟨h', h0'⟩ | ⟨g', cap', cur, h', hb, hg, hnc, hcm, -⟩
  · omega
  · exact ⟨_, _, h', hb, (Array.getElem?_eq_some_iff.1 hg).1, hnc, hcm⟩
theorem IR.lt (h : IR w B t z v n) : ∀ k, v.ownBlock = some k → B ≤ k ∧ k < w.heap.size := let ⟨_, h1, _⟩ := h.ex; World.ownsRow.lt h1
theorem IR.cell {g c : Nat} (h : IR w B t z (.slice (some ⟨g, 0, none⟩) n c) n) {j : Nat} (hj : j < n * z) : ∃ i : Int, w.cell? ⟨g, j, none⟩ = some (.int .i64 i) := by
  obtain ⟨xs, h1, h2⟩ := h.ex
  have hl : j < xs.length := by rw [h1.1]; exact hj
  obtain ⟨i, hi⟩ := h2 xs[j] (List.getElem_mem hl)
  exact ⟨i, by rw [h1.cellAt j hj, List.getElem?_eq_getElem hl, hi]⟩
theorem IR.frozen {g c : Nat} (h : IR w B t z (.slice (some ⟨g, 0, none⟩) n c) n) : ∀ i, w.frozen? ⟨g, i, none⟩ = false := let ⟨_, h1, _⟩ := h.ex; h1.frozenAt
theorem IR.set {g c : Nat} (h : IR w B t z (.slice (some ⟨g, 0, none⟩) n c) n) (j : Nat) (i : Int) : IR (w.setCell ⟨g, j, none⟩ (.int .i64 i)) B t z (.slice (some ⟨g, 0, none⟩) n c) n :=
  let ⟨xs, h1, h2⟩ := h.ex; ⟨xs.set j (.int .i64 i), (h1.stored j _).1, h2.set j i⟩
end
/-- Cells of ints are those of some list. -/
theorem flat_ex {E : Type} (S : Shape E) (mk : (Nat → Int) → E) (hmk : ∀ c j, j < S.size → S.cell (mk c) j = .int .i64 (c j)) : ∀ (n : Nat) (xs : List Value), xs.length = n * S.size → AllI xs → ∃ es : List E, es.length = n ∧ S.flat es = xs
  | 0, xs, hl, _ => ⟨[], rfl, by
      have : xs = [] := List.eq_nil_of_length_eq_zero (by omega)
      rw [this]; rfl⟩
  | n + 1, xs, hl, ha => by
    have hz : S.size ≤ xs.length := by rw [hl, Nat.add_mul]; omega
    obtain ⟨es, h1, h2⟩ := flat_ex S mk hmk n (xs.drop S.size) (by rw [List.length_drop, hl, Nat.add_mul]; omega) (fun u hu => ha u (List.mem_of_mem_drop hu))
    refine ⟨mk (fun j => match xs[j]? with | some (.int _ q) => q | _ => 0) :: es, by rw [List.length_cons, h1], ?_⟩
    have h3 : S.cells (mk (fun j => match xs[j]? with | some (.int _ q) => q | _ => 0)) = xs.take S.size := by
      apply List.ext_getElem
      · rw [Shape.length_cells, List.length_take]; omega
      · intro i h4 h5
        rw [Shape.length_cells] at h4
        have hi : i < xs.length := by omega
        simp only [Shape.cells, List.getElem_map, List.getElem_range, List.getElem_take]
        rw [hmk _ _ h4, List.getElem?_eq_getElem hi]
        obtain ⟨q, hq⟩ := ha xs[i] (List.getElem_mem hi)
        rw [hq]
    show S.cells _ ++ S.flat es = xs
    rw [h3, h2, List.take_append_drop]
def enMk9 (c : Nat → Int) : En := ⟨c 0, c 1, c 2, c 3, c 4⟩
theorem enMk9_cell (c : Nat → Int) (j : Nat) (hj : j < enS.size) : enS.cell (enMk9 c) j = .int .i64 (c j) := by
  match j, hj with
  | 0, _ => rfl
  | 1, _ => rfl
  | 2, _ => rfl
  | 3, _ => rfl
  | 4, _ => rfl
theorem en_allI (es : List En) : AllI (enS.flat es) := by
  intro u hu
  unfold Shape.flat at hu
  obtain ⟨x, -, hx⟩ := List.mem_flatMap.1 hu
  unfold Shape.cells at hx
  obtain ⟨j, hj, rfl⟩ := List.mem_map.1 hx
  have hj := List.mem_range.1 hj
  match j, hj with
  | 0, _ => exact ⟨_, rfl⟩
  | 1, _ => exact ⟨_, rfl⟩
  | 2, _ => exact ⟨_, rfl⟩
  | 3, _ => exact ⟨_, rfl⟩
  | 4, _ => exact ⟨_, rfl⟩
theorem IR.en {w : World} {B : Nat} {t : TypeId} {v : Value} {n : Nat} (h : IR w B t 5 v n) : ∃ es : List En, es.length = n ∧ w.ownsRow B t 5 v es.length (enS.flat es) := by
  obtain ⟨xs, h1, h2⟩ := h.ex
  obtain ⟨es, h3, h4⟩ := flat_ex enS enMk9 enMk9_cell n xs h1.1 h2
  exact ⟨es, h3, by rw [h3, h4]; exact h1⟩
theorem IR.of_en {w : World} {B : Nat} {t : TypeId} {v : Value} {es : List En} (h : w.ownsRow B t 5 v es.length (enS.flat es)) : IR w B t 5 v es.length := ⟨_, h, en_allI es⟩
end Go.Proofs.Ytnhgdmhiblpknaa
