/- The code's bytes, the fresh cursor, a row's cells as a source. Conditions: none. -/
import Derived.Test.YtnhgdmhiblpknaaDrI
namespace Go.Proofs.Ytnhgdmhiblpknaa
open Go Go.RowKit

theorem BytesAt.mono {w : World} {g g' : Nat} {A : Option Addr} {n : Nat} (h : BytesAt w g A n) (hg : g ≤ g') : BytesAt w g' A n :=
  ⟨h.1, fun h0 => let ⟨gc, off, hA, h1, h2, hc⟩ := h.2 h0; ⟨gc, off, hA, Nat.lt_of_lt_of_le h1 hg, h2, hc⟩⟩
theorem BytesAt.on {w w' : World} {A : Option Addr} {n : Nat} (h : BytesAt w w.heap.size A n) (hb : Below w.heap.size w w') : BytesAt w' w'.heap.size A n :=
  (h.dg (Dg.of_below hb)).mono hb.size
theorem BytesAt.al {w : World} {A : Option Addr} {n : Nat} (h : BytesAt w w.heap.size A n) (o : Obj) : BytesAt (w.alloc o) (w.alloc o).heap.size A n := h.on (bal (Below.refl _ _) o)
theorem Cur.new0 {w : World} {A : Option Addr} {n : Nat} (h : BytesAt w w.heap.size A n) (c : Nat) : Cur (w.alloc (.cells #[.slice A n c, .int .i64 0, .int .u64 0] 67)) w.heap.size 0 :=
  ⟨A, n, c, 0, 0, Blk.new w _ _, Nat.le_refl _, h.dg (Dg.of_below (bal (Below.refl _ _) _))⟩
theorem Cur.new1 {w : World} {A : Option Addr} {n : Nat} (h : BytesAt w w.heap.size A n) (c : Nat) (o : Obj) : Cur ((w.alloc o).alloc (.cells #[.slice A n c, .int .i64 0, .int .u64 0] 67)) (w.heap.size + 1) 0 := by
  have := Cur.new0 (h.al o) c
  rwa [World.size_alloc] at this
/-- The cells of a row as a source. -/
theorem IR.src {w : World} {B : Nat} {t : TypeId} {z n : Nat} {A : Option Addr} {c : Nat} (h : IR w B t z (.slice A n c) n) :
    ∃ xs, AllI xs ∧ xs.length = n * z ∧ (A = none → n = 0) ∧ ∀ a, A = some a → ∀ j u, xs[j]? = some u → w.cell? (a.add j) = some u := by
  obtain ⟨xs, h1, h2⟩ := h.ex
  refine ⟨xs, h2, h1.1, fun e => ?_, fun a e j u hu => ?_⟩
  · by_cases h0 : 0 < n
    · obtain ⟨g, c', h3, -⟩ := h.pos h0
      rw [e] at h3; cases h3
    · omega
  · have hj : j < xs.length := (List.getElem?_eq_some_iff.1 hu).1
    have h0 : 0 < n := by rcases Nat.eq_zero_or_pos n with h9 | h9; · rw [h1.1, h9] at hj; simp at hj
                          · exact h9
    obtain ⟨g, c', h3, -⟩ := h.pos h0
    rw [e] at h3
    injection h3 with h4 h5 h6
    injection h4 with h4
    subst h4
    rw [e] at h1
    have h7 := h1.cellAt j (by rw [← h1.1]; exact hj)
    rw [hu] at h7
    by_cases h8 : j = 0
    · subst h8; simpa [Addr.add] using h7
    · simpa [Addr.add, h8] using h7
end Go.Proofs.Ytnhgdmhiblpknaa
