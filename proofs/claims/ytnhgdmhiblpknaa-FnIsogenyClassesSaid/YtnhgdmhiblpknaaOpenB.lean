/- An argument that is a slice of bytes, opened to its cells. Conditions: none. -/
import Derived.Test.YtnhgdmhiblpknaaOpen
import Derived.Test.YtnhgdmhiblpknaaDrw
namespace Go.Proofs.Ytnhgdmhiblpknaa
open Go Go.RowKit Go.ChangeShapes Go.WideShapes Go.Deep

section
variable {H : Type} {enc : TypeId × Value → H} {P : Program} {w : World} {base : Nat} {spare : Nat → Bool} {held : Bool}
theorem bounds_u8 {n : Int} (h : (Lit.int .u8 n).wf = true) : 0 ≤ n ∧ n ≤ 255 := by
  simp [Lit.wf, IntKind.min, IntKind.max, IntKind.signed, IntKind.bits] at h
  omega
theorem open_bytesAt {r : Reach} {b0 : Nat} {t e : TypeId} {v : Value} {d : DataW H} {p : List MemPlace} (ht : P.underlying t = some (.slice e)) (he : P.underlying e = some (.int .u8)) (hc1 : P.cellsOf e = 1)
    (hv : Value.okWide P w r b0 t v) (h : DataW.Trod enc P w base spare held t v d p) : ∃ (A : Option Addr) (n c : Nat), v = .slice A n c ∧ BytesAt w w.heap.size A n := by
  obtain ⟨A, len, cap, rfl⟩ := okWide_slice ht hv
  obtain ⟨fuel, hf⟩ := h
  rcases open_slice ht hf with ⟨hcs, _⟩ | ⟨a, len', cap', m, n, D, Pl, hcs, hb, hl, hm, hmm, hx, hcell⟩
  · obtain ⟨rfl, rfl, rfl⟩ : A = none ∧ len = 0 ∧ cap = 0 := by simpa [Value.cells] using hcs
    exact ⟨none, 0, 0, rfl, by decide, fun h0 => absurd h0 (by decide)⟩
  · obtain ⟨rfl, rfl, rfl⟩ : A = some a ∧ len = len' ∧ cap = cap' := by simpa [Value.cells] using hcs
    have hlm : len ≤ m := by rw [hmm]; split <;> omega
    have key : ∀ i, i < len → ∃ b : Nat, b ≤ 255 ∧ w.cell? (a.add (i * 1)) = some (.int .u8 (b : Int)) := by
      intro i hil
      obtain ⟨cs', hc, ht'⟩ := hcell i (by omega)
      rw [hc1] at hc
      obtain ⟨_, hcl, hat⟩ := World.cells?_some hc
      obtain ⟨q, hq, -, hw⟩ := DataW.trod_int he ht'
      obtain ⟨h1, h2⟩ := bounds_u8 hw
      have h3 := hat 0 (by decide)
      rw [hq] at h3
      refine ⟨q.toNat, by omega, ?_⟩
      rw [show ((q.toNat : Nat) : Int) = q by omega]
      have h4 : (a.add (i * 1)).add 0 = a.add (i * 1) := by simp [Addr.add]
      rw [h4] at h3
      exact h3
    refine ⟨some a, len, cap, rfl, Nat.le_trans hl hm, fun h0 => ?_⟩
    obtain ⟨g, off, spot⟩ := a
    obtain ⟨b0, -, h00⟩ := key 0 h0
    have hspot : spot = none := by
      have := h00
      simp only [Nat.zero_mul] at this
      simpa [Addr.add] using World.cell?_spot this
    subst hspot
    have hadd : ∀ x : Nat, (⟨g, off, none⟩ : Addr).add x = ⟨g, off + x, none⟩ := by
      intro x
      unfold Addr.add
      by_cases hx : x = 0 <;> simp [hx]
    have hlt : g < w.heap.size := by
      rw [hadd] at h00
      exact World.block_lt_of_cell? w _ h00
    refine ⟨g, off, rfl, hlt, hlt, fun j hj => ?_⟩
    obtain ⟨b, hb1, hb2⟩ := key j hj
    rw [hadd, Nat.mul_one] at hb2
    exact ⟨b, hb1, hb2⟩
end
end Go.Proofs.Ytnhgdmhiblpknaa
