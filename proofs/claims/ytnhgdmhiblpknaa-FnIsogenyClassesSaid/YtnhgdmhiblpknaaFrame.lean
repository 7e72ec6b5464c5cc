/- What the frames of the laws share. Conditions: none. -/
import Derived.Test.YtnhgdmhiblpknaaRows
import Derived.Test.YtnhgdmhiblpknaaOpen
import Derived.Test.YtnhgdmhiblpknaaShapes
namespace Go.Proofs.Ytnhgdmhiblpknaa
open Go Go.RowKit Go.ChangeShapes Go.WideShapes
theorem own_knob : ownKnob Try.prog.godebug = none := by kernel_rfl
theorem laid_out : laidOutB Try.prog = true := by kernel_rfl
theorem bounds_i64 {n : Int} (h : (Lit.int .i64 n).wf = true) : -9223372036854775808 ≤ n ∧ n ≤ 9223372036854775807 := by
  simp [Lit.wf, IntKind.min, IntKind.max, IntKind.signed, IntKind.bits] at h
  omega
def cuMk (c : Nat → Int) : Cu := ⟨c 0, c 1⟩
def enMk (c : Nat → Int) : En := ⟨c 0, c 1, c 2, c 3, c 4⟩
def rpMk (c : Nat → Int) : Rp := ⟨c 0, c 1, c 2, c 3, c 4, c 5, c 6⟩
def ptMk (c : Nat → Int) : Pt := ⟨c 0, c 1, c 2⟩
theorem ptMk_cell (c : Nat → Int) (j : Nat) (hj : j < ptS.size) : ptS.cell (ptMk c) j = .int .i64 (c j) := by
  match j, hj with
  | 0, _ => rfl
  | 1, _ => rfl
  | 2, _ => rfl
theorem cuMk_cell (c : Nat → Int) (j : Nat) (hj : j < cuS.size) : cuS.cell (cuMk c) j = .int .i64 (c j) := by
  match j, hj with
  | 0, _ => rfl
  | 1, _ => rfl
theorem enMk_cell (c : Nat → Int) (j : Nat) (hj : j < enS.size) : enS.cell (enMk c) j = .int .i64 (c j) := by
  match j, hj with
  | 0, _ => rfl
  | 1, _ => rfl
  | 2, _ => rfl
  | 3, _ => rfl
  | 4, _ => rfl
theorem rpMk_cell (c : Nat → Int) (j : Nat) (hj : j < rpS.size) : rpS.cell (rpMk c) j = .int .i64 (c j) := by
  match j, hj with
  | 0, _ => rfl
  | 1, _ => rfl
  | 2, _ => rfl
  | 3, _ => rfl
  | 4, _ => rfl
  | 5, _ => rfl
  | 6, _ => rfl
theorem farC {w : World} {g o b j : Nat} {v : Value} (h : b ≠ g) : (w.setCell ⟨g, o, none⟩ v).cell? ⟨b, j, none⟩ = w.cell? ⟨b, j, none⟩ :=
  World.cell?_setCell_other _ _ _ _ (by intro e; injection e with e1; exact h e1.symm)

theorem new_cell {w : World} {G : Nat} {cs : Array Value} {T : TypeId} {j : Nat} {v : Value} (hG : w.heap.size = G) (hv : cs[j]? = some v) : (w.alloc (.cells cs T)).cell? ⟨G, j, none⟩ = some v := by
  subst hG
  rw [← hv]; exact (Blk.new w T cs).cell j
theorem new_frozen {w : World} {G : Nat} {cs : Array Value} {T : TypeId} {j : Nat} (hG : w.heap.size = G) : (w.alloc (.cells cs T)).frozen? ⟨G, j, none⟩ = false := by
  subst hG
  exact (Blk.new w T cs).frozen j

theorem bfar5 {w : World} {b g : Nat} {T : TypeId} {cs : Array Value} {v0 v1 v2 v3 v4 : Value} (h : Blk w b T cs) (hg : b ≠ g) :
    Blk (((((w.setCell ⟨g, 0, none⟩ v0).setCell ⟨g, 1, none⟩ v1).setCell ⟨g, 2, none⟩ v2).setCell ⟨g, 3, none⟩ v3).setCell ⟨g, 4, none⟩ v4) b T cs :=
  ((((h.far (p := ⟨g, 0, none⟩) hg _).far (p := ⟨g, 1, none⟩) hg _).far (p := ⟨g, 2, none⟩) hg _).far (p := ⟨g, 3, none⟩) hg _).far (p := ⟨g, 4, none⟩) hg _

theorem own_apart {u v : Value} (H : ∀ k, v.ownBlock = some k → u.ownBlock = some k → False) : v.ownBlock = none ∨ v.ownBlock ≠ u.ownBlock := by
  cases h : v.ownBlock with
  | none => exact .inl rfl
  | some k => exact .inr (fun e => H k h e.symm)

end Go.Proofs.Ytnhgdmhiblpknaa
