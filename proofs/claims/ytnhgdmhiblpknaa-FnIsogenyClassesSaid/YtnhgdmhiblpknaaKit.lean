/- Own lemmas that know no program: a region that draws its order (tame), slices that read as lists, rows of the call's own. Conditions: none. -/
import Derived.WalkKit
import Derived.WalkSpells
import Derived.WalkLawsBesides
import Derived.Deep.QuietTactic
import Derived.BigQuiet
import Derived.Lib.Hide
import Derived.Maps.AppendAt
import Derived.Deep.AppendLies
import Derived.Laws.AppendOwnNone
import Derived.Laws.CopyOwn
namespace Go.Proofs.Ytnhgdmhiblpknaa
open Go Go.RowKit

/-! ### A region that draws its order -/
/-- A world that has all below B as w0 has it. -/
structure Later (B : Nat) (w0 : World) where
  w : World
  h : Below B w0 w

/-- What is known of the worlds in which the operations of a region may come up: all that was there reads as it did. -/
structure Tame (w : World) (T : Type) (W : T → World) : Prop where
  below : ∀ x, Below w.heap.size w (W x)
  back : ∀ x w'', Below (W x).heap.size (W x) w'' → ∃ y, w'' = W y

theorem Tame.cell {w : World} {T : Type} {W : T → World} (h : Tame w T W) (x : T) (p : Addr) (hp : p.block < w.heap.size) : (W x).cell? p = w.cell? p := (h.below x).cell hp

/-- A region that draws its order, whose operations read and whose calls leave all that was there as it was. -/
theorem wp_region_tame {P : Program} {id : Nat} {Q : Exit → Act → World → Prop} {a : Act} {w : World} {l : List Oper} (hm : P.follows .mixedOrders = true) (hB : Region.lexB .any l.toArray = true)
    (h : ∀ (T : Type) [Nonempty T] (W : T → World), Tame w T W → wpQuiet P l.toArray (fun w' => ∃ x : T, w' = W x) (fun a' => ∀ x : T, Q .normal a' (W x)) l a) : (Code.region id l.toArray true).wp P Q a w :=
  wp_region_quiet (C := fun w' => ∃ x : Later w.heap.size w, w' = x.w) hm hB ⟨⟨_, (Below.refl _ _).drew⟩, rfl⟩
    (by simpa using @h (Later w.heap.size w) ⟨⟨w, Below.refl _ _⟩⟩ (fun x => x.w) ⟨fun x => x.h, fun x w'' hb => ⟨⟨w'', x.h.trans (hb.mono x.h.size)⟩, rfl⟩⟩)

theorem Tame.call {P : Program} {w : World} {T : Type} {W : T → World} (ht : Tame w T W) {x : T} {f : FuncId} {args : Array Value} {v : Value}
    (hc : Calls P f args (W x) (fun e w'' => e = .returned v ∧ Below (W x).heap.size (W x) w'')) : Calls P f args (W x) (fun e w'' => e = .returned v ∧ ∃ y, w'' = W y) :=
  hc.mono fun _ w'' ⟨he, hb⟩ => ⟨he, ht.back x w'' hb⟩

/-! ### Small things -/
theorem all_lt_succ {p : Nat → Prop} {k : Nat} (h : ∀ j, j < k → p j) (hk : p k) : ∀ j, j < k + 1 → p j := fun j hj => by
  rcases Nat.lt_or_ge j k with h1 | h1
  · exact h j h1
  · obtain rfl : j = k := by omega
    exact hk

/-- Two calls, one behind the other, each leaving all that was there as it was. -/
theorem bthen {w w1 w2 : World} (h : Below w.heap.size w w1) (k : Below w1.heap.size w1 w2) : Below w.heap.size w w2 := h.trans (k.mono h.size)

theorem bal {w x : World} (h : Below w.heap.size w x) (o : Obj) : Below w.heap.size w (x.alloc o) := h.alloc h.size o
theorem bst {w x : World} (h : Below w.heap.size w x) {p : Addr} (hp : w.heap.size ≤ p.block) (u : Value) : Below w.heap.size w (x.setCell p u) := h.setCell hp u

/-- What was there reads as it did: the two rules that the walk uses behind a call. -/
theorem bcell {W w1 : World} (hb : Below W.heap.size W w1) : (∀ b o, b < W.heap.size → w1.cell? ⟨b, o, none⟩ = W.cell? ⟨b, o, none⟩) ∧ (∀ b o, b < W.heap.size → w1.frozen? ⟨b, o, none⟩ = W.frozen? ⟨b, o, none⟩) :=
  ⟨fun b o h => hb.cell (p := ⟨b, o, none⟩) h, fun b o h => hb.frozen (p := ⟨b, o, none⟩) h⟩

theorem ret_bool {a b : Bool} (h : a = b) : Ending.returned (.bool a) = .returned (.bool b) := by rw [h]
theorem ret_int {a b : Int} (h : a = b) : Ending.returned (.int .i64 a) = .returned (.int .i64 b) := by rw [h]

/-! ### Slices that read as lists -/
/-- How an element lies in memory: so many cells; the j-th cell of e; the element that is nowhere. -/
structure Shape (E : Type) where
  size : Nat
  cell : E → Nat → Value
  z : E

section
variable {E : Type} (S : Shape E)
def Shape.get (es : List E) (k : Nat) : E := es.getD k S.z

/-- The slice value v reads, in the world w, as the list es; its cells lie in a block below hi. -/
def Rd (w : World) (hi : Nat) (v : Value) (es : List E) : Prop :=
  ∃ A c, v = .slice A es.length c ∧ es.length ≤ c ∧ c ≤ maxLen ∧
    (0 < es.length → ∃ g off, A = some ⟨g, off, none⟩ ∧ g < hi ∧ ∀ k, k < es.length → ∀ j, j < S.size → w.cell? ⟨g, off + k * S.size + j, none⟩ = some (S.cell (S.get es k) j))

def Shape.cells (e : E) : List Value := (List.range S.size).map (S.cell e)
def Shape.flat (es : List E) : List Value := es.flatMap S.cells
end

section
variable {E : Type} {S : Shape E} {w w' : World} {hi hi' : Nat} {v : Value} {es : List E}
theorem Rd.nil (w : World) (hi : Nat) : Rd S w hi (.slice none 0 0) [] := ⟨none, 0, rfl, Nat.zero_le _, Nat.zero_le _, fun h => absurd h (by simp)⟩
theorem Rd.keep (h : Rd S w hi v es) (hk : ∀ p : Addr, p.block < hi → w'.cell? p = w.cell? p) : Rd S w' hi v es := by
  obtain ⟨A, c, hv, hc, hm, hA⟩ := h
  refine ⟨A, c, hv, hc, hm, fun h0 => ?_⟩
  obtain ⟨g, off, hA', hg, hcell⟩ := hA h0
  exact ⟨g, off, hA', hg, fun k hk' j hj => (hk _ hg).trans (hcell k hk' j hj)⟩
theorem Rd.more (h : Rd S w hi v es) (hh : hi ≤ hi') : Rd S w hi' v es := by
  obtain ⟨A, c, hv, hc, hm, hA⟩ := h
  refine ⟨A, c, hv, hc, hm, fun h0 => ?_⟩
  obtain ⟨g, off, hA', hg, hcell⟩ := hA h0
  exact ⟨g, off, hA', Nat.lt_of_lt_of_le hg hh, hcell⟩
theorem Rd.below (h : Rd S w hi v es) (hb : Below hi w w') : Rd S w' hi v es := h.keep fun _ hp => hb.cell hp
/-- Behind a call that left all as it was. -/
theorem Rd.on (h : Rd S w w.heap.size v es) (hb : Below w.heap.size w w') : Rd S w' w'.heap.size v es := (h.below hb).more hb.size
theorem Rd.onB {B : Nat} (h : Rd S w hi v es) (hB : hi ≤ B) (hb : Below B w w') : Rd S w' hi v es := h.below (hb.mono hB)

theorem Shape.length_cells (e : E) : (S.cells e).length = S.size := by simp [Shape.cells]
theorem Shape.length_flat : ∀ es : List E, (S.flat es).length = es.length * S.size
  | [] => by simp [Shape.flat]
  | e :: es => by
    have := Shape.length_flat es
    simp only [Shape.flat, List.flatMap_cons, List.length_append, Shape.length_cells, List.length_cons] at this ⊢
    rw [this, Nat.add_mul]; omega
theorem Shape.flat_append (a b : List E) : S.flat (a ++ b) = S.flat a ++ S.flat b := by simp [Shape.flat]
theorem Shape.flat_at : ∀ (es : List E) (k j : Nat), k < es.length → j < S.size → (S.flat es)[k * S.size + j]? = some (S.cell (S.get es k) j)
  | [], k, _, hk, _ => by simp at hk
  | e :: es, 0, j, _, hj => by
    simp only [Shape.flat, List.flatMap_cons, Nat.zero_mul, Nat.zero_add]
    rw [List.getElem?_append_left (by rw [Shape.length_cells]; exact hj)]
    simp [Shape.cells, hj, Shape.get]
  | e :: es, k + 1, j, hk, hj => by
    have ih := Shape.flat_at es k j (by simpa using hk) hj
    simp only [Shape.flat, List.flatMap_cons] at ih ⊢
    rw [List.getElem?_append_right (by rw [Shape.length_cells, Nat.add_mul]; omega), Shape.length_cells]
    have : (k + 1) * S.size + j - S.size = k * S.size + j := by rw [Nat.add_mul]; omega
    rw [this, ih]
    rfl

/-- A row of the call's own reads as a list. -/
theorem Rd.of_own {base : Nat} {e : TypeId} {n : Nat} (h : w.ownsRow base e S.size v n (S.flat es)) (hn : n = es.length) : Rd S w w.heap.size v es := by
  subst hn
  rcases h.2 with ⟨rfl, h0⟩ | ⟨g, cap, cur, rfl, hb, hg, hnc, hcm, hcs, htake⟩
  · exact ⟨none, 0, by rw [h0], by omega, Nat.zero_le _, fun h => absurd h (by omega)⟩
  · refine ⟨_, cap, rfl, hnc, hcm, fun h0 => ⟨g, 0, rfl, (Array.getElem?_eq_some_iff.1 hg).1, fun k hk j hj => ?_⟩⟩
    have hcell := h.cellAt (k * S.size + j) (by
      have : (k + 1) * S.size ≤ es.length * S.size := Nat.mul_le_mul_right _ hk
      rw [Nat.add_mul] at this
      omega)
    rw [Nat.zero_add, hcell, Shape.flat_at es k j hk hj]
end

/-- What is left of a law's allowance behind a slice of n elements. -/
def szI (left : Int) (n : Nat) : Int := if left - (n : Int) < 0 then -1 else left - n
theorem szI_neg {left : Int} {n : Nat} (h : left < n) : szI left n = -1 := by unfold szI; rw [if_pos (by omega)]
theorem szI_pos {left : Int} {n : Nat} (h : (n : Int) ≤ left) : szI left n = left - n := by unfold szI; rw [if_neg (by omega)]

/-! ### Marks: what a law writes into a slice to see whether memory is shared -/
def marks (k : Int) (m : Nat) : List Value := (List.range m).map fun p : Nat => .int .i64 (k + (p : Int))
theorem length_marks (k : Int) (m : Nat) : (marks k m).length = m := by simp [marks]
theorem marks_at (k : Int) (m p : Nat) (h : p < m) : (marks k m)[p]? = some (.int .i64 (k + p)) := by simp [marks, h]

/-- The first p cells are marked, the others are as they were. -/
def part (k : Int) (p : Nat) (xs : List Value) : List Value := marks k p ++ xs.drop p
theorem part_zero (k : Int) (xs : List Value) : part k 0 xs = xs := by simp [part, marks]
theorem part_all (k : Int) (xs : List Value) : part k xs.length xs = marks k xs.length := by simp [part]
theorem length_part (k : Int) (p : Nat) (xs : List Value) (h : p ≤ xs.length) : (part k p xs).length = xs.length := by simp [part, length_marks]; omega
theorem part_set (k : Int) (p : Nat) (xs : List Value) (h : p < xs.length) : (part k p xs).set p (.int .i64 (k + p)) = part k (p + 1) xs := by
  have e : ∀ u : Value, (xs.drop p).set 0 u = u :: xs.drop (p + 1) := fun u => by rw [List.drop_eq_getElem_cons h]; rfl
  unfold part
  rw [List.set_append_right _ _ (by rw [length_marks]; exact Nat.le_refl _), length_marks, Nat.sub_self, e]
  simp [marks, List.range_succ]


/-! ### Rows of the call's own -/
section
variable {w w' : World} {base : Nat} {e : TypeId} {size : Nat} {v : Value} {n : Nat} {xs : List Value}
/-- A row stays behind a call that left all that was there as it was. -/
theorem own_below (h : w.ownsRow base e size v n xs) (hb : Below w.heap.size w w') : w'.ownsRow base e size v n xs :=
  h.kept (row := none) ⟨hb.os, hb.tape, hb.output, hb.size, fun k hk _ => hb.block k hk⟩ (by cases hv : v.ownBlock <;> simp)
theorem own_mono {base' : Nat} (h : w.ownsRow base e size v n xs) (hb : base' ≤ base) : w.ownsRow base' e size v n xs := by
  refine ⟨h.1, ?_⟩
  rcases h.2 with h' | ⟨g, cap, cur, h1, h2, h3⟩
  · exact .inl h'
  · exact .inr ⟨g, cap, cur, h1, Nat.le_trans hb h2, h3⟩
theorem own_cell {g cap : Nat} (h : w.ownsRow base e size (.slice (some ⟨g, 0, none⟩) n cap) n xs) (j : Nat) (hj : j < n * size) : ∃ u, w.cell? ⟨g, j, none⟩ = some u := by
  have hl : j < xs.length := by rw [h.1]; exact hj
  exact ⟨xs[j], by rw [h.cellAt j hj, List.getElem?_eq_getElem hl]⟩
end

/-- Only block g, and what is new, has turned: one store more into g. -/
theorem only_cell {a w : World} {g j : Nat} {u : Value} (h : a.grownBy w (some g)) : a.grownBy (w.setCell ⟨g, j, none⟩ u) (some g) :=
  ⟨h.os, h.tape, h.output, by simpa [World.setCell] using h.size, fun i hi hne => (Below.heap_setCell w ⟨g, j, none⟩ u i (fun e => hne (by rw [e]))).trans (h.block i hi hne)⟩

/-! ### A block that is known whole -/
def Blk (w : World) (g : Nat) (t : TypeId) (cs : Array Value) : Prop := w.heap[g]? = some (.cells cs t (0, 0))
section
variable {w w' : World} {g : Nat} {t : TypeId} {cs : Array Value}
theorem Blk.lt (h : Blk w g t cs) : g < w.heap.size := (Array.getElem?_eq_some_iff.1 h).1
theorem Blk.cell (h : Blk w g t cs) (i : Nat) : w.cell? ⟨g, i, none⟩ = cs[i]? := cell_of_row w g i cs t (0, 0) h
theorem Blk.frozen (h : Blk w g t cs) (i : Nat) : w.frozen? ⟨g, i, none⟩ = false := by
  unfold Blk at h
  simp [World.frozen?, h]
theorem Blk.new (w : World) (t : TypeId) (cs : Array Value) : Blk (w.alloc (.cells cs t)) w.heap.size t cs := heap_alloc_new w _
theorem Blk.new1 (w : World) (o : Obj) (t : TypeId) (cs : Array Value) : Blk ((w.alloc o).alloc (.cells cs t)) (w.heap.size + 1) t cs := by
  have := Blk.new (w.alloc o) t cs
  rw [World.size_alloc] at this
  exact this
theorem Blk.alloc (h : Blk w g t cs) (o : Obj) : Blk (w.alloc o) g t cs := (Below.heap_alloc w o g h.lt).trans h
theorem Blk.drew (h : Blk w g t cs) : Blk w.drew g t cs := h
theorem Blk.set (h : Blk w g t cs) (i : Nat) (u : Value) : Blk (w.setCell ⟨g, i, none⟩ u) g t (cs.setIfInBounds i u) := by
  unfold Blk at h ⊢
  simp [World.setCell, Array.getElem?_modify, h]
theorem Blk.set2 {a0 a1 b0 b1 : Value} (h : Blk w g t #[a0, a1]) : Blk ((w.setCell ⟨g, 0, none⟩ b0).setCell ⟨g, 1, none⟩ b1) g t #[b0, b1] := by
  have q := ((h.set 0 b0).set 1 b1)
  simp only [List.setIfInBounds_toArray, List.set_cons_zero, List.set_cons_succ] at q
  exact q
theorem Blk.set3 {a0 a1 a2 b0 b1 b2 : Value} (h : Blk w g t #[a0, a1, a2]) : Blk (((w.setCell ⟨g, 0, none⟩ b0).setCell ⟨g, 1, none⟩ b1).setCell ⟨g, 2, none⟩ b2) g t #[b0, b1, b2] := by
  have q := (((h.set 0 b0).set 1 b1).set 2 b2)
  simp only [List.setIfInBounds_toArray, List.set_cons_zero, List.set_cons_succ] at q
  exact q
theorem Blk.set4 {a0 a1 a2 a3 b0 b1 b2 b3 : Value} (h : Blk w g t #[a0, a1, a2, a3]) : Blk ((((w.setCell ⟨g, 0, none⟩ b0).setCell ⟨g, 1, none⟩ b1).setCell ⟨g, 2, none⟩ b2).setCell ⟨g, 3, none⟩ b3) g t #[b0, b1, b2, b3] := by
  have q := ((((h.set 0 b0).set 1 b1).set 2 b2).set 3 b3)
  simp only [List.setIfInBounds_toArray, List.set_cons_zero, List.set_cons_succ] at q
  exact q
theorem Blk.set5 {a0 a1 a2 a3 a4 b0 b1 b2 b3 b4 : Value} (h : Blk w g t #[a0, a1, a2, a3, a4]) : Blk (((((w.setCell ⟨g, 0, none⟩ b0).setCell ⟨g, 1, none⟩ b1).setCell ⟨g, 2, none⟩ b2).setCell ⟨g, 3, none⟩ b3).setCell ⟨g, 4, none⟩ b4) g t #[b0, b1, b2, b3, b4] := by
  have q := (((((h.set 0 b0).set 1 b1).set 2 b2).set 3 b3).set 4 b4)
  simp only [List.setIfInBounds_toArray, List.set_cons_zero, List.set_cons_succ] at q
  exact q
theorem Blk.set7 {a0 a1 a2 a3 a4 a5 a6 b0 b1 b2 b3 b4 b5 b6 : Value} (h : Blk w g t #[a0, a1, a2, a3, a4, a5, a6]) : Blk (((((((w.setCell ⟨g, 0, none⟩ b0).setCell ⟨g, 1, none⟩ b1).setCell ⟨g, 2, none⟩ b2).setCell ⟨g, 3, none⟩ b3).setCell ⟨g, 4, none⟩ b4).setCell ⟨g, 5, none⟩ b5).setCell ⟨g, 6, none⟩ b6) g t #[b0, b1, b2, b3, b4, b5, b6] := by
  have q := (((((((h.set 0 b0).set 1 b1).set 2 b2).set 3 b3).set 4 b4).set 5 b5).set 6 b6)
  simp only [List.setIfInBounds_toArray, List.set_cons_zero, List.set_cons_succ] at q
  exact q
theorem Blk.far (h : Blk w g t cs) {p : Addr} (hp : g ≠ p.block) (u : Value) : Blk (w.setCell p u) g t cs := (Below.heap_setCell w p u g hp).trans h
theorem Blk.below {B : Nat} (h : Blk w g t cs) (hb : Below B w w') (hg : g < B) : Blk w' g t cs := (hb.block g hg).trans h
theorem Blk.on (h : Blk w g t cs) (hb : Below w.heap.size w w') : Blk w' g t cs := h.below hb h.lt
end

/-- The first p of F, the others of Z. -/
def mix (F Z : List Value) (p : Nat) : List Value := F.take p ++ Z.drop p
theorem mix_zero (F Z : List Value) : mix F Z 0 = Z := by simp [mix]
theorem mix_all (F Z : List Value) (h : Z.length = F.length) : mix F Z F.length = F := by
  unfold mix
  rw [List.take_length, List.drop_eq_nil_of_le (Nat.le_of_eq h), List.append_nil]
theorem mix_set {F Z : List Value} {p : Nat} {u : Value} (hl : Z.length = F.length) (h : F[p]? = some u) : (mix F Z p).set p u = mix F Z (p + 1) := by
  have hp : p < F.length := (List.getElem?_eq_some_iff.1 h).1
  have hu : F[p] = u := (List.getElem?_eq_some_iff.1 h).2
  have e : (Z.drop p).set 0 u = u :: Z.drop (p + 1) := by rw [List.drop_eq_getElem_cons (by omega)]; rfl
  have e2 : F.take (p + 1) = F.take p ++ [u] := by rw [List.take_succ_eq_append_getElem hp, hu]
  unfold mix
  rw [List.set_append_right _ _ (by rw [List.length_take]; omega), List.length_take, Nat.min_eq_left (by omega), Nat.sub_self, e, e2, List.append_assoc]
  rfl

end Go.Proofs.Ytnhgdmhiblpknaa
