/- Own texts put together: Own lemmas that know no program: a region that draws its order (tame), slices that read as lists, rows of the call's own; The structs of ints that the laws speak of, as Lean structures, and what the functions compute, in plain Lean; The walks of the functions that speak of one curve, entry, record, report, and of their order; The walks of the functions that speak of one record or report, and of the order of curves and reports; Own lemmas that know no program: a row of the call's own, edited in place. Conditions: those of each theorem. -/
import Derived.WalkKit
import Derived.WalkSpells
import Derived.WalkLawsBesides
import Derived.Deep.QuietTactic
import Derived.BigQuiet
import Derived.Lib.Hide
import Derived.Maps.AppendAt
import Derived.Deep.AppendLies
import Derived.Laws.AppendOwnNone
import Derived.Laws.CopyOwn
import Derived.Test.YthdfpfhkmfmnbaaGreatRows
import Derived.Deep.RegionHeld3
import Derived.Laws.IdiomCopy
namespace Go.Proofs.YthdfpfhkmfmnbaaGreat
section
open Go Go.RowKit

/-! ### A region that draws its order -/
/-- A world that has all below B as w0 has it. -/
structure Later (B : Nat) (w0 : World) where
  w : World
  h : Below B w0 w

/-- What is known of the worlds in which the operations of a region may come up: all that was there reads as it did. -/
structure Tame (w : World) (T : Type) (W : T → World) : Prop where
  below : ∀ x, Below w.heap.size w (W x)
  back : ∀ x w'', Below (W x).heap.size (W x) w'' → ∃ y, w'' = W y

theorem Tame.cell {w : World} {T : Type} {W : T → World} (h : Tame w T W) (x : T) (p : Addr) (hp : p.block < w.heap.size) : (W x).cell? p = w.cell? p := (h.below x).cell hp

/-- A region that draws its order, whose operations read and whose calls leave all that was there as it was. -/
theorem wp_region_tame {P : Program} {id : Nat} {Q : Exit → Act → World → Prop} {a : Act} {w : World} {l : List Oper} (hm : P.follows .mixedOrders = true) (hB : Region.lexB .any l.toArray = true)
    (h : ∀ (T : Type) [Nonempty T] (W : T → World), Tame w T W → wpQuiet P l.toArray (fun w' => ∃ x : T, w' = W x) (fun a' => ∀ x : T, Q .normal a' (W x)) l a) : (Code.region id l.toArray true).wp P Q a w :=
  wp_region_quiet (C := fun w' => ∃ x : Later w.heap.size w, w' = x.w) hm hB ⟨⟨_, (Below.refl _ _).drew⟩, rfl⟩
    (by simpa using @h (Later w.heap.size w) ⟨⟨w, Below.refl _ _⟩⟩ (fun x => x.w) ⟨fun x => x.h, fun x w'' hb => ⟨⟨w'', x.h.trans (hb.mono x.h.size)⟩, rfl⟩⟩)

theorem Tame.call {P : Program} {w : World} {T : Type} {W : T → World} (ht : Tame w T W) {x : T} {f : FuncId} {args : Array Value} {v : Value}
    (hc : Calls P f args (W x) (fun e w'' => e = .returned v ∧ Below (W x).heap.size (W x) w'')) : Calls P f args (W x) (fun e w'' => e = .returned v ∧ ∃ y, w'' = W y) :=
  hc.mono fun _ w'' ⟨he, hb⟩ => ⟨he, ht.back x w'' hb⟩

/-! ### Small things -/
theorem all_lt_succ {p : Nat → Prop} {k : Nat} (h : ∀ j, j < k → p j) (hk : p k) : ∀ j, j < k + 1 → p j := fun j hj => by
  rcases Nat.lt_or_ge j k with h1 | h1
  · exact h j h1
  · obtain rfl : j = k := by omega
    exact hk

/-- Two calls, one behind the other, each leaving all that was there as it was. -/
theorem bthen {w w1 w2 : World} (h : Below w.heap.size w w1) (k : Below w1.heap.size w1 w2) : Below w.heap.size w w2 := h.trans (k.mono h.size)

theorem bal {w x : World} (h : Below w.heap.size w x) (o : Obj) : Below w.heap.size w (x.alloc o) := h.alloc h.size o
theorem bst {w x : World} (h : Below w.heap.size w x) {p : Addr} (hp : w.heap.size ≤ p.block) (u : Value) : Below w.heap.size w (x.setCell p u) := h.setCell hp u

/-- What was there reads as it did: the two rules that the walk uses behind a call. -/
theorem bcell {W w1 : World} (hb : Below W.heap.size W w1) : (∀ b o, b < W.heap.size → w1.cell? ⟨b, o, none⟩ = W.cell? ⟨b, o, none⟩) ∧ (∀ b o, b < W.heap.size → w1.frozen? ⟨b, o, none⟩ = W.frozen? ⟨b, o, none⟩) :=
  ⟨fun b o h => hb.cell (p := ⟨b, o, none⟩) h, fun b o h => hb.frozen (p := ⟨b, o, none⟩) h⟩

theorem ret_bool {a b : Bool} (h : a = b) : Ending.returned (.bool a) = .returned (.bool b) := by rw [h]
theorem ret_int {a b : Int} (h : a = b) : Ending.returned (.int .i64 a) = .returned (.int .i64 b) := by rw [h]

/-! ### Slices that read as lists -/
/-- How an element lies in memory: so many cells; the j-th cell of e; the element that is nowhere. -/
structure Shape (E : Type) where
  size : Nat
  cell : E → Nat → Value
  z : E

section
variable {E : Type} (S : Shape E)
def Shape.get (es : List E) (k : Nat) : E := es.getD k S.z

/-- The slice value v reads, in the world w, as the list es; its cells lie in a block below hi. -/
def Rd (w : World) (hi : Nat) (v : Value) (es : List E) : Prop :=
  ∃ A c, v = .slice A es.length c ∧ es.length ≤ c ∧ c ≤ maxLen ∧
    (0 < es.length → ∃ g off, A = some ⟨g, off, none⟩ ∧ g < hi ∧ ∀ k, k < es.length → ∀ j, j < S.size → w.cell? ⟨g, off + k * S.size + j, none⟩ = some (S.cell (S.get es k) j))

def Shape.cells (e : E) : List Value := (List.range S.size).map (S.cell e)
def Shape.flat (es : List E) : List Value := es.flatMap S.cells
end

section
variable {E : Type} {S : Shape E} {w w' : World} {hi hi' : Nat} {v : Value} {es : List E}
theorem Rd.nil (w : World) (hi : Nat) : Rd S w hi (.slice none 0 0) [] := ⟨none, 0, rfl, Nat.zero_le _, Nat.zero_le _, fun h => absurd h (by simp)⟩
theorem Rd.keep (h : Rd S w hi v es) (hk : ∀ p : Addr, p.block < hi → w'.cell? p = w.cell? p) : Rd S w' hi v es := by
  obtain ⟨A, c, hv, hc, hm, hA⟩ := h
  refine ⟨A, c, hv, hc, hm, fun h0 => ?_⟩
  obtain ⟨g, off, hA', hg, hcell⟩ := hA h0
  exact ⟨g, off, hA', hg, fun k hk' j hj => (hk _ hg).trans (hcell k hk' j hj)⟩
theorem Rd.more (h : Rd S w hi v es) (hh : hi ≤ hi') : Rd S w hi' v es := by
  obtain ⟨A, c, hv, hc, hm, hA⟩ := h
  refine ⟨A, c, hv, hc, hm, fun h0 => ?_⟩
  obtain ⟨g, off, hA', hg, hcell⟩ := hA h0
  exact ⟨g, off, hA', Nat.lt_of_lt_of_le hg hh, hcell⟩
theorem Rd.below (h : Rd S w hi v es) (hb : Below hi w w') : Rd S w' hi v es := h.keep fun _ hp => hb.cell hp
/-- Behind a call that left all as it was. -/
theorem Rd.on (h : Rd S w w.heap.size v es) (hb : Below w.heap.size w w') : Rd S w' w'.heap.size v es := (h.below hb).more hb.size
theorem Rd.onB {B : Nat} (h : Rd S w hi v es) (hB : hi ≤ B) (hb : Below B w w') : Rd S w' hi v es := h.below (hb.mono hB)

theorem Shape.length_cells (e : E) : (S.cells e).length = S.size := by simp [Shape.cells]
theorem Shape.length_flat : ∀ es : List E, (S.flat es).length = es.length * S.size
  | [] => by simp [Shape.flat]
  | e :: es => by
    have := Shape.length_flat es
    simp only [Shape.flat, List.flatMap_cons, List.length_append, Shape.length_cells, List.length_cons] at this ⊢
    rw [this, Nat.add_mul]; omega
theorem Shape.flat_append (a b : List E) : S.flat (a ++ b) = S.flat a ++ S.flat b := by simp [Shape.flat]
theorem Shape.flat_at : ∀ (es : List E) (k j : Nat), k < es.length → j < S.size → (S.flat es)[k * S.size + j]? = some (S.cell (S.get es k) j)
  | [], k, _, hk, _ => by simp at hk
  | e :: es, 0, j, _, hj => by
    simp only [Shape.flat, List.flatMap_cons, Nat.zero_mul, Nat.zero_add]
    rw [List.getElem?_append_left (by rw [Shape.length_cells]; exact hj)]
    simp [Shape.cells, hj, Shape.get]
  | e :: es, k + 1, j, hk, hj => by
    have ih := Shape.flat_at es k j (by simpa using hk) hj
    simp only [Shape.flat, List.flatMap_cons] at ih ⊢
    rw [List.getElem?_append_right (by rw [Shape.length_cells, Nat.add_mul]; omega), Shape.length_cells]
    have : (k + 1) * S.size + j - S.size = k * S.size + j := by rw [Nat.add_mul]; omega
    rw [this, ih]
    rfl

/-- A row of the call's own reads as a list. -/
theorem Rd.of_own {base : Nat} {e : TypeId} {n : Nat} (h : w.ownsRow base e S.size v n (S.flat es)) (hn : n = es.length) : Rd S w w.heap.size v es := by
  subst hn
  rcases h.2 with ⟨rfl, h0⟩ | ⟨g, cap, cur, rfl, hb, hg, hnc, hcm, hcs, htake⟩
  · exact ⟨none, 0, by rw [h0], by omega, Nat.zero_le _, fun h => absurd h (by omega)⟩
  · refine ⟨_, cap, rfl, hnc, hcm, fun h0 => ⟨g, 0, rfl, (Array.getElem?_eq_some_iff.1 hg).1, fun k hk j hj => ?_⟩⟩
    have hcell := h.cellAt (k * S.size + j) (by
      have : (k + 1) * S.size ≤ es.length * S.size := Nat.mul_le_mul_right _ hk
      rw [Nat.add_mul] at this
      omega)
    rw [Nat.zero_add, hcell, Shape.flat_at es k j hk hj]
end

/-- What is left of a law's allowance behind a slice of n elements. -/
def szI (left : Int) (n : Nat) : Int := if left - (n : Int) < 0 then -1 else left - n
theorem szI_neg {left : Int} {n : Nat} (h : left < n) : szI left n = -1 := by unfold szI; rw [if_pos (by omega)]
theorem szI_pos {left : Int} {n : Nat} (h : (n : Int) ≤ left) : szI left n = left - n := by unfold szI; rw [if_neg (by omega)]

/-! ### Marks: what a law writes into a slice to see whether memory is shared -/
def marks (k : Int) (m : Nat) : List Value := (List.range m).map fun p : Nat => .int .i64 (k + (p : Int))
theorem length_marks (k : Int) (m : Nat) : (marks k m).length = m := by simp [marks]
theorem marks_at (k : Int) (m p : Nat) (h : p < m) : (marks k m)[p]? = some (.int .i64 (k + p)) := by simp [marks, h]

/-- The first p cells are marked, the others are as they were. -/
def part (k : Int) (p : Nat) (xs : List Value) : List Value := marks k p ++ xs.drop p
theorem part_zero (k : Int) (xs : List Value) : part k 0 xs = xs := by simp [part, marks]
theorem part_all (k : Int) (xs : List Value) : part k xs.length xs = marks k xs.length := by simp [part]
theorem length_part (k : Int) (p : Nat) (xs : List Value) (h : p ≤ xs.length) : (part k p xs).length = xs.length := by simp [part, length_marks]; omega
theorem part_set (k : Int) (p : Nat) (xs : List Value) (h : p < xs.length) : (part k p xs).set p (.int .i64 (k + p)) = part k (p + 1) xs := by
  have e : ∀ u : Value, (xs.drop p).set 0 u = u :: xs.drop (p + 1) := fun u => by rw [List.drop_eq_getElem_cons h]; rfl
  unfold part
  rw [List.set_append_right _ _ (by rw [length_marks]; exact Nat.le_refl _), length_marks, Nat.sub_self, e]
  simp [marks, List.range_succ]


/-! ### Rows of the call's own -/
section
variable {w w' : World} {base : Nat} {e : TypeId} {size : Nat} {v : Value} {n : Nat} {xs : List Value}
/-- A row stays behind a call that left all that was there as it was. -/
theorem own_below (h : w.ownsRow base e size v n xs) (hb : Below w.heap.size w w') : w'.ownsRow base e size v n xs :=
  h.kept (row := none) ⟨hb.os, hb.tape, hb.output, hb.size, fun k hk _ => hb.block k hk⟩ (by cases hv : v.ownBlock <;> simp)
theorem own_mono {base' : Nat} (h : w.ownsRow base e size v n xs) (hb : base' ≤ base) : w.ownsRow base' e size v n xs := by
  refine ⟨h.1, ?_⟩
  rcases h.2 with h' | ⟨g, cap, cur, h1, h2, h3⟩
  · exact .inl h'
  · exact .inr ⟨g, cap, cur, h1, Nat.le_trans hb h2, h3⟩
theorem own_cell {g cap : Nat} (h : w.ownsRow base e size (.slice (some ⟨g, 0, none⟩) n cap) n xs) (j : Nat) (hj : j < n * size) : ∃ u, w.cell? ⟨g, j, none⟩ = some u := by
  have hl : j < xs.length := by rw [h.1]; exact hj
  exact ⟨xs[j], by rw [h.cellAt j hj, List.getElem?_eq_getElem hl]⟩
end

/-- Only block g, and what is new, has turned: one store more into g. -/
theorem only_cell {a w : World} {g j : Nat} {u : Value} (h : a.grownBy w (some g)) : a.grownBy (w.setCell ⟨g, j, none⟩ u) (some g) :=
  ⟨h.os, h.tape, h.output, by simpa [World.setCell] using h.size, fun i hi hne => (Below.heap_setCell w ⟨g, j, none⟩ u i (fun e => hne (by rw [e]))).trans (h.block i hi hne)⟩

/-! ### A block that is known whole -/
def Blk (w : World) (g : Nat) (t : TypeId) (cs : Array Value) : Prop := w.heap[g]? = some (.cells cs t (0, 0))
section
variable {w w' : World} {g : Nat} {t : TypeId} {cs : Array Value}
theorem Blk.lt (h : Blk w g t cs) : g < w.heap.size := (Array.getElem?_eq_some_iff.1 h).1
theorem Blk.cell (h : Blk w g t cs) (i : Nat) : w.cell? ⟨g, i, none⟩ = cs[i]? := cell_of_row w g i cs t (0, 0) h
theorem Blk.frozen (h : Blk w g t cs) (i : Nat) : w.frozen? ⟨g, i, none⟩ = false := by
  unfold Blk at h
  simp [World.frozen?, h]
theorem Blk.new (w : World) (t : TypeId) (cs : Array Value) : Blk (w.alloc (.cells cs t)) w.heap.size t cs := heap_alloc_new w _
theorem Blk.new1 (w : World) (o : Obj) (t : TypeId) (cs : Array Value) : Blk ((w.alloc o).alloc (.cells cs t)) (w.heap.size + 1) t cs := by
  have := Blk.new (w.alloc o) t cs
  rw [World.size_alloc] at this
  exact this
theorem Blk.alloc (h : Blk w g t cs) (o : Obj) : Blk (w.alloc o) g t cs := (Below.heap_alloc w o g h.lt).trans h
theorem Blk.drew (h : Blk w g t cs) : Blk w.drew g t cs := h
theorem Blk.set (h : Blk w g t cs) (i : Nat) (u : Value) : Blk (w.setCell ⟨g, i, none⟩ u) g t (cs.setIfInBounds i u) := by
  unfold Blk at h ⊢
  simp [World.setCell, Array.getElem?_modify, h]
theorem Blk.set2 {a0 a1 b0 b1 : Value} (h : Blk w g t #[a0, a1]) : Blk ((w.setCell ⟨g, 0, none⟩ b0).setCell ⟨g, 1, none⟩ b1) g t #[b0, b1] := by
  have q := ((h.set 0 b0).set 1 b1)
  simp only [List.setIfInBounds_toArray, List.set_cons_zero, List.set_cons_succ] at q
  exact q
theorem Blk.set3 {a0 a1 a2 b0 b1 b2 : Value} (h : Blk w g t #[a0, a1, a2]) : Blk (((w.setCell ⟨g, 0, none⟩ b0).setCell ⟨g, 1, none⟩ b1).setCell ⟨g, 2, none⟩ b2) g t #[b0, b1, b2] := by
  have q := (((h.set 0 b0).set 1 b1).set 2 b2)
  simp only [List.setIfInBounds_toArray, List.set_cons_zero, List.set_cons_succ] at q
  exact q
theorem Blk.set4 {a0 a1 a2 a3 b0 b1 b2 b3 : Value} (h : Blk w g t #[a0, a1, a2, a3]) : Blk ((((w.setCell ⟨g, 0, none⟩ b0).setCell ⟨g, 1, none⟩ b1).setCell ⟨g, 2, none⟩ b2).setCell ⟨g, 3, none⟩ b3) g t #[b0, b1, b2, b3] := by
  have q := ((((h.set 0 b0).set 1 b1).set 2 b2).set 3 b3)
  simp only [List.setIfInBounds_toArray, List.set_cons_zero, List.set_cons_succ] at q
  exact q
theorem Blk.set5 {a0 a1 a2 a3 a4 b0 b1 b2 b3 b4 : Value} (h : Blk w g t #[a0, a1, a2, a3, a4]) : Blk (((((w.setCell ⟨g, 0, none⟩ b0).setCell ⟨g, 1, none⟩ b1).setCell ⟨g, 2, none⟩ b2).setCell ⟨g, 3, none⟩ b3).setCell ⟨g, 4, none⟩ b4) g t #[b0, b1, b2, b3, b4] := by
  have q := (((((h.set 0 b0).set 1 b1).set 2 b2).set 3 b3).set 4 b4)
  simp only [List.setIfInBounds_toArray, List.set_cons_zero, List.set_cons_succ] at q
  exact q
theorem Blk.set7 {a0 a1 a2 a3 a4 a5 a6 b0 b1 b2 b3 b4 b5 b6 : Value} (h : Blk w g t #[a0, a1, a2, a3, a4, a5, a6]) : Blk (((((((w.setCell ⟨g, 0, none⟩ b0).setCell ⟨g, 1, none⟩ b1).setCell ⟨g, 2, none⟩ b2).setCell ⟨g, 3, none⟩ b3).setCell ⟨g, 4, none⟩ b4).setCell ⟨g, 5, none⟩ b5).setCell ⟨g, 6, none⟩ b6) g t #[b0, b1, b2, b3, b4, b5, b6] := by
  have q := (((((((h.set 0 b0).set 1 b1).set 2 b2).set 3 b3).set 4 b4).set 5 b5).set 6 b6)
  simp only [List.setIfInBounds_toArray, List.set_cons_zero, List.set_cons_succ] at q
  exact q
theorem Blk.far (h : Blk w g t cs) {p : Addr} (hp : g ≠ p.block) (u : Value) : Blk (w.setCell p u) g t cs := (Below.heap_setCell w p u g hp).trans h
theorem Blk.below {B : Nat} (h : Blk w g t cs) (hb : Below B w w') (hg : g < B) : Blk w' g t cs := (hb.block g hg).trans h
theorem Blk.on (h : Blk w g t cs) (hb : Below w.heap.size w w') : Blk w' g t cs := h.below hb h.lt
end

/-- The first p of F, the others of Z. -/
def mix (F Z : List Value) (p : Nat) : List Value := F.take p ++ Z.drop p
theorem mix_zero (F Z : List Value) : mix F Z 0 = Z := by simp [mix]
theorem mix_all (F Z : List Value) (h : Z.length = F.length) : mix F Z F.length = F := by
  unfold mix
  rw [List.take_length, List.drop_eq_nil_of_le (Nat.le_of_eq h), List.append_nil]
theorem mix_set {F Z : List Value} {p : Nat} {u : Value} (hl : Z.length = F.length) (h : F[p]? = some u) : (mix F Z p).set p u = mix F Z (p + 1) := by
  have hp : p < F.length := (List.getElem?_eq_some_iff.1 h).1
  have hu : F[p] = u := (List.getElem?_eq_some_iff.1 h).2
  have e : (Z.drop p).set 0 u = u :: Z.drop (p + 1) := by rw [List.drop_eq_getElem_cons (by omega)]; rfl
  have e2 : F.take (p + 1) = F.take p ++ [u] := by rw [List.take_succ_eq_append_getElem hp, hu]
  unfold mix
  rw [List.set_append_right _ _ (by rw [List.length_take]; omega), List.length_take, Nat.min_eq_left (by omega), Nat.sub_self, e, e2, List.append_assoc]
  rfl
end
section
open Go Go.RowKit

structure Cu where
  a : Int
  b : Int
  deriving DecidableEq
structure En where
  a : Int
  b : Int
  lo : Int
  hi : Int
  to : Int
  deriving DecidableEq
structure Rp where
  tm : Int
  mc : Int
  a : Int
  b : Int
  lo : Int
  hi : Int
  to : Int
  deriving DecidableEq

def cuS : Shape Cu := ⟨2, fun e j => match j with | 0 => .int .i64 e.a | _ => .int .i64 e.b, ⟨0, 0⟩⟩
def enS : Shape En := ⟨5, fun e j => match j with | 0 => .int .i64 e.a | 1 => .int .i64 e.b | 2 => .int .i64 e.lo | 3 => .int .i64 e.hi | _ => .int .i64 e.to, ⟨0, 0, 0, 0, 0⟩⟩
def rpS : Shape Rp := ⟨7, fun e j => match j with | 0 => .int .i64 e.tm | 1 => .int .i64 e.mc | 2 => .int .i64 e.a | 3 => .int .i64 e.b | 4 => .int .i64 e.lo | 5 => .int .i64 e.hi | _ => .int .i64 e.to, ⟨0, 0, 0, 0, 0, 0, 0⟩⟩
structure Pt where
  x : Int
  y : Int
  e : Int
  deriving DecidableEq
def ptS : Shape Pt := ⟨3, fun e j => match j with | 0 => .int .i64 e.x | 1 => .int .i64 e.y | _ => .int .i64 e.e, ⟨0, 0, 0⟩⟩
def inS : Shape Int := ⟨1, fun e _ => .int .i64 e, 0⟩

/-- The cells of the k-th element, one by one. -/
theorem cu_cells {w : World} {g off n : Nat} {es : List Cu} (h : ∀ k, k < n → ∀ j, j < cuS.size → w.cell? ⟨g, off + k * cuS.size + j, none⟩ = some (cuS.cell (cuS.get es k) j)) (k : Nat) (hk : k < n) :
    w.cell? ⟨g, off + k * 2, none⟩ = some (.int .i64 (cuS.get es k).a) ∧ w.cell? ⟨g, off + k * 2 + 1, none⟩ = some (.int .i64 (cuS.get es k).b) :=
  ⟨h k hk 0 (by decide), h k hk 1 (by decide)⟩
theorem en_cells {w : World} {g off n : Nat} {es : List En} (h : ∀ k, k < n → ∀ j, j < enS.size → w.cell? ⟨g, off + k * enS.size + j, none⟩ = some (enS.cell (enS.get es k) j)) (k : Nat) (hk : k < n) :
    w.cell? ⟨g, off + k * 5, none⟩ = some (.int .i64 (enS.get es k).a) ∧ w.cell? ⟨g, off + k * 5 + 1, none⟩ = some (.int .i64 (enS.get es k).b) ∧ w.cell? ⟨g, off + k * 5 + 2, none⟩ = some (.int .i64 (enS.get es k).lo) ∧
      w.cell? ⟨g, off + k * 5 + 3, none⟩ = some (.int .i64 (enS.get es k).hi) ∧ w.cell? ⟨g, off + k * 5 + 4, none⟩ = some (.int .i64 (enS.get es k).to) :=
  ⟨h k hk 0 (by decide), h k hk 1 (by decide), h k hk 2 (by decide), h k hk 3 (by decide), h k hk 4 (by decide)⟩
theorem pt_cells {w : World} {g off n : Nat} {es : List Pt} (h : ∀ k, k < n → ∀ j, j < ptS.size → w.cell? ⟨g, off + k * ptS.size + j, none⟩ = some (ptS.cell (ptS.get es k) j)) (k : Nat) (hk : k < n) :
    w.cell? ⟨g, off + k * 3, none⟩ = some (.int .i64 (ptS.get es k).x) ∧ w.cell? ⟨g, off + k * 3 + 1, none⟩ = some (.int .i64 (ptS.get es k).y) ∧ w.cell? ⟨g, off + k * 3 + 2, none⟩ = some (.int .i64 (ptS.get es k).e) :=
  ⟨h k hk 0 (by decide), h k hk 1 (by decide), h k hk 2 (by decide)⟩
theorem rp_cells {w : World} {g off n : Nat} {es : List Rp} (h : ∀ k, k < n → ∀ j, j < rpS.size → w.cell? ⟨g, off + k * rpS.size + j, none⟩ = some (rpS.cell (rpS.get es k) j)) (k : Nat) (hk : k < n) :
    w.cell? ⟨g, off + k * 7, none⟩ = some (.int .i64 (rpS.get es k).tm) ∧ w.cell? ⟨g, off + k * 7 + 1, none⟩ = some (.int .i64 (rpS.get es k).mc) ∧ w.cell? ⟨g, off + k * 7 + 2, none⟩ = some (.int .i64 (rpS.get es k).a) ∧
      w.cell? ⟨g, off + k * 7 + 3, none⟩ = some (.int .i64 (rpS.get es k).b) ∧ w.cell? ⟨g, off + k * 7 + 4, none⟩ = some (.int .i64 (rpS.get es k).lo) ∧ w.cell? ⟨g, off + k * 7 + 5, none⟩ = some (.int .i64 (rpS.get es k).hi) ∧
      w.cell? ⟨g, off + k * 7 + 6, none⟩ = some (.int .i64 (rpS.get es k).to) :=
  ⟨h k hk 0 (by decide), h k hk 1 (by decide), h k hk 2 (by decide), h k hk 3 (by decide), h k hk 4 (by decide), h k hk 5 (by decide), h k hk 6 (by decide)⟩
theorem in_cells {w : World} {g off n : Nat} {es : List Int} (h : ∀ k, k < n → ∀ j, j < inS.size → w.cell? ⟨g, off + k * inS.size + j, none⟩ = some (inS.cell (inS.get es k) j)) (k : Nat) (hk : k < n) :
    w.cell? ⟨g, off + k, none⟩ = some (.int .i64 (inS.get es k)) := by
  have := h k hk 0 (by decide)
  simpa [inS] using this

/-! ### Curves, entries, reports -/
def insB (n lo hi : Int) : Bool := decide (lo ≤ n ∧ n ≤ hi)
theorem insB_true {n lo hi : Int} (h : insB n lo hi = true) : lo ≤ n ∧ n ≤ hi := by simpa [insB] using h
theorem insB_mk {n lo hi : Int} (h1 : lo ≤ n) (h2 : n ≤ hi) : insB n lo hi = true := by simp [insB, h1, h2]
def coreI (a b : Int) : Int := 4 * a * a * a + 27 * b * b
def curveB (a b : Int) : Bool := insB a (-1000) 1000 && (insB b (-10000) 10000 && coreI a b != 0)
def entB (a b lo hi to : Int) : Bool := curveB a b && decide (0 ≤ lo ∧ lo ≤ hi ∧ hi ≤ 20 ∧ 0 ≤ to ∧ to ≤ 16)
def recB (a b lo hi : Int) : Bool := curveB a b && decide (0 ≤ lo ∧ lo ≤ hi ∧ hi ≤ 20)
def repB (tm mc a b lo hi to : Int) : Bool := decide (0 ≤ tm ∧ tm ≤ 1000000 ∧ 1 ≤ mc ∧ mc ≤ 9) && entB a b lo hi to
def cmpI (x y : Int) : Int := if x < y then -1 else if y < x then 1 else 0
def cmpC (a b c d : Int) : Int := if a = c then cmpI b d else cmpI a c

theorem curveB_bd {a b : Int} (h : curveB a b = true) : (-1000 ≤ a ∧ a ≤ 1000) ∧ (-10000 ≤ b ∧ b ≤ 10000) := by
  unfold curveB at h
  simp only [Bool.and_eq_true] at h
  exact ⟨insB_true h.1, insB_true h.2.1⟩
theorem entB_curve {a b lo hi to : Int} (h : entB a b lo hi to = true) : curveB a b = true := by
  unfold entB at h
  simp only [Bool.and_eq_true] at h
  exact h.1
theorem entB_bd {a b lo hi to : Int} (h : entB a b lo hi to = true) : 0 ≤ lo ∧ lo ≤ hi ∧ hi ≤ 20 ∧ 0 ≤ to ∧ to ≤ 16 := by
  unfold entB at h
  simp only [Bool.and_eq_true, decide_eq_true_eq] at h
  exact h.2
theorem repB_ent {tm mc a b lo hi to : Int} (h : repB tm mc a b lo hi to = true) : entB a b lo hi to = true := by
  unfold repB at h
  simp only [Bool.and_eq_true] at h
  exact h.2
theorem repB_bd {tm mc a b lo hi to : Int} (h : repB tm mc a b lo hi to = true) : 0 ≤ tm ∧ tm ≤ 1000000 ∧ 1 ≤ mc ∧ mc ≤ 9 := by
  unfold repB at h
  simp only [Bool.and_eq_true, decide_eq_true_eq] at h
  exact h.1
theorem cmpI_bd (x y : Int) : -1 ≤ cmpI x y ∧ cmpI x y ≤ 1 := by unfold cmpI; split <;> (try split) <;> omega
theorem cmpC_bd (a b c d : Int) : -1 ≤ cmpC a b c d ∧ cmpC a b c d ≤ 1 := by unfold cmpC; split <;> exact cmpI_bd _ _
theorem cmpI_lt (x y : Int) : cmpI x y < 0 ↔ x < y := by unfold cmpI; split <;> (try split) <;> omega
theorem cmpI_eq (x y : Int) : cmpI x y = 0 ↔ x = y := by unfold cmpI; split <;> (try split) <;> omega
theorem cmpC_lt (a b c d : Int) : cmpC a b c d < 0 ↔ (a < c ∨ a = c ∧ b < d) := by
  unfold cmpC
  split
  · rw [cmpI_lt]; omega
  · rw [cmpI_lt]; omega
theorem cmpC_eq (a b c d : Int) : cmpC a b c d = 0 ↔ (a = c ∧ b = d) := by
  unfold cmpC
  split
  · rw [cmpI_eq]; omega
  · rw [cmpI_eq]; omega

theorem mul_bd (a b m n : Int) (ha : -m ≤ a) (ha' : a ≤ m) (hb : -n ≤ b) (hb' : b ≤ n) : -(m * n) ≤ a * b ∧ a * b ≤ m * n := by
  have h1 : 0 ≤ (m - a) * (n + b) := Int.mul_nonneg (by omega) (by omega)
  have h2 : 0 ≤ (m + a) * (n - b) := Int.mul_nonneg (by omega) (by omega)
  have h3 : 0 ≤ (m - a) * (n - b) := Int.mul_nonneg (by omega) (by omega)
  have h4 : 0 ≤ (m + a) * (n + b) := Int.mul_nonneg (by omega) (by omega)
  simp only [Int.sub_mul, Int.mul_sub, Int.mul_add, Int.add_mul] at h1 h2 h3 h4
  omega

/-- The k-th entry is valid and behind the one before it. -/
def okAt (es : List En) (k : Nat) : Bool :=
  entB (enS.get es k).a (enS.get es k).b (enS.get es k).lo (enS.get es k).hi (enS.get es k).to &&
    (k == 0 || decide (cmpC (enS.get es (k - 1)).a (enS.get es (k - 1)).b (enS.get es k).a (enS.get es k).b < 0))
def catB (es : List En) : Bool := decide (es.length ≤ 12) && (List.range es.length).all (okAt es)
def okRAt (es : List Rp) (k : Nat) : Bool :=
  repB (rpS.get es k).tm (rpS.get es k).mc (rpS.get es k).a (rpS.get es k).b (rpS.get es k).lo (rpS.get es k).hi (rpS.get es k).to &&
    (k == 0 || decide (cmpC (rpS.get es (k - 1)).tm (rpS.get es (k - 1)).mc (rpS.get es k).tm (rpS.get es k).mc < 0))
def repsB (es : List Rp) : Bool := decide (es.length ≤ 20) && (List.range es.length).all (okRAt es)

theorem catB_false_at {es : List En} {k : Nat} (hk : k < es.length) (h : okAt es k = false) : catB es = false := by
  unfold catB
  have : (List.range es.length).all (okAt es) = false := by
    rw [List.all_eq_false]
    exact ⟨k, List.mem_range.2 hk, by simp [h]⟩
  rw [this, Bool.and_false]
theorem catB_long {es : List En} (h : 12 < es.length) : catB es = false := by
  unfold catB
  rw [decide_eq_false (by omega), Bool.false_and]
theorem catB_true {es : List En} (hl : es.length ≤ 12) (h : ∀ j, j < es.length → okAt es j = true) : catB es = true := by
  unfold catB
  have : (List.range es.length).all (okAt es) = true := by
    rw [List.all_eq_true]
    exact fun k hk => h k (List.mem_range.1 hk)
  rw [this, decide_eq_true hl]; rfl
theorem catB_spec {es : List En} (h : catB es = true) : es.length ≤ 12 ∧ ∀ k, k < es.length → okAt es k = true := by
  unfold catB at h
  simp only [Bool.and_eq_true, decide_eq_true_eq, List.all_eq_true, List.mem_range] at h
  exact h
theorem catB_all {es : List En} (h : ∀ j, j < es.length → okAt es j = true) : catB es = decide (es.length ≤ 12) := by
  by_cases hl : es.length ≤ 12
  · rw [catB_true hl h, decide_eq_true hl]
  · rw [catB_long (by omega), decide_eq_false hl]
theorem entB_cbd {a b lo hi to : Int} (h : entB a b lo hi to = true) : (-1000 ≤ a ∧ a ≤ 1000) ∧ (-10000 ≤ b ∧ b ≤ 10000) := curveB_bd (entB_curve h)
theorem repB_tbd {tm mc a b lo hi to : Int} (h : repB tm mc a b lo hi to = true) : (0 ≤ tm ∧ tm ≤ 1000000) ∧ (1 ≤ mc ∧ mc ≤ 9) := by
  obtain ⟨h1, h2, h3, h4⟩ := repB_bd h
  exact ⟨⟨h1, h2⟩, h3, h4⟩
theorem repsB_false_at {es : List Rp} {k : Nat} (hk : k < es.length) (h : okRAt es k = false) : repsB es = false := by
  unfold repsB
  have : (List.range es.length).all (okRAt es) = false := by
    rw [List.all_eq_false]
    exact ⟨k, List.mem_range.2 hk, by simp [h]⟩
  rw [this, Bool.and_false]
theorem repsB_long {es : List Rp} (h : 20 < es.length) : repsB es = false := by
  unfold repsB
  rw [decide_eq_false (by omega), Bool.false_and]
theorem repsB_true {es : List Rp} (hl : es.length ≤ 20) (h : ∀ j, j < es.length → okRAt es j = true) : repsB es = true := by
  unfold repsB
  have : (List.range es.length).all (okRAt es) = true := by
    rw [List.all_eq_true]
    exact fun k hk => h k (List.mem_range.1 hk)
  rw [this, decide_eq_true hl]; rfl
theorem repsB_all {es : List Rp} (h : ∀ j, j < es.length → okRAt es j = true) : repsB es = decide (es.length ≤ 20) := by
  by_cases hl : es.length ≤ 20
  · rw [repsB_true hl h, decide_eq_true hl]
  · rw [repsB_long (by omega), decide_eq_false hl]
theorem repsB_spec {es : List Rp} (h : repsB es = true) : es.length ≤ 20 ∧ ∀ k, k < es.length → okRAt es k = true := by
  unfold repsB at h
  simp only [Bool.and_eq_true, decide_eq_true_eq, List.all_eq_true, List.mem_range] at h
  exact h
end
section
open Go Go.RowKit

set_option maxHeartbeats 400000 in
theorem inside_any (n lo hi : Int) (w : World) :
    Calls Tryz.prog 23 #[.int .i64 n, .int .i64 lo, .int .i64 hi] w fun e w' => e = .returned (.bool (insB n lo hi)) ∧ w = w' := by
  go_enter Tryz.func23, Tryz.ntmps23
  go_wp2
  all_goals go_ret
  all_goals (refine ⟨?_, rfl⟩; simp [insB]; try omega)

set_option maxHeartbeats 400000 in
theorem l1In_any (n lo hi : Int) (w : World) :
    Calls Tryz.prog 40 #[.int .i64 n, .int .i64 lo, .int .i64 hi] w fun e w' => e = .returned (.bool (insB n lo hi)) ∧ w = w' := by
  go_enter Tryz.func40, Tryz.ntmps40
  go_wp2
  all_goals go_ret
  all_goals (refine ⟨?_, rfl⟩; simp [insB]; try omega)

theorem core_bds {a b : Int} (h1 : -1000 ≤ a) (h2 : a ≤ 1000) (h3 : -10000 ≤ b) (h4 : b ≤ 10000) :
    (-(4000 * 1000) ≤ 4 * a * a ∧ 4 * a * a ≤ 4000 * 1000) ∧ (-(4000000 * 1000) ≤ 4 * a * a * a ∧ 4 * a * a * a ≤ 4000000 * 1000) ∧ (-(270000 * 10000) ≤ 27 * b * b ∧ 27 * b * b ≤ 270000 * 10000) :=
  ⟨mul_bd (4 * a) a 4000 1000 (by omega) (by omega) h1 h2, mul_bd (4 * a * a) a 4000000 1000 (mul_bd (4 * a) a 4000 1000 (by omega) (by omega) h1 h2).1 (mul_bd (4 * a) a 4000 1000 (by omega) (by omega) h1 h2).2 h1 h2,
    mul_bd (27 * b) b 270000 10000 (by omega) (by omega) h3 h4⟩

set_option maxHeartbeats 400000 in
theorem core_any (a b : Int) (w : World) (h1 : -1000 ≤ a) (h2 : a ≤ 1000) (h3 : -10000 ≤ b) (h4 : b ≤ 10000) :
    Calls Tryz.prog 94 #[.agg #[.int .i64 a, .int .i64 b]] w fun e w' => e = .returned (.int .i64 (coreI a b)) ∧ Below w.heap.size w w' := by
  obtain ⟨⟨k11, k12⟩, ⟨k21, k22⟩, k31, k32⟩ := core_bds h1 h2 h3 h4
  go_enter Tryz.func94, Tryz.ntmps94
  go_wp2
  go_ret
  exact ⟨rfl, (Below.refl _ _).alloc (Nat.le_refl _) _⟩

set_option maxHeartbeats 400000 in
theorem ecDisc_any (a b : Int) (w : World) (h1 : -1000 ≤ a) (h2 : a ≤ 1000) (h3 : -10000 ≤ b) (h4 : b ≤ 10000) :
    Calls Tryz.prog 63 #[.agg #[.int .i64 a, .int .i64 b]] w fun e w' => e = .returned (.int .i64 (coreI a b)) ∧ Below w.heap.size w w' := by
  obtain ⟨⟨k11, k12⟩, ⟨k21, k22⟩, k31, k32⟩ := core_bds h1 h2 h3 h4
  go_enter Tryz.func63, Tryz.ntmps63
  go_wp2
  go_ret
  exact ⟨rfl, (Below.refl _ _).alloc (Nat.le_refl _) _⟩

set_option maxHeartbeats 400000 in
theorem isCurve_any (a b : Int) (w : World) :
    Calls Tryz.prog 62 #[.agg #[.int .i64 a, .int .i64 b]] w fun e w' => e = .returned (.bool (curveB a b)) ∧ Below w.heap.size w w' := by
  cases ha : insB a (-1000) 1000
  · go_enter Tryz.func62, Tryz.ntmps62
    go_wp2_with (go_at_call 23; refine (inside_any _ _ _ _).mono ?_; rintro e w' ⟨rfl, rfl⟩)
    go_ret
    refine ⟨by simp [curveB, ha], (Below.refl _ _).alloc (Nat.le_refl _) _⟩
  · cases hb : insB b (-10000) 10000
    · go_enter Tryz.func62, Tryz.ntmps62
      go_wp2_with (go_at_call 23; refine (inside_any _ _ _ _).mono ?_; rintro e w' ⟨rfl, rfl⟩)
      go_ret
      refine ⟨by simp [curveB, ha, hb], (Below.refl _ _).alloc (Nat.le_refl _) _⟩
    · have h1 := insB_true ha
      have h2 := insB_true hb
      go_enter Tryz.func62, Tryz.ntmps62
      go_wp2_with (first | (go_at_call 23; refine (inside_any _ _ _ _).mono ?_; rintro e w' ⟨rfl, rfl⟩) | (go_at_call 94; refine (core_any _ _ _ h1.1 h1.2 h2.1 h2.2).mono ?_; rintro e w' ⟨rfl, hb1⟩))
      go_ret
      exact ⟨by simp [curveB, ha, hb], ((Below.refl _ _).alloc (Nat.le_refl _) _).trans (hb1.mono (by simp))⟩

set_option maxHeartbeats 400000 in
theorem ecGood_any (a b : Int) (w : World) :
    Calls Tryz.prog 36 #[.agg #[.int .i64 a, .int .i64 b]] w fun e w' => e = .returned (.bool (curveB a b)) ∧ Below w.heap.size w w' := by
  cases ha : insB a (-1000) 1000
  · go_enter Tryz.func36, Tryz.ntmps36
    go_wp2_with (go_at_call 40; refine (l1In_any _ _ _ _).mono ?_; rintro e w' ⟨rfl, rfl⟩)
    go_ret
    refine ⟨by simp [curveB, ha], (Below.refl _ _).alloc (Nat.le_refl _) _⟩
  · cases hb : insB b (-10000) 10000
    · go_enter Tryz.func36, Tryz.ntmps36
      go_wp2_with (go_at_call 40; refine (l1In_any _ _ _ _).mono ?_; rintro e w' ⟨rfl, rfl⟩)
      go_ret
      refine ⟨by simp [curveB, ha, hb], (Below.refl _ _).alloc (Nat.le_refl _) _⟩
    · have h1 := insB_true ha
      have h2 := insB_true hb
      go_enter Tryz.func36, Tryz.ntmps36
      go_wp2_with (first | (go_at_call 40; refine (l1In_any _ _ _ _).mono ?_; rintro e w' ⟨rfl, rfl⟩) | (go_at_call 63; refine (ecDisc_any _ _ _ h1.1 h1.2 h2.1 h2.2).mono ?_; rintro e w' ⟨rfl, hb1⟩))
      go_ret
      exact ⟨by simp [curveB, ha, hb], ((Below.refl _ _).alloc (Nat.le_refl _) _).trans (hb1.mono (by simp))⟩

theorem entB_parts (a b lo hi to : Int) : entB a b lo hi to = (curveB a b && (insB lo 0 hi && (decide (hi ≤ 20) && insB to 0 16))) := by
  unfold entB insB
  cases curveB a b
  · simp
  · simp only [Bool.true_and]; rw [Bool.eq_iff_iff]; simp only [Bool.and_eq_true, decide_eq_true_eq]; omega
theorem entB_partsS (a b lo hi to : Int) : entB a b lo hi to = (curveB a b && (insB hi 0 20 && (insB lo 0 hi && insB to 0 16))) := by
  unfold entB insB
  cases curveB a b
  · simp
  · simp only [Bool.true_and]; rw [Bool.eq_iff_iff]; simp only [Bool.and_eq_true, decide_eq_true_eq]; omega

set_option maxHeartbeats 800000 in
theorem isEntry_any (a b lo hi to : Int) (w : World) :
    Calls Tryz.prog 34 #[.agg #[.int .i64 a, .int .i64 b, .int .i64 lo, .int .i64 hi, .int .i64 to]] w fun e w' => e = .returned (.bool (entB a b lo hi to)) ∧ Below w.heap.size w w' := by
  rw [entB_parts]
  go_enter Tryz.func34, Tryz.ntmps34
  go_wp2_with (first | (go_at_call 62; refine (isCurve_any _ _ _).mono ?_; rintro e w' ⟨rfl, hb1⟩; obtain ⟨hc1, hf1⟩ := bcell hb1) | (go_at_call 23; refine (inside_any _ _ _ _).mono ?_; rintro e w' ⟨rfl, rfl⟩))
  all_goals go_ret
  all_goals exact ⟨by simp [*] <;> (intros; omega), ((Below.refl _ _).alloc (Nat.le_refl _) _).trans (hb1.mono (by simp))⟩

theorem implIsEntry_any (a b lo hi to : Int) (w : World) :
    Calls Tryz.prog 20 #[.agg #[.int .i64 a, .int .i64 b, .int .i64 lo, .int .i64 hi, .int .i64 to]] w fun e w' => e = .returned (.bool (entB a b lo hi to)) ∧ Below w.heap.size w w' := by
  go_enter Tryz.func20, Tryz.ntmps20
  go_wp2_with (go_at_call 34; refine (isEntry_any _ _ _ _ _ _).mono ?_; rintro e w' ⟨rfl, hb1⟩)
  go_ret
  exact ⟨rfl, ((Below.refl _ _).alloc (Nat.le_refl _) _).trans (hb1.mono (by simp))⟩
end
section
open Go Go.RowKit



set_option maxHeartbeats 400000 in
theorem l1Sign_any (n : Int) (w : World) :
    Calls Tryz.prog 90 #[.int .i64 n] w fun e w' => e = .returned (.int .i64 (cmpI n 0)) ∧ w = w' := by
  go_enter Tryz.func90, Tryz.ntmps90
  go_wp2
  all_goals go_ret
  all_goals (refine ⟨?_, rfl⟩; unfold cmpI; simp <;> (first | omega | (repeat split) <;> omega))
theorem cmpI_sub (x y : Int) : cmpI (x - y) 0 = cmpI x y := by unfold cmpI; repeat' split
                                                               all_goals omega


end
section
open Go Go.RowKit

section
variable {w w1 w2 : World} {row : Option Nat} {B g : Nat}
theorem gthen (h : w.grownBy w1 row) (k : Below w1.heap.size w1 w2) : w.grownBy w2 row :=
  ⟨k.os.trans h.os, k.tape.trans h.tape, k.output.trans h.output, Nat.le_trans h.size k.size, fun i hi hne => (k.block i (Nat.lt_of_lt_of_le hi h.size)).trans (h.block i hi hne)⟩
theorem gthen2 (h : w.grownBy w1 row) (k : w1.grownBy w2 row) : w.grownBy w2 row :=
  ⟨k.os.trans h.os, k.tape.trans h.tape, k.output.trans h.output, Nat.le_trans h.size k.size, fun i hi hne => (k.block i (Nat.lt_of_lt_of_le hi h.size) hne).trans (h.block i hi hne)⟩
theorem grefl (w : World) (row : Option Nat) : w.grownBy w row := ⟨rfl, rfl, rfl, Nat.le_refl _, fun _ _ _ => rfl⟩
theorem gof (k : Below w.heap.size w w1) : w.grownBy w1 row := gthen (grefl _ _) k
theorem gnone (k : w.grownBy w1 none) : w.grownBy w1 row := ⟨k.os, k.tape, k.output, k.size, fun i hi _ => k.block i hi (by simp)⟩
end

/-! ### Cells laid over a list -/
def lay (xs : List Value) (o : Nat) : List Value → List Value
  | [] => xs
  | v :: r => lay (xs.set o v) (o + 1) r
theorem length_lay : ∀ (vs xs : List Value) (o : Nat), (lay xs o vs).length = xs.length
  | [], _, _ => rfl
  | v :: r, xs, o => by unfold lay; rw [length_lay r, List.length_set]
theorem lay_right : ∀ (vs ys bs : List Value) (o : Nat), ys.length ≤ o → lay (ys ++ bs) o vs = ys ++ lay bs (o - ys.length) vs
  | [], _, _, _, _ => rfl
  | v :: r, ys, bs, o, h => by
    unfold lay
    rw [List.set_append_right _ _ h, lay_right r ys _ (o + 1) (by omega)]
    congr 2
    omega
theorem lay_over : ∀ (vs pre ys bs : List Value), vs.length = ys.length → lay (pre ++ (ys ++ bs)) pre.length vs = pre ++ (vs ++ bs)
  | [], _, [], _, _ => rfl
  | v :: r, pre, a :: ys, bs, h => by
    have ih := lay_over r (pre ++ [v]) ys bs (by simpa using h)
    rw [List.length_append, List.length_singleton] at ih
    unfold lay
    rw [List.set_append_right _ _ (Nat.le_refl _), Nat.sub_self]
    simp only [List.cons_append, List.set_cons_zero, List.append_assoc, List.nil_append] at ih ⊢
    exact ih
theorem lay_take : ∀ (vs xs : List Value) (o m : Nat), m ≤ o → (lay xs o vs).take m = xs.take m
  | [], _, _, _, _ => rfl
  | v :: r, xs, o, m, h => by
    unfold lay
    rw [lay_take r _ (o + 1) m (by omega), List.take_set_of_le h]
section
variable {E : Type} {S : Shape E}
theorem lay_flat : ∀ (ys : List E) (i : Nat) (u : E), lay (S.flat ys) (i * S.size) (S.cells u) = S.flat (ys.set i u) ∨ ys.length ≤ i
  | [], i, u => .inr (by simp)
  | y :: ys, 0, u => .inl (by
    have := lay_over (S.cells u) [] (S.cells y) (S.flat ys) (by rw [Shape.length_cells, Shape.length_cells])
    simpa [Shape.flat] using this)
  | y :: ys, i + 1, u => by
    rcases lay_flat ys i u with h | h
    · refine .inl ?_
      have e1 : S.flat (y :: ys) = S.cells y ++ S.flat ys := by simp [Shape.flat]
      have e2 : S.flat ((y :: ys).set (i + 1) u) = S.cells y ++ S.flat (ys.set i u) := by simp [Shape.flat]
      rw [e1, e2, lay_right _ _ _ _ (by rw [Shape.length_cells, Nat.add_mul]; omega), Shape.length_cells, ← h]
      congr 2
      rw [Nat.add_mul]; omega
    · exact .inr (by simpa using h)
theorem flat_take : ∀ (ys : List E) (i : Nat), (S.flat ys).take (i * S.size) = S.flat (ys.take i)
  | [], i => by simp [Shape.flat]
  | y :: ys, 0 => by simp [Shape.flat]
  | y :: ys, i + 1 => by
    have ih := flat_take ys i
    have e1 : S.flat (y :: ys) = S.cells y ++ S.flat ys := by simp [Shape.flat]
    have e2 : S.flat ((y :: ys).take (i + 1)) = S.cells y ++ S.flat (ys.take i) := by simp [Shape.flat]
    rw [e1, e2, List.take_append, Shape.length_cells, List.take_of_length_le (by rw [Shape.length_cells, Nat.add_mul]; omega), ← ih]
    congr 2
    rw [Nat.add_mul]; omega
end

section
variable {w : World} {base : Nat} {e : TypeId} {size g n cap : Nat} {xs : List Value}
theorem own_lay : ∀ (vs : List Value) (w : World) (xs : List Value) (o : Nat), w.ownsRow base e size (.slice (some ⟨g, 0, none⟩) n cap) n xs →
    (w.setCells g o vs).ownsRow base e size (.slice (some ⟨g, 0, none⟩) n cap) n (lay xs o vs) ∧ w.grownBy (w.setCells g o vs) (some g)
  | [], w, xs, o, h => ⟨h, grefl _ _⟩
  | v :: r, w, xs, o, h => by
    have h1 := h.stored o v
    have h2 := own_lay r _ _ (o + 1) h1.1
    exact ⟨h2.1, gthen2 h1.2 h2.2⟩
theorem own_cut {i : Nat} (h : w.ownsRow base e size (.slice (some ⟨g, 0, none⟩) n cap) n xs) (hi : i ≤ n) : w.ownsRow base e size (.slice (some ⟨g, 0, none⟩) i cap) i (xs.take (i * size)) := by
  have hm : i * size ≤ n * size := Nat.mul_le_mul_right _ hi
  rcases h.2 with ⟨h', _⟩ | ⟨g', cap', cur, h', hb, hg, hnc, hcm, hcs, htake⟩
  · simp at h'
  · simp only [Value.slice.injEq, Option.some.injEq, Addr.mk.injEq, and_true, true_and] at h'
    obtain ⟨rfl, rfl⟩ := h'
    refine ⟨by rw [List.length_take, h.1]; omega, .inr ⟨g, cap, cur, rfl, hb, hg, by omega, hcm, hcs, ?_⟩⟩
    rw [← htake, List.take_take, Nat.min_eq_left hm]
theorem zeroCells_one {cs : Array Value} (h : ∀ i (hi : i < cs.size), cs[i].oneCell' = true) (hpos : 0 < cs.size) (n : Nat) : ∀ u ∈ (Builtin.zeroCells cs n).toList, u.oneCell' = true := by
  intro u hu
  simp only [Builtin.zeroCells, Array.toList_map, List.mem_map] at hu
  obtain ⟨j, -, rfl⟩ := hu
  rw [getElem!_pos cs _ (Nat.mod_lt _ hpos)]
  exact h _ _
theorem own_base (h : w.ownsRow base e size (.slice (some ⟨g, 0, none⟩) n cap) n xs) : base ≤ g ∧ g < w.heap.size := h.lt g rfl
/-- 'clear(s[i:])' on a row of the call's own. -/
theorem run_clear_row {P : Program} {t : TypeId} {z : Value} {i : Nat} (ht : P.underlying t = some (.slice e)) (hv : ∀ w, (zeroValue e).run P w = .ok z w) (h1 : ∀ u ∈ (Builtin.zeroCells z.cells (n - i)).toList, u.oneCell' = true) (hl : ∀ m, (Builtin.zeroCells z.cells m).size = m * size)
    (h : w.ownsRow base e size (.slice (some ⟨g, 0, none⟩) n cap) n xs) (hi : i ≤ n) (ty : TypeId) (c : Nat) :
    (Builtin.clear_ #[t] ty #[.slice (some ⟨g, i * size, none⟩) (n - i) c]).run P w = .ok (.tuple #[]) (w.setCells g (i * size) (Builtin.zeroCells z.cells (n - i)).toList) := by
  have hin : ∀ j, j < (n - i) * size → i * size + j < n * size := fun j hj => by
    rw [Nat.sub_mul] at hj
    omega
  have hst := run_storeCells_cells (P := P) g (i * size) (Builtin.zeroCells z.cells (n - i)).toList 0 w
    (fun j hj => by
      rw [Array.length_toList, hl] at hj
      have hc := h.cellAt (i * size + 0 + j) (by have := hin j hj; omega)
      have hlt : i * size + 0 + j < xs.length := by rw [h.1]; have := hin j hj; omega
      rw [List.getElem?_eq_getElem hlt] at hc
      rw [hc]; rfl)
    (fun j _ => h.frozenAt _) h1
  rcases Nat.eq_zero_or_pos (n - i) with h0 | h0
  · have hnil : (Builtin.zeroCells z.cells 0).toList = [] := List.eq_nil_of_length_eq_zero (by rw [Array.length_toList, hl, Nat.zero_mul])
    rw [h0, hnil]
    simp [Builtin.clear_, run_underlying ht, World.setCells]
  · obtain ⟨m, hm⟩ : ∃ m, n - i = m + 1 := ⟨n - i - 1, by omega⟩
    rw [hm] at hst ⊢
    simp only [Nat.add_zero] at hst
    simp [Builtin.clear_, run_underlying ht, hv, hst]
end
end
end Go.Proofs.YthdfpfhkmfmnbaaGreat
