/- Own texts put together: Own lemmas that know no program: a region that draws its order (tame), slices that read as lists, rows of the call's own; The structs of ints that the laws speak of, as Lean structures, and what the functions compute, in plain Lean; The walks of the functions that speak of one curve, entry, record, report, and of their order; The walks of the functions that speak of one record or report, and of the order of curves and reports; The walks: greatest common divisors of the program and of the reference; The walks: greatest common divisors, absolute values, of greater numbers; The plain law of neighbours by isogenies: roots, smallest models, neighbours, the list of all of them, the pairs of a list. Conditions: those of each theorem. -/
import Derived.WalkKit
import Derived.WalkSpells
import Derived.WalkLawsBesides
import Derived.Deep.QuietTactic
import Derived.BigQuiet
import Derived.Lib.Hide
import Derived.Maps.AppendAt
import Derived.Deep.AppendLies
import Derived.Laws.AppendOwnNone
import Derived.Laws.CopyOwn
import Derived.Test.YtacehhcpfollnaaGreatRows
import Derived.Deep.RegionHeld3
import Derived.IntWalk
namespace Go.Proofs.YtacehhcpfollnaaGreat
section
open Go Go.RowKit

/-! ### A region that draws its order -/
/-- A world that has all below B as w0 has it. -/
structure Later (B : Nat) (w0 : World) where
  w : World
  h : Below B w0 w

/-- What is known of the worlds in which the operations of a region may come up: all that was there reads as it did. -/
structure Tame (w : World) (T : Type) (W : T → World) : Prop where
  below : ∀ x, Below w.heap.size w (W x)
  back : ∀ x w'', Below (W x).heap.size (W x) w'' → ∃ y, w'' = W y

theorem Tame.cell {w : World} {T : Type} {W : T → World} (h : Tame w T W) (x : T) (p : Addr) (hp : p.block < w.heap.size) : (W x).cell? p = w.cell? p := (h.below x).cell hp

/-- A region that draws its order, whose operations read and whose calls leave all that was there as it was. -/
theorem wp_region_tame {P : Program} {id : Nat} {Q : Exit → Act → World → Prop} {a : Act} {w : World} {l : List Oper} (hm : P.follows .mixedOrders = true) (hB : Region.lexB .any l.toArray = true)
    (h : ∀ (T : Type) [Nonempty T] (W : T → World), Tame w T W → wpQuiet P l.toArray (fun w' => ∃ x : T, w' = W x) (fun a' => ∀ x : T, Q .normal a' (W x)) l a) : (Code.region id l.toArray true).wp P Q a w :=
  wp_region_quiet (C := fun w' => ∃ x : Later w.heap.size w, w' = x.w) hm hB ⟨⟨_, (Below.refl _ _).drew⟩, rfl⟩
    (by simpa using @h (Later w.heap.size w) ⟨⟨w, Below.refl _ _⟩⟩ (fun x => x.w) ⟨fun x => x.h, fun x w'' hb => ⟨⟨w'', x.h.trans (hb.mono x.h.size)⟩, rfl⟩⟩)

theorem Tame.call {P : Program} {w : World} {T : Type} {W : T → World} (ht : Tame w T W) {x : T} {f : FuncId} {args : Array Value} {v : Value}
    (hc : Calls P f args (W x) (fun e w'' => e = .returned v ∧ Below (W x).heap.size (W x) w'')) : Calls P f args (W x) (fun e w'' => e = .returned v ∧ ∃ y, w'' = W y) :=
  hc.mono fun _ w'' ⟨he, hb⟩ => ⟨he, ht.back x w'' hb⟩

/-! ### Small things -/
theorem all_lt_succ {p : Nat → Prop} {k : Nat} (h : ∀ j, j < k → p j) (hk : p k) : ∀ j, j < k + 1 → p j := fun j hj => by
  rcases Nat.lt_or_ge j k with h1 | h1
  · exact h j h1
  · obtain rfl : j = k := by omega
    exact hk

/-- Two calls, one behind the other, each leaving all that was there as it was. -/
theorem bthen {w w1 w2 : World} (h : Below w.heap.size w w1) (k : Below w1.heap.size w1 w2) : Below w.heap.size w w2 := h.trans (k.mono h.size)

theorem bal {w x : World} (h : Below w.heap.size w x) (o : Obj) : Below w.heap.size w (x.alloc o) := h.alloc h.size o
theorem bst {w x : World} (h : Below w.heap.size w x) {p : Addr} (hp : w.heap.size ≤ p.block) (u : Value) : Below w.heap.size w (x.setCell p u) := h.setCell hp u

/-- What was there reads as it did: the two rules that the walk uses behind a call. -/
theorem bcell {W w1 : World} (hb : Below W.heap.size W w1) : (∀ b o, b < W.heap.size → w1.cell? ⟨b, o, none⟩ = W.cell? ⟨b, o, none⟩) ∧ (∀ b o, b < W.heap.size → w1.frozen? ⟨b, o, none⟩ = W.frozen? ⟨b, o, none⟩) :=
  ⟨fun b o h => hb.cell (p := ⟨b, o, none⟩) h, fun b o h => hb.frozen (p := ⟨b, o, none⟩) h⟩

theorem ret_bool {a b : Bool} (h : a = b) : Ending.returned (.bool a) = .returned (.bool b) := by rw [h]
theorem ret_int {a b : Int} (h : a = b) : Ending.returned (.int .i64 a) = .returned (.int .i64 b) := by rw [h]

/-! ### Slices that read as lists -/
/-- How an element lies in memory: so many cells; the j-th cell of e; the element that is nowhere. -/
structure Shape (E : Type) where
  size : Nat
  cell : E → Nat → Value
  z : E

section
variable {E : Type} (S : Shape E)
def Shape.get (es : List E) (k : Nat) : E := es.getD k S.z

/-- The slice value v reads, in the world w, as the list es; its cells lie in a block below hi. -/
def Rd (w : World) (hi : Nat) (v : Value) (es : List E) : Prop :=
  ∃ A c, v = .slice A es.length c ∧ es.length ≤ c ∧ c ≤ maxLen ∧
    (0 < es.length → ∃ g off, A = some ⟨g, off, none⟩ ∧ g < hi ∧ ∀ k, k < es.length → ∀ j, j < S.size → w.cell? ⟨g, off + k * S.size + j, none⟩ = some (S.cell (S.get es k) j))

def Shape.cells (e : E) : List Value := (List.range S.size).map (S.cell e)
def Shape.flat (es : List E) : List Value := es.flatMap S.cells
end

section
variable {E : Type} {S : Shape E} {w w' : World} {hi hi' : Nat} {v : Value} {es : List E}
theorem Rd.nil (w : World) (hi : Nat) : Rd S w hi (.slice none 0 0) [] := ⟨none, 0, rfl, Nat.zero_le _, Nat.zero_le _, fun h => absurd h (by simp)⟩
theorem Rd.keep (h : Rd S w hi v es) (hk : ∀ p : Addr, p.block < hi → w'.cell? p = w.cell? p) : Rd S w' hi v es := by
  obtain ⟨A, c, hv, hc, hm, hA⟩ := h
  refine ⟨A, c, hv, hc, hm, fun h0 => ?_⟩
  obtain ⟨g, off, hA', hg, hcell⟩ := hA h0
  exact ⟨g, off, hA', hg, fun k hk' j hj => (hk _ hg).trans (hcell k hk' j hj)⟩
theorem Rd.more (h : Rd S w hi v es) (hh : hi ≤ hi') : Rd S w hi' v es := by
  obtain ⟨A, c, hv, hc, hm, hA⟩ := h
  refine ⟨A, c, hv, hc, hm, fun h0 => ?_⟩
  obtain ⟨g, off, hA', hg, hcell⟩ := hA h0
  exact ⟨g, off, hA', Nat.lt_of_lt_of_le hg hh, hcell⟩
theorem Rd.below (h : Rd S w hi v es) (hb : Below hi w w') : Rd S w' hi v es := h.keep fun _ hp => hb.cell hp
/-- Behind a call that left all as it was. -/
theorem Rd.on (h : Rd S w w.heap.size v es) (hb : Below w.heap.size w w') : Rd S w' w'.heap.size v es := (h.below hb).more hb.size
theorem Rd.onB {B : Nat} (h : Rd S w hi v es) (hB : hi ≤ B) (hb : Below B w w') : Rd S w' hi v es := h.below (hb.mono hB)

theorem Shape.length_cells (e : E) : (S.cells e).length = S.size := by simp [Shape.cells]
theorem Shape.length_flat : ∀ es : List E, (S.flat es).length = es.length * S.size
  | [] => by simp [Shape.flat]
  | e :: es => by
    have := Shape.length_flat es
    simp only [Shape.flat, List.flatMap_cons, List.length_append, Shape.length_cells, List.length_cons] at this ⊢
    rw [this, Nat.add_mul]; omega
theorem Shape.flat_append (a b : List E) : S.flat (a ++ b) = S.flat a ++ S.flat b := by simp [Shape.flat]
theorem Shape.flat_at : ∀ (es : List E) (k j : Nat), k < es.length → j < S.size → (S.flat es)[k * S.size + j]? = some (S.cell (S.get es k) j)
  | [], k, _, hk, _ => by simp at hk
  | e :: es, 0, j, _, hj => by
    simp only [Shape.flat, List.flatMap_cons, Nat.zero_mul, Nat.zero_add]
    rw [List.getElem?_append_left (by rw [Shape.length_cells]; exact hj)]
    simp [Shape.cells, hj, Shape.get]
  | e :: es, k + 1, j, hk, hj => by
    have ih := Shape.flat_at es k j (by simpa using hk) hj
    simp only [Shape.flat, List.flatMap_cons] at ih ⊢
    rw [List.getElem?_append_right (by rw [Shape.length_cells, Nat.add_mul]; omega), Shape.length_cells]
    have : (k + 1) * S.size + j - S.size = k * S.size + j := by rw [Nat.add_mul]; omega
    rw [this, ih]
    rfl

/-- A row of the call's own reads as a list. -/
theorem Rd.of_own {base : Nat} {e : TypeId} {n : Nat} (h : w.ownsRow base e S.size v n (S.flat es)) (hn : n = es.length) : Rd S w w.heap.size v es := by
  subst hn
  rcases h.2 with ⟨rfl, h0⟩ | ⟨g, cap, cur, rfl, hb, hg, hnc, hcm, hcs, htake⟩
  · exact ⟨none, 0, by rw [h0], by omega, Nat.zero_le _, fun h => absurd h (by omega)⟩
  · refine ⟨_, cap, rfl, hnc, hcm, fun h0 => ⟨g, 0, rfl, (Array.getElem?_eq_some_iff.1 hg).1, fun k hk j hj => ?_⟩⟩
    have hcell := h.cellAt (k * S.size + j) (by
      have : (k + 1) * S.size ≤ es.length * S.size := Nat.mul_le_mul_right _ hk
      rw [Nat.add_mul] at this
      omega)
    rw [Nat.zero_add, hcell, Shape.flat_at es k j hk hj]
end

/-- What is left of a law's allowance behind a slice of n elements. -/
def szI (left : Int) (n : Nat) : Int := if left - (n : Int) < 0 then -1 else left - n
theorem szI_neg {left : Int} {n : Nat} (h : left < n) : szI left n = -1 := by unfold szI; rw [if_pos (by omega)]
theorem szI_pos {left : Int} {n : Nat} (h : (n : Int) ≤ left) : szI left n = left - n := by unfold szI; rw [if_neg (by omega)]

/-! ### Marks: what a law writes into a slice to see whether memory is shared -/
def marks (k : Int) (m : Nat) : List Value := (List.range m).map fun p : Nat => .int .i64 (k + (p : Int))
theorem length_marks (k : Int) (m : Nat) : (marks k m).length = m := by simp [marks]
theorem marks_at (k : Int) (m p : Nat) (h : p < m) : (marks k m)[p]? = some (.int .i64 (k + p)) := by simp [marks, h]

/-- The first p cells are marked, the others are as they were. -/
def part (k : Int) (p : Nat) (xs : List Value) : List Value := marks k p ++ xs.drop p
theorem part_zero (k : Int) (xs : List Value) : part k 0 xs = xs := by simp [part, marks]
theorem part_all (k : Int) (xs : List Value) : part k xs.length xs = marks k xs.length := by simp [part]
theorem length_part (k : Int) (p : Nat) (xs : List Value) (h : p ≤ xs.length) : (part k p xs).length = xs.length := by simp [part, length_marks]; omega
theorem part_set (k : Int) (p : Nat) (xs : List Value) (h : p < xs.length) : (part k p xs).set p (.int .i64 (k + p)) = part k (p + 1) xs := by
  have e : ∀ u : Value, (xs.drop p).set 0 u = u :: xs.drop (p + 1) := fun u => by rw [List.drop_eq_getElem_cons h]; rfl
  unfold part
  rw [List.set_append_right _ _ (by rw [length_marks]; exact Nat.le_refl _), length_marks, Nat.sub_self, e]
  simp [marks, List.range_succ]


/-! ### Rows of the call's own -/
section
variable {w w' : World} {base : Nat} {e : TypeId} {size : Nat} {v : Value} {n : Nat} {xs : List Value}
/-- A row stays behind a call that left all that was there as it was. -/
theorem own_below (h : w.ownsRow base e size v n xs) (hb : Below w.heap.size w w') : w'.ownsRow base e size v n xs :=
  h.kept (row := none) ⟨hb.os, hb.tape, hb.output, hb.size, fun k hk _ => hb.block k hk⟩ (by cases hv : v.ownBlock <;> simp)
theorem own_mono {base' : Nat} (h : w.ownsRow base e size v n xs) (hb : base' ≤ base) : w.ownsRow base' e size v n xs := by
  refine ⟨h.1, ?_⟩
  rcases h.2 with h' | ⟨g, cap, cur, h1, h2, h3⟩
  · exact .inl h'
  · exact .inr ⟨g, cap, cur, h1, Nat.le_trans hb h2, h3⟩
theorem own_cell {g cap : Nat} (h : w.ownsRow base e size (.slice (some ⟨g, 0, none⟩) n cap) n xs) (j : Nat) (hj : j < n * size) : ∃ u, w.cell? ⟨g, j, none⟩ = some u := by
  have hl : j < xs.length := by rw [h.1]; exact hj
  exact ⟨xs[j], by rw [h.cellAt j hj, List.getElem?_eq_getElem hl]⟩
end

/-- Only block g, and what is new, has turned: one store more into g. -/
theorem only_cell {a w : World} {g j : Nat} {u : Value} (h : a.grownBy w (some g)) : a.grownBy (w.setCell ⟨g, j, none⟩ u) (some g) :=
  ⟨h.os, h.tape, h.output, by simpa [World.setCell] using h.size, fun i hi hne => (Below.heap_setCell w ⟨g, j, none⟩ u i (fun e => hne (by rw [e]))).trans (h.block i hi hne)⟩

/-! ### A block that is known whole -/
def Blk (w : World) (g : Nat) (t : TypeId) (cs : Array Value) : Prop := w.heap[g]? = some (.cells cs t (0, 0))
section
variable {w w' : World} {g : Nat} {t : TypeId} {cs : Array Value}
theorem Blk.lt (h : Blk w g t cs) : g < w.heap.size := (Array.getElem?_eq_some_iff.1 h).1
theorem Blk.cell (h : Blk w g t cs) (i : Nat) : w.cell? ⟨g, i, none⟩ = cs[i]? := cell_of_row w g i cs t (0, 0) h
theorem Blk.frozen (h : Blk w g t cs) (i : Nat) : w.frozen? ⟨g, i, none⟩ = false := by
  unfold Blk at h
  simp [World.frozen?, h]
theorem Blk.new (w : World) (t : TypeId) (cs : Array Value) : Blk (w.alloc (.cells cs t)) w.heap.size t cs := heap_alloc_new w _
theorem Blk.new1 (w : World) (o : Obj) (t : TypeId) (cs : Array Value) : Blk ((w.alloc o).alloc (.cells cs t)) (w.heap.size + 1) t cs := by
  have := Blk.new (w.alloc o) t cs
  rw [World.size_alloc] at this
  exact this
theorem Blk.alloc (h : Blk w g t cs) (o : Obj) : Blk (w.alloc o) g t cs := (Below.heap_alloc w o g h.lt).trans h
theorem Blk.drew (h : Blk w g t cs) : Blk w.drew g t cs := h
theorem Blk.set (h : Blk w g t cs) (i : Nat) (u : Value) : Blk (w.setCell ⟨g, i, none⟩ u) g t (cs.setIfInBounds i u) := by
  unfold Blk at h ⊢
  simp [World.setCell, Array.getElem?_modify, h]
theorem Blk.set2 {a0 a1 b0 b1 : Value} (h : Blk w g t #[a0, a1]) : Blk ((w.setCell ⟨g, 0, none⟩ b0).setCell ⟨g, 1, none⟩ b1) g t #[b0, b1] := by
  have q := ((h.set 0 b0).set 1 b1)
  simp only [List.setIfInBounds_toArray, List.set_cons_zero, List.set_cons_succ] at q
  exact q
theorem Blk.set3 {a0 a1 a2 b0 b1 b2 : Value} (h : Blk w g t #[a0, a1, a2]) : Blk (((w.setCell ⟨g, 0, none⟩ b0).setCell ⟨g, 1, none⟩ b1).setCell ⟨g, 2, none⟩ b2) g t #[b0, b1, b2] := by
  have q := (((h.set 0 b0).set 1 b1).set 2 b2)
  simp only [List.setIfInBounds_toArray, List.set_cons_zero, List.set_cons_succ] at q
  exact q
theorem Blk.set4 {a0 a1 a2 a3 b0 b1 b2 b3 : Value} (h : Blk w g t #[a0, a1, a2, a3]) : Blk ((((w.setCell ⟨g, 0, none⟩ b0).setCell ⟨g, 1, none⟩ b1).setCell ⟨g, 2, none⟩ b2).setCell ⟨g, 3, none⟩ b3) g t #[b0, b1, b2, b3] := by
  have q := ((((h.set 0 b0).set 1 b1).set 2 b2).set 3 b3)
  simp only [List.setIfInBounds_toArray, List.set_cons_zero, List.set_cons_succ] at q
  exact q
theorem Blk.set5 {a0 a1 a2 a3 a4 b0 b1 b2 b3 b4 : Value} (h : Blk w g t #[a0, a1, a2, a3, a4]) : Blk (((((w.setCell ⟨g, 0, none⟩ b0).setCell ⟨g, 1, none⟩ b1).setCell ⟨g, 2, none⟩ b2).setCell ⟨g, 3, none⟩ b3).setCell ⟨g, 4, none⟩ b4) g t #[b0, b1, b2, b3, b4] := by
  have q := (((((h.set 0 b0).set 1 b1).set 2 b2).set 3 b3).set 4 b4)
  simp only [List.setIfInBounds_toArray, List.set_cons_zero, List.set_cons_succ] at q
  exact q
theorem Blk.set7 {a0 a1 a2 a3 a4 a5 a6 b0 b1 b2 b3 b4 b5 b6 : Value} (h : Blk w g t #[a0, a1, a2, a3, a4, a5, a6]) : Blk (((((((w.setCell ⟨g, 0, none⟩ b0).setCell ⟨g, 1, none⟩ b1).setCell ⟨g, 2, none⟩ b2).setCell ⟨g, 3, none⟩ b3).setCell ⟨g, 4, none⟩ b4).setCell ⟨g, 5, none⟩ b5).setCell ⟨g, 6, none⟩ b6) g t #[b0, b1, b2, b3, b4, b5, b6] := by
  have q := (((((((h.set 0 b0).set 1 b1).set 2 b2).set 3 b3).set 4 b4).set 5 b5).set 6 b6)
  simp only [List.setIfInBounds_toArray, List.set_cons_zero, List.set_cons_succ] at q
  exact q
theorem Blk.far (h : Blk w g t cs) {p : Addr} (hp : g ≠ p.block) (u : Value) : Blk (w.setCell p u) g t cs := (Below.heap_setCell w p u g hp).trans h
theorem Blk.below {B : Nat} (h : Blk w g t cs) (hb : Below B w w') (hg : g < B) : Blk w' g t cs := (hb.block g hg).trans h
theorem Blk.on (h : Blk w g t cs) (hb : Below w.heap.size w w') : Blk w' g t cs := h.below hb h.lt
end

/-- The first p of F, the others of Z. -/
def mix (F Z : List Value) (p : Nat) : List Value := F.take p ++ Z.drop p
theorem mix_zero (F Z : List Value) : mix F Z 0 = Z := by simp [mix]
theorem mix_all (F Z : List Value) (h : Z.length = F.length) : mix F Z F.length = F := by
  unfold mix
  rw [List.take_length, List.drop_eq_nil_of_le (Nat.le_of_eq h), List.append_nil]
theorem mix_set {F Z : List Value} {p : Nat} {u : Value} (hl : Z.length = F.length) (h : F[p]? = some u) : (mix F Z p).set p u = mix F Z (p + 1) := by
  have hp : p < F.length := (List.getElem?_eq_some_iff.1 h).1
  have hu : F[p] = u := (List.getElem?_eq_some_iff.1 h).2
  have e : (Z.drop p).set 0 u = u :: Z.drop (p + 1) := by rw [List.drop_eq_getElem_cons (by omega)]; rfl
  have e2 : F.take (p + 1) = F.take p ++ [u] := by rw [List.take_succ_eq_append_getElem hp, hu]
  unfold mix
  rw [List.set_append_right _ _ (by rw [List.length_take]; omega), List.length_take, Nat.min_eq_left (by omega), Nat.sub_self, e, e2, List.append_assoc]
  rfl
end
section
open Go Go.RowKit

structure Cu where
  a : Int
  b : Int
  deriving DecidableEq
structure En where
  a : Int
  b : Int
  lo : Int
  hi : Int
  to : Int
  deriving DecidableEq
structure Rp where
  tm : Int
  mc : Int
  a : Int
  b : Int
  lo : Int
  hi : Int
  to : Int
  deriving DecidableEq

def cuS : Shape Cu := ⟨2, fun e j => match j with | 0 => .int .i64 e.a | _ => .int .i64 e.b, ⟨0, 0⟩⟩
def enS : Shape En := ⟨5, fun e j => match j with | 0 => .int .i64 e.a | 1 => .int .i64 e.b | 2 => .int .i64 e.lo | 3 => .int .i64 e.hi | _ => .int .i64 e.to, ⟨0, 0, 0, 0, 0⟩⟩
def rpS : Shape Rp := ⟨7, fun e j => match j with | 0 => .int .i64 e.tm | 1 => .int .i64 e.mc | 2 => .int .i64 e.a | 3 => .int .i64 e.b | 4 => .int .i64 e.lo | 5 => .int .i64 e.hi | _ => .int .i64 e.to, ⟨0, 0, 0, 0, 0, 0, 0⟩⟩
structure Pt where
  x : Int
  y : Int
  e : Int
  deriving DecidableEq
def ptS : Shape Pt := ⟨3, fun e j => match j with | 0 => .int .i64 e.x | 1 => .int .i64 e.y | _ => .int .i64 e.e, ⟨0, 0, 0⟩⟩
def inS : Shape Int := ⟨1, fun e _ => .int .i64 e, 0⟩

/-- The cells of the k-th element, one by one. -/
theorem cu_cells {w : World} {g off n : Nat} {es : List Cu} (h : ∀ k, k < n → ∀ j, j < cuS.size → w.cell? ⟨g, off + k * cuS.size + j, none⟩ = some (cuS.cell (cuS.get es k) j)) (k : Nat) (hk : k < n) :
    w.cell? ⟨g, off + k * 2, none⟩ = some (.int .i64 (cuS.get es k).a) ∧ w.cell? ⟨g, off + k * 2 + 1, none⟩ = some (.int .i64 (cuS.get es k).b) :=
  ⟨h k hk 0 (by decide), h k hk 1 (by decide)⟩
theorem en_cells {w : World} {g off n : Nat} {es : List En} (h : ∀ k, k < n → ∀ j, j < enS.size → w.cell? ⟨g, off + k * enS.size + j, none⟩ = some (enS.cell (enS.get es k) j)) (k : Nat) (hk : k < n) :
    w.cell? ⟨g, off + k * 5, none⟩ = some (.int .i64 (enS.get es k).a) ∧ w.cell? ⟨g, off + k * 5 + 1, none⟩ = some (.int .i64 (enS.get es k).b) ∧ w.cell? ⟨g, off + k * 5 + 2, none⟩ = some (.int .i64 (enS.get es k).lo) ∧
      w.cell? ⟨g, off + k * 5 + 3, none⟩ = some (.int .i64 (enS.get es k).hi) ∧ w.cell? ⟨g, off + k * 5 + 4, none⟩ = some (.int .i64 (enS.get es k).to) :=
  ⟨h k hk 0 (by decide), h k hk 1 (by decide), h k hk 2 (by decide), h k hk 3 (by decide), h k hk 4 (by decide)⟩
theorem pt_cells {w : World} {g off n : Nat} {es : List Pt} (h : ∀ k, k < n → ∀ j, j < ptS.size → w.cell? ⟨g, off + k * ptS.size + j, none⟩ = some (ptS.cell (ptS.get es k) j)) (k : Nat) (hk : k < n) :
    w.cell? ⟨g, off + k * 3, none⟩ = some (.int .i64 (ptS.get es k).x) ∧ w.cell? ⟨g, off + k * 3 + 1, none⟩ = some (.int .i64 (ptS.get es k).y) ∧ w.cell? ⟨g, off + k * 3 + 2, none⟩ = some (.int .i64 (ptS.get es k).e) :=
  ⟨h k hk 0 (by decide), h k hk 1 (by decide), h k hk 2 (by decide)⟩
theorem rp_cells {w : World} {g off n : Nat} {es : List Rp} (h : ∀ k, k < n → ∀ j, j < rpS.size → w.cell? ⟨g, off + k * rpS.size + j, none⟩ = some (rpS.cell (rpS.get es k) j)) (k : Nat) (hk : k < n) :
    w.cell? ⟨g, off + k * 7, none⟩ = some (.int .i64 (rpS.get es k).tm) ∧ w.cell? ⟨g, off + k * 7 + 1, none⟩ = some (.int .i64 (rpS.get es k).mc) ∧ w.cell? ⟨g, off + k * 7 + 2, none⟩ = some (.int .i64 (rpS.get es k).a) ∧
      w.cell? ⟨g, off + k * 7 + 3, none⟩ = some (.int .i64 (rpS.get es k).b) ∧ w.cell? ⟨g, off + k * 7 + 4, none⟩ = some (.int .i64 (rpS.get es k).lo) ∧ w.cell? ⟨g, off + k * 7 + 5, none⟩ = some (.int .i64 (rpS.get es k).hi) ∧
      w.cell? ⟨g, off + k * 7 + 6, none⟩ = some (.int .i64 (rpS.get es k).to) :=
  ⟨h k hk 0 (by decide), h k hk 1 (by decide), h k hk 2 (by decide), h k hk 3 (by decide), h k hk 4 (by decide), h k hk 5 (by decide), h k hk 6 (by decide)⟩
theorem in_cells {w : World} {g off n : Nat} {es : List Int} (h : ∀ k, k < n → ∀ j, j < inS.size → w.cell? ⟨g, off + k * inS.size + j, none⟩ = some (inS.cell (inS.get es k) j)) (k : Nat) (hk : k < n) :
    w.cell? ⟨g, off + k, none⟩ = some (.int .i64 (inS.get es k)) := by
  have := h k hk 0 (by decide)
  simpa [inS] using this

/-! ### Curves, entries, reports -/
def insB (n lo hi : Int) : Bool := decide (lo ≤ n ∧ n ≤ hi)
theorem insB_true {n lo hi : Int} (h : insB n lo hi = true) : lo ≤ n ∧ n ≤ hi := by simpa [insB] using h
theorem insB_mk {n lo hi : Int} (h1 : lo ≤ n) (h2 : n ≤ hi) : insB n lo hi = true := by simp [insB, h1, h2]
def coreI (a b : Int) : Int := 4 * a * a * a + 27 * b * b
def curveB (a b : Int) : Bool := insB a (-1000) 1000 && (insB b (-10000) 10000 && coreI a b != 0)
def entB (a b lo hi to : Int) : Bool := curveB a b && decide (0 ≤ lo ∧ lo ≤ hi ∧ hi ≤ 20 ∧ 0 ≤ to ∧ to ≤ 16)
def recB (a b lo hi : Int) : Bool := curveB a b && decide (0 ≤ lo ∧ lo ≤ hi ∧ hi ≤ 20)
def repB (tm mc a b lo hi to : Int) : Bool := decide (0 ≤ tm ∧ tm ≤ 1000000 ∧ 1 ≤ mc ∧ mc ≤ 9) && entB a b lo hi to
def cmpI (x y : Int) : Int := if x < y then -1 else if y < x then 1 else 0
def cmpC (a b c d : Int) : Int := if a = c then cmpI b d else cmpI a c

theorem curveB_bd {a b : Int} (h : curveB a b = true) : (-1000 ≤ a ∧ a ≤ 1000) ∧ (-10000 ≤ b ∧ b ≤ 10000) := by
  unfold curveB at h
  simp only [Bool.and_eq_true] at h
  exact ⟨insB_true h.1, insB_true h.2.1⟩
theorem entB_curve {a b lo hi to : Int} (h : entB a b lo hi to = true) : curveB a b = true := by
  unfold entB at h
  simp only [Bool.and_eq_true] at h
  exact h.1
theorem entB_bd {a b lo hi to : Int} (h : entB a b lo hi to = true) : 0 ≤ lo ∧ lo ≤ hi ∧ hi ≤ 20 ∧ 0 ≤ to ∧ to ≤ 16 := by
  unfold entB at h
  simp only [Bool.and_eq_true, decide_eq_true_eq] at h
  exact h.2
theorem repB_ent {tm mc a b lo hi to : Int} (h : repB tm mc a b lo hi to = true) : entB a b lo hi to = true := by
  unfold repB at h
  simp only [Bool.and_eq_true] at h
  exact h.2
theorem repB_bd {tm mc a b lo hi to : Int} (h : repB tm mc a b lo hi to = true) : 0 ≤ tm ∧ tm ≤ 1000000 ∧ 1 ≤ mc ∧ mc ≤ 9 := by
  unfold repB at h
  simp only [Bool.and_eq_true, decide_eq_true_eq] at h
  exact h.1
theorem cmpI_bd (x y : Int) : -1 ≤ cmpI x y ∧ cmpI x y ≤ 1 := by unfold cmpI; split <;> (try split) <;> omega
theorem cmpC_bd (a b c d : Int) : -1 ≤ cmpC a b c d ∧ cmpC a b c d ≤ 1 := by unfold cmpC; split <;> exact cmpI_bd _ _
theorem cmpI_lt (x y : Int) : cmpI x y < 0 ↔ x < y := by unfold cmpI; split <;> (try split) <;> omega
theorem cmpI_eq (x y : Int) : cmpI x y = 0 ↔ x = y := by unfold cmpI; split <;> (try split) <;> omega
theorem cmpC_lt (a b c d : Int) : cmpC a b c d < 0 ↔ (a < c ∨ a = c ∧ b < d) := by
  unfold cmpC
  split
  · rw [cmpI_lt]; omega
  · rw [cmpI_lt]; omega
theorem cmpC_eq (a b c d : Int) : cmpC a b c d = 0 ↔ (a = c ∧ b = d) := by
  unfold cmpC
  split
  · rw [cmpI_eq]; omega
  · rw [cmpI_eq]; omega

theorem mul_bd (a b m n : Int) (ha : -m ≤ a) (ha' : a ≤ m) (hb : -n ≤ b) (hb' : b ≤ n) : -(m * n) ≤ a * b ∧ a * b ≤ m * n := by
  have h1 : 0 ≤ (m - a) * (n + b) := Int.mul_nonneg (by omega) (by omega)
  have h2 : 0 ≤ (m + a) * (n - b) := Int.mul_nonneg (by omega) (by omega)
  have h3 : 0 ≤ (m - a) * (n - b) := Int.mul_nonneg (by omega) (by omega)
  have h4 : 0 ≤ (m + a) * (n + b) := Int.mul_nonneg (by omega) (by omega)
  simp only [Int.sub_mul, Int.mul_sub, Int.mul_add, Int.add_mul] at h1 h2 h3 h4
  omega

/-- The k-th entry is valid and behind the one before it. -/
def okAt (es : List En) (k : Nat) : Bool :=
  entB (enS.get es k).a (enS.get es k).b (enS.get es k).lo (enS.get es k).hi (enS.get es k).to &&
    (k == 0 || decide (cmpC (enS.get es (k - 1)).a (enS.get es (k - 1)).b (enS.get es k).a (enS.get es k).b < 0))
def catB (es : List En) : Bool := decide (es.length ≤ 12) && (List.range es.length).all (okAt es)
def okRAt (es : List Rp) (k : Nat) : Bool :=
  repB (rpS.get es k).tm (rpS.get es k).mc (rpS.get es k).a (rpS.get es k).b (rpS.get es k).lo (rpS.get es k).hi (rpS.get es k).to &&
    (k == 0 || decide (cmpC (rpS.get es (k - 1)).tm (rpS.get es (k - 1)).mc (rpS.get es k).tm (rpS.get es k).mc < 0))
def repsB (es : List Rp) : Bool := decide (es.length ≤ 20) && (List.range es.length).all (okRAt es)

theorem catB_false_at {es : List En} {k : Nat} (hk : k < es.length) (h : okAt es k = false) : catB es = false := by
  unfold catB
  have : (List.range es.length).all (okAt es) = false := by
    rw [List.all_eq_false]
    exact ⟨k, List.mem_range.2 hk, by simp [h]⟩
  rw [this, Bool.and_false]
theorem catB_long {es : List En} (h : 12 < es.length) : catB es = false := by
  unfold catB
  rw [decide_eq_false (by omega), Bool.false_and]
theorem catB_true {es : List En} (hl : es.length ≤ 12) (h : ∀ j, j < es.length → okAt es j = true) : catB es = true := by
  unfold catB
  have : (List.range es.length).all (okAt es) = true := by
    rw [List.all_eq_true]
    exact fun k hk => h k (List.mem_range.1 hk)
  rw [this, decide_eq_true hl]; rfl
theorem catB_spec {es : List En} (h : catB es = true) : es.length ≤ 12 ∧ ∀ k, k < es.length → okAt es k = true := by
  unfold catB at h
  simp only [Bool.and_eq_true, decide_eq_true_eq, List.all_eq_true, List.mem_range] at h
  exact h
theorem catB_all {es : List En} (h : ∀ j, j < es.length → okAt es j = true) : catB es = decide (es.length ≤ 12) := by
  by_cases hl : es.length ≤ 12
  · rw [catB_true hl h, decide_eq_true hl]
  · rw [catB_long (by omega), decide_eq_false hl]
theorem entB_cbd {a b lo hi to : Int} (h : entB a b lo hi to = true) : (-1000 ≤ a ∧ a ≤ 1000) ∧ (-10000 ≤ b ∧ b ≤ 10000) := curveB_bd (entB_curve h)
theorem repB_tbd {tm mc a b lo hi to : Int} (h : repB tm mc a b lo hi to = true) : (0 ≤ tm ∧ tm ≤ 1000000) ∧ (1 ≤ mc ∧ mc ≤ 9) := by
  obtain ⟨h1, h2, h3, h4⟩ := repB_bd h
  exact ⟨⟨h1, h2⟩, h3, h4⟩
theorem repsB_false_at {es : List Rp} {k : Nat} (hk : k < es.length) (h : okRAt es k = false) : repsB es = false := by
  unfold repsB
  have : (List.range es.length).all (okRAt es) = false := by
    rw [List.all_eq_false]
    exact ⟨k, List.mem_range.2 hk, by simp [h]⟩
  rw [this, Bool.and_false]
theorem repsB_long {es : List Rp} (h : 20 < es.length) : repsB es = false := by
  unfold repsB
  rw [decide_eq_false (by omega), Bool.false_and]
theorem repsB_true {es : List Rp} (hl : es.length ≤ 20) (h : ∀ j, j < es.length → okRAt es j = true) : repsB es = true := by
  unfold repsB
  have : (List.range es.length).all (okRAt es) = true := by
    rw [List.all_eq_true]
    exact fun k hk => h k (List.mem_range.1 hk)
  rw [this, decide_eq_true hl]; rfl
theorem repsB_all {es : List Rp} (h : ∀ j, j < es.length → okRAt es j = true) : repsB es = decide (es.length ≤ 20) := by
  by_cases hl : es.length ≤ 20
  · rw [repsB_true hl h, decide_eq_true hl]
  · rw [repsB_long (by omega), decide_eq_false hl]
theorem repsB_spec {es : List Rp} (h : repsB es = true) : es.length ≤ 20 ∧ ∀ k, k < es.length → okRAt es k = true := by
  unfold repsB at h
  simp only [Bool.and_eq_true, decide_eq_true_eq, List.all_eq_true, List.mem_range] at h
  exact h
end
section
open Go Go.RowKit

set_option maxHeartbeats 400000 in
theorem inside_any (n lo hi : Int) (w : World) :
    Calls Tryz.prog 81 #[.int .i64 n, .int .i64 lo, .int .i64 hi] w fun e w' => e = .returned (.bool (insB n lo hi)) ∧ w = w' := by
  go_enter Tryz.func81, Tryz.ntmps81
  go_wp2
  all_goals go_ret
  all_goals (refine ⟨?_, rfl⟩; simp [insB]; try omega)

set_option maxHeartbeats 400000 in
theorem l1In_any (n lo hi : Int) (w : World) :
    Calls Tryz.prog 96 #[.int .i64 n, .int .i64 lo, .int .i64 hi] w fun e w' => e = .returned (.bool (insB n lo hi)) ∧ w = w' := by
  go_enter Tryz.func96, Tryz.ntmps96
  go_wp2
  all_goals go_ret
  all_goals (refine ⟨?_, rfl⟩; simp [insB]; try omega)

theorem core_bds {a b : Int} (h1 : -1000 ≤ a) (h2 : a ≤ 1000) (h3 : -10000 ≤ b) (h4 : b ≤ 10000) :
    (-(4000 * 1000) ≤ 4 * a * a ∧ 4 * a * a ≤ 4000 * 1000) ∧ (-(4000000 * 1000) ≤ 4 * a * a * a ∧ 4 * a * a * a ≤ 4000000 * 1000) ∧ (-(270000 * 10000) ≤ 27 * b * b ∧ 27 * b * b ≤ 270000 * 10000) :=
  ⟨mul_bd (4 * a) a 4000 1000 (by omega) (by omega) h1 h2, mul_bd (4 * a * a) a 4000000 1000 (mul_bd (4 * a) a 4000 1000 (by omega) (by omega) h1 h2).1 (mul_bd (4 * a) a 4000 1000 (by omega) (by omega) h1 h2).2 h1 h2,
    mul_bd (27 * b) b 270000 10000 (by omega) (by omega) h3 h4⟩

set_option maxHeartbeats 400000 in
theorem core_any (a b : Int) (w : World) (h1 : -1000 ≤ a) (h2 : a ≤ 1000) (h3 : -10000 ≤ b) (h4 : b ≤ 10000) :
    Calls Tryz.prog 105 #[.agg #[.int .i64 a, .int .i64 b]] w fun e w' => e = .returned (.int .i64 (coreI a b)) ∧ Below w.heap.size w w' := by
  obtain ⟨⟨k11, k12⟩, ⟨k21, k22⟩, k31, k32⟩ := core_bds h1 h2 h3 h4
  go_enter Tryz.func105, Tryz.ntmps105
  go_wp2
  go_ret
  exact ⟨rfl, (Below.refl _ _).alloc (Nat.le_refl _) _⟩

set_option maxHeartbeats 400000 in
theorem ecDisc_any (a b : Int) (w : World) (h1 : -1000 ≤ a) (h2 : a ≤ 1000) (h3 : -10000 ≤ b) (h4 : b ≤ 10000) :
    Calls Tryz.prog 107 #[.agg #[.int .i64 a, .int .i64 b]] w fun e w' => e = .returned (.int .i64 (coreI a b)) ∧ Below w.heap.size w w' := by
  obtain ⟨⟨k11, k12⟩, ⟨k21, k22⟩, k31, k32⟩ := core_bds h1 h2 h3 h4
  go_enter Tryz.func107, Tryz.ntmps107
  go_wp2
  go_ret
  exact ⟨rfl, (Below.refl _ _).alloc (Nat.le_refl _) _⟩

set_option maxHeartbeats 400000 in
theorem isCurve_any (a b : Int) (w : World) :
    Calls Tryz.prog 44 #[.agg #[.int .i64 a, .int .i64 b]] w fun e w' => e = .returned (.bool (curveB a b)) ∧ Below w.heap.size w w' := by
  cases ha : insB a (-1000) 1000
  · go_enter Tryz.func44, Tryz.ntmps44
    go_wp2_with (go_at_call 81; refine (inside_any _ _ _ _).mono ?_; rintro e w' ⟨rfl, rfl⟩)
    go_ret
    refine ⟨by simp [curveB, ha], (Below.refl _ _).alloc (Nat.le_refl _) _⟩
  · cases hb : insB b (-10000) 10000
    · go_enter Tryz.func44, Tryz.ntmps44
      go_wp2_with (go_at_call 81; refine (inside_any _ _ _ _).mono ?_; rintro e w' ⟨rfl, rfl⟩)
      go_ret
      refine ⟨by simp [curveB, ha, hb], (Below.refl _ _).alloc (Nat.le_refl _) _⟩
    · have h1 := insB_true ha
      have h2 := insB_true hb
      go_enter Tryz.func44, Tryz.ntmps44
      go_wp2_with (first | (go_at_call 81; refine (inside_any _ _ _ _).mono ?_; rintro e w' ⟨rfl, rfl⟩) | (go_at_call 105; refine (core_any _ _ _ h1.1 h1.2 h2.1 h2.2).mono ?_; rintro e w' ⟨rfl, hb1⟩))
      go_ret
      exact ⟨by simp [curveB, ha, hb], ((Below.refl _ _).alloc (Nat.le_refl _) _).trans (hb1.mono (by simp))⟩

set_option maxHeartbeats 400000 in
theorem ecGood_any (a b : Int) (w : World) :
    Calls Tryz.prog 51 #[.agg #[.int .i64 a, .int .i64 b]] w fun e w' => e = .returned (.bool (curveB a b)) ∧ Below w.heap.size w w' := by
  cases ha : insB a (-1000) 1000
  · go_enter Tryz.func51, Tryz.ntmps51
    go_wp2_with (go_at_call 96; refine (l1In_any _ _ _ _).mono ?_; rintro e w' ⟨rfl, rfl⟩)
    go_ret
    refine ⟨by simp [curveB, ha], (Below.refl _ _).alloc (Nat.le_refl _) _⟩
  · cases hb : insB b (-10000) 10000
    · go_enter Tryz.func51, Tryz.ntmps51
      go_wp2_with (go_at_call 96; refine (l1In_any _ _ _ _).mono ?_; rintro e w' ⟨rfl, rfl⟩)
      go_ret
      refine ⟨by simp [curveB, ha, hb], (Below.refl _ _).alloc (Nat.le_refl _) _⟩
    · have h1 := insB_true ha
      have h2 := insB_true hb
      go_enter Tryz.func51, Tryz.ntmps51
      go_wp2_with (first | (go_at_call 96; refine (l1In_any _ _ _ _).mono ?_; rintro e w' ⟨rfl, rfl⟩) | (go_at_call 107; refine (ecDisc_any _ _ _ h1.1 h1.2 h2.1 h2.2).mono ?_; rintro e w' ⟨rfl, hb1⟩))
      go_ret
      exact ⟨by simp [curveB, ha, hb], ((Below.refl _ _).alloc (Nat.le_refl _) _).trans (hb1.mono (by simp))⟩

theorem entB_parts (a b lo hi to : Int) : entB a b lo hi to = (curveB a b && (insB lo 0 hi && (decide (hi ≤ 20) && insB to 0 16))) := by
  unfold entB insB
  cases curveB a b
  · simp
  · simp only [Bool.true_and]; rw [Bool.eq_iff_iff]; simp only [Bool.and_eq_true, decide_eq_true_eq]; omega
theorem entB_partsS (a b lo hi to : Int) : entB a b lo hi to = (curveB a b && (insB hi 0 20 && (insB lo 0 hi && insB to 0 16))) := by
  unfold entB insB
  cases curveB a b
  · simp
  · simp only [Bool.true_and]; rw [Bool.eq_iff_iff]; simp only [Bool.and_eq_true, decide_eq_true_eq]; omega

set_option maxHeartbeats 800000 in
theorem isEntry_any (a b lo hi to : Int) (w : World) :
    Calls Tryz.prog 84 #[.agg #[.int .i64 a, .int .i64 b, .int .i64 lo, .int .i64 hi, .int .i64 to]] w fun e w' => e = .returned (.bool (entB a b lo hi to)) ∧ Below w.heap.size w w' := by
  rw [entB_parts]
  go_enter Tryz.func84, Tryz.ntmps84
  go_wp2_with (first | (go_at_call 44; refine (isCurve_any _ _ _).mono ?_; rintro e w' ⟨rfl, hb1⟩; obtain ⟨hc1, hf1⟩ := bcell hb1) | (go_at_call 81; refine (inside_any _ _ _ _).mono ?_; rintro e w' ⟨rfl, rfl⟩))
  all_goals go_ret
  all_goals exact ⟨by simp [*] <;> (intros; omega), ((Below.refl _ _).alloc (Nat.le_refl _) _).trans (hb1.mono (by simp))⟩

theorem implIsEntry_any (a b lo hi to : Int) (w : World) :
    Calls Tryz.prog 41 #[.agg #[.int .i64 a, .int .i64 b, .int .i64 lo, .int .i64 hi, .int .i64 to]] w fun e w' => e = .returned (.bool (entB a b lo hi to)) ∧ Below w.heap.size w w' := by
  go_enter Tryz.func41, Tryz.ntmps41
  go_wp2_with (go_at_call 84; refine (isEntry_any _ _ _ _ _ _).mono ?_; rintro e w' ⟨rfl, hb1⟩)
  go_ret
  exact ⟨rfl, ((Below.refl _ _).alloc (Nat.le_refl _) _).trans (hb1.mono (by simp))⟩
end
section
open Go Go.RowKit



set_option maxHeartbeats 400000 in
theorem l1Sign_any (n : Int) (w : World) :
    Calls Tryz.prog 189 #[.int .i64 n] w fun e w' => e = .returned (.int .i64 (cmpI n 0)) ∧ w = w' := by
  go_enter Tryz.func189, Tryz.ntmps189
  go_wp2
  all_goals go_ret
  all_goals (refine ⟨?_, rfl⟩; unfold cmpI; simp <;> (first | omega | (repeat split) <;> omega))
theorem cmpI_sub (x y : Int) : cmpI (x - y) 0 = cmpI x y := by unfold cmpI; repeat' split
                                                               all_goals omega

set_option maxHeartbeats 400000 in
theorem cmpCompare_any (x y : Int) (w : World) :
    Calls Tryz.prog 160 #[.int .i64 x, .int .i64 y] w fun e w' => e = .returned (.int .i64 (cmpI x y)) ∧ w = w' := by
  go_enter Tryz.func160, Tryz.ntmps160
  go_wp2
  all_goals go_ret
  all_goals (refine ⟨?_, rfl⟩; unfold cmpI; simp <;> (first | omega | (repeat split) <;> omega))

/-- What cmp.Or makes of two numbers. -/
def or2 (x y : Int) : Int := if x = 0 then y else x
theorem or2_cmp (a b c d : Int) : or2 (cmpI a c) (cmpI b d) = cmpC a b c d := by
  unfold or2 cmpC
  by_cases h : a = c
  · rw [if_pos ((cmpI_eq a c).2 h), if_pos h]
  · rw [if_neg (fun e => h ((cmpI_eq a c).1 e)), if_neg h]
theorem int_info : (Tryz.prog.info? 3).map (fun i => (i.zero, i.size, i.bytes)) = some (some (.int .i64 0), 1, 8) := by kernel_rfl

set_option maxHeartbeats 400000 in
/-- cmp.Or of two numbers that lie in a block. -/
theorem cmpOr_two (g c : Nat) (x y : Int) (w : World) (h0 : w.cell? ⟨g, 0, none⟩ = some (.int .i64 x)) (h1 : w.cell? ⟨g, 1, none⟩ = some (.int .i64 y)) :
    Calls Tryz.prog 159 #[.slice (some ⟨g, 0, none⟩) 2 c] w fun e w' => e = .returned (.int .i64 (or2 x y)) ∧ w = w' := by
  by_cases hx : x = 0
  · subst hx
    by_cases hy : y = 0
    · subst hy
      go_enter Tryz.func159, Tryz.ntmps159
      go_wp2
      refine wp_loop_rounds 3 ?_
      rw [rounds_succ]
      go_wp2
      rw [rounds_succ]
      go_wp2
      rw [rounds_succ]
      go_wp2
      go_ret
      exact ⟨rfl, rfl⟩
    · have hy' : (y != 0) = true := by simp [hy]
      clear hy
      go_enter Tryz.func159, Tryz.ntmps159
      go_wp2
      refine wp_loop_rounds 3 ?_
      rw [rounds_succ]
      go_wp2
      rw [rounds_succ]
      go_wp2
      go_ret
      exact ⟨rfl, rfl⟩
  · have hx' : (x != 0) = true := by simp [hx]
    have e : or2 x y = x := by unfold or2; rw [if_neg hx]
    rw [e]
    clear hx e
    go_enter Tryz.func159, Tryz.ntmps159
    go_wp2
    refine wp_loop_rounds 3 ?_
    rw [rounds_succ]
    go_wp2
    go_ret
    exact ⟨rfl, rfl⟩
set_option maxHeartbeats 800000 in
theorem compareCurves_any (a b c d : Int) (w : World) :
    Calls Tryz.prog 110 #[.agg #[.int .i64 a, .int .i64 b], .agg #[.int .i64 c, .int .i64 d]] w fun e w' => e = .returned (.int .i64 (cmpC a b c d)) ∧ Below w.heap.size w w' := by
  go_enter Tryz.func110, Tryz.ntmps110
  go_wp2
  go_region_held3 (fun w' => w'.cell? ⟨w.heap.size, 0, none⟩ = some (.int .i64 a) ∧ w'.cell? ⟨w.heap.size, 1, none⟩ = some (.int .i64 b) ∧ w'.cell? ⟨w.heap.size + 1, 0, none⟩ = some (.int .i64 c) ∧ w'.cell? ⟨w.heap.size + 1, 1, none⟩ = some (.int .i64 d)) (simp [go_sem, World.cell?_alloc_past])
    (first
      | (go_at_call 160; refine (cmpCompare_any _ _ _).mono ?_; rintro e w' ⟨rfl, rfl⟩)
      | (go_at_call 159; refine (cmpOr_two _ _ (cmpI a c) (cmpI b d) _ ?_ ?_).mono ?_; (simp [go_sem]); (simp [go_sem]); rintro e w' ⟨rfl, rfl⟩))
  all_goals go_wp2
  all_goals go_ret
  all_goals exact ⟨by rw [← or2_cmp]; rfl, by (repeat (with_reducible first | exact Below.refl _ _ | assumption | refine bal ?_ _ | refine bst ?_ (by simp <;> omega) _ | refine Below.drew ?_ | refine bthen ?_ (by assumption)))⟩
end
section
open Go Go.RowKit

def gcdI (a b : Int) : Int := (Nat.gcd a.natAbs b.natAbs : Nat)
theorem gcdI_step (a b : Int) : gcdI b (a.tmod b) = gcdI a b := by
  unfold gcdI
  rw [Int.natAbs_tmod, Nat.gcd_comm, ← Nat.gcd_rec, Nat.gcd_comm]
theorem gcdI_zero (a : Int) : gcdI a 0 = max a (-a) := by unfold gcdI; simp; omega
theorem tmod_lt {a b : Int} (h : b ≠ 0) : (a.tmod b).natAbs < b.natAbs := by
  rw [Int.natAbs_tmod]
  exact Nat.mod_lt _ (by omega)

set_option maxHeartbeats 1600000 in
theorem gcd_any (a b : Int) (w : World) (ha : -1000000000000 ≤ a ∧ a ≤ 1000000000000) (hb : -1000000000000 ≤ b ∧ b ≤ 1000000000000) :
    Calls Tryz.prog 126 #[.int .i64 a, .int .i64 b] w fun e w' => e = .returned (.int .i64 (gcdI a b)) ∧ Below w.heap.size w w' := by
  generalize hG : gcdI a b = G
  replace hG := Lib.hid hG
  go_enter Tryz.func126, Tryz.ntmps126
  go_wp2
  go_loopw [0, 1] (fun s t wr => ∃ x y : Int, s = .int .i64 x ∧ t = .int .i64 y ∧ Hid (gcdI x y = G) ∧ -1000000000000 ≤ x ∧ x ≤ 1000000000000 ∧ -1000000000000 ≤ y ∧ y ≤ 1000000000000 ∧ Below w.heap.size w wr) (fun _ t _ => (intOf t).natAbs)
  case atStart => exact ⟨a, b, rfl, rfl, hG, ha.1, ha.2, hb.1, hb.2, Below.refl _ _⟩
  case round =>
    obtain ⟨x, y, rfl, rfl, Hg, hx1, hx2, hy1, hy2, hbw⟩ := hrel
    clear ha hb
    by_cases hy : y = 0
    · subst hy
      have hm := Lib.hid (show max x (-x) = G by rw [← gcdI_zero]; exact Hg.out)
      go_wp2
      all_goals go_ret
      all_goals exact ⟨ret_int (by have := hm.out; omega), hbw⟩
    · have hne : (y != 0) = true := by simp [hy]
      obtain ⟨z, hz⟩ : ∃ z, x.tmod y = z := ⟨_, rfl⟩
      have Hlt := Lib.hid (show z.natAbs < y.natAbs by rw [← hz]; exact tmod_lt hy)
      have Hg2 := Lib.hid (show gcdI y z = G by rw [← hz, gcdI_step]; exact Hg.out)
      have Hz := Lib.hid hz; clear hz
      go_wp2
      refine wp_region_tame (by kernel_rfl) (by kernel_rfl) (fun T _ W hT => ?_)
      have hcell := hT.cell
      repeat (go_big_quiet_step (fail))
      refine wpQuiet_nil ?_
      intro t
      clear hcell
      go_wp2
      go_roundw
      case rel => exact ⟨y, z, rfl, by rw [Hz.out], Hg2, hy1, hy2, by have := Hlt.out; omega, by have := Hlt.out; omega, bthen hbw (hT.below t)⟩
      case measure => have := Hlt.out; simp only [intOf, Hz.out]; omega
set_option maxHeartbeats 1600000 in
theorem bgCommon_any (a b : Int) (w : World) (ha : 0 ≤ a ∧ a ≤ 1000000000000) (hb : 0 ≤ b ∧ b ≤ 1000000000000) :
    Calls Tryz.prog 122 #[.int .i64 a, .int .i64 b] w fun e w' => e = .returned (.int .i64 (gcdI a b)) ∧ w = w' := by
  generalize hG : gcdI a b = G
  replace hG := Lib.hid hG
  go_enter Tryz.func122, Tryz.ntmps122
  go_wp2
  go_loop [0, 1] (fun s t => ∃ x y : Int, s = .int .i64 x ∧ t = .int .i64 y ∧ Hid (gcdI x y = G) ∧ 0 ≤ x ∧ x ≤ 1000000000000 ∧ 0 ≤ y ∧ y ≤ 1000000000000) (fun _ t => (intOf t).natAbs)
  case atStart => exact ⟨a, b, rfl, rfl, hG, ha.1, ha.2, hb.1, hb.2⟩
  case round =>
    obtain ⟨x, y, rfl, rfl, Hg, hx1, hx2, hy1, hy2⟩ := hrel
    clear ha hb
    by_cases hy : y = 0
    · subst hy
      have hm := Lib.hid (show x = G by have h := Hg.out; rw [gcdI_zero] at h; omega)
      go_wp2
      go_ret
      exact ⟨ret_int hm.out, rfl⟩
    · have hpos : 0 < y := by omega
      have Hlt := Lib.hid (show 0 ≤ x % y ∧ x % y < y from ⟨Int.emod_nonneg _ hy, Int.emod_lt_of_pos _ hpos⟩)
      have Hg2 := Lib.hid (show gcdI y (x % y) = G by rw [← Int.tmod_eq_emod_of_nonneg hx1, gcdI_step]; exact Hg.out)
      go_wp2
      go_round
      case rel => exact ⟨y, x % y, rfl, rfl, Hg2, hy1, hy2, Hlt.out.1, by have := Hlt.out; omega⟩
      case measure => have := Hlt.out; simp [intOf]; omega
theorem l1MostG_any (a b : Int) (w : World) : Calls Tryz.prog 152 #[.int .i64 a, .int .i64 b] w fun e w' => e = .returned (.int .i64 (max a b)) ∧ w = w' := by
  go_enter Tryz.func152, Tryz.ntmps152
  go_wp2
  all_goals go_ret
  all_goals exact ⟨ret_int (by omega), rfl⟩
theorem l1LeastG_any (a b : Int) (w : World) : Calls Tryz.prog 265 #[.int .i64 a, .int .i64 b] w fun e w' => e = .returned (.int .i64 (min a b)) ∧ w = w' := by
  go_enter Tryz.func265, Tryz.ntmps265
  go_wp2
  all_goals go_ret
  all_goals exact ⟨ret_int (by omega), rfl⟩
theorem l1Abs_any (a : Int) (w : World) (ha : -1000000000000 ≤ a ∧ a ≤ 1000000000000) : Calls Tryz.prog 123 #[.int .i64 a] w fun e w' => e = .returned (.int .i64 (max a (-a))) ∧ w = w' := by
  obtain ⟨h1, h2⟩ := ha
  go_enter Tryz.func123, Tryz.ntmps123
  go_wp2_with (go_at_call 152; refine (l1MostG_any _ _ _).mono ?_; rintro e w' ⟨rfl, rfl⟩)
  go_ret
  exact ⟨rfl, rfl⟩
end
section
open Go Go.RowKit

set_option maxHeartbeats 1600000 in
theorem gcdB_any (a b : Int) (w : World) (ha : -4000000000000000000 ≤ a ∧ a ≤ 4000000000000000000) (hb : -4000000000000000000 ≤ b ∧ b ≤ 4000000000000000000) :
    Calls Tryz.prog 126 #[.int .i64 a, .int .i64 b] w fun e w' => e = .returned (.int .i64 (gcdI a b)) ∧ Below w.heap.size w w' := by
  generalize hG : gcdI a b = G
  replace hG := Lib.hid hG
  go_enter Tryz.func126, Tryz.ntmps126
  go_wp2
  go_loopw [0, 1] (fun s t wr => ∃ x y : Int, s = .int .i64 x ∧ t = .int .i64 y ∧ Hid (gcdI x y = G) ∧ -4000000000000000000 ≤ x ∧ x ≤ 4000000000000000000 ∧ -4000000000000000000 ≤ y ∧ y ≤ 4000000000000000000 ∧ Below w.heap.size w wr) (fun _ t _ => (intOf t).natAbs)
  case atStart => exact ⟨a, b, rfl, rfl, hG, ha.1, ha.2, hb.1, hb.2, Below.refl _ _⟩
  case round =>
    obtain ⟨x, y, rfl, rfl, Hg, hx1, hx2, hy1, hy2, hbw⟩ := hrel
    clear ha hb
    by_cases hy : y = 0
    · subst hy
      have hm := Lib.hid (show max x (-x) = G by rw [← gcdI_zero]; exact Hg.out)
      go_wp2
      all_goals go_ret
      all_goals exact ⟨ret_int (by have := hm.out; omega), hbw⟩
    · have hne : (y != 0) = true := by simp [hy]
      obtain ⟨z, hz⟩ : ∃ z, x.tmod y = z := ⟨_, rfl⟩
      have Hlt := Lib.hid (show z.natAbs < y.natAbs by rw [← hz]; exact tmod_lt hy)
      have Hg2 := Lib.hid (show gcdI y z = G by rw [← hz, gcdI_step]; exact Hg.out)
      have Hz := Lib.hid hz; clear hz
      go_wp2
      refine wp_region_tame (by kernel_rfl) (by kernel_rfl) (fun T _ W hT => ?_)
      have hcell := hT.cell
      repeat (go_big_quiet_step (fail))
      refine wpQuiet_nil ?_
      intro t
      clear hcell
      go_wp2
      go_roundw
      case rel => exact ⟨y, z, rfl, by rw [Hz.out], Hg2, hy1, hy2, by have := Hlt.out; omega, by have := Hlt.out; omega, bthen hbw (hT.below t)⟩
      case measure => have := Hlt.out; simp only [intOf, Hz.out]; omega
set_option maxHeartbeats 1600000 in
theorem bgCommonB_any (a b : Int) (w : World) (ha : 0 ≤ a ∧ a ≤ 4000000000000000000) (hb : 0 ≤ b ∧ b ≤ 4000000000000000000) :
    Calls Tryz.prog 122 #[.int .i64 a, .int .i64 b] w fun e w' => e = .returned (.int .i64 (gcdI a b)) ∧ w = w' := by
  generalize hG : gcdI a b = G
  replace hG := Lib.hid hG
  go_enter Tryz.func122, Tryz.ntmps122
  go_wp2
  go_loop [0, 1] (fun s t => ∃ x y : Int, s = .int .i64 x ∧ t = .int .i64 y ∧ Hid (gcdI x y = G) ∧ 0 ≤ x ∧ x ≤ 4000000000000000000 ∧ 0 ≤ y ∧ y ≤ 4000000000000000000) (fun _ t => (intOf t).natAbs)
  case atStart => exact ⟨a, b, rfl, rfl, hG, ha.1, ha.2, hb.1, hb.2⟩
  case round =>
    obtain ⟨x, y, rfl, rfl, Hg, hx1, hx2, hy1, hy2⟩ := hrel
    clear ha hb
    by_cases hy : y = 0
    · subst hy
      have hm := Lib.hid (show x = G by have h := Hg.out; rw [gcdI_zero] at h; omega)
      go_wp2
      go_ret
      exact ⟨ret_int hm.out, rfl⟩
    · have hpos : 0 < y := by omega
      have Hlt := Lib.hid (show 0 ≤ x % y ∧ x % y < y from ⟨Int.emod_nonneg _ hy, Int.emod_lt_of_pos _ hpos⟩)
      have Hg2 := Lib.hid (show gcdI y (x % y) = G by rw [← Int.tmod_eq_emod_of_nonneg hx1, gcdI_step]; exact Hg.out)
      go_wp2
      go_round
      case rel => exact ⟨y, x % y, rfl, rfl, Hg2, hy1, hy2, Hlt.out.1, by have := Hlt.out; omega⟩
      case measure => have := Hlt.out; simp [intOf]; omega
theorem l1AbsB_any (a : Int) (w : World) (ha : -4000000000000000000 ≤ a ∧ a ≤ 4000000000000000000) : Calls Tryz.prog 123 #[.int .i64 a] w fun e w' => e = .returned (.int .i64 (max a (-a))) ∧ w = w' := by
  obtain ⟨h1, h2⟩ := ha
  go_enter Tryz.func123, Tryz.ntmps123
  go_wp2_with (go_at_call 152; refine (l1MostG_any _ _ _).mono ?_; rintro e w' ⟨rfl, rfl⟩)
  go_ret
  exact ⟨rfl, rfl⟩
end
section
open Go Go.RowKit

/-! ### Roots -/
def evZ (a b x : Int) : Int := x * x * x + a * x + b
def rootsF (a b lo : Int) (n : Nat) : List Int := ((List.range n).map (fun k : Nat => lo + (k : Int))).filter (fun x => evZ a b x == 0)
def rootsV (a b : Int) : List Int := rootsF a b (-100) 201
theorem rootsF_zero (a b lo : Int) : rootsF a b lo 0 = [] := rfl
theorem rootsF_succ (a b lo : Int) (n : Nat) : rootsF a b lo (n + 1) = rootsF a b lo n ++ (if evZ a b (lo + n) = 0 then [lo + (n : Int)] else []) := by
  unfold rootsF
  rw [List.range_succ, List.map_append, List.filter_append]
  congr 1
  simp only [List.map_cons, List.map_nil, List.filter_cons, List.filter_nil, beq_iff_eq]
theorem rootsF_yes {a b lo : Int} {n : Nat} (h : evZ a b (lo + n) = 0) : rootsF a b lo (n + 1) = rootsF a b lo n ++ [lo + (n : Int)] := by rw [rootsF_succ, if_pos h]
theorem rootsF_no {a b lo : Int} {n : Nat} (h : evZ a b (lo + n) ≠ 0) : rootsF a b lo (n + 1) = rootsF a b lo n := by rw [rootsF_succ, if_neg h, List.append_nil]
theorem rootsF_add (a b lo : Int) (m : Nat) : ∀ n, rootsF a b lo (m + n) = rootsF a b lo m ++ rootsF a b (lo + m) n
  | 0 => by rw [rootsF_zero, List.append_nil]; rfl
  | n + 1 => by
    rw [show m + (n + 1) = (m + n) + 1 from rfl, rootsF_succ, rootsF_succ, rootsF_add a b lo m n, List.append_assoc, Int.natCast_add, Int.add_assoc]
theorem rootsF_none (a b lo : Int) : ∀ n, (∀ k : Nat, k < n → evZ a b (lo + k) ≠ 0) → rootsF a b lo n = []
  | 0, _ => rfl
  | n + 1, h => by
    rw [rootsF_no (h n (by omega))]
    exact rootsF_none a b lo n (fun k hk => h k (by omega))
theorem rootsF_len (a b lo : Int) (n : Nat) : (rootsF a b lo n).length ≤ n := by
  unfold rootsF
  refine Nat.le_trans (List.length_filter_le _ _) ?_
  simp
theorem rootsF_mem {a b lo x : Int} {n : Nat} : x ∈ rootsF a b lo n ↔ (lo ≤ x ∧ x < lo + n) ∧ evZ a b x = 0 := by
  unfold rootsF
  rw [List.mem_filter]
  simp only [List.mem_map, List.mem_range, beq_iff_eq]
  constructor
  · rintro ⟨⟨k, hk, rfl⟩, h⟩
    exact ⟨⟨by omega, by omega⟩, h⟩
  · rintro ⟨⟨h1, h2⟩, h⟩
    exact ⟨⟨(x - lo).toNat, by omega, by omega⟩, h⟩
theorem ev_far {a b x : Int} (h : curveB a b = true) (hx : x < -100 ∨ 100 < x) : evZ a b x ≠ 0 := by
  obtain ⟨⟨ha1, ha2⟩, hb1, hb2⟩ := curveB_bd h
  unfold evZ
  rcases hx with hx | hx
  · have h0 : 101 * 101 ≤ (-x) * (-x) := Int.mul_le_mul (by omega) (by omega) (by omega) (by omega)
    rw [Int.neg_mul_neg] at h0
    have h1 : 0 ≤ (x * x - 10201) * (-x) := Int.mul_nonneg (by omega) (by omega)
    have h2 : 0 ≤ (a + 1000) * (-x) := Int.mul_nonneg (by omega) (by omega)
    simp only [Int.sub_mul, Int.add_mul, Int.mul_neg] at h1 h2
    omega
  · have h0 : 101 * 101 ≤ x * x := Int.mul_le_mul (by omega) (by omega) (by omega) (by omega)
    have h1 : 0 ≤ (x * x - 10201) * x := Int.mul_nonneg (by omega) (by omega)
    have h2 : 0 ≤ (a + 1000) * x := Int.mul_nonneg (by omega) (by omega)
    simp only [Int.sub_mul, Int.add_mul] at h1 h2
    omega
theorem roots_wide {a b : Int} (h : curveB a b = true) : rootsF a b (-200) 401 = rootsV a b := by
  have e1 : rootsF a b (-200) 401 = rootsF a b (-200) 100 ++ (rootsF a b (-100) 201 ++ rootsF a b 101 100) := by
    rw [show (401 : Nat) = 100 + (201 + 100) from rfl, rootsF_add, rootsF_add]; rfl
  rw [e1, rootsF_none a b (-200) 100 (fun k hk => ev_far h (by omega)), rootsF_none a b 101 100 (fun k hk => ev_far h (by omega))]
  simp [rootsV]
theorem roots_mem {a b x : Int} (h : curveB a b = true) : x ∈ rootsV a b ↔ evZ a b x = 0 := by
  unfold rootsV
  rw [rootsF_mem]
  refine ⟨fun h2 => h2.2, fun h2 => ⟨?_, h2⟩⟩
  refine ⟨?_, ?_⟩
  · rcases Int.lt_or_le x (-100) with h3 | h3
    · exact absurd h2 (ev_far h (.inl h3))
    · exact h3
  · rcases Int.lt_or_le 100 x with h3 | h3
    · exact absurd h2 (ev_far h (.inr h3))
    · omega
theorem root_bd {a b e : Int} (h : e ∈ rootsV a b) : -100 ≤ e ∧ e ≤ 100 := by
  unfold rootsV at h
  rw [rootsF_mem] at h
  omega
theorem root_ev {a b e : Int} (h : e ∈ rootsV a b) : evZ a b e = 0 := by
  unfold rootsV at h
  rw [rootsF_mem] at h
  exact h.2

/-! ### Division by u^4 and u^6 -/
def p4 (u : Int) : Int := u * u * u * u
def p6 (u : Int) : Int := u * u * u * u * u * u
def dvU (a b u : Int) : Bool := decide (p4 u ∣ a ∧ p6 u ∣ b)
def smU (a b : Int) : Int := if dvU a b 5 then 5 else if dvU a b 4 then 4 else if dvU a b 3 then 3 else if dvU a b 2 then 2 else 1
def smC (a b : Int) : Cu := ⟨a / p4 (smU a b), b / p6 (smU a b)⟩
theorem dvd_small {q a : Int} (h : q ∣ a) (hb : -q < a ∧ a < q) : a = 0 := by
  obtain ⟨k, rfl⟩ := h
  rcases Int.lt_trichotomy k 0 with hk | rfl | hk
  · have h1 : 0 ≤ q * (-1 - k) := Int.mul_nonneg (by omega) (by omega)
    simp only [Int.mul_sub, Int.mul_neg, Int.mul_one] at h1; omega
  · exact Int.mul_zero _
  · have h1 : 0 ≤ q * (k - 1) := Int.mul_nonneg (by omega) (by omega)
    simp only [Int.mul_sub, Int.mul_one] at h1; omega
theorem curveB_core {a b : Int} (h : curveB a b = true) : coreI a b ≠ 0 := by
  unfold curveB at h
  simp only [Bool.and_eq_true, bne_iff_ne, ne_eq] at h
  exact h.2.2
theorem curveB_mk {a b : Int} (h1 : -1000 ≤ a ∧ a ≤ 1000) (h2 : -10000 ≤ b ∧ b ≤ 10000) (h3 : coreI a b ≠ 0) : curveB a b = true := by
  unfold curveB
  rw [insB_mk h1.1 h1.2, insB_mk h2.1 h2.2]
  simpa using h3
theorem curveB_nz {a b : Int} (h : curveB a b = true) : ¬ (a = 0 ∧ b = 0) := by
  rintro ⟨rfl, rfl⟩
  exact curveB_core h (by rfl)
theorem dvU_big {a b u : Int} (h : curveB a b = true) (hu : 6 ≤ u) : dvU a b u = false := by
  obtain ⟨⟨ha1, ha2⟩, hb1, hb2⟩ := curveB_bd h
  unfold dvU
  rw [decide_eq_false_iff_not]
  rintro ⟨h4, h6⟩
  have e2 : 6 * 6 ≤ u * u := Int.mul_le_mul hu hu (by omega) (by omega)
  have e3 : 36 * 6 ≤ u * u * u := Int.mul_le_mul e2 hu (by omega) (by omega)
  have e4 : 216 * 6 ≤ u * u * u * u := Int.mul_le_mul e3 hu (by omega) (by omega)
  have e5 : 1296 * 6 ≤ u * u * u * u * u := Int.mul_le_mul e4 hu (by omega) (by omega)
  have e6 : 7776 * 6 ≤ u * u * u * u * u * u := Int.mul_le_mul e5 hu (by omega) (by omega)
  refine curveB_nz h ⟨dvd_small h4 ?_, dvd_small h6 ?_⟩
  · unfold p4; omega
  · unfold p6; omega
theorem dvU_one (a b : Int) : dvU a b 1 = true := by
  unfold dvU p4 p6
  exact decide_eq_true ⟨⟨a, by omega⟩, ⟨b, by omega⟩⟩
theorem smU_cases (a b : Int) : (smU a b = 1 ∧ dvU a b 2 = false ∧ dvU a b 3 = false ∧ dvU a b 4 = false ∧ dvU a b 5 = false) ∨ (smU a b = 2 ∧ dvU a b 2 = true ∧ dvU a b 3 = false ∧ dvU a b 4 = false ∧ dvU a b 5 = false) ∨
    (smU a b = 3 ∧ dvU a b 3 = true ∧ dvU a b 4 = false ∧ dvU a b 5 = false) ∨ (smU a b = 4 ∧ dvU a b 4 = true ∧ dvU a b 5 = false) ∨ (smU a b = 5 ∧ dvU a b 5 = true) := by
  unfold smU
  cases dvU a b 5 <;> cases dvU a b 4 <;> cases dvU a b 3 <;> cases dvU a b 2 <;> simp
/-- The greatest u that divides is the one. -/
theorem smU_max {a b u : Int} (h : curveB a b = true) (hd : dvU a b u = true) (hu : 1 ≤ u) (hm : ∀ v, u < v → v ≤ 10 → dvU a b v = false) (h10 : u ≤ 10) : smU a b = u := by
  have h5 : u ≤ 5 := by
    rcases Int.lt_or_le 5 u with h1 | h1
    · rw [dvU_big h (by omega)] at hd; cases hd
    · exact h1
  have hz : u = 1 ∨ u = 2 ∨ u = 3 ∨ u = 4 ∨ u = 5 := by omega
  unfold smU
  rcases hz with rfl | rfl | rfl | rfl | rfl
  · simp [hm 5 (by omega) (by omega), hm 4 (by omega) (by omega), hm 3 (by omega) (by omega), hm 2 (by omega) (by omega)]
  · simp [hm 5 (by omega) (by omega), hm 4 (by omega) (by omega), hm 3 (by omega) (by omega), hd]
  · simp [hm 5 (by omega) (by omega), hm 4 (by omega) (by omega), hd]
  · simp [hm 5 (by omega) (by omega), hd]
  · simp [hd]
/-- What the reference's loop has found before u. -/
def smB (a b : Int) : Nat → Int
  | 0 => 1
  | n + 1 => if dvU a b ((n : Int) + 2) then (n : Int) + 2 else smB a b n
theorem smB_all (a b : Int) : smB a b 4 = smU a b := by
  unfold smB smB smB smB smB smU
  simp only [show ((3 : Nat) : Int) + 2 = 5 from rfl, show ((2 : Nat) : Int) + 2 = 4 from rfl, show ((1 : Nat) : Int) + 2 = 3 from rfl, show ((0 : Nat) : Int) + 2 = 2 from rfl]
theorem smB_bd (a b : Int) : ∀ n, 1 ≤ smB a b n ∧ smB a b n ≤ (n : Int) + 1
  | 0 => by unfold smB; omega
  | n + 1 => by
    have := smB_bd a b n
    unfold smB
    split <;> omega
theorem smU_dv (a b : Int) : dvU a b (smU a b) = true := by
  rcases smU_cases a b with h | h | h | h | h
  · rw [h.1]; exact dvU_one a b
  · rw [h.1]; exact h.2.1
  · rw [h.1]; exact h.2.1
  · rw [h.1]; exact h.2.1
  · rw [h.1]; exact h.2
theorem smU_bd (a b : Int) : 1 ≤ smU a b ∧ smU a b ≤ 5 := by
  rcases smU_cases a b with h | h | h | h | h <;> (rw [h.1]; omega)
theorem dvd_div {q a : Int} (h : q ∣ a) : q * (a / q) = a := Int.mul_ediv_cancel' h
/-! ### Neighbours -/
def nbT (a e : Int) : Int := 3 * e * e + a
def rawA (a e : Int) : Int := a - 5 * nbT a e
def rawB (a b e : Int) : Int := b - 7 * e * nbT a e
theorem natAbs_div {q a : Int} (hq : 16 ≤ q) (h : q ∣ a) : (a / q).natAbs ≤ a.natAbs ∧ (a ≠ 0 → (a / q).natAbs < a.natAbs) := by
  obtain ⟨k, rfl⟩ := h
  rw [Int.mul_ediv_cancel_left _ (by omega), Int.natAbs_mul]
  have h1 : 16 ≤ q.natAbs := by omega
  constructor
  · exact Nat.le_trans (by omega) (Nat.mul_le_mul_right k.natAbs h1)
  · intro h2
    have h3 : k.natAbs ≠ 0 := by
      intro h3
      rw [Int.natAbs_eq_zero] at h3
      subst h3; exact h2 (Int.mul_zero _)
    exact Nat.lt_of_lt_of_le (by omega) (Nat.mul_le_mul_right k.natAbs h1)
theorem p4_ge {r : Int} (h : 2 ≤ r) : 16 ≤ p4 r := by
  have e2 : 2 * 2 ≤ r * r := Int.mul_le_mul h h (by omega) (by omega)
  have e3 : 4 * 2 ≤ r * r * r := Int.mul_le_mul e2 h (by omega) (by omega)
  exact Int.mul_le_mul e3 h (by omega) (by omega)
theorem p6_ge {r : Int} (h : 2 ≤ r) : 16 ≤ p6 r := by
  have e4 := p4_ge h
  unfold p4 at e4
  have e5 : 16 * 2 ≤ r * r * r * r * r := Int.mul_le_mul e4 h (by omega) (by omega)
  have e6 : 32 * 2 ≤ r * r * r * r * r * r := Int.mul_le_mul e5 h (by omega) (by omega)
  unfold p6; omega
theorem red_dec {r a b : Int} (h : 2 ≤ r ∧ ¬ (a = 0 ∧ b = 0) ∧ p4 r ∣ a ∧ p6 r ∣ b) : (a / p4 r).natAbs + (b / p6 r).natAbs < a.natAbs + b.natAbs := by
  obtain ⟨h1, h2, h3, h4⟩ := h
  have h5 := natAbs_div (p4_ge h1) h3
  have h6 := natAbs_div (p6_ge h1) h4
  by_cases ha : a = 0
  · have := h6.2 (fun hb => h2 ⟨ha, hb⟩); omega
  · have := h5.2 ha; omega
/-- Divided by r^4 and r^6 as often as that goes. -/
def red (r a b : Int) : Int × Int :=
  if _h : 2 ≤ r ∧ ¬ (a = 0 ∧ b = 0) ∧ p4 r ∣ a ∧ p6 r ∣ b then red r (a / p4 r) (b / p6 r) else (a, b)
termination_by a.natAbs + b.natAbs
decreasing_by exact red_dec _h
theorem red_step {r a b : Int} (h : 2 ≤ r ∧ ¬ (a = 0 ∧ b = 0) ∧ p4 r ∣ a ∧ p6 r ∣ b) : red r a b = red r (a / p4 r) (b / p6 r) := by
  rw [red, dif_pos h]
theorem red_end {r a b : Int} (h : ¬ (2 ≤ r ∧ ¬ (a = 0 ∧ b = 0) ∧ p4 r ∣ a ∧ p6 r ∣ b)) : red r a b = (a, b) := by
  rw [red, dif_neg h]
theorem div_nz {r a b : Int} (h : 2 ≤ r ∧ ¬ (a = 0 ∧ b = 0) ∧ p4 r ∣ a ∧ p6 r ∣ b) : ¬ (a / p4 r = 0 ∧ b / p6 r = 0) := by
  rintro ⟨h1, h2⟩
  refine h.2.1 ⟨?_, ?_⟩
  · rw [← dvd_div h.2.2.1, h1, Int.mul_zero]
  · rw [← dvd_div h.2.2.2, h2, Int.mul_zero]
theorem p4_mul (r s : Int) : p4 (r * s) = p4 r * p4 s := by unfold p4; simp only [Int.mul_comm, Int.mul_left_comm]
theorem p6_mul (r s : Int) : p6 (r * s) = p6 r * p6 s := by unfold p6; simp only [Int.mul_comm, Int.mul_left_comm]
/-- By how much it was divided. -/
theorem red_scale (r : Int) (hr : 2 ≤ r) : ∀ (n : Nat) (a b : Int), a.natAbs + b.natAbs ≤ n → ∃ k : Nat, a = p4 (r ^ k) * (red r a b).1 ∧ b = p6 (r ^ k) * (red r a b).2
  | 0, a, b, h => by
    have ha : a = 0 := by omega
    have hb : b = 0 := by omega
    subst ha; subst hb
    refine ⟨0, ?_, ?_⟩ <;> (rw [red_end (fun h => h.2.1 ⟨rfl, rfl⟩)]; simp)
  | n + 1, a, b, h => by
    by_cases hc : 2 ≤ r ∧ ¬ (a = 0 ∧ b = 0) ∧ p4 r ∣ a ∧ p6 r ∣ b
    · obtain ⟨k, h1, h2⟩ := red_scale r hr n (a / p4 r) (b / p6 r) (by have := red_dec hc; omega)
      refine ⟨k + 1, ?_, ?_⟩
      · rw [red_step hc, Int.pow_succ, p4_mul, Int.mul_comm (p4 (r ^ k)), Int.mul_assoc, ← h1, dvd_div hc.2.2.1]
      · rw [red_step hc, Int.pow_succ, p6_mul, Int.mul_comm (p6 (r ^ k)), Int.mul_assoc, ← h2, dvd_div hc.2.2.2]
    · refine ⟨0, ?_, ?_⟩ <;> (rw [red_end hc]; simp [p4, p6])
theorem red_nz (r : Int) (hr : 2 ≤ r) {a b : Int} (hz : ¬ (a = 0 ∧ b = 0)) : ¬ ((red r a b).1 = 0 ∧ (red r a b).2 = 0) := by
  obtain ⟨k, h1, h2⟩ := red_scale r hr _ a b (Nat.le_refl _)
  rintro ⟨h3, h4⟩
  exact hz ⟨by rw [h1, h3, Int.mul_zero], by rw [h2, h4, Int.mul_zero]⟩
theorem red_done (r : Int) (hr : 2 ≤ r) : ∀ (n : Nat) (a b : Int), a.natAbs + b.natAbs ≤ n → ¬ (a = 0 ∧ b = 0) → ¬ (p4 r ∣ (red r a b).1 ∧ p6 r ∣ (red r a b).2)
  | 0, a, b, h, hz => absurd ⟨by omega, by omega⟩ hz
  | n + 1, a, b, h, hz => by
    by_cases hc : 2 ≤ r ∧ ¬ (a = 0 ∧ b = 0) ∧ p4 r ∣ a ∧ p6 r ∣ b
    · rw [red_step hc]
      exact red_done r hr n _ _ (by have := red_dec hc; omega) (div_nz hc)
    · rw [red_end hc]
      exact fun h2 => hc ⟨hr, hz, h2⟩
theorem red_keep {q r a b : Int} (hr : 2 ≤ r) (h : ¬ (p4 q ∣ a ∧ p6 q ∣ b)) : ¬ (p4 q ∣ (red r a b).1 ∧ p6 q ∣ (red r a b).2) := by
  obtain ⟨k, h1, h2⟩ := red_scale r hr _ a b (Nat.le_refl _)
  rintro ⟨h3, h4⟩
  exact h ⟨by rw [h1]; exact Int.dvd_trans h3 ⟨p4 (r ^ k), Int.mul_comm _ _⟩, by rw [h2]; exact Int.dvd_trans h4 ⟨p6 (r ^ k), Int.mul_comm _ _⟩⟩
/-- What 2 does not divide any more, 4 does not. -/
theorem red_four {a b : Int} (h : ¬ (p4 2 ∣ a ∧ p6 2 ∣ b)) : red 4 a b = (a, b) := by
  refine red_end (fun h2 => h ⟨Int.dvd_trans ?_ h2.2.2.1, Int.dvd_trans ?_ h2.2.2.2⟩)
  · exact ⟨16, rfl⟩
  · exact ⟨64, rfl⟩
theorem raw_nz {a b e : Int} (h : curveB a b = true) (he : evZ a b e = 0) : ¬ (rawA a e = 0 ∧ rawB a b e = 0) := by
  rintro ⟨h1, h2⟩
  unfold rawA nbT at h1
  unfold rawB nbT at h2
  unfold evZ at he
  obtain ⟨q, hq⟩ : ∃ q, e * e = q := ⟨_, rfl⟩
  obtain ⟨c, hc⟩ : ∃ c, e * q = c := ⟨_, rfl⟩
  have ht : 3 * e * e + a = 3 * q + a := by rw [Int.mul_assoc, hq]
  rw [ht] at h1 h2
  rw [Int.mul_assoc, hq, hc] at he
  have e1 : 4 * (a * e) = -15 * c := by
    have : 4 * a = -15 * q := by omega
    have h3 : 4 * (a * e) = (4 * a) * e := (Int.mul_assoc _ _ _).symm
    rw [h3, this, Int.mul_assoc, Int.mul_comm q e, hc]
  have e2 : 4 * b = -21 * c := by
    have h3 : 4 * (7 * e * (3 * q + a)) = 7 * (e * (4 * (3 * q + a))) := by simp only [Int.mul_assoc, Int.mul_left_comm]
    have h4 : 4 * (3 * q + a) = -3 * q := by omega
    rw [h4] at h3
    have h5 : e * (-3 * q) = -3 * c := by rw [← hc]; simp only [Int.mul_left_comm]
    rw [h5] at h3
    omega
  have hc0 : c = 0 := by omega
  have he0 : e = 0 := by
    rcases Int.lt_trichotomy e 0 with h3 | h3 | h3
    · have hq0 : 0 < q := by rw [← hq]; exact Int.mul_pos_of_neg_of_neg h3 h3
      have := Int.mul_neg_of_neg_of_pos h3 hq0
      omega
    · exact h3
    · have hq0 : 0 < q := by rw [← hq]; exact Int.mul_pos h3 h3
      have := Int.mul_pos h3 hq0
      omega
  subst he0
  refine curveB_nz h ⟨?_, by omega⟩
  have : q = 0 := by rw [← hq]; rfl
  omega
theorem nbT_bd {a e : Int} (ha : -1000 ≤ a ∧ a ≤ 1000) (he : -100 ≤ e ∧ e ≤ 100) : -1000 ≤ nbT a e ∧ nbT a e ≤ 31000 := by
  have h1 := mul_bd e e 100 100 he.1 he.2 he.1 he.2
  have h2 : 0 ≤ e * e := by
    rcases Int.le_total 0 e with h | h
    · exact Int.mul_nonneg h h
    · exact Int.mul_nonneg_of_nonpos_of_nonpos h h
  unfold nbT
  rw [Int.mul_assoc]
  omega
theorem raw_bd {a b e : Int} (ha : -1000 ≤ a ∧ a ≤ 1000) (hb : -10000 ≤ b ∧ b ≤ 10000) (he : -100 ≤ e ∧ e ≤ 100) : (-156000 ≤ rawA a e ∧ rawA a e ≤ 6000) ∧ (-21710000 ≤ rawB a b e ∧ rawB a b e ≤ 21710000) := by
  have h1 := nbT_bd ha he
  have h2 := mul_bd (7 * e) (nbT a e) 700 31000 (by omega) (by omega) (by omega) (by omega)
  unfold rawA rawB
  omega
def nbR (a b e : Int) : Int × Int :=
  red 5 (red 3 (red 2 (rawA a e) (rawB a b e)).1 (red 2 (rawA a e) (rawB a b e)).2).1 (red 3 (red 2 (rawA a e) (rawB a b e)).1 (red 2 (rawA a e) (rawB a b e)).2).2
/-- The reference divides by 4, too: that does nothing. -/
theorem nbR_four {a b e : Int} (h : curveB a b = true) (he : evZ a b e = 0) :
    red 4 (red 3 (red 2 (rawA a e) (rawB a b e)).1 (red 2 (rawA a e) (rawB a b e)).2).1 (red 3 (red 2 (rawA a e) (rawB a b e)).1 (red 2 (rawA a e) (rawB a b e)).2).2 = red 3 (red 2 (rawA a e) (rawB a b e)).1 (red 2 (rawA a e) (rawB a b e)).2 :=
  red_four (red_keep (by omega) (red_done 2 (by omega) _ _ _ (Nat.le_refl _) (raw_nz h he)))
/-- The neighbour at e, if it is valid. -/
def nbV (a b e : Int) : Option Cu := if curveB (nbR a b e).1 (nbR a b e).2 = true then some ⟨(nbR a b e).1, (nbR a b e).2⟩ else none
theorem nbV_good {a b e : Int} {d : Cu} (h : nbV a b e = some d) : curveB d.a d.b = true ∧ nbR a b e = (d.a, d.b) := by
  unfold nbV at h
  split at h
  · rename_i hc; cases h; exact ⟨hc, rfl⟩
  · cases h
/-- A division does not make numbers greater. -/
theorem red_bd {r : Int} (hr : 2 ≤ r) (a b : Int) : (red r a b).1.natAbs ≤ a.natAbs ∧ (red r a b).2.natAbs ≤ b.natAbs := by
  obtain ⟨k, h1, h2⟩ := red_scale r hr _ a b (Nat.le_refl _)
  have key : ∀ {p x y : Int}, p ≠ 0 → x = p * y → y.natAbs ≤ x.natAbs := by
    intro p x y hp h
    rw [h, Int.natAbs_mul]
    exact Nat.le_mul_of_pos_left _ (by omega)
  have hp : r ^ k ≠ 0 := Int.ne_of_gt (Int.pow_pos (by omega))
  refine ⟨key ?_ h1, key ?_ h2⟩
  · unfold p4; exact Int.mul_ne_zero (Int.mul_ne_zero (Int.mul_ne_zero hp hp) hp) hp
  · unfold p6; exact Int.mul_ne_zero (Int.mul_ne_zero (Int.mul_ne_zero (Int.mul_ne_zero (Int.mul_ne_zero hp hp) hp) hp) hp) hp

/-! ### All neighbours -/
def nbsF (a b : Int) : List Int → Option (List Cu)
  | [] => some []
  | e :: es => match nbV a b e with
    | none => none
    | some d => match nbsF a b es with
      | none => none
      | some l => some (d :: l)
theorem nbsF_snoc (a b e : Int) : ∀ es, nbsF a b (es ++ [e]) = match nbsF a b es with | none => none | some l => (match nbV a b e with | none => none | some d => some (l ++ [d]))
  | [] => by
    simp only [List.nil_append, nbsF]
  | x :: es => by
    have ih := nbsF_snoc a b e es
    simp only [List.cons_append, nbsF]
    rw [ih]
    cases nbV a b x <;> cases nbsF a b es <;> cases nbV a b e <;> rfl
theorem nbsF_app_no {a b : Int} {es : List Int} (fs : List Int) (h : nbsF a b es = none) : nbsF a b (es ++ fs) = none := by
  induction es with
  | nil => cases h
  | cons x es ih =>
    simp only [List.cons_append, nbsF] at h ⊢
    cases hx : nbV a b x with
    | none => rfl
    | some d =>
      rw [hx] at h
      cases hn : nbsF a b es with
      | none => rw [ih hn]
      | some l => rw [hn] at h; cases h
theorem nbsF_take {a b : Int} {es : List Int} {k : Nat} (hk : k < es.length) : nbsF a b (es.take (k + 1)) = match nbsF a b (es.take k) with | none => none | some l => (match nbV a b es[k] with | none => none | some d => some (l ++ [d])) := by
  rw [List.take_succ_eq_append_getElem hk, nbsF_snoc]
theorem nbsF_no {a b : Int} {es : List Int} {k : Nat} (hk : k < es.length) (h : nbV a b es[k] = none) : nbsF a b es = none := by
  rw [← List.take_append_drop (k + 1) es]
  refine nbsF_app_no _ ?_
  rw [nbsF_take hk, h]
  cases nbsF a b (es.take k) <;> rfl
theorem nbsF_mem {a b : Int} : ∀ {es : List Int} {l : List Cu}, nbsF a b es = some l → ∀ d, d ∈ l ↔ ∃ e ∈ es, nbV a b e = some d
  | [], l, h, d => by cases h; simp
  | e :: es, l, h, d => by
    unfold nbsF at h
    cases hx : nbV a b e with
    | none => rw [hx] at h; cases h
    | some x =>
      rw [hx] at h
      cases hn : nbsF a b es with
      | none => rw [hn] at h; cases h
      | some m =>
        rw [hn] at h
        cases h
        rw [List.mem_cons, nbsF_mem hn d]
        constructor
        · rintro (rfl | ⟨y, hy, h2⟩)
          · exact ⟨e, List.mem_cons_self, hx⟩
          · exact ⟨y, List.mem_cons_of_mem _ hy, h2⟩
        · rintro ⟨y, hy, h2⟩
          rcases List.mem_cons.1 hy with rfl | hy
          · rw [hx] at h2; cases h2; exact .inl rfl
          · exact .inr ⟨y, hy, h2⟩
theorem nbsF_len {a b : Int} : ∀ {es : List Int} {l : List Cu}, nbsF a b es = some l → l.length = es.length
  | [], l, h => by cases h; rfl
  | e :: es, l, h => by
    unfold nbsF at h
    cases hx : nbV a b e with
    | none => rw [hx] at h; cases h
    | some x =>
      rw [hx] at h
      cases hn : nbsF a b es with
      | none => rw [hn] at h; cases h
      | some m => rw [hn] at h; cases h; rw [List.length_cons, List.length_cons, nbsF_len hn]

/-! ### Sets of curves, in order -/
def ltC (x y : Cu) : Prop := cmpC x.a x.b y.a y.b < 0
instance (x y : Cu) : Decidable (ltC x y) := inferInstanceAs (Decidable (_ < _))
theorem ltC_iff (x y : Cu) : ltC x y ↔ (x.a < y.a ∨ x.a = y.a ∧ x.b < y.b) := cmpC_lt _ _ _ _
theorem ltC_irr (x : Cu) : ¬ ltC x x := by rw [ltC_iff]; omega
theorem ltC_trans {x y z : Cu} (h : ltC x y) (k : ltC y z) : ltC x z := by rw [ltC_iff] at *; omega
theorem ltC_or {x y : Cu} (h : ¬ ltC x y) (hne : x ≠ y) : ltC y x := by
  rw [ltC_iff] at *
  have : ¬ (x.a = y.a ∧ x.b = y.b) := fun h2 => hne (by cases x; cases y; simp_all)
  omega
def putC : List Cu → Cu → List Cu
  | [], c => [c]
  | d :: l, c => if ltC d c then d :: putC l c else if d = c then d :: l else c :: d :: l
theorem putC_mem (c x : Cu) : ∀ l, x ∈ putC l c ↔ x = c ∨ x ∈ l
  | [] => by simp [putC]
  | d :: l => by
    have ih := putC_mem c x l
    unfold putC
    split
    · rw [List.mem_cons, ih, List.mem_cons]
      constructor
      · rintro (h | h | h)
        · exact .inr (.inl h)
        · exact .inl h
        · exact .inr (.inr h)
      · rintro (h | h | h)
        · exact .inr (.inl h)
        · exact .inl h
        · exact .inr (.inr h)
    · split
      · rename_i h; subst h
        rw [List.mem_cons]
        constructor
        · exact .inr
        · rintro (h | h)
          · exact .inl h
          · exact h
      · rw [List.mem_cons]
theorem putC_srt (c : Cu) : ∀ {l : List Cu}, l.Pairwise ltC → (putC l c).Pairwise ltC
  | [], _ => by simp [putC]
  | d :: l, h => by
    rw [List.pairwise_cons] at h
    unfold putC
    split
    · rename_i hd
      rw [List.pairwise_cons]
      refine ⟨fun x hx => ?_, putC_srt c h.2⟩
      rcases (putC_mem c x l).1 hx with rfl | hx
      · exact hd
      · exact h.1 x hx
    · rename_i hd
      split
      · rw [List.pairwise_cons]; exact h
      · rename_i hne
        have hc := ltC_or hd hne
        rw [List.pairwise_cons, List.pairwise_cons]
        refine ⟨fun x hx => ?_, h⟩
        rcases List.mem_cons.1 hx with rfl | hx
        · exact hc
        · exact ltC_trans hc (h.1 x hx)
def setC (l : List Cu) : List Cu := l.foldl putC []
theorem setC_snoc (l : List Cu) (c : Cu) : setC (l ++ [c]) = putC (setC l) c := by simp [setC, List.foldl_append]
theorem setC_mem (x : Cu) (l : List Cu) : x ∈ setC l ↔ x ∈ l := by
  have key : ∀ (l acc : List Cu), x ∈ l.foldl putC acc ↔ x ∈ acc ∨ x ∈ l := by
    intro l
    induction l with
    | nil => intro acc; simp
    | cons d l ih =>
      intro acc
      rw [List.foldl_cons, ih, putC_mem, List.mem_cons]
      constructor
      · rintro ((h | h) | h)
        · exact .inr (.inl h)
        · exact .inl h
        · exact .inr (.inr h)
      · rintro (h | h | h)
        · exact .inl (.inr h)
        · exact .inl (.inl h)
        · exact .inr h
  rw [setC, key]; simp
theorem setC_srt (l : List Cu) : (setC l).Pairwise ltC := by
  have key : ∀ (l acc : List Cu), acc.Pairwise ltC → (l.foldl putC acc).Pairwise ltC := by
    intro l
    induction l with
    | nil => intro acc h; exact h
    | cons d l ih => intro acc h; rw [List.foldl_cons]; exact ih _ (putC_srt d h)
  exact key l [] List.Pairwise.nil
theorem srt_uniq : ∀ {x y : List Cu}, x.Pairwise ltC → y.Pairwise ltC → (∀ c, c ∈ x ↔ c ∈ y) → x = y
  | [], [], _, _, _ => rfl
  | [], d :: y, _, _, h => absurd ((h d).2 List.mem_cons_self) (by simp)
  | d :: x, [], _, _, h => absurd ((h d).1 List.mem_cons_self) (by simp)
  | d :: x, f :: y, hx, hy, h => by
    rw [List.pairwise_cons] at hx hy
    have hdf : d = f := by
      rcases List.mem_cons.1 ((h d).1 List.mem_cons_self) with h1 | h1
      · exact h1
      · rcases List.mem_cons.1 ((h f).2 List.mem_cons_self) with h2 | h2
        · exact h2.symm
        · exact absurd (ltC_trans (hx.1 f h2) (hy.1 d h1)) (ltC_irr d)
    subst hdf
    congr 1
    refine srt_uniq hx.2 hy.2 (fun c => ?_)
    constructor
    · intro hc
      rcases List.mem_cons.1 ((h c).1 (List.mem_cons_of_mem _ hc)) with rfl | h2
      · exact absurd (hx.1 c hc) (ltC_irr c)
      · exact h2
    · intro hc
      rcases List.mem_cons.1 ((h c).2 (List.mem_cons_of_mem _ hc)) with rfl | h2
      · exact absurd (hy.1 c hc) (ltC_irr c)
      · exact h2
/-- The place that the reference's loop finds. -/
theorem putC_at (c : Cu) : ∀ (l : List Cu) (k : Nat), k ≤ l.length → (∀ j, j < k → ltC (cuS.get l j) c) → (k < l.length → ¬ ltC (cuS.get l k) c) → putC l c = if k < l.length ∧ cuS.get l k = c then l else l.take k ++ c :: l.drop k
  | [], k, hk, _, _ => by
    obtain rfl : k = 0 := by simpa using hk
    rfl
  | d :: l, 0, _, _, h => by
    have h1 : ¬ ltC d c := h (by simp)
    unfold putC
    rw [if_neg h1]
    by_cases hd : d = c
    · rw [if_pos hd, if_pos ⟨by simp, hd⟩]
    · rw [if_neg hd, if_neg (fun h2 => hd h2.2)]; rfl
  | d :: l, k + 1, hk, h1, h2 => by
    have hd : ltC d c := h1 0 (by omega)
    have ih := putC_at c l k (by simpa using hk) (fun j hj => h1 (j + 1) (by omega)) (fun hl => h2 (by simpa using hl))
    unfold putC
    rw [if_pos hd, ih]
    have hg : cuS.get (d :: l) (k + 1) = cuS.get l k := rfl
    by_cases hc : k < l.length ∧ cuS.get l k = c
    · rw [if_pos hc, if_pos ⟨by simpa using hc.1, hc.2⟩]
    · rw [if_neg hc, if_neg (fun h3 => hc ⟨by simpa using h3.1, h3.2⟩)]; rfl
theorem putC_len (l : List Cu) (c : Cu) : (putC l c).length ≤ l.length + 1 := by
  induction l with
  | nil => simp [putC]
  | cons d l ih =>
    unfold putC
    split
    · simp; omega
    · split <;> simp
theorem setC_len (l : List Cu) : (setC l).length ≤ l.length := by
  have key : ∀ (l acc : List Cu), (l.foldl putC acc).length ≤ acc.length + l.length := by
    intro l
    induction l with
    | nil => intro acc; simp
    | cons d l ih => intro acc; rw [List.foldl_cons, List.length_cons]; have := ih (putC acc d); have := putC_len acc d; omega
  have := key l []
  simpa [setC] using this
/-- What slices.Compact leaves. -/
def cptC : List Cu → List Cu
  | [] => []
  | x :: l => match cptC l with
    | [] => [x]
    | y :: m => if x = y then y :: m else x :: y :: m
theorem cptC_mem (c : Cu) : ∀ l, c ∈ cptC l ↔ c ∈ l
  | [] => Iff.rfl
  | x :: l => by
    have ih := cptC_mem c l
    unfold cptC
    cases h : cptC l with
    | nil => rw [h] at ih; rw [List.mem_cons, List.mem_cons, ih]
    | cons y m =>
      rw [h] at ih
      simp only
      split
      · rename_i hxy; subst hxy
        rw [ih, List.mem_cons]
        constructor
        · exact .inr
        · rintro (rfl | h2)
          · exact ih.1 List.mem_cons_self
          · exact h2
      · rw [List.mem_cons, ih, List.mem_cons]
theorem cptC_srt : ∀ {l : List Cu}, l.Pairwise (fun x y => ¬ ltC y x) → (cptC l).Pairwise ltC
  | [], _ => List.Pairwise.nil
  | x :: l, h => by
    rw [List.pairwise_cons] at h
    have ih := cptC_srt h.2
    have hm := fun c => cptC_mem c l
    unfold cptC
    cases hc : cptC l with
    | nil => simp
    | cons y m =>
      rw [hc] at ih hm
      simp only
      split
      · exact ih
      · rename_i hne
        have hxy : ltC x y := ltC_or (h.1 y ((hm y).1 List.mem_cons_self)) (fun e => hne e.symm)
        rw [List.pairwise_cons]
        refine ⟨fun c hcm => ?_, ih⟩
        rcases List.mem_cons.1 hcm with rfl | h2
        · exact hxy
        · exact ltC_trans hxy ((List.pairwise_cons.1 ih).1 c h2)
/-- Sorted and compact: the set. -/
theorem cpt_set {d l : List Cu} (hp : d.Perm l) (hs : d.Pairwise (fun x y => ¬ ltC y x)) : cptC d = setC l :=
  srt_uniq (cptC_srt hs) (setC_srt l) (fun c => by rw [cptC_mem, setC_mem, hp.mem_iff])

def allV (a b : Int) : List Cu × Bool := match nbsF a b (rootsV a b) with
  | some l => (setC l, true)
  | none => ([], false)
theorem allV_yes {a b : Int} {l : List Cu} (h : nbsF a b (rootsV a b) = some l) : allV a b = (setC l, true) := by unfold allV; rw [h]
theorem allV_no {a b : Int} (h : nbsF a b (rootsV a b) = none) : allV a b = ([], false) := by unfold allV; rw [h]
theorem allV_len (a b : Int) : (allV a b).1.length ≤ 201 := by
  unfold allV
  cases h : nbsF a b (rootsV a b) with
  | none => simp
  | some l =>
    have h1 := setC_len l
    rw [nbsF_len h] at h1
    have h2 : (rootsV a b).length ≤ 201 := rootsF_len a b (-100) 201
    simp only
    omega

/-! ### The pairs of a list -/
def edOk (L : List Cu) (k : Nat) : Bool := curveB (cuS.get L k).a (cuS.get L k).b && ((k == 0 || decide (ltC (cuS.get L (k - 1)) (cuS.get L k))) && decide (smU (cuS.get L k).a (cuS.get L k).b = 1))
def alC (x : Cu) : List Cu × Bool := allV x.a x.b
def edAt (L : List Cu) (i : Nat) (n : Nat) : List (List Int) := ((List.range n).filter (fun k => decide (i < k) && decide (cuS.get L k ∈ (alC (cuS.get L i)).1))).map (fun k : Nat => [(i : Int), (k : Int)])
def edTo (L : List Cu) (n : Nat) : List (List Int) := (List.range n).flatMap (fun i => edAt L i L.length)
def edB (L : List Cu) : Bool := decide (L.length ≤ 8) && ((List.range L.length).all (edOk L) && (List.range L.length).all (fun k => (alC (cuS.get L k)).2))
def edgesV (L : List Cu) : List (List Int) × Bool := if edB L then (edTo L L.length, true) else ([], false)
theorem edTo_succ (L : List Cu) (n : Nat) : edTo L (n + 1) = edTo L n ++ edAt L n L.length := by
  unfold edTo; rw [List.range_succ, List.flatMap_append]; simp
theorem edAt_low (L : List Cu) (i : Nat) : ∀ n, n ≤ i + 1 → edAt L i n = []
  | n, h => by
    unfold edAt
    rw [List.map_eq_nil_iff, List.filter_eq_nil_iff]
    intro k hk
    rw [List.mem_range] at hk
    rw [decide_eq_false (show ¬ i < k by omega)]
    simp
theorem edAt_yes {L : List Cu} {i n : Nat} (h : i < n) (hm : cuS.get L n ∈ (alC (cuS.get L i)).1) : edAt L i (n + 1) = edAt L i n ++ [[(i : Int), (n : Int)]] := by
  unfold edAt
  rw [List.range_succ, List.filter_append, List.map_append, List.filter_cons, if_pos (by rw [decide_eq_true h, decide_eq_true hm]; rfl)]
  rfl
theorem edAt_no {L : List Cu} {i n : Nat} (hm : ¬ cuS.get L n ∈ (alC (cuS.get L i)).1) : edAt L i (n + 1) = edAt L i n := by
  unfold edAt
  rw [List.range_succ, List.filter_append, List.map_append, List.filter_cons, if_neg (by rw [decide_eq_false hm]; simp)]
  simp
theorem edAt_len (L : List Cu) (i n : Nat) : (edAt L i n).length ≤ n := by
  unfold edAt
  rw [List.length_map]
  exact Nat.le_trans (List.length_filter_le _ _) (by simp)
theorem edTo_len (L : List Cu) : ∀ n, (edTo L n).length ≤ n * L.length
  | 0 => by simp [edTo]
  | n + 1 => by
    rw [edTo_succ, List.length_append, Nat.add_mul]
    have := edTo_len L n
    have := edAt_len L n L.length
    omega
end
end Go.Proofs.YtacehhcpfollnaaGreat
