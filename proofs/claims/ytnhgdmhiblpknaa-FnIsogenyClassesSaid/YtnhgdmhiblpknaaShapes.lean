/- The structs of ints that the laws speak of, as Lean structures, and what the functions compute, in plain Lean. Conditions: none. -/
import Derived.Test.YtnhgdmhiblpknaaKit
namespace Go.Proofs.Ytnhgdmhiblpknaa
open Go Go.RowKit

structure Cu where
  a : Int
  b : Int
  deriving DecidableEq
structure En where
  a : Int
  b : Int
  lo : Int
  hi : Int
  to : Int
  deriving DecidableEq
structure Rp where
  tm : Int
  mc : Int
  a : Int
  b : Int
  lo : Int
  hi : Int
  to : Int
  deriving DecidableEq

def cuS : Shape Cu := ⟨2, fun e j => match j with | 0 => .int .i64 e.a | _ => .int .i64 e.b, ⟨0, 0⟩⟩
def enS : Shape En := ⟨5, fun e j => match j with | 0 => .int .i64 e.a | 1 => .int .i64 e.b | 2 => .int .i64 e.lo | 3 => .int .i64 e.hi | _ => .int .i64 e.to, ⟨0, 0, 0, 0, 0⟩⟩
def rpS : Shape Rp := ⟨7, fun e j => match j with | 0 => .int .i64 e.tm | 1 => .int .i64 e.mc | 2 => .int .i64 e.a | 3 => .int .i64 e.b | 4 => .int .i64 e.lo | 5 => .int .i64 e.hi | _ => .int .i64 e.to, ⟨0, 0, 0, 0, 0, 0, 0⟩⟩
structure Pt where
  x : Int
  y : Int
  e : Int
  deriving DecidableEq
def ptS : Shape Pt := ⟨3, fun e j => match j with | 0 => .int .i64 e.x | 1 => .int .i64 e.y | _ => .int .i64 e.e, ⟨0, 0, 0⟩⟩
def inS : Shape Int := ⟨1, fun e _ => .int .i64 e, 0⟩

/-- The cells of the k-th element, one by one. -/
theorem cu_cells {w : World} {g off n : Nat} {es : List Cu} (h : ∀ k, k < n → ∀ j, j < cuS.size → w.cell? ⟨g, off + k * cuS.size + j, none⟩ = some (cuS.cell (cuS.get es k) j)) (k : Nat) (hk : k < n) :
    w.cell? ⟨g, off + k * 2, none⟩ = some (.int .i64 (cuS.get es k).a) ∧ w.cell? ⟨g, off + k * 2 + 1, none⟩ = some (.int .i64 (cuS.get es k).b) :=
  ⟨h k hk 0 (by decide), h k hk 1 (by decide)⟩
theorem en_cells {w : World} {g off n : Nat} {es : List En} (h : ∀ k, k < n → ∀ j, j < enS.size → w.cell? ⟨g, off + k * enS.size + j, none⟩ = some (enS.cell (enS.get es k) j)) (k : Nat) (hk : k < n) :
    w.cell? ⟨g, off + k * 5, none⟩ = some (.int .i64 (enS.get es k).a) ∧ w.cell? ⟨g, off + k * 5 + 1, none⟩ = some (.int .i64 (enS.get es k).b) ∧ w.cell? ⟨g, off + k * 5 + 2, none⟩ = some (.int .i64 (enS.get es k).lo) ∧
      w.cell? ⟨g, off + k * 5 + 3, none⟩ = some (.int .i64 (enS.get es k).hi) ∧ w.cell? ⟨g, off + k * 5 + 4, none⟩ = some (.int .i64 (enS.get es k).to) :=
  ⟨h k hk 0 (by decide), h k hk 1 (by decide), h k hk 2 (by decide), h k hk 3 (by decide), h k hk 4 (by decide)⟩
theorem pt_cells {w : World} {g off n : Nat} {es : List Pt} (h : ∀ k, k < n → ∀ j, j < ptS.size → w.cell? ⟨g, off + k * ptS.size + j, none⟩ = some (ptS.cell (ptS.get es k) j)) (k : Nat) (hk : k < n) :
    w.cell? ⟨g, off + k * 3, none⟩ = some (.int .i64 (ptS.get es k).x) ∧ w.cell? ⟨g, off + k * 3 + 1, none⟩ = some (.int .i64 (ptS.get es k).y) ∧ w.cell? ⟨g, off + k * 3 + 2, none⟩ = some (.int .i64 (ptS.get es k).e) :=
  ⟨h k hk 0 (by decide), h k hk 1 (by decide), h k hk 2 (by decide)⟩
theorem rp_cells {w : World} {g off n : Nat} {es : List Rp} (h : ∀ k, k < n → ∀ j, j < rpS.size → w.cell? ⟨g, off + k * rpS.size + j, none⟩ = some (rpS.cell (rpS.get es k) j)) (k : Nat) (hk : k < n) :
    w.cell? ⟨g, off + k * 7, none⟩ = some (.int .i64 (rpS.get es k).tm) ∧ w.cell? ⟨g, off + k * 7 + 1, none⟩ = some (.int .i64 (rpS.get es k).mc) ∧ w.cell? ⟨g, off + k * 7 + 2, none⟩ = some (.int .i64 (rpS.get es k).a) ∧
      w.cell? ⟨g, off + k * 7 + 3, none⟩ = some (.int .i64 (rpS.get es k).b) ∧ w.cell? ⟨g, off + k * 7 + 4, none⟩ = some (.int .i64 (rpS.get es k).lo) ∧ w.cell? ⟨g, off + k * 7 + 5, none⟩ = some (.int .i64 (rpS.get es k).hi) ∧
      w.cell? ⟨g, off + k * 7 + 6, none⟩ = some (.int .i64 (rpS.get es k).to) :=
  ⟨h k hk 0 (by decide), h k hk 1 (by decide), h k hk 2 (by decide), h k hk 3 (by decide), h k hk 4 (by decide), h k hk 5 (by decide), h k hk 6 (by decide)⟩
theorem in_cells {w : World} {g off n : Nat} {es : List Int} (h : ∀ k, k < n → ∀ j, j < inS.size → w.cell? ⟨g, off + k * inS.size + j, none⟩ = some (inS.cell (inS.get es k) j)) (k : Nat) (hk : k < n) :
    w.cell? ⟨g, off + k, none⟩ = some (.int .i64 (inS.get es k)) := by
  have := h k hk 0 (by decide)
  simpa [inS] using this

/-! ### Curves, entries, reports -/
def insB (n lo hi : Int) : Bool := decide (lo ≤ n ∧ n ≤ hi)
theorem insB_true {n lo hi : Int} (h : insB n lo hi = true) : lo ≤ n ∧ n ≤ hi := by simpa [insB] using h
theorem insB_mk {n lo hi : Int} (h1 : lo ≤ n) (h2 : n ≤ hi) : insB n lo hi = true := by simp [insB, h1, h2]
def coreI (a b : Int) : Int := 4 * a * a * a + 27 * b * b
def curveB (a b : Int) : Bool := insB a (-1000) 1000 && (insB b (-10000) 10000 && coreI a b != 0)
def entB (a b lo hi to : Int) : Bool := curveB a b && decide (0 ≤ lo ∧ lo ≤ hi ∧ hi ≤ 20 ∧ 0 ≤ to ∧ to ≤ 16)
def recB (a b lo hi : Int) : Bool := curveB a b && decide (0 ≤ lo ∧ lo ≤ hi ∧ hi ≤ 20)
def repB (tm mc a b lo hi to : Int) : Bool := decide (0 ≤ tm ∧ tm ≤ 1000000 ∧ 1 ≤ mc ∧ mc ≤ 9) && entB a b lo hi to
def cmpI (x y : Int) : Int := if x < y then -1 else if y < x then 1 else 0
def cmpC (a b c d : Int) : Int := if a = c then cmpI b d else cmpI a c

theorem curveB_bd {a b : Int} (h : curveB a b = true) : (-1000 ≤ a ∧ a ≤ 1000) ∧ (-10000 ≤ b ∧ b ≤ 10000) := by
  unfold curveB at h
  simp only [Bool.and_eq_true] at h
  exact ⟨insB_true h.1, insB_true h.2.1⟩
theorem entB_curve {a b lo hi to : Int} (h : entB a b lo hi to = true) : curveB a b = true := by
  unfold entB at h
  simp only [Bool.and_eq_true] at h
  exact h.1
theorem entB_bd {a b lo hi to : Int} (h : entB a b lo hi to = true) : 0 ≤ lo ∧ lo ≤ hi ∧ hi ≤ 20 ∧ 0 ≤ to ∧ to ≤ 16 := by
  unfold entB at h
  simp only [Bool.and_eq_true, decide_eq_true_eq] at h
  exact h.2
theorem repB_ent {tm mc a b lo hi to : Int} (h : repB tm mc a b lo hi to = true) : entB a b lo hi to = true := by
  unfold repB at h
  simp only [Bool.and_eq_true] at h
  exact h.2
theorem repB_bd {tm mc a b lo hi to : Int} (h : repB tm mc a b lo hi to = true) : 0 ≤ tm ∧ tm ≤ 1000000 ∧ 1 ≤ mc ∧ mc ≤ 9 := by
  unfold repB at h
  simp only [Bool.and_eq_true, decide_eq_true_eq] at h
  exact h.1
theorem cmpI_bd (x y : Int) : -1 ≤ cmpI x y ∧ cmpI x y ≤ 1 := by unfold cmpI; split <;> (try split) <;> omega
theorem cmpC_bd (a b c d : Int) : -1 ≤ cmpC a b c d ∧ cmpC a b c d ≤ 1 := by unfold cmpC; split <;> exact cmpI_bd _ _
theorem cmpI_lt (x y : Int) : cmpI x y < 0 ↔ x < y := by unfold cmpI; split <;> (try split) <;> omega
theorem cmpI_eq (x y : Int) : cmpI x y = 0 ↔ x = y := by unfold cmpI; split <;> (try split) <;> omega
theorem cmpC_lt (a b c d : Int) : cmpC a b c d < 0 ↔ (a < c ∨ a = c ∧ b < d) := by
  unfold cmpC
  split
  · rw [cmpI_lt]; omega
  · rw [cmpI_lt]; omega
theorem cmpC_eq (a b c d : Int) : cmpC a b c d = 0 ↔ (a = c ∧ b = d) := by
  unfold cmpC
  split
  · rw [cmpI_eq]; omega
  · rw [cmpI_eq]; omega

theorem mul_bd (a b m n : Int) (ha : -m ≤ a) (ha' : a ≤ m) (hb : -n ≤ b) (hb' : b ≤ n) : -(m * n) ≤ a * b ∧ a * b ≤ m * n := by
  have h1 : 0 ≤ (m - a) * (n + b) := Int.mul_nonneg (by omega) (by omega)
  have h2 : 0 ≤ (m + a) * (n - b) := Int.mul_nonneg (by omega) (by omega)
  have h3 : 0 ≤ (m - a) * (n - b) := Int.mul_nonneg (by omega) (by omega)
  have h4 : 0 ≤ (m + a) * (n + b) := Int.mul_nonneg (by omega) (by omega)
  simp only [Int.sub_mul, Int.mul_sub, Int.mul_add, Int.add_mul] at h1 h2 h3 h4
  omega

/-- The k-th entry is valid and behind the one before it. -/
def okAt (es : List En) (k : Nat) : Bool :=
  entB (enS.get es k).a (enS.get es k).b (enS.get es k).lo (enS.get es k).hi (enS.get es k).to &&
    (k == 0 || decide (cmpC (enS.get es (k - 1)).a (enS.get es (k - 1)).b (enS.get es k).a (enS.get es k).b < 0))
def catB (es : List En) : Bool := decide (es.length ≤ 12) && (List.range es.length).all (okAt es)
def okRAt (es : List Rp) (k : Nat) : Bool :=
  repB (rpS.get es k).tm (rpS.get es k).mc (rpS.get es k).a (rpS.get es k).b (rpS.get es k).lo (rpS.get es k).hi (rpS.get es k).to &&
    (k == 0 || decide (cmpC (rpS.get es (k - 1)).tm (rpS.get es (k - 1)).mc (rpS.get es k).tm (rpS.get es k).mc < 0))
def repsB (es : List Rp) : Bool := decide (es.length ≤ 20) && (List.range es.length).all (okRAt es)

theorem catB_false_at {es : List En} {k : Nat} (hk : k < es.length) (h : okAt es k = false) : catB es = false := by
  unfold catB
  have : (List.range es.length).all (okAt es) = false := by
    rw [List.all_eq_false]
    exact ⟨k, List.mem_range.2 hk, by simp [h]⟩
  rw [this, Bool.and_false]
theorem catB_long {es : List En} (h : 12 < es.length) : catB es = false := by
  unfold catB
  rw [decide_eq_false (by omega), Bool.false_and]
theorem catB_true {es : List En} (hl : es.length ≤ 12) (h : ∀ j, j < es.length → okAt es j = true) : catB es = true := by
  unfold catB
  have : (List.range es.length).all (okAt es) = true := by
    rw [List.all_eq_true]
    exact fun k hk => h k (List.mem_range.1 hk)
  rw [this, decide_eq_true hl]; rfl
theorem catB_spec {es : List En} (h : catB es = true) : es.length ≤ 12 ∧ ∀ k, k < es.length → okAt es k = true := by
  unfold catB at h
  simp only [Bool.and_eq_true, decide_eq_true_eq, List.all_eq_true, List.mem_range] at h
  exact h
theorem catB_all {es : List En} (h : ∀ j, j < es.length → okAt es j = true) : catB es = decide (es.length ≤ 12) := by
  by_cases hl : es.length ≤ 12
  · rw [catB_true hl h, decide_eq_true hl]
  · rw [catB_long (by omega), decide_eq_false hl]
theorem entB_cbd {a b lo hi to : Int} (h : entB a b lo hi to = true) : (-1000 ≤ a ∧ a ≤ 1000) ∧ (-10000 ≤ b ∧ b ≤ 10000) := curveB_bd (entB_curve h)
theorem repB_tbd {tm mc a b lo hi to : Int} (h : repB tm mc a b lo hi to = true) : (0 ≤ tm ∧ tm ≤ 1000000) ∧ (1 ≤ mc ∧ mc ≤ 9) := by
  obtain ⟨h1, h2, h3, h4⟩ := repB_bd h
  exact ⟨⟨h1, h2⟩, h3, h4⟩
theorem repsB_false_at {es : List Rp} {k : Nat} (hk : k < es.length) (h : okRAt es k = false) : repsB es = false := by
  unfold repsB
  have : (List.range es.length).all (okRAt es) = false := by
    rw [List.all_eq_false]
    exact ⟨k, List.mem_range.2 hk, by simp [h]⟩
  rw [this, Bool.and_false]
theorem repsB_long {es : List Rp} (h : 20 < es.length) : repsB es = false := by
  unfold repsB
  rw [decide_eq_false (by omega), Bool.false_and]
theorem repsB_true {es : List Rp} (hl : es.length ≤ 20) (h : ∀ j, j < es.length → okRAt es j = true) : repsB es = true := by
  unfold repsB
  have : (List.range es.length).all (okRAt es) = true := by
    rw [List.all_eq_true]
    exact fun k hk => h k (List.mem_range.1 hk)
  rw [this, decide_eq_true hl]; rfl
theorem repsB_all {es : List Rp} (h : ∀ j, j < es.length → okRAt es j = true) : repsB es = decide (es.length ≤ 20) := by
  by_cases hl : es.length ≤ 20
  · rw [repsB_true hl h, decide_eq_true hl]
  · rw [repsB_long (by omega), decide_eq_false hl]
theorem repsB_spec {es : List Rp} (h : repsB es = true) : es.length ≤ 20 ∧ ∀ k, k < es.length → okRAt es k = true := by
  unfold repsB at h
  simp only [Bool.and_eq_true, decide_eq_true_eq, List.all_eq_true, List.mem_range] at h
  exact h
end Go.Proofs.Ytnhgdmhiblpknaa
