/- Own texts put together: Sums, differences, products, quotients of fractions, both sides; Own lemmas that know no program: a row of the call's own, edited in place. Conditions: those of each theorem. -/
import Derived.Test.YtacehhcpfollnaaGreatIsM2
import Derived.Test.YtacehhcpfollnaaGreatIsM1
import Derived.Laws.IdiomCopy
namespace Go.Proofs.YtacehhcpfollnaaGreat
section
open Go Go.RowKit

theorem fr_mul {a b A B : Int} (h1 : -A ≤ a) (h2 : a ≤ A) (h3 : -B ≤ b) (h4 : b ≤ B) : -(A * B) ≤ a * b ∧ a * b ≤ A * B := mul_bd a b A B h1 h2 h3 h4
theorem fr_pos {a b : Int} (h1 : 1 ≤ a) (h2 : 1 ≤ b) : 1 ≤ a * b := by
  have := Int.mul_pos (show 0 < a by omega) (show 0 < b by omega)
  omega
/-- Bounds of the products of two fractions' parts. -/
structure FrBd (a b c d : Int) : Prop where
  ad : -1000000000000000000 ≤ a * d ∧ a * d ≤ 1000000000000000000
  cb : -1000000000000000000 ≤ c * b ∧ c * b ≤ 1000000000000000000
  ac : -1000000000000000000 ≤ a * c ∧ a * c ≤ 1000000000000000000
  bd : 1 ≤ b * d ∧ b * d ≤ 1000000000000000000
  bc : -1000000000000000000 ≤ b * c ∧ b * c ≤ 1000000000000000000
theorem FrBd.of {a b c d : Int} (h : frB 1000000000 a b = true) (k : frB 1000000000 c d = true) : FrBd a b c d := by
  obtain ⟨⟨b1, b2⟩, ⟨a1, a2⟩, -⟩ := frB_bd h
  obtain ⟨⟨d1, d2⟩, ⟨c1, c2⟩, -⟩ := frB_bd k
  exact ⟨mul_bd a d 1000000000 1000000000 a1 a2 (by omega) d2, mul_bd c b 1000000000 1000000000 c1 c2 (by omega) b2, mul_bd a c 1000000000 1000000000 a1 a2 c1 c2,
    ⟨fr_pos b1 d1, (mul_bd b d 1000000000 1000000000 (by omega) b2 (by omega) d2).2⟩, mul_bd b c 1000000000 1000000000 (by omega) b2 c1 c2⟩
def sumG (x y : Fq) : Option Fq := if (frB 1000000000 x.1 x.2 && frB 1000000000 y.1 y.2) = true then addF 1000000000 x y else none
def difG (x y : Fq) : Option Fq := if (frB 1000000000 x.1 x.2 && frB 1000000000 y.1 y.2) = true then subF 1000000000 x y else none
def mulG (x y : Fq) : Option Fq := if (frB 1000000000 x.1 x.2 && frB 1000000000 y.1 y.2) = true then mulF 1000000000 x y else none
def quoG (x y : Fq) : Option Fq := if (frB 1000000000 x.1 x.2 && frB 1000000000 y.1 y.2) = true then divF 1000000000 x y else none

set_option linter.unusedSimpArgs false in
set_option maxHeartbeats 1600000 in
theorem addS_lit {a b c d x y : Int} {ok : Bool} (h : FrQ (addF 1000000000 (a, b) (c, d)) x y ok) (h1 : frB 1000000000 a b = true) (h2 : frB 1000000000 c d = true) (w : World) :
    Calls Tryz.prog 75 #[.agg #[.int .i64 a, .int .i64 b], .agg #[.int .i64 c, .int .i64 d]] w fun e w' => e = .returned (.tuple #[.agg #[.int .i64 x, .int .i64 y], .bool ok]) ∧ Below w.heap.size w w' := by
  obtain ⟨⟨m1, m2⟩, ⟨m3, m4⟩, ⟨m5, m6⟩, ⟨m7, m8⟩, m9, m10⟩ := FrBd.of h1 h2
  clear h1 h2
  go_enter Tryz.func75, Tryz.ntmps75
  replace h : FrQ (mkF 1000000000 (a * d + c * b) (b * d)) x y ok := h
  go_wp2_with fail
  refine (mkS_lit h _ (by omega) (by omega)).mono ?_; rintro e w1 ⟨rfl, hb1⟩
  have S1 := Lib.hid (show w.heap.size + 3 ≤ w1.heap.size by have h9 := hb1.size; (try simp only [World.size_alloc, World.size_setCell, World.size_drew] at h9); omega)
  have NA := Lib.hid ((((Blk.new w 42 #[.int .i64 a, .int .i64 b]).alloc (Obj.cells #[.int .i64 c, .int .i64 d] 42)).alloc (Obj.cells #[.int .i64 0, .int .i64 0] 42)).on hb1)
  have NB := Lib.hid (((show Blk (World.alloc (World.alloc w (Obj.cells #[.int .i64 a, .int .i64 b] 42)) (Obj.cells #[.int .i64 c, .int .i64 d] 42)) (w.heap.size + 1) 42 #[.int .i64 c, .int .i64 d] by have h9 := (Blk.new (World.alloc w (Obj.cells #[.int .i64 a, .int .i64 b] 42)) 42 #[.int .i64 c, .int .i64 d]); (try simp only [World.size_alloc, World.size_setCell] at h9); exact h9).alloc (Obj.cells #[.int .i64 0, .int .i64 0] 42)).on hb1)
  have NR := Lib.hid ((show Blk (World.alloc (World.alloc (World.alloc w (Obj.cells #[.int .i64 a, .int .i64 b] 42)) (Obj.cells #[.int .i64 c, .int .i64 d] 42)) (Obj.cells #[.int .i64 0, .int .i64 0] 42)) (w.heap.size + 1 + 1) 42 #[.int .i64 0, .int .i64 0] by have h9 := (Blk.new (World.alloc (World.alloc w (Obj.cells #[.int .i64 a, .int .i64 b] 42)) (Obj.cells #[.int .i64 c, .int .i64 d] 42)) 42 #[.int .i64 0, .int .i64 0]); (try simp only [World.size_alloc, World.size_setCell] at h9); exact h9).on hb1)
  have A := NA; clear NA
  have B := NB; clear NB
  have R := NR; clear NR
  have Hb1 := Lib.hid (bthen (bal (bal (bal (Below.refl w.heap.size w) (Obj.cells #[.int .i64 a, .int .i64 b] 42)) (Obj.cells #[.int .i64 c, .int .i64 d] 42)) (Obj.cells #[.int .i64 0, .int .i64 0] 42)) hb1)
  clear hb1
  have qR0 : w1.cell? ⟨w.heap.size + 1 + 1, 0, none⟩ = some (.int .i64 0) := R.out.cell 0
  have qR1 : w1.cell? ⟨w.heap.size + 1 + 1, 1, none⟩ = some (.int .i64 0) := R.out.cell 1
  have qRl := R.out.lt
  have qRf0 := R.out.frozen 0
  have qRf1 := R.out.frozen 1
  go_wp2
  clear qR0 qR1 qRl qRf0 qRf1
  have R9R := (show Blk (World.setCell (World.setCell w1 ⟨w.heap.size + 1 + 1, 0, none⟩ (.int .i64 x)) ⟨w.heap.size + 1 + 1, 1, none⟩ (.int .i64 y)) (w.heap.size + 1 + 1) 42 #[.int .i64 x, .int .i64 y] by have h9 := ((R.out.set 0 (.int .i64 x)).set 1 (.int .i64 y)); simpa using h9)
  have kR0 := R9R.cell 0
  have kR1 := R9R.cell 1
  simp at kR0 kR1
  exact bodyPost_ret (v := .tuple #[.agg #[.int .i64 x, .int .i64 y], .bool ok]) (by simp [results, Tryz.results75, go_sem, kR0, kR1]) rfl ⟨rfl, (bst (bst Hb1.out (p := ⟨w.heap.size + 1 + 1, 0, none⟩) (show w.heap.size ≤ w.heap.size + 1 + 1 by have := S1.out; (try simp only [World.size_alloc, World.size_setCell, World.size_drew]); omega) (.int .i64 x)) (p := ⟨w.heap.size + 1 + 1, 1, none⟩) (show w.heap.size ≤ w.heap.size + 1 + 1 by have := S1.out; (try simp only [World.size_alloc, World.size_setCell, World.size_drew]); omega) (.int .i64 y))⟩
set_option linter.unusedSimpArgs false in
set_option maxHeartbeats 1600000 in
theorem subS_lit {a b c d x y : Int} {ok : Bool} (h : FrQ (subF 1000000000 (a, b) (c, d)) x y ok) (h1 : frB 1000000000 a b = true) (h2 : frB 1000000000 c d = true) (w : World) :
    Calls Tryz.prog 73 #[.agg #[.int .i64 a, .int .i64 b], .agg #[.int .i64 c, .int .i64 d]] w fun e w' => e = .returned (.tuple #[.agg #[.int .i64 x, .int .i64 y], .bool ok]) ∧ Below w.heap.size w w' := by
  obtain ⟨⟨m1, m2⟩, ⟨m3, m4⟩, ⟨m5, m6⟩, ⟨m7, m8⟩, m9, m10⟩ := FrBd.of h1 h2
  clear h1 h2
  go_enter Tryz.func73, Tryz.ntmps73
  replace h : FrQ (mkF 1000000000 (a * d - c * b) (b * d)) x y ok := h
  go_wp2_with fail
  refine (mkS_lit h _ (by omega) (by omega)).mono ?_; rintro e w1 ⟨rfl, hb1⟩
  have S1 := Lib.hid (show w.heap.size + 3 ≤ w1.heap.size by have h9 := hb1.size; (try simp only [World.size_alloc, World.size_setCell, World.size_drew] at h9); omega)
  have NA := Lib.hid ((((Blk.new w 42 #[.int .i64 a, .int .i64 b]).alloc (Obj.cells #[.int .i64 c, .int .i64 d] 42)).alloc (Obj.cells #[.int .i64 0, .int .i64 0] 42)).on hb1)
  have NB := Lib.hid (((show Blk (World.alloc (World.alloc w (Obj.cells #[.int .i64 a, .int .i64 b] 42)) (Obj.cells #[.int .i64 c, .int .i64 d] 42)) (w.heap.size + 1) 42 #[.int .i64 c, .int .i64 d] by have h9 := (Blk.new (World.alloc w (Obj.cells #[.int .i64 a, .int .i64 b] 42)) 42 #[.int .i64 c, .int .i64 d]); (try simp only [World.size_alloc, World.size_setCell] at h9); exact h9).alloc (Obj.cells #[.int .i64 0, .int .i64 0] 42)).on hb1)
  have NR := Lib.hid ((show Blk (World.alloc (World.alloc (World.alloc w (Obj.cells #[.int .i64 a, .int .i64 b] 42)) (Obj.cells #[.int .i64 c, .int .i64 d] 42)) (Obj.cells #[.int .i64 0, .int .i64 0] 42)) (w.heap.size + 1 + 1) 42 #[.int .i64 0, .int .i64 0] by have h9 := (Blk.new (World.alloc (World.alloc w (Obj.cells #[.int .i64 a, .int .i64 b] 42)) (Obj.cells #[.int .i64 c, .int .i64 d] 42)) 42 #[.int .i64 0, .int .i64 0]); (try simp only [World.size_alloc, World.size_setCell] at h9); exact h9).on hb1)
  have A := NA; clear NA
  have B := NB; clear NB
  have R := NR; clear NR
  have Hb1 := Lib.hid (bthen (bal (bal (bal (Below.refl w.heap.size w) (Obj.cells #[.int .i64 a, .int .i64 b] 42)) (Obj.cells #[.int .i64 c, .int .i64 d] 42)) (Obj.cells #[.int .i64 0, .int .i64 0] 42)) hb1)
  clear hb1
  have qR0 : w1.cell? ⟨w.heap.size + 1 + 1, 0, none⟩ = some (.int .i64 0) := R.out.cell 0
  have qR1 : w1.cell? ⟨w.heap.size + 1 + 1, 1, none⟩ = some (.int .i64 0) := R.out.cell 1
  have qRl := R.out.lt
  have qRf0 := R.out.frozen 0
  have qRf1 := R.out.frozen 1
  go_wp2
  clear qR0 qR1 qRl qRf0 qRf1
  have R9R := (show Blk (World.setCell (World.setCell w1 ⟨w.heap.size + 1 + 1, 0, none⟩ (.int .i64 x)) ⟨w.heap.size + 1 + 1, 1, none⟩ (.int .i64 y)) (w.heap.size + 1 + 1) 42 #[.int .i64 x, .int .i64 y] by have h9 := ((R.out.set 0 (.int .i64 x)).set 1 (.int .i64 y)); simpa using h9)
  have kR0 := R9R.cell 0
  have kR1 := R9R.cell 1
  simp at kR0 kR1
  exact bodyPost_ret (v := .tuple #[.agg #[.int .i64 x, .int .i64 y], .bool ok]) (by simp [results, Tryz.results73, go_sem, kR0, kR1]) rfl ⟨rfl, (bst (bst Hb1.out (p := ⟨w.heap.size + 1 + 1, 0, none⟩) (show w.heap.size ≤ w.heap.size + 1 + 1 by have := S1.out; (try simp only [World.size_alloc, World.size_setCell, World.size_drew]); omega) (.int .i64 x)) (p := ⟨w.heap.size + 1 + 1, 1, none⟩) (show w.heap.size ≤ w.heap.size + 1 + 1 by have := S1.out; (try simp only [World.size_alloc, World.size_setCell, World.size_drew]); omega) (.int .i64 y))⟩
set_option linter.unusedSimpArgs false in
set_option maxHeartbeats 1600000 in
theorem mulS_lit {a b c d x y : Int} {ok : Bool} (h : FrQ (mulF 1000000000 (a, b) (c, d)) x y ok) (h1 : frB 1000000000 a b = true) (h2 : frB 1000000000 c d = true) (w : World) :
    Calls Tryz.prog 76 #[.agg #[.int .i64 a, .int .i64 b], .agg #[.int .i64 c, .int .i64 d]] w fun e w' => e = .returned (.tuple #[.agg #[.int .i64 x, .int .i64 y], .bool ok]) ∧ Below w.heap.size w w' := by
  obtain ⟨⟨m1, m2⟩, ⟨m3, m4⟩, ⟨m5, m6⟩, ⟨m7, m8⟩, m9, m10⟩ := FrBd.of h1 h2
  clear h1 h2
  go_enter Tryz.func76, Tryz.ntmps76
  replace h : FrQ (mkF 1000000000 (a * c) (b * d)) x y ok := h
  go_wp2_with fail
  refine (mkS_lit h _ (by omega) (by omega)).mono ?_; rintro e w1 ⟨rfl, hb1⟩
  have S1 := Lib.hid (show w.heap.size + 3 ≤ w1.heap.size by have h9 := hb1.size; (try simp only [World.size_alloc, World.size_setCell, World.size_drew] at h9); omega)
  have NA := Lib.hid ((((Blk.new w 42 #[.int .i64 a, .int .i64 b]).alloc (Obj.cells #[.int .i64 c, .int .i64 d] 42)).alloc (Obj.cells #[.int .i64 0, .int .i64 0] 42)).on hb1)
  have NB := Lib.hid (((show Blk (World.alloc (World.alloc w (Obj.cells #[.int .i64 a, .int .i64 b] 42)) (Obj.cells #[.int .i64 c, .int .i64 d] 42)) (w.heap.size + 1) 42 #[.int .i64 c, .int .i64 d] by have h9 := (Blk.new (World.alloc w (Obj.cells #[.int .i64 a, .int .i64 b] 42)) 42 #[.int .i64 c, .int .i64 d]); (try simp only [World.size_alloc, World.size_setCell] at h9); exact h9).alloc (Obj.cells #[.int .i64 0, .int .i64 0] 42)).on hb1)
  have NR := Lib.hid ((show Blk (World.alloc (World.alloc (World.alloc w (Obj.cells #[.int .i64 a, .int .i64 b] 42)) (Obj.cells #[.int .i64 c, .int .i64 d] 42)) (Obj.cells #[.int .i64 0, .int .i64 0] 42)) (w.heap.size + 1 + 1) 42 #[.int .i64 0, .int .i64 0] by have h9 := (Blk.new (World.alloc (World.alloc w (Obj.cells #[.int .i64 a, .int .i64 b] 42)) (Obj.cells #[.int .i64 c, .int .i64 d] 42)) 42 #[.int .i64 0, .int .i64 0]); (try simp only [World.size_alloc, World.size_setCell] at h9); exact h9).on hb1)
  have A := NA; clear NA
  have B := NB; clear NB
  have R := NR; clear NR
  have Hb1 := Lib.hid (bthen (bal (bal (bal (Below.refl w.heap.size w) (Obj.cells #[.int .i64 a, .int .i64 b] 42)) (Obj.cells #[.int .i64 c, .int .i64 d] 42)) (Obj.cells #[.int .i64 0, .int .i64 0] 42)) hb1)
  clear hb1
  have qR0 : w1.cell? ⟨w.heap.size + 1 + 1, 0, none⟩ = some (.int .i64 0) := R.out.cell 0
  have qR1 : w1.cell? ⟨w.heap.size + 1 + 1, 1, none⟩ = some (.int .i64 0) := R.out.cell 1
  have qRl := R.out.lt
  have qRf0 := R.out.frozen 0
  have qRf1 := R.out.frozen 1
  go_wp2
  clear qR0 qR1 qRl qRf0 qRf1
  have R9R := (show Blk (World.setCell (World.setCell w1 ⟨w.heap.size + 1 + 1, 0, none⟩ (.int .i64 x)) ⟨w.heap.size + 1 + 1, 1, none⟩ (.int .i64 y)) (w.heap.size + 1 + 1) 42 #[.int .i64 x, .int .i64 y] by have h9 := ((R.out.set 0 (.int .i64 x)).set 1 (.int .i64 y)); simpa using h9)
  have kR0 := R9R.cell 0
  have kR1 := R9R.cell 1
  simp at kR0 kR1
  exact bodyPost_ret (v := .tuple #[.agg #[.int .i64 x, .int .i64 y], .bool ok]) (by simp [results, Tryz.results76, go_sem, kR0, kR1]) rfl ⟨rfl, (bst (bst Hb1.out (p := ⟨w.heap.size + 1 + 1, 0, none⟩) (show w.heap.size ≤ w.heap.size + 1 + 1 by have := S1.out; (try simp only [World.size_alloc, World.size_setCell, World.size_drew]); omega) (.int .i64 x)) (p := ⟨w.heap.size + 1 + 1, 1, none⟩) (show w.heap.size ≤ w.heap.size + 1 + 1 by have := S1.out; (try simp only [World.size_alloc, World.size_setCell, World.size_drew]); omega) (.int .i64 y))⟩
set_option linter.unusedSimpArgs false in
set_option maxHeartbeats 1600000 in
theorem divS_lit {a b c d x y : Int} {ok : Bool} (h : FrQ (divF 1000000000 (a, b) (c, d)) x y ok) (h1 : frB 1000000000 a b = true) (h2 : frB 1000000000 c d = true) (w : World) :
    Calls Tryz.prog 74 #[.agg #[.int .i64 a, .int .i64 b], .agg #[.int .i64 c, .int .i64 d]] w fun e w' => e = .returned (.tuple #[.agg #[.int .i64 x, .int .i64 y], .bool ok]) ∧ Below w.heap.size w w' := by
  obtain ⟨⟨m1, m2⟩, ⟨m3, m4⟩, ⟨m5, m6⟩, ⟨m7, m8⟩, m9, m10⟩ := FrBd.of h1 h2
  clear h1 h2
  by_cases hc0 : c = 0
  · subst hc0
    obtain ⟨rfl, rfl, rfl⟩ : x = 0 ∧ y = 0 ∧ ok = false := by unfold divF at h; rw [if_pos rfl] at h; exact h
    go_enter Tryz.func74, Tryz.ntmps74
    go_wp2
    have R9R := (show Blk (World.alloc (World.alloc (World.alloc w (Obj.cells #[.int .i64 a, .int .i64 b] 42)) (Obj.cells #[.int .i64 0, .int .i64 d] 42)) (Obj.cells #[.int .i64 0, .int .i64 0] 42)) (w.heap.size + 1 + 1) 42 #[.int .i64 0, .int .i64 0] by have h9 := (Blk.new (World.alloc (World.alloc w (Obj.cells #[.int .i64 a, .int .i64 b] 42)) (Obj.cells #[.int .i64 0, .int .i64 d] 42)) 42 #[.int .i64 0, .int .i64 0]); (try simp only [World.size_alloc, World.size_setCell] at h9); exact h9)
    have kR0 := R9R.cell 0
    have kR1 := R9R.cell 1
    simp at kR0 kR1
    exact bodyPost_ret (v := .tuple #[.agg #[.int .i64 0, .int .i64 0], .bool false]) (by simp [results, Tryz.results74, go_sem, kR0, kR1]) rfl ⟨rfl, (bal (bal (bal (Below.refl w.heap.size w) (Obj.cells #[.int .i64 a, .int .i64 b] 42)) (Obj.cells #[.int .i64 0, .int .i64 d] 42)) (Obj.cells #[.int .i64 0, .int .i64 0] 42))⟩
  · unfold divF at h
    rw [if_neg hc0] at h
    have hbc : b * c ≠ 0 := Int.mul_ne_zero (by intro e; rw [e, Int.zero_mul] at m7; omega) hc0
    go_enter Tryz.func74, Tryz.ntmps74
    replace h : FrQ (mkF 1000000000 (a * d) (b * c)) x y ok := h
    go_wp2_with fail
    refine (mkS_lit h _ (by omega) (by omega)).mono ?_; rintro e w1 ⟨rfl, hb1⟩
    have S1 := Lib.hid (show w.heap.size + 3 ≤ w1.heap.size by have h9 := hb1.size; (try simp only [World.size_alloc, World.size_setCell, World.size_drew] at h9); omega)
    have NA := Lib.hid ((((Blk.new w 42 #[.int .i64 a, .int .i64 b]).alloc (Obj.cells #[.int .i64 c, .int .i64 d] 42)).alloc (Obj.cells #[.int .i64 0, .int .i64 0] 42)).on hb1)
    have NB := Lib.hid (((show Blk (World.alloc (World.alloc w (Obj.cells #[.int .i64 a, .int .i64 b] 42)) (Obj.cells #[.int .i64 c, .int .i64 d] 42)) (w.heap.size + 1) 42 #[.int .i64 c, .int .i64 d] by have h9 := (Blk.new (World.alloc w (Obj.cells #[.int .i64 a, .int .i64 b] 42)) 42 #[.int .i64 c, .int .i64 d]); (try simp only [World.size_alloc, World.size_setCell] at h9); exact h9).alloc (Obj.cells #[.int .i64 0, .int .i64 0] 42)).on hb1)
    have NR := Lib.hid ((show Blk (World.alloc (World.alloc (World.alloc w (Obj.cells #[.int .i64 a, .int .i64 b] 42)) (Obj.cells #[.int .i64 c, .int .i64 d] 42)) (Obj.cells #[.int .i64 0, .int .i64 0] 42)) (w.heap.size + 1 + 1) 42 #[.int .i64 0, .int .i64 0] by have h9 := (Blk.new (World.alloc (World.alloc w (Obj.cells #[.int .i64 a, .int .i64 b] 42)) (Obj.cells #[.int .i64 c, .int .i64 d] 42)) 42 #[.int .i64 0, .int .i64 0]); (try simp only [World.size_alloc, World.size_setCell] at h9); exact h9).on hb1)
    have A := NA; clear NA
    have B := NB; clear NB
    have R := NR; clear NR
    have Hb1 := Lib.hid (bthen (bal (bal (bal (Below.refl w.heap.size w) (Obj.cells #[.int .i64 a, .int .i64 b] 42)) (Obj.cells #[.int .i64 c, .int .i64 d] 42)) (Obj.cells #[.int .i64 0, .int .i64 0] 42)) hb1)
    clear hb1
    have qR0 : w1.cell? ⟨w.heap.size + 1 + 1, 0, none⟩ = some (.int .i64 0) := R.out.cell 0
    have qR1 : w1.cell? ⟨w.heap.size + 1 + 1, 1, none⟩ = some (.int .i64 0) := R.out.cell 1
    have qRl := R.out.lt
    have qRf0 := R.out.frozen 0
    have qRf1 := R.out.frozen 1
    go_wp2
    clear qR0 qR1 qRl qRf0 qRf1
    have R9R := (show Blk (World.setCell (World.setCell w1 ⟨w.heap.size + 1 + 1, 0, none⟩ (.int .i64 x)) ⟨w.heap.size + 1 + 1, 1, none⟩ (.int .i64 y)) (w.heap.size + 1 + 1) 42 #[.int .i64 x, .int .i64 y] by have h9 := ((R.out.set 0 (.int .i64 x)).set 1 (.int .i64 y)); simpa using h9)
    have kR0 := R9R.cell 0
    have kR1 := R9R.cell 1
    simp at kR0 kR1
    exact bodyPost_ret (v := .tuple #[.agg #[.int .i64 x, .int .i64 y], .bool ok]) (by simp [results, Tryz.results74, go_sem, kR0, kR1]) rfl ⟨rfl, (bst (bst Hb1.out (p := ⟨w.heap.size + 1 + 1, 0, none⟩) (show w.heap.size ≤ w.heap.size + 1 + 1 by have := S1.out; (try simp only [World.size_alloc, World.size_setCell, World.size_drew]); omega) (.int .i64 x)) (p := ⟨w.heap.size + 1 + 1, 1, none⟩) (show w.heap.size ≤ w.heap.size + 1 + 1 by have := S1.out; (try simp only [World.size_alloc, World.size_setCell, World.size_drew]); omega) (.int .i64 y))⟩
theorem fr_is {a b : Int} {k : Bool} (h : frB 1000000000 a b = k) (w : World) : Calls Tryz.prog 63 #[.agg #[.int .i64 a, .int .i64 b]] w fun e w' => e = .returned (.bool k) ∧ Below w.heap.size w w' := by
  rw [← h]; exact isFraction_any a b w
set_option linter.unusedSimpArgs false in
set_option maxHeartbeats 1600000 in
theorem sumI_lit {a b c d x y : Int} {ok : Bool} (h : FrQ (sumG (a, b) (c, d)) x y ok) (w : World) :
    Calls Tryz.prog 129 #[.agg #[.int .i64 a, .int .i64 b], .agg #[.int .i64 c, .int .i64 d]] w fun e w' => e = .returned (.tuple #[.agg #[.int .i64 x, .int .i64 y], .bool ok]) ∧ Below w.heap.size w w' := by
  cases h1 : frB 1000000000 a b
  · obtain ⟨rfl, rfl, rfl⟩ : x = 0 ∧ y = 0 ∧ ok = false := by unfold sumG at h; rw [if_neg (by show ¬ (frB 1000000000 a b && frB 1000000000 c d) = true; rw [h1, Bool.false_and]; simp)] at h; exact h
    go_enter Tryz.func129, Tryz.ntmps129
    go_wp2_with fail
    refine (fr_is h1 _).mono ?_; rintro e w1 ⟨rfl, hb1⟩
    have S1 := Lib.hid (show w.heap.size + 3 ≤ w1.heap.size by have h9 := hb1.size; (try simp only [World.size_alloc, World.size_setCell, World.size_drew] at h9); omega)
    have NA := Lib.hid ((((Blk.new w 42 #[.int .i64 a, .int .i64 b]).alloc (Obj.cells #[.int .i64 c, .int .i64 d] 42)).alloc (Obj.cells #[.int .i64 0, .int .i64 0] 42)).on hb1)
    have NB := Lib.hid (((show Blk (World.alloc (World.alloc w (Obj.cells #[.int .i64 a, .int .i64 b] 42)) (Obj.cells #[.int .i64 c, .int .i64 d] 42)) (w.heap.size + 1) 42 #[.int .i64 c, .int .i64 d] by have h9 := (Blk.new (World.alloc w (Obj.cells #[.int .i64 a, .int .i64 b] 42)) 42 #[.int .i64 c, .int .i64 d]); (try simp only [World.size_alloc, World.size_setCell] at h9); exact h9).alloc (Obj.cells #[.int .i64 0, .int .i64 0] 42)).on hb1)
    have NR := Lib.hid ((show Blk (World.alloc (World.alloc (World.alloc w (Obj.cells #[.int .i64 a, .int .i64 b] 42)) (Obj.cells #[.int .i64 c, .int .i64 d] 42)) (Obj.cells #[.int .i64 0, .int .i64 0] 42)) (w.heap.size + 1 + 1) 42 #[.int .i64 0, .int .i64 0] by have h9 := (Blk.new (World.alloc (World.alloc w (Obj.cells #[.int .i64 a, .int .i64 b] 42)) (Obj.cells #[.int .i64 c, .int .i64 d] 42)) 42 #[.int .i64 0, .int .i64 0]); (try simp only [World.size_alloc, World.size_setCell] at h9); exact h9).on hb1)
    have A := NA; clear NA
    have B := NB; clear NB
    have R := NR; clear NR
    have Hb1 := Lib.hid (bthen (bal (bal (bal (Below.refl w.heap.size w) (Obj.cells #[.int .i64 a, .int .i64 b] 42)) (Obj.cells #[.int .i64 c, .int .i64 d] 42)) (Obj.cells #[.int .i64 0, .int .i64 0] 42)) hb1)
    clear hb1
    have qR0 : w1.cell? ⟨w.heap.size + 1 + 1, 0, none⟩ = some (.int .i64 0) := R.out.cell 0
    have qR1 : w1.cell? ⟨w.heap.size + 1 + 1, 1, none⟩ = some (.int .i64 0) := R.out.cell 1
    have qRl := R.out.lt
    have qRf0 := R.out.frozen 0
    have qRf1 := R.out.frozen 1
    go_wp2
    clear qR0 qR1 qRl qRf0 qRf1
    have R9R := (show Blk (World.setCell (World.setCell w1 ⟨w.heap.size + 1 + 1, 0, none⟩ (.int .i64 0)) ⟨w.heap.size + 1 + 1, 1, none⟩ (.int .i64 0)) (w.heap.size + 1 + 1) 42 #[.int .i64 0, .int .i64 0] by have h9 := ((R.out.set 0 (.int .i64 0)).set 1 (.int .i64 0)); simpa using h9)
    have kR0 := R9R.cell 0
    have kR1 := R9R.cell 1
    simp at kR0 kR1
    exact bodyPost_ret (v := .tuple #[.agg #[.int .i64 0, .int .i64 0], .bool false]) (by simp [results, Tryz.results129, go_sem, kR0, kR1]) rfl ⟨rfl, (bst (bst Hb1.out (p := ⟨w.heap.size + 1 + 1, 0, none⟩) (show w.heap.size ≤ w.heap.size + 1 + 1 by have := S1.out; (try simp only [World.size_alloc, World.size_setCell, World.size_drew]); omega) (.int .i64 0)) (p := ⟨w.heap.size + 1 + 1, 1, none⟩) (show w.heap.size ≤ w.heap.size + 1 + 1 by have := S1.out; (try simp only [World.size_alloc, World.size_setCell, World.size_drew]); omega) (.int .i64 0))⟩
  · cases h2 : frB 1000000000 c d
    · obtain ⟨rfl, rfl, rfl⟩ : x = 0 ∧ y = 0 ∧ ok = false := by unfold sumG at h; rw [if_neg (by show ¬ (frB 1000000000 a b && frB 1000000000 c d) = true; rw [h2, Bool.and_false]; simp)] at h; exact h
      go_enter Tryz.func129, Tryz.ntmps129
      go_wp2_with fail
      refine (fr_is h1 _).mono ?_; rintro e w2 ⟨rfl, hb2⟩
      have S2 := Lib.hid (show w.heap.size + 3 ≤ w2.heap.size by have h9 := hb2.size; (try simp only [World.size_alloc, World.size_setCell, World.size_drew] at h9); omega)
      have NA := Lib.hid ((((Blk.new w 42 #[.int .i64 a, .int .i64 b]).alloc (Obj.cells #[.int .i64 c, .int .i64 d] 42)).alloc (Obj.cells #[.int .i64 0, .int .i64 0] 42)).on hb2)
      have NB := Lib.hid (((show Blk (World.alloc (World.alloc w (Obj.cells #[.int .i64 a, .int .i64 b] 42)) (Obj.cells #[.int .i64 c, .int .i64 d] 42)) (w.heap.size + 1) 42 #[.int .i64 c, .int .i64 d] by have h9 := (Blk.new (World.alloc w (Obj.cells #[.int .i64 a, .int .i64 b] 42)) 42 #[.int .i64 c, .int .i64 d]); (try simp only [World.size_alloc, World.size_setCell] at h9); exact h9).alloc (Obj.cells #[.int .i64 0, .int .i64 0] 42)).on hb2)
      have NR := Lib.hid ((show Blk (World.alloc (World.alloc (World.alloc w (Obj.cells #[.int .i64 a, .int .i64 b] 42)) (Obj.cells #[.int .i64 c, .int .i64 d] 42)) (Obj.cells #[.int .i64 0, .int .i64 0] 42)) (w.heap.size + 1 + 1) 42 #[.int .i64 0, .int .i64 0] by have h9 := (Blk.new (World.alloc (World.alloc w (Obj.cells #[.int .i64 a, .int .i64 b] 42)) (Obj.cells #[.int .i64 c, .int .i64 d] 42)) 42 #[.int .i64 0, .int .i64 0]); (try simp only [World.size_alloc, World.size_setCell] at h9); exact h9).on hb2)
      have A := NA; clear NA
      have B := NB; clear NB
      have R := NR; clear NR
      have Hb2 := Lib.hid (bthen (bal (bal (bal (Below.refl w.heap.size w) (Obj.cells #[.int .i64 a, .int .i64 b] 42)) (Obj.cells #[.int .i64 c, .int .i64 d] 42)) (Obj.cells #[.int .i64 0, .int .i64 0] 42)) hb2)
      clear hb2
      have qB0 : w2.cell? ⟨w.heap.size + 1, 0, none⟩ = some (.int .i64 c) := B.out.cell 0
      have qB1 : w2.cell? ⟨w.heap.size + 1, 1, none⟩ = some (.int .i64 d) := B.out.cell 1
      have qBl := B.out.lt
      go_wp2_with fail
      clear qB0 qB1 qBl
      refine (fr_is h2 _).mono ?_; rintro e w3 ⟨rfl, hb3⟩
      have S3 := Lib.hid (show w2.heap.size + 0 ≤ w3.heap.size by have h9 := hb3.size; (try simp only [World.size_alloc, World.size_setCell, World.size_drew] at h9); omega)
      have NA := Lib.hid (A.out.on hb3)
      have NB := Lib.hid (B.out.on hb3)
      have NR := Lib.hid (R.out.on hb3)
      have A := NA; clear NA
      have B := NB; clear NB
      have R := NR; clear NR
      have Hb3 := Lib.hid (bthen Hb2.out hb3)
      clear hb3
      have qR0 : w3.cell? ⟨w.heap.size + 1 + 1, 0, none⟩ = some (.int .i64 0) := R.out.cell 0
      have qR1 : w3.cell? ⟨w.heap.size + 1 + 1, 1, none⟩ = some (.int .i64 0) := R.out.cell 1
      have qRl := R.out.lt
      have qRf0 := R.out.frozen 0
      have qRf1 := R.out.frozen 1
      go_wp2
      clear qR0 qR1 qRl qRf0 qRf1
      have R9R := (show Blk (World.setCell (World.setCell w3 ⟨w.heap.size + 1 + 1, 0, none⟩ (.int .i64 0)) ⟨w.heap.size + 1 + 1, 1, none⟩ (.int .i64 0)) (w.heap.size + 1 + 1) 42 #[.int .i64 0, .int .i64 0] by have h9 := ((R.out.set 0 (.int .i64 0)).set 1 (.int .i64 0)); simpa using h9)
      have kR0 := R9R.cell 0
      have kR1 := R9R.cell 1
      simp at kR0 kR1
      exact bodyPost_ret (v := .tuple #[.agg #[.int .i64 0, .int .i64 0], .bool false]) (by simp [results, Tryz.results129, go_sem, kR0, kR1]) rfl ⟨rfl, (bst (bst Hb3.out (p := ⟨w.heap.size + 1 + 1, 0, none⟩) (show w.heap.size ≤ w.heap.size + 1 + 1 by have := S2.out; have := S3.out; (try simp only [World.size_alloc, World.size_setCell, World.size_drew]); omega) (.int .i64 0)) (p := ⟨w.heap.size + 1 + 1, 1, none⟩) (show w.heap.size ≤ w.heap.size + 1 + 1 by have := S2.out; have := S3.out; (try simp only [World.size_alloc, World.size_setCell, World.size_drew]); omega) (.int .i64 0))⟩
    · replace h : FrQ (addF 1000000000 (a, b) (c, d)) x y ok := by unfold sumG at h; rw [if_pos (by show (frB 1000000000 a b && frB 1000000000 c d) = true; rw [h1, h2]; rfl)] at h; exact h
      obtain ⟨⟨m1, m2⟩, ⟨m3, m4⟩, ⟨m5, m6⟩, ⟨m7, m8⟩, m9, m10⟩ := FrBd.of h1 h2
      go_enter Tryz.func129, Tryz.ntmps129
      go_wp2_with fail
      refine (fr_is h1 _).mono ?_; rintro e w4 ⟨rfl, hb4⟩
      have S4 := Lib.hid (show w.heap.size + 3 ≤ w4.heap.size by have h9 := hb4.size; (try simp only [World.size_alloc, World.size_setCell, World.size_drew] at h9); omega)
      have NA := Lib.hid ((((Blk.new w 42 #[.int .i64 a, .int .i64 b]).alloc (Obj.cells #[.int .i64 c, .int .i64 d] 42)).alloc (Obj.cells #[.int .i64 0, .int .i64 0] 42)).on hb4)
      have NB := Lib.hid (((show Blk (World.alloc (World.alloc w (Obj.cells #[.int .i64 a, .int .i64 b] 42)) (Obj.cells #[.int .i64 c, .int .i64 d] 42)) (w.heap.size + 1) 42 #[.int .i64 c, .int .i64 d] by have h9 := (Blk.new (World.alloc w (Obj.cells #[.int .i64 a, .int .i64 b] 42)) 42 #[.int .i64 c, .int .i64 d]); (try simp only [World.size_alloc, World.size_setCell] at h9); exact h9).alloc (Obj.cells #[.int .i64 0, .int .i64 0] 42)).on hb4)
      have NR := Lib.hid ((show Blk (World.alloc (World.alloc (World.alloc w (Obj.cells #[.int .i64 a, .int .i64 b] 42)) (Obj.cells #[.int .i64 c, .int .i64 d] 42)) (Obj.cells #[.int .i64 0, .int .i64 0] 42)) (w.heap.size + 1 + 1) 42 #[.int .i64 0, .int .i64 0] by have h9 := (Blk.new (World.alloc (World.alloc w (Obj.cells #[.int .i64 a, .int .i64 b] 42)) (Obj.cells #[.int .i64 c, .int .i64 d] 42)) 42 #[.int .i64 0, .int .i64 0]); (try simp only [World.size_alloc, World.size_setCell] at h9); exact h9).on hb4)
      have A := NA; clear NA
      have B := NB; clear NB
      have R := NR; clear NR
      have Hb4 := Lib.hid (bthen (bal (bal (bal (Below.refl w.heap.size w) (Obj.cells #[.int .i64 a, .int .i64 b] 42)) (Obj.cells #[.int .i64 c, .int .i64 d] 42)) (Obj.cells #[.int .i64 0, .int .i64 0] 42)) hb4)
      clear hb4
      have qB0 : w4.cell? ⟨w.heap.size + 1, 0, none⟩ = some (.int .i64 c) := B.out.cell 0
      have qB1 : w4.cell? ⟨w.heap.size + 1, 1, none⟩ = some (.int .i64 d) := B.out.cell 1
      have qBl := B.out.lt
      go_wp2_with fail
      clear qB0 qB1 qBl
      refine (fr_is h2 _).mono ?_; rintro e w5 ⟨rfl, hb5⟩
      have S5 := Lib.hid (show w4.heap.size + 0 ≤ w5.heap.size by have h9 := hb5.size; (try simp only [World.size_alloc, World.size_setCell, World.size_drew] at h9); omega)
      have NA := Lib.hid (A.out.on hb5)
      have NB := Lib.hid (B.out.on hb5)
      have NR := Lib.hid (R.out.on hb5)
      have A := NA; clear NA
      have B := NB; clear NB
      have R := NR; clear NR
      have Hb5 := Lib.hid (bthen Hb4.out hb5)
      clear hb5
      replace h : FrQ (mkF 1000000000 (a * d + c * b) (b * d)) x y ok := h
      have qA0 : w5.cell? ⟨w.heap.size, 0, none⟩ = some (.int .i64 a) := A.out.cell 0
      have qA1 : w5.cell? ⟨w.heap.size, 1, none⟩ = some (.int .i64 b) := A.out.cell 1
      have qAl := A.out.lt
      have qB0 : w5.cell? ⟨w.heap.size + 1, 0, none⟩ = some (.int .i64 c) := B.out.cell 0
      have qB1 : w5.cell? ⟨w.heap.size + 1, 1, none⟩ = some (.int .i64 d) := B.out.cell 1
      have qBl := B.out.lt
      go_wp2_with fail
      clear qA0 qA1 qAl qB0 qB1 qBl
      refine (mkI_lit h (by omega) _ (by omega) (by omega)).mono ?_; rintro e w6 ⟨rfl, hb6⟩
      have S6 := Lib.hid (show w5.heap.size + 0 ≤ w6.heap.size by have h9 := hb6.size; (try simp only [World.size_alloc, World.size_setCell, World.size_drew] at h9); omega)
      have NA := Lib.hid (A.out.on hb6)
      have NB := Lib.hid (B.out.on hb6)
      have NR := Lib.hid (R.out.on hb6)
      have A := NA; clear NA
      have B := NB; clear NB
      have R := NR; clear NR
      have Hb6 := Lib.hid (bthen Hb5.out hb6)
      clear hb6
      have qR0 : w6.cell? ⟨w.heap.size + 1 + 1, 0, none⟩ = some (.int .i64 0) := R.out.cell 0
      have qR1 : w6.cell? ⟨w.heap.size + 1 + 1, 1, none⟩ = some (.int .i64 0) := R.out.cell 1
      have qRl := R.out.lt
      have qRf0 := R.out.frozen 0
      have qRf1 := R.out.frozen 1
      go_wp2
      clear qR0 qR1 qRl qRf0 qRf1
      have R9R := (show Blk (World.setCell (World.setCell w6 ⟨w.heap.size + 1 + 1, 0, none⟩ (.int .i64 x)) ⟨w.heap.size + 1 + 1, 1, none⟩ (.int .i64 y)) (w.heap.size + 1 + 1) 42 #[.int .i64 x, .int .i64 y] by have h9 := ((R.out.set 0 (.int .i64 x)).set 1 (.int .i64 y)); simpa using h9)
      have kR0 := R9R.cell 0
      have kR1 := R9R.cell 1
      simp at kR0 kR1
      exact bodyPost_ret (v := .tuple #[.agg #[.int .i64 x, .int .i64 y], .bool ok]) (by simp [results, Tryz.results129, go_sem, kR0, kR1]) rfl ⟨rfl, (bst (bst Hb6.out (p := ⟨w.heap.size + 1 + 1, 0, none⟩) (show w.heap.size ≤ w.heap.size + 1 + 1 by have := S4.out; have := S5.out; have := S6.out; (try simp only [World.size_alloc, World.size_setCell, World.size_drew]); omega) (.int .i64 x)) (p := ⟨w.heap.size + 1 + 1, 1, none⟩) (show w.heap.size ≤ w.heap.size + 1 + 1 by have := S4.out; have := S5.out; have := S6.out; (try simp only [World.size_alloc, World.size_setCell, World.size_drew]); omega) (.int .i64 y))⟩
set_option linter.unusedSimpArgs false in
set_option maxHeartbeats 1600000 in
theorem difI_lit {a b c d x y : Int} {ok : Bool} (h : FrQ (difG (a, b) (c, d)) x y ok) (w : World) :
    Calls Tryz.prog 131 #[.agg #[.int .i64 a, .int .i64 b], .agg #[.int .i64 c, .int .i64 d]] w fun e w' => e = .returned (.tuple #[.agg #[.int .i64 x, .int .i64 y], .bool ok]) ∧ Below w.heap.size w w' := by
  cases h1 : frB 1000000000 a b
  · obtain ⟨rfl, rfl, rfl⟩ : x = 0 ∧ y = 0 ∧ ok = false := by unfold difG at h; rw [if_neg (by show ¬ (frB 1000000000 a b && frB 1000000000 c d) = true; rw [h1, Bool.false_and]; simp)] at h; exact h
    go_enter Tryz.func131, Tryz.ntmps131
    go_wp2_with fail
    refine (fr_is h1 _).mono ?_; rintro e w1 ⟨rfl, hb1⟩
    have S1 := Lib.hid (show w.heap.size + 3 ≤ w1.heap.size by have h9 := hb1.size; (try simp only [World.size_alloc, World.size_setCell, World.size_drew] at h9); omega)
    have NA := Lib.hid ((((Blk.new w 42 #[.int .i64 a, .int .i64 b]).alloc (Obj.cells #[.int .i64 c, .int .i64 d] 42)).alloc (Obj.cells #[.int .i64 0, .int .i64 0] 42)).on hb1)
    have NB := Lib.hid (((show Blk (World.alloc (World.alloc w (Obj.cells #[.int .i64 a, .int .i64 b] 42)) (Obj.cells #[.int .i64 c, .int .i64 d] 42)) (w.heap.size + 1) 42 #[.int .i64 c, .int .i64 d] by have h9 := (Blk.new (World.alloc w (Obj.cells #[.int .i64 a, .int .i64 b] 42)) 42 #[.int .i64 c, .int .i64 d]); (try simp only [World.size_alloc, World.size_setCell] at h9); exact h9).alloc (Obj.cells #[.int .i64 0, .int .i64 0] 42)).on hb1)
    have NR := Lib.hid ((show Blk (World.alloc (World.alloc (World.alloc w (Obj.cells #[.int .i64 a, .int .i64 b] 42)) (Obj.cells #[.int .i64 c, .int .i64 d] 42)) (Obj.cells #[.int .i64 0, .int .i64 0] 42)) (w.heap.size + 1 + 1) 42 #[.int .i64 0, .int .i64 0] by have h9 := (Blk.new (World.alloc (World.alloc w (Obj.cells #[.int .i64 a, .int .i64 b] 42)) (Obj.cells #[.int .i64 c, .int .i64 d] 42)) 42 #[.int .i64 0, .int .i64 0]); (try simp only [World.size_alloc, World.size_setCell] at h9); exact h9).on hb1)
    have A := NA; clear NA
    have B := NB; clear NB
    have R := NR; clear NR
    have Hb1 := Lib.hid (bthen (bal (bal (bal (Below.refl w.heap.size w) (Obj.cells #[.int .i64 a, .int .i64 b] 42)) (Obj.cells #[.int .i64 c, .int .i64 d] 42)) (Obj.cells #[.int .i64 0, .int .i64 0] 42)) hb1)
    clear hb1
    have qR0 : w1.cell? ⟨w.heap.size + 1 + 1, 0, none⟩ = some (.int .i64 0) := R.out.cell 0
    have qR1 : w1.cell? ⟨w.heap.size + 1 + 1, 1, none⟩ = some (.int .i64 0) := R.out.cell 1
    have qRl := R.out.lt
    have qRf0 := R.out.frozen 0
    have qRf1 := R.out.frozen 1
    go_wp2
    clear qR0 qR1 qRl qRf0 qRf1
    have R9R := (show Blk (World.setCell (World.setCell w1 ⟨w.heap.size + 1 + 1, 0, none⟩ (.int .i64 0)) ⟨w.heap.size + 1 + 1, 1, none⟩ (.int .i64 0)) (w.heap.size + 1 + 1) 42 #[.int .i64 0, .int .i64 0] by have h9 := ((R.out.set 0 (.int .i64 0)).set 1 (.int .i64 0)); simpa using h9)
    have kR0 := R9R.cell 0
    have kR1 := R9R.cell 1
    simp at kR0 kR1
    exact bodyPost_ret (v := .tuple #[.agg #[.int .i64 0, .int .i64 0], .bool false]) (by simp [results, Tryz.results131, go_sem, kR0, kR1]) rfl ⟨rfl, (bst (bst Hb1.out (p := ⟨w.heap.size + 1 + 1, 0, none⟩) (show w.heap.size ≤ w.heap.size + 1 + 1 by have := S1.out; (try simp only [World.size_alloc, World.size_setCell, World.size_drew]); omega) (.int .i64 0)) (p := ⟨w.heap.size + 1 + 1, 1, none⟩) (show w.heap.size ≤ w.heap.size + 1 + 1 by have := S1.out; (try simp only [World.size_alloc, World.size_setCell, World.size_drew]); omega) (.int .i64 0))⟩
  · cases h2 : frB 1000000000 c d
    · obtain ⟨rfl, rfl, rfl⟩ : x = 0 ∧ y = 0 ∧ ok = false := by unfold difG at h; rw [if_neg (by show ¬ (frB 1000000000 a b && frB 1000000000 c d) = true; rw [h2, Bool.and_false]; simp)] at h; exact h
      go_enter Tryz.func131, Tryz.ntmps131
      go_wp2_with fail
      refine (fr_is h1 _).mono ?_; rintro e w2 ⟨rfl, hb2⟩
      have S2 := Lib.hid (show w.heap.size + 3 ≤ w2.heap.size by have h9 := hb2.size; (try simp only [World.size_alloc, World.size_setCell, World.size_drew] at h9); omega)
      have NA := Lib.hid ((((Blk.new w 42 #[.int .i64 a, .int .i64 b]).alloc (Obj.cells #[.int .i64 c, .int .i64 d] 42)).alloc (Obj.cells #[.int .i64 0, .int .i64 0] 42)).on hb2)
      have NB := Lib.hid (((show Blk (World.alloc (World.alloc w (Obj.cells #[.int .i64 a, .int .i64 b] 42)) (Obj.cells #[.int .i64 c, .int .i64 d] 42)) (w.heap.size + 1) 42 #[.int .i64 c, .int .i64 d] by have h9 := (Blk.new (World.alloc w (Obj.cells #[.int .i64 a, .int .i64 b] 42)) 42 #[.int .i64 c, .int .i64 d]); (try simp only [World.size_alloc, World.size_setCell] at h9); exact h9).alloc (Obj.cells #[.int .i64 0, .int .i64 0] 42)).on hb2)
      have NR := Lib.hid ((show Blk (World.alloc (World.alloc (World.alloc w (Obj.cells #[.int .i64 a, .int .i64 b] 42)) (Obj.cells #[.int .i64 c, .int .i64 d] 42)) (Obj.cells #[.int .i64 0, .int .i64 0] 42)) (w.heap.size + 1 + 1) 42 #[.int .i64 0, .int .i64 0] by have h9 := (Blk.new (World.alloc (World.alloc w (Obj.cells #[.int .i64 a, .int .i64 b] 42)) (Obj.cells #[.int .i64 c, .int .i64 d] 42)) 42 #[.int .i64 0, .int .i64 0]); (try simp only [World.size_alloc, World.size_setCell] at h9); exact h9).on hb2)
      have A := NA; clear NA
      have B := NB; clear NB
      have R := NR; clear NR
      have Hb2 := Lib.hid (bthen (bal (bal (bal (Below.refl w.heap.size w) (Obj.cells #[.int .i64 a, .int .i64 b] 42)) (Obj.cells #[.int .i64 c, .int .i64 d] 42)) (Obj.cells #[.int .i64 0, .int .i64 0] 42)) hb2)
      clear hb2
      have qB0 : w2.cell? ⟨w.heap.size + 1, 0, none⟩ = some (.int .i64 c) := B.out.cell 0
      have qB1 : w2.cell? ⟨w.heap.size + 1, 1, none⟩ = some (.int .i64 d) := B.out.cell 1
      have qBl := B.out.lt
      go_wp2_with fail
      clear qB0 qB1 qBl
      refine (fr_is h2 _).mono ?_; rintro e w3 ⟨rfl, hb3⟩
      have S3 := Lib.hid (show w2.heap.size + 0 ≤ w3.heap.size by have h9 := hb3.size; (try simp only [World.size_alloc, World.size_setCell, World.size_drew] at h9); omega)
      have NA := Lib.hid (A.out.on hb3)
      have NB := Lib.hid (B.out.on hb3)
      have NR := Lib.hid (R.out.on hb3)
      have A := NA; clear NA
      have B := NB; clear NB
      have R := NR; clear NR
      have Hb3 := Lib.hid (bthen Hb2.out hb3)
      clear hb3
      have qR0 : w3.cell? ⟨w.heap.size + 1 + 1, 0, none⟩ = some (.int .i64 0) := R.out.cell 0
      have qR1 : w3.cell? ⟨w.heap.size + 1 + 1, 1, none⟩ = some (.int .i64 0) := R.out.cell 1
      have qRl := R.out.lt
      have qRf0 := R.out.frozen 0
      have qRf1 := R.out.frozen 1
      go_wp2
      clear qR0 qR1 qRl qRf0 qRf1
      have R9R := (show Blk (World.setCell (World.setCell w3 ⟨w.heap.size + 1 + 1, 0, none⟩ (.int .i64 0)) ⟨w.heap.size + 1 + 1, 1, none⟩ (.int .i64 0)) (w.heap.size + 1 + 1) 42 #[.int .i64 0, .int .i64 0] by have h9 := ((R.out.set 0 (.int .i64 0)).set 1 (.int .i64 0)); simpa using h9)
      have kR0 := R9R.cell 0
      have kR1 := R9R.cell 1
      simp at kR0 kR1
      exact bodyPost_ret (v := .tuple #[.agg #[.int .i64 0, .int .i64 0], .bool false]) (by simp [results, Tryz.results131, go_sem, kR0, kR1]) rfl ⟨rfl, (bst (bst Hb3.out (p := ⟨w.heap.size + 1 + 1, 0, none⟩) (show w.heap.size ≤ w.heap.size + 1 + 1 by have := S2.out; have := S3.out; (try simp only [World.size_alloc, World.size_setCell, World.size_drew]); omega) (.int .i64 0)) (p := ⟨w.heap.size + 1 + 1, 1, none⟩) (show w.heap.size ≤ w.heap.size + 1 + 1 by have := S2.out; have := S3.out; (try simp only [World.size_alloc, World.size_setCell, World.size_drew]); omega) (.int .i64 0))⟩
    · replace h : FrQ (subF 1000000000 (a, b) (c, d)) x y ok := by unfold difG at h; rw [if_pos (by show (frB 1000000000 a b && frB 1000000000 c d) = true; rw [h1, h2]; rfl)] at h; exact h
      obtain ⟨⟨m1, m2⟩, ⟨m3, m4⟩, ⟨m5, m6⟩, ⟨m7, m8⟩, m9, m10⟩ := FrBd.of h1 h2
      go_enter Tryz.func131, Tryz.ntmps131
      go_wp2_with fail
      refine (fr_is h1 _).mono ?_; rintro e w4 ⟨rfl, hb4⟩
      have S4 := Lib.hid (show w.heap.size + 3 ≤ w4.heap.size by have h9 := hb4.size; (try simp only [World.size_alloc, World.size_setCell, World.size_drew] at h9); omega)
      have NA := Lib.hid ((((Blk.new w 42 #[.int .i64 a, .int .i64 b]).alloc (Obj.cells #[.int .i64 c, .int .i64 d] 42)).alloc (Obj.cells #[.int .i64 0, .int .i64 0] 42)).on hb4)
      have NB := Lib.hid (((show Blk (World.alloc (World.alloc w (Obj.cells #[.int .i64 a, .int .i64 b] 42)) (Obj.cells #[.int .i64 c, .int .i64 d] 42)) (w.heap.size + 1) 42 #[.int .i64 c, .int .i64 d] by have h9 := (Blk.new (World.alloc w (Obj.cells #[.int .i64 a, .int .i64 b] 42)) 42 #[.int .i64 c, .int .i64 d]); (try simp only [World.size_alloc, World.size_setCell] at h9); exact h9).alloc (Obj.cells #[.int .i64 0, .int .i64 0] 42)).on hb4)
      have NR := Lib.hid ((show Blk (World.alloc (World.alloc (World.alloc w (Obj.cells #[.int .i64 a, .int .i64 b] 42)) (Obj.cells #[.int .i64 c, .int .i64 d] 42)) (Obj.cells #[.int .i64 0, .int .i64 0] 42)) (w.heap.size + 1 + 1) 42 #[.int .i64 0, .int .i64 0] by have h9 := (Blk.new (World.alloc (World.alloc w (Obj.cells #[.int .i64 a, .int .i64 b] 42)) (Obj.cells #[.int .i64 c, .int .i64 d] 42)) 42 #[.int .i64 0, .int .i64 0]); (try simp only [World.size_alloc, World.size_setCell] at h9); exact h9).on hb4)
      have A := NA; clear NA
      have B := NB; clear NB
      have R := NR; clear NR
      have Hb4 := Lib.hid (bthen (bal (bal (bal (Below.refl w.heap.size w) (Obj.cells #[.int .i64 a, .int .i64 b] 42)) (Obj.cells #[.int .i64 c, .int .i64 d] 42)) (Obj.cells #[.int .i64 0, .int .i64 0] 42)) hb4)
      clear hb4
      have qB0 : w4.cell? ⟨w.heap.size + 1, 0, none⟩ = some (.int .i64 c) := B.out.cell 0
      have qB1 : w4.cell? ⟨w.heap.size + 1, 1, none⟩ = some (.int .i64 d) := B.out.cell 1
      have qBl := B.out.lt
      go_wp2_with fail
      clear qB0 qB1 qBl
      refine (fr_is h2 _).mono ?_; rintro e w5 ⟨rfl, hb5⟩
      have S5 := Lib.hid (show w4.heap.size + 0 ≤ w5.heap.size by have h9 := hb5.size; (try simp only [World.size_alloc, World.size_setCell, World.size_drew] at h9); omega)
      have NA := Lib.hid (A.out.on hb5)
      have NB := Lib.hid (B.out.on hb5)
      have NR := Lib.hid (R.out.on hb5)
      have A := NA; clear NA
      have B := NB; clear NB
      have R := NR; clear NR
      have Hb5 := Lib.hid (bthen Hb4.out hb5)
      clear hb5
      replace h : FrQ (mkF 1000000000 (a * d - c * b) (b * d)) x y ok := h
      have qA0 : w5.cell? ⟨w.heap.size, 0, none⟩ = some (.int .i64 a) := A.out.cell 0
      have qA1 : w5.cell? ⟨w.heap.size, 1, none⟩ = some (.int .i64 b) := A.out.cell 1
      have qAl := A.out.lt
      have qB0 : w5.cell? ⟨w.heap.size + 1, 0, none⟩ = some (.int .i64 c) := B.out.cell 0
      have qB1 : w5.cell? ⟨w.heap.size + 1, 1, none⟩ = some (.int .i64 d) := B.out.cell 1
      have qBl := B.out.lt
      go_wp2_with fail
      clear qA0 qA1 qAl qB0 qB1 qBl
      refine (mkI_lit h (by omega) _ (by omega) (by omega)).mono ?_; rintro e w6 ⟨rfl, hb6⟩
      have S6 := Lib.hid (show w5.heap.size + 0 ≤ w6.heap.size by have h9 := hb6.size; (try simp only [World.size_alloc, World.size_setCell, World.size_drew] at h9); omega)
      have NA := Lib.hid (A.out.on hb6)
      have NB := Lib.hid (B.out.on hb6)
      have NR := Lib.hid (R.out.on hb6)
      have A := NA; clear NA
      have B := NB; clear NB
      have R := NR; clear NR
      have Hb6 := Lib.hid (bthen Hb5.out hb6)
      clear hb6
      have qR0 : w6.cell? ⟨w.heap.size + 1 + 1, 0, none⟩ = some (.int .i64 0) := R.out.cell 0
      have qR1 : w6.cell? ⟨w.heap.size + 1 + 1, 1, none⟩ = some (.int .i64 0) := R.out.cell 1
      have qRl := R.out.lt
      have qRf0 := R.out.frozen 0
      have qRf1 := R.out.frozen 1
      go_wp2
      clear qR0 qR1 qRl qRf0 qRf1
      have R9R := (show Blk (World.setCell (World.setCell w6 ⟨w.heap.size + 1 + 1, 0, none⟩ (.int .i64 x)) ⟨w.heap.size + 1 + 1, 1, none⟩ (.int .i64 y)) (w.heap.size + 1 + 1) 42 #[.int .i64 x, .int .i64 y] by have h9 := ((R.out.set 0 (.int .i64 x)).set 1 (.int .i64 y)); simpa using h9)
      have kR0 := R9R.cell 0
      have kR1 := R9R.cell 1
      simp at kR0 kR1
      exact bodyPost_ret (v := .tuple #[.agg #[.int .i64 x, .int .i64 y], .bool ok]) (by simp [results, Tryz.results131, go_sem, kR0, kR1]) rfl ⟨rfl, (bst (bst Hb6.out (p := ⟨w.heap.size + 1 + 1, 0, none⟩) (show w.heap.size ≤ w.heap.size + 1 + 1 by have := S4.out; have := S5.out; have := S6.out; (try simp only [World.size_alloc, World.size_setCell, World.size_drew]); omega) (.int .i64 x)) (p := ⟨w.heap.size + 1 + 1, 1, none⟩) (show w.heap.size ≤ w.heap.size + 1 + 1 by have := S4.out; have := S5.out; have := S6.out; (try simp only [World.size_alloc, World.size_setCell, World.size_drew]); omega) (.int .i64 y))⟩
set_option linter.unusedSimpArgs false in
set_option maxHeartbeats 1600000 in
theorem prodI_lit {a b c d x y : Int} {ok : Bool} (h : FrQ (mulG (a, b) (c, d)) x y ok) (w : World) :
    Calls Tryz.prog 128 #[.agg #[.int .i64 a, .int .i64 b], .agg #[.int .i64 c, .int .i64 d]] w fun e w' => e = .returned (.tuple #[.agg #[.int .i64 x, .int .i64 y], .bool ok]) ∧ Below w.heap.size w w' := by
  cases h1 : frB 1000000000 a b
  · obtain ⟨rfl, rfl, rfl⟩ : x = 0 ∧ y = 0 ∧ ok = false := by unfold mulG at h; rw [if_neg (by show ¬ (frB 1000000000 a b && frB 1000000000 c d) = true; rw [h1, Bool.false_and]; simp)] at h; exact h
    go_enter Tryz.func128, Tryz.ntmps128
    go_wp2_with fail
    refine (fr_is h1 _).mono ?_; rintro e w1 ⟨rfl, hb1⟩
    have S1 := Lib.hid (show w.heap.size + 3 ≤ w1.heap.size by have h9 := hb1.size; (try simp only [World.size_alloc, World.size_setCell, World.size_drew] at h9); omega)
    have NA := Lib.hid ((((Blk.new w 42 #[.int .i64 a, .int .i64 b]).alloc (Obj.cells #[.int .i64 c, .int .i64 d] 42)).alloc (Obj.cells #[.int .i64 0, .int .i64 0] 42)).on hb1)
    have NB := Lib.hid (((show Blk (World.alloc (World.alloc w (Obj.cells #[.int .i64 a, .int .i64 b] 42)) (Obj.cells #[.int .i64 c, .int .i64 d] 42)) (w.heap.size + 1) 42 #[.int .i64 c, .int .i64 d] by have h9 := (Blk.new (World.alloc w (Obj.cells #[.int .i64 a, .int .i64 b] 42)) 42 #[.int .i64 c, .int .i64 d]); (try simp only [World.size_alloc, World.size_setCell] at h9); exact h9).alloc (Obj.cells #[.int .i64 0, .int .i64 0] 42)).on hb1)
    have NR := Lib.hid ((show Blk (World.alloc (World.alloc (World.alloc w (Obj.cells #[.int .i64 a, .int .i64 b] 42)) (Obj.cells #[.int .i64 c, .int .i64 d] 42)) (Obj.cells #[.int .i64 0, .int .i64 0] 42)) (w.heap.size + 1 + 1) 42 #[.int .i64 0, .int .i64 0] by have h9 := (Blk.new (World.alloc (World.alloc w (Obj.cells #[.int .i64 a, .int .i64 b] 42)) (Obj.cells #[.int .i64 c, .int .i64 d] 42)) 42 #[.int .i64 0, .int .i64 0]); (try simp only [World.size_alloc, World.size_setCell] at h9); exact h9).on hb1)
    have A := NA; clear NA
    have B := NB; clear NB
    have R := NR; clear NR
    have Hb1 := Lib.hid (bthen (bal (bal (bal (Below.refl w.heap.size w) (Obj.cells #[.int .i64 a, .int .i64 b] 42)) (Obj.cells #[.int .i64 c, .int .i64 d] 42)) (Obj.cells #[.int .i64 0, .int .i64 0] 42)) hb1)
    clear hb1
    have qR0 : w1.cell? ⟨w.heap.size + 1 + 1, 0, none⟩ = some (.int .i64 0) := R.out.cell 0
    have qR1 : w1.cell? ⟨w.heap.size + 1 + 1, 1, none⟩ = some (.int .i64 0) := R.out.cell 1
    have qRl := R.out.lt
    have qRf0 := R.out.frozen 0
    have qRf1 := R.out.frozen 1
    go_wp2
    clear qR0 qR1 qRl qRf0 qRf1
    have R9R := (show Blk (World.setCell (World.setCell w1 ⟨w.heap.size + 1 + 1, 0, none⟩ (.int .i64 0)) ⟨w.heap.size + 1 + 1, 1, none⟩ (.int .i64 0)) (w.heap.size + 1 + 1) 42 #[.int .i64 0, .int .i64 0] by have h9 := ((R.out.set 0 (.int .i64 0)).set 1 (.int .i64 0)); simpa using h9)
    have kR0 := R9R.cell 0
    have kR1 := R9R.cell 1
    simp at kR0 kR1
    exact bodyPost_ret (v := .tuple #[.agg #[.int .i64 0, .int .i64 0], .bool false]) (by simp [results, Tryz.results128, go_sem, kR0, kR1]) rfl ⟨rfl, (bst (bst Hb1.out (p := ⟨w.heap.size + 1 + 1, 0, none⟩) (show w.heap.size ≤ w.heap.size + 1 + 1 by have := S1.out; (try simp only [World.size_alloc, World.size_setCell, World.size_drew]); omega) (.int .i64 0)) (p := ⟨w.heap.size + 1 + 1, 1, none⟩) (show w.heap.size ≤ w.heap.size + 1 + 1 by have := S1.out; (try simp only [World.size_alloc, World.size_setCell, World.size_drew]); omega) (.int .i64 0))⟩
  · cases h2 : frB 1000000000 c d
    · obtain ⟨rfl, rfl, rfl⟩ : x = 0 ∧ y = 0 ∧ ok = false := by unfold mulG at h; rw [if_neg (by show ¬ (frB 1000000000 a b && frB 1000000000 c d) = true; rw [h2, Bool.and_false]; simp)] at h; exact h
      go_enter Tryz.func128, Tryz.ntmps128
      go_wp2_with fail
      refine (fr_is h1 _).mono ?_; rintro e w2 ⟨rfl, hb2⟩
      have S2 := Lib.hid (show w.heap.size + 3 ≤ w2.heap.size by have h9 := hb2.size; (try simp only [World.size_alloc, World.size_setCell, World.size_drew] at h9); omega)
      have NA := Lib.hid ((((Blk.new w 42 #[.int .i64 a, .int .i64 b]).alloc (Obj.cells #[.int .i64 c, .int .i64 d] 42)).alloc (Obj.cells #[.int .i64 0, .int .i64 0] 42)).on hb2)
      have NB := Lib.hid (((show Blk (World.alloc (World.alloc w (Obj.cells #[.int .i64 a, .int .i64 b] 42)) (Obj.cells #[.int .i64 c, .int .i64 d] 42)) (w.heap.size + 1) 42 #[.int .i64 c, .int .i64 d] by have h9 := (Blk.new (World.alloc w (Obj.cells #[.int .i64 a, .int .i64 b] 42)) 42 #[.int .i64 c, .int .i64 d]); (try simp only [World.size_alloc, World.size_setCell] at h9); exact h9).alloc (Obj.cells #[.int .i64 0, .int .i64 0] 42)).on hb2)
      have NR := Lib.hid ((show Blk (World.alloc (World.alloc (World.alloc w (Obj.cells #[.int .i64 a, .int .i64 b] 42)) (Obj.cells #[.int .i64 c, .int .i64 d] 42)) (Obj.cells #[.int .i64 0, .int .i64 0] 42)) (w.heap.size + 1 + 1) 42 #[.int .i64 0, .int .i64 0] by have h9 := (Blk.new (World.alloc (World.alloc w (Obj.cells #[.int .i64 a, .int .i64 b] 42)) (Obj.cells #[.int .i64 c, .int .i64 d] 42)) 42 #[.int .i64 0, .int .i64 0]); (try simp only [World.size_alloc, World.size_setCell] at h9); exact h9).on hb2)
      have A := NA; clear NA
      have B := NB; clear NB
      have R := NR; clear NR
      have Hb2 := Lib.hid (bthen (bal (bal (bal (Below.refl w.heap.size w) (Obj.cells #[.int .i64 a, .int .i64 b] 42)) (Obj.cells #[.int .i64 c, .int .i64 d] 42)) (Obj.cells #[.int .i64 0, .int .i64 0] 42)) hb2)
      clear hb2
      have qB0 : w2.cell? ⟨w.heap.size + 1, 0, none⟩ = some (.int .i64 c) := B.out.cell 0
      have qB1 : w2.cell? ⟨w.heap.size + 1, 1, none⟩ = some (.int .i64 d) := B.out.cell 1
      have qBl := B.out.lt
      go_wp2_with fail
      clear qB0 qB1 qBl
      refine (fr_is h2 _).mono ?_; rintro e w3 ⟨rfl, hb3⟩
      have S3 := Lib.hid (show w2.heap.size + 0 ≤ w3.heap.size by have h9 := hb3.size; (try simp only [World.size_alloc, World.size_setCell, World.size_drew] at h9); omega)
      have NA := Lib.hid (A.out.on hb3)
      have NB := Lib.hid (B.out.on hb3)
      have NR := Lib.hid (R.out.on hb3)
      have A := NA; clear NA
      have B := NB; clear NB
      have R := NR; clear NR
      have Hb3 := Lib.hid (bthen Hb2.out hb3)
      clear hb3
      have qR0 : w3.cell? ⟨w.heap.size + 1 + 1, 0, none⟩ = some (.int .i64 0) := R.out.cell 0
      have qR1 : w3.cell? ⟨w.heap.size + 1 + 1, 1, none⟩ = some (.int .i64 0) := R.out.cell 1
      have qRl := R.out.lt
      have qRf0 := R.out.frozen 0
      have qRf1 := R.out.frozen 1
      go_wp2
      clear qR0 qR1 qRl qRf0 qRf1
      have R9R := (show Blk (World.setCell (World.setCell w3 ⟨w.heap.size + 1 + 1, 0, none⟩ (.int .i64 0)) ⟨w.heap.size + 1 + 1, 1, none⟩ (.int .i64 0)) (w.heap.size + 1 + 1) 42 #[.int .i64 0, .int .i64 0] by have h9 := ((R.out.set 0 (.int .i64 0)).set 1 (.int .i64 0)); simpa using h9)
      have kR0 := R9R.cell 0
      have kR1 := R9R.cell 1
      simp at kR0 kR1
      exact bodyPost_ret (v := .tuple #[.agg #[.int .i64 0, .int .i64 0], .bool false]) (by simp [results, Tryz.results128, go_sem, kR0, kR1]) rfl ⟨rfl, (bst (bst Hb3.out (p := ⟨w.heap.size + 1 + 1, 0, none⟩) (show w.heap.size ≤ w.heap.size + 1 + 1 by have := S2.out; have := S3.out; (try simp only [World.size_alloc, World.size_setCell, World.size_drew]); omega) (.int .i64 0)) (p := ⟨w.heap.size + 1 + 1, 1, none⟩) (show w.heap.size ≤ w.heap.size + 1 + 1 by have := S2.out; have := S3.out; (try simp only [World.size_alloc, World.size_setCell, World.size_drew]); omega) (.int .i64 0))⟩
    · replace h : FrQ (mulF 1000000000 (a, b) (c, d)) x y ok := by unfold mulG at h; rw [if_pos (by show (frB 1000000000 a b && frB 1000000000 c d) = true; rw [h1, h2]; rfl)] at h; exact h
      obtain ⟨⟨m1, m2⟩, ⟨m3, m4⟩, ⟨m5, m6⟩, ⟨m7, m8⟩, m9, m10⟩ := FrBd.of h1 h2
      go_enter Tryz.func128, Tryz.ntmps128
      go_wp2_with fail
      refine (fr_is h1 _).mono ?_; rintro e w4 ⟨rfl, hb4⟩
      have S4 := Lib.hid (show w.heap.size + 3 ≤ w4.heap.size by have h9 := hb4.size; (try simp only [World.size_alloc, World.size_setCell, World.size_drew] at h9); omega)
      have NA := Lib.hid ((((Blk.new w 42 #[.int .i64 a, .int .i64 b]).alloc (Obj.cells #[.int .i64 c, .int .i64 d] 42)).alloc (Obj.cells #[.int .i64 0, .int .i64 0] 42)).on hb4)
      have NB := Lib.hid (((show Blk (World.alloc (World.alloc w (Obj.cells #[.int .i64 a, .int .i64 b] 42)) (Obj.cells #[.int .i64 c, .int .i64 d] 42)) (w.heap.size + 1) 42 #[.int .i64 c, .int .i64 d] by have h9 := (Blk.new (World.alloc w (Obj.cells #[.int .i64 a, .int .i64 b] 42)) 42 #[.int .i64 c, .int .i64 d]); (try simp only [World.size_alloc, World.size_setCell] at h9); exact h9).alloc (Obj.cells #[.int .i64 0, .int .i64 0] 42)).on hb4)
      have NR := Lib.hid ((show Blk (World.alloc (World.alloc (World.alloc w (Obj.cells #[.int .i64 a, .int .i64 b] 42)) (Obj.cells #[.int .i64 c, .int .i64 d] 42)) (Obj.cells #[.int .i64 0, .int .i64 0] 42)) (w.heap.size + 1 + 1) 42 #[.int .i64 0, .int .i64 0] by have h9 := (Blk.new (World.alloc (World.alloc w (Obj.cells #[.int .i64 a, .int .i64 b] 42)) (Obj.cells #[.int .i64 c, .int .i64 d] 42)) 42 #[.int .i64 0, .int .i64 0]); (try simp only [World.size_alloc, World.size_setCell] at h9); exact h9).on hb4)
      have A := NA; clear NA
      have B := NB; clear NB
      have R := NR; clear NR
      have Hb4 := Lib.hid (bthen (bal (bal (bal (Below.refl w.heap.size w) (Obj.cells #[.int .i64 a, .int .i64 b] 42)) (Obj.cells #[.int .i64 c, .int .i64 d] 42)) (Obj.cells #[.int .i64 0, .int .i64 0] 42)) hb4)
      clear hb4
      have qB0 : w4.cell? ⟨w.heap.size + 1, 0, none⟩ = some (.int .i64 c) := B.out.cell 0
      have qB1 : w4.cell? ⟨w.heap.size + 1, 1, none⟩ = some (.int .i64 d) := B.out.cell 1
      have qBl := B.out.lt
      go_wp2_with fail
      clear qB0 qB1 qBl
      refine (fr_is h2 _).mono ?_; rintro e w5 ⟨rfl, hb5⟩
      have S5 := Lib.hid (show w4.heap.size + 0 ≤ w5.heap.size by have h9 := hb5.size; (try simp only [World.size_alloc, World.size_setCell, World.size_drew] at h9); omega)
      have NA := Lib.hid (A.out.on hb5)
      have NB := Lib.hid (B.out.on hb5)
      have NR := Lib.hid (R.out.on hb5)
      have A := NA; clear NA
      have B := NB; clear NB
      have R := NR; clear NR
      have Hb5 := Lib.hid (bthen Hb4.out hb5)
      clear hb5
      replace h : FrQ (mkF 1000000000 (a * c) (b * d)) x y ok := h
      have qA0 : w5.cell? ⟨w.heap.size, 0, none⟩ = some (.int .i64 a) := A.out.cell 0
      have qA1 : w5.cell? ⟨w.heap.size, 1, none⟩ = some (.int .i64 b) := A.out.cell 1
      have qAl := A.out.lt
      have qB0 : w5.cell? ⟨w.heap.size + 1, 0, none⟩ = some (.int .i64 c) := B.out.cell 0
      have qB1 : w5.cell? ⟨w.heap.size + 1, 1, none⟩ = some (.int .i64 d) := B.out.cell 1
      have qBl := B.out.lt
      go_wp2_with fail
      clear qA0 qA1 qAl qB0 qB1 qBl
      refine (mkI_lit h (by omega) _ (by omega) (by omega)).mono ?_; rintro e w6 ⟨rfl, hb6⟩
      have S6 := Lib.hid (show w5.heap.size + 0 ≤ w6.heap.size by have h9 := hb6.size; (try simp only [World.size_alloc, World.size_setCell, World.size_drew] at h9); omega)
      have NA := Lib.hid (A.out.on hb6)
      have NB := Lib.hid (B.out.on hb6)
      have NR := Lib.hid (R.out.on hb6)
      have A := NA; clear NA
      have B := NB; clear NB
      have R := NR; clear NR
      have Hb6 := Lib.hid (bthen Hb5.out hb6)
      clear hb6
      have qR0 : w6.cell? ⟨w.heap.size + 1 + 1, 0, none⟩ = some (.int .i64 0) := R.out.cell 0
      have qR1 : w6.cell? ⟨w.heap.size + 1 + 1, 1, none⟩ = some (.int .i64 0) := R.out.cell 1
      have qRl := R.out.lt
      have qRf0 := R.out.frozen 0
      have qRf1 := R.out.frozen 1
      go_wp2
      clear qR0 qR1 qRl qRf0 qRf1
      have R9R := (show Blk (World.setCell (World.setCell w6 ⟨w.heap.size + 1 + 1, 0, none⟩ (.int .i64 x)) ⟨w.heap.size + 1 + 1, 1, none⟩ (.int .i64 y)) (w.heap.size + 1 + 1) 42 #[.int .i64 x, .int .i64 y] by have h9 := ((R.out.set 0 (.int .i64 x)).set 1 (.int .i64 y)); simpa using h9)
      have kR0 := R9R.cell 0
      have kR1 := R9R.cell 1
      simp at kR0 kR1
      exact bodyPost_ret (v := .tuple #[.agg #[.int .i64 x, .int .i64 y], .bool ok]) (by simp [results, Tryz.results128, go_sem, kR0, kR1]) rfl ⟨rfl, (bst (bst Hb6.out (p := ⟨w.heap.size + 1 + 1, 0, none⟩) (show w.heap.size ≤ w.heap.size + 1 + 1 by have := S4.out; have := S5.out; have := S6.out; (try simp only [World.size_alloc, World.size_setCell, World.size_drew]); omega) (.int .i64 x)) (p := ⟨w.heap.size + 1 + 1, 1, none⟩) (show w.heap.size ≤ w.heap.size + 1 + 1 by have := S4.out; have := S5.out; have := S6.out; (try simp only [World.size_alloc, World.size_setCell, World.size_drew]); omega) (.int .i64 y))⟩
set_option linter.unusedSimpArgs false in
set_option maxHeartbeats 1600000 in
theorem quoI_lit {a b c d x y : Int} {ok : Bool} (h : FrQ (quoG (a, b) (c, d)) x y ok) (w : World) :
    Calls Tryz.prog 132 #[.agg #[.int .i64 a, .int .i64 b], .agg #[.int .i64 c, .int .i64 d]] w fun e w' => e = .returned (.tuple #[.agg #[.int .i64 x, .int .i64 y], .bool ok]) ∧ Below w.heap.size w w' := by
  cases h1 : frB 1000000000 a b
  · obtain ⟨rfl, rfl, rfl⟩ : x = 0 ∧ y = 0 ∧ ok = false := by unfold quoG at h; rw [if_neg (by show ¬ (frB 1000000000 a b && frB 1000000000 c d) = true; rw [h1, Bool.false_and]; simp)] at h; exact h
    go_enter Tryz.func132, Tryz.ntmps132
    go_wp2_with fail
    refine (fr_is h1 _).mono ?_; rintro e w1 ⟨rfl, hb1⟩
    have S1 := Lib.hid (show w.heap.size + 3 ≤ w1.heap.size by have h9 := hb1.size; (try simp only [World.size_alloc, World.size_setCell, World.size_drew] at h9); omega)
    have NA := Lib.hid ((((Blk.new w 42 #[.int .i64 a, .int .i64 b]).alloc (Obj.cells #[.int .i64 c, .int .i64 d] 42)).alloc (Obj.cells #[.int .i64 0, .int .i64 0] 42)).on hb1)
    have NB := Lib.hid (((show Blk (World.alloc (World.alloc w (Obj.cells #[.int .i64 a, .int .i64 b] 42)) (Obj.cells #[.int .i64 c, .int .i64 d] 42)) (w.heap.size + 1) 42 #[.int .i64 c, .int .i64 d] by have h9 := (Blk.new (World.alloc w (Obj.cells #[.int .i64 a, .int .i64 b] 42)) 42 #[.int .i64 c, .int .i64 d]); (try simp only [World.size_alloc, World.size_setCell] at h9); exact h9).alloc (Obj.cells #[.int .i64 0, .int .i64 0] 42)).on hb1)
    have NR := Lib.hid ((show Blk (World.alloc (World.alloc (World.alloc w (Obj.cells #[.int .i64 a, .int .i64 b] 42)) (Obj.cells #[.int .i64 c, .int .i64 d] 42)) (Obj.cells #[.int .i64 0, .int .i64 0] 42)) (w.heap.size + 1 + 1) 42 #[.int .i64 0, .int .i64 0] by have h9 := (Blk.new (World.alloc (World.alloc w (Obj.cells #[.int .i64 a, .int .i64 b] 42)) (Obj.cells #[.int .i64 c, .int .i64 d] 42)) 42 #[.int .i64 0, .int .i64 0]); (try simp only [World.size_alloc, World.size_setCell] at h9); exact h9).on hb1)
    have A := NA; clear NA
    have B := NB; clear NB
    have R := NR; clear NR
    have Hb1 := Lib.hid (bthen (bal (bal (bal (Below.refl w.heap.size w) (Obj.cells #[.int .i64 a, .int .i64 b] 42)) (Obj.cells #[.int .i64 c, .int .i64 d] 42)) (Obj.cells #[.int .i64 0, .int .i64 0] 42)) hb1)
    clear hb1
    have qR0 : w1.cell? ⟨w.heap.size + 1 + 1, 0, none⟩ = some (.int .i64 0) := R.out.cell 0
    have qR1 : w1.cell? ⟨w.heap.size + 1 + 1, 1, none⟩ = some (.int .i64 0) := R.out.cell 1
    have qRl := R.out.lt
    have qRf0 := R.out.frozen 0
    have qRf1 := R.out.frozen 1
    go_wp2
    clear qR0 qR1 qRl qRf0 qRf1
    have R9R := (show Blk (World.setCell (World.setCell w1 ⟨w.heap.size + 1 + 1, 0, none⟩ (.int .i64 0)) ⟨w.heap.size + 1 + 1, 1, none⟩ (.int .i64 0)) (w.heap.size + 1 + 1) 42 #[.int .i64 0, .int .i64 0] by have h9 := ((R.out.set 0 (.int .i64 0)).set 1 (.int .i64 0)); simpa using h9)
    have kR0 := R9R.cell 0
    have kR1 := R9R.cell 1
    simp at kR0 kR1
    exact bodyPost_ret (v := .tuple #[.agg #[.int .i64 0, .int .i64 0], .bool false]) (by simp [results, Tryz.results132, go_sem, kR0, kR1]) rfl ⟨rfl, (bst (bst Hb1.out (p := ⟨w.heap.size + 1 + 1, 0, none⟩) (show w.heap.size ≤ w.heap.size + 1 + 1 by have := S1.out; (try simp only [World.size_alloc, World.size_setCell, World.size_drew]); omega) (.int .i64 0)) (p := ⟨w.heap.size + 1 + 1, 1, none⟩) (show w.heap.size ≤ w.heap.size + 1 + 1 by have := S1.out; (try simp only [World.size_alloc, World.size_setCell, World.size_drew]); omega) (.int .i64 0))⟩
  · cases h2 : frB 1000000000 c d
    · obtain ⟨rfl, rfl, rfl⟩ : x = 0 ∧ y = 0 ∧ ok = false := by unfold quoG at h; rw [if_neg (by show ¬ (frB 1000000000 a b && frB 1000000000 c d) = true; rw [h2, Bool.and_false]; simp)] at h; exact h
      go_enter Tryz.func132, Tryz.ntmps132
      go_wp2_with fail
      refine (fr_is h1 _).mono ?_; rintro e w2 ⟨rfl, hb2⟩
      have S2 := Lib.hid (show w.heap.size + 3 ≤ w2.heap.size by have h9 := hb2.size; (try simp only [World.size_alloc, World.size_setCell, World.size_drew] at h9); omega)
      have NA := Lib.hid ((((Blk.new w 42 #[.int .i64 a, .int .i64 b]).alloc (Obj.cells #[.int .i64 c, .int .i64 d] 42)).alloc (Obj.cells #[.int .i64 0, .int .i64 0] 42)).on hb2)
      have NB := Lib.hid (((show Blk (World.alloc (World.alloc w (Obj.cells #[.int .i64 a, .int .i64 b] 42)) (Obj.cells #[.int .i64 c, .int .i64 d] 42)) (w.heap.size + 1) 42 #[.int .i64 c, .int .i64 d] by have h9 := (Blk.new (World.alloc w (Obj.cells #[.int .i64 a, .int .i64 b] 42)) 42 #[.int .i64 c, .int .i64 d]); (try simp only [World.size_alloc, World.size_setCell] at h9); exact h9).alloc (Obj.cells #[.int .i64 0, .int .i64 0] 42)).on hb2)
      have NR := Lib.hid ((show Blk (World.alloc (World.alloc (World.alloc w (Obj.cells #[.int .i64 a, .int .i64 b] 42)) (Obj.cells #[.int .i64 c, .int .i64 d] 42)) (Obj.cells #[.int .i64 0, .int .i64 0] 42)) (w.heap.size + 1 + 1) 42 #[.int .i64 0, .int .i64 0] by have h9 := (Blk.new (World.alloc (World.alloc w (Obj.cells #[.int .i64 a, .int .i64 b] 42)) (Obj.cells #[.int .i64 c, .int .i64 d] 42)) 42 #[.int .i64 0, .int .i64 0]); (try simp only [World.size_alloc, World.size_setCell] at h9); exact h9).on hb2)
      have A := NA; clear NA
      have B := NB; clear NB
      have R := NR; clear NR
      have Hb2 := Lib.hid (bthen (bal (bal (bal (Below.refl w.heap.size w) (Obj.cells #[.int .i64 a, .int .i64 b] 42)) (Obj.cells #[.int .i64 c, .int .i64 d] 42)) (Obj.cells #[.int .i64 0, .int .i64 0] 42)) hb2)
      clear hb2
      have qB0 : w2.cell? ⟨w.heap.size + 1, 0, none⟩ = some (.int .i64 c) := B.out.cell 0
      have qB1 : w2.cell? ⟨w.heap.size + 1, 1, none⟩ = some (.int .i64 d) := B.out.cell 1
      have qBl := B.out.lt
      go_wp2_with fail
      clear qB0 qB1 qBl
      refine (fr_is h2 _).mono ?_; rintro e w3 ⟨rfl, hb3⟩
      have S3 := Lib.hid (show w2.heap.size + 0 ≤ w3.heap.size by have h9 := hb3.size; (try simp only [World.size_alloc, World.size_setCell, World.size_drew] at h9); omega)
      have NA := Lib.hid (A.out.on hb3)
      have NB := Lib.hid (B.out.on hb3)
      have NR := Lib.hid (R.out.on hb3)
      have A := NA; clear NA
      have B := NB; clear NB
      have R := NR; clear NR
      have Hb3 := Lib.hid (bthen Hb2.out hb3)
      clear hb3
      have qR0 : w3.cell? ⟨w.heap.size + 1 + 1, 0, none⟩ = some (.int .i64 0) := R.out.cell 0
      have qR1 : w3.cell? ⟨w.heap.size + 1 + 1, 1, none⟩ = some (.int .i64 0) := R.out.cell 1
      have qRl := R.out.lt
      have qRf0 := R.out.frozen 0
      have qRf1 := R.out.frozen 1
      go_wp2
      clear qR0 qR1 qRl qRf0 qRf1
      have R9R := (show Blk (World.setCell (World.setCell w3 ⟨w.heap.size + 1 + 1, 0, none⟩ (.int .i64 0)) ⟨w.heap.size + 1 + 1, 1, none⟩ (.int .i64 0)) (w.heap.size + 1 + 1) 42 #[.int .i64 0, .int .i64 0] by have h9 := ((R.out.set 0 (.int .i64 0)).set 1 (.int .i64 0)); simpa using h9)
      have kR0 := R9R.cell 0
      have kR1 := R9R.cell 1
      simp at kR0 kR1
      exact bodyPost_ret (v := .tuple #[.agg #[.int .i64 0, .int .i64 0], .bool false]) (by simp [results, Tryz.results132, go_sem, kR0, kR1]) rfl ⟨rfl, (bst (bst Hb3.out (p := ⟨w.heap.size + 1 + 1, 0, none⟩) (show w.heap.size ≤ w.heap.size + 1 + 1 by have := S2.out; have := S3.out; (try simp only [World.size_alloc, World.size_setCell, World.size_drew]); omega) (.int .i64 0)) (p := ⟨w.heap.size + 1 + 1, 1, none⟩) (show w.heap.size ≤ w.heap.size + 1 + 1 by have := S2.out; have := S3.out; (try simp only [World.size_alloc, World.size_setCell, World.size_drew]); omega) (.int .i64 0))⟩
    · replace h : FrQ (divF 1000000000 (a, b) (c, d)) x y ok := by unfold quoG at h; rw [if_pos (by show (frB 1000000000 a b && frB 1000000000 c d) = true; rw [h1, h2]; rfl)] at h; exact h
      obtain ⟨⟨m1, m2⟩, ⟨m3, m4⟩, ⟨m5, m6⟩, ⟨m7, m8⟩, m9, m10⟩ := FrBd.of h1 h2
      by_cases hc0 : c = 0
      · subst hc0
        obtain ⟨rfl, rfl, rfl⟩ : x = 0 ∧ y = 0 ∧ ok = false := by unfold divF at h; rw [if_pos rfl] at h; exact h
        go_enter Tryz.func132, Tryz.ntmps132
        go_wp2_with fail
        refine (fr_is h1 _).mono ?_; rintro e w4 ⟨rfl, hb4⟩
        have S4 := Lib.hid (show w.heap.size + 3 ≤ w4.heap.size by have h9 := hb4.size; (try simp only [World.size_alloc, World.size_setCell, World.size_drew] at h9); omega)
        have NA := Lib.hid ((((Blk.new w 42 #[.int .i64 a, .int .i64 b]).alloc (Obj.cells #[.int .i64 0, .int .i64 d] 42)).alloc (Obj.cells #[.int .i64 0, .int .i64 0] 42)).on hb4)
        have NB := Lib.hid (((show Blk (World.alloc (World.alloc w (Obj.cells #[.int .i64 a, .int .i64 b] 42)) (Obj.cells #[.int .i64 0, .int .i64 d] 42)) (w.heap.size + 1) 42 #[.int .i64 0, .int .i64 d] by have h9 := (Blk.new (World.alloc w (Obj.cells #[.int .i64 a, .int .i64 b] 42)) 42 #[.int .i64 0, .int .i64 d]); (try simp only [World.size_alloc, World.size_setCell] at h9); exact h9).alloc (Obj.cells #[.int .i64 0, .int .i64 0] 42)).on hb4)
        have NR := Lib.hid ((show Blk (World.alloc (World.alloc (World.alloc w (Obj.cells #[.int .i64 a, .int .i64 b] 42)) (Obj.cells #[.int .i64 0, .int .i64 d] 42)) (Obj.cells #[.int .i64 0, .int .i64 0] 42)) (w.heap.size + 1 + 1) 42 #[.int .i64 0, .int .i64 0] by have h9 := (Blk.new (World.alloc (World.alloc w (Obj.cells #[.int .i64 a, .int .i64 b] 42)) (Obj.cells #[.int .i64 0, .int .i64 d] 42)) 42 #[.int .i64 0, .int .i64 0]); (try simp only [World.size_alloc, World.size_setCell] at h9); exact h9).on hb4)
        have A := NA; clear NA
        have B := NB; clear NB
        have R := NR; clear NR
        have Hb4 := Lib.hid (bthen (bal (bal (bal (Below.refl w.heap.size w) (Obj.cells #[.int .i64 a, .int .i64 b] 42)) (Obj.cells #[.int .i64 0, .int .i64 d] 42)) (Obj.cells #[.int .i64 0, .int .i64 0] 42)) hb4)
        clear hb4
        have qB0 : w4.cell? ⟨w.heap.size + 1, 0, none⟩ = some (.int .i64 0) := B.out.cell 0
        have qB1 : w4.cell? ⟨w.heap.size + 1, 1, none⟩ = some (.int .i64 d) := B.out.cell 1
        have qBl := B.out.lt
        go_wp2_with fail
        clear qB0 qB1 qBl
        refine (fr_is h2 _).mono ?_; rintro e w5 ⟨rfl, hb5⟩
        have S5 := Lib.hid (show w4.heap.size + 0 ≤ w5.heap.size by have h9 := hb5.size; (try simp only [World.size_alloc, World.size_setCell, World.size_drew] at h9); omega)
        have NA := Lib.hid (A.out.on hb5)
        have NB := Lib.hid (B.out.on hb5)
        have NR := Lib.hid (R.out.on hb5)
        have A := NA; clear NA
        have B := NB; clear NB
        have R := NR; clear NR
        have Hb5 := Lib.hid (bthen Hb4.out hb5)
        clear hb5
        have qB0 : w5.cell? ⟨w.heap.size + 1, 0, none⟩ = some (.int .i64 0) := B.out.cell 0
        have qB1 : w5.cell? ⟨w.heap.size + 1, 1, none⟩ = some (.int .i64 d) := B.out.cell 1
        have qBl := B.out.lt
        have qR0 : w5.cell? ⟨w.heap.size + 1 + 1, 0, none⟩ = some (.int .i64 0) := R.out.cell 0
        have qR1 : w5.cell? ⟨w.heap.size + 1 + 1, 1, none⟩ = some (.int .i64 0) := R.out.cell 1
        have qRl := R.out.lt
        have qRf0 := R.out.frozen 0
        have qRf1 := R.out.frozen 1
        have nBR : w.heap.size + 1 ≠ w.heap.size + 1 + 1 := by have := S4.out; have := S5.out; (try simp only [World.size_alloc, World.size_setCell, World.size_drew]); omega
        have nRB : w.heap.size + 1 + 1 ≠ w.heap.size + 1 := fun e => nBR e.symm
        go_wp2
        clear qB0 qB1 qBl qR0 qR1 qRl qRf0 qRf1 nBR nRB
        have R9R := (show Blk (World.setCell (World.setCell w5 ⟨w.heap.size + 1 + 1, 0, none⟩ (.int .i64 0)) ⟨w.heap.size + 1 + 1, 1, none⟩ (.int .i64 0)) (w.heap.size + 1 + 1) 42 #[.int .i64 0, .int .i64 0] by have h9 := ((R.out.set 0 (.int .i64 0)).set 1 (.int .i64 0)); simpa using h9)
        have kR0 := R9R.cell 0
        have kR1 := R9R.cell 1
        simp at kR0 kR1
        exact bodyPost_ret (v := .tuple #[.agg #[.int .i64 0, .int .i64 0], .bool false]) (by simp [results, Tryz.results132, go_sem, kR0, kR1]) rfl ⟨rfl, (bst (bst Hb5.out (p := ⟨w.heap.size + 1 + 1, 0, none⟩) (show w.heap.size ≤ w.heap.size + 1 + 1 by have := S4.out; have := S5.out; (try simp only [World.size_alloc, World.size_setCell, World.size_drew]); omega) (.int .i64 0)) (p := ⟨w.heap.size + 1 + 1, 1, none⟩) (show w.heap.size ≤ w.heap.size + 1 + 1 by have := S4.out; have := S5.out; (try simp only [World.size_alloc, World.size_setCell, World.size_drew]); omega) (.int .i64 0))⟩
      · unfold divF at h
        rw [if_neg hc0] at h
        have hbc : b * c ≠ 0 := Int.mul_ne_zero (by intro e; rw [e, Int.zero_mul] at m7; omega) hc0
        have hcz : (c == 0) = false := beq_eq_false_iff_ne.2 hc0
        go_enter Tryz.func132, Tryz.ntmps132
        go_wp2_with fail
        refine (fr_is h1 _).mono ?_; rintro e w6 ⟨rfl, hb6⟩
        have S6 := Lib.hid (show w.heap.size + 3 ≤ w6.heap.size by have h9 := hb6.size; (try simp only [World.size_alloc, World.size_setCell, World.size_drew] at h9); omega)
        have NA := Lib.hid ((((Blk.new w 42 #[.int .i64 a, .int .i64 b]).alloc (Obj.cells #[.int .i64 c, .int .i64 d] 42)).alloc (Obj.cells #[.int .i64 0, .int .i64 0] 42)).on hb6)
        have NB := Lib.hid (((show Blk (World.alloc (World.alloc w (Obj.cells #[.int .i64 a, .int .i64 b] 42)) (Obj.cells #[.int .i64 c, .int .i64 d] 42)) (w.heap.size + 1) 42 #[.int .i64 c, .int .i64 d] by have h9 := (Blk.new (World.alloc w (Obj.cells #[.int .i64 a, .int .i64 b] 42)) 42 #[.int .i64 c, .int .i64 d]); (try simp only [World.size_alloc, World.size_setCell] at h9); exact h9).alloc (Obj.cells #[.int .i64 0, .int .i64 0] 42)).on hb6)
        have NR := Lib.hid ((show Blk (World.alloc (World.alloc (World.alloc w (Obj.cells #[.int .i64 a, .int .i64 b] 42)) (Obj.cells #[.int .i64 c, .int .i64 d] 42)) (Obj.cells #[.int .i64 0, .int .i64 0] 42)) (w.heap.size + 1 + 1) 42 #[.int .i64 0, .int .i64 0] by have h9 := (Blk.new (World.alloc (World.alloc w (Obj.cells #[.int .i64 a, .int .i64 b] 42)) (Obj.cells #[.int .i64 c, .int .i64 d] 42)) 42 #[.int .i64 0, .int .i64 0]); (try simp only [World.size_alloc, World.size_setCell] at h9); exact h9).on hb6)
        have A := NA; clear NA
        have B := NB; clear NB
        have R := NR; clear NR
        have Hb6 := Lib.hid (bthen (bal (bal (bal (Below.refl w.heap.size w) (Obj.cells #[.int .i64 a, .int .i64 b] 42)) (Obj.cells #[.int .i64 c, .int .i64 d] 42)) (Obj.cells #[.int .i64 0, .int .i64 0] 42)) hb6)
        clear hb6
        have qB0 : w6.cell? ⟨w.heap.size + 1, 0, none⟩ = some (.int .i64 c) := B.out.cell 0
        have qB1 : w6.cell? ⟨w.heap.size + 1, 1, none⟩ = some (.int .i64 d) := B.out.cell 1
        have qBl := B.out.lt
        go_wp2_with fail
        clear qB0 qB1 qBl
        refine (fr_is h2 _).mono ?_; rintro e w7 ⟨rfl, hb7⟩
        have S7 := Lib.hid (show w6.heap.size + 0 ≤ w7.heap.size by have h9 := hb7.size; (try simp only [World.size_alloc, World.size_setCell, World.size_drew] at h9); omega)
        have NA := Lib.hid (A.out.on hb7)
        have NB := Lib.hid (B.out.on hb7)
        have NR := Lib.hid (R.out.on hb7)
        have A := NA; clear NA
        have B := NB; clear NB
        have R := NR; clear NR
        have Hb7 := Lib.hid (bthen Hb6.out hb7)
        clear hb7
        replace h : FrQ (mkF 1000000000 (a * d) (b * c)) x y ok := h
        have qA0 : w7.cell? ⟨w.heap.size, 0, none⟩ = some (.int .i64 a) := A.out.cell 0
        have qA1 : w7.cell? ⟨w.heap.size, 1, none⟩ = some (.int .i64 b) := A.out.cell 1
        have qAl := A.out.lt
        have qB0 : w7.cell? ⟨w.heap.size + 1, 0, none⟩ = some (.int .i64 c) := B.out.cell 0
        have qB1 : w7.cell? ⟨w.heap.size + 1, 1, none⟩ = some (.int .i64 d) := B.out.cell 1
        have qBl := B.out.lt
        go_wp2_with fail
        clear qA0 qA1 qAl qB0 qB1 qBl
        refine (mkI_lit h (by omega) _ (by omega) (by omega)).mono ?_; rintro e w8 ⟨rfl, hb8⟩
        have S8 := Lib.hid (show w7.heap.size + 0 ≤ w8.heap.size by have h9 := hb8.size; (try simp only [World.size_alloc, World.size_setCell, World.size_drew] at h9); omega)
        have NA := Lib.hid (A.out.on hb8)
        have NB := Lib.hid (B.out.on hb8)
        have NR := Lib.hid (R.out.on hb8)
        have A := NA; clear NA
        have B := NB; clear NB
        have R := NR; clear NR
        have Hb8 := Lib.hid (bthen Hb7.out hb8)
        clear hb8
        have qR0 : w8.cell? ⟨w.heap.size + 1 + 1, 0, none⟩ = some (.int .i64 0) := R.out.cell 0
        have qR1 : w8.cell? ⟨w.heap.size + 1 + 1, 1, none⟩ = some (.int .i64 0) := R.out.cell 1
        have qRl := R.out.lt
        have qRf0 := R.out.frozen 0
        have qRf1 := R.out.frozen 1
        go_wp2
        clear qR0 qR1 qRl qRf0 qRf1
        have R9R := (show Blk (World.setCell (World.setCell w8 ⟨w.heap.size + 1 + 1, 0, none⟩ (.int .i64 x)) ⟨w.heap.size + 1 + 1, 1, none⟩ (.int .i64 y)) (w.heap.size + 1 + 1) 42 #[.int .i64 x, .int .i64 y] by have h9 := ((R.out.set 0 (.int .i64 x)).set 1 (.int .i64 y)); simpa using h9)
        have kR0 := R9R.cell 0
        have kR1 := R9R.cell 1
        simp at kR0 kR1
        exact bodyPost_ret (v := .tuple #[.agg #[.int .i64 x, .int .i64 y], .bool ok]) (by simp [results, Tryz.results132, go_sem, kR0, kR1]) rfl ⟨rfl, (bst (bst Hb8.out (p := ⟨w.heap.size + 1 + 1, 0, none⟩) (show w.heap.size ≤ w.heap.size + 1 + 1 by have := S6.out; have := S7.out; have := S8.out; (try simp only [World.size_alloc, World.size_setCell, World.size_drew]); omega) (.int .i64 x)) (p := ⟨w.heap.size + 1 + 1, 1, none⟩) (show w.heap.size ≤ w.heap.size + 1 + 1 by have := S6.out; have := S7.out; have := S8.out; (try simp only [World.size_alloc, World.size_setCell, World.size_drew]); omega) (.int .i64 y))⟩
set_option linter.unusedSimpArgs false in
theorem frInt_any (n : Int) (w : World) : Calls Tryz.prog 71 #[.int .i64 n] w fun e w' => e = .returned (.agg #[.int .i64 n, .int .i64 1]) ∧ Below w.heap.size w w' := by
  go_enter Tryz.func71, Tryz.ntmps71
  go_wp2
  have R9R := (Blk.new w 42 #[.int .i64 n, .int .i64 1])
  have kR0 := R9R.cell 0
  have kR1 := R9R.cell 1
  simp at kR0 kR1
  exact bodyPost_ret (v := .agg #[.int .i64 n, .int .i64 1]) (by simp [results, Tryz.results71, go_sem, kR0, kR1]) rfl ⟨rfl, (bal (Below.refl w.heap.size w) (Obj.cells #[.int .i64 n, .int .i64 1] 42))⟩
theorem fr_good {a b : Int} {k : Bool} (h : frB 1000000000 a b = k) (w : World) : Calls Tryz.prog 124 #[.agg #[.int .i64 a, .int .i64 b]] w fun e w' => e = .returned (.bool k) ∧ Below w.heap.size w w' := by
  rw [← h]; exact frGood_any a b w
set_option linter.unusedSimpArgs false in
set_option maxHeartbeats 1600000 in
theorem frTwo_any (a b c d : Int) (w : World) : Calls Tryz.prog 70 #[.agg #[.int .i64 a, .int .i64 b], .agg #[.int .i64 c, .int .i64 d]] w fun e w' => e = .returned (.bool (frB 1000000000 a b && frB 1000000000 c d)) ∧ Below w.heap.size w w' := by
  cases h1 : frB 1000000000 a b
  · go_enter Tryz.func70, Tryz.ntmps70
    go_wp2_with fail
    refine (fr_good h1 _).mono ?_; rintro e w1 ⟨rfl, hb1⟩
    have S1 := Lib.hid (show w.heap.size + 2 ≤ w1.heap.size by have h9 := hb1.size; (try simp only [World.size_alloc, World.size_setCell, World.size_drew] at h9); omega)
    have NA := Lib.hid (((Blk.new w 42 #[.int .i64 a, .int .i64 b]).alloc (Obj.cells #[.int .i64 c, .int .i64 d] 42)).on hb1)
    have NB := Lib.hid ((show Blk (World.alloc (World.alloc w (Obj.cells #[.int .i64 a, .int .i64 b] 42)) (Obj.cells #[.int .i64 c, .int .i64 d] 42)) (w.heap.size + 1) 42 #[.int .i64 c, .int .i64 d] by have h9 := (Blk.new (World.alloc w (Obj.cells #[.int .i64 a, .int .i64 b] 42)) 42 #[.int .i64 c, .int .i64 d]); (try simp only [World.size_alloc, World.size_setCell] at h9); exact h9).on hb1)
    have A := NA; clear NA
    have B := NB; clear NB
    have Hb1 := Lib.hid (bthen (bal (bal (Below.refl w.heap.size w) (Obj.cells #[.int .i64 a, .int .i64 b] 42)) (Obj.cells #[.int .i64 c, .int .i64 d] 42)) hb1)
    clear hb1
    go_wp2
    go_ret
    exact ⟨by rw [Bool.false_and]; rfl, Hb1.out⟩
  · go_enter Tryz.func70, Tryz.ntmps70
    go_wp2_with fail
    refine (fr_good h1 _).mono ?_; rintro e w2 ⟨rfl, hb2⟩
    have S2 := Lib.hid (show w.heap.size + 2 ≤ w2.heap.size by have h9 := hb2.size; (try simp only [World.size_alloc, World.size_setCell, World.size_drew] at h9); omega)
    have NA := Lib.hid (((Blk.new w 42 #[.int .i64 a, .int .i64 b]).alloc (Obj.cells #[.int .i64 c, .int .i64 d] 42)).on hb2)
    have NB := Lib.hid ((show Blk (World.alloc (World.alloc w (Obj.cells #[.int .i64 a, .int .i64 b] 42)) (Obj.cells #[.int .i64 c, .int .i64 d] 42)) (w.heap.size + 1) 42 #[.int .i64 c, .int .i64 d] by have h9 := (Blk.new (World.alloc w (Obj.cells #[.int .i64 a, .int .i64 b] 42)) 42 #[.int .i64 c, .int .i64 d]); (try simp only [World.size_alloc, World.size_setCell] at h9); exact h9).on hb2)
    have A := NA; clear NA
    have B := NB; clear NB
    have Hb2 := Lib.hid (bthen (bal (bal (Below.refl w.heap.size w) (Obj.cells #[.int .i64 a, .int .i64 b] 42)) (Obj.cells #[.int .i64 c, .int .i64 d] 42)) hb2)
    clear hb2
    have qB0 : w2.cell? ⟨w.heap.size + 1, 0, none⟩ = some (.int .i64 c) := B.out.cell 0
    have qB1 : w2.cell? ⟨w.heap.size + 1, 1, none⟩ = some (.int .i64 d) := B.out.cell 1
    have qBl := B.out.lt
    go_wp2_with fail
    clear qB0 qB1 qBl
    refine (frGood_any c d _).mono ?_; rintro e w3 ⟨rfl, hb3⟩
    have S3 := Lib.hid (show w2.heap.size + 0 ≤ w3.heap.size by have h9 := hb3.size; (try simp only [World.size_alloc, World.size_setCell, World.size_drew] at h9); omega)
    have NA := Lib.hid (A.out.on hb3)
    have NB := Lib.hid (B.out.on hb3)
    have A := NA; clear NA
    have B := NB; clear NB
    have Hb3 := Lib.hid (bthen Hb2.out hb3)
    clear hb3
    go_wp2
    go_ret
    exact ⟨by rw [Bool.true_and]; rfl, Hb3.out⟩
end
section
open Go Go.RowKit

section
variable {w w1 w2 : World} {row : Option Nat} {B g : Nat}
theorem gthen (h : w.grownBy w1 row) (k : Below w1.heap.size w1 w2) : w.grownBy w2 row :=
  ⟨k.os.trans h.os, k.tape.trans h.tape, k.output.trans h.output, Nat.le_trans h.size k.size, fun i hi hne => (k.block i (Nat.lt_of_lt_of_le hi h.size)).trans (h.block i hi hne)⟩
theorem gthen2 (h : w.grownBy w1 row) (k : w1.grownBy w2 row) : w.grownBy w2 row :=
  ⟨k.os.trans h.os, k.tape.trans h.tape, k.output.trans h.output, Nat.le_trans h.size k.size, fun i hi hne => (k.block i (Nat.lt_of_lt_of_le hi h.size) hne).trans (h.block i hi hne)⟩
theorem grefl (w : World) (row : Option Nat) : w.grownBy w row := ⟨rfl, rfl, rfl, Nat.le_refl _, fun _ _ _ => rfl⟩
theorem gof (k : Below w.heap.size w w1) : w.grownBy w1 row := gthen (grefl _ _) k
theorem gnone (k : w.grownBy w1 none) : w.grownBy w1 row := ⟨k.os, k.tape, k.output, k.size, fun i hi _ => k.block i hi (by simp)⟩
end

/-! ### Cells laid over a list -/
def lay (xs : List Value) (o : Nat) : List Value → List Value
  | [] => xs
  | v :: r => lay (xs.set o v) (o + 1) r
theorem length_lay : ∀ (vs xs : List Value) (o : Nat), (lay xs o vs).length = xs.length
  | [], _, _ => rfl
  | v :: r, xs, o => by unfold lay; rw [length_lay r, List.length_set]
theorem lay_right : ∀ (vs ys bs : List Value) (o : Nat), ys.length ≤ o → lay (ys ++ bs) o vs = ys ++ lay bs (o - ys.length) vs
  | [], _, _, _, _ => rfl
  | v :: r, ys, bs, o, h => by
    unfold lay
    rw [List.set_append_right _ _ h, lay_right r ys _ (o + 1) (by omega)]
    congr 2
    omega
theorem lay_over : ∀ (vs pre ys bs : List Value), vs.length = ys.length → lay (pre ++ (ys ++ bs)) pre.length vs = pre ++ (vs ++ bs)
  | [], _, [], _, _ => rfl
  | v :: r, pre, a :: ys, bs, h => by
    have ih := lay_over r (pre ++ [v]) ys bs (by simpa using h)
    rw [List.length_append, List.length_singleton] at ih
    unfold lay
    rw [List.set_append_right _ _ (Nat.le_refl _), Nat.sub_self]
    simp only [List.cons_append, List.set_cons_zero, List.append_assoc, List.nil_append] at ih ⊢
    exact ih
theorem lay_take : ∀ (vs xs : List Value) (o m : Nat), m ≤ o → (lay xs o vs).take m = xs.take m
  | [], _, _, _, _ => rfl
  | v :: r, xs, o, m, h => by
    unfold lay
    rw [lay_take r _ (o + 1) m (by omega), List.take_set_of_le h]
section
variable {E : Type} {S : Shape E}
theorem lay_flat : ∀ (ys : List E) (i : Nat) (u : E), lay (S.flat ys) (i * S.size) (S.cells u) = S.flat (ys.set i u) ∨ ys.length ≤ i
  | [], i, u => .inr (by simp)
  | y :: ys, 0, u => .inl (by
    have := lay_over (S.cells u) [] (S.cells y) (S.flat ys) (by rw [Shape.length_cells, Shape.length_cells])
    simpa [Shape.flat] using this)
  | y :: ys, i + 1, u => by
    rcases lay_flat ys i u with h | h
    · refine .inl ?_
      have e1 : S.flat (y :: ys) = S.cells y ++ S.flat ys := by simp [Shape.flat]
      have e2 : S.flat ((y :: ys).set (i + 1) u) = S.cells y ++ S.flat (ys.set i u) := by simp [Shape.flat]
      rw [e1, e2, lay_right _ _ _ _ (by rw [Shape.length_cells, Nat.add_mul]; omega), Shape.length_cells, ← h]
      congr 2
      rw [Nat.add_mul]; omega
    · exact .inr (by simpa using h)
theorem flat_take : ∀ (ys : List E) (i : Nat), (S.flat ys).take (i * S.size) = S.flat (ys.take i)
  | [], i => by simp [Shape.flat]
  | y :: ys, 0 => by simp [Shape.flat]
  | y :: ys, i + 1 => by
    have ih := flat_take ys i
    have e1 : S.flat (y :: ys) = S.cells y ++ S.flat ys := by simp [Shape.flat]
    have e2 : S.flat ((y :: ys).take (i + 1)) = S.cells y ++ S.flat (ys.take i) := by simp [Shape.flat]
    rw [e1, e2, List.take_append, Shape.length_cells, List.take_of_length_le (by rw [Shape.length_cells, Nat.add_mul]; omega), ← ih]
    congr 2
    rw [Nat.add_mul]; omega
end

section
variable {w : World} {base : Nat} {e : TypeId} {size g n cap : Nat} {xs : List Value}
theorem own_lay : ∀ (vs : List Value) (w : World) (xs : List Value) (o : Nat), w.ownsRow base e size (.slice (some ⟨g, 0, none⟩) n cap) n xs →
    (w.setCells g o vs).ownsRow base e size (.slice (some ⟨g, 0, none⟩) n cap) n (lay xs o vs) ∧ w.grownBy (w.setCells g o vs) (some g)
  | [], w, xs, o, h => ⟨h, grefl _ _⟩
  | v :: r, w, xs, o, h => by
    have h1 := h.stored o v
    have h2 := own_lay r _ _ (o + 1) h1.1
    exact ⟨h2.1, gthen2 h1.2 h2.2⟩
theorem own_cut {i : Nat} (h : w.ownsRow base e size (.slice (some ⟨g, 0, none⟩) n cap) n xs) (hi : i ≤ n) : w.ownsRow base e size (.slice (some ⟨g, 0, none⟩) i cap) i (xs.take (i * size)) := by
  have hm : i * size ≤ n * size := Nat.mul_le_mul_right _ hi
  rcases h.2 with ⟨h', _⟩ | ⟨g', cap', cur, h', hb, hg, hnc, hcm, hcs, htake⟩
  · simp at h'
  · simp only [Value.slice.injEq, Option.some.injEq, Addr.mk.injEq, and_true, true_and] at h'
    obtain ⟨rfl, rfl⟩ := h'
    refine ⟨by rw [List.length_take, h.1]; omega, .inr ⟨g, cap, cur, rfl, hb, hg, by omega, hcm, hcs, ?_⟩⟩
    rw [← htake, List.take_take, Nat.min_eq_left hm]
theorem zeroCells_one {cs : Array Value} (h : ∀ i (hi : i < cs.size), cs[i].oneCell' = true) (hpos : 0 < cs.size) (n : Nat) : ∀ u ∈ (Builtin.zeroCells cs n).toList, u.oneCell' = true := by
  intro u hu
  simp only [Builtin.zeroCells, Array.toList_map, List.mem_map] at hu
  obtain ⟨j, -, rfl⟩ := hu
  rw [getElem!_pos cs _ (Nat.mod_lt _ hpos)]
  exact h _ _
theorem own_base (h : w.ownsRow base e size (.slice (some ⟨g, 0, none⟩) n cap) n xs) : base ≤ g ∧ g < w.heap.size := h.lt g rfl
/-- 'clear(s[i:])' on a row of the call's own. -/
theorem run_clear_row {P : Program} {t : TypeId} {z : Value} {i : Nat} (ht : P.underlying t = some (.slice e)) (hv : ∀ w, (zeroValue e).run P w = .ok z w) (h1 : ∀ u ∈ (Builtin.zeroCells z.cells (n - i)).toList, u.oneCell' = true) (hl : ∀ m, (Builtin.zeroCells z.cells m).size = m * size)
    (h : w.ownsRow base e size (.slice (some ⟨g, 0, none⟩) n cap) n xs) (hi : i ≤ n) (ty : TypeId) (c : Nat) :
    (Builtin.clear_ #[t] ty #[.slice (some ⟨g, i * size, none⟩) (n - i) c]).run P w = .ok (.tuple #[]) (w.setCells g (i * size) (Builtin.zeroCells z.cells (n - i)).toList) := by
  have hin : ∀ j, j < (n - i) * size → i * size + j < n * size := fun j hj => by
    rw [Nat.sub_mul] at hj
    omega
  have hst := run_storeCells_cells (P := P) g (i * size) (Builtin.zeroCells z.cells (n - i)).toList 0 w
    (fun j hj => by
      rw [Array.length_toList, hl] at hj
      have hc := h.cellAt (i * size + 0 + j) (by have := hin j hj; omega)
      have hlt : i * size + 0 + j < xs.length := by rw [h.1]; have := hin j hj; omega
      rw [List.getElem?_eq_getElem hlt] at hc
      rw [hc]; rfl)
    (fun j _ => h.frozenAt _) h1
  rcases Nat.eq_zero_or_pos (n - i) with h0 | h0
  · have hnil : (Builtin.zeroCells z.cells 0).toList = [] := List.eq_nil_of_length_eq_zero (by rw [Array.length_toList, hl, Nat.zero_mul])
    rw [h0, hnil]
    simp [Builtin.clear_, run_underlying ht, World.setCells]
  · obtain ⟨m, hm⟩ : ∃ m, n - i = m + 1 := ⟨n - i - 1, by omega⟩
    rw [hm] at hst ⊢
    simp only [Nat.add_zero] at hst
    simp [Builtin.clear_, run_underlying ht, hv, hst]
end
end
end Go.Proofs.YtacehhcpfollnaaGreat
