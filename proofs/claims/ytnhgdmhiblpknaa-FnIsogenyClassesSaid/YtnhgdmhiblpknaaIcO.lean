/- The order of curves and places in lists of curves: the walks. Conditions: those of each theorem. Printed by gen_ico.py. -/
import Derived.Test.YtnhgdmhiblpknaaIcN
import Derived.Test.YtnhgdmhiblpknaaRow2
import Derived.Deep.QuietTactic
import Derived.BigQuiet
namespace Go.Proofs.Ytnhgdmhiblpknaa
open Go Go.RowKit

set_option maxHeartbeats 1600000 in
theorem icBefore_any (a b c d : Int) (w : World) :
    Calls Try.prog 31 #[.agg #[.int .i64 a, .int .i64 b], .agg #[.int .i64 c, .int .i64 d]] w fun e w' => e = .returned (.bool (decide (cmpC a b c d < 0))) ∧ Below w.heap.size w w' := by
  have HbA := Lib.hid (show Below w.heap.size w ((w.alloc (Obj.cells #[.int .i64 a, .int .i64 b] 37)).alloc (Obj.cells #[.int .i64 c, .int .i64 d] 37)) from bal (bal (Below.refl _ _) _) _)
  have Hc := Lib.hid (cmpC_lt a b c d)
  by_cases h1 : a < c
  · have e1 : decide (a < c) = true := decide_eq_true h1
    have Hf := Lib.hid (show decide (cmpC a b c d < 0) = true from decide_eq_true (Hc.out.2 (.inl h1)))
    clear h1
    go_enter Try.func31, Try.ntmps31
    go_wp2
    go_ret
    exact ⟨by rw [Hf.out]; rfl, HbA.out⟩
  · have e1 : decide (a < c) = false := decide_eq_false h1
    by_cases h2 : a = c
    · have e2 : (a == c) = true := by simp [h2]
      by_cases h3 : b < d
      · have e3 : decide (b < d) = true := decide_eq_true h3
        have Hf := Lib.hid (show decide (cmpC a b c d < 0) = true from decide_eq_true (Hc.out.2 (.inr ⟨h2, h3⟩)))
        clear h1 h2 h3
        go_enter Try.func31, Try.ntmps31
        go_wp2
        go_ret
        exact ⟨by rw [Hf.out]; rfl, HbA.out⟩
      · have e3 : decide (b < d) = false := decide_eq_false h3
        have Hf := Lib.hid (show decide (cmpC a b c d < 0) = false from decide_eq_false (fun h => (Hc.out.1 h).elim h1 (fun h => h3 h.2)))
        clear h1 h2 h3
        go_enter Try.func31, Try.ntmps31
        go_wp2
        go_ret
        exact ⟨by rw [Hf.out]; rfl, HbA.out⟩
    · have e2 : (a == c) = false := by simp [h2]
      have Hf := Lib.hid (show decide (cmpC a b c d < 0) = false from decide_eq_false (fun h => (Hc.out.1 h).elim h1 (fun h => h2 h.1)))
      clear h1 h2
      go_enter Try.func31, Try.ntmps31
      go_wp2
      go_ret
      exact ⟨by rw [Hf.out]; rfl, HbA.out⟩
/-- Two curves, held against each other: one Bool. -/
theorem eqlCuI (x y a b : Int) (W : World) : (binOp .eql 37 (.agg #[.int .i64 x, .int .i64 y]) (.agg #[.int .i64 a, .int .i64 b])).run Try.prog W = .ok (.bool (x == a && y == b)) W := by
  by_cases h1 : x = a <;> by_cases h2 : y = b <;> simp [go_sem, h1, h2]
theorem cu_eq {x y : Cu} : (x.a == y.a && x.b == y.b) = decide (x = y) := by
  rw [Bool.eq_iff_iff]
  simp only [Bool.and_eq_true, beq_iff_eq, decide_eq_true_eq]
  constructor
  · rintro ⟨h1, h2⟩; cases x; cases y; simp_all
  · rintro rfl; exact ⟨rfl, rfl⟩
/-- Where a curve stands in a list, or -1. -/
def atC (L : List Cu) (c : Cu) : Int := if c ∈ L then (L.idxOf c : Int) else -1
theorem atC_no {L : List Cu} {c : Cu} (h : ∀ j, j < L.length → cuS.get L j ≠ c) : atC L c = -1 := by
  unfold atC
  rw [if_neg]
  intro hm
  obtain ⟨j, hj, he⟩ := List.getElem_of_mem hm
  refine h j hj ?_
  unfold Shape.get; rw [List.getD_eq_getElem?_getD, List.getElem?_eq_getElem hj]; exact he
theorem getCu {L : List Cu} {k : Nat} (h : k < L.length) : cuS.get L k = L[k] := by
  unfold Shape.get; rw [List.getD_eq_getElem?_getD, List.getElem?_eq_getElem h]; rfl
theorem atC_yes {L : List Cu} {c : Cu} {k : Nat} (hk : k < L.length) (he : cuS.get L k = c) (h : ∀ j, j < k → cuS.get L j ≠ c) : atC L c = k := by
  rw [getCu hk] at he
  have hm : c ∈ L := by rw [← he]; exact List.getElem_mem hk
  unfold atC
  rw [if_pos hm]
  have hlt := List.idxOf_lt_length_iff.2 hm
  have hg := List.getElem_idxOf hlt
  rcases Nat.lt_trichotomy (L.idxOf c) k with h1 | h1 | h1
  · exact absurd (by rw [getCu hlt]; exact hg) (h _ h1)
  · rw [h1]
  · exfalso
    have h2 := List.not_of_lt_findIdx (p := (· == c)) (xs := L) (i := k) h1
    rw [he] at h2
    simp at h2
theorem atC_pos {L : List Cu} {c : Cu} : decide (atC L c ≥ 0) = decide (c ∈ L) := by
  unfold atC
  by_cases h : c ∈ L
  · rw [if_pos h, decide_eq_true h]; simp
  · rw [if_neg h, decide_eq_false h]; rfl

set_option maxHeartbeats 3200000 in
theorem icAt_any (v : Value) (L : List Cu) (c : Cu) (w : World) (h : Rd cuS w w.heap.size v L) :
    Calls Try.prog 34 #[v, .agg #[.int .i64 c.a, .int .i64 c.b]] w fun r w' => r = .returned (.int .i64 (atC L c)) ∧ Below w.heap.size w w' := by
  obtain ⟨A, cap, rfl, hcc, hm, hA⟩ := h
  unfold maxLen at hm
  have HbA := Lib.hid (show Below w.heap.size w (w.alloc (Obj.cells #[.int .i64 c.a, .int .i64 c.b] 37)) from bal (Below.refl _ _) _)
  have HB := Lib.hid (Blk.new w 37 #[.int .i64 c.a, .int .i64 c.b])
  have hql := eqlCuI
  go_enter Try.func34, Try.ntmps34
  go_wp2
  go_loopw [9] (fun i wr => ∃ k : Nat, k ≤ L.length ∧ i = .int .i64 k ∧ Hid (∀ j, j < k → cuS.get L j ≠ c) ∧ Hid (Below w.heap.size w wr) ∧ Hid (Blk wr w.heap.size 37 #[.int .i64 c.a, .int .i64 c.b])) (fun i _ => L.length - (intOf i).toNat)
  case atStart => exact ⟨0, Nat.zero_le _, rfl, Lib.hid (fun j hj => absurd hj (Nat.not_lt_zero _)), HbA, HB⟩
  case round =>
    obtain ⟨k, hk, rfl, Hno, Hb, HBr⟩ := hrel
    have q0 : wr.cell? ⟨w.heap.size, 0, none⟩ = some (.int .i64 c.a) := HBr.out.cell 0
    have q1 : wr.cell? ⟨w.heap.size, 1, none⟩ = some (.int .i64 c.b) := HBr.out.cell 1
    have ql := HBr.out.lt
    by_cases hlt : k < L.length
    · obtain ⟨g, off, rfl, hg, hcell⟩ := hA (by omega)
      obtain ⟨f0, f1⟩ := cu_cells hcell k hlt
      clear hcell hA
      rw [← Hb.out.cell (p := ⟨_, _, _⟩) hg] at f0 f1
      have hgr : g < wr.heap.size := Nat.lt_of_lt_of_le hg Hb.out.size
      have hi0 : (0 : Int) ≤ (k : Int) := by omega
      have hi1 : (k : Int) < (L.length : Int) := by omega
      have hyes := Lib.hid (fun he => atC_yes (c := c) hlt he Hno.out)
      have hstep := Lib.hid (fun hne => all_lt_succ (p := fun j => cuS.get L j ≠ c) Hno.out hne)
      generalize cuS.get L k = x at f0 f1 hyes hstep
      have hcu := cu_eq (x := c) (y := x)
      by_cases he : x = c
      · have hd : (c.a == x.a && c.b == x.b) = true := by rw [hcu]; exact decide_eq_true he.symm
        have Hfin := Lib.hid (hyes.out he)
        have Hb9 := Lib.hid (bal Hb.out (Obj.cells #[.int .i64 x.a, .int .i64 x.b] 37))
        clear hcu he hyes hstep
        go_wp2
        go_ret
        exact ⟨by rw [Hfin.out]; rfl, Hb9.out⟩
      · have hd : (c.a == x.a && c.b == x.b) = false := by rw [hcu]; exact decide_eq_false (fun h => he h.symm)
        have Hst := Lib.hid (hstep.out he)
        have Hb9 := Lib.hid (bal Hb.out (Obj.cells #[.int .i64 x.a, .int .i64 x.b] 37))
        have HB9 := Lib.hid (HBr.out.alloc (Obj.cells #[.int .i64 x.a, .int .i64 x.b] 37))
        clear hcu he hyes hstep
        go_wp2
        go_roundw
        case rel => exact ⟨k + 1, by omega, by go_num, Hst, Hb9, HB9⟩
        case measure => simp [intOf]; omega
    · have Hfin := Lib.hid (atC_no (L := L) (c := c) (fun j hj => Hno.out j (by omega)))
      go_wp2
      go_ret
      exact ⟨by rw [Hfin.out]; rfl, Hb.out⟩
end Go.Proofs.Ytnhgdmhiblpknaa
