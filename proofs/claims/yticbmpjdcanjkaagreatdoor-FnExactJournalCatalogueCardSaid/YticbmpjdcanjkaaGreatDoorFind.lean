/- The entry of a curve: both functions. Conditions: none. -/
import Derived.Test.YticbmpjdcanjkaaGreatDoorGoodEntry
namespace Go.Proofs.YticbmpjdcanjkaaGreatDoor
open Go Go.RowKit

/-- Does the k-th entry's curve come before a curve? -/
def befB (es : List En) (a b : Int) (k : Nat) : Bool := decide (cmpC (enS.get es k).a (enS.get es k).b a b < 0)
def isCu (es : List En) (a b : Int) (k : Nat) : Bool := (enS.get es k).a == a && (enS.get es k).b == b

/-- The number of the leading k's with p. -/
def lead (p : Nat → Bool) : Nat → Nat → Nat
  | 0, k => k
  | f + 1, k => if p k then lead p f (k + 1) else k
theorem lead_spec (p : Nat → Bool) : ∀ f k, k ≤ lead p f k ∧ lead p f k ≤ k + f ∧ (∀ j, k ≤ j → j < lead p f k → p j = true) ∧ (lead p f k < k + f → p (lead p f k) = false)
  | 0, k => ⟨Nat.le_refl _, Nat.le_refl _, fun j h1 h2 => by unfold lead at h2; omega, fun h => by unfold lead at h; omega⟩
  | f + 1, k => by
    unfold lead
    by_cases h : p k = true
    · rw [if_pos h]
      obtain ⟨h1, h2, h3, h4⟩ := lead_spec p f (k + 1)
      refine ⟨by omega, by omega, fun j hj1 hj2 => ?_, fun hl => h4 (by omega)⟩
      rcases Nat.lt_or_ge k j with hk | hk
      · exact h3 j (by omega) hj2
      · obtain rfl : j = k := by omega
        exact h
    · rw [if_neg h]
      exact ⟨Nat.le_refl _, by omega, fun j h1 h2 => by omega, fun _ => by simpa using h⟩
theorem lead_eq (p : Nat → Bool) (n m : Nat) (h1 : m ≤ n) (h2 : ∀ j, j < m → p j = true) (h3 : m < n → p m = false) : lead p n 0 = m := by
  obtain ⟨_, g2, g3, g4⟩ := lead_spec p n 0
  rcases Nat.lt_trichotomy (lead p n 0) m with h | h | h
  · have := g4 (by omega); rw [h2 _ h] at this; cases this
  · exact h
  · have := g3 m (by omega) h; rw [h3 (by omega)] at this; cases this

/-- The first place that does not come before a curve. -/
def placeN (es : List En) (a b : Int) : Nat := lead (befB es a b) es.length 0
def atB (es : List En) (k : Nat) (a b : Int) : Bool := decide (k < es.length) && isCu es a b k
/-- The first place of a curve. -/
def firstN (es : List En) (a b : Int) : Nat := lead (fun k => !isCu es a b k) es.length 0
def findV (es : List En) (a b : Int) : En × Bool := if catB es && decide (firstN es a b < es.length) then (enS.get es (firstN es a b), true) else (⟨0, 0, 0, 0, 0⟩, false)

theorem okAt_ent {es : List En} {k : Nat} (h : okAt es k = true) : entB (enS.get es k).a (enS.get es k).b (enS.get es k).lo (enS.get es k).hi (enS.get es k).to = true := by
  unfold okAt at h
  simp only [Bool.and_eq_true] at h
  exact h.1

set_option maxHeartbeats 1600000 in
theorem caPlace_any (v : Value) (es : List En) (a b : Int) (w : World) (h : Rd enS w w.heap.size v es) (hval : ∀ k, k < es.length → okAt es k = true) (hc : curveB a b = true) :
    Calls Tryz.prog 63 #[v, .agg #[.int .i64 a, .int .i64 b]] w fun e w' => e = .returned (.int .i64 (placeN es a b)) ∧ Below w.heap.size w w' := by
  obtain ⟨A, c, rfl, hcc, hm, hA⟩ := h
  unfold maxLen at hm
  have hcb := curveB_bd hc
  rcases Nat.eq_zero_or_pos es.length with h0 | h0
  · obtain rfl : es = [] := List.eq_nil_of_length_eq_zero h0
    clear hA hval
    go_enter Tryz.func63, Tryz.ntmps63
    go_wp2
    refine wp_loop_rounds 1 ?_
    rw [rounds_succ]
    go_wp2
    refine wp_region_tame (by kernel_rfl) (by kernel_rfl) (fun T _ W hT => ?_)
    have hx := hT.cell
    repeat (go_big_quiet_step (fail))
    refine wpQuiet_nil ?_
    intro x
    clear hx
    go_wp2
    go_ret
    exact ⟨rfl, bthen (bal (Below.refl _ _) _) (hT.below x)⟩
  · obtain ⟨g, off, rfl, hg, hcell⟩ := hA h0
    clear hA
    have hcell := en_cells hcell
    have Hval := Lib.hid hval; clear hval
    have hbox : Blk _ w.heap.size 23 #[.int .i64 a, .int .i64 b] := Blk.new w _ _
    go_enter Tryz.func63, Tryz.ntmps63
    go_wp2
    go_loopw [5] (fun i wr => ∃ k : Nat, k ≤ es.length ∧ i = .int .i64 k ∧ (∀ j, j < k → befB es a b j = true) ∧ Below w.heap.size w wr ∧ Blk wr w.heap.size 23 #[.int .i64 a, .int .i64 b]) (fun i _ => es.length - (intOf i).toNat)
    case atStart => exact ⟨0, Nat.zero_le _, rfl, by omega, bal (Below.refl _ _) _, hbox⟩
    case round =>
      obtain ⟨k, hk, rfl, hok, hb, hblk⟩ := hrel
      clear hbox
      have Hok := Lib.hid hok; clear hok
      have q0 : wr.cell? ⟨w.heap.size, 0, none⟩ = some (.int .i64 a) := hblk.cell 0
      have q1 : wr.cell? ⟨w.heap.size, 1, none⟩ = some (.int .i64 b) := hblk.cell 1
      have ql := hblk.lt
      by_cases hlt : k < es.length
      · obtain ⟨f0, f1, f2, f3, f4⟩ := hcell k hlt
        rw [← hb.cell (p := ⟨_, _, _⟩) hg] at f0 f1 f2 f3 f4
        have hcv := entB_cbd (okAt_ent (Hval.out k hlt))
        have hbf : befB es a b k = decide (cmpC (enS.get es k).a (enS.get es k).b a b < 0) := rfl
        generalize enS.get es k = x at f0 f1 f2 f3 f4 hcv hbf
        have Hbf := Lib.hid hbf; clear hbf
        have hgr : g < wr.heap.size := Nat.lt_of_lt_of_le hg hb.size
        have hi0 : (0 : Int) ≤ (k : Int) := by omega
        have hi1 : (k : Int) < (es.length : Int) := by omega
        clear hcell
        cases hd : decide (cmpC x.a x.b a b < 0)
        · go_wp2
          refine wp_region_tame (by kernel_rfl) (by kernel_rfl) (fun T _ W hT => ?_)
          have hx := hT.cell
          repeat (go_big_quiet_step ((go_at_call 67; exact hT.call (caOrder_any _ _ _ _ _ hcv.1 hcv.2 hcb.1 hcb.2))))
          refine wpQuiet_nil ?_
          intro t
          clear hx
          go_wp2
          go_ret
          refine ⟨?_, bthen hb (hT.below t)⟩
          rw [show placeN es a b = k from lead_eq _ _ _ hk Hok.out (fun _ => by rw [Hbf.out, hd])]
          rfl
        · go_wp2
          refine wp_region_tame (by kernel_rfl) (by kernel_rfl) (fun T _ W hT => ?_)
          have hx := hT.cell
          repeat (go_big_quiet_step ((go_at_call 67; exact hT.call (caOrder_any _ _ _ _ _ hcv.1 hcv.2 hcb.1 hcb.2))))
          refine wpQuiet_nil ?_
          intro t
          clear hx
          go_wp2
          go_roundw
          case rel => exact ⟨k + 1, by omega, by go_num, all_lt_succ Hok.out (by rw [Hbf.out, hd]), bthen hb (hT.below t), hblk.on (hT.below t)⟩
          case measure => simp [intOf]; omega
      · have hd : decide (k < es.length) = false := by rw [decide_eq_false_iff_not]; exact hlt
        clear hcell
        go_wp2
        refine wp_region_tame (by kernel_rfl) (by kernel_rfl) (fun T _ W hT => ?_)
        have hx := hT.cell
        repeat (go_big_quiet_step (fail))
        refine wpQuiet_nil ?_
        intro t
        clear hx
        go_wp2
        go_ret
        refine ⟨?_, bthen hb (hT.below t)⟩
        rw [show placeN es a b = k from lead_eq _ _ _ hk Hok.out (fun h => absurd h hlt)]
        rfl

/-- Two curves, held against each other: one Bool. -/
theorem eqlCu (x y a b : Int) (W : World) : (binOp .eql 23 (.agg #[.int .i64 x, .int .i64 y]) (.agg #[.int .i64 a, .int .i64 b])).run Tryz.prog W = .ok (.bool (x == a && y == b)) W := by
  by_cases h1 : x = a <;> by_cases h2 : y = b <;> simp [go_sem, h1, h2]

set_option maxHeartbeats 800000 in
theorem caAt_any (v : Value) (es : List En) (k : Nat) (a b : Int) (w : World) (h : Rd enS w w.heap.size v es) :
    Calls Tryz.prog 64 #[v, .int .i64 k, .agg #[.int .i64 a, .int .i64 b]] w fun e w' => e = .returned (.bool (atB es k a b)) ∧ Below w.heap.size w w' := by
  obtain ⟨A, c, rfl, hcc, hm, hA⟩ := h
  unfold maxLen at hm
  by_cases hk : k < es.length
  · have hql := eqlCu
    obtain ⟨g, off, rfl, hg, hcell⟩ := hA (by omega)
    clear hA
    have hcell := en_cells hcell
    obtain ⟨f0, f1, f2, f3, f4⟩ := hcell k hk
    have hfin : atB es k a b = isCu es a b k := by unfold atB; rw [decide_eq_true hk, Bool.true_and]
    have hi0 : (0 : Int) ≤ (k : Int) := by omega
    have hi1 : (k : Int) < (es.length : Int) := by omega
    have hgr' : g < w.heap.size + 1 := Nat.lt_succ_of_lt hg
    unfold isCu at hfin
    generalize enS.get es k = x at *
    have Hfin := Lib.hid hfin; clear hfin hcell
    go_enter Tryz.func64, Tryz.ntmps64
    go_wp2
    refine wp_region_tame (by kernel_rfl) (by kernel_rfl) (fun T _ W hT => ?_)
    have hx := hT.cell
    repeat (go_big_quiet_step (fail))
    refine wpQuiet_nil ?_
    intro t
    clear hx
    go_wp2
    go_ret
    exact ⟨by rw [Hfin.out]; rfl, bthen (bal (Below.refl _ _) _) (hT.below t)⟩
  · have hd : decide (k < es.length) = false := by rw [decide_eq_false_iff_not]; exact hk
    have hfin : atB es k a b = false := by unfold atB; rw [hd, Bool.false_and]
    have Hfin := Lib.hid hfin; clear hfin hA
    go_enter Tryz.func64, Tryz.ntmps64
    go_wp2
    refine wp_region_tame (by kernel_rfl) (by kernel_rfl) (fun T _ W hT => ?_)
    have hx := hT.cell
    repeat (go_big_quiet_step (fail))
    refine wpQuiet_nil ?_
    intro t
    clear hx
    go_wp2
    go_ret
    exact ⟨by rw [Hfin.out]; rfl, bthen (bal (Below.refl _ _) _) (hT.below t)⟩

end Go.Proofs.YticbmpjdcanjkaaGreatDoor
