/- The entry of a curve: both functions. Conditions: none. -/
import Derived.Test.YtnphipfdpkgbaaaGoodEntry
namespace Go.Proofs.Ytnphipfdpkgbaaa
open Go Go.RowKit

/-- Does the k-th entry's curve come before a curve? -/
def befB (es : List En) (a b : Int) (k : Nat) : Bool := decide (cmpC (enS.get es k).a (enS.get es k).b a b < 0)
def isCu (es : List En) (a b : Int) (k : Nat) : Bool := (enS.get es k).a == a && (enS.get es k).b == b

/-- The number of the leading k's with p. -/
def lead (p : Nat → Bool) : Nat → Nat → Nat
  | 0, k => k
  | f + 1, k => if p k then lead p f (k + 1) else k
theorem lead_spec (p : Nat → Bool) : ∀ f k, k ≤ lead p f k ∧ lead p f k ≤ k + f ∧ (∀ j, k ≤ j → j < lead p f k → p j = true) ∧ (lead p f k < k + f → p (lead p f k) = false)
  | 0, k => ⟨Nat.le_refl _, Nat.le_refl _, fun j h1 h2 => by unfold lead at h2; omega, fun h => by unfold lead at h; omega⟩
  | f + 1, k => by
    unfold lead
    by_cases h : p k = true
    · rw [if_pos h]
      obtain ⟨h1, h2, h3, h4⟩ := lead_spec p f (k + 1)
      refine ⟨by omega, by omega, fun j hj1 hj2 => ?_, fun hl => h4 (by omega)⟩
      rcases Nat.lt_or_ge k j with hk | hk
      · exact h3 j (by omega) hj2
      · obtain rfl : j = k := by omega
        exact h
    · rw [if_neg h]
      exact ⟨Nat.le_refl _, by omega, fun j h1 h2 => by omega, fun _ => by simpa using h⟩
theorem lead_eq (p : Nat → Bool) (n m : Nat) (h1 : m ≤ n) (h2 : ∀ j, j < m → p j = true) (h3 : m < n → p m = false) : lead p n 0 = m := by
  obtain ⟨_, g2, g3, g4⟩ := lead_spec p n 0
  rcases Nat.lt_trichotomy (lead p n 0) m with h | h | h
  · have := g4 (by omega); rw [h2 _ h] at this; cases this
  · exact h
  · have := g3 m (by omega) h; rw [h3 (by omega)] at this; cases this

/-- The first place that does not come before a curve. -/
def placeN (es : List En) (a b : Int) : Nat := lead (befB es a b) es.length 0
def atB (es : List En) (k : Nat) (a b : Int) : Bool := decide (k < es.length) && isCu es a b k
/-- The first place of a curve. -/
def firstN (es : List En) (a b : Int) : Nat := lead (fun k => !isCu es a b k) es.length 0
def findV (es : List En) (a b : Int) : En × Bool := if catB es && decide (firstN es a b < es.length) then (enS.get es (firstN es a b), true) else (⟨0, 0, 0, 0, 0⟩, false)

theorem okAt_ent {es : List En} {k : Nat} (h : okAt es k = true) : entB (enS.get es k).a (enS.get es k).b (enS.get es k).lo (enS.get es k).hi (enS.get es k).to = true := by
  unfold okAt at h
  simp only [Bool.and_eq_true] at h
  exact h.1

set_option maxHeartbeats 1600000 in
theorem caPlace_any (v : Value) (es : List En) (a b : Int) (w : World) (h : Rd enS w w.heap.size v es) (hval : ∀ k, k < es.length → okAt es k = true) (hc : curveB a b = true) :
    Calls Try.prog 64 #[v, .agg #[.int .i64 a, .int .i64 b]] w fun e w' => e = .returned (.int .i64 (placeN es a b)) ∧ Below w.heap.size w w' := by
  obtain ⟨A, c, rfl, hcc, hm, hA⟩ := h
  unfold maxLen at hm
  have hcb := curveB_bd hc
  rcases Nat.eq_zero_or_pos es.length with h0 | h0
  · obtain rfl : es = [] := List.eq_nil_of_length_eq_zero h0
    clear hA hval
    go_enter Try.func64, Try.ntmps64
    go_wp2
    refine wp_loop_rounds 1 ?_
    rw [rounds_succ]
    go_wp2
    refine wp_region_tame (by kernel_rfl) (by kernel_rfl) (fun T _ W hT => ?_)
    have hx := hT.cell
    repeat (go_big_quiet_step (fail))
    refine wpQuiet_nil ?_
    intro x
    clear hx
    go_wp2
    go_ret
    exact ⟨rfl, bthen (bal (Below.refl _ _) _) (hT.below x)⟩
  · obtain ⟨g, off, rfl, hg, hcell⟩ := hA h0
    clear hA
    have hcell := en_cells hcell
    have Hval := Lib.hid hval; clear hval
    have hbox : Blk _ w.heap.size 34 #[.int .i64 a, .int .i64 b] := Blk.new w _ _
    go_enter Try.func64, Try.ntmps64
    go_wp2
    go_loopw [5] (fun i wr => ∃ k : Nat, k ≤ es.length ∧ i = .int .i64 k ∧ (∀ j, j < k → befB es a b j = true) ∧ Below w.heap.size w wr ∧ Blk wr w.heap.size 34 #[.int .i64 a, .int .i64 b]) (fun i _ => es.length - (intOf i).toNat)
    case atStart => exact ⟨0, Nat.zero_le _, rfl, by omega, bal (Below.refl _ _) _, hbox⟩
    case round =>
      obtain ⟨k, hk, rfl, hok, hb, hblk⟩ := hrel
      clear hbox
      have Hok := Lib.hid hok; clear hok
      have q0 : wr.cell? ⟨w.heap.size, 0, none⟩ = some (.int .i64 a) := hblk.cell 0
      have q1 : wr.cell? ⟨w.heap.size, 1, none⟩ = some (.int .i64 b) := hblk.cell 1
      have ql := hblk.lt
      by_cases hlt : k < es.length
      · obtain ⟨f0, f1, f2, f3, f4⟩ := hcell k hlt
        rw [← hb.cell (p := ⟨_, _, _⟩) hg] at f0 f1 f2 f3 f4
        have hcv := entB_cbd (okAt_ent (Hval.out k hlt))
        have hbf : befB es a b k = decide (cmpC (enS.get es k).a (enS.get es k).b a b < 0) := rfl
        generalize enS.get es k = x at f0 f1 f2 f3 f4 hcv hbf
        have Hbf := Lib.hid hbf; clear hbf
        have hgr : g < wr.heap.size := Nat.lt_of_lt_of_le hg hb.size
        have hi0 : (0 : Int) ≤ (k : Int) := by omega
        have hi1 : (k : Int) < (es.length : Int) := by omega
        clear hcell
        cases hd : decide (cmpC x.a x.b a b < 0)
        · go_wp2
          refine wp_region_tame (by kernel_rfl) (by kernel_rfl) (fun T _ W hT => ?_)
          have hx := hT.cell
          repeat (go_big_quiet_step ((go_at_call 113; exact hT.call (caOrder_any _ _ _ _ _ hcv.1 hcv.2 hcb.1 hcb.2))))
          refine wpQuiet_nil ?_
          intro t
          clear hx
          go_wp2
          go_ret
          refine ⟨?_, bthen hb (hT.below t)⟩
          rw [show placeN es a b = k from lead_eq _ _ _ hk Hok.out (fun _ => by rw [Hbf.out, hd])]
          rfl
        · go_wp2
          refine wp_region_tame (by kernel_rfl) (by kernel_rfl) (fun T _ W hT => ?_)
          have hx := hT.cell
          repeat (go_big_quiet_step ((go_at_call 113; exact hT.call (caOrder_any _ _ _ _ _ hcv.1 hcv.2 hcb.1 hcb.2))))
          refine wpQuiet_nil ?_
          intro t
          clear hx
          go_wp2
          go_roundw
          case rel => exact ⟨k + 1, by omega, by go_num, all_lt_succ Hok.out (by rw [Hbf.out, hd]), bthen hb (hT.below t), hblk.on (hT.below t)⟩
          case measure => simp [intOf]; omega
      · have hd : decide (k < es.length) = false := by rw [decide_eq_false_iff_not]; exact hlt
        clear hcell
        go_wp2
        refine wp_region_tame (by kernel_rfl) (by kernel_rfl) (fun T _ W hT => ?_)
        have hx := hT.cell
        repeat (go_big_quiet_step (fail))
        refine wpQuiet_nil ?_
        intro t
        clear hx
        go_wp2
        go_ret
        refine ⟨?_, bthen hb (hT.below t)⟩
        rw [show placeN es a b = k from lead_eq _ _ _ hk Hok.out (fun h => absurd h hlt)]
        rfl

/-- Two curves, held against each other: one Bool. -/
theorem eqlCu (x y a b : Int) (W : World) : (binOp .eql 34 (.agg #[.int .i64 x, .int .i64 y]) (.agg #[.int .i64 a, .int .i64 b])).run Try.prog W = .ok (.bool (x == a && y == b)) W := by
  by_cases h1 : x = a <;> by_cases h2 : y = b <;> simp [go_sem, h1, h2]

set_option maxHeartbeats 800000 in
theorem caAt_any (v : Value) (es : List En) (k : Nat) (a b : Int) (w : World) (h : Rd enS w w.heap.size v es) :
    Calls Try.prog 65 #[v, .int .i64 k, .agg #[.int .i64 a, .int .i64 b]] w fun e w' => e = .returned (.bool (atB es k a b)) ∧ Below w.heap.size w w' := by
  obtain ⟨A, c, rfl, hcc, hm, hA⟩ := h
  unfold maxLen at hm
  by_cases hk : k < es.length
  · have hql := eqlCu
    obtain ⟨g, off, rfl, hg, hcell⟩ := hA (by omega)
    clear hA
    have hcell := en_cells hcell
    obtain ⟨f0, f1, f2, f3, f4⟩ := hcell k hk
    have hfin : atB es k a b = isCu es a b k := by unfold atB; rw [decide_eq_true hk, Bool.true_and]
    have hi0 : (0 : Int) ≤ (k : Int) := by omega
    have hi1 : (k : Int) < (es.length : Int) := by omega
    have hgr' : g < w.heap.size + 1 := Nat.lt_succ_of_lt hg
    unfold isCu at hfin
    generalize enS.get es k = x at *
    have Hfin := Lib.hid hfin; clear hfin hcell
    go_enter Try.func65, Try.ntmps65
    go_wp2
    refine wp_region_tame (by kernel_rfl) (by kernel_rfl) (fun T _ W hT => ?_)
    have hx := hT.cell
    repeat (go_big_quiet_step (fail))
    refine wpQuiet_nil ?_
    intro t
    clear hx
    go_wp2
    go_ret
    exact ⟨by rw [Hfin.out]; rfl, bthen (bal (Below.refl _ _) _) (hT.below t)⟩
  · have hd : decide (k < es.length) = false := by rw [decide_eq_false_iff_not]; exact hk
    have hfin : atB es k a b = false := by unfold atB; rw [hd, Bool.false_and]
    have Hfin := Lib.hid hfin; clear hfin hA
    go_enter Try.func65, Try.ntmps65
    go_wp2
    refine wp_region_tame (by kernel_rfl) (by kernel_rfl) (fun T _ W hT => ?_)
    have hx := hT.cell
    repeat (go_big_quiet_step (fail))
    refine wpQuiet_nil ?_
    intro t
    clear hx
    go_wp2
    go_ret
    exact ⟨by rw [Hfin.out]; rfl, bthen (bal (Below.refl _ _) _) (hT.below t)⟩

theorem entryAt1_any (e : En) (a b : Int) (g : Nat) (w : World) (h0 : w.cell? ⟨g, 0, none⟩ = some (.int .i64 a)) (h1 : w.cell? ⟨g, 1, none⟩ = some (.int .i64 b)) :
    Calls Try.prog 115 #[.agg #[.int .i64 e.a, .int .i64 e.b, .int .i64 e.lo, .int .i64 e.hi, .int .i64 e.to], .pointer (some ⟨g, 0, none⟩)] w fun r w' => r = .returned (.bool (e.a == a && e.b == b)) ∧ Below w.heap.size w w' := by
  have hg := World.block_lt_of_cell? w _ h0
  have hql := eqlCu
  go_enter Try.func115, Try.ntmps115
  go_wp2
  go_ret
  exact ⟨rfl, by (repeat (with_reducible first | exact Below.refl _ _ | assumption | refine bal ?_ _ | refine bst ?_ (by simp <;> omega) _ | refine Below.drew ?_ | refine bthen ?_ (by assumption)))⟩

set_option maxHeartbeats 1600000 in
/-- The first place of a curve, or -1. -/
theorem indexFunc_cu (v : Value) (es : List En) (a b : Int) (gc : Nat) (w : World) (h : Rd enS w w.heap.size v es) (q0 : w.cell? ⟨gc, 0, none⟩ = some (.int .i64 a)) (q1 : w.cell? ⟨gc, 1, none⟩ = some (.int .i64 b)) :
    Calls Try.prog 114 #[v, .func (Fn.func 115) #[] #[.pointer (some ⟨gc, 0, none⟩)]] w fun r w' =>
      (∃ q : Int, r = .returned (.int .i64 q) ∧ (firstN es a b < es.length ∧ q = firstN es a b ∨ firstN es a b = es.length ∧ q = -1)) ∧ Below w.heap.size w w' := by
  have hgc := World.block_lt_of_cell? w _ q0
  obtain ⟨A, c, rfl, hcc, hm, hA⟩ := h
  unfold maxLen at hm
  rcases Nat.eq_zero_or_pos es.length with h0 | h0
  · obtain rfl : es = [] := List.eq_nil_of_length_eq_zero h0
    clear hA
    go_enter Try.func114, Try.ntmps114
    go_wp2
    refine wp_loop_rounds 1 ?_
    rw [rounds_succ]
    go_wp2
    go_ret
    exact ⟨⟨_, rfl, .inr ⟨rfl, rfl⟩⟩, Below.refl _ _⟩
  · obtain ⟨g, off, rfl, hg, hcell⟩ := hA h0
    clear hA
    have hcell := en_cells hcell
    go_enter Try.func114, Try.ntmps114
    go_wp2
    go_loopw [8] (fun i wr => ∃ k : Nat, k ≤ es.length ∧ i = .int .i64 k ∧ (∀ j, j < k → isCu es a b j = false) ∧ Below w.heap.size w wr) (fun i _ => es.length - (intOf i).toNat)
    case atStart => exact ⟨0, Nat.zero_le _, rfl, by omega, Below.refl _ _⟩
    case round =>
      obtain ⟨k, hk, rfl, hok, hb⟩ := hrel
      have Hok := Lib.hid hok; clear hok
      rw [← hb.cell (p := ⟨_, _, _⟩) hgc] at q0 q1
      by_cases hlt : k < es.length
      · obtain ⟨f0, f1, f2, f3, f4⟩ := hcell k hlt
        rw [← hb.cell (p := ⟨_, _, _⟩) hg] at f0 f1 f2 f3 f4
        have hbf : isCu es a b k = ((enS.get es k).a == a && (enS.get es k).b == b) := rfl
        generalize enS.get es k = x at f0 f1 f2 f3 f4 hbf
        have Hbf := Lib.hid hbf; clear hbf
        have hi0 : (0 : Int) ≤ (k : Int) := by omega
        have hi1 : (k : Int) < (es.length : Int) := by omega
        clear hcell
        cases hd : (x.a == a && x.b == b)
        all_goals
          go_wp2_with (go_at_call 115; refine (entryAt1_any x a b gc _ q0 q1).mono ?_; rintro e w1 ⟨rfl, hb1⟩)
        · go_roundw
          case rel => exact ⟨k + 1, by omega, by go_num, all_lt_succ Hok.out (by rw [Hbf.out, hd]), bthen hb hb1⟩
          case measure => simp [intOf]; omega
        · go_ret
          have : firstN es a b = k := lead_eq _ _ _ hk (fun j hj => by rw [Hok.out j hj]; rfl) (fun _ => by rw [Hbf.out, hd]; rfl)
          exact ⟨⟨_, rfl, .inl ⟨by omega, by rw [this]⟩⟩, bthen hb hb1⟩
      · clear hcell
        go_wp2
        go_ret
        have : firstN es a b = k := lead_eq _ _ _ hk (fun j hj => by rw [Hok.out j hj]; rfl) (fun h => absurd h hlt)
        exact ⟨⟨_, rfl, .inr ⟨by omega, rfl⟩⟩, hb⟩

set_option maxHeartbeats 800000 in
theorem entryAt_any (v : Value) (es : List En) (a b : Int) (w : World) (h : Rd enS w w.heap.size v es) :
    Calls Try.prog 62 #[v, .agg #[.int .i64 a, .int .i64 b]] w fun r w' =>
      (∃ (q : Int) (k : Bool), r = .returned (.tuple #[.int .i64 q, .bool k]) ∧ k = (catB es && decide (firstN es a b < es.length)) ∧ (firstN es a b < es.length → q = firstN es a b)) ∧ Below w.heap.size w w' := by
  have Hr := Lib.hid h; clear h
  have hbA : Below w.heap.size w (w.alloc _) := bal (Below.refl _ _) (Obj.cells #[.int .i64 a, .int .i64 b] 34)
  have hbox : Blk _ w.heap.size 34 #[.int .i64 a, .int .i64 b] := Blk.new w _ _
  go_enter Try.func62, Try.ntmps62
  go_wp2_with fail
  refine (indexFunc_cu v es a b _ _ (Hr.out.on hbA) (hbox.cell 0) (hbox.cell 1)).mono ?_
  rintro e w1 ⟨⟨q, rfl, hq⟩, hb1⟩
  replace hb1 := bthen hbA hb1
  rcases hq with ⟨h1, h2⟩ | ⟨h1, h2⟩
  · have hd : decide (0 ≤ q) = true := by rw [decide_eq_true_eq, h2]; omega
    have hq0 : 0 ≤ q := by omega
    have H2 := Lib.hid h2; clear h2 hbox
    go_wp2_with (go_at_call 58; refine (isCatalogue_any _ es _ (Hr.out.on hb1)).mono ?_; rintro e w2 ⟨rfl, hb2⟩)
    go_ret2
    exact ⟨⟨_, _, rfl, by rw [decide_eq_true h1, Bool.and_true], fun _ => H2.out⟩, bthen hb1 hb2⟩
  · subst h2
    clear hbox
    go_wp2
    go_ret2
    exact ⟨⟨_, _, rfl, by rw [decide_eq_false (by omega), Bool.and_false], fun h => by omega⟩, hb1⟩
end Go.Proofs.Ytnphipfdpkgbaaa
