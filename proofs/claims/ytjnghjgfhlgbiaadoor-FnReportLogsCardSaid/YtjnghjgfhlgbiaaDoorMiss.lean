/- MissingReports of the reference and of the program: the walks. Conditions: none. -/
import Derived.Test.YtjnghjgfhlgbiaaDoorDel
namespace Go.Proofs.YtjnghjgfhlgbiaaDoor
open Go Go.RowKit

def hasR (xs : List Rp) (x : Rp) : Bool := xs.any (fun y => decide (y = x))
def missV (xs bs : List Rp) : List Rp × Bool := if repsB xs && repsB bs then (bs.filter (fun x => !hasR xs x), true) else ([], false)
theorem missV_len {xs bs : List Rp} (y : List Rp) (b : Bool) (h : missV xs bs = (y, b)) : y.length ≤ 20 := by
  unfold missV at h
  split at h
  · rename_i hc
    simp only [Bool.and_eq_true] at hc
    obtain ⟨rfl, -⟩ := Prod.mk.inj h
    exact Nat.le_trans (List.length_filter_le _ _) (repsB_spec hc.2).1
  · obtain ⟨rfl, -⟩ := Prod.mk.inj h; simp
theorem get_mem {xs : List Rp} {k : Nat} (hk : k < xs.length) : rpS.get xs k ∈ xs := by
  simp [Shape.get, List.getD_eq_getElem?_getD, List.getElem?_eq_getElem hk]
theorem mem_get {xs : List Rp} {y : Rp} (h : y ∈ xs) : ∃ k, k < xs.length ∧ rpS.get xs k = y := by
  obtain ⟨k, hk, rfl⟩ := List.mem_iff_getElem.1 h
  exact ⟨k, hk, by simp [Shape.get, List.getD_eq_getElem?_getD, List.getElem?_eq_getElem hk]⟩
theorem hasR_yes {xs : List Rp} {x : Rp} {k : Nat} (hk : k < xs.length) (h : rpS.get xs k = x) : hasR xs x = true := by
  unfold hasR
  rw [List.any_eq_true]
  exact ⟨_, get_mem hk, by rw [h]; simp⟩
theorem hasR_no {xs : List Rp} {x : Rp} (h : ∀ k, k < xs.length → ¬ rpS.get xs k = x) : hasR xs x = false := by
  unfold hasR
  rw [List.any_eq_false]
  intro y hy
  obtain ⟨k, hk, rfl⟩ := mem_get hy
  simpa using h k hk

set_option maxRecDepth 8000 in
theorem eqlRp (x y : Rp) (W : World) : (binOp .eql 30 (.agg #[.int .i64 x.tm, .int .i64 x.mc, .int .i64 x.a, .int .i64 x.b, .int .i64 x.lo, .int .i64 x.hi, .int .i64 x.to]) (.agg #[.int .i64 y.tm, .int .i64 y.mc, .int .i64 y.a, .int .i64 y.b, .int .i64 y.lo, .int .i64 y.hi, .int .i64 y.to])).run Tryd.prog W = .ok (.bool (decide (x = y))) W := by
  obtain ⟨a1, a2, a3, a4, a5, a6, a7⟩ := x
  obtain ⟨b1, b2, b3, b4, b5, b6, b7⟩ := y
  by_cases h1 : a1 = b1
  · by_cases h2 : a2 = b2
    · by_cases h3 : a3 = b3
      · by_cases h4 : a4 = b4
        · by_cases h5 : a5 = b5
          · by_cases h6 : a6 = b6
            · by_cases h7 : a7 = b7
              · simp [go_sem, h1, h2, h3, h4, h5, h6, h7]
              · simp [go_sem, h1, h2, h3, h4, h5, h6, h7]
            · simp [go_sem, h1, h2, h3, h4, h5, h6]
          · simp [go_sem, h1, h2, h3, h4, h5]
        · simp [go_sem, h1, h2, h3, h4]
      · simp [go_sem, h1, h2, h3]
    · simp [go_sem, h1, h2]
  · simp [go_sem, h1]

set_option maxRecDepth 8000 in
set_option maxHeartbeats 1600000 in
theorem indexRp_any (v : Value) (xs : List Rp) (y : Rp) (w : World) (h : Rd rpS w w.heap.size v xs) :
    Calls Tryd.prog 60 #[v, .agg #[.int .i64 y.tm, .int .i64 y.mc, .int .i64 y.a, .int .i64 y.b, .int .i64 y.lo, .int .i64 y.hi, .int .i64 y.to]] w fun r w' => (∃ q : Int, r = .returned (.int .i64 q) ∧ (hasR xs y = true ∧ 0 ≤ q ∨ hasR xs y = false ∧ q = -1)) ∧ Below w.heap.size w w' := by
  obtain ⟨A, c, rfl, hcc, hm, hA⟩ := h
  unfold maxLen at hm
  rcases Nat.eq_zero_or_pos xs.length with h0 | h0
  · obtain rfl : xs = [] := List.eq_nil_of_length_eq_zero h0
    clear hA
    go_enter Tryd.func60, Tryd.ntmps60
    go_wp2
    refine wp_loop_rounds 1 ?_
    rw [rounds_succ]
    go_wp2
    go_ret
    exact ⟨⟨_, rfl, .inr ⟨rfl, rfl⟩⟩, by (repeat (with_reducible first | exact Below.refl _ _ | assumption | refine bal ?_ _ | refine bst ?_ (by simp <;> omega) _ | refine Below.drew ?_ | refine bthen ?_ (by assumption)))⟩
  · obtain ⟨g, off, rfl, hg, hcell⟩ := hA h0
    clear hA
    have hcell := rp_cells hcell
    have hbox : Blk _ w.heap.size 30 #[.int .i64 y.tm, .int .i64 y.mc, .int .i64 y.a, .int .i64 y.b, .int .i64 y.lo, .int .i64 y.hi, .int .i64 y.to] := Blk.new w _ _
    have Hbox := Lib.hid hbox; clear hbox
    go_enter Tryd.func60, Tryd.ntmps60
    go_wp2
    go_loopw [8] (fun i wr => ∃ k : Nat, k ≤ xs.length ∧ i = .int .i64 k ∧ (∀ j, j < k → ¬ rpS.get xs j = y) ∧ Below w.heap.size w wr ∧ Blk wr w.heap.size 30 #[.int .i64 y.tm, .int .i64 y.mc, .int .i64 y.a, .int .i64 y.b, .int .i64 y.lo, .int .i64 y.hi, .int .i64 y.to]) (fun i _ => xs.length - (intOf i).toNat)
    case atStart => exact ⟨0, Nat.zero_le _, rfl, by omega, bal (Below.refl _ _) _, Hbox.out⟩
    case round =>
      obtain ⟨k, hk, rfl, hok, hb, hblk⟩ := hrel
      have Hok := Lib.hid hok; clear hok
      have q0 := hblk.cell 0
      have q1 := hblk.cell 1
      have q2 := hblk.cell 2
      have q3 := hblk.cell 3
      have q4 := hblk.cell 4
      have q5 := hblk.cell 5
      have q6 := hblk.cell 6
      have ql := hblk.lt
      by_cases hlt : k < xs.length
      · obtain ⟨f0, f1, f2, f3, f4, f5, f6⟩ := hcell k hlt
        rw [← hb.cell (p := ⟨_, _, _⟩) hg] at f0 f1 f2 f3 f4 f5 f6
        have hgr : g < wr.heap.size := Nat.lt_of_lt_of_le hg hb.size
        generalize hx : rpS.get xs k = x at f0 f1 f2 f3 f4 f5 f6
        have Hx := Lib.hid hx; clear hx
        have hi0 : (0 : Int) ≤ (k : Int) := by omega
        have hi1 : (k : Int) < (xs.length : Int) := by omega
        have Hblk := Lib.hid hblk
        have hql := eqlRp y x
        clear hcell hblk
        by_cases hd : y = x
        · have hql2 : ∀ W, (binOp .eql 30 (.agg #[.int .i64 y.tm, .int .i64 y.mc, .int .i64 y.a, .int .i64 y.b, .int .i64 y.lo, .int .i64 y.hi, .int .i64 y.to]) (.agg #[.int .i64 x.tm, .int .i64 x.mc, .int .i64 x.a, .int .i64 x.b, .int .i64 x.lo, .int .i64 x.hi, .int .i64 x.to])).run Tryd.prog W = .ok (.bool true) W := fun W => by rw [hql W, decide_eq_true hd]
          have Hd := Lib.hid hd
          clear hql hd
          go_wp2
          refine wp_region_tame (by kernel_rfl) (by kernel_rfl) (fun T _ W hT => ?_)
          have hx := hT.cell
          repeat (go_big_quiet_step (fail))
          refine wpQuiet_nil ?_
          intro t
          clear hx
          go_wp2
          go_ret
          exact ⟨⟨_, rfl, .inl ⟨hasR_yes hlt (Hx.out.trans Hd.out.symm), hi0⟩⟩, bthen hb (hT.below t)⟩
        · have hql2 : ∀ W, (binOp .eql 30 (.agg #[.int .i64 y.tm, .int .i64 y.mc, .int .i64 y.a, .int .i64 y.b, .int .i64 y.lo, .int .i64 y.hi, .int .i64 y.to]) (.agg #[.int .i64 x.tm, .int .i64 x.mc, .int .i64 x.a, .int .i64 x.b, .int .i64 x.lo, .int .i64 x.hi, .int .i64 x.to])).run Tryd.prog W = .ok (.bool false) W := fun W => by rw [hql W, decide_eq_false hd]
          have Hd := Lib.hid hd
          clear hql hd
          go_wp2
          refine wp_region_tame (by kernel_rfl) (by kernel_rfl) (fun T _ W hT => ?_)
          have hx := hT.cell
          repeat (go_big_quiet_step (fail))
          refine wpQuiet_nil ?_
          intro t
          clear hx
          go_wp2
          go_roundw
          case rel => exact ⟨k + 1, by omega, by go_num, all_lt_succ Hok.out (by rw [Hx.out]; exact fun e => Hd.out e.symm), bthen hb (hT.below t), Hblk.out.on (hT.below t)⟩
          case measure => simp [intOf]; omega
      · have hd : decide (k < xs.length) = false := decide_eq_false hlt
        clear hcell hblk
        go_wp2
        go_ret
        exact ⟨⟨_, rfl, .inr ⟨hasR_no (fun j hj => Hok.out j (by omega)), rfl⟩⟩, hb⟩
theorem containsRp_any (v : Value) (xs : List Rp) (y : Rp) (w : World) (h : Rd rpS w w.heap.size v xs) :
    Calls Tryd.prog 38 #[v, .agg #[.int .i64 y.tm, .int .i64 y.mc, .int .i64 y.a, .int .i64 y.b, .int .i64 y.lo, .int .i64 y.hi, .int .i64 y.to]] w fun r w' => r = .returned (.bool (hasR xs y)) ∧ Below w.heap.size w w' := by
  have Hr := Lib.hid h; clear h
  have hbA : Below w.heap.size w (w.alloc _) := bal (Below.refl _ _) (Obj.cells #[.int .i64 y.tm, .int .i64 y.mc, .int .i64 y.a, .int .i64 y.b, .int .i64 y.lo, .int .i64 y.hi, .int .i64 y.to] 30)
  have HbA := Lib.hid hbA; clear hbA
  go_enter Tryd.func38, Tryd.ntmps38
  go_wp2_with fail
  refine (indexRp_any v xs y _ (Hr.out.on HbA.out)).mono ?_
  rintro e w1 ⟨⟨q, rfl, hq⟩, hb1⟩
  rcases hq with ⟨h1, h2⟩ | ⟨h1, h2⟩
  · have H1 := Lib.hid h1; clear h1
    have h3 : decide (0 ≤ q) = true := decide_eq_true h2
    go_wp2
    go_ret
    exact ⟨by rw [H1.out]; rfl, bthen HbA.out hb1⟩
  · have H1 := Lib.hid h1; clear h1
    subst h2
    go_wp2
    go_ret
    exact ⟨by rw [H1.out]; rfl, bthen HbA.out hb1⟩
end Go.Proofs.YtjnghjgfhlgbiaaDoor
