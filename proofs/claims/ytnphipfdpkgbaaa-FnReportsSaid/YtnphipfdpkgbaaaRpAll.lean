/- Lists of structs of ints compared by the laws, with what it rests on: Helpers of the laws of reports: own rows of reports, big, the program's AreReports; Plain laws of FnReports: joined logs, their catalogues, reports without contradictions; JoinReports of the reference and of the program: the walks; MissingReports of the program: the walk. Conditions: those of each theorem. -/
import Derived.Test.YtnphipfdpkgbaaaBase2
import Derived.Test.YtnphipfdpkgbaaaShapes
import Derived.Deep.RegionHeld3
import Derived.Test.YtnphipfdpkgbaaaDrI
import Derived.Test.YtnphipfdpkgbaaaGoodReport
import Derived.Test.YtnphipfdpkgbaaaCtP
import Derived.Test.YtnphipfdpkgbaaaJoinL
import Derived.Test.YtnphipfdpkgbaaaWithout
import Derived.Test.YtnphipfdpkgbaaaPutS
import Derived.Test.YtnphipfdpkgbaaaIns
import Derived.Test.YtnphipfdpkgbaaaApp2
import Derived.Test.YtnphipfdpkgbaaaMiss
namespace Go.Proofs.Ytnphipfdpkgbaaa
section
open Go Go.RowKit
theorem take_getQ {E : Type} {S : Shape E} {es : List E} {k : Nat} (h : k < es.length) : es.take (k + 1) = es.take k ++ [S.get es k] := by
  rw [List.take_succ_eq_append_getElem h]
  unfold Shape.get
  rw [List.getD_eq_getElem?_getD, List.getElem?_eq_getElem h]; rfl
set_option maxRecDepth 8000 in
theorem neqRpQ (x y : Rp) (W : World) : (binOp .neq 107 (.agg #[.int .i64 x.tm, .int .i64 x.mc, .int .i64 x.a, .int .i64 x.b, .int .i64 x.lo, .int .i64 x.hi, .int .i64 x.«to»]) (.agg #[.int .i64 y.tm, .int .i64 y.mc, .int .i64 y.a, .int .i64 y.b, .int .i64 y.lo, .int .i64 y.hi, .int .i64 y.«to»])).run Try.prog W = .ok (.bool (!decide (x = y))) W := by
  obtain ⟨a0, a1, a2, a3, a4, a5, a6⟩ := x
  obtain ⟨b0, b1, b2, b3, b4, b5, b6⟩ := y
  by_cases h0 : a0 = b0
  · by_cases h1 : a1 = b1
    · by_cases h2 : a2 = b2
      · by_cases h3 : a3 = b3
        · by_cases h4 : a4 = b4
          · by_cases h5 : a5 = b5
            · by_cases h6 : a6 = b6
              · simp [go_sem, h0, h1, h2, h3, h4, h5, h6]
              · simp [go_sem, h0, h1, h2, h3, h4, h5, h6]
            · simp [go_sem, h0, h1, h2, h3, h4, h5]
          · simp [go_sem, h0, h1, h2, h3, h4]
        · simp [go_sem, h0, h1, h2, h3]
      · simp [go_sem, h0, h1, h2]
    · simp [go_sem, h0, h1]
  · simp [go_sem, h0]
set_option maxRecDepth 8000 in
set_option maxHeartbeats 4000000 in
theorem qRp_any (u v : Value) (es fs : List Rp) (w : World) (hu : Rd rpS w w.heap.size u es) (hv : Rd rpS w w.heap.size v fs) :
    Calls Try.prog 45 #[u, v] w fun r w' => r = .returned (.bool (decide (es = fs))) ∧ Below w.heap.size w w' := by
  obtain ⟨A, c, rfl, hc, hm, hA⟩ := hu
  obtain ⟨A', c', rfl, hc', hm', hA'⟩ := hv
  unfold maxLen at hm hm'
  by_cases hlen : es.length = fs.length
  · have hne : ((es.length : Int) != (fs.length : Int)) = false := by simp [hlen]
    rcases Nat.eq_zero_or_pos es.length with h0 | h0
    · obtain rfl : es = [] := List.eq_nil_of_length_eq_zero h0
      obtain rfl : fs = [] := List.eq_nil_of_length_eq_zero (by rw [← hlen]; exact h0)
      clear hA hA' hlen hne
      go_enter Try.func45, Try.ntmps45
      go_wp2
      refine wp_loop_rounds 1 ?_
      rw [rounds_succ]
      go_wp2
      go_ret
      exact ⟨rfl, by (repeat (with_reducible first | exact Below.refl _ _ | assumption | refine bal ?_ _ | refine bst ?_ (by simp <;> omega) _ | refine Below.drew ?_ | refine bthen ?_ (by assumption)))⟩
    · obtain ⟨g, off, rfl, hg, hcell⟩ := hA h0
      obtain ⟨g', off', rfl, hg', hcell'⟩ := hA' (by omega)
      clear hA hA'
      have hcell := rp_cells hcell
      have hcell' := rp_cells hcell'
      rw [← hlen] at hcell' hc'
      have Hlen := Lib.hid hlen
      rw [← hlen]
      clear hlen hne
      go_enter Try.func45, Try.ntmps45
      go_wp2
      go_loopw [13] (fun i wr => ∃ k : Nat, k ≤ es.length ∧ i = .int .i64 k ∧ Hid (es.take k = fs.take k) ∧ Below w.heap.size w wr) (fun i _ => es.length - (intOf i).toNat)
      case atStart => exact ⟨0, Nat.zero_le _, rfl, Lib.hid (by simp), Below.refl _ _⟩
      case round =>
        obtain ⟨k, hk, rfl, Heq, hb⟩ := hrel
        by_cases hlt : k < es.length
        · obtain ⟨f0, f1, f2, f3, f4, f5, f6⟩ := hcell k hlt
          obtain ⟨p0, p1, p2, p3, p4, p5, p6⟩ := hcell' k hlt
          rw [← hb.cell (p := ⟨_, _, _⟩) hg] at f0 f1 f2 f3 f4 f5 f6
          rw [← hb.cell (p := ⟨_, _, _⟩) hg'] at p0 p1 p2 p3 p4 p5 p6
          obtain ⟨x, hx⟩ : ∃ e, rpS.get es k = e := ⟨_, rfl⟩
          obtain ⟨y, hy⟩ : ∃ e, rpS.get fs k = e := ⟨_, rfl⟩
          rw [hx] at f0 f1 f2 f3 f4 f5 f6
          rw [hy] at p0 p1 p2 p3 p4 p5 p6
          have Hx := Lib.hid hx; have Hy := Lib.hid hy
          have hgr : g < wr.heap.size := Nat.lt_of_lt_of_le hg hb.size
          have hgr' : g' < wr.heap.size := Nat.lt_of_lt_of_le hg' hb.size
          have hi0 : (0 : Int) ≤ (k : Int) := by omega
          have hi1 : (k : Int) < (es.length : Int) := by omega
          have hql := neqRpQ x y
          clear hcell hcell' hx hy
          by_cases hd : x = y
          · have hql2 : ∀ W, (binOp .neq 107 (.agg #[.int .i64 x.tm, .int .i64 x.mc, .int .i64 x.a, .int .i64 x.b, .int .i64 x.lo, .int .i64 x.hi, .int .i64 x.«to»]) (.agg #[.int .i64 y.tm, .int .i64 y.mc, .int .i64 y.a, .int .i64 y.b, .int .i64 y.lo, .int .i64 y.hi, .int .i64 y.«to»])).run Try.prog W = .ok (.bool false) W := fun W => by rw [hql W, decide_eq_true hd]; rfl
            have Hnext := Lib.hid (show es.take (k + 1) = fs.take (k + 1) by rw [take_getQ (S := rpS) hlt, take_getQ (S := rpS) (by have := Hlen.out; omega), Heq.out, Hx.out, Hy.out, hd])
            clear hql hd
            go_wp2
            refine wp_region_tame (by kernel_rfl) (by kernel_rfl) (fun T _ W hT => ?_)
            have hz := hT.cell
            repeat (go_big_quiet_step (fail))
            refine wpQuiet_nil ?_
            intro t
            clear hz
            go_wp2
            go_roundw
            case rel => exact ⟨k + 1, by omega, by go_num, Hnext, bthen hb (hT.below t)⟩
            case measure => simp [intOf]; omega
          · have hql2 : ∀ W, (binOp .neq 107 (.agg #[.int .i64 x.tm, .int .i64 x.mc, .int .i64 x.a, .int .i64 x.b, .int .i64 x.lo, .int .i64 x.hi, .int .i64 x.«to»]) (.agg #[.int .i64 y.tm, .int .i64 y.mc, .int .i64 y.a, .int .i64 y.b, .int .i64 y.lo, .int .i64 y.hi, .int .i64 y.«to»])).run Try.prog W = .ok (.bool true) W := fun W => by rw [hql W, decide_eq_false hd]; rfl
            have Hno := Lib.hid (show decide (es = fs) = false from decide_eq_false (fun e => hd (by rw [← Hx.out, ← Hy.out, e])))
            clear hql hd
            go_wp2
            refine wp_region_tame (by kernel_rfl) (by kernel_rfl) (fun T _ W hT => ?_)
            have hz := hT.cell
            repeat (go_big_quiet_step (fail))
            refine wpQuiet_nil ?_
            intro t
            clear hz
            go_wp2
            go_ret
            exact ⟨ret_bool Hno.out.symm, bthen hb (hT.below t)⟩
        · obtain rfl : k = es.length := by omega
          have Hyes := Lib.hid (show decide (es = fs) = true from decide_eq_true (by have h := Heq.out; rw [List.take_length, Hlen.out, List.take_length] at h; exact h))
          clear hcell hcell'
          go_wp2
          go_ret
          exact ⟨ret_bool Hyes.out.symm, hb⟩
  · have hne : ((es.length : Int) != (fs.length : Int)) = true := by simp; omega
    have Hno := Lib.hid (show decide (es = fs) = false from decide_eq_false (fun e => hlen (by rw [e])))
    clear hA hA'
    have Hlen := Lib.hid hlen; clear hlen
    go_enter Try.func45, Try.ntmps45
    go_wp2
    go_ret
    exact ⟨ret_bool Hno.out.symm, by (repeat (with_reducible first | exact Below.refl _ _ | assumption | refine bal ?_ _ | refine bst ?_ (by simp <;> omega) _ | refine Below.drew ?_ | refine bthen ?_ (by assumption)))⟩
set_option maxRecDepth 8000 in
theorem neqEnQ (x y : En) (W : World) : (binOp .neq 36 (.agg #[.int .i64 x.a, .int .i64 x.b, .int .i64 x.lo, .int .i64 x.hi, .int .i64 x.«to»]) (.agg #[.int .i64 y.a, .int .i64 y.b, .int .i64 y.lo, .int .i64 y.hi, .int .i64 y.«to»])).run Try.prog W = .ok (.bool (!decide (x = y))) W := by
  obtain ⟨a0, a1, a2, a3, a4⟩ := x
  obtain ⟨b0, b1, b2, b3, b4⟩ := y
  by_cases h0 : a0 = b0
  · by_cases h1 : a1 = b1
    · by_cases h2 : a2 = b2
      · by_cases h3 : a3 = b3
        · by_cases h4 : a4 = b4
          · simp [go_sem, h0, h1, h2, h3, h4]
          · simp [go_sem, h0, h1, h2, h3, h4]
        · simp [go_sem, h0, h1, h2, h3]
      · simp [go_sem, h0, h1, h2]
    · simp [go_sem, h0, h1]
  · simp [go_sem, h0]
set_option maxRecDepth 8000 in
set_option maxHeartbeats 4000000 in
theorem pEn_any (u v : Value) (es fs : List En) (w : World) (hu : Rd enS w w.heap.size u es) (hv : Rd enS w w.heap.size v fs) :
    Calls Try.prog 49 #[u, v] w fun r w' => r = .returned (.bool (decide (es = fs))) ∧ Below w.heap.size w w' := by
  obtain ⟨A, c, rfl, hc, hm, hA⟩ := hu
  obtain ⟨A', c', rfl, hc', hm', hA'⟩ := hv
  unfold maxLen at hm hm'
  by_cases hlen : es.length = fs.length
  · have hne : ((es.length : Int) != (fs.length : Int)) = false := by simp [hlen]
    rcases Nat.eq_zero_or_pos es.length with h0 | h0
    · obtain rfl : es = [] := List.eq_nil_of_length_eq_zero h0
      obtain rfl : fs = [] := List.eq_nil_of_length_eq_zero (by rw [← hlen]; exact h0)
      clear hA hA' hlen hne
      go_enter Try.func49, Try.ntmps49
      go_wp2
      refine wp_loop_rounds 1 ?_
      rw [rounds_succ]
      go_wp2
      go_ret
      exact ⟨rfl, by (repeat (with_reducible first | exact Below.refl _ _ | assumption | refine bal ?_ _ | refine bst ?_ (by simp <;> omega) _ | refine Below.drew ?_ | refine bthen ?_ (by assumption)))⟩
    · obtain ⟨g, off, rfl, hg, hcell⟩ := hA h0
      obtain ⟨g', off', rfl, hg', hcell'⟩ := hA' (by omega)
      clear hA hA'
      have hcell := en_cells hcell
      have hcell' := en_cells hcell'
      rw [← hlen] at hcell' hc'
      have Hlen := Lib.hid hlen
      rw [← hlen]
      clear hlen hne
      go_enter Try.func49, Try.ntmps49
      go_wp2
      go_loopw [13] (fun i wr => ∃ k : Nat, k ≤ es.length ∧ i = .int .i64 k ∧ Hid (es.take k = fs.take k) ∧ Below w.heap.size w wr) (fun i _ => es.length - (intOf i).toNat)
      case atStart => exact ⟨0, Nat.zero_le _, rfl, Lib.hid (by simp), Below.refl _ _⟩
      case round =>
        obtain ⟨k, hk, rfl, Heq, hb⟩ := hrel
        by_cases hlt : k < es.length
        · obtain ⟨f0, f1, f2, f3, f4⟩ := hcell k hlt
          obtain ⟨p0, p1, p2, p3, p4⟩ := hcell' k hlt
          rw [← hb.cell (p := ⟨_, _, _⟩) hg] at f0 f1 f2 f3 f4
          rw [← hb.cell (p := ⟨_, _, _⟩) hg'] at p0 p1 p2 p3 p4
          obtain ⟨x, hx⟩ : ∃ e, enS.get es k = e := ⟨_, rfl⟩
          obtain ⟨y, hy⟩ : ∃ e, enS.get fs k = e := ⟨_, rfl⟩
          rw [hx] at f0 f1 f2 f3 f4
          rw [hy] at p0 p1 p2 p3 p4
          have Hx := Lib.hid hx; have Hy := Lib.hid hy
          have hgr : g < wr.heap.size := Nat.lt_of_lt_of_le hg hb.size
          have hgr' : g' < wr.heap.size := Nat.lt_of_lt_of_le hg' hb.size
          have hi0 : (0 : Int) ≤ (k : Int) := by omega
          have hi1 : (k : Int) < (es.length : Int) := by omega
          have hql := neqEnQ x y
          clear hcell hcell' hx hy
          by_cases hd : x = y
          · have hql2 : ∀ W, (binOp .neq 36 (.agg #[.int .i64 x.a, .int .i64 x.b, .int .i64 x.lo, .int .i64 x.hi, .int .i64 x.«to»]) (.agg #[.int .i64 y.a, .int .i64 y.b, .int .i64 y.lo, .int .i64 y.hi, .int .i64 y.«to»])).run Try.prog W = .ok (.bool false) W := fun W => by rw [hql W, decide_eq_true hd]; rfl
            have Hnext := Lib.hid (show es.take (k + 1) = fs.take (k + 1) by rw [take_getQ (S := enS) hlt, take_getQ (S := enS) (by have := Hlen.out; omega), Heq.out, Hx.out, Hy.out, hd])
            clear hql hd
            go_wp2
            refine wp_region_tame (by kernel_rfl) (by kernel_rfl) (fun T _ W hT => ?_)
            have hz := hT.cell
            repeat (go_big_quiet_step (fail))
            refine wpQuiet_nil ?_
            intro t
            clear hz
            go_wp2
            go_roundw
            case rel => exact ⟨k + 1, by omega, by go_num, Hnext, bthen hb (hT.below t)⟩
            case measure => simp [intOf]; omega
          · have hql2 : ∀ W, (binOp .neq 36 (.agg #[.int .i64 x.a, .int .i64 x.b, .int .i64 x.lo, .int .i64 x.hi, .int .i64 x.«to»]) (.agg #[.int .i64 y.a, .int .i64 y.b, .int .i64 y.lo, .int .i64 y.hi, .int .i64 y.«to»])).run Try.prog W = .ok (.bool true) W := fun W => by rw [hql W, decide_eq_false hd]; rfl
            have Hno := Lib.hid (show decide (es = fs) = false from decide_eq_false (fun e => hd (by rw [← Hx.out, ← Hy.out, e])))
            clear hql hd
            go_wp2
            refine wp_region_tame (by kernel_rfl) (by kernel_rfl) (fun T _ W hT => ?_)
            have hz := hT.cell
            repeat (go_big_quiet_step (fail))
            refine wpQuiet_nil ?_
            intro t
            clear hz
            go_wp2
            go_ret
            exact ⟨ret_bool Hno.out.symm, bthen hb (hT.below t)⟩
        · obtain rfl : k = es.length := by omega
          have Hyes := Lib.hid (show decide (es = fs) = true from decide_eq_true (by have h := Heq.out; rw [List.take_length, Hlen.out, List.take_length] at h; exact h))
          clear hcell hcell'
          go_wp2
          go_ret
          exact ⟨ret_bool Hyes.out.symm, hb⟩
  · have hne : ((es.length : Int) != (fs.length : Int)) = true := by simp; omega
    have Hno := Lib.hid (show decide (es = fs) = false from decide_eq_false (fun e => hlen (by rw [e])))
    clear hA hA'
    have Hlen := Lib.hid hlen; clear hlen
    go_enter Try.func49, Try.ntmps49
    go_wp2
    go_ret
    exact ⟨ret_bool Hno.out.symm, by (repeat (with_reducible first | exact Below.refl _ _ | assumption | refine bal ?_ _ | refine bst ?_ (by simp <;> omega) _ | refine Below.drew ?_ | refine bthen ?_ (by assumption)))⟩
end
section
open Go Go.RowKit

def rpMk9 (c : Nat → Int) : Rp := ⟨c 0, c 1, c 2, c 3, c 4, c 5, c 6⟩
theorem rpMk9_cell (c : Nat → Int) (j : Nat) (hj : j < rpS.size) : rpS.cell (rpMk9 c) j = .int .i64 (c j) := by
  match j, hj with
  | 0, _ => rfl
  | 1, _ => rfl
  | 2, _ => rfl
  | 3, _ => rfl
  | 4, _ => rfl
  | 5, _ => rfl
  | 6, _ => rfl
theorem IR.rp {w : World} {B : Nat} {t : TypeId} {v : Value} {n : Nat} (h : IR w B t 7 v n) : ∃ es : List Rp, es.length = n ∧ w.ownsRow B t 7 v es.length (rpS.flat es) := by
  obtain ⟨xs, h1, h2⟩ := h.ex
  obtain ⟨es, h3, h4⟩ := flat_ex rpS rpMk9 rpMk9_cell n xs h1.1 h2
  exact ⟨es, h3, by rw [h3, h4]; exact h1⟩
theorem qRp_eq (u v : Value) (es fs : List Rp) (w : World) (e : es = fs) (hu : Rd rpS w w.heap.size u es) (hv : Rd rpS w w.heap.size v fs) :
    Calls Try.prog 45 #[u, v] w fun r w' => r = .returned (.bool true) ∧ Below w.heap.size w w' := by
  have h := qRp_any u v es fs w hu hv
  rwa [decide_eq_true e] at h
theorem qRp_same (u v : Value) (es : List Rp) (w : World) (hu : Rd rpS w w.heap.size u es) (hv : Rd rpS w w.heap.size v es) :
    Calls Try.prog 45 #[u, v] w fun r w' => r = .returned (.bool true) ∧ Below w.heap.size w w' := qRp_eq u v es es w rfl hu hv
theorem pEn_same (u v : Value) (es : List En) (w : World) (hu : Rd enS w w.heap.size u es) (hv : Rd enS w w.heap.size v es) :
    Calls Try.prog 49 #[u, v] w fun r w' => r = .returned (.bool true) ∧ Below w.heap.size w w' := by
  have h := pEn_any u v es es w hu hv
  rwa [decide_eq_true rfl] at h
def bigB (n m : Nat) : Bool := decide (1048576 < (n : Int)) || decide (1048576 - (n : Int) < (m : Int))
theorem big_any (A : Option Addr) (n c : Nat) (B : Option Addr) (m d : Nat) (w : World) :
    Calls Try.prog 22 #[.slice A n c, .slice B m d] w fun r w' => r = .returned (.bool (bigB n m)) ∧ Below w.heap.size w w' := by
  by_cases h1 : (1048576 : Int) < (n : Int)
  · have h1' : 1048576 < n := by omega
    have hv : bigB n m = true := by unfold bigB; rw [decide_eq_true h1]; rfl
    rw [hv]; clear hv
    go_enter Try.func22, Try.ntmps22
    go_wp2
    go_ret
    exact ⟨rfl, Below.refl _ _⟩
  · have h1' : ¬ 1048576 < n := by omega
    have hv : bigB n m = decide (1048576 - (n : Int) < (m : Int)) := by unfold bigB; rw [decide_eq_false h1]; rfl
    rw [hv]; clear hv
    go_enter Try.func22, Try.ntmps22
    go_wp2
    go_ret
    exact ⟨rfl, Below.refl _ _⟩
theorem areI_any (v : Value) (es : List Rp) (w : World) (h : Rd rpS w w.heap.size v es) :
    Calls Try.prog 46 #[v] w fun e w' => e = .returned (.bool (repsB es)) ∧ Below w.heap.size w w' := by
  go_enter Try.func46, Try.ntmps46
  go_wp2_with (go_at_call 92; refine (areReports_any _ _ _ h).mono ?_; rintro e w' ⟨rfl, hb1⟩)
  go_ret
  exact ⟨rfl, by (repeat (with_reducible first | exact Below.refl _ _ | assumption | refine bal ?_ _ | refine bst ?_ (by simp <;> omega) _ | refine Below.drew ?_ | refine bthen ?_ (by assumption)))⟩
end
section
open Go Go.RowKit

/-! ### Reports in order -/
theorem getR_is {es : List Rp} {k : Nat} (h : k < es.length) : rpS.get es k = es[k] := by
  unfold Shape.get
  rw [List.getD_eq_getElem?_getD, List.getElem?_eq_getElem h]; rfl
theorem okReps_pw {es : List Rp} (h : okReps es) : es.Pairwise (fun x y => cmpR x y < 0) := by
  rw [List.pairwise_iff_getElem]
  intro i j hi hj hij
  have := reps_lt h hij hj
  rwa [getR_is hi, getR_is hj] at this
theorem okReps_mem {es : List Rp} (h : okReps es) {x : Rp} (hx : x ∈ es) : repR x = true := by
  obtain ⟨i, hi, rfl⟩ := List.mem_iff_getElem.1 hx
  have := okR_rep (h i hi)
  rwa [getR_is hi] at this
theorem okReps_of {es : List Rp} (h1 : es.Pairwise (fun x y => cmpR x y < 0)) (h2 : ∀ x ∈ es, repR x = true) : okReps es := by
  intro k hk
  rw [okRAt_eq, getR_is hk, h2 _ (List.getElem_mem hk), Bool.true_and]
  cases k with
  | zero => rfl
  | succ k =>
    rw [Nat.add_sub_cancel, getR_is (show k < es.length by omega)]
    have := (List.pairwise_iff_getElem.1 h1) k (k + 1) (by omega) hk (by omega)
    rw [decide_eq_true this, Bool.or_true]
theorem cmpR_irr (x : Rp) : ¬ cmpR x x < 0 := by
  have : cmpR x x = 0 := cmpR_zero' rfl rfl
  omega
theorem reps_ext {x y : List Rp} (hx : okReps x) (hy : okReps y) (h : ∀ u, u ∈ x ↔ u ∈ y) : x = y :=
  sort_ext (R := fun x y => cmpR x y < 0) cmpR_irr (fun _ _ _ h1 h2 => cmpR_trans h1 h2) x y (okReps_pw hx) (okReps_pw hy) h
theorem reps_uniq {es : List Rp} (h : okReps es) {x y : Rp} (hx : x ∈ es) (hy : y ∈ es) (hs : cmpR x y = 0) : x = y := by
  obtain ⟨i, hi, rfl⟩ := List.mem_iff_getElem.1 hx
  obtain ⟨j, hj, rfl⟩ := List.mem_iff_getElem.1 hy
  rcases Nat.lt_trichotomy i j with h1 | h1 | h1
  · have := reps_lt h h1 hj
    rw [getR_is hi, getR_is hj] at this
    omega
  · subst h1; rfl
  · have := reps_lt h h1 hi
    rw [getR_is hi, getR_is hj] at this
    obtain ⟨e1, e2⟩ := cmpR_zero hs
    have h0 : cmpR es[j] es[i] = 0 := cmpR_zero' e1.symm e2.symm
    omega

/-! ### Joined logs -/
theorem joinS_all (xs bs : List Rp) (y : Rp) : y ∈ joinS xs bs ↔ (y ∈ xs ∨ y ∈ bs) := by
  have h := joinS_mem xs bs bs.length (Nat.le_refl _) y
  rw [List.take_length] at h
  rw [h]
  constructor
  · rintro (h | ⟨j, hj, rfl, -⟩)
    · exact .inl h
    · exact .inr (get_mem hj)
  · rintro (h | h)
    · exact .inl h
    · cases hh : hasR xs y
      · obtain ⟨j, hj, e⟩ := mem_get h
        exact .inr ⟨j, hj, e, rfl⟩
      · exact .inl (hasR_mem.1 hh)
theorem joinG_yes {xs bs j : List Rp} (h : joinG xs bs = (j, true)) : repsB xs = true ∧ repsB bs = true ∧ repsB j = true ∧ j = joinS xs bs := by
  cases hx : repsB xs
  · unfold joinG at h; rw [hx] at h; cases h
  cases hb : repsB bs
  · unfold joinG at h; rw [hx, hb] at h; cases h
  rw [joinG_spec hx hb] at h
  split at h
  · rename_i hj
    injection h with h1 h2
    subst h1
    exact ⟨rfl, rfl, hj, rfl⟩
  · cases h
/-- Logs within one that is in order: their join is in order too. -/
theorem joinI_in {xs bs j : List Rp} (hx : repsB xs = true) (hb : repsB bs = true) (hj : okReps j) (h1 : ∀ y ∈ xs, y ∈ j) (h2 : ∀ y ∈ bs, y ∈ j) : ∀ k, k ≤ bs.length → ∃ z, joinI xs (bs.take k) = some z
  | 0, _ => ⟨xs, joinI_zero xs bs⟩
  | k + 1, hk => by
    obtain ⟨z, hz⟩ := joinI_in hx hb hj h1 h2 k (by omega)
    obtain ⟨e1, o1⟩ := join_same (repsB_spec hx).2 (repsB_spec hb).2 k (by omega) z hz
    have hm := joinS_mem xs bs k (by omega)
    rw [← e1] at hm
    rw [joinI_succ xs (by omega), hz]
    show ∃ z', joinStep z (rpS.get bs k) = some z'
    have hr : rpS.get bs k ∈ j := h2 _ (get_mem (by omega))
    generalize rpS.get bs k = r at *
    unfold joinStep
    cases hf : foundR z r
    · exact ⟨_, rfl⟩
    · rw [if_pos rfl]
      unfold foundR at hf
      simp only [Bool.and_eq_true, decide_eq_true_eq] at hf
      have hin : rpS.get z (placeR z r.tm r.mc) ∈ j := by
        rcases (hm _).1 (get_mem hf.1) with h | ⟨i, hi, h, -⟩
        · exact h1 _ h
        · rw [← h]; exact h2 _ (get_mem (by omega))
      rw [if_pos (reps_uniq hj hin hr hf.2)]
      exact ⟨_, rfl⟩
theorem joinG_in {xs bs j : List Rp} (hx : repsB xs = true) (hb : repsB bs = true) (hj : repsB j = true) (h : ∀ y, y ∈ j ↔ (y ∈ xs ∨ y ∈ bs)) : joinG xs bs = (j, true) := by
  obtain ⟨l1, o1⟩ := repsB_spec hj
  obtain ⟨z, hz⟩ := joinI_in hx hb o1 (fun y hy => (h y).2 (.inl hy)) (fun y hy => (h y).2 (.inr hy)) bs.length (Nat.le_refl _)
  obtain ⟨e, o⟩ := join_same (repsB_spec hx).2 (repsB_spec hb).2 bs.length (Nat.le_refl _) z hz
  rw [List.take_length] at hz e
  have hzj : z = j := reps_ext o o1 (fun u => by rw [e, joinS_all, h])
  subst hzj
  unfold joinG joinV
  rw [hx, hb, hz]
  simp only [Bool.and_self, if_true]
  rw [if_pos l1]
theorem join_mem {xs bs j : List Rp} (h : joinG xs bs = (j, true)) : ∀ y, y ∈ j ↔ (y ∈ xs ∨ y ∈ bs) := by
  obtain ⟨-, -, -, rfl⟩ := joinG_yes h
  exact joinS_all xs bs
theorem join_back {xs bs j : List Rp} (h : joinG xs bs = (j, true)) : joinG bs xs = (j, true) := by
  obtain ⟨h1, h2, h3, -⟩ := joinG_yes h
  exact joinG_in h2 h1 h3 (fun y => (join_mem h y).trans Or.comm)
theorem join_again {xs bs j : List Rp} (h : joinG xs bs = (j, true)) : joinG j bs = (j, true) := by
  obtain ⟨h1, h2, h3, -⟩ := joinG_yes h
  refine joinG_in h3 h2 h3 (fun y => ⟨.inl, ?_⟩)
  rintro (hy | hy)
  · exact hy
  · exact (join_mem h y).2 (.inr hy)
theorem join_none {xs bs j : List Rp} (h : joinG xs bs = (j, true)) : missV j bs = ([], true) := by
  obtain ⟨h1, h2, h3, -⟩ := joinG_yes h
  unfold missV
  rw [h3, h2]
  simp only [Bool.and_self, if_true]
  congr 1
  rw [List.filter_eq_nil_iff]
  intro y hy
  rw [hasR_mem.2 ((join_mem h y).2 (.inr hy))]
  simp
theorem joinS_length (xs : List Rp) : ∀ (bs z : List Rp), (bs.foldl (fun z r => if hasR xs r then z else putR z r) z).length = z.length + (bs.filter (fun x => !hasR xs x)).length
  | [], z => by simp
  | r :: bs, z => by
    rw [List.foldl_cons, joinS_length xs bs, List.filter_cons]
    cases h : hasR xs r
    · simp only [Bool.false_eq_true, if_false, Bool.not_false, if_true, List.length_cons, length_putR]; omega
    · simp
theorem join_len {xs bs j m : List Rp} {o : Bool} (h : joinG xs bs = (j, true)) (k : missV xs bs = (m, o)) : o = true ∧ j.length = xs.length + m.length := by
  obtain ⟨h1, h2, h3, rfl⟩ := joinG_yes h
  unfold missV at k
  rw [h1, h2] at k
  injection k with k1 k2
  subst k1
  exact ⟨k2.symm, joinS_length xs bs xs⟩
theorem join_reps {xs bs j : List Rp} (h : joinG xs bs = (j, true)) : repsB j = true := (joinG_yes h).2.2.1

/-! ### Their catalogues -/
/-- A catalogue of what these reports say, and of nothing else. -/
def says (es : List Rp) (z : List En) : Prop :=
  okCat z ∧ (∀ r ∈ es, ∃ v ∈ z, sm v (entR r) ∧ r.lo ≤ v.lo ∧ v.hi ≤ r.hi ∧ (r.to ≠ 0 → v.to = r.to)) ∧
  ∀ v ∈ z, (∃ r ∈ es, sm v (entR r) ∧ v.lo = r.lo) ∧ (∃ r ∈ es, sm v (entR r) ∧ v.hi = r.hi) ∧ (∃ r ∈ es, sm v (entR r) ∧ v.to = r.to)
def fG (z : List En) (bs : List Rp) : Option (List En) := bs.foldl (fun o r => o.bind (fun z => stepG z (entR r))) (some z)
theorem fG_nil (z : List En) : fG z [] = some z := rfl
theorem fG_cons (z : List En) (r : Rp) (bs : List Rp) : fG z (r :: bs) = (stepG z (entR r)).bind (fun u => fG u bs) := by
  unfold fG
  rw [List.foldl_cons]
  show bs.foldl _ (stepG z (entR r)) = _
  cases stepG z (entR r) with
  | none => exact foldG_none bs
  | some u => rfl
theorem foldG_fG (es : List Rp) : foldG es = fG [] es := rfl
theorem says_nil : says [] [] := ⟨okCat_nil, fun _ hr => (nomatch hr), fun _ hv => (nomatch hv)⟩
theorem okMeet_parts {x y : En} (h : okMeet x y = true) : (x.to = 0 ∨ y.to = 0 ∨ x.to = y.to) ∧ mostI x.lo y.lo ≤ leastI x.hi y.hi := by
  unfold okMeet tornB at h
  simp only [Bool.and_eq_true, Bool.not_eq_true', decide_eq_true_eq, Bool.and_eq_false_iff, bne_eq_false_iff_eq] at h
  exact h
theorem okMeet_of {x y : En} (h1 : x.to = 0 ∨ y.to = 0 ∨ x.to = y.to) (h2 : mostI x.lo y.lo ≤ leastI x.hi y.hi) : okMeet x y = true := by
  unfold okMeet tornB
  simp only [Bool.and_eq_true, Bool.not_eq_true', decide_eq_true_eq, Bool.and_eq_false_iff, bne_eq_false_iff_eq]
  exact ⟨h1, h2⟩
theorem meet_to {x y : En} (hx : entE x = true) (hy : entE y = true) (h : okMeet x y = true) : (x.to ≠ 0 → (meetE x y).to = x.to) ∧ (y.to ≠ 0 → (meetE x y).to = y.to) ∧ ((meetE x y).to = x.to ∨ (meetE x y).to = y.to) := by
  have h1 := to_nonneg hx
  have h2 := to_nonneg hy
  obtain ⟨h3, -⟩ := okMeet_parts h
  show (x.to ≠ 0 → mostI x.to y.to = x.to) ∧ (y.to ≠ 0 → mostI x.to y.to = y.to) ∧ (mostI x.to y.to = x.to ∨ mostI x.to y.to = y.to)
  unfold mostI
  split <;> refine ⟨fun h => ?_, fun h => ?_, ?_⟩ <;> omega
theorem meet_lo (x y : En) : x.lo ≤ (meetE x y).lo ∧ y.lo ≤ (meetE x y).lo ∧ ((meetE x y).lo = x.lo ∨ (meetE x y).lo = y.lo) := by
  show x.lo ≤ mostI x.lo y.lo ∧ y.lo ≤ mostI x.lo y.lo ∧ (mostI x.lo y.lo = x.lo ∨ mostI x.lo y.lo = y.lo)
  unfold mostI
  split <;> omega
theorem meet_hi (x y : En) : (meetE x y).hi ≤ x.hi ∧ (meetE x y).hi ≤ y.hi ∧ ((meetE x y).hi = x.hi ∨ (meetE x y).hi = y.hi) := by
  show leastI x.hi y.hi ≤ x.hi ∧ leastI x.hi y.hi ≤ y.hi ∧ (leastI x.hi y.hi = x.hi ∨ leastI x.hi y.hi = y.hi)
  unfold leastI
  split <;> omega
theorem says_step {done : List Rp} {r : Rp} {z z' : List En} (h : says done z) (hr : entE (entR r) = true) (ht : tightO z (entR r) = some z') : says (done ++ [r]) z' := by
  obtain ⟨h1, h2, h3⟩ := h
  have hm := tight_mem h1 ht
  have hk : ∀ x ∈ z, sm x (entR r) → okMeet x (entR r) = true := fun x hx hs => by
    cases hk : okMeet x (entR r) with
    | true => rfl
    | false => rw [(tight_none h1).2 ⟨x, hx, hs, hk⟩] at ht; cases ht
  refine ⟨tight_ok h1 hr ht, fun q hq => ?_, fun u hu => ?_⟩
  · rcases List.mem_append.1 hq with hq | hq
    · obtain ⟨v, hv, hs, a1, a2, a3⟩ := h2 q hq
      by_cases hvr : sm v (entR r)
      · obtain ⟨b1, b2, b3⟩ := meet_to (okCat_mem h1 hv) hr (hk v hv hvr)
        obtain ⟨c1, c2, c3⟩ := meet_lo v (entR r)
        obtain ⟨d1, d2, d3⟩ := meet_hi v (entR r)
        refine ⟨meetE v (entR r), (hm _).2 (.inr (.inl ⟨v, hv, hvr, rfl⟩)), (meet_sm _ _).trans hs, by omega, by omega, fun hq0 => ?_⟩
        have := a3 hq0
        rw [b1 (by omega), this]
      · exact ⟨v, (hm _).2 (.inl ⟨hv, hvr⟩), hs, a1, a2, a3⟩
    · rw [List.mem_singleton] at hq
      subst hq
      by_cases hx : ∃ x ∈ z, sm x (entR q)
      · obtain ⟨x, hx, hs⟩ := hx
        obtain ⟨b1, b2, b3⟩ := meet_to (okCat_mem h1 hx) hr (hk x hx hs)
        obtain ⟨c1, c2, c3⟩ := meet_lo x (entR q)
        obtain ⟨d1, d2, d3⟩ := meet_hi x (entR q)
        exact ⟨meetE x (entR q), (hm _).2 (.inr (.inl ⟨x, hx, hs, rfl⟩)), (meet_sm _ _).trans hs, c2, d2, b2⟩
      · exact ⟨entR q, (hm _).2 (.inr (.inr ⟨fun x hx2 hs => hx ⟨x, hx2, hs⟩, rfl⟩)), sm.rfl' _, Int.le_refl _, Int.le_refl _, fun _ => rfl⟩
  · have hrr : r ∈ done ++ [r] := by simp
    rcases (hm u).1 hu with ⟨hu, -⟩ | ⟨x, hx, hs, rfl⟩ | ⟨-, rfl⟩
    · obtain ⟨⟨p1, p2, p3, p4⟩, ⟨q1, q2, q3, q4⟩, r1, r2, r3, r4⟩ := h3 u hu
      exact ⟨⟨p1, List.mem_append_left _ p2, p3, p4⟩, ⟨q1, List.mem_append_left _ q2, q3, q4⟩, r1, List.mem_append_left _ r2, r3, r4⟩
    · obtain ⟨⟨p1, p2, p3, p4⟩, ⟨q1, q2, q3, q4⟩, r1, r2, r3, r4⟩ := h3 x hx
      have hmx := meet_sm x (entR r)
      have hmr := hmx.trans hs
      refine ⟨?_, ?_, ?_⟩
      · rcases (meet_lo x (entR r)).2.2 with e | e
        · exact ⟨p1, List.mem_append_left _ p2, hmx.trans p3, e.trans p4⟩
        · exact ⟨r, hrr, hmr, e⟩
      · rcases (meet_hi x (entR r)).2.2 with e | e
        · exact ⟨q1, List.mem_append_left _ q2, hmx.trans q3, e.trans q4⟩
        · exact ⟨r, hrr, hmr, e⟩
      · rcases (meet_to (okCat_mem h1 hx) hr (hk x hx hs)).2.2 with e | e
        · exact ⟨r1, List.mem_append_left _ r2, hmx.trans r3, e.trans r4⟩
        · exact ⟨r, hrr, hmr, e⟩
    · exact ⟨⟨r, hrr, sm.rfl' _, rfl⟩, ⟨r, hrr, sm.rfl' _, rfl⟩, r, hrr, sm.rfl' _, rfl⟩
theorem fG_says : ∀ (bs done : List Rp) (z : List En), says done z → z.length ≤ 12 → (∀ r ∈ bs, entE (entR r) = true) → ∀ z', fG z bs = some z' → says (done ++ bs) z' ∧ z'.length ≤ 12
  | [], done, z, h, hl, _, z', hz => by
    rw [fG_nil] at hz
    cases hz
    rw [List.append_nil]
    exact ⟨h, hl⟩
  | r :: bs, done, z, h, hl, hb, z', hz => by
    rw [fG_cons] at hz
    cases hs : stepG z (entR r) with
    | none => rw [hs] at hz; cases hz
    | some u =>
      rw [hs] at hz
      obtain ⟨t1, t2⟩ := stepG_spec hs
      have := fG_says bs (done ++ [r]) u (says_step h (hb r (by simp)) t1) t2 (fun q hq => hb q (by simp [hq])) z' hz
      rwa [List.append_assoc] at this
/-- A list without twins within another one is not longer. -/
theorem nodup_le {E : Type} [DecidableEq E] : ∀ (x y : List E), x.Nodup → (∀ u ∈ x, u ∈ y) → x.length ≤ y.length
  | [], y, _, _ => by simp
  | a :: x, y, h, hs => by
    obtain ⟨h1, h2⟩ := List.nodup_cons.1 h
    have ha : a ∈ y := hs a (by simp)
    have := nodup_le x (y.erase a) h2 (fun u hu => by
      have hne : u ≠ a := fun e => h1 (e ▸ hu)
      exact (List.mem_erase_of_ne hne).2 (hs u (by simp [hu])))
    have hl := List.length_erase_of_mem ha
    have : 0 < y.length := List.length_pos_of_mem ha
    simp only [List.length_cons]
    omega
theorem says_len {es es' : List Rp} {z z' : List En} (h : says es z) (h' : says es' z') (hs : ∀ r ∈ es', r ∈ es) : z'.length ≤ z.length := by
  have hn : (z'.map (fun v => (v.a, v.b))).Nodup := by
    rw [List.nodup_iff_pairwise_ne, List.pairwise_map]
    refine (okCat_nsm h'.1).imp (fun {x y} hxy e => hxy ?_)
    injection e with e1 e2
    exact ⟨e1, e2⟩
  have := nodup_le (z'.map (fun v => (v.a, v.b))) (z.map (fun v => (v.a, v.b))) hn (fun c hc => by
    obtain ⟨v, hv, rfl⟩ := List.mem_map.1 hc
    obtain ⟨⟨r, hr, hvr, -⟩, -, -⟩ := h'.2.2 v hv
    obtain ⟨V, hV, hVr, -⟩ := h.2.1 r (hs r hr)
    have e := hvr.trans hVr.symm
    exact List.mem_map.2 ⟨V, hV, by rw [e.1, e.2]⟩)
  simpa using this
theorem ent_ends {x : En} (h : entE x = true) : x.lo ≤ x.hi := by
  unfold entE entB at h
  simp only [Bool.and_eq_true, decide_eq_true_eq] at h
  omega
/-- Fewer reports have a catalogue too. -/
theorem fG_sub {es : List Rp} {Z : List En} (hZ : says es Z) (hl : Z.length ≤ 12) (he : ∀ r ∈ es, entE (entR r) = true) : ∀ (bs done : List Rp) (z : List En), says done z → (∀ r ∈ done, r ∈ es) → (∀ r ∈ bs, r ∈ es) → ∃ z', fG z bs = some z' ∧ says (done ++ bs) z'
  | [], done, z, h, _, _ => ⟨z, rfl, by rwa [List.append_nil]⟩
  | r :: bs, done, z, h, hd, hb => by
    have hr := hb r (by simp)
    obtain ⟨V, hV, hVr, v1, v2, v3⟩ := hZ.2.1 r hr
    have hVe := ent_ends (okCat_mem hZ.1 hV)
    have key : ∀ x ∈ z, sm x (entR r) → okMeet x (entR r) = true := fun x hx hs => by
      obtain ⟨⟨q1, p1, p2, p3⟩, ⟨q2, p4, p5, p6⟩, q3, p7, p8, p9⟩ := h.2.2 x hx
      have one : ∀ q, q ∈ done → sm x (entR q) → q.lo ≤ V.lo ∧ V.hi ≤ q.hi ∧ (q.to ≠ 0 → V.to = q.to) := fun q hq hxq => by
        obtain ⟨W, hW, hWq, w1, w2, w3⟩ := hZ.2.1 q (hd q hq)
        have : W = V := okCat_uniq hZ.1 hW hV ((hWq.trans hxq.symm).trans (hs.trans hVr.symm))
        subst this
        exact ⟨w1, w2, w3⟩
      obtain ⟨a1, -, -⟩ := one q1 p1 p2
      obtain ⟨-, a2, -⟩ := one q2 p4 p5
      obtain ⟨-, -, a3⟩ := one q3 p7 p8
      refine okMeet_of ?_ ?_
      · show x.to = 0 ∨ r.to = 0 ∨ x.to = r.to
        by_cases e1 : x.to = 0
        · exact .inl e1
        · by_cases e2 : r.to = 0
          · exact .inr (.inl e2)
          · have := a3 (by omega)
            have := v3 e2
            exact .inr (.inr (by omega))
      · show mostI x.lo r.lo ≤ leastI x.hi r.hi
        unfold mostI leastI
        split <;> split <;> omega
    cases ht : tightO z (entR r) with
    | none =>
      obtain ⟨x, hx, hs, hk⟩ := (tight_none h.1).1 ht
      rw [key x hx hs] at hk; cases hk
    | some u =>
      have hsu := says_step h (he r hr) ht
      have hdu : ∀ q ∈ done ++ [r], q ∈ es := fun q hq => by
        rcases List.mem_append.1 hq with hq | hq
        · exact hd q hq
        · rw [List.mem_singleton.1 hq]; exact hr
      have hul := says_len hZ hsu hdu
      obtain ⟨z', h1, h2⟩ := fG_sub hZ hl he bs (done ++ [r]) u hsu hdu (fun q hq => hb q (by simp [hq]))
      refine ⟨z', ?_, by rwa [List.append_assoc] at h2⟩
      rw [fG_cons, stepG_ok ht (by omega)]
      exact h1
theorem says_better {es es' : List Rp} {z z' : List En} (h : says es z) (h' : says es' z') (hs : ∀ r ∈ es', r ∈ es) (hl : z.length ≤ 12) : betV z z' = (true, true) := by
  have hl' := says_len h h' hs
  refine betV_of (catB_true hl h.1) (catB_true (by omega) h'.1) (fun x hx => ?_)
  obtain ⟨⟨q1, p1, p2, p3⟩, ⟨q2, p4, p5, p6⟩, q3, p7, p8, p9⟩ := h'.2.2 x hx
  obtain ⟨V, hV, hVr, v1, v2, v3⟩ := h.2.1 q1 (hs q1 p1)
  have hxV : sm V x := hVr.trans p2.symm
  have one : ∀ q, q ∈ es' → sm x (entR q) → q.lo ≤ V.lo ∧ V.hi ≤ q.hi ∧ (q.to ≠ 0 → V.to = q.to) := fun q hq hxq => by
    obtain ⟨W, hW, hWq, w1, w2, w3⟩ := h.2.1 q (hs q hq)
    have : W = V := okCat_uniq h.1 hW hV ((hWq.trans hxq.symm).trans hxV.symm)
    subst this
    exact ⟨w1, w2, w3⟩
  obtain ⟨-, a2, -⟩ := one q2 p4 p5
  obtain ⟨-, -, a3⟩ := one q3 p7 p8
  refine ⟨V, hV, hxV, ?_⟩
  unfold sayB
  simp only [Bool.and_eq_true, Bool.not_eq_true', decide_eq_false_iff_not, Bool.and_eq_false_iff, Bool.not_eq_false', decide_eq_true_eq]
  refine ⟨⟨by omega, by omega⟩, ?_⟩
  by_cases e : x.to = 0
  · exact .inl e
  · have := a3 (by omega)
    exact .inr (by omega)
theorem repsB_ent {es : List Rp} (h : repsB es = true) : ∀ r ∈ es, entE (entR r) = true := fun _ hr => repB_ent (okReps_mem (repsB_spec h).2 hr)
theorem catG_yes {es : List Rp} {z : List En} (h : catG es = (z, true)) : repsB es = true ∧ foldG es = some z := by
  unfold catG at h
  split at h
  · rename_i hg
    split at h
    · rename_i u hu
      injection h with h1 h2
      subst h1
      exact ⟨hg, hu⟩
    · cases h
  · cases h
/-- A log that has a catalogue: what it is made of has one, and it is not better. -/
theorem cat_sub {es es' : List Rp} {z z' : List En} {o : Bool} (h : catG es = (z, true)) (hg : repsB es' = true) (hs : ∀ r ∈ es', r ∈ es) (k : catG es' = (z', o)) : o = true ∧ betV z z' = (true, true) := by
  obtain ⟨h1, h2⟩ := catG_yes h
  rw [foldG_fG] at h2
  obtain ⟨s1, l1⟩ := fG_says es [] [] says_nil (by simp) (repsB_ent h1) z h2
  rw [List.nil_append] at s1
  obtain ⟨u, hu, s2⟩ := fG_sub s1 l1 (repsB_ent h1) es' [] [] says_nil (fun _ hr => (nomatch hr)) hs
  rw [List.nil_append] at s2
  unfold catG at k
  rw [hg, foldG_fG, hu] at k
  injection k with k1 k2
  subst k1
  exact ⟨k2.symm, says_better s1 s2 hs l1⟩
theorem join_cat {xs bs j : List Rp} {z z' : List En} {o : Bool} (hj : joinG xs bs = (j, true)) (h : catG j = (z, true)) (k : catG xs = (z', o)) : o = true ∧ betV z z' = (true, true) :=
  cat_sub h (joinG_yes hj).1 (fun r hr => (join_mem hj r).2 (.inl hr)) k

/-! ### Reports without contradictions -/
theorem first_cat {es : List Rp} {f : Int} {o p : Bool} {z : List En} (h : firstG es = (f, o)) (k : catG es = (z, p)) : o = false ∨ p = false := by
  cases p
  · exact .inr rfl
  · obtain ⟨h1, h2⟩ := catG_yes k
    unfold firstG at h
    rw [h1, goF_end (z := z) (by rw [List.take_length]; exact h2)] at h
    injection h with _ h
    exact .inl h.symm
theorem goW_sub : ∀ (rs : List Rp) (z : List En) (kept w : List Rp), goW rs z kept = (w, true) → ∃ l, l.Sublist rs ∧ w = kept ++ l ∧ ∃ u, fG z l = some u
  | [], z, kept, w, h => by
    injection h with h1 h2
    exact ⟨[], List.Sublist.refl _, by rw [List.append_nil]; exact h1.symm, z, rfl⟩
  | r :: rs, z, kept, w, h => by
    simp only [goW] at h
    split at h
    · obtain ⟨l, h1, h2, h3⟩ := goW_sub rs z kept w h
      exact ⟨l, h1.cons r, h2, h3⟩
    · rename_i u hu
      split at h
      · rename_i hl
        obtain ⟨l, h1, h2, v, h3⟩ := goW_sub rs u (kept ++ [r]) w h
        refine ⟨r :: l, h1.cons_cons r, by rw [h2, List.append_assoc]; rfl, v, ?_⟩
        rw [fG_cons, stepG_ok hu hl]
        exact h3
      · cases h
theorem goW_all : ∀ (rs : List Rp) (z : List En) (kept : List Rp) (u : List En), fG z rs = some u → goW rs z kept = (kept ++ rs, true)
  | [], z, kept, u, _ => by rw [List.append_nil]; rfl
  | r :: rs, z, kept, u, h => by
    rw [fG_cons] at h
    cases hs : stepG z (entR r) with
    | none => rw [hs] at h; cases h
    | some v =>
      rw [hs] at h
      rw [goW_some hs, goW_all rs v _ u h, List.append_assoc]
      rfl
theorem goW_less : ∀ (rs : List Rp) (z : List En) (kept w : List Rp) (k f : Int), goF rs z k = (f, true) → goW rs z kept = (w, true) → w.length < rs.length + kept.length
  | [], z, kept, w, k, f, h, _ => by cases h
  | r :: rs, z, kept, w, k, f, h, hw => by
    simp only [goF] at h
    split at h
    · rename_i u hu
      rw [goW_some hu] at hw
      have := goW_less rs u _ w _ f h hw
      simp only [List.length_append, List.length_cons, List.length_nil] at this ⊢
      omega
    · split at h
      · rename_i ht
        rw [goW_torn ht] at hw
        have := goW_len rs z kept w true hw
        simp only [List.length_cons]
        omega
      · cases h
theorem with_cat {es w : List Rp} (h : withG es = (w, true)) : ∃ z, catG w = (z, true) := by
  unfold withG at h
  split at h
  · rename_i hg
    obtain ⟨l, h1, h2, u, h3⟩ := goW_sub es [] [] w h
    rw [List.nil_append] at h2
    subst h2
    obtain ⟨g1, g2⟩ := repsB_spec hg
    have hgl : repsB w = true := by
      refine repsB_true (Nat.le_trans h1.length_le g1) (okReps_of ((okReps_pw g2).sublist h1) (fun x hx => okReps_mem g2 (h1.subset hx)))
    refine ⟨u, ?_⟩
    unfold catG
    rw [hgl, foldG_fG, h3]
    rfl
  · cases h
theorem with_all {es w : List Rp} {z : List En} (h : withG es = (w, true)) (k : catG es = (z, true)) : w = es := by
  obtain ⟨h1, h2⟩ := catG_yes k
  unfold withG at h
  rw [h1, if_pos rfl, goW_all es [] [] z (by rw [← foldG_fG]; exact h2)] at h
  injection h with h _
  exact h.symm
theorem with_less {es w : List Rp} {f : Int} (h : withG es = (w, true)) (k : firstG es = (f, true)) : w.length < es.length := by
  unfold withG at h
  unfold firstG at k
  split at h
  · rename_i hg
    rw [hg, if_pos rfl] at k
    have := goW_less es [] [] w 0 f k h
    simpa using this
  · cases h
end
section
open Go Go.RowKit

set_option maxRecDepth 8000 in
theorem neqRp (x y : Rp) (W : World) : (binOp .neq 107 (.agg #[.int .i64 x.tm, .int .i64 x.mc, .int .i64 x.a, .int .i64 x.b, .int .i64 x.lo, .int .i64 x.hi, .int .i64 x.to]) (.agg #[.int .i64 y.tm, .int .i64 y.mc, .int .i64 y.a, .int .i64 y.b, .int .i64 y.lo, .int .i64 y.hi, .int .i64 y.to])).run Try.prog W = .ok (.bool (!decide (x = y))) W := by
  obtain ⟨a1, a2, a3, a4, a5, a6, a7⟩ := x
  obtain ⟨b1, b2, b3, b4, b5, b6, b7⟩ := y
  by_cases h1 : a1 = b1
  · by_cases h2 : a2 = b2
    · by_cases h3 : a3 = b3
      · by_cases h4 : a4 = b4
        · by_cases h5 : a5 = b5
          · by_cases h6 : a6 = b6
            · by_cases h7 : a7 = b7
              · simp [go_sem, h1, h2, h3, h4, h5, h6, h7]
              · simp [go_sem, h1, h2, h3, h4, h5, h6, h7]
            · simp [go_sem, h1, h2, h3, h4, h5, h6]
          · simp [go_sem, h1, h2, h3, h4, h5]
        · simp [go_sem, h1, h2, h3, h4]
      · simp [go_sem, h1, h2, h3]
    · simp [go_sem, h1, h2]
  · simp [go_sem, h1]

set_option maxRecDepth 8000 in
set_option maxHeartbeats 4000000 in
theorem specJoin_any (va : Value) (xs : List Rp) (v : Value) (bs : List Rp) (w : World) (ha : Rd rpS w w.heap.size va xs) (h : Rd rpS w w.heap.size v bs) :
    Calls Try.prog 42 #[va, v] w fun r w' => (∃ (v' : Value) (z : List Rp) (b : Bool), r = .returned (.tuple #[v', .bool b]) ∧ joinG xs bs = (z, b) ∧ w'.ownsRow w.heap.size 107 7 v' z.length (rpS.flat z)) ∧ Below w.heap.size w w' := by
  obtain ⟨i0, hi, hz0, hz1, hz2⟩ := info_parts infoRp2
  have Ha := Lib.hid ha
  have Hb := Lib.hid h
  obtain ⟨A, c, rfl, hcc, hm, hA⟩ := h
  unfold maxLen at hm
  cases hg : repsB xs && repsB bs
  · have Hfin := Lib.hid (show joinG xs bs = ([], false) by unfold joinG; rw [hg]; rfl)
    clear hA ha
    go_enter Try.func42, Try.ntmps42
    go_wp2_with fail
    refine (mrTwo_any _ _ xs bs _ Ha.out Hb.out).mono ?_; rintro e w1 ⟨rfl, hb1⟩
    rw [hg]
    go_wp2
    go_ret2
    exact ⟨⟨_, [], false, rfl, Hfin.out, by simp [Shape.flat], Or.inl ⟨rfl, rfl⟩⟩, hb1⟩
  · have hgg := hg
    simp only [Bool.and_eq_true] at hgg
    have Hx := Lib.hid (repsB_spec hgg.1)
    have HB := Lib.hid (repsB_spec hgg.2)
    have Hfin := Lib.hid (joinG_spec hgg.1 hgg.2)
    clear hgg
    obtain ⟨Aa, ca, rfl, -, -, hAa⟩ := ha
    have hcells : Hid (∀ a, Aa = some a → ∀ j u, (rpS.flat xs)[j]? = some u → w.cell? (a.add j) = some u) := Lib.hid (fun a e => by subst e; exact rp_flat_cells Ha.out)
    have hAn : Hid (Aa = none → xs.length = 0) := Lib.hid (fun e => by
      subst e
      rcases Nat.eq_zero_or_pos xs.length with h | h
      · exact h
      · obtain ⟨g, off, h1, -⟩ := hAa h
        cases h1)
    clear hAa
    have Hxl := Lib.hid (show 0 + xs.length ≤ 20 by have := Hx.out.1; omega)
    go_enter Try.func42, Try.ntmps42
    go_wp2_with fail
    refine (mrTwo_any _ _ xs bs _ Ha.out Hb.out).mono ?_; rintro e w2 ⟨rfl, hb2'⟩
    rw [hg]
    clear hg
    have hown0 := Lib.hid (World.ownsRow_lit (base := w.heap.size) (e := 107) (size := 7) w2 #[] 0 hb2'.size (by unfold maxLen; omega) rfl)
    have hbE : Below w.heap.size w (w2.alloc (Obj.cells #[] 107)) := bal hb2' _
    have Hsrc := Lib.hid (fun a (e : Aa = some a) j u (hj : (rpS.flat xs)[j]? = some u) => show (w2.alloc (Obj.cells #[] 107)).cell? (a.add j) = some u by
      have := hcells.out a e j u hj
      rw [hbE.cell (World.block_lt_of_cell? w _ this)]
      exact this)
    go_wp2_with (at_builtin; refine wpList_append_src rfl _ _ 63 rfl w.heap.size 107 i0 (.agg #[.int .i64 0, .int .i64 0, .int .i64 0, .int .i64 0, .int .i64 0, .int .i64 0, .int .i64 0]) 7 56 Try.underlying63 hi hz0 hz1 hz2 rfl (by decide) _ _ _ rfl hown0.out Aa xs.length ca (rpS.flat xs) rfl (Shape.length_flat xs) hAn.out Hsrc.out (rp_one xs) ?c3 ?c4 hbE.size ?_)
    case c3 => have := Hxl.out; unfold maxLen; omega
    case c4 => have := Hxl.out; omega
    intro v' w3 hown' hgrow
    have hbn : Below w.heap.size w w3 := Below.grown hbE hgrow hbE.size (fun j hj => (hown0.out.lt j hj).1)
    have Ho3 := Lib.hid (show w3.ownsRow w.heap.size 107 7 v' xs.length (rpS.flat xs) by simpa using hown')
    clear hown' hgrow hbE
    rcases Nat.eq_zero_or_pos bs.length with h0 | h0
    · obtain rfl : bs = [] := List.eq_nil_of_length_eq_zero h0
      clear hA h0
      have Hg2 := Lib.hid (show repsB xs = true from repsB_true Hx.out.1 Hx.out.2)
      go_wp2
      refine wp_loop_rounds 1 ?_
      rw [rounds_succ]
      go_wp2_with fail
      refine (mrGood_any _ xs _ (Rd.of_own Ho3.out rfl)).mono ?_; rintro e w4 ⟨rfl, hb4⟩
      have Hb4 := Lib.hid hb4
      rw [Hg2.out]
      go_wp2
      go_ret2
      exact ⟨⟨_, xs, true, rfl, by rw [Hfin.out]; show (if repsB xs then _ else _) = _; rw [Hg2.out]; rfl, own_below Ho3.out Hb4.out⟩, bthen hbn hb4⟩
    · obtain ⟨g, off, rfl, hgl, hcell⟩ := hA h0
      clear hA
      have hcell := rp_cells hcell
      go_wp2
      go_loopw [18, 6] (fun i o wr => ∃ (k : Nat), k ≤ bs.length ∧ i = .int .i64 k ∧ Below w.heap.size w wr ∧ wr.ownsRow w.heap.size 107 7 o (joinS xs (bs.take k)).length (rpS.flat (joinS xs (bs.take k)))) (fun i _ _ => bs.length - (intOf i).toNat)
      case atStart => exact ⟨0, Nat.zero_le _, rfl, hbn, by rw [joinS_zero]; exact Ho3.out⟩
      case round =>
        obtain ⟨k, hk, rfl, hb, hown⟩ := hrel
        have Hown := Lib.hid hown; clear hown
        by_cases hlt : k < bs.length
        · obtain ⟨f0, f1, f2, f3, f4, f5, f6⟩ := hcell k hlt
          rw [← hb.cell (p := ⟨_, _, _⟩) hgl] at f0 f1 f2 f3 f4 f5 f6
          have Hy := Lib.hid (reps_bd HB.out.2 k hlt)
          have Hsucc := Lib.hid (joinS_succ xs hlt)
          have Hjl := Lib.hid (joinS_len xs bs k hk)
          have Hjb := Lib.hid (joinS_bd Hx.out.2 HB.out.2 k hk)
          have hgr : g < wr.heap.size := Nat.lt_of_lt_of_le hgl hb.size
          generalize hz : joinS xs (bs.take k) = z at Hown Hsucc Hjl Hjb
          clear hz
          generalize rpS.get bs k = x at f0 f1 f2 f3 f4 f5 f6 Hy Hsucc
          have hi0 : (0 : Int) ≤ (k : Int) := by omega
          have hi1 : (k : Int) < (bs.length : Int) := by omega
          have hbA : Below wr.heap.size wr (wr.alloc (Obj.cells #[.int .i64 x.tm, .int .i64 x.mc, .int .i64 x.a, .int .i64 x.b, .int .i64 x.lo, .int .i64 x.hi, .int .i64 x.to] 107)) := bal (Below.refl _ _) _
          have HbA := Lib.hid hbA; clear hbA
          have Hbox := Lib.hid (Blk.new wr 107 #[.int .i64 x.tm, .int .i64 x.mc, .int .i64 x.a, .int .i64 x.b, .int .i64 x.lo, .int .i64 x.hi, .int .i64 x.to])
          clear hcell
          go_wp2_with fail
          refine (mrHas_any _ xs x _ (Ha.out.on (bthen hb HbA.out))).mono ?_
          rintro e w5 ⟨rfl, hb5⟩
          have hb5' := bthen (bthen hb HbA.out) hb5
          have Hown5 := Lib.hid (own_below Hown.out (bthen HbA.out hb5))
          have hbox5 := Hbox.out.on hb5
          clear hb5 f0 f1 f2 f3 f4 f5 f6 hgr
          cases hd : hasR xs x
          · have Hnew := Lib.hid (show joinS xs (bs.take (k + 1)) = putR z x by rw [Hsucc.out, hd]; rfl)
            clear hd
            have q0 := hbox5.cell 0
            have q1 := hbox5.cell 1
            have q2 := hbox5.cell 2
            have q3 := hbox5.cell 3
            have q4 := hbox5.cell 4
            have q5 := hbox5.cell 5
            have q6 := hbox5.cell 6
            have ql := hbox5.lt
            go_wp2_with fail
            refine (mrPut_any _ z x _ (Rd.of_own Hown5.out rfl) (by have := Hjl.out; have := Hx.out.1; have := HB.out.1; omega) Hjb.out Hy.out).mono ?_
            rintro e w6 ⟨v6, rfl, ho6, hb6⟩
            change w6.ownsRow w5.heap.size 107 7 v6 (putR z x).length (rpS.flat (putR z x)) at ho6
            have Ho6 := Lib.hid (own_mono ho6 hb5'.size); clear ho6
            clear q0 q1 q2 q3 q4 q5 q6 ql hbox5
            go_wp2
            go_roundw
            case rel => exact ⟨k + 1, by omega, by go_num, bthen hb5' hb6, by rw [Hnew.out]; exact Ho6.out⟩
            case measure => simp [intOf]; omega
          · have Hnew := Lib.hid (show joinS xs (bs.take (k + 1)) = z by rw [Hsucc.out, hd]; rfl)
            clear hd hbox5
            go_wp2
            go_roundw
            case rel => exact ⟨k + 1, by omega, by go_num, hb5', by rw [Hnew.out]; exact Hown5.out⟩
            case measure => simp [intOf]; omega
        · obtain rfl : k = bs.length := by omega
          have hd0 : decide (bs.length < bs.length) = false := decide_eq_false (by omega)
          have Hl := Lib.hid (show joinS xs (bs.take bs.length) = joinS xs bs by rw [List.take_length])
          have Hown' := Lib.hid (show wr.ownsRow w.heap.size 107 7 _ (joinS xs bs).length (rpS.flat (joinS xs bs)) by have := Hown.out; rw [Hl.out] at this; exact this)
          clear hcell Hown
          go_wp2_with fail
          refine (mrGood_any _ (joinS xs bs) _ (Rd.of_own Hown'.out rfl)).mono ?_; rintro e w4 ⟨rfl, hb4⟩
          have Hb4 := Lib.hid hb4
          cases hg2 : repsB (joinS xs bs)
          · have Hg2 := Lib.hid hg2; clear hg2
            go_wp2
            go_ret2
            exact ⟨⟨_, [], false, rfl, by rw [Hfin.out, Hg2.out]; rfl, by simp [Shape.flat], Or.inl ⟨rfl, rfl⟩⟩, bthen hb hb4⟩
          · have Hg2 := Lib.hid hg2; clear hg2
            go_wp2
            go_ret2
            exact ⟨⟨_, joinS xs bs, true, rfl, by rw [Hfin.out, Hg2.out]; rfl, own_below Hown'.out Hb4.out⟩, bthen hb hb4⟩

set_option maxRecDepth 8000 in
set_option maxHeartbeats 8000000 in
theorem implJoin_any (va : Value) (xs : List Rp) (v : Value) (bs : List Rp) (w : World) (ha : Rd rpS w w.heap.size va xs) (h : Rd rpS w w.heap.size v bs) :
    Calls Try.prog 41 #[va, v] w fun r w' => (∃ (v' : Value) (z : List Rp) (b : Bool), r = .returned (.tuple #[v', .bool b]) ∧ joinG xs bs = (z, b) ∧ w'.ownsRow w.heap.size 107 7 v' z.length (rpS.flat z)) ∧ Below w.heap.size w w' := by
  have Ha := Lib.hid ha; clear ha
  have Hb := Lib.hid h
  obtain ⟨A, c, rfl, hcc, hm, hA⟩ := h
  unfold maxLen at hm
  cases hg : repsB xs
  · have Hfin := Lib.hid (show joinG xs bs = ([], false) by unfold joinG; rw [hg]; rfl)
    clear hA
    go_enter Try.func41, Try.ntmps41
    go_wp2_with fail
    refine (areReports_any _ xs _ Ha.out).mono ?_; rintro e w1 ⟨rfl, hb1⟩
    rw [hg]
    go_wp2
    go_ret2
    exact ⟨⟨_, [], false, rfl, Hfin.out, by simp [Shape.flat], Or.inl ⟨rfl, rfl⟩⟩, hb1⟩
  · cases hg2 : repsB bs
    · have Hfin := Lib.hid (show joinG xs bs = ([], false) by unfold joinG; rw [hg2, Bool.and_false]; rfl)
      clear hA
      go_enter Try.func41, Try.ntmps41
      go_wp2_with fail
      refine (areReports_any _ xs _ Ha.out).mono ?_; rintro e w1 ⟨rfl, hb1⟩
      rw [hg]
      go_wp2_with fail
      refine (areReports_any _ bs _ (Hb.out.on hb1)).mono ?_; rintro e w2 ⟨rfl, hb2⟩
      rw [hg2]
      go_wp2
      go_ret2
      exact ⟨⟨_, [], false, rfl, Hfin.out, by simp [Shape.flat], Or.inl ⟨rfl, rfl⟩⟩, bthen hb1 hb2⟩
    · have Hx := Lib.hid (repsB_spec hg)
      have HB := Lib.hid (repsB_spec hg2)
      have Hfin := Lib.hid (show joinG xs bs = joinV xs bs by unfold joinG; rw [hg, hg2]; rfl)
      go_enter Try.func41, Try.ntmps41
      go_wp2_with fail
      refine (areReports_any _ xs _ Ha.out).mono ?_; rintro e w1 ⟨rfl, hb1⟩
      rw [hg]
      go_wp2_with fail
      refine (areReports_any _ bs _ (Hb.out.on hb1)).mono ?_; rintro e w2 ⟨rfl, hb2⟩
      rw [hg2]
      have hb2' := bthen hb1 hb2
      clear hg hg2
      go_wp2_with fail
      refine (cloneRp_any _ xs _ (Ha.out.on hb2') (by have := Hx.out.1; omega)).mono ?_
      rintro e w3 ⟨v3, rfl, ho3, hb3⟩
      have Ho3 := Lib.hid (own_mono ho3 hb2'.size)
      have hbn := bthen hb2' hb3
      obtain ⟨A3, c3, rfl, -, -, -⟩ := Rd.of_own (S := rpS) ho3 rfl
      clear ho3
      rcases Nat.eq_zero_or_pos bs.length with h0 | h0
      · obtain rfl : bs = [] := List.eq_nil_of_length_eq_zero h0
        clear hA h0
        have hx20 := Hx.out.1
        have hd : decide ((20 : Int) < (xs.length : Int)) = false := decide_eq_false (by omega)
        have hd2 : decide (20 < xs.length) = false := decide_eq_false (by omega)
        have Hv := Lib.hid (show joinV xs [] = if xs.length ≤ 20 then (xs, true) else ([], false) from rfl)
        go_wp2
        refine wp_loop_rounds 1 ?_
        rw [rounds_succ]
        go_wp2
        go_ret2
        exact ⟨⟨_, xs, true, rfl, by rw [Hfin.out, Hv.out, if_pos Hx.out.1], Ho3.out⟩, hbn⟩
      · obtain ⟨g, off, rfl, hgl, hcell⟩ := hA h0
        clear hA
        have hcell := rp_cells hcell
        go_wp2
        go_loopw [23, 6] (fun i o wr => ∃ (k : Nat) (z : List Rp), k ≤ bs.length ∧ i = .int .i64 k ∧ Hid (joinI xs (bs.take k) = some z) ∧ z.length ≤ xs.length + k ∧ Below w.heap.size w wr ∧ wr.ownsRow w.heap.size 107 7 o z.length (rpS.flat z)) (fun i _ _ => bs.length - (intOf i).toNat)
        case atStart => exact ⟨0, xs, Nat.zero_le _, rfl, Lib.hid (joinI_zero xs bs), Nat.le_refl _, hbn, Ho3.out⟩
        case round =>
          obtain ⟨k, z, hk, rfl, Hz, hzl, hb, hown⟩ := hrel
          have Hown := Lib.hid hown; clear hown
          have Hzv := Lib.hid (join_same Hx.out.2 HB.out.2 k hk z Hz.out).2
          by_cases hlt : k < bs.length
          · obtain ⟨f0, f1, f2, f3, f4, f5, f6⟩ := hcell k hlt
            rw [← hb.cell (p := ⟨_, _, _⟩) hgl] at f0 f1 f2 f3 f4 f5 f6
            have Hsucc := Lib.hid (joinI_succ xs hlt)
            have hgr : g < wr.heap.size := Nat.lt_of_lt_of_le hgl hb.size
            generalize rpS.get bs k = x at f0 f1 f2 f3 f4 f5 f6 Hsucc
            have hi0 : (0 : Int) ≤ (k : Int) := by omega
            have hi1 : (k : Int) < (bs.length : Int) := by omega
            have hbA : Below wr.heap.size wr (wr.alloc (Obj.cells #[.int .i64 x.tm, .int .i64 x.mc, .int .i64 x.a, .int .i64 x.b, .int .i64 x.lo, .int .i64 x.hi, .int .i64 x.to] 107)) := bal (Below.refl _ _) _
            have HbA := Lib.hid hbA; clear hbA
            have Hbox := Lib.hid (Blk.new wr 107 #[.int .i64 x.tm, .int .i64 x.mc, .int .i64 x.a, .int .i64 x.b, .int .i64 x.lo, .int .i64 x.hi, .int .i64 x.to])
            have Hpk := Lib.hid (placeR_spec z x).1
            have hx20 := Hx.out.1
            have hb20 := HB.out.1
            clear hcell
            go_wp2_with fail
            refine (searchRp_any _ z x _ (Rd.of_own (own_below Hown.out HbA.out) rfl) (by omega) (fun i j h1 h2 h3 => reps_mono Hzv.out x i j h1 h2 h3)).mono ?_
            rintro e w5 ⟨rfl, hb5⟩
            have hfd : (decide (placeR z x.tm x.mc < z.length) && decide (cmpC (rpS.get z (placeR z x.tm x.mc)).tm (rpS.get z (placeR z x.tm x.mc)).mc x.tm x.mc = 0)) = foundR z x := rfl
            rw [hfd]
            clear hfd
            have hb5' := bthen (bthen hb HbA.out) hb5
            have Hown5 := Lib.hid (own_below Hown.out (bthen HbA.out hb5))
            have hbox5 := Hbox.out.on hb5
            clear hb5 f0 f1 f2 f3 f4 f5 f6 hgr
            have Hjs := Lib.hid (show joinStep z x = if foundR z x then (if rpS.get z (placeR z x.tm x.mc) = x then some z else none) else some (putR z x) from rfl)
            have Hpr := Lib.hid (show putR z x = ins z (placeR z x.tm x.mc) x from rfl)
            have Hfp := Lib.hid (fun (h : foundR z x = true) => show placeR z x.tm x.mc < z.length by unfold foundR at h; simp only [Bool.and_eq_true, decide_eq_true_eq] at h; exact h.1)
            obtain ⟨p, hp⟩ : ∃ p, placeR z x.tm x.mc = p := ⟨_, rfl⟩
            rw [hp] at Hjs Hpr Hfp Hpk ⊢
            clear hp
            cases hf : foundR z x
            · have Hnew := Lib.hid (show joinI xs (bs.take (k + 1)) = some (ins z p x) by rw [Hsucc.out, Hz.out]; show joinStep z x = _; rw [Hjs.out, hf, Hpr.out]; rfl)
              clear hf
              have q0 := hbox5.cell 0
              have q1 := hbox5.cell 1
              have q2 := hbox5.cell 2
              have q3 := hbox5.cell 3
              have q4 := hbox5.cell 4
              have q5 := hbox5.cell 5
              have q6 := hbox5.cell 6
              have ql := hbox5.lt
              have hlb : Below w.heap.size w (w5.alloc (Obj.cells #[.int .i64 x.tm, .int .i64 x.mc, .int .i64 x.a, .int .i64 x.b, .int .i64 x.lo, .int .i64 x.hi, .int .i64 x.to] 107)) := bal hb5' _
              have Hlb := Lib.hid hlb; clear hlb
              go_wp2_with fail
              refine (insRp_any _ z p x w5.heap.size w.heap.size _ (World.ownsRow.alloc Hown5.out _) (by omega) Hpk.out (Blk.new _ _ _) (by intro e; have h5 := (Hown5.out.lt _ e).2; omega) Hlb.out.size).mono ?_
              rintro e w6 ⟨v6, rfl, ho6, hg6⟩
              have hb6 : Below w.heap.size w w6 := Below.grown Hlb.out hg6 Hlb.out.size (fun j hj => (Hown5.out.lt j hj).1)
              have Ho6 := Lib.hid ho6
              clear ho6 hg6 q0 q1 q2 q3 q4 q5 q6 ql hbox5
              go_wp2
              go_roundw
              case rel => exact ⟨k + 1, ins z p x, by omega, by go_num, Hnew, by rw [length_ins]; omega, hb6, Ho6.out⟩
              case measure => simp [intOf]; omega
            · have hplt := Hfp.out hf
              obtain ⟨g2, cap2, rfl⟩ : ∃ g cap, u6 = .slice (some ⟨g, 0, none⟩) z.length cap := by
                rcases Hown5.out.2 with ⟨-, h0⟩ | ⟨g, cap, cur, h1, -⟩
                · omega
                · exact ⟨g, cap, h1⟩
              obtain ⟨e0, e1, e2, e3, e4, e5, e6⟩ := own_rp Hown5.out rfl hplt
              have hg2 := (own_base Hown5.out).2
              have hi2 : (0 : Int) ≤ (p : Int) := by omega
              have hi3 : (p : Int) < (z.length : Int) := by omega
              generalize hu : rpS.get z p = u at e0 e1 e2 e3 e4 e5 e6
              have Hu := Lib.hid hu; clear hu
              have Hf := Lib.hid hf; clear hf
              have q0 := hbox5.cell 0
              have q1 := hbox5.cell 1
              have q2 := hbox5.cell 2
              have q3 := hbox5.cell 3
              have q4 := hbox5.cell 4
              have q5 := hbox5.cell 5
              have q6 := hbox5.cell 6
              have ql := hbox5.lt
              have hql := neqRp u x
              by_cases hd : u = x
              · have Hnew := Lib.hid (show joinI xs (bs.take (k + 1)) = some z by rw [Hsucc.out, Hz.out]; show joinStep z x = _; rw [Hjs.out, Hf.out, if_pos rfl, Hu.out, if_pos hd])
                have hql2 : ∀ W, (binOp .neq 107 (.agg #[.int .i64 u.tm, .int .i64 u.mc, .int .i64 u.a, .int .i64 u.b, .int .i64 u.lo, .int .i64 u.hi, .int .i64 u.to]) (.agg #[.int .i64 x.tm, .int .i64 x.mc, .int .i64 x.a, .int .i64 x.b, .int .i64 x.lo, .int .i64 x.hi, .int .i64 x.to])).run Try.prog W = .ok (.bool false) W := fun W => by rw [hql W, decide_eq_true hd]; rfl
                clear hql hd
                go_wp2
                refine wp_region_tame (by kernel_rfl) (by kernel_rfl) (fun T _ W hT => ?_)
                have hx := hT.cell
                repeat (go_big_quiet_step (fail))
                refine wpQuiet_nil ?_
                intro t
                clear hx hbox5
                go_wp2
                go_roundw
                case rel => exact ⟨k + 1, z, by omega, by go_num, Hnew, by omega, bthen hb5' (hT.below t), own_below Hown5.out (hT.below t)⟩
                case measure => simp [intOf]; omega
              · have Hno := Lib.hid (show joinI xs bs = none by refine joinI_stop (k := k + 1) ?_; rw [Hsucc.out, Hz.out]; show joinStep z x = _; rw [Hjs.out, Hf.out, if_pos rfl, Hu.out, if_neg hd])
                have hql2 : ∀ W, (binOp .neq 107 (.agg #[.int .i64 u.tm, .int .i64 u.mc, .int .i64 u.a, .int .i64 u.b, .int .i64 u.lo, .int .i64 u.hi, .int .i64 u.to]) (.agg #[.int .i64 x.tm, .int .i64 x.mc, .int .i64 x.a, .int .i64 x.b, .int .i64 x.lo, .int .i64 x.hi, .int .i64 x.to])).run Try.prog W = .ok (.bool true) W := fun W => by rw [hql W, decide_eq_false hd]; rfl
                clear hql hd
                go_wp2
                refine wp_region_tame (by kernel_rfl) (by kernel_rfl) (fun T _ W hT => ?_)
                have hx := hT.cell
                repeat (go_big_quiet_step (fail))
                refine wpQuiet_nil ?_
                intro t
                clear hx hbox5
                go_wp2
                go_ret2
                exact ⟨⟨_, [], false, rfl, by rw [Hfin.out]; unfold joinV; rw [Hno.out], by simp [Shape.flat], Or.inl ⟨rfl, rfl⟩⟩, bthen hb5' (hT.below t)⟩
          · obtain rfl : k = bs.length := by omega
            have hd0 : decide (bs.length < bs.length) = false := decide_eq_false (by omega)
            have Hz' := Lib.hid (show joinI xs bs = some z by have := Hz.out; rwa [List.take_length] at this)
            have Hv := Lib.hid (show joinV xs bs = if z.length ≤ 20 then (z, true) else ([], false) by unfold joinV; rw [Hz'.out])
            obtain ⟨A1, c1, rfl, -, -, -⟩ := Rd.of_own (S := rpS) Hown.out rfl
            clear hcell
            by_cases hl : z.length ≤ 20
            · have hd : decide ((20 : Int) < (z.length : Int)) = false := decide_eq_false (by omega)
              have hd2 : decide (20 < z.length) = false := decide_eq_false (by omega)
              have Hl := Lib.hid hl; clear hl
              go_wp2
              go_ret2
              exact ⟨⟨_, z, true, rfl, by rw [Hfin.out, Hv.out, if_pos Hl.out], Hown.out⟩, hb⟩
            · have hd : decide ((20 : Int) < (z.length : Int)) = true := decide_eq_true (by omega)
              have hd2 : decide (20 < z.length) = true := decide_eq_true (by omega)
              have Hl := Lib.hid hl; clear hl
              go_wp2
              go_ret2
              exact ⟨⟨_, [], false, rfl, by rw [Hfin.out, Hv.out, if_neg Hl.out], by simp [Shape.flat], Or.inl ⟨rfl, rfl⟩⟩, hb⟩
end
section
open Go Go.RowKit

theorem mi1_any (x : Rp) (va : Value) (xs : List Rp) (gb : Nat) (w : World) (h0 : w.cell? ⟨gb, 0, none⟩ = some va) (ha : Rd rpS w w.heap.size va xs) :
    Calls Try.prog 102 #[.agg #[.int .i64 x.tm, .int .i64 x.mc, .int .i64 x.a, .int .i64 x.b, .int .i64 x.lo, .int .i64 x.hi, .int .i64 x.to], .pointer (some ⟨gb, 0, none⟩)] w fun r w' => r = .returned (.bool (hasR xs x)) ∧ Below w.heap.size w w' := by
  have hg := World.block_lt_of_cell? w _ h0
  have Ha := Lib.hid ha
  have hbA : Below w.heap.size w (w.alloc _) := bal (Below.refl _ _) (Obj.cells #[.int .i64 x.tm, .int .i64 x.mc, .int .i64 x.a, .int .i64 x.b, .int .i64 x.lo, .int .i64 x.hi, .int .i64 x.to] 107)
  have HbA := Lib.hid hbA; clear hbA
  obtain ⟨A, c, rfl, -, -, -⟩ := ha
  go_enter Try.func102, Try.ntmps102
  go_wp2_with fail
  refine (containsRp_any _ xs x _ (Ha.out.on HbA.out)).mono ?_
  rintro e w1 ⟨rfl, hb1⟩
  go_wp2
  go_ret
  exact ⟨rfl, bthen HbA.out hb1⟩
set_option maxRecDepth 8000 in
set_option maxHeartbeats 1600000 in
theorem implMiss_any (va : Value) (xs : List Rp) (v : Value) (es : List Rp) (w : World) (ha : Rd rpS w w.heap.size va xs) (h : Rd rpS w w.heap.size v es) :
    Calls Try.prog 43 #[va, v] w fun r w' => (∃ (v' : Value) (y : List Rp) (b : Bool), r = .returned (.tuple #[v', .bool b]) ∧ missV xs es = (y, b) ∧ w'.ownsRow w.heap.size 107 7 v' y.length (rpS.flat y)) ∧ Below w.heap.size w w' := by
  have eg : ∀ args w, (callFunc 102 args).run Try.prog w = .ok (.enter 102 args) w := fun args w => by first | rfl | kernel_rfl | simp [go_sem]
  have Ha := Lib.hid ha
  have Hr := Lib.hid h; clear h
  obtain ⟨A, c, rfl, -, -, -⟩ := ha
  have hbA : Below w.heap.size w (w.alloc _) := bal (Below.refl _ _) (Obj.cells #[.slice A xs.length c] 63)
  have hbox : Blk _ w.heap.size 63 #[.slice A xs.length c] := Blk.new w _ _
  cases hg : repsB xs
  · have Hfin : missV xs es = ([], false) := by unfold missV; rw [hg]; rfl
    replace Hfin := Lib.hid Hfin
    go_enter Try.func43, Try.ntmps43
    go_wp2_with fail
    refine (areReports_any _ xs _ (Ha.out.on hbA)).mono ?_; rintro e w1 ⟨rfl, hb1⟩
    rw [hg]
    go_wp2
    go_ret2
    exact ⟨⟨_, [], false, rfl, Hfin.out, by simp [Shape.flat], Or.inl ⟨rfl, rfl⟩⟩, bthen hbA hb1⟩
  · cases hi2 : repsB es
    · have Hfin : missV xs es = ([], false) := by unfold missV; rw [hi2, Bool.and_false]; rfl
      replace Hfin := Lib.hid Hfin
      go_enter Try.func43, Try.ntmps43
      go_wp2_with fail
      refine (areReports_any _ xs _ (Ha.out.on hbA)).mono ?_; rintro e w1 ⟨rfl, hb1⟩
      rw [hg]
      have hb1' := bthen hbA hb1
      go_wp2_with fail
      refine (areReports_any _ es _ (Hr.out.on hb1')).mono ?_; rintro e w2 ⟨rfl, hb2⟩
      rw [hi2]
      go_wp2
      go_ret2
      exact ⟨⟨_, [], false, rfl, Hfin.out, by simp [Shape.flat], Or.inl ⟨rfl, rfl⟩⟩, bthen hb1' hb2⟩
    · have Hfin : missV xs es = (es.filter (fun x => !hasR xs x), true) := by unfold missV; rw [hg, hi2]; rfl
      replace Hfin := Lib.hid Hfin
      have Hlen := Lib.hid (repsB_spec hi2).1
      go_enter Try.func43, Try.ntmps43
      go_wp2_with fail
      refine (areReports_any _ xs _ (Ha.out.on hbA)).mono ?_; rintro e w1 ⟨rfl, hb1⟩
      rw [hg]
      have hb1' := bthen hbA hb1
      have hbox1 := hbox.on hb1
      go_wp2_with fail
      refine (areReports_any _ es _ (Hr.out.on hb1')).mono ?_; rintro e w2 ⟨rfl, hb2⟩
      rw [hi2]
      have hb2' := bthen hb1' hb2
      have hbox2 := hbox1.on hb2
      have q0 := hbox2.cell 0
      have ql := hbox2.lt
      go_wp2_with fail
      refine (cloneRp_any _ es _ (Hr.out.on hb2') (by have := Hlen.out; omega)).mono ?_
      rintro e w3 ⟨v3, rfl, hown3, hb3⟩
      have hlt3 : ∀ g, v3.ownBlock = some g → w2.heap.size ≤ g := fun g hg => (hown3.lt g hg).1
      have hq3 : w3.cell? ⟨w.heap.size, 0, none⟩ = some (.slice A xs.length c) := (hb3.cell (p := ⟨w.heap.size, 0, none⟩) ql).trans q0
      have Hq3 := Lib.hid hq3; clear hq3
      have Hown3 := Lib.hid hown3; clear hown3
      have Hlt3 := Lib.hid hlt3; clear hlt3
      have Hw2 := Lib.hid hb2'.size
      have Ha3 := Lib.hid (Ha.out.below (bthen hb2' hb3))
      go_wp2_with fail
      refine (delF_any 102 _ (fun x => hasR xs x) eg v3 es w2.heap.size w3 Hown3.out (by have := Hlen.out; omega) ?_).mono ?_
      · intro W x hW
        have hne : ∀ b, b < w2.heap.size → some b ≠ v3.ownBlock := fun b hb e => by have := Hlt3.out b e.symm; omega
        refine mi1_any x (.slice A xs.length c) xs w.heap.size W ?_ ?_
        · exact hW.cell Hq3.out (hne _ ql)
        · have hs3 := hb3.size
          have hsW := hW.size
          have hs2 := Hw2.out
          exact (Ha3.out.keep (fun p hp => World.cell?_of_block (hW.block p.block (by omega) (hne _ (by omega))))).more (by omega)
      · rintro e w4 ⟨v4, rfl, hown4, hg4⟩
        have Hown4 := Lib.hid hown4; clear hown4
        have Hg4 := Lib.hid hg4; clear hg4
        go_wp2
        go_ret2
        have hb4 : Below w2.heap.size w2 w4 := Below.grown hb3 Hg4.out hb3.size (fun j hj => Hlt3.out j hj)
        exact ⟨⟨_, _, _, rfl, Hfin.out, own_mono Hown4.out hb2'.size⟩, bthen hb2' hb4⟩

set_option maxRecDepth 8000 in
set_option maxHeartbeats 4000000 in
theorem specMiss_any (va : Value) (xs : List Rp) (v : Value) (es : List Rp) (w : World) (ha : Rd rpS w w.heap.size va xs) (h : Rd rpS w w.heap.size v es) :
    Calls Try.prog 44 #[va, v] w fun r w' => (∃ (v' : Value) (y : List Rp) (b : Bool), r = .returned (.tuple #[v', .bool b]) ∧ missV xs es = (y, b) ∧ w'.ownsRow w.heap.size 107 7 v' y.length (rpS.flat y)) ∧ Below w.heap.size w w' := by
  obtain ⟨i0, hi, hz0, hz1, hz2⟩ := info_parts infoRp2
  have hr := h
  have Ha := Lib.hid ha; clear ha
  obtain ⟨A, c, rfl, hcc, hm, hA⟩ := h
  unfold maxLen at hm
  have Hr := Lib.hid hr; clear hr
  cases hg : repsB xs && repsB es
  · have Hfin : missV xs es = ([], false) := by unfold missV; rw [hg]; rfl
    replace Hfin := Lib.hid Hfin
    go_enter Try.func44, Try.ntmps44
    go_wp2_with fail
    refine (mrTwo_any _ _ xs es _ Ha.out Hr.out).mono ?_; rintro e w1 ⟨rfl, hb1⟩
    rw [hg]
    go_wp2
    go_ret2
    exact ⟨⟨_, [], false, rfl, Hfin.out, by simp [Shape.flat], Or.inl ⟨rfl, rfl⟩⟩, hb1⟩
  · have Hfin : missV xs es = (rpF (fun x => !hasR xs x) es es.length, true) := by unfold missV; rw [hg, rpF_all]; rfl
    replace Hfin := Lib.hid Hfin
    have Hlen : Hid (es.length ≤ 20) := Lib.hid (by simp only [Bool.and_eq_true] at hg; exact (repsB_spec hg.2).1)
    rcases Nat.eq_zero_or_pos es.length with h0 | h0
    · obtain rfl : es = [] := List.eq_nil_of_length_eq_zero h0
      clear hA h0
      go_enter Try.func44, Try.ntmps44
      go_wp2_with fail
      refine (mrTwo_any _ _ xs [] _ Ha.out Hr.out).mono ?_; rintro e w1 ⟨rfl, hb1⟩
      rw [hg]
      clear hg
      go_wp2
      refine wp_loop_rounds 1 ?_
      rw [rounds_succ]
      go_wp2
      go_ret2
      exact ⟨⟨_, _, _, rfl, Hfin.out, by simp [rpF, Shape.flat], Or.inl ⟨rfl, by simp [rpF]⟩⟩, hb1⟩
    · obtain ⟨g, off, rfl, hgl, hcell⟩ := hA h0
      clear hA
      have hcell := rp_cells hcell
      go_enter Try.func44, Try.ntmps44
      go_wp2_with fail
      refine (mrTwo_any _ _ xs es _ Ha.out Hr.out).mono ?_; rintro e w1 ⟨rfl, hb1⟩
      rw [hg]
      clear hg
      go_wp2
      go_loopw [15, 6] (fun i o wr => ∃ k : Nat, k ≤ es.length ∧ i = .int .i64 k ∧ Below w.heap.size w wr ∧ wr.ownsRow w.heap.size 107 7 o (rpF (fun x => !hasR xs x) es k).length (rpS.flat (rpF (fun x => !hasR xs x) es k))) (fun i _ _ => es.length - (intOf i).toNat)
      case atStart => exact ⟨0, Nat.zero_le _, rfl, hb1, by rw [rpF_zero]; exact ⟨rfl, Or.inl ⟨rfl, rfl⟩⟩⟩
      case round =>
        obtain ⟨k, hk, rfl, hb, hown⟩ := hrel
        by_cases hlt : k < es.length
        · obtain ⟨f0, f1, f2, f3, f4, f5, f6⟩ := hcell k hlt
          rw [← hb.cell (p := ⟨_, _, _⟩) hgl] at f0 f1 f2 f3 f4 f5 f6
          have hle := rpF_le (fun x => !hasR xs x) es k
          have hes := Hlen.out
          have Hown := Lib.hid hown; clear hown
          have Hyes := Lib.hid (rpF_yes (p := fun x => !hasR xs x) hlt)
          have Hno := Lib.hid (rpF_no (p := fun x => !hasR xs x) hlt)
          generalize rpS.get es k = x at f0 f1 f2 f3 f4 f5 f6 Hyes Hno
          have hgr : g < wr.heap.size := Nat.lt_of_lt_of_le hgl hb.size
          have hi0 : (0 : Int) ≤ (k : Int) := by omega
          have hi1 : (k : Int) < (es.length : Int) := by omega
          have hbA : Below wr.heap.size wr (wr.alloc (Obj.cells #[.int .i64 x.tm, .int .i64 x.mc, .int .i64 x.a, .int .i64 x.b, .int .i64 x.lo, .int .i64 x.hi, .int .i64 x.to] 107)) := bal (Below.refl _ _) _
          have HbA := Lib.hid hbA; clear hbA
          have Hbox := Lib.hid (Blk.new wr 107 #[.int .i64 x.tm, .int .i64 x.mc, .int .i64 x.a, .int .i64 x.b, .int .i64 x.lo, .int .i64 x.hi, .int .i64 x.to])
          clear hcell
          cases hd : hasR xs x
          all_goals
            have Hd := Lib.hid hd
            go_wp2_with fail
            refine (mrHas_any _ xs x _ (Ha.out.on (bthen hb HbA.out))).mono ?_
            rintro e w2 ⟨rfl, hb2⟩
            rw [hd]
            clear hd
            have hb2' := bthen (bthen hb HbA.out) hb2
            have Hown2 := Lib.hid (own_below Hown.out (bthen HbA.out hb2))
            have hbox2 := Hbox.out.on hb2
            have b0 := hbox2.cell 0
            have b1 := hbox2.cell 1
            have b2 := hbox2.cell 2
            have b3 := hbox2.cell 3
            have b4 := hbox2.cell 4
            have b5 := hbox2.cell 5
            have b6 := hbox2.cell 6
            have bl := hbox2.lt
            clear hbox2
          · clear hb2
            go_wp2_with (at_builtin; refine wpList_append_own _ rfl _ _ 63 rfl w.heap.size 107 i0 (.agg #[.int .i64 0, .int .i64 0, .int .i64 0, .int .i64 0, .int .i64 0, .int .i64 0, .int .i64 0]) 7 56 Try.underlying63 hi hz0 hz1 hz2 rfl (by decide) _ _ _ rfl (Hown2.out.alloc _) ⟨w2.heap.size, 0, none⟩ 1 1 (rpS.flat [x]) rfl rfl ?c1 (rp_one _) ?c3 ?c4 ?c5 ?_)
            case c1 => exact oneRp_cells (Blk.new _ _ _)
            case c3 => unfold maxLen; omega
            case c4 => omega
            case c5 => have := hb2'.size; simp; omega
            intro v' w3 hown' hgrow _
            have hbn : Below w.heap.size w w3 := Below.grown (bal hb2' _) hgrow (by have := hb2'.size; simp; omega) (fun j hj => (Hown2.out.lt j hj).1)
            rw [← Shape.flat_append, ← Hyes.out (by rw [Hd.out]; rfl)] at hown'
            have hln : (rpF (fun x => !hasR xs x) es k).length + 1 = (rpF (fun x => !hasR xs x) es (k + 1)).length := by rw [Hyes.out (by rw [Hd.out]; rfl)]; simp
            rw [hln] at hown'
            have Hown' := Lib.hid hown'
            clear hown' hgrow
            go_wp2
            go_roundw
            case rel => exact ⟨k + 1, by omega, by go_num, hbn, Hown'.out⟩
            case measure => simp [intOf]; omega
          · clear hb2
            go_wp2
            go_roundw
            case rel => exact ⟨k + 1, by omega, by go_num, hb2', by rw [Hno.out (by rw [Hd.out]; rfl)]; exact Hown2.out⟩
            case measure => simp [intOf]; omega
        · have hd : decide (k < es.length) = false := decide_eq_false hlt
          obtain rfl : k = es.length := by omega
          have Hown := Lib.hid hown
          clear hcell hown
          go_wp2
          go_ret2
          exact ⟨⟨_, _, _, rfl, Hfin.out, Hown.out⟩, hb⟩
end
end Go.Proofs.Ytnphipfdpkgbaaa
