/- Own texts put together: Lists of points compared; the bounds of a task; is a task valid, in both; The bounds of a task; is a task valid, in both; Is a task valid, in the reference; What the frames of the laws share; A task with other candidates done: doneTo and skAt; Own lemmas that know no program: copies into a row of the call's own; an element put into a list; Own lemmas that know no program: appends inside a region that draws its order; Own lemma that knows no program: a block of six cells written anew; A region that draws its order, whose last operation may write what others have read: a load may be taken first where the condition S holds behind every operation but that one. Conditions: those of each theorem. -/
import Derived.Test.YtnhgdmhiblpknaaGreatDoorWkM4
import Derived.Deep.RegionHeld3
import Derived.Test.YtnhgdmhiblpknaaGreatDoorRows
import Derived.Test.YtnhgdmhiblpknaaGreatDoorWkM2
import Derived.Test.YtnhgdmhiblpknaaGreatDoorWkM1
import Derived.Shelf.Spec.SlicesInsert
import Derived.Lib.AppendZerosOnto
import Derived.Lib.Overlaps
import Derived.Deep.RegionLaw
import Derived.Maps.AppendAt
import Derived.StillTail
namespace Go.Proofs.YtnhgdmhiblpknaaGreatDoor
section
open Go Go.RowKit

set_option maxRecDepth 8000 in
theorem neqPt (x y : Pt) (W : World) : (binOp .neq 117 (.agg #[.int .i64 x.x, .int .i64 x.y, .int .i64 x.e]) (.agg #[.int .i64 y.x, .int .i64 y.y, .int .i64 y.e])).run Tryz.prog W = .ok (.bool (!decide (x = y))) W := by
  obtain ⟨a1, a2, a3⟩ := x
  obtain ⟨b1, b2, b3⟩ := y
  by_cases h1 : a1 = b1
  · by_cases h2 : a2 = b2
    · by_cases h3 : a3 = b3
      · simp [go_sem, h1, h2, h3]
      · simp [go_sem, h1, h2, h3]
    · simp [go_sem, h1, h2]
  · simp [go_sem, h1]
theorem take_get {E : Type} {S : Shape E} {es : List E} {k : Nat} (h : k < es.length) : es.take (k + 1) = es.take k ++ [S.get es k] := by
  rw [List.take_succ_eq_append_getElem h]
  unfold Shape.get
  rw [List.getD_eq_getElem?_getD, List.getElem?_eq_getElem h]; rfl
set_option maxRecDepth 8000 in
set_option maxHeartbeats 4000000 in
theorem equal_any (u v : Value) (es fs : List Pt) (w : World) (hu : Rd ptS w w.heap.size u es) (hv : Rd ptS w w.heap.size v fs) :
    Calls Tryz.prog 128 #[u, v] w fun r w' => r = .returned (.bool (decide (es = fs))) ∧ Below w.heap.size w w' := by
  obtain ⟨A, c, rfl, hc, hm, hA⟩ := hu
  obtain ⟨A', c', rfl, hc', hm', hA'⟩ := hv
  unfold maxLen at hm hm'
  by_cases hlen : es.length = fs.length
  · have hne : ((es.length : Int) != (fs.length : Int)) = false := by simp [hlen]
    rcases Nat.eq_zero_or_pos es.length with h0 | h0
    · obtain rfl : es = [] := List.eq_nil_of_length_eq_zero h0
      obtain rfl : fs = [] := List.eq_nil_of_length_eq_zero (by rw [← hlen]; exact h0)
      clear hA hA' hlen hne
      go_enter Tryz.func128, Tryz.ntmps128
      go_wp2
      refine wp_loop_rounds 1 ?_
      rw [rounds_succ]
      go_wp2
      go_ret
      exact ⟨rfl, by (repeat (with_reducible first | exact Below.refl _ _ | assumption | refine bal ?_ _ | refine bst ?_ (by simp <;> omega) _ | refine Below.drew ?_ | refine bthen ?_ (by assumption)))⟩
    · obtain ⟨g, off, rfl, hg, hcell⟩ := hA h0
      obtain ⟨g', off', rfl, hg', hcell'⟩ := hA' (by omega)
      clear hA hA'
      have hcell := pt_cells hcell
      have hcell' := pt_cells hcell'
      rw [← hlen] at hcell' hc'
      have Hlen := Lib.hid hlen
      rw [← hlen]
      clear hlen hne
      go_enter Tryz.func128, Tryz.ntmps128
      go_wp2
      go_loopw [13] (fun i wr => ∃ k : Nat, k ≤ es.length ∧ i = .int .i64 k ∧ Hid (es.take k = fs.take k) ∧ Below w.heap.size w wr) (fun i _ => es.length - (intOf i).toNat)
      case atStart => exact ⟨0, Nat.zero_le _, rfl, Lib.hid (by simp), Below.refl _ _⟩
      case round =>
        obtain ⟨k, hk, rfl, Heq, hb⟩ := hrel
        by_cases hlt : k < es.length
        · obtain ⟨f0, f1, f2⟩ := hcell k hlt
          obtain ⟨p0, p1, p2⟩ := hcell' k hlt
          rw [← hb.cell (p := ⟨_, _, _⟩) hg] at f0 f1 f2
          rw [← hb.cell (p := ⟨_, _, _⟩) hg'] at p0 p1 p2
          obtain ⟨x, hx⟩ : ∃ e, ptS.get es k = e := ⟨_, rfl⟩
          obtain ⟨y, hy⟩ : ∃ e, ptS.get fs k = e := ⟨_, rfl⟩
          rw [hx] at f0 f1 f2
          rw [hy] at p0 p1 p2
          have Hx := Lib.hid hx; have Hy := Lib.hid hy
          have hgr : g < wr.heap.size := Nat.lt_of_lt_of_le hg hb.size
          have hgr' : g' < wr.heap.size := Nat.lt_of_lt_of_le hg' hb.size
          have hi0 : (0 : Int) ≤ (k : Int) := by omega
          have hi1 : (k : Int) < (es.length : Int) := by omega
          have hql := neqPt x y
          clear hcell hcell' hx hy
          by_cases hd : x = y
          · have hql2 : ∀ W, (binOp .neq 117 (.agg #[.int .i64 x.x, .int .i64 x.y, .int .i64 x.e]) (.agg #[.int .i64 y.x, .int .i64 y.y, .int .i64 y.e])).run Tryz.prog W = .ok (.bool false) W := fun W => by rw [hql W, decide_eq_true hd]; rfl
            have Hnext := Lib.hid (show es.take (k + 1) = fs.take (k + 1) by rw [take_get (S := ptS) hlt, take_get (S := ptS) (by have := Hlen.out; omega), Heq.out, Hx.out, Hy.out, hd])
            clear hql hd
            go_wp2
            refine wp_region_tame (by kernel_rfl) (by kernel_rfl) (fun T _ W hT => ?_)
            have hz := hT.cell
            repeat (go_big_quiet_step (fail))
            refine wpQuiet_nil ?_
            intro t
            clear hz
            go_wp2
            go_roundw
            case rel => exact ⟨k + 1, by omega, by go_num, Hnext, bthen hb (hT.below t)⟩
            case measure => simp [intOf]; omega
          · have hql2 : ∀ W, (binOp .neq 117 (.agg #[.int .i64 x.x, .int .i64 x.y, .int .i64 x.e]) (.agg #[.int .i64 y.x, .int .i64 y.y, .int .i64 y.e])).run Tryz.prog W = .ok (.bool true) W := fun W => by rw [hql W, decide_eq_false hd]; rfl
            have Hno := Lib.hid (show decide (es = fs) = false from decide_eq_false (fun e => hd (by rw [← Hx.out, ← Hy.out, e])))
            clear hql hd
            go_wp2
            refine wp_region_tame (by kernel_rfl) (by kernel_rfl) (fun T _ W hT => ?_)
            have hz := hT.cell
            repeat (go_big_quiet_step (fail))
            refine wpQuiet_nil ?_
            intro t
            clear hz
            go_wp2
            go_ret
            exact ⟨ret_bool Hno.out.symm, bthen hb (hT.below t)⟩
        · obtain rfl : k = es.length := by omega
          have Hyes := Lib.hid (show decide (es = fs) = true from decide_eq_true (by have h := Heq.out; rw [List.take_length, Hlen.out, List.take_length] at h; exact h))
          clear hcell hcell'
          go_wp2
          go_ret
          exact ⟨ret_bool Hyes.out.symm, hb⟩
  · have hne : ((es.length : Int) != (fs.length : Int)) = true := by simp; omega
    have Hno := Lib.hid (show decide (es = fs) = false from decide_eq_false (fun e => hlen (by rw [e])))
    clear hA hA'
    have Hlen := Lib.hid hlen; clear hlen
    go_enter Tryz.func128, Tryz.ntmps128
    go_wp2
    go_ret
    exact ⟨ret_bool Hno.out.symm, by (repeat (with_reducible first | exact Below.refl _ _ | assumption | refine bal ?_ _ | refine bst ?_ (by simp <;> omega) _ | refine Below.drew ?_ | refine bthen ?_ (by assumption)))⟩
set_option maxRecDepth 8000 in
set_option maxHeartbeats 4000000 in
theorem skSame_any (u v : Value) (es fs : List Pt) (w : World) (hu : Rd ptS w w.heap.size u es) (hv : Rd ptS w w.heap.size v fs) :
    Calls Tryz.prog 129 #[u, v] w fun r w' => r = .returned (.bool (decide (es = fs))) ∧ Below w.heap.size w w' := by
  obtain ⟨A, c, rfl, hc, hm, hA⟩ := hu
  obtain ⟨A', c', rfl, hc', hm', hA'⟩ := hv
  unfold maxLen at hm hm'
  by_cases hlen : es.length = fs.length
  · have hne : ((es.length : Int) != (fs.length : Int)) = false := by simp [hlen]
    rcases Nat.eq_zero_or_pos es.length with h0 | h0
    · obtain rfl : es = [] := List.eq_nil_of_length_eq_zero h0
      obtain rfl : fs = [] := List.eq_nil_of_length_eq_zero (by rw [← hlen]; exact h0)
      clear hA hA' hlen hne
      go_enter Tryz.func129, Tryz.ntmps129
      go_wp2
      refine wp_loop_rounds 1 ?_
      rw [rounds_succ]
      go_wp2
      go_ret
      exact ⟨rfl, by (repeat (with_reducible first | exact Below.refl _ _ | assumption | refine bal ?_ _ | refine bst ?_ (by simp <;> omega) _ | refine Below.drew ?_ | refine bthen ?_ (by assumption)))⟩
    · obtain ⟨g, off, rfl, hg, hcell⟩ := hA h0
      obtain ⟨g', off', rfl, hg', hcell'⟩ := hA' (by omega)
      clear hA hA'
      have hcell := pt_cells hcell
      have hcell' := pt_cells hcell'
      rw [← hlen] at hcell' hc'
      have Hlen := Lib.hid hlen
      rw [← hlen]
      clear hlen hne
      go_enter Tryz.func129, Tryz.ntmps129
      go_wp2
      go_loopw [14] (fun i wr => ∃ k : Nat, k ≤ es.length ∧ i = .int .i64 k ∧ Hid (es.take k = fs.take k) ∧ Below w.heap.size w wr) (fun i _ => es.length - (intOf i).toNat)
      case atStart => exact ⟨0, Nat.zero_le _, rfl, Lib.hid (by simp), Below.refl _ _⟩
      case round =>
        obtain ⟨k, hk, rfl, Heq, hb⟩ := hrel
        by_cases hlt : k < es.length
        · obtain ⟨f0, f1, f2⟩ := hcell k hlt
          obtain ⟨p0, p1, p2⟩ := hcell' k hlt
          rw [← hb.cell (p := ⟨_, _, _⟩) hg] at f0 f1 f2
          rw [← hb.cell (p := ⟨_, _, _⟩) hg'] at p0 p1 p2
          obtain ⟨x, hx⟩ : ∃ e, ptS.get es k = e := ⟨_, rfl⟩
          obtain ⟨y, hy⟩ : ∃ e, ptS.get fs k = e := ⟨_, rfl⟩
          rw [hx] at f0 f1 f2
          rw [hy] at p0 p1 p2
          have Hx := Lib.hid hx; have Hy := Lib.hid hy
          have hgr : g < wr.heap.size := Nat.lt_of_lt_of_le hg hb.size
          have hgr' : g' < wr.heap.size := Nat.lt_of_lt_of_le hg' hb.size
          have hi0 : (0 : Int) ≤ (k : Int) := by omega
          have hi1 : (k : Int) < (es.length : Int) := by omega
          have hql := neqPt x y
          clear hcell hcell' hx hy
          have HbA := Lib.hid (show Below w.heap.size w (wr.alloc (Obj.cells #[.int .i64 x.x, .int .i64 x.y, .int .i64 x.e] 117)) from bal hb _)
          by_cases hd : x = y
          · have hql2 : ∀ W, (binOp .neq 117 (.agg #[.int .i64 x.x, .int .i64 x.y, .int .i64 x.e]) (.agg #[.int .i64 y.x, .int .i64 y.y, .int .i64 y.e])).run Tryz.prog W = .ok (.bool false) W := fun W => by rw [hql W, decide_eq_true hd]; rfl
            have Hnext := Lib.hid (show es.take (k + 1) = fs.take (k + 1) by rw [take_get (S := ptS) hlt, take_get (S := ptS) (by have := Hlen.out; omega), Heq.out, Hx.out, Hy.out, hd])
            clear hql hd
            go_wp2
            refine wp_region_tame (by kernel_rfl) (by kernel_rfl) (fun T _ W hT => ?_)
            have hz := hT.cell
            repeat (go_big_quiet_step (fail))
            refine wpQuiet_nil ?_
            intro t
            clear hz
            go_wp2
            go_roundw
            case rel => exact ⟨k + 1, by omega, by go_num, Hnext, bthen HbA.out (hT.below t)⟩
            case measure => simp [intOf]; omega
          · have hql2 : ∀ W, (binOp .neq 117 (.agg #[.int .i64 x.x, .int .i64 x.y, .int .i64 x.e]) (.agg #[.int .i64 y.x, .int .i64 y.y, .int .i64 y.e])).run Tryz.prog W = .ok (.bool true) W := fun W => by rw [hql W, decide_eq_false hd]; rfl
            have Hno := Lib.hid (show decide (es = fs) = false from decide_eq_false (fun e => hd (by rw [← Hx.out, ← Hy.out, e])))
            clear hql hd
            go_wp2
            refine wp_region_tame (by kernel_rfl) (by kernel_rfl) (fun T _ W hT => ?_)
            have hz := hT.cell
            repeat (go_big_quiet_step (fail))
            refine wpQuiet_nil ?_
            intro t
            clear hz
            go_wp2
            go_ret
            exact ⟨ret_bool Hno.out.symm, bthen HbA.out (hT.below t)⟩
        · obtain rfl : k = es.length := by omega
          have Hyes := Lib.hid (show decide (es = fs) = true from decide_eq_true (by have h := Heq.out; rw [List.take_length, Hlen.out, List.take_length] at h; exact h))
          clear hcell hcell'
          go_wp2
          go_ret
          exact ⟨ret_bool Hyes.out.symm, hb⟩
  · have hne : ((es.length : Int) != (fs.length : Int)) = true := by simp; omega
    have Hno := Lib.hid (show decide (es = fs) = false from decide_eq_false (fun e => hlen (by rw [e])))
    clear hA hA'
    have Hlen := Lib.hid hlen; clear hlen
    go_enter Tryz.func129, Tryz.ntmps129
    go_wp2
    go_ret
    exact ⟨ret_bool Hno.out.symm, by (repeat (with_reducible first | exact Below.refl _ _ | assumption | refine bal ?_ _ | refine bst ?_ (by simp <;> omega) _ | refine Below.drew ?_ | refine bthen ?_ (by assumption)))⟩
end
section
open Go Go.RowKit

def tkB (a b m d : Int) : Bool := curveB a b && (insB m 0 200 && insB d 1 10)
theorem tkB_tk {a b m d : Int} (h : tkB a b m d = true) : TkB a b m d := by
  unfold tkB at h
  simp only [Bool.and_eq_true] at h
  obtain ⟨h1, h2, h3⟩ := h
  exact ⟨(curveB_bd h1).1, (curveB_bd h1).2, insB_true h2, insB_true h3⟩
/-- Is a task valid? -/
def tkG (a b m d t : Int) (fs : List Pt) : Bool := tkB a b m d && (insB t 0 (totI m d) && decide (fs = hitsZ a b m 0 t))

theorem tkTotal_any (g : Nat) (a b m d t : Int) (v : Value) (w : World) (h : Blk w g 51 #[.int .i64 a, .int .i64 b, .int .i64 m, .int .i64 d, .int .i64 t, v]) (ht : TkB a b m d) :
    Calls Tryz.prog 86 #[.pointer (some ⟨g, 0, none⟩)] w fun r w' => r = .returned (.int .i64 (totI m d)) ∧ Below w.heap.size w w' := by
  have q2 := h.cell 2
  have q3 := h.cell 3
  simp at q2 q3
  have ql := h.lt
  have ⟨m1, m2⟩ := ht.m
  have ⟨d1, d2⟩ := ht.d
  have ⟨t1, t2⟩ := totI_bd ht.m ht.d
  unfold totI at t1 t2 ⊢
  clear h ht
  go_enter Tryz.func86, Tryz.ntmps86
  go_wp2
  refine wp_region_tame (by kernel_rfl) (by kernel_rfl) (fun T _ W hT => ?_)
  have hx := hT.cell
  repeat (go_big_quiet_step (fail))
  refine wpQuiet_nil ?_
  intro t
  clear hx
  go_wp2
  go_ret
  exact ⟨rfl, hT.below t⟩
theorem skCount_any (a b m d t : Int) (v : Value) (w : World) (ht : TkB a b m d) :
    Calls Tryz.prog 88 #[.agg #[.int .i64 a, .int .i64 b, .int .i64 m, .int .i64 d, .int .i64 t, v]] w fun r w' => r = .returned (.int .i64 (totI m d)) ∧ Below w.heap.size w w' := by
  have q2 := (Blk.new w 51 #[.int .i64 a, .int .i64 b, .int .i64 m, .int .i64 d, .int .i64 t, v]).cell 2
  have q3 := (Blk.new w 51 #[.int .i64 a, .int .i64 b, .int .i64 m, .int .i64 d, .int .i64 t, v]).cell 3
  have HbA := Lib.hid (show Below w.heap.size w (w.alloc (Obj.cells #[.int .i64 a, .int .i64 b, .int .i64 m, .int .i64 d, .int .i64 t, v] 51)) from bal (Below.refl _ _) _)
  have ⟨m1, m2⟩ := ht.m
  have ⟨d1, d2⟩ := ht.d
  have ⟨t1, t2⟩ := totI_bd ht.m ht.d
  unfold totI at t1 t2 ⊢
  clear ht
  go_enter Tryz.func88, Tryz.ntmps88
  go_wp2
  try (
    refine wp_region_tame (by kernel_rfl) (by kernel_rfl) (fun T _ W hT => ?_)
    have hx := hT.cell
    repeat (go_big_quiet_step (fail))
    refine wpQuiet_nil ?_
    intro t
    clear hx
    go_wp2)
  go_ret
  exact ⟨rfl, by first | exact HbA.out | exact bthen HbA.out (hT.below t)⟩
set_option maxHeartbeats 1600000 in
theorem skBounds_any (a b m d t : Int) (v : Value) (w : World) : Calls Tryz.prog 102 #[.agg #[.int .i64 a, .int .i64 b, .int .i64 m, .int .i64 d, .int .i64 t, v]] w fun r w' => r = .returned (.bool (tkB a b m d)) ∧ Below w.heap.size w w' := by
  have hbox := Blk.new w 51 #[.int .i64 a, .int .i64 b, .int .i64 m, .int .i64 d, .int .i64 t, v]
  have hbA : Below w.heap.size w (w.alloc (Obj.cells #[.int .i64 a, .int .i64 b, .int .i64 m, .int .i64 d, .int .i64 t, v] 51)) := bal (Below.refl _ _) _
  have hv : tkB a b m d = (curveB a b && (insB m 0 200 && insB d 1 10)) := rfl
  have Hv := Lib.hid hv; clear hv
  have Hbox := Lib.hid hbox; clear hbox
  go_enter Tryz.func102, Tryz.ntmps102
  go_wp2_with fail
  refine (ecGood_any _ _ _).mono ?_; rintro e w1 ⟨rfl, hb1⟩
  have hbox1 := Hbox.out.on hb1
  have q0 := hbox1.cell 0
  have q1 := hbox1.cell 1
  have q2 := hbox1.cell 2
  have q3 := hbox1.cell 3
  have q4 := hbox1.cell 4
  have q5 := hbox1.cell 5
  have ql := hbox1.lt
  have hb1' := bthen hbA hb1
  clear hbox1
  cases hc : curveB a b
  · go_wp2
    go_ret
    exact ⟨by rw [Hv.out, hc]; rfl, hb1'⟩
  · go_wp2_with fail
    refine (l1In_any _ _ _ _).mono ?_; rintro e w2 ⟨rfl, rfl⟩
    cases hm : insB m 0 200
    · go_wp2
      go_ret
      exact ⟨by rw [Hv.out, hc, hm]; rfl, hb1'⟩
    · go_wp2_with fail
      refine (l1In_any _ _ _ _).mono ?_; rintro e w2 ⟨rfl, rfl⟩
      go_wp2
      go_ret
      exact ⟨by rw [Hv.out, hc, hm]; simp, hb1'⟩
set_option maxRecDepth 20000 in
set_option maxHeartbeats 4000000 in
theorem isTask_any (g : Nat) (a b m d t : Int) (v : Value) (fs : List Pt) (w : World) (h : Blk w g 51 #[.int .i64 a, .int .i64 b, .int .i64 m, .int .i64 d, .int .i64 t, v]) (hv : Rd ptS w w.heap.size v fs) :
    Calls Tryz.prog 79 #[.pointer (some ⟨g, 0, none⟩)] w fun r w' => r = .returned (.bool (tkG a b m d t fs)) ∧ Below w.heap.size w w' := by
  have q0 := h.cell 0
  have q1 := h.cell 1
  have q2 := h.cell 2
  have q3 := h.cell 3
  have q4 := h.cell 4
  have q5 := h.cell 5
  have ql := h.lt
  simp at q0 q1 q2 q3 q4 q5
  have Hb := Lib.hid h
  have HR := Lib.hid hv
  have inB : ∀ (n lo hi : Int) (w' : World), Calls Tryz.prog 80 #[.int .i64 n, .int .i64 lo, .int .i64 hi] w' fun r w'' => r = .returned (.bool (insB n lo hi)) ∧ Below w'.heap.size w' w'' := fun n lo hi w' => (inside_any n lo hi w').mono (fun _ _ h => ⟨h.1, h.2 ▸ Below.refl _ _⟩)
  have InB := Lib.hid inB; clear inB h hv
  have HC := Lib.hid (fun w' => isCurve_any a b w')
  have HM := Lib.hid (fun w' => InB.out m 0 200 w')
  have HD := Lib.hid (fun w' => InB.out d 1 10 w')
  have Hv := Lib.hid (show tkG a b m d t fs = (curveB a b && (insB m 0 200 && insB d 1 10) && (insB t 0 (totI m d) && decide (fs = hitsZ a b m 0 t))) from rfl)
  cases hc : curveB a b
  all_goals rw [hc] at HC
  · have Hfin := Lib.hid (show false = tkG a b m d t fs by rw [Hv.out, hc]; rfl)
    clear hc
    go_enter Tryz.func79, Tryz.ntmps79
    go_wp2
    refine wp_region_tame (by kernel_rfl) (by kernel_rfl) (fun T _ W hT => ?_)
    have hx := hT.cell
    repeat (go_big_quiet_step ((first | (go_at_call 123; exact hT.call (HC.out _)))))
    refine wpQuiet_nil ?_
    intro t
    clear hx
    go_wp2
    go_ret
    exact ⟨ret_bool Hfin.out, hT.below t⟩
  · cases hm : insB m 0 200
    all_goals rw [hm] at HM
    · have Hfin := Lib.hid (show false = tkG a b m d t fs by rw [Hv.out, hc, hm]; rfl)
      clear hc hm
      go_enter Tryz.func79, Tryz.ntmps79
      go_wp2
      refine wp_region_tame (by kernel_rfl) (by kernel_rfl) (fun T _ W hT => ?_)
      have hx := hT.cell
      repeat (go_big_quiet_step ((first | (go_at_call 123; exact hT.call (HC.out _)) | (go_at_call 80; with_reducible exact hT.call (HM.out _)))))
      refine wpQuiet_nil ?_
      intro t
      clear hx
      go_wp2
      go_ret
      exact ⟨ret_bool Hfin.out, hT.below t⟩
    · cases hd : insB d 1 10
      all_goals rw [hd] at HD
      · have Hfin := Lib.hid (show false = tkG a b m d t fs by rw [Hv.out, hc, hm, hd]; rfl)
        clear hc hm hd
        go_enter Tryz.func79, Tryz.ntmps79
        go_wp2
        refine wp_region_tame (by kernel_rfl) (by kernel_rfl) (fun T _ W hT => ?_)
        have hx := hT.cell
        repeat (go_big_quiet_step ((first | (go_at_call 123; exact hT.call (HC.out _)) | (go_at_call 80; with_reducible exact hT.call (HM.out _)) | (go_at_call 80; with_reducible exact hT.call (HD.out _)))))
        refine wpQuiet_nil ?_
        intro t
        clear hx
        go_wp2
        go_ret
        exact ⟨ret_bool Hfin.out, hT.below t⟩
      · have Htk := Lib.hid (tkB_tk (show tkB a b m d = true by unfold tkB; rw [hc, hm, hd]; rfl))
        have Htot := Lib.hid (fun (w' : World) (hb : Below w.heap.size w w') => tkTotal_any g a b m d t v w' (Hb.out.on hb) Htk.out)
        have HT := Lib.hid (fun w' => InB.out t 0 (totI m d) w')
        cases hin : insB t 0 (totI m d)
        all_goals rw [hin] at HT
        · have Hfin := Lib.hid (show false = tkG a b m d t fs by rw [Hv.out, hc, hm, hd, hin]; rfl)
          clear hc hm hd hin
          go_enter Tryz.func79, Tryz.ntmps79
          go_wp2
          refine wp_region_tame (by kernel_rfl) (by kernel_rfl) (fun T _ W hT => ?_)
          have hx := hT.cell
          repeat (go_big_quiet_step ((first | (go_at_call 123; exact hT.call (HC.out _)) | (go_at_call 80; with_reducible exact hT.call (HM.out _)) | (go_at_call 80; with_reducible exact hT.call (HD.out _)) | (go_at_call 80; with_reducible exact hT.call (HT.out _)) | (go_at_call 86; exact hT.call (Htot.out _ (hT.below _))))))
          refine wpQuiet_nil ?_
          intro t
          clear hx
          go_wp2
          go_ret
          exact ⟨ret_bool Hfin.out, hT.below t⟩
        · have Hfin := Lib.hid (show decide (fs = hitsZ a b m 0 t) = tkG a b m d t fs by rw [Hv.out, hc, hm, hd, hin]; rfl)
          have Hin := Lib.hid (insB_true hin)
          clear hc hm hd hin
          have HS : Hid (∀ w', Below w.heap.size w w' → (w'.cell? ⟨g, 0, none⟩ = some (.int .i64 a) ∧ w'.cell? ⟨g, 1, none⟩ = some (.int .i64 b) ∧ w'.cell? ⟨g, 2, none⟩ = some (.int .i64 m) ∧ w'.cell? ⟨g, 3, none⟩ = some (.int .i64 d) ∧ w'.cell? ⟨g, 4, none⟩ = some (.int .i64 t) ∧ w'.cell? ⟨g, 5, none⟩ = some (v) ∧ Below w.heap.size w w')) := Lib.hid (fun w' hw => ⟨(hw.cell (p := ⟨g, 0, none⟩) ql).trans q0, (hw.cell (p := ⟨g, 1, none⟩) ql).trans q1, (hw.cell (p := ⟨g, 2, none⟩) ql).trans q2, (hw.cell (p := ⟨g, 3, none⟩) ql).trans q3, (hw.cell (p := ⟨g, 4, none⟩) ql).trans q4, (hw.cell (p := ⟨g, 5, none⟩) ql).trans q5, hw⟩)
          have HB := Lib.hid (Below.refl w.heap.size w)
          go_enter Tryz.func79, Tryz.ntmps79
          go_wp2
          go_region_held3 (fun w' => w'.cell? ⟨g, 0, none⟩ = some (.int .i64 a) ∧ w'.cell? ⟨g, 1, none⟩ = some (.int .i64 b) ∧ w'.cell? ⟨g, 2, none⟩ = some (.int .i64 m) ∧ w'.cell? ⟨g, 3, none⟩ = some (.int .i64 d) ∧ w'.cell? ⟨g, 4, none⟩ = some (.int .i64 t) ∧ w'.cell? ⟨g, 5, none⟩ = some (v) ∧ Below w.heap.size w w') (((go_split_ands; refine HS.out _ ?_; repeat (first | (with_reducible assumption) | (with_reducible exact Below.refl _ _) | (with_reducible refine Below.drew ?_) | (with_reducible refine bthen ?_ (by with_reducible assumption)))))) ((first | (go_at_call 123; refine (HC.out _).mono ?_; rintro r w1 ⟨rfl, hb1⟩) | (go_at_call 80; with_reducible refine (HM.out _).mono ?_; rintro r w2 ⟨rfl, hb2⟩) | (go_at_call 80; with_reducible refine (HD.out _).mono ?_; rintro r w3 ⟨rfl, hb3⟩) | (go_at_call 80; with_reducible refine (HT.out _).mono ?_; rintro r w4 ⟨rfl, hb4⟩) | (go_at_call 86; refine (Htot.out _ (by go_split_ands; with_reducible assumption)).mono ?_; rintro r w5 ⟨rfl, hb5⟩) | (go_at_call 87; refine (hits_any g a b m d t 0 t v _ (Hb.out.on (by go_split_ands; with_reducible assumption)) Htk.out (by omega) Hin.out.2).mono ?_; rintro r w6 ⟨⟨v6, rfl, ho6⟩, hb6⟩) | (go_at_call 128; refine (equal_any _ _ fs (hitsZ a b m 0 t) _ (HR.out.on (by go_split_ands; with_reducible assumption)) ((Rd.of_own ho6 rfl).on (by first | (with_reducible exact Below.refl _ _) | (with_reducible refine Below.drew ?_; with_reducible exact Below.refl _ _)))).mono ?_; rintro r w7 ⟨rfl, hb7⟩)))
          all_goals go_wp2
          all_goals go_ret
          all_goals exact ⟨ret_bool Hfin.out, by go_split_ands; repeat (first | (with_reducible assumption) | (with_reducible refine bthen ?_ (by with_reducible assumption)))⟩
end
section
open Go Go.RowKit

set_option maxRecDepth 20000 in
set_option maxHeartbeats 4000000 in
theorem skGood_any (a b m d t : Int) (v : Value) (fs : List Pt) (w : World) (hv : Rd ptS w w.heap.size v fs) :
    Calls Tryz.prog 82 #[.agg #[.int .i64 a, .int .i64 b, .int .i64 m, .int .i64 d, .int .i64 t, v]] w fun r w' => r = .returned (.bool (tkG a b m d t fs)) ∧ Below w.heap.size w w' := by
  have Hb := Lib.hid (Blk.new w 51 #[.int .i64 a, .int .i64 b, .int .i64 m, .int .i64 d, .int .i64 t, v])
  have hb0 := bal (Below.refl w.heap.size w) (Obj.cells #[.int .i64 a, .int .i64 b, .int .i64 m, .int .i64 d, .int .i64 t, v] 51)
  have HR := Lib.hid (hv.on hb0)
  have HbA := Lib.hid hb0; clear hb0
  have inB : ∀ (n lo hi : Int) (w' : World), Calls Tryz.prog 83 #[.int .i64 n, .int .i64 lo, .int .i64 hi] w' fun r w'' => r = .returned (.bool (insB n lo hi)) ∧ Below w'.heap.size w' w'' := fun n lo hi w' => (l1In_any n lo hi w').mono (fun _ _ h => ⟨h.1, h.2 ▸ Below.refl _ _⟩)
  have InB := Lib.hid inB; clear inB hv
  have HK := Lib.hid (fun w' => skBounds_any a b m d t v w')
  have Hv := Lib.hid (show tkG a b m d t fs = (tkB a b m d && (insB t 0 (totI m d) && decide (fs = hitsZ a b m 0 t))) from rfl)
  cases hc : tkB a b m d
  all_goals rw [hc] at HK
  · have Hfin := Lib.hid (show false = tkG a b m d t fs by rw [Hv.out, hc]; rfl)
    clear hc
    go_enter Tryz.func82, Tryz.ntmps82
    go_wp2
    refine wp_region_tame (by kernel_rfl) (by kernel_rfl) (fun T _ W hT => ?_)
    have hx := hT.cell
    repeat (go_big_quiet_step ((first | (go_at_call 102; with_reducible exact hT.call (HK.out _)))))
    refine wpQuiet_nil ?_
    intro t
    clear hx
    go_wp2
    go_ret
    exact ⟨ret_bool Hfin.out, bthen HbA.out (hT.below t)⟩
  · have Htk := Lib.hid (tkB_tk hc)
    have Htot := Lib.hid (fun (w' : World) => skCount_any a b m d t v w' Htk.out)
    have HT := Lib.hid (fun w' => InB.out t 0 (totI m d) w')
    cases hin : insB t 0 (totI m d)
    all_goals rw [hin] at HT
    · have Hfin := Lib.hid (show false = tkG a b m d t fs by rw [Hv.out, hc, hin]; rfl)
      clear hc hin
      go_enter Tryz.func82, Tryz.ntmps82
      go_wp2
      refine wp_region_tame (by kernel_rfl) (by kernel_rfl) (fun T _ W hT => ?_)
      have hx := hT.cell
      repeat (go_big_quiet_step ((first | (go_at_call 102; with_reducible exact hT.call (HK.out _)) | (go_at_call 83; with_reducible exact hT.call (HT.out _)) | (go_at_call 88; with_reducible exact hT.call (Htot.out _)))))
      refine wpQuiet_nil ?_
      intro t
      clear hx
      go_wp2
      go_ret
      exact ⟨ret_bool Hfin.out, bthen HbA.out (hT.below t)⟩
    · have Hfin := Lib.hid (show decide (fs = hitsZ a b m 0 t) = tkG a b m d t fs by rw [Hv.out, hc, hin]; rfl)
      have Hin := Lib.hid (insB_true hin)
      clear hc hin
      go_enter Tryz.func82, Tryz.ntmps82
      go_wp2
      obtain ⟨wt, hwt⟩ : ∃ wt, w.alloc (Obj.cells #[.int .i64 a, .int .i64 b, .int .i64 m, .int .i64 d, .int .i64 t, v] 51) = wt := ⟨_, rfl⟩
      obtain ⟨g, hg⟩ : ∃ g, w.heap.size = g := ⟨_, rfl⟩
      have Hbt := Lib.hid (show Blk wt g 51 #[.int .i64 a, .int .i64 b, .int .i64 m, .int .i64 d, .int .i64 t, v] by rw [← hwt, ← hg]; exact Hb.out)
      have Hat := Lib.hid (show Below w.heap.size w wt by rw [← hwt]; exact HbA.out)
      have HRt := Lib.hid (show Rd ptS wt wt.heap.size v fs by rw [← hwt]; exact HR.out)
      rw [hwt]
      try rw [hg]
      clear hwt Hb HbA HR
      have q0 := Hbt.out.cell 0
      have q1 := Hbt.out.cell 1
      have q2 := Hbt.out.cell 2
      have q3 := Hbt.out.cell 3
      have q4 := Hbt.out.cell 4
      have q5 := Hbt.out.cell 5
      have ql := Hbt.out.lt
      simp at q0 q1 q2 q3 q4 q5
      have Hg := Lib.hid hg; clear hg
      have HS : Hid (∀ w', Below wt.heap.size wt w' → (w'.cell? ⟨g, 0, none⟩ = some (.int .i64 a) ∧ w'.cell? ⟨g, 1, none⟩ = some (.int .i64 b) ∧ w'.cell? ⟨g, 2, none⟩ = some (.int .i64 m) ∧ w'.cell? ⟨g, 3, none⟩ = some (.int .i64 d) ∧ w'.cell? ⟨g, 4, none⟩ = some (.int .i64 t) ∧ w'.cell? ⟨g, 5, none⟩ = some (v) ∧ Below wt.heap.size wt w')) := Lib.hid (fun w' hw => ⟨(hw.cell (p := ⟨g, 0, none⟩) ql).trans q0, (hw.cell (p := ⟨g, 1, none⟩) ql).trans q1, (hw.cell (p := ⟨g, 2, none⟩) ql).trans q2, (hw.cell (p := ⟨g, 3, none⟩) ql).trans q3, (hw.cell (p := ⟨g, 4, none⟩) ql).trans q4, (hw.cell (p := ⟨g, 5, none⟩) ql).trans q5, hw⟩)
      have HB := Lib.hid (Below.refl wt.heap.size wt)
      go_region_held3 (fun w' => w'.cell? ⟨g, 0, none⟩ = some (.int .i64 a) ∧ w'.cell? ⟨g, 1, none⟩ = some (.int .i64 b) ∧ w'.cell? ⟨g, 2, none⟩ = some (.int .i64 m) ∧ w'.cell? ⟨g, 3, none⟩ = some (.int .i64 d) ∧ w'.cell? ⟨g, 4, none⟩ = some (.int .i64 t) ∧ w'.cell? ⟨g, 5, none⟩ = some (v) ∧ Below wt.heap.size wt w') (((go_split_ands; refine HS.out _ ?_; repeat (first | (with_reducible assumption) | (with_reducible exact Below.refl _ _) | (with_reducible refine Below.drew ?_) | (with_reducible refine bthen ?_ (by with_reducible assumption)))))) ((first | (go_at_call 102; with_reducible refine (HK.out _).mono ?_; rintro r w1 ⟨rfl, hb1⟩) | (go_at_call 83; with_reducible refine (HT.out _).mono ?_; rintro r w4 ⟨rfl, hb4⟩) | (go_at_call 88; with_reducible refine (Htot.out _).mono ?_; rintro r w5 ⟨rfl, hb5⟩) | (go_at_call 89; refine (skRun_any a b m d t 0 t v _ Htk.out (by omega) Hin.out.2).mono ?_; rintro r w6 ⟨⟨v6, rfl, ho6⟩, hb6⟩) | (go_at_call 129; refine (skSame_any _ _ fs (hitsZ a b m 0 t) _ (HRt.out.on (by go_split_ands; with_reducible assumption)) ((Rd.of_own ho6 rfl).on (by first | (with_reducible exact Below.refl _ _) | (with_reducible refine Below.drew ?_; with_reducible exact Below.refl _ _)))).mono ?_; rintro r w7 ⟨rfl, hb7⟩)))
      all_goals go_wp2
      all_goals go_ret
      all_goals exact ⟨ret_bool Hfin.out, bthen Hat.out (by go_split_ands; repeat (first | (with_reducible assumption) | (with_reducible refine bthen ?_ (by with_reducible assumption))))⟩
end
section
open Go Go.RowKit Go.ChangeShapes Go.WideShapes
theorem own_knob : ownKnob Tryz.prog.godebug = none := by kernel_rfl
theorem laid_out : laidOutB Tryz.prog = true := by kernel_rfl
theorem bounds_i64 {n : Int} (h : (Lit.int .i64 n).wf = true) : -9223372036854775808 ≤ n ∧ n ≤ 9223372036854775807 := by
  simp [Lit.wf, IntKind.min, IntKind.max, IntKind.signed, IntKind.bits] at h
  omega
def cuMk (c : Nat → Int) : Cu := ⟨c 0, c 1⟩
def enMk (c : Nat → Int) : En := ⟨c 0, c 1, c 2, c 3, c 4⟩
def rpMk (c : Nat → Int) : Rp := ⟨c 0, c 1, c 2, c 3, c 4, c 5, c 6⟩
def ptMk (c : Nat → Int) : Pt := ⟨c 0, c 1, c 2⟩
theorem ptMk_cell (c : Nat → Int) (j : Nat) (hj : j < ptS.size) : ptS.cell (ptMk c) j = .int .i64 (c j) := by
  match j, hj with
  | 0, _ => rfl
  | 1, _ => rfl
  | 2, _ => rfl
theorem cuMk_cell (c : Nat → Int) (j : Nat) (hj : j < cuS.size) : cuS.cell (cuMk c) j = .int .i64 (c j) := by
  match j, hj with
  | 0, _ => rfl
  | 1, _ => rfl
theorem enMk_cell (c : Nat → Int) (j : Nat) (hj : j < enS.size) : enS.cell (enMk c) j = .int .i64 (c j) := by
  match j, hj with
  | 0, _ => rfl
  | 1, _ => rfl
  | 2, _ => rfl
  | 3, _ => rfl
  | 4, _ => rfl
theorem rpMk_cell (c : Nat → Int) (j : Nat) (hj : j < rpS.size) : rpS.cell (rpMk c) j = .int .i64 (c j) := by
  match j, hj with
  | 0, _ => rfl
  | 1, _ => rfl
  | 2, _ => rfl
  | 3, _ => rfl
  | 4, _ => rfl
  | 5, _ => rfl
  | 6, _ => rfl
theorem farC {w : World} {g o b j : Nat} {v : Value} (h : b ≠ g) : (w.setCell ⟨g, o, none⟩ v).cell? ⟨b, j, none⟩ = w.cell? ⟨b, j, none⟩ :=
  World.cell?_setCell_other _ _ _ _ (by intro e; injection e with e1; exact h e1.symm)

theorem new_cell {w : World} {G : Nat} {cs : Array Value} {T : TypeId} {j : Nat} {v : Value} (hG : w.heap.size = G) (hv : cs[j]? = some v) : (w.alloc (.cells cs T)).cell? ⟨G, j, none⟩ = some v := by
  subst hG
  rw [← hv]; exact (Blk.new w T cs).cell j
theorem new_frozen {w : World} {G : Nat} {cs : Array Value} {T : TypeId} {j : Nat} (hG : w.heap.size = G) : (w.alloc (.cells cs T)).frozen? ⟨G, j, none⟩ = false := by
  subst hG
  exact (Blk.new w T cs).frozen j

theorem bfar5 {w : World} {b g : Nat} {T : TypeId} {cs : Array Value} {v0 v1 v2 v3 v4 : Value} (h : Blk w b T cs) (hg : b ≠ g) :
    Blk (((((w.setCell ⟨g, 0, none⟩ v0).setCell ⟨g, 1, none⟩ v1).setCell ⟨g, 2, none⟩ v2).setCell ⟨g, 3, none⟩ v3).setCell ⟨g, 4, none⟩ v4) b T cs :=
  ((((h.far (p := ⟨g, 0, none⟩) hg _).far (p := ⟨g, 1, none⟩) hg _).far (p := ⟨g, 2, none⟩) hg _).far (p := ⟨g, 3, none⟩) hg _).far (p := ⟨g, 4, none⟩) hg _

theorem own_apart {u v : Value} (H : ∀ k, v.ownBlock = some k → u.ownBlock = some k → False) : v.ownBlock = none ∨ v.ownBlock ≠ u.ownBlock := by
  cases h : v.ownBlock with
  | none => exact .inl rfl
  | some k => exact .inr (fun e => H k h e.symm)
end
section
open Go Go.RowKit

theorem own_far {w w' : World} {base : Nat} {e : TypeId} {size : Nat} {v : Value} {n : Nat} {xs : List Value} {g : Nat} (h : w.ownsRow base e size v n xs) (hw : w.grownBy w' (some g)) (hg : g < base) : w'.ownsRow base e size v n xs :=
  World.ownsRow.kept h hw (by
    cases hv : v.ownBlock with
    | none => exact .inl rfl
    | some k =>
      have := (h.lt k hv).1
      refine .inr (fun e => ?_)
      injection e with e
      omega)
theorem bthenB {B : Nat} {W0 w1 w2 : World} (h : Below B W0 w1) (hs : B ≤ W0.heap.size) (k : Below w1.heap.size w1 w2) : Below B W0 w2 := h.trans (k.mono (Nat.le_trans hs h.size))
theorem bstB {B : Nat} {W0 w1 : World} (h : Below B W0 w1) {p : Addr} (hp : B ≤ p.block) (u : Value) : Below B W0 (w1.setCell p u) := h.setCell hp u
theorem only_drew {a w : World} {row : Option Nat} (h : a.grownBy w row) : a.grownBy w.drew row := ⟨h.os, h.tape, h.output, h.size, h.block⟩

set_option maxRecDepth 20000 in
set_option maxHeartbeats 4000000 in
theorem doneTo_any (g : Nat) (a b m d t n : Int) (v : Value) (w : World) (h : Blk w g 51 #[.int .i64 a, .int .i64 b, .int .i64 m, .int .i64 d, .int .i64 t, v]) (ht : TkB a b m d) (hn : 0 ≤ n ∧ n ≤ totI m d) :
    Calls Tryz.prog 94 #[.pointer (some ⟨g, 0, none⟩), .int .i64 n] w fun r w' => (∃ v', r = .returned (.agg #[.int .i64 a, .int .i64 b, .int .i64 m, .int .i64 d, .int .i64 n, v']) ∧ w'.ownsRow w.heap.size 117 3 v' (hitsZ a b m 0 n).length (ptS.flat (hitsZ a b m 0 n))) ∧ Below w.heap.size w w' := by
  have Ht := Lib.hid ht; clear ht
  have Hn := Lib.hid hn; clear hn
  have Hb := Lib.hid h
  have hgl := h.lt
  have q0 := h.cell 0
  have q1 := h.cell 1
  have q2 := h.cell 2
  have q3 := h.cell 3
  have q4 := h.cell 4
  have q5 := h.cell 5
  have ql := h.lt
  simp at q0 q1 q2 q3 q4 q5
  clear h
  have HR := Lib.hid (Blk.new w 51 #[.int .i64 0, .int .i64 0, .int .i64 0, .int .i64 0, .int .i64 0, .slice none 0 0])
  have hbA := bal (Below.refl w.heap.size w) (Obj.cells #[.int .i64 0, .int .i64 0, .int .i64 0, .int .i64 0, .int .i64 0, .slice none 0 0] 51)
  have Hsz := Lib.hid (World.size_alloc w (Obj.cells #[.int .i64 0, .int .i64 0, .int .i64 0, .int .i64 0, .int .i64 0, .slice none 0 0] 51))
  have HS : Hid (∀ w', Below w.heap.size w w' → (w'.cell? ⟨g, 0, none⟩ = some (.int .i64 a) ∧ w'.cell? ⟨g, 1, none⟩ = some (.int .i64 b) ∧ w'.cell? ⟨g, 2, none⟩ = some (.int .i64 m) ∧ w'.cell? ⟨g, 3, none⟩ = some (.int .i64 d) ∧ w'.cell? ⟨g, 4, none⟩ = some (.int .i64 t) ∧ w'.cell? ⟨g, 5, none⟩ = some (v) ∧ Below w.heap.size w w')) := Lib.hid (fun w' hw => ⟨(hw.cell (p := ⟨g, 0, none⟩) hgl).trans q0, (hw.cell (p := ⟨g, 1, none⟩) hgl).trans q1, (hw.cell (p := ⟨g, 2, none⟩) hgl).trans q2, (hw.cell (p := ⟨g, 3, none⟩) hgl).trans q3, (hw.cell (p := ⟨g, 4, none⟩) hgl).trans q4, (hw.cell (p := ⟨g, 5, none⟩) hgl).trans q5, hw⟩)
  go_enter Tryz.func94, Tryz.ntmps94
  go_wp2
  generalize w.alloc (Obj.cells #[.int .i64 0, .int .i64 0, .int .i64 0, .int .i64 0, .int .i64 0, .slice none 0 0] 51) = W0 at hbA HR Hsz ⊢
  have hW0 := hbA.size
  go_region_held3 (fun w' => w'.cell? ⟨g, 0, none⟩ = some (.int .i64 a) ∧ w'.cell? ⟨g, 1, none⟩ = some (.int .i64 b) ∧ w'.cell? ⟨g, 2, none⟩ = some (.int .i64 m) ∧ w'.cell? ⟨g, 3, none⟩ = some (.int .i64 d) ∧ w'.cell? ⟨g, 4, none⟩ = some (.int .i64 t) ∧ w'.cell? ⟨g, 5, none⟩ = some (v) ∧ Below w.heap.size w w') (((go_split_ands; refine HS.out _ ?_; repeat (first | (with_reducible assumption) | (with_reducible exact Below.refl _ _) | (with_reducible refine Below.drew ?_) | (with_reducible refine bthen ?_ (by with_reducible assumption)) | (with_reducible refine bst ?_ (Nat.le_refl _) _))))) ((first | (go_at_call 87; refine (hits_any g a b m d t 0 n v _ (Hb.out.on (by go_split_ands; with_reducible assumption)) Ht.out (by omega) Hn.out.2).mono ?_; rintro r w5 ⟨⟨v5, rfl, ho5⟩, hb5⟩; have hR5 := Blk.on (g := w.heap.size) (t := 51) (cs :=  #[.int .i64 0, .int .i64 0, .int .i64 0, .int .i64 0, .int .i64 0, .slice none 0 0]) (by first | (with_reducible exact HR.out) | (with_reducible exact HR.out.drew)) hb5; have r0 := hR5.cell 0; have r1 := hR5.cell 1; have r2 := hR5.cell 2; have r3 := hR5.cell 3; have r4 := hR5.cell 4; have r5 := hR5.cell 5; have rl := hR5.lt; have z0 := hR5.frozen 0; have z1 := hR5.frozen 1; have z2 := hR5.frozen 2; have z3 := hR5.frozen 3; have z4 := hR5.frozen 4; have z5 := hR5.frozen 5; clear hR5; obtain ⟨A5, c5, rfl, -, -, -⟩ := Rd.of_own (S := ptS) ho5 rfl; have Ho5 := Lib.hid ho5; clear ho5)))
  all_goals go_wp2
  all_goals exact bodyPost_ret (v := .agg #[.int .i64 a, .int .i64 b, .int .i64 m, .int .i64 d, .int .i64 n, .slice A5 (hitsZ a b m 0 n).length c5]) (by simp [results, Tryz.results94, go_sem, r0, r1, r2, r3, r4, r5]) rfl ⟨⟨_, rfl, own_mono (own_far (g := w.heap.size) Ho5.out (by repeat (first | (with_reducible exact grefl _ _) | (with_reducible refine only_cell ?_) | (with_reducible refine only_drew ?_))) (by have := Hsz.out; simp; omega)) (by have := Hsz.out; simp; omega)⟩, (by go_split_ands; repeat (first | (with_reducible assumption) | (with_reducible refine Below.drew ?_) | (with_reducible refine bthen ?_ (by with_reducible assumption)) | (with_reducible refine bst ?_ (Nat.le_refl _) _)))⟩
set_option maxRecDepth 20000 in
set_option maxHeartbeats 4000000 in
theorem skAt_any (a b m d t n : Int) (v : Value) (w : World) (ht : TkB a b m d) (hn : 0 ≤ n ∧ n ≤ totI m d) :
    Calls Tryz.prog 96 #[.agg #[.int .i64 a, .int .i64 b, .int .i64 m, .int .i64 d, .int .i64 t, v], .int .i64 n] w fun r w' => (∃ v', r = .returned (.agg #[.int .i64 a, .int .i64 b, .int .i64 m, .int .i64 d, .int .i64 n, v']) ∧ w'.ownsRow w.heap.size 117 3 v' (hitsZ a b m 0 n).length (ptS.flat (hitsZ a b m 0 n))) ∧ Below w.heap.size w w' := by
  have Ht := Lib.hid ht; clear ht
  have Hn := Lib.hid hn; clear hn
  have Hb := Lib.hid ((Blk.new w 51 #[.int .i64 a, .int .i64 b, .int .i64 m, .int .i64 d, .int .i64 t, v]).alloc (Obj.cells #[.int .i64 0, .int .i64 0, .int .i64 0, .int .i64 0, .int .i64 0, .slice none 0 0] 51))
  have HR := Lib.hid (Blk.new1 w (Obj.cells #[.int .i64 a, .int .i64 b, .int .i64 m, .int .i64 d, .int .i64 t, v] 51) 51 #[.int .i64 0, .int .i64 0, .int .i64 0, .int .i64 0, .int .i64 0, .slice none 0 0])
  have hbA := bal (bal (Below.refl w.heap.size w) (Obj.cells #[.int .i64 a, .int .i64 b, .int .i64 m, .int .i64 d, .int .i64 t, v] 51)) (Obj.cells #[.int .i64 0, .int .i64 0, .int .i64 0, .int .i64 0, .int .i64 0, .slice none 0 0] 51)
  have Hsz := Lib.hid (show ((w.alloc (Obj.cells #[.int .i64 a, .int .i64 b, .int .i64 m, .int .i64 d, .int .i64 t, v] 51)).alloc (Obj.cells #[.int .i64 0, .int .i64 0, .int .i64 0, .int .i64 0, .int .i64 0, .slice none 0 0] 51)).heap.size = w.heap.size + 2 by rw [World.size_alloc, World.size_alloc])
  go_enter Tryz.func96, Tryz.ntmps96
  go_wp2
  generalize (w.alloc (Obj.cells #[.int .i64 a, .int .i64 b, .int .i64 m, .int .i64 d, .int .i64 t, v] 51)).alloc (Obj.cells #[.int .i64 0, .int .i64 0, .int .i64 0, .int .i64 0, .int .i64 0, .slice none 0 0] 51) = W0 at hbA HR Hb Hsz ⊢
  have hW0 := hbA.size
  have q0 := Hb.out.cell 0
  have q1 := Hb.out.cell 1
  have q2 := Hb.out.cell 2
  have q3 := Hb.out.cell 3
  have q4 := Hb.out.cell 4
  have q5 := Hb.out.cell 5
  have ql := Hb.out.lt
  simp at q0 q1 q2 q3 q4 q5
  have HS : Hid (∀ w', Below (w.heap.size + 1) W0 w' → (w'.cell? ⟨w.heap.size, 0, none⟩ = some (.int .i64 a) ∧ w'.cell? ⟨w.heap.size, 1, none⟩ = some (.int .i64 b) ∧ w'.cell? ⟨w.heap.size, 2, none⟩ = some (.int .i64 m) ∧ w'.cell? ⟨w.heap.size, 3, none⟩ = some (.int .i64 d) ∧ w'.cell? ⟨w.heap.size, 4, none⟩ = some (.int .i64 t) ∧ w'.cell? ⟨w.heap.size, 5, none⟩ = some (v) ∧ Below (w.heap.size + 1) W0 w')) := Lib.hid (fun w' hw => ⟨(hw.cell (p := ⟨w.heap.size, 0, none⟩) (Nat.lt_succ_self _)).trans q0, (hw.cell (p := ⟨w.heap.size, 1, none⟩) (Nat.lt_succ_self _)).trans q1, (hw.cell (p := ⟨w.heap.size, 2, none⟩) (Nat.lt_succ_self _)).trans q2, (hw.cell (p := ⟨w.heap.size, 3, none⟩) (Nat.lt_succ_self _)).trans q3, (hw.cell (p := ⟨w.heap.size, 4, none⟩) (Nat.lt_succ_self _)).trans q4, (hw.cell (p := ⟨w.heap.size, 5, none⟩) (Nat.lt_succ_self _)).trans q5, hw⟩)
  have hrefl := Below.refl (w.heap.size + 1) W0
  have hB1 : w.heap.size + 1 ≤ W0.heap.size := by have := Hsz.out; omega
  have hB2 : w.heap.size ≤ W0.heap.size := by omega
  go_region_held3 (fun w' => w'.cell? ⟨w.heap.size, 0, none⟩ = some (.int .i64 a) ∧ w'.cell? ⟨w.heap.size, 1, none⟩ = some (.int .i64 b) ∧ w'.cell? ⟨w.heap.size, 2, none⟩ = some (.int .i64 m) ∧ w'.cell? ⟨w.heap.size, 3, none⟩ = some (.int .i64 d) ∧ w'.cell? ⟨w.heap.size, 4, none⟩ = some (.int .i64 t) ∧ w'.cell? ⟨w.heap.size, 5, none⟩ = some (v) ∧ Below (w.heap.size + 1) W0 w') (((go_split_ands; refine HS.out _ ?_; repeat (first | (with_reducible assumption) | (with_reducible refine Below.drew ?_) | (with_reducible refine bstB ?_ (by exact Nat.le_refl _) _) | (with_reducible refine bthenB ?_ hB1 (by with_reducible assumption)))))) ((first | (go_at_call 89; refine (skRun_any a b m d t 0 n v _ Ht.out (by omega) Hn.out.2).mono ?_; rintro r w5 ⟨⟨v5, rfl, ho5⟩, hb5⟩; have hR5 := Blk.on (g := w.heap.size + 1) (t := 51) (cs :=  #[.int .i64 0, .int .i64 0, .int .i64 0, .int .i64 0, .int .i64 0, .slice none 0 0]) (by first | (with_reducible exact HR.out) | (with_reducible exact HR.out.drew)) hb5; have r0 := hR5.cell 0; have r1 := hR5.cell 1; have r2 := hR5.cell 2; have r3 := hR5.cell 3; have r4 := hR5.cell 4; have r5 := hR5.cell 5; have rl := hR5.lt; have z0 := hR5.frozen 0; have z1 := hR5.frozen 1; have z2 := hR5.frozen 2; have z3 := hR5.frozen 3; have z4 := hR5.frozen 4; have z5 := hR5.frozen 5; clear hR5; obtain ⟨A5, c5, rfl, -, -, -⟩ := Rd.of_own (S := ptS) ho5 rfl; have Ho5 := Lib.hid ho5; clear ho5)))
  all_goals go_wp2
  all_goals exact bodyPost_ret (v := .agg #[.int .i64 a, .int .i64 b, .int .i64 m, .int .i64 d, .int .i64 n, .slice A5 (hitsZ a b m 0 n).length c5]) (by simp [results, Tryz.results96, go_sem, r0, r1, r2, r3, r4, r5]) rfl ⟨⟨_, rfl, own_mono (own_far (g := w.heap.size + 1) Ho5.out (by repeat (first | (with_reducible exact grefl _ _) | (with_reducible refine only_cell ?_) | (with_reducible refine only_drew ?_))) (by have := Hsz.out; simp; omega)) (by have := Hsz.out; simp; omega)⟩, (by refine Below.trans hbA ?_; go_split_ands; repeat (first | (with_reducible exact Below.refl _ _) | (with_reducible refine Below.drew ?_) | (with_reducible refine bstB ?_ (by exact Nat.le_succ _) _) | (with_reducible refine bthenB ?_ hB2 (by with_reducible assumption))))⟩
end
section
open Go Go.RowKit

def ins {E : Type} (es : List E) (k : Nat) (u : E) : List E := es.take k ++ u :: es.drop k
theorem length_ins {E : Type} (es : List E) (k : Nat) (u : E) : (ins es k u).length = es.length + 1 := by
  unfold ins
  rw [List.length_append, List.length_cons, List.length_take, List.length_drop]
  omega
theorem ins_end {E : Type} (es : List E) (u : E) : ins es es.length u = es ++ [u] := by simp [ins]
section
variable {E : Type} {S : Shape E}
theorem flat_cons (y : E) (ys : List E) : S.flat (y :: ys) = S.cells y ++ S.flat ys := by simp [Shape.flat]
theorem flat_ins (es : List E) (k : Nat) (u : E) : S.flat (ins es k u) = S.flat (es.take k) ++ (S.cells u ++ S.flat (es.drop k)) := by
  unfold ins
  rw [Shape.flat_append, flat_cons]
theorem flat_cut (es : List E) (k : Nat) : S.flat es = S.flat (es.take k) ++ S.flat (es.drop k) := by
  rw [← Shape.flat_append, List.take_append_drop]
end
theorem lay_mid {u D X : List Value} (h : X.length = u.length + D.length) : lay X u.length D = X.take u.length ++ D := by
  have h1 := lay_over D (X.take u.length) (X.drop u.length) [] (by rw [List.length_drop]; omega)
  rw [List.append_nil, List.append_nil, List.take_append_drop, List.length_take, Nat.min_eq_left (by omega)] at h1
  exact h1
theorem lay_shift {A D Z u : List Value} (hz : Z.length = u.length) : lay (lay (A ++ (D ++ Z)) (A.length + u.length) D) A.length u = A ++ (u ++ D) := by
  rw [lay_right D A (D ++ Z) (A.length + u.length) (by omega), show A.length + u.length - A.length = u.length by omega, lay_mid (u := u) (D := D) (X := D ++ Z) (by rw [List.length_append]; omega)]
  exact lay_over u A ((D ++ Z).take u.length) D (by rw [List.length_take, List.length_append]; omega)
theorem lay_shift2 {A D R u : List Value} (h : R.length = u.length + D.length) : lay (lay (A ++ R) A.length u) (A.length + u.length) D = A ++ (u ++ D) := by
  have h1 := lay_over u A (R.take u.length) (R.drop u.length) (by rw [List.length_take]; omega)
  rw [List.take_append_drop] at h1
  rw [h1, lay_right D A (u ++ R.drop u.length) (A.length + u.length) (by omega), show A.length + u.length - A.length = u.length by omega, lay_mid (u := u) (D := D) (X := u ++ R.drop u.length) (by rw [List.length_append, List.length_drop]; omega)]
  rw [List.take_left]

section
variable {P : Program}
theorem run_copy_k (w : World) (dT sT ty elem : TypeId) (b o dLen dCap : Nat) (a : Addr) (sLen sCap size : Nat) (cs : List Value)
    (hu : P.underlying dT = some (.slice elem)) (hs : (P.info? elem).map (·.size) = some size) (hn : cs.length = Nat.min sLen dLen * size)
    (hsrc : ∀ j v, cs[j]? = some v → w.cell? (a.add j) = some v) (hc : ∀ j, j < cs.length → (w.cell? ⟨b, o + j, none⟩).isSome = true) (hf : ∀ j, j < cs.length → w.frozen? ⟨b, o + j, none⟩ = false) (h1 : ∀ v ∈ cs, v.oneCell' = true) :
    (Builtin.copy_ #[dT, sT] ty #[.slice (some ⟨b, o, none⟩) dLen dCap, .slice (some a) sLen sCap]).run P w = .ok (goInt (Nat.min sLen dLen)) (w.setCells b o cs) := by
  have hst := run_storeCells_cells (P := P) b o cs 0 w (by simpa using hc) (by simpa using hf) h1
  have hl := run_firstCells_some (P := P) w size (Nat.min sLen dLen) a sLen sCap cs hn hsrc
  simp only [Nat.add_zero] at hst
  cases hq : P.info? elem with
  | none => simp [hq] at hs
  | some i =>
    have hi : i.size = size := by simpa [hq] using hs
    subst hi
    simp [Builtin.copy_, run_underlying hu, Builtin.lenOf, sizeOf, typeInfo, hq, hl, hst]
variable {w : World} {base : Nat} {e : TypeId} {size g n cap : Nat} {xs : List Value}
/-- A copy into a row of the call's own. -/
theorem run_copy_own {t : TypeId} (hu : P.underlying t = some (.slice e)) (hs : (P.info? e).map (·.size) = some size) (h : w.ownsRow base e size (.slice (some ⟨g, 0, none⟩) n cap) n xs)
    {a : Addr} {cs : List Value} {o dLen sLen : Nat} (hn : cs.length = Nat.min sLen dLen * size) (hfit : o + cs.length ≤ n * size) (hsrc : ∀ j v, cs[j]? = some v → w.cell? (a.add j) = some v) (h1 : ∀ v ∈ cs, v.oneCell' = true) (ty : TypeId) (dCap sCap : Nat) :
    (Builtin.copy_ #[t, t] ty #[.slice (some ⟨g, o, none⟩) dLen dCap, .slice (some a) sLen sCap]).run P w = .ok (goInt (Nat.min sLen dLen)) (w.setCells g o cs) :=
  run_copy_k w t t ty e g o dLen dCap a sLen sCap size cs hu hs hn hsrc
    (fun j hj => by
      have hlt : o + j < xs.length := by rw [h.1]; omega
      rw [h.cellAt (o + j) (by omega), List.getElem?_eq_getElem hlt]; rfl)
    (fun j _ => h.frozenAt _) h1
theorem own_more (h : w.ownsRow base e size (.slice (some ⟨g, 0, none⟩) n cap) n xs) (hc : n + 1 ≤ cap) : ∃ zs, zs.length = size ∧ w.ownsRow base e size (.slice (some ⟨g, 0, none⟩) (n + 1) cap) (n + 1) (xs ++ zs) := by
  rcases h.2 with ⟨h', _⟩ | ⟨g', cap', cur, h', hb, hg, hnc, hcm, hcs, htake⟩
  · simp at h'
  · simp only [Value.slice.injEq, Option.some.injEq, Addr.mk.injEq, and_true, true_and] at h'
    obtain ⟨rfl, rfl⟩ := h'
    have hm : (n + 1) * size ≤ cap * size := Nat.mul_le_mul_right _ hc
    have he : (n + 1) * size = n * size + size := by rw [Nat.add_mul, Nat.one_mul]
    have hsz : (cur.toList.take ((n + 1) * size)).length = (n + 1) * size := by rw [List.length_take, Array.length_toList, hcs]; omega
    refine ⟨(cur.toList.take ((n + 1) * size)).drop (n * size), by rw [List.length_drop, hsz]; omega, ?_, .inr ⟨g, cap, cur, rfl, hb, hg, hc, hcm, hcs, ?_⟩⟩
    · rw [List.length_append, h.1, List.length_drop, hsz]; omega
    · have : xs = (cur.toList.take ((n + 1) * size)).take (n * size) := by rw [List.take_take, Nat.min_eq_left (by omega), htake]
      rw [this, List.take_append_drop]
theorem own_new {cur : Array Value} (hb : base ≤ w.heap.size) (hn : n ≤ cap) (hc : cap ≤ maxLen) (hs : cur.size = cap * size) : (w.alloc (.cells cur e)).ownsRow base e size (.slice (some ⟨w.heap.size, 0, none⟩) n cap) n (cur.toList.take (n * size)) := by
  have hm : n * size ≤ cap * size := Nat.mul_le_mul_right _ hn
  exact ⟨by rw [List.length_take, Array.length_toList, hs]; omega, .inr ⟨w.heap.size, cap, cur, rfl, hb, heap_alloc_new w _, hn, hc, hs, rfl⟩⟩
theorem own_shape (h : w.ownsRow base e size (.slice (some ⟨g, 0, none⟩) n cap) n xs) : w.shape? g = some (e, cap * size) := by
  rcases h.2 with ⟨h', _⟩ | ⟨g', cap', cur, h', hb, hg, hnc, hcm, hcs, htake⟩
  · simp at h'
  · simp only [Value.slice.injEq, Option.some.injEq, Addr.mk.injEq, and_true, true_and] at h'
    obtain ⟨rfl, rfl⟩ := h'
    simp [World.shape?, hg, hcs]
theorem own_caps (h : w.ownsRow base e size (.slice (some ⟨g, 0, none⟩) n cap) n xs) : n ≤ cap ∧ cap ≤ 9223372036854775807 := by
  rcases h.2 with ⟨h', _⟩ | ⟨g', cap', cur, h', hb, hg, hnc, hcm, hcs, htake⟩
  · simp at h'
  · simp only [Value.slice.injEq, Option.some.injEq, Addr.mk.injEq, and_true, true_and] at h'
    obtain ⟨rfl, rfl⟩ := h'
    exact ⟨hnc, by unfold maxLen at hcm; omega⟩
theorem blk_shape {cs : Array Value} {b : Nat} {t : TypeId} (h : Blk w b t cs) : w.shape? b = some (t, cs.size) := by
  unfold Blk at h
  simp [World.shape?, h]
theorem own_add (h : w.ownsRow base e size (.slice (some ⟨g, 0, none⟩) n cap) n xs) {o : Nat} {cs : List Value} (hx : ∀ j, j < cs.length → xs[o + j]? = cs[j]?) (hfit : o + cs.length ≤ n * size) : ∀ j v, cs[j]? = some v → w.cell? ((⟨g, o, none⟩ : Addr).add j) = some v := by
  intro j v hj
  have hl := (List.getElem?_eq_some_iff.1 hj).1
  rw [Addr.add_lit, h.cellAt (o + j) (by omega), hx j hl, hj]
end
end
section
open Go Go.RowKit

section
variable {P : Program}
theorem run_append_src (w : World) (base : Nat) (t ty e : TypeId) (i : TypeInfo) (z : Value) (size bytes : Nat) (ht : P.underlying t = some (.slice e)) (hi : P.info? e = some i) (hz : i.zero = some z)
    (hsize : i.size = size) (hby : i.bytes = bytes) (hzs : z.cells.size = size) (hsz : 0 < size)
    (v : Value) (n : Nat) (xs : List Value) (hown : w.ownsRow base e size v n xs)
    (A : Option Addr) (m c : Nat) (news : List Value) (hl : news.length = m * size) (hA : A = none → m = 0) (hnews : ∀ a, A = some a → ∀ j u, news[j]? = some u → w.cell? (a.add j) = some u) (h1 : ∀ u ∈ news, u.oneCell' = true)
    (h63 : n + m ≤ maxLen) (hbytes : (n + m) * bytes ≤ 140737488355328) (hbase : base ≤ w.heap.size) :
    ∃ v' w', (Builtin.append_ #[t, t] ty #[v, .slice A m c]).run P w = .ok v' w' ∧ w'.ownsRow base e size v' (n + m) (xs ++ news) ∧ w.grownBy w' v.ownBlock ∧ (v'.ownBlock = v.ownBlock ∨ v'.ownBlock = some w.heap.size) := by
  cases A with
  | none =>
    obtain rfl := hA rfl
    obtain rfl : news = [] := List.eq_nil_of_length_eq_zero (by simpa using hl)
    refine ⟨v, w, ?_, by simpa using hown, grefl _ _, .inl rfl⟩
    rcases hown.2 with ⟨rfl, rfl⟩ | ⟨g, cap, cur, rfl, _, _, hnc, _⟩
    · simp [Builtin.append_, run_underlying ht, sizeOf, typeInfo, hi, Builtin.lenOf, Builtin.firstCells]
    · simp [Builtin.append_, run_underlying ht, sizeOf, typeInfo, hi, Builtin.lenOf, Builtin.firstCells, hnc, storeCells]
  | some a =>
    obtain ⟨v', w', h2, h3, h4, -, h5⟩ := run_append_own_at w base t ty e i z size bytes ht hi hz hsize hby hzs hsz v n xs hown a m c news hl (hnews a rfl) h1 h63 hbytes hbase
    exact ⟨v', w', h2, h3, h4, h5⟩
/-- An append at a step of a region that draws its order: the row is the call's own, above all that was there in w0. -/
theorem step_append_src {ops : Array Oper} {o : Oper} {a : Act} {w : World} {K : Act → World → Prop} {Q : Exit → Act → World → Prop} {E : Prop} (hgd : o.guard = none) (s x : Operand) (t : TypeId)
    (ho : o.op = .call { callee := .builtin .append, args := #[s, x], argTypes := #[t, t] })
    (e : TypeId) (i : TypeInfo) (z : Value) (size bytes : Nat) (ht : P.underlying t = some (.slice e)) (hi : P.info? e = some i) (hz : i.zero = some z)
    (hsize : i.size = size) (hby : i.bytes = bytes) (hzs : z.cells.size = size) (hsz : 0 < size) (w0 : World) (hb : Below w0.heap.size w0 w)
    (v : Value) (n : Nat) (xs : List Value) (hs : a.eval s = v) (hown : w.ownsRow w0.heap.size e size v n xs)
    (A : Option Addr) (m c : Nat) (news : List Value) (hx : a.eval x = .slice A m c) (hl : news.length = m * size) (hA : A = none → m = 0) (hnews : ∀ a, A = some a → ∀ j u, news[j]? = some u → w.cell? (a.add j) = some u) (h1 : ∀ u ∈ news, u.oneCell' = true)
    (h63 : n + m ≤ maxLen) (hbytes : (n + m) * bytes ≤ 140737488355328)
    (h : ∀ v' w', w'.ownsRow w0.heap.size e size v' (n + m) (xs ++ news) → Below w0.heap.size w0 w' → (∀ b t cs, Blk w b t cs → v.ownBlock ≠ some b → Blk w' b t cs) → K (a.put o.dst v') w') :
    if Region.wanted o (yielded ops a.tmps) = true then Oper.wp P o a w K Q else E := by
  have hw : Region.wanted o (yielded ops a.tmps) = true := by simp [Region.wanted, hgd]
  rw [if_pos hw]
  obtain ⟨v', w', hr, h2, h3, -⟩ := run_append_src (P := P) w w0.heap.size t o.type e i z size bytes ht hi hz hsize hby hzs hsz v n xs hown A m c news hl hA hnews h1 h63 hbytes hb.size
  unfold Oper.wp execOp
  simp only [ho, resolve, invoke, builtin, Sem.run_bind, Sem.run_pure, Result.andThen_ok, List.map_toArray, List.map_cons, List.map_nil, hs, hx, hr]
  exact h v' w' h2 (Below.grown hb h3 hb.size (fun k hk => (hown.lt k hk).1)) (fun b t cs hB hne => (h3.block b hB.lt (fun e => hne e.symm)).trans hB)
end
theorem src_below {w0 w : World} {A : Option Addr} {news : List Value} (hb : Below w0.heap.size w0 w) (h : ∀ a, A = some a → ∀ j u, news[j]? = some u → w0.cell? (a.add j) = some u) : ∀ a, A = some a → ∀ j u, news[j]? = some u → w.cell? (a.add j) = some u := by
  intro a ha j u hj
  have := h a ha j u hj
  rw [hb.cell (World.block_lt_of_cell? w0 _ this)]
  exact this
theorem own_empty {X w0 : World} {e : TypeId} {size : Nat} (h : w0.heap.size ≤ X.heap.size) : (X.alloc (.cells #[] e)).ownsRow w0.heap.size e size (.slice (some ⟨X.heap.size, 0, none⟩) 0 0) 0 [] :=
  World.ownsRow_lit X #[] 0 h (by unfold maxLen; omega) (by simp)
theorem own_empty1 {X w0 : World} {o : Obj} {e : TypeId} {size : Nat} (h : w0.heap.size ≤ X.heap.size) : ((X.alloc o).alloc (.cells #[] e)).ownsRow w0.heap.size e size (.slice (some ⟨X.heap.size + 1, 0, none⟩) 0 0) 0 [] := by
  have := own_empty (X := X.alloc o) (w0 := w0) (e := e) (size := size) (by simp; omega)
  rw [World.size_alloc] at this
  exact this
theorem lit_src {w : World} {b : Nat} {news : List Value} (h : ∀ j u, news[j]? = some u → w.cell? ((⟨b, 0, none⟩ : Addr).add j) = some u) : ∀ a, some (⟨b, 0, none⟩ : Addr) = some a → ∀ j u, news[j]? = some u → w.cell? (a.add j) = some u := by
  intro a ha
  cases ha
  exact h
theorem ob_ne {v : Value} {x n c b : Nat} (hv : v = .slice (some ⟨x, 0, none⟩) n c) (h : x ≠ b) : v.ownBlock ≠ some b := by
  subst hv
  simpa [Value.ownBlock] using h
end
section
open Go Go.RowKit

section
variable {w : World} {g : Nat} {t : TypeId}
theorem Blk.set6 {a0 a1 a2 a3 a4 a5 b0 b1 b2 b3 b4 b5 : Value} (h : Blk w g t #[a0, a1, a2, a3, a4, a5]) : Blk ((((((w.setCell ⟨g, 0, none⟩ b0).setCell ⟨g, 1, none⟩ b1).setCell ⟨g, 2, none⟩ b2).setCell ⟨g, 3, none⟩ b3).setCell ⟨g, 4, none⟩ b4).setCell ⟨g, 5, none⟩ b5) g t #[b0, b1, b2, b3, b4, b5] := by
  have q := ((((((h.set 0 b0).set 1 b1).set 2 b2).set 3 b3).set 4 b4).set 5 b5)
  simp only [List.setIfInBounds_toArray, List.set_cons_zero, List.set_cons_succ] at q
  exact q
end
end
section
open Go Go.RowKit

section
variable {P : Program} {ops : Array Oper} {Q : Exit → Act → World → Prop} {md : Region.Mode} {S : World → Prop} {z : Nat}

/-- Whatever comes up next; S holds behind it, unless it is number z. -/
def wpAnyT (P : Program) (md : Region.Mode) (ops : Array Oper) (Q : Exit → Act → World → Prop) (S : World → Prop) (z : Nat) : Nat → Array Bool → Act → World → Prop
  | 0, done, a, w => Region.ready md ops done = [] ∧ Q .normal a w
  | n + 1, done, a, w => (Region.ready md ops done = [] → Q .normal a w) ∧
    ∀ j ∈ Region.ready md ops done, wpOp P ops Q j (fun a' w' => (j ≠ z → S w') ∧ wpAnyT P md ops Q S z n (done.setIfInBounds j true) a' w') a w

theorem wpAnyT.plain : ∀ (n : Nat) (done : Array Bool) (a : Act) (w : World), wpAnyT P md ops Q S z n done a w → wpAny P md ops Q n done a w
  | 0, _, _, _, h => h
  | n + 1, _, _, _, h => ⟨h.1, fun j hj => wpOp_mono (fun a' w' h' => wpAnyT.plain n _ a' w' h'.2) (h.2 j hj)⟩

theorem wpAnyT_first {i : Nat} {oi : Oper} {v : Value} (hi : ops[i]? = some oi) (hsel : ∀ (j : Nat) (o : Oper) cs b, ops[j]? = some o → o.op ≠ .select cs b)
    (hQ : ∀ c a w, Q (.panic c) (a.put oi.dst v) w → Q (.panic c) a w) (hz : Region.waitsFor md ops z i = true) :
    ∀ (n : Nat) (done : Array Bool) (a : Act) (w : World),
      (∀ j oj, ops[j]? = some oj → j ≠ i → done.getD j true = false → (∀ e ∈ oj.after, Region.binds md e = true → e.on ≠ i) → oi.apart ops oj = true) →
      i ∈ Region.ready md ops done → YieldsIf P ops S oi v a → S w →
      wpAnyT P md ops Q S z n (done.setIfInBounds i true) (a.put oi.dst v) w → wpAnyT P md ops Q S z (n + 1) done a w := by
  intro n
  induction n with
  | zero =>
    intro done a w _ hr hy hS H
    refine ⟨fun h => (by rw [h] at hr; cases hr), fun j hj => ?_⟩
    by_cases hji : j = i
    · subst hji; exact hy.wpOp hi hS ⟨fun _ => hS, H⟩
    · exact absurd (H.1 ▸ ready_mono hj hji) (by simp)
  | succ n ih =>
    intro done a w hfree hr hy hS H
    refine ⟨fun h => (by rw [h] at hr; cases hr), fun j hj => ?_⟩
    by_cases hji : j = i
    · subst hji; exact hy.wpOp hi hS ⟨fun _ => hS, H⟩
    · obtain ⟨hjun, oj, hoj, hall⟩ := mem_ready.1 hj
      have hnot : ∀ e ∈ oj.after, Region.binds md e = true → e.on ≠ i := fun e he hb heq => by
        have h1 := hall e he hb
        have h0 := (mem_ready.1 hr).1
        rw [heq, getD_both h0] at h1
        cases h1
      have hjz : j ≠ z := fun e => by
        obtain ⟨o9, ho9, e9, he9, hb9, hon⟩ := Region.waitsFor_spec hz
        rw [← e, hoj] at ho9
        injection ho9 with ho9
        exact hnot e9 (ho9 ▸ he9) hb9 hon
      refine wpOp_mono (fun a' w' h3 => ?_) (wpOp_putIf hoj (hfree j oj hoj hji hjun hnot) (fun cs b => hsel i oi cs b hi) (fun cs b => hsel j oj cs b hoj) hQ hy (H.2 j (ready_mono hj hji)))
      obtain ⟨hy', hS', hT⟩ := h3
      rw [Array.setIfInBounds_comm _ _ (Ne.symm hji)] at hT
      refine ⟨fun _ => hS' hjz, ih _ a' w' (fun k ok hk hki hun hno => ?_) (ready_mono hr (Ne.symm hji)) hy' (hS' hjz) hT⟩
      refine hfree k ok hk hki ?_ hno
      by_cases hjk : j = k
      · subst hjk; exact hjun
      · rwa [getD_set_ne true hjk] at hun

/-- Take number i first. -/
theorem wpAnyT_take {i : Nat} {oi : Oper} {v : Value} {fuel : Nat} {done : Array Bool} {a : Act} {w : World} (hi : ops[i]? = some oi)
    (hs : Region.noSelect ops = true) (hf : Region.free md ops done i = true) (hr : (Region.ready md ops done).contains i = true) (hz : Region.waitsFor md ops z i = true)
    (hQ : ∀ c a w, Q (.panic c) (a.put oi.dst v) w → Q (.panic c) a w) (hy : YieldsIf P ops S oi v a) (hS : S w)
    (h : wpAnyT P md ops Q S z fuel (done.setIfInBounds i true) (a.put oi.dst v) w) : wpAnyT P md ops Q S z (fuel + 1) done a w :=
  wpAnyT_first hi (Region.noSelect_spec hs) hQ hz fuel done a w (Region.free_spec hi hf) (by simpa using hr) hy hS h
/-- Number i alone may come up. -/
theorem wpAnyT_one {i : Nat} {o : Oper} {fuel : Nat} {done : Array Bool} {a : Act} {w : World} (hr : Region.ready md ops done = [i]) (ho : ops[i]? = some o)
    (h : ∀ K' : Act → World → Prop, Shut (∀ a w, (i ≠ z → S w) → wpAnyT P md ops Q S z fuel (done.setIfInBounds i true) a w → K' a w) → if Region.wanted o (yielded ops a.tmps) = true then Oper.wp P o a w K' Q else K' (a.put o.dst undef) w) :
    wpAnyT P md ops Q S z (fuel + 1) done a w :=
  ⟨fun h0 => (by rw [h0] at hr; cases hr), fun j hj => by
    have hji : j = i := by rw [hr] at hj; simpa using hj
    subst hji
    exact wpOp_step ho (fun K' hK => h K' (fun a w hS hT => hK a w ⟨hS, hT⟩))⟩
/-- All have come up. -/
theorem wpAnyT_done {done : Array Bool} {a : Act} {w : World} (hr : Region.ready md ops done = []) (h : Q .normal a w) : ∀ fuel, wpAnyT P md ops Q S z fuel done a w
  | 0 => ⟨hr, h⟩
  | _ + 1 => ⟨fun _ => h, by rw [hr]; simp⟩
/-- The beginning. -/
theorem wp_region_heldT {id : Nat} {a : Act} {w : World} (hm : P.follows .mixedOrders = true) (hS : S w.drew)
    (h : S w.drew → wpAnyT P .any ops Q S z ops.size (Array.replicate ops.size false) a w.drew) : (Code.region id ops true).wp P Q a w :=
  wp_region_any hm (wpAnyT.plain _ _ _ _ (h hS))
end
end
end Go.Proofs.YtnhgdmhiblpknaaGreatDoor
