/- The bounds of a curve in a list of records: boundsIn of the program, jrBounds of the reference. Conditions: none. -/
import Derived.Test.YtimfoodbolokdaaGreatDoorSRecord
namespace Go.Proofs.YtimfoodbolokdaaGreatDoor
open Go Go.RowKit

/-- The records of a curve; the bounds of the first k records. -/
def bstep (a b : Int) (o : Int × Int × Bool) (r : Rc) : Int × Int × Bool := if r.a = a ∧ r.b = b then (max o.1 r.lo, min o.2.1 r.hi, true) else o
def bfold (a b : Int) (rs : List Rc) : Int × Int × Bool := rs.foldl (bstep a b) (0, 20, false)
/-- What both hand back. -/
def bndV (a b : Int) (rs : List Rc) : Int × Int × Bool := if (bfold a b rs).2.2 = true ∧ (bfold a b rs).1 ≤ (bfold a b rs).2.1 then ((bfold a b rs).1, (bfold a b rs).2.1, true) else (0, 0, false)
theorem rc_take {es : List Rc} {k : Nat} (h : k < es.length) : es.take (k + 1) = es.take k ++ [rcS.get es k] := by
  rw [List.take_succ_eq_append_getElem h]
  congr 2
  unfold Shape.get
  rw [List.getD_eq_getElem?_getD, List.getElem?_eq_getElem h]
  rfl
theorem bfold_succ {a b : Int} {es : List Rc} {k : Nat} (h : k < es.length) : bfold a b (es.take (k + 1)) = bstep a b (bfold a b (es.take k)) (rcS.get es k) := by
  unfold bfold
  rw [rc_take h, List.foldl_append]
  rfl
theorem bfold_yes {a b : Int} {es : List Rc} {k : Nat} {l h : Int} {f : Bool} (hk : k < es.length) (hb : bfold a b (es.take k) = (l, h, f)) (he : (rcS.get es k).a = a ∧ (rcS.get es k).b = b) : bfold a b (es.take (k + 1)) = (max l (rcS.get es k).lo, min h (rcS.get es k).hi, true) := by
  rw [bfold_succ hk, hb]
  unfold bstep
  rw [if_pos he]
theorem bfold_no {a b : Int} {es : List Rc} {k : Nat} {l h : Int} {f : Bool} (hk : k < es.length) (hb : bfold a b (es.take k) = (l, h, f)) (he : ¬ ((rcS.get es k).a = a ∧ (rcS.get es k).b = b)) : bfold a b (es.take (k + 1)) = (l, h, f) := by
  rw [bfold_succ hk, hb]
  unfold bstep
  rw [if_neg he]
theorem bndV_mk {a b : Int} {es : List Rc} {l h : Int} {f : Bool} (hb : bfold a b es = (l, h, f)) : bndV a b es = if f = true ∧ l ≤ h then (l, h, true) else (0, 0, false) := by unfold bndV; rw [hb]
set_option maxHeartbeats 400000 in
theorem l1MostM_any (x y : Int) (w : World) : Calls Tryz.prog 201 #[.int .i64 x, .int .i64 y] w fun e w' => e = .returned (.int .i64 (max x y)) ∧ w = w' := by
  go_enter Tryz.func201, Tryz.ntmps201
  go_wp2
  all_goals go_ret
  all_goals exact ⟨ret_int (by omega), rfl⟩
set_option maxHeartbeats 400000 in
theorem l1LeastM_any (x y : Int) (w : World) : Calls Tryz.prog 202 #[.int .i64 x, .int .i64 y] w fun e w' => e = .returned (.int .i64 (min x y)) ∧ w = w' := by
  go_enter Tryz.func202, Tryz.ntmps202
  go_wp2
  all_goals go_ret
  all_goals exact ⟨ret_int (by omega), rfl⟩
set_option linter.unusedSimpArgs false in
set_option maxRecDepth 8000 in
set_option maxHeartbeats 4000000 in
theorem boundsIn_any (v : Value) (es : List Rc) (a b : Int) (w : World) (hr : Rd rcS w w.heap.size v es) : Calls Tryz.prog 152 #[v, .agg #[.int .i64 a, .int .i64 b]] w fun e w' => e = .returned (.tuple #[.int .i64 (bndV a b es).1, .int .i64 (bndV a b es).2.1, .bool (bndV a b es).2.2]) ∧ Below w.heap.size w w' := by
  obtain ⟨A, c, rfl, hc, hm, hA⟩ := hr
  unfold maxLen at hm
  rcases Nat.eq_zero_or_pos es.length with h0 | h0
  · obtain rfl : es = [] := List.eq_nil_of_length_eq_zero h0
    have Hv := Lib.hid (show bndV a b [] = (0, 0, false) from rfl)
    clear hA h0
    go_enter Tryz.func152, Tryz.ntmps152
    go_wp2
    refine wp_loop_rounds 1 ?_
    rw [rounds_succ]
    go_wp2
    exact bodyPost_ret (v := .tuple #[.int .i64 0, .int .i64 0, .bool false]) (by simp [results, Tryz.results152, go_sem]) rfl ⟨by rw [Hv.out] <;> rfl, bal (Below.refl _ _) _⟩
  · obtain ⟨g, off, rfl, hg, hcell⟩ := hA h0
    clear hA h0
    have Hcell := Lib.hid (rc_cells hcell); clear hcell
    have HX := Lib.hid (Blk.new w 25 #[.int .i64 a, .int .i64 b])
    have HbA := Lib.hid (bal (Below.refl w.heap.size w) (Obj.cells #[.int .i64 a, .int .i64 b] 25))
    go_enter Tryz.func152, Tryz.ntmps152
    go_wp2
    go_loopw [14, 7, 8, 9] (fun i lo hi fo wr => ∃ (k : Nat) (l h : Int) (f : Bool), k ≤ es.length ∧ i = .int .i64 k ∧ lo = .int .i64 l ∧ hi = .int .i64 h ∧ fo = .bool f ∧ Hid (bfold a b (es.take k) = (l, h, f)) ∧ Below (w.heap.size + 1) (w.alloc (Obj.cells #[.int .i64 a, .int .i64 b] 25)) wr) (fun i _ _ _ _ => es.length - (intOf i).toNat)
    case atStart => exact ⟨0, 0, 20, false, Nat.zero_le _, rfl, rfl, rfl, rfl, Lib.hid rfl, Below.refl _ _⟩
    case round =>
      obtain ⟨k, l, h, f, hk, rfl, rfl, rfl, rfl, Hb, hb⟩ := hrel
      have hb' : Below (w.alloc (Obj.cells #[.int .i64 a, .int .i64 b] 25)).heap.size (w.alloc (Obj.cells #[.int .i64 a, .int .i64 b] 25)) wr := by rw [World.size_alloc]; exact hb
      have HX1 := Lib.hid (HX.out.on hb')
      have hbw := bthen HbA.out hb'
      by_cases hlt : k < es.length
      · obtain ⟨f0, f1, f2, f3⟩ := Hcell.out k hlt
        rw [← hbw.cell (p := ⟨_, _, _⟩) hg] at f0 f1 f2 f3
        have Hyes := Lib.hid (fun he => bfold_yes hlt Hb.out he)
        have Hno := Lib.hid (fun he => bfold_no hlt Hb.out he)
        generalize rcS.get es k = x at f0 f1 f2 f3 Hyes Hno
        have hgr : g < wr.heap.size := Nat.lt_of_lt_of_le hg hbw.size
        have hi0 : (0 : Int) ≤ (k : Int) := by omega
        have hi1 : (k : Int) < (es.length : Int) := by omega
        have c0 := HX1.out.cell 0
        have c1 := HX1.out.cell 1
        have cl := HX1.out.lt
        simp at c0 c1
        by_cases he : x.a = a ∧ x.b = b
        · have Hn := Lib.hid (Hyes.out he)
          obtain ⟨e1, e2⟩ := he
          have nb := Blk.new wr 78 #[.int .i64 a, .int .i64 b, .int .i64 x.lo, .int .i64 x.hi]
          have hbt : Below (w.heap.size + 1) (w.alloc (Obj.cells #[.int .i64 a, .int .i64 b] 25)) (wr.alloc (Obj.cells #[.int .i64 a, .int .i64 b, .int .i64 x.lo, .int .i64 x.hi] 78)) := hb.alloc (by have := hb'.size; rw [World.size_alloc] at this; exact this) _
          go_wp2
          generalize wr.alloc (Obj.cells #[.int .i64 a, .int .i64 b, .int .i64 x.lo, .int .i64 x.hi] 78) = wt at nb hbt ⊢
          have HS : Hid (∀ w', Below wt.heap.size wt w' → (w'.cell? ⟨wr.heap.size, 2, none⟩ = some (.int .i64 x.lo) ∧ w'.cell? ⟨wr.heap.size, 3, none⟩ = some (.int .i64 x.hi) ∧ Below wt.heap.size wt w')) := Lib.hid (fun w' hw => ⟨(hw.cell (p := ⟨wr.heap.size, 2, none⟩) nb.lt).trans (nb.cell 2), (hw.cell (p := ⟨wr.heap.size, 3, none⟩) nb.lt).trans (nb.cell 3), hw⟩)
          have hb0 := Below.refl wt.heap.size wt
          clear nb
          go_region_held3 (fun w' => w'.cell? ⟨wr.heap.size, 2, none⟩ = some (.int .i64 x.lo) ∧ w'.cell? ⟨wr.heap.size, 3, none⟩ = some (.int .i64 x.hi) ∧ Below wt.heap.size wt w') (((go_split_ands; refine HS.out _ ?_; repeat (first | (with_reducible assumption) | (with_reducible exact Below.refl _ _) | (with_reducible refine Below.drew ?_))))) (fail)
          all_goals
            go_wp2
            go_roundw
            case rel => exact ⟨k + 1, max l x.lo, min h x.hi, true, by omega, by go_num, by first | rfl | (congr 1; omega), by first | rfl | (congr 1; omega), rfl, Hn, hbt.drew⟩
            case measure => simp [intOf]; omega
        · have Hn := Lib.hid (Hno.out he)
          have hcase : ¬ x.a = a ∨ (x.a = a ∧ ¬ x.b = b) := by
            by_cases e1 : x.a = a
            · exact Or.inr ⟨e1, fun e2 => he ⟨e1, e2⟩⟩
            · exact Or.inl e1
          clear he
          rcases hcase with e1 | ⟨e1, e2⟩ <;> (
            go_wp2
            go_roundw
            case rel => exact ⟨k + 1, l, h, f, by omega, by go_num, rfl, rfl, rfl, Hn, hb.alloc (by have := hb'.size; rw [World.size_alloc] at this; exact this) _⟩
            case measure => simp [intOf]; omega)
      · obtain rfl : k = es.length := by omega
        rw [List.take_length] at Hb
        clear hb hb'
        by_cases hf : f = true ∧ l ≤ h
        · obtain ⟨rfl, hle⟩ := hf
          have Hv := Lib.hid (show bndV a b es = (l, h, true) by rw [bndV_mk Hb.out, if_pos ⟨rfl, hle⟩])
          go_wp2
          exact bodyPost_ret (v := .tuple #[.int .i64 l, .int .i64 h, .bool true]) (by simp [results, Tryz.results152, go_sem]) rfl ⟨by rw [Hv.out] <;> rfl, hbw⟩
        · have Hv := Lib.hid (show bndV a b es = (0, 0, false) by rw [bndV_mk Hb.out, if_neg hf])
          cases f
          · go_wp2
            exact bodyPost_ret (v := .tuple #[.int .i64 0, .int .i64 0, .bool false]) (by simp [results, Tryz.results152, go_sem]) rfl ⟨by rw [Hv.out] <;> rfl, hbw⟩
          · have hle : ¬ l ≤ h := fun hh => hf ⟨rfl, hh⟩
            go_wp2
            exact bodyPost_ret (v := .tuple #[.int .i64 0, .int .i64 0, .bool false]) (by simp [results, Tryz.results152, go_sem]) rfl ⟨by rw [Hv.out] <;> rfl, hbw⟩
set_option linter.unusedSimpArgs false in
set_option maxRecDepth 8000 in
set_option maxHeartbeats 4000000 in
theorem jrBounds_any (v : Value) (es : List Rc) (a b : Int) (w : World) (hr : Rd rcS w w.heap.size v es) : Calls Tryz.prog 153 #[v, .agg #[.int .i64 a, .int .i64 b]] w fun e w' => e = .returned (.tuple #[.int .i64 (bndV a b es).1, .int .i64 (bndV a b es).2.1, .bool (bndV a b es).2.2]) ∧ Below w.heap.size w w' := by
  obtain ⟨A, c, rfl, hc, hm, hA⟩ := hr
  unfold maxLen at hm
  rcases Nat.eq_zero_or_pos es.length with h0 | h0
  · obtain rfl : es = [] := List.eq_nil_of_length_eq_zero h0
    have Hv := Lib.hid (show bndV a b [] = (0, 0, false) from rfl)
    clear hA h0
    go_enter Tryz.func153, Tryz.ntmps153
    go_wp2
    refine wp_loop_rounds 1 ?_
    rw [rounds_succ]
    go_wp2
    exact bodyPost_ret (v := .tuple #[.int .i64 0, .int .i64 0, .bool false]) (by simp [results, Tryz.results153, go_sem]) rfl ⟨by rw [Hv.out] <;> rfl, bal (Below.refl _ _) _⟩
  · obtain ⟨g, off, rfl, hg, hcell⟩ := hA h0
    clear hA h0
    have Hcell := Lib.hid (rc_cells hcell); clear hcell
    have HX := Lib.hid (Blk.new w 25 #[.int .i64 a, .int .i64 b])
    have HbA := Lib.hid (bal (Below.refl w.heap.size w) (Obj.cells #[.int .i64 a, .int .i64 b] 25))
    go_enter Tryz.func153, Tryz.ntmps153
    go_wp2
    go_loopw [14, 7, 8, 9] (fun i lo hi fo wr => ∃ (k : Nat) (l h : Int) (f : Bool), k ≤ es.length ∧ i = .int .i64 k ∧ lo = .int .i64 l ∧ hi = .int .i64 h ∧ fo = .bool f ∧ Hid (bfold a b (es.take k) = (l, h, f)) ∧ Below (w.heap.size + 1) (w.alloc (Obj.cells #[.int .i64 a, .int .i64 b] 25)) wr) (fun i _ _ _ _ => es.length - (intOf i).toNat)
    case atStart => exact ⟨0, 0, 20, false, Nat.zero_le _, rfl, rfl, rfl, rfl, Lib.hid rfl, Below.refl _ _⟩
    case round =>
      obtain ⟨k, l, h, f, hk, rfl, rfl, rfl, rfl, Hb, hb⟩ := hrel
      have hb' : Below (w.alloc (Obj.cells #[.int .i64 a, .int .i64 b] 25)).heap.size (w.alloc (Obj.cells #[.int .i64 a, .int .i64 b] 25)) wr := by rw [World.size_alloc]; exact hb
      have HX1 := Lib.hid (HX.out.on hb')
      have hbw := bthen HbA.out hb'
      by_cases hlt : k < es.length
      · obtain ⟨f0, f1, f2, f3⟩ := Hcell.out k hlt
        rw [← hbw.cell (p := ⟨_, _, _⟩) hg] at f0 f1 f2 f3
        have Hyes := Lib.hid (fun he => bfold_yes hlt Hb.out he)
        have Hno := Lib.hid (fun he => bfold_no hlt Hb.out he)
        generalize rcS.get es k = x at f0 f1 f2 f3 Hyes Hno
        have hgr : g < wr.heap.size := Nat.lt_of_lt_of_le hg hbw.size
        have hi0 : (0 : Int) ≤ (k : Int) := by omega
        have hi1 : (k : Int) < (es.length : Int) := by omega
        have c0 := HX1.out.cell 0
        have c1 := HX1.out.cell 1
        have cl := HX1.out.lt
        simp at c0 c1
        by_cases he : x.a = a ∧ x.b = b
        · have Hn := Lib.hid (Hyes.out he)
          obtain ⟨e1, e2⟩ := he
          go_wp2_with fail
          refine (l1MostM_any _ _ _).mono ?_; rintro e w3 ⟨rfl, rfl⟩
          go_wp2_with fail
          refine (l1LeastM_any _ _ _).mono ?_; rintro e w3 ⟨rfl, rfl⟩
          go_wp2
          go_roundw
          case rel => exact ⟨k + 1, max l x.lo, min h x.hi, true, by omega, by go_num, rfl, rfl, rfl, Hn, hb.alloc (by have := hb'.size; rw [World.size_alloc] at this; exact this) _⟩
          case measure => simp [intOf]; omega
        · have Hn := Lib.hid (Hno.out he)
          have hcase : ¬ x.a = a ∨ (x.a = a ∧ ¬ x.b = b) := by
            by_cases e1 : x.a = a
            · exact Or.inr ⟨e1, fun e2 => he ⟨e1, e2⟩⟩
            · exact Or.inl e1
          clear he
          rcases hcase with e1 | ⟨e1, e2⟩ <;> (
            go_wp2
            go_roundw
            case rel => exact ⟨k + 1, l, h, f, by omega, by go_num, rfl, rfl, rfl, Hn, hb.alloc (by have := hb'.size; rw [World.size_alloc] at this; exact this) _⟩
            case measure => simp [intOf]; omega)
      · obtain rfl : k = es.length := by omega
        rw [List.take_length] at Hb
        clear hb hb'
        by_cases hf : f = true ∧ l ≤ h
        · obtain ⟨rfl, hle⟩ := hf
          have Hv := Lib.hid (show bndV a b es = (l, h, true) by rw [bndV_mk Hb.out, if_pos ⟨rfl, hle⟩])
          go_wp2
          exact bodyPost_ret (v := .tuple #[.int .i64 l, .int .i64 h, .bool true]) (by simp [results, Tryz.results153, go_sem]) rfl ⟨by rw [Hv.out] <;> rfl, hbw⟩
        · have Hv := Lib.hid (show bndV a b es = (0, 0, false) by rw [bndV_mk Hb.out, if_neg hf])
          cases f
          · go_wp2
            exact bodyPost_ret (v := .tuple #[.int .i64 0, .int .i64 0, .bool false]) (by simp [results, Tryz.results153, go_sem]) rfl ⟨by rw [Hv.out] <;> rfl, hbw⟩
          · have hle : ¬ l ≤ h := fun hh => hf ⟨rfl, hh⟩
            go_wp2
            exact bodyPost_ret (v := .tuple #[.int .i64 0, .int .i64 0, .bool false]) (by simp [results, Tryz.results153, go_sem]) rfl ⟨by rw [Hv.out] <;> rfl, hbw⟩
end Go.Proofs.YtimfoodbolokdaaGreatDoor
