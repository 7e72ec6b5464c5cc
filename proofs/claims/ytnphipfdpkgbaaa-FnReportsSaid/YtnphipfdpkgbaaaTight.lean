/- An entry put into a catalogue: the reference's caTighten. Conditions: none. -/
import Derived.Test.YtnphipfdpkgbaaaTightL
import Derived.Test.YtnphipfdpkgbaaaCloneE
import Derived.Test.YtnphipfdpkgbaaaApp
import Derived.Deep.DeepCutAuto
namespace Go.Proofs.Ytnphipfdpkgbaaa
open Go Go.RowKit

theorem en_src {w : World} {hi c : Nat} {A : Option Addr} {es : List En} (h : Rd enS w hi (.slice A es.length c) es) (k : Nat) :
    ∀ a, A = some a → ∀ j u, (enS.flat (es.take k))[j]? = some u → w.cell? (a.add j) = some u := by
  intro a ha j u hj
  subst ha
  refine en_flat_cells h j u ?_
  rw [flat_cut es k, List.getElem?_append_left (List.getElem?_eq_some_iff.1 hj).1]
  exact hj
theorem en_src2 {w : World} {hi c g off : Nat} {es : List En} (h : Rd enS w hi (.slice (some ⟨g, off, none⟩) es.length c) es) (k : Nat) (hk : k ≤ es.length) :
    ∀ a, some (⟨g, off + k * 5, none⟩ : Addr) = some a → ∀ j u, (enS.flat (es.drop k))[j]? = some u → w.cell? (a.add j) = some u := by
  intro a ha j u hj
  cases ha
  have := en_flat_cells h (k * 5 + j) u (by
    have hl : (enS.flat (es.take k)).length = k * 5 := by rw [Shape.length_flat, List.length_take, Nat.min_eq_left hk]; rfl
    rw [flat_cut es k, List.getElem?_append_right (by omega), hl, show k * 5 + j - k * 5 = j by omega]
    exact hj)
  rw [Addr.add_lit] at this ⊢
  rw [Nat.add_assoc]
  exact this
theorem en_src0 {w : World} {A : Option Addr} (a : Addr) : A = some a → ∀ j u, (enS.flat ([] : List En))[j]? = some u → w.cell? (a.add j) = some u := by
  intro _ j u hj
  simp [Shape.flat] at hj
theorem putE_end {w : World} {B : Nat} {v : Value} {es D : List En} {k d : Nat} {y : En} (hk : k ≤ es.length) (hd : D.length = d) (h : w.ownsRow B 36 5 v (0 + k + 1 + d) ([] ++ enS.flat (es.take k) ++ enS.flat [y] ++ enS.flat D)) :
    w.ownsRow B 36 5 v (es.take k ++ y :: D).length (enS.flat (es.take k ++ y :: D)) := by
  have e1 : (es.take k ++ y :: D).length = 0 + k + 1 + d := by rw [List.length_append, List.length_cons, List.length_take, hd]; omega
  have e2 : enS.flat (es.take k ++ y :: D) = [] ++ enS.flat (es.take k) ++ enS.flat [y] ++ enS.flat D := by
    rw [Shape.flat_append, flat_cons, show enS.flat [y] = enS.cells y by simp [Shape.flat]]
    simp
  rw [e1, e2]; exact h

set_option maxRecDepth 8000 in
set_option maxHeartbeats 8000000 in
theorem caTighten_new (v : Value) (es : List En) (y : En) (w : World) (h : Rd enS w w.heap.size v es) (hlen : es.length ≤ 1000) (hval : okCat es) (hy : entE y = true) (hnat : atB es (placeN es y.a y.b) y.a y.b = false) :
    Calls Try.prog 61 #[v, .agg #[.int .i64 y.a, .int .i64 y.b, .int .i64 y.lo, .int .i64 y.hi, .int .i64 y.to]] w fun r w' =>
      (∃ (v' : Value) (z : List En) (b : Bool), r = .returned (.tuple #[v', .bool b]) ∧ tightO es y = (if b then some z else none) ∧ (b = false → z = []) ∧ w'.ownsRow w.heap.size 36 5 v' z.length (enS.flat z)) ∧ Below w.heap.size w w' := by
  obtain ⟨i0, hi, hz0, hz1, hz2⟩ := info_parts infoEn2
  have Hr := Lib.hid h
  have Hnat := Lib.hid hnat; clear hnat
  obtain ⟨A, c, rfl, hcc, hm, hA⟩ := h
  unfold maxLen at hm
  have hbA : Below w.heap.size w (w.alloc _) := bal (Below.refl _ _) (Obj.cells #[.int .i64 y.a, .int .i64 y.b, .int .i64 y.lo, .int .i64 y.hi, .int .i64 y.to] 36)
  have hbox : Blk _ w.heap.size 36 #[.int .i64 y.a, .int .i64 y.b, .int .i64 y.lo, .int .i64 y.hi, .int .i64 y.to] := Blk.new w _ _
  have Hval := Lib.hid hval; clear hval
  have Hcu := Lib.hid (entB_curve hy)
  have hyto := (entB_bd hy).2.2.2.1
  have Hto := Lib.hid hyto; clear hyto hy
  have Ht := Lib.hid (show tightO es y = if atB es (placeN es y.a y.b) y.a y.b then if okMeet (enS.get es (placeN es y.a y.b)) y then some (swapE es (placeN es y.a y.b) (meetE (enS.get es (placeN es y.a y.b)) y)) else none else some (ins es (placeN es y.a y.b) y) from rfl)
  have hk := (placeN_spec es y).1

  rcases Nat.eq_zero_or_pos es.length with h0 | h0
  · obtain rfl : es = [] := List.eq_nil_of_length_eq_zero h0
    clear hA hm hcc hk h0
    have hpl : placeN ([] : List En) y.a y.b = 0 := rfl
    have hat : atB ([] : List En) 0 y.a y.b = false := rfl
    have Hpl := Lib.hid hpl; clear hpl
    have Hat := Lib.hid hat; clear hat
    by_cases hc : c = 0
    · subst hc
      cases A with
      | none =>
        go_enter Try.func61, Try.ntmps61
        go_wp2_with fail
        refine (caPlace_any _ ([] : List En) y.a y.b _ (Hr.out.on hbA) Hval.out Hcu.out).mono ?_; rintro e w1 ⟨rfl, hb1⟩
        rw [Hpl.out]
        have hb1' := bthen hbA hb1
        have hbox1 := hbox.on hb1
        have q0 := hbox1.cell 0
        have q1 := hbox1.cell 1
        have q2 := hbox1.cell 2
        have q3 := hbox1.cell 3
        have q4 := hbox1.cell 4
        have ql := hbox1.lt
        go_wp2_with fail
        refine (caAt_any _ ([] : List En) 0 y.a y.b _ (Hr.out.on hb1')).mono ?_; rintro e w2 ⟨rfl, hb2⟩
        have hbt := bthen hb1' hb2
        have hblkt := hbox1.on hb2
        clear q0 q1 q2 q3 q4 ql hbox1 hb1 hb2 hb1' hbA hbox
        rw [Hat.out]
        go_wp2
        generalize w2 = wt at hbt hblkt ⊢
        have r0 := hblkt.cell 0
        have r1 := hblkt.cell 1
        have r2 := hblkt.cell 2
        have r3 := hblkt.cell 3
        have r4 := hblkt.cell 4
        have rl := hblkt.lt
        have HS : Hid (∀ w', Below wt.heap.size wt w' → (w'.cell? ⟨w.heap.size, 0, none⟩ = some (.int .i64 y.a) ∧ w'.cell? ⟨w.heap.size, 1, none⟩ = some (.int .i64 y.b) ∧ w'.cell? ⟨w.heap.size, 2, none⟩ = some (.int .i64 y.lo) ∧ w'.cell? ⟨w.heap.size, 3, none⟩ = some (.int .i64 y.hi) ∧ w'.cell? ⟨w.heap.size, 4, none⟩ = some (.int .i64 y.to) ∧ Below wt.heap.size wt w')) := Lib.hid (fun w' hw => ⟨(hw.cell (p := ⟨w.heap.size, 0, none⟩) rl).trans r0, (hw.cell (p := ⟨w.heap.size, 1, none⟩) rl).trans r1, (hw.cell (p := ⟨w.heap.size, 2, none⟩) rl).trans r2, (hw.cell (p := ⟨w.heap.size, 3, none⟩) rl).trans r3, (hw.cell (p := ⟨w.heap.size, 4, none⟩) rl).trans r4, hw⟩)
        have Hl1 : Hid ((enS.flat (([] : List En).take 0)).length = (0) * 5) := Lib.hid (by first | (rw [Shape.length_flat, List.length_take, Nat.min_eq_left (by omega)]; rfl) | (simp [Shape.flat]; done))
        have Hl3 : Hid ((enS.flat ([])).length = (0) * 5) := Lib.hid (by first | (rw [Shape.length_flat, List.length_drop]; rfl) | (simp [Shape.flat]; done) | (simp [Shape.flat]; omega))
        have Hm1 : Hid (0 + 0 ≤ maxLen) := Lib.hid (by unfold maxLen; omega)
        have Hy1 : Hid ((0 + 0) * 40 ≤ 140737488355328) := Lib.hid (by omega)
        have Hm2 : Hid (0 + 0 + 1 ≤ maxLen) := Lib.hid (by unfold maxLen; omega)
        have Hy2 : Hid ((0 + 0 + 1) * 40 ≤ 140737488355328) := Lib.hid (by omega)
        have Hm3 : Hid (0 + 0 + 1 + (0) ≤ maxLen) := Lib.hid (by unfold maxLen; omega)
        have Hy3 : Hid ((0 + 0 + 1 + (0)) * 40 ≤ 140737488355328) := Lib.hid (by omega)
        go_region_held3 (fun w' => w'.cell? ⟨w.heap.size, 0, none⟩ = some (.int .i64 y.a) ∧ w'.cell? ⟨w.heap.size, 1, none⟩ = some (.int .i64 y.b) ∧ w'.cell? ⟨w.heap.size, 2, none⟩ = some (.int .i64 y.lo) ∧ w'.cell? ⟨w.heap.size, 3, none⟩ = some (.int .i64 y.hi) ∧ w'.cell? ⟨w.heap.size, 4, none⟩ = some (.int .i64 y.to) ∧ Below wt.heap.size wt w') ((go_split_ands; refine HS.out _ ?_; repeat (first | (with_reducible assumption) | (with_reducible exact Below.refl _ _) | (with_reducible refine Below.drew ?_) | (with_reducible refine bal ?_ _)))) ((first | (refine step_append_src (by rfl) _ _ 23 (by rfl) 36 i0 (.agg #[.int .i64 0, .int .i64 0, .int .i64 0, .int .i64 0, .int .i64 0]) 5 40 Try.underlying23 hi hz0 hz1 hz2 rfl (by decide) wt (by (try go_split_ands); with_reducible assumption) _ 0 [] (by rfl) (by first | exact own_empty (by simp) | exact own_empty1 (by simp) | exact (own_empty (by simp)).alloc _) (_) (0) (_) (enS.flat (([] : List En).take 0)) (by rfl) Hl1.out (fun _ => rfl) (fun a => en_src0 a) (en_one _) Hm1.out Hy1.out ?_; intro v1 w1 ho1 hbA1 hk1) | (refine step_append_src (by rfl) _ _ 23 (by rfl) 36 i0 (.agg #[.int .i64 0, .int .i64 0, .int .i64 0, .int .i64 0, .int .i64 0]) 5 40 Try.underlying23 hi hz0 hz1 hz2 rfl (by decide) wt (by (try go_split_ands); with_reducible assumption) v1 (0 + 0) ([] ++ enS.flat (([] : List En).take 0)) (by rfl) (by first | with_reducible exact ho1 | with_reducible exact ho1.alloc _) _ 1 _ (enS.flat [y]) (by rfl) rfl (by intro h; cases h) (lit_src (oneEn_cells (by first | exact Blk.new _ _ _ | exact hk1 _ _ _ (Blk.new1 _ _ _ _) (ob_ne (by rfl) (by first | omega | (simp; done) | (simp; omega))) | exact hk1 _ _ _ (Blk.new _ _ _) (ob_ne (by rfl) (by first | omega | (simp; done) | (simp; omega))) | exact hk1 _ _ _ (Blk.alloc (Blk.new _ _ _) _) (ob_ne (by rfl) (by first | omega | (simp; done) | (simp; omega)))))) (en_one _) Hm2.out Hy2.out ?_; intro v2 w2 ho2 hbA2 hk2) | (refine step_append_src (by rfl) _ _ 23 (by rfl) 36 i0 (.agg #[.int .i64 0, .int .i64 0, .int .i64 0, .int .i64 0, .int .i64 0]) 5 40 Try.underlying23 hi hz0 hz1 hz2 rfl (by decide) wt (by (try go_split_ands); with_reducible assumption) v2 (0 + 0 + 1) ([] ++ enS.flat (([] : List En).take 0) ++ enS.flat [y]) (by rfl) (by with_reducible exact ho2) (_) (0) (_) (enS.flat ([])) (by rfl) Hl3.out (fun _ => rfl) (fun a => en_src0 a) (en_one _) Hm3.out Hy3.out ?_; intro v3 w3 ho3 hbA3 hk3)))
        all_goals
          go_wp2
          go_ret2
          exact ⟨⟨_, ins [] 0 y, true, rfl, by rw [Ht.out, Hpl.out, Hat.out]; rfl, (fun h => by cases h), putE_end (es := []) (D := []) (k := 0) (Nat.le_refl _) rfl (own_mono ho3 hbt.size)⟩, bthen hbt hbA3⟩
      | some a =>
        go_enter Try.func61, Try.ntmps61
        go_wp2_with fail
        refine (caPlace_any _ ([] : List En) y.a y.b _ (Hr.out.on hbA) Hval.out Hcu.out).mono ?_; rintro e w1 ⟨rfl, hb1⟩
        rw [Hpl.out]
        have hb1' := bthen hbA hb1
        have hbox1 := hbox.on hb1
        have q0 := hbox1.cell 0
        have q1 := hbox1.cell 1
        have q2 := hbox1.cell 2
        have q3 := hbox1.cell 3
        have q4 := hbox1.cell 4
        have ql := hbox1.lt
        go_wp2_with fail
        refine (caAt_any _ ([] : List En) 0 y.a y.b _ (Hr.out.on hb1')).mono ?_; rintro e w2 ⟨rfl, hb2⟩
        have hbt := bthen hb1' hb2
        have hblkt := hbox1.on hb2
        clear q0 q1 q2 q3 q4 ql hbox1 hb1 hb2 hb1' hbA hbox
        rw [Hat.out]
        go_wp2
        generalize w2 = wt at hbt hblkt ⊢
        have r0 := hblkt.cell 0
        have r1 := hblkt.cell 1
        have r2 := hblkt.cell 2
        have r3 := hblkt.cell 3
        have r4 := hblkt.cell 4
        have rl := hblkt.lt
        have HS : Hid (∀ w', Below wt.heap.size wt w' → (w'.cell? ⟨w.heap.size, 0, none⟩ = some (.int .i64 y.a) ∧ w'.cell? ⟨w.heap.size, 1, none⟩ = some (.int .i64 y.b) ∧ w'.cell? ⟨w.heap.size, 2, none⟩ = some (.int .i64 y.lo) ∧ w'.cell? ⟨w.heap.size, 3, none⟩ = some (.int .i64 y.hi) ∧ w'.cell? ⟨w.heap.size, 4, none⟩ = some (.int .i64 y.to) ∧ Below wt.heap.size wt w')) := Lib.hid (fun w' hw => ⟨(hw.cell (p := ⟨w.heap.size, 0, none⟩) rl).trans r0, (hw.cell (p := ⟨w.heap.size, 1, none⟩) rl).trans r1, (hw.cell (p := ⟨w.heap.size, 2, none⟩) rl).trans r2, (hw.cell (p := ⟨w.heap.size, 3, none⟩) rl).trans r3, (hw.cell (p := ⟨w.heap.size, 4, none⟩) rl).trans r4, hw⟩)
        have Hl1 : Hid ((enS.flat (([] : List En).take 0)).length = (0) * 5) := Lib.hid (by first | (rw [Shape.length_flat, List.length_take, Nat.min_eq_left (by omega)]; rfl) | (simp [Shape.flat]; done))
        have Hl3 : Hid ((enS.flat ([])).length = (0) * 5) := Lib.hid (by first | (rw [Shape.length_flat, List.length_drop]; rfl) | (simp [Shape.flat]; done) | (simp [Shape.flat]; omega))
        have Hm1 : Hid (0 + 0 ≤ maxLen) := Lib.hid (by unfold maxLen; omega)
        have Hy1 : Hid ((0 + 0) * 40 ≤ 140737488355328) := Lib.hid (by omega)
        have Hm2 : Hid (0 + 0 + 1 ≤ maxLen) := Lib.hid (by unfold maxLen; omega)
        have Hy2 : Hid ((0 + 0 + 1) * 40 ≤ 140737488355328) := Lib.hid (by omega)
        have Hm3 : Hid (0 + 0 + 1 + (0) ≤ maxLen) := Lib.hid (by unfold maxLen; omega)
        have Hy3 : Hid ((0 + 0 + 1 + (0)) * 40 ≤ 140737488355328) := Lib.hid (by omega)
        go_region_held3 (fun w' => w'.cell? ⟨w.heap.size, 0, none⟩ = some (.int .i64 y.a) ∧ w'.cell? ⟨w.heap.size, 1, none⟩ = some (.int .i64 y.b) ∧ w'.cell? ⟨w.heap.size, 2, none⟩ = some (.int .i64 y.lo) ∧ w'.cell? ⟨w.heap.size, 3, none⟩ = some (.int .i64 y.hi) ∧ w'.cell? ⟨w.heap.size, 4, none⟩ = some (.int .i64 y.to) ∧ Below wt.heap.size wt w') ((go_split_ands; refine HS.out _ ?_; repeat (first | (with_reducible assumption) | (with_reducible exact Below.refl _ _) | (with_reducible refine Below.drew ?_) | (with_reducible refine bal ?_ _)))) ((first | (refine step_append_src (by rfl) _ _ 23 (by rfl) 36 i0 (.agg #[.int .i64 0, .int .i64 0, .int .i64 0, .int .i64 0, .int .i64 0]) 5 40 Try.underlying23 hi hz0 hz1 hz2 rfl (by decide) wt (by (try go_split_ands); with_reducible assumption) _ 0 [] (by rfl) (by first | exact own_empty (by simp) | exact own_empty1 (by simp) | exact (own_empty (by simp)).alloc _) (_) (0) (_) (enS.flat (([] : List En).take 0)) (by rfl) Hl1.out (fun _ => rfl) (fun a => en_src0 a) (en_one _) Hm1.out Hy1.out ?_; intro v1 w1 ho1 hbA1 hk1) | (refine step_append_src (by rfl) _ _ 23 (by rfl) 36 i0 (.agg #[.int .i64 0, .int .i64 0, .int .i64 0, .int .i64 0, .int .i64 0]) 5 40 Try.underlying23 hi hz0 hz1 hz2 rfl (by decide) wt (by (try go_split_ands); with_reducible assumption) v1 (0 + 0) ([] ++ enS.flat (([] : List En).take 0)) (by rfl) (by first | with_reducible exact ho1 | with_reducible exact ho1.alloc _) _ 1 _ (enS.flat [y]) (by rfl) rfl (by intro h; cases h) (lit_src (oneEn_cells (by first | exact Blk.new _ _ _ | exact hk1 _ _ _ (Blk.new1 _ _ _ _) (ob_ne (by rfl) (by first | omega | (simp; done) | (simp; omega))) | exact hk1 _ _ _ (Blk.new _ _ _) (ob_ne (by rfl) (by first | omega | (simp; done) | (simp; omega))) | exact hk1 _ _ _ (Blk.alloc (Blk.new _ _ _) _) (ob_ne (by rfl) (by first | omega | (simp; done) | (simp; omega)))))) (en_one _) Hm2.out Hy2.out ?_; intro v2 w2 ho2 hbA2 hk2) | (refine step_append_src (by rfl) _ _ 23 (by rfl) 36 i0 (.agg #[.int .i64 0, .int .i64 0, .int .i64 0, .int .i64 0, .int .i64 0]) 5 40 Try.underlying23 hi hz0 hz1 hz2 rfl (by decide) wt (by (try go_split_ands); with_reducible assumption) v2 (0 + 0 + 1) ([] ++ enS.flat (([] : List En).take 0) ++ enS.flat [y]) (by rfl) (by with_reducible exact ho2) (_) (0) (_) (enS.flat ([])) (by rfl) Hl3.out (fun _ => rfl) (fun a => en_src0 a) (en_one _) Hm3.out Hy3.out ?_; intro v3 w3 ho3 hbA3 hk3)))
        all_goals
          go_wp2
          go_ret2
          exact ⟨⟨_, ins [] 0 y, true, rfl, by rw [Ht.out, Hpl.out, Hat.out]; rfl, (fun h => by cases h), putE_end (es := []) (D := []) (k := 0) (Nat.le_refl _) rfl (own_mono ho3 hbt.size)⟩, bthen hbt hbA3⟩
    · cases A with
      | none =>
        go_enter Try.func61, Try.ntmps61
        go_wp2_with fail
        refine (caPlace_any _ ([] : List En) y.a y.b _ (Hr.out.on hbA) Hval.out Hcu.out).mono ?_; rintro e w1 ⟨rfl, hb1⟩
        rw [Hpl.out]
        have hb1' := bthen hbA hb1
        have hbox1 := hbox.on hb1
        have q0 := hbox1.cell 0
        have q1 := hbox1.cell 1
        have q2 := hbox1.cell 2
        have q3 := hbox1.cell 3
        have q4 := hbox1.cell 4
        have ql := hbox1.lt
        go_wp2_with fail
        refine (caAt_any _ ([] : List En) 0 y.a y.b _ (Hr.out.on hb1')).mono ?_; rintro e w2 ⟨rfl, hb2⟩
        have hbt := bthen hb1' hb2
        have hblkt := hbox1.on hb2
        clear q0 q1 q2 q3 q4 ql hbox1 hb1 hb2 hb1' hbA hbox
        rw [Hat.out]
        go_wp2
        generalize w2 = wt at hbt hblkt ⊢
        have r0 := hblkt.cell 0
        have r1 := hblkt.cell 1
        have r2 := hblkt.cell 2
        have r3 := hblkt.cell 3
        have r4 := hblkt.cell 4
        have rl := hblkt.lt
        have HS : Hid (∀ w', Below wt.heap.size wt w' → (w'.cell? ⟨w.heap.size, 0, none⟩ = some (.int .i64 y.a) ∧ w'.cell? ⟨w.heap.size, 1, none⟩ = some (.int .i64 y.b) ∧ w'.cell? ⟨w.heap.size, 2, none⟩ = some (.int .i64 y.lo) ∧ w'.cell? ⟨w.heap.size, 3, none⟩ = some (.int .i64 y.hi) ∧ w'.cell? ⟨w.heap.size, 4, none⟩ = some (.int .i64 y.to) ∧ Below wt.heap.size wt w')) := Lib.hid (fun w' hw => ⟨(hw.cell (p := ⟨w.heap.size, 0, none⟩) rl).trans r0, (hw.cell (p := ⟨w.heap.size, 1, none⟩) rl).trans r1, (hw.cell (p := ⟨w.heap.size, 2, none⟩) rl).trans r2, (hw.cell (p := ⟨w.heap.size, 3, none⟩) rl).trans r3, (hw.cell (p := ⟨w.heap.size, 4, none⟩) rl).trans r4, hw⟩)
        have Hl1 : Hid ((enS.flat (([] : List En).take 0)).length = (0) * 5) := Lib.hid (by first | (rw [Shape.length_flat, List.length_take, Nat.min_eq_left (by omega)]; rfl) | (simp [Shape.flat]; done))
        have Hl3 : Hid ((enS.flat ([])).length = (0) * 5) := Lib.hid (by first | (rw [Shape.length_flat, List.length_drop]; rfl) | (simp [Shape.flat]; done) | (simp [Shape.flat]; omega))
        have Hm1 : Hid (0 + 0 ≤ maxLen) := Lib.hid (by unfold maxLen; omega)
        have Hy1 : Hid ((0 + 0) * 40 ≤ 140737488355328) := Lib.hid (by omega)
        have Hm2 : Hid (0 + 0 + 1 ≤ maxLen) := Lib.hid (by unfold maxLen; omega)
        have Hy2 : Hid ((0 + 0 + 1) * 40 ≤ 140737488355328) := Lib.hid (by omega)
        have Hm3 : Hid (0 + 0 + 1 + (0) ≤ maxLen) := Lib.hid (by unfold maxLen; omega)
        have Hy3 : Hid ((0 + 0 + 1 + (0)) * 40 ≤ 140737488355328) := Lib.hid (by omega)
        go_region_held3 (fun w' => w'.cell? ⟨w.heap.size, 0, none⟩ = some (.int .i64 y.a) ∧ w'.cell? ⟨w.heap.size, 1, none⟩ = some (.int .i64 y.b) ∧ w'.cell? ⟨w.heap.size, 2, none⟩ = some (.int .i64 y.lo) ∧ w'.cell? ⟨w.heap.size, 3, none⟩ = some (.int .i64 y.hi) ∧ w'.cell? ⟨w.heap.size, 4, none⟩ = some (.int .i64 y.to) ∧ Below wt.heap.size wt w') ((go_split_ands; refine HS.out _ ?_; repeat (first | (with_reducible assumption) | (with_reducible exact Below.refl _ _) | (with_reducible refine Below.drew ?_) | (with_reducible refine bal ?_ _)))) ((first | (refine step_append_src (by rfl) _ _ 23 (by rfl) 36 i0 (.agg #[.int .i64 0, .int .i64 0, .int .i64 0, .int .i64 0, .int .i64 0]) 5 40 Try.underlying23 hi hz0 hz1 hz2 rfl (by decide) wt (by (try go_split_ands); with_reducible assumption) _ 0 [] (by rfl) (by first | exact own_empty (by simp) | exact own_empty1 (by simp) | exact (own_empty (by simp)).alloc _) (_) (0) (_) (enS.flat (([] : List En).take 0)) (by rfl) Hl1.out (fun _ => rfl) (fun a => en_src0 a) (en_one _) Hm1.out Hy1.out ?_; intro v1 w1 ho1 hbA1 hk1) | (refine step_append_src (by rfl) _ _ 23 (by rfl) 36 i0 (.agg #[.int .i64 0, .int .i64 0, .int .i64 0, .int .i64 0, .int .i64 0]) 5 40 Try.underlying23 hi hz0 hz1 hz2 rfl (by decide) wt (by (try go_split_ands); with_reducible assumption) v1 (0 + 0) ([] ++ enS.flat (([] : List En).take 0)) (by rfl) (by first | with_reducible exact ho1 | with_reducible exact ho1.alloc _) _ 1 _ (enS.flat [y]) (by rfl) rfl (by intro h; cases h) (lit_src (oneEn_cells (by first | exact Blk.new _ _ _ | exact hk1 _ _ _ (Blk.new1 _ _ _ _) (ob_ne (by rfl) (by first | omega | (simp; done) | (simp; omega))) | exact hk1 _ _ _ (Blk.new _ _ _) (ob_ne (by rfl) (by first | omega | (simp; done) | (simp; omega))) | exact hk1 _ _ _ (Blk.alloc (Blk.new _ _ _) _) (ob_ne (by rfl) (by first | omega | (simp; done) | (simp; omega)))))) (en_one _) Hm2.out Hy2.out ?_; intro v2 w2 ho2 hbA2 hk2) | (refine step_append_src (by rfl) _ _ 23 (by rfl) 36 i0 (.agg #[.int .i64 0, .int .i64 0, .int .i64 0, .int .i64 0, .int .i64 0]) 5 40 Try.underlying23 hi hz0 hz1 hz2 rfl (by decide) wt (by (try go_split_ands); with_reducible assumption) v2 (0 + 0 + 1) ([] ++ enS.flat (([] : List En).take 0) ++ enS.flat [y]) (by rfl) (by with_reducible exact ho2) (_) (0) (_) (enS.flat ([])) (by rfl) Hl3.out (fun _ => rfl) (fun a => en_src0 a) (en_one _) Hm3.out Hy3.out ?_; intro v3 w3 ho3 hbA3 hk3)))
        all_goals
          go_wp2
          go_ret2
          exact ⟨⟨_, ins [] 0 y, true, rfl, by rw [Ht.out, Hpl.out, Hat.out]; rfl, (fun h => by cases h), putE_end (es := []) (D := []) (k := 0) (Nat.le_refl _) rfl (own_mono ho3 hbt.size)⟩, bthen hbt hbA3⟩
      | some a =>
        go_enter Try.func61, Try.ntmps61
        go_wp2_with fail
        refine (caPlace_any _ ([] : List En) y.a y.b _ (Hr.out.on hbA) Hval.out Hcu.out).mono ?_; rintro e w1 ⟨rfl, hb1⟩
        rw [Hpl.out]
        have hb1' := bthen hbA hb1
        have hbox1 := hbox.on hb1
        have q0 := hbox1.cell 0
        have q1 := hbox1.cell 1
        have q2 := hbox1.cell 2
        have q3 := hbox1.cell 3
        have q4 := hbox1.cell 4
        have ql := hbox1.lt
        go_wp2_with fail
        refine (caAt_any _ ([] : List En) 0 y.a y.b _ (Hr.out.on hb1')).mono ?_; rintro e w2 ⟨rfl, hb2⟩
        have hbt := bthen hb1' hb2
        have hblkt := hbox1.on hb2
        clear q0 q1 q2 q3 q4 ql hbox1 hb1 hb2 hb1' hbA hbox
        rw [Hat.out]
        go_wp2
        generalize w2 = wt at hbt hblkt ⊢
        have r0 := hblkt.cell 0
        have r1 := hblkt.cell 1
        have r2 := hblkt.cell 2
        have r3 := hblkt.cell 3
        have r4 := hblkt.cell 4
        have rl := hblkt.lt
        have HS : Hid (∀ w', Below wt.heap.size wt w' → (w'.cell? ⟨w.heap.size, 0, none⟩ = some (.int .i64 y.a) ∧ w'.cell? ⟨w.heap.size, 1, none⟩ = some (.int .i64 y.b) ∧ w'.cell? ⟨w.heap.size, 2, none⟩ = some (.int .i64 y.lo) ∧ w'.cell? ⟨w.heap.size, 3, none⟩ = some (.int .i64 y.hi) ∧ w'.cell? ⟨w.heap.size, 4, none⟩ = some (.int .i64 y.to) ∧ Below wt.heap.size wt w')) := Lib.hid (fun w' hw => ⟨(hw.cell (p := ⟨w.heap.size, 0, none⟩) rl).trans r0, (hw.cell (p := ⟨w.heap.size, 1, none⟩) rl).trans r1, (hw.cell (p := ⟨w.heap.size, 2, none⟩) rl).trans r2, (hw.cell (p := ⟨w.heap.size, 3, none⟩) rl).trans r3, (hw.cell (p := ⟨w.heap.size, 4, none⟩) rl).trans r4, hw⟩)
        have Hl1 : Hid ((enS.flat (([] : List En).take 0)).length = (0) * 5) := Lib.hid (by first | (rw [Shape.length_flat, List.length_take, Nat.min_eq_left (by omega)]; rfl) | (simp [Shape.flat]; done))
        have Hl3 : Hid ((enS.flat ([])).length = (0) * 5) := Lib.hid (by first | (rw [Shape.length_flat, List.length_drop]; rfl) | (simp [Shape.flat]; done) | (simp [Shape.flat]; omega))
        have Hm1 : Hid (0 + 0 ≤ maxLen) := Lib.hid (by unfold maxLen; omega)
        have Hy1 : Hid ((0 + 0) * 40 ≤ 140737488355328) := Lib.hid (by omega)
        have Hm2 : Hid (0 + 0 + 1 ≤ maxLen) := Lib.hid (by unfold maxLen; omega)
        have Hy2 : Hid ((0 + 0 + 1) * 40 ≤ 140737488355328) := Lib.hid (by omega)
        have Hm3 : Hid (0 + 0 + 1 + (0) ≤ maxLen) := Lib.hid (by unfold maxLen; omega)
        have Hy3 : Hid ((0 + 0 + 1 + (0)) * 40 ≤ 140737488355328) := Lib.hid (by omega)
        go_region_held3 (fun w' => w'.cell? ⟨w.heap.size, 0, none⟩ = some (.int .i64 y.a) ∧ w'.cell? ⟨w.heap.size, 1, none⟩ = some (.int .i64 y.b) ∧ w'.cell? ⟨w.heap.size, 2, none⟩ = some (.int .i64 y.lo) ∧ w'.cell? ⟨w.heap.size, 3, none⟩ = some (.int .i64 y.hi) ∧ w'.cell? ⟨w.heap.size, 4, none⟩ = some (.int .i64 y.to) ∧ Below wt.heap.size wt w') ((go_split_ands; refine HS.out _ ?_; repeat (first | (with_reducible assumption) | (with_reducible exact Below.refl _ _) | (with_reducible refine Below.drew ?_) | (with_reducible refine bal ?_ _)))) ((first | (refine step_append_src (by rfl) _ _ 23 (by rfl) 36 i0 (.agg #[.int .i64 0, .int .i64 0, .int .i64 0, .int .i64 0, .int .i64 0]) 5 40 Try.underlying23 hi hz0 hz1 hz2 rfl (by decide) wt (by (try go_split_ands); with_reducible assumption) _ 0 [] (by rfl) (by first | exact own_empty (by simp) | exact own_empty1 (by simp) | exact (own_empty (by simp)).alloc _) (_) (0) (_) (enS.flat (([] : List En).take 0)) (by rfl) Hl1.out (fun _ => rfl) (fun a => en_src0 a) (en_one _) Hm1.out Hy1.out ?_; intro v1 w1 ho1 hbA1 hk1) | (refine step_append_src (by rfl) _ _ 23 (by rfl) 36 i0 (.agg #[.int .i64 0, .int .i64 0, .int .i64 0, .int .i64 0, .int .i64 0]) 5 40 Try.underlying23 hi hz0 hz1 hz2 rfl (by decide) wt (by (try go_split_ands); with_reducible assumption) v1 (0 + 0) ([] ++ enS.flat (([] : List En).take 0)) (by rfl) (by first | with_reducible exact ho1 | with_reducible exact ho1.alloc _) _ 1 _ (enS.flat [y]) (by rfl) rfl (by intro h; cases h) (lit_src (oneEn_cells (by first | exact Blk.new _ _ _ | exact hk1 _ _ _ (Blk.new1 _ _ _ _) (ob_ne (by rfl) (by first | omega | (simp; done) | (simp; omega))) | exact hk1 _ _ _ (Blk.new _ _ _) (ob_ne (by rfl) (by first | omega | (simp; done) | (simp; omega))) | exact hk1 _ _ _ (Blk.alloc (Blk.new _ _ _) _) (ob_ne (by rfl) (by first | omega | (simp; done) | (simp; omega)))))) (en_one _) Hm2.out Hy2.out ?_; intro v2 w2 ho2 hbA2 hk2) | (refine step_append_src (by rfl) _ _ 23 (by rfl) 36 i0 (.agg #[.int .i64 0, .int .i64 0, .int .i64 0, .int .i64 0, .int .i64 0]) 5 40 Try.underlying23 hi hz0 hz1 hz2 rfl (by decide) wt (by (try go_split_ands); with_reducible assumption) v2 (0 + 0 + 1) ([] ++ enS.flat (([] : List En).take 0) ++ enS.flat [y]) (by rfl) (by with_reducible exact ho2) (_) (0) (_) (enS.flat ([])) (by rfl) Hl3.out (fun _ => rfl) (fun a => en_src0 a) (en_one _) Hm3.out Hy3.out ?_; intro v3 w3 ho3 hbA3 hk3)))
        all_goals
          go_wp2
          go_ret2
          exact ⟨⟨_, ins [] 0 y, true, rfl, by rw [Ht.out, Hpl.out, Hat.out]; rfl, (fun h => by cases h), putE_end (es := []) (D := []) (k := 0) (Nat.le_refl _) rfl (own_mono ho3 hbt.size)⟩, bthen hbt hbA3⟩
  · obtain ⟨g, off, rfl, hg, hcell⟩ := hA h0
    clear hA
    have hcell := en_cells hcell
    obtain ⟨k, hpl⟩ : ∃ k, placeN es y.a y.b = k := ⟨_, rfl⟩
    rw [hpl] at hk
    rw [hpl] at Hnat
    have Hpl := Lib.hid hpl; clear hpl
    have t1 : (0 : Int) ≤ (k : Int) := by omega
    have t2 : (k : Int) ≤ (c : Int) := by omega
    have t3 : (k : Int) ≤ (es.length : Int) := by omega
    cases hat : atB es k y.a y.b
    · have Hat := Lib.hid hat; clear hat
      by_cases hck : c = k
      · obtain rfl : k = es.length := by omega
        subst hck
        go_enter Try.func61, Try.ntmps61
        go_wp2_with fail
        refine (caPlace_any _ es y.a y.b _ (Hr.out.on hbA) Hval.out Hcu.out).mono ?_; rintro e w1 ⟨rfl, hb1⟩
        rw [Hpl.out]
        have hb1' := bthen hbA hb1
        have hbox1 := hbox.on hb1
        have q0 := hbox1.cell 0
        have q1 := hbox1.cell 1
        have q2 := hbox1.cell 2
        have q3 := hbox1.cell 3
        have q4 := hbox1.cell 4
        have ql := hbox1.lt
        go_wp2_with fail
        refine (caAt_any _ es es.length y.a y.b _ (Hr.out.on hb1')).mono ?_; rintro e w2 ⟨rfl, hb2⟩
        have hbt := bthen hb1' hb2
        have hblkt := hbox1.on hb2
        clear q0 q1 q2 q3 q4 ql hbox1 hb1 hb2 hb1' hbA hbox
        rw [Hat.out]
        go_wp2
        generalize w2 = wt at hbt hblkt ⊢
        have HRt := Lib.hid (Hr.out.on hbt)
        clear hcell
        have r0 := hblkt.cell 0
        have r1 := hblkt.cell 1
        have r2 := hblkt.cell 2
        have r3 := hblkt.cell 3
        have r4 := hblkt.cell 4
        have rl := hblkt.lt
        have HS : Hid (∀ w', Below wt.heap.size wt w' → (w'.cell? ⟨w.heap.size, 0, none⟩ = some (.int .i64 y.a) ∧ w'.cell? ⟨w.heap.size, 1, none⟩ = some (.int .i64 y.b) ∧ w'.cell? ⟨w.heap.size, 2, none⟩ = some (.int .i64 y.lo) ∧ w'.cell? ⟨w.heap.size, 3, none⟩ = some (.int .i64 y.hi) ∧ w'.cell? ⟨w.heap.size, 4, none⟩ = some (.int .i64 y.to) ∧ Below wt.heap.size wt w')) := Lib.hid (fun w' hw => ⟨(hw.cell (p := ⟨w.heap.size, 0, none⟩) rl).trans r0, (hw.cell (p := ⟨w.heap.size, 1, none⟩) rl).trans r1, (hw.cell (p := ⟨w.heap.size, 2, none⟩) rl).trans r2, (hw.cell (p := ⟨w.heap.size, 3, none⟩) rl).trans r3, (hw.cell (p := ⟨w.heap.size, 4, none⟩) rl).trans r4, hw⟩)
        have Hl1 : Hid ((enS.flat (es.take es.length)).length = (es.length) * 5) := Lib.hid (by first | (rw [Shape.length_flat, List.length_take, Nat.min_eq_left (by omega)]; rfl) | (simp [Shape.flat]; done))
        have Hl3 : Hid ((enS.flat ([])).length = (0) * 5) := Lib.hid (by first | (rw [Shape.length_flat, List.length_drop]; rfl) | (simp [Shape.flat]; done) | (simp [Shape.flat]; omega))
        have HA1 : Hid ((some ⟨g, off, none⟩ : Option Addr) = none → (es.length) = 0) := Lib.hid (by intro h; first | cases h | omega)
        have Hs1 := Lib.hid (en_src HRt.out es.length)
        have Hm1 : Hid (0 + es.length ≤ maxLen) := Lib.hid (by unfold maxLen; omega)
        have Hy1 : Hid ((0 + es.length) * 40 ≤ 140737488355328) := Lib.hid (by omega)
        have Hm2 : Hid (0 + es.length + 1 ≤ maxLen) := Lib.hid (by unfold maxLen; omega)
        have Hy2 : Hid ((0 + es.length + 1) * 40 ≤ 140737488355328) := Lib.hid (by omega)
        have Hm3 : Hid (0 + es.length + 1 + (0) ≤ maxLen) := Lib.hid (by unfold maxLen; omega)
        have Hy3 : Hid ((0 + es.length + 1 + (0)) * 40 ≤ 140737488355328) := Lib.hid (by omega)
        go_region_held3 (fun w' => w'.cell? ⟨w.heap.size, 0, none⟩ = some (.int .i64 y.a) ∧ w'.cell? ⟨w.heap.size, 1, none⟩ = some (.int .i64 y.b) ∧ w'.cell? ⟨w.heap.size, 2, none⟩ = some (.int .i64 y.lo) ∧ w'.cell? ⟨w.heap.size, 3, none⟩ = some (.int .i64 y.hi) ∧ w'.cell? ⟨w.heap.size, 4, none⟩ = some (.int .i64 y.to) ∧ Below wt.heap.size wt w') ((go_split_ands; refine HS.out _ ?_; repeat (first | (with_reducible assumption) | (with_reducible exact Below.refl _ _) | (with_reducible refine Below.drew ?_) | (with_reducible refine bal ?_ _)))) ((first | (refine step_append_src (by rfl) _ _ 23 (by rfl) 36 i0 (.agg #[.int .i64 0, .int .i64 0, .int .i64 0, .int .i64 0, .int .i64 0]) 5 40 Try.underlying23 hi hz0 hz1 hz2 rfl (by decide) wt (by (try go_split_ands); with_reducible assumption) _ 0 [] (by rfl) (by first | exact own_empty (by simp) | exact own_empty1 (by simp) | exact (own_empty (by simp)).alloc _) (some ⟨g, off, none⟩) (es.length) (_) (enS.flat (es.take es.length)) (by rfl) Hl1.out (HA1.out) (src_below (by (try go_split_ands); with_reducible assumption) Hs1.out) (en_one _) Hm1.out Hy1.out ?_; intro v1 w1 ho1 hbA1 hk1) | (refine step_append_src (by rfl) _ _ 23 (by rfl) 36 i0 (.agg #[.int .i64 0, .int .i64 0, .int .i64 0, .int .i64 0, .int .i64 0]) 5 40 Try.underlying23 hi hz0 hz1 hz2 rfl (by decide) wt (by (try go_split_ands); with_reducible assumption) v1 (0 + es.length) ([] ++ enS.flat (es.take es.length)) (by rfl) (by first | with_reducible exact ho1 | with_reducible exact ho1.alloc _) _ 1 _ (enS.flat [y]) (by rfl) rfl (by intro h; cases h) (lit_src (oneEn_cells (by first | exact Blk.new _ _ _ | exact hk1 _ _ _ (Blk.new1 _ _ _ _) (ob_ne (by rfl) (by first | omega | (simp; done) | (simp; omega))) | exact hk1 _ _ _ (Blk.new _ _ _) (ob_ne (by rfl) (by first | omega | (simp; done) | (simp; omega))) | exact hk1 _ _ _ (Blk.alloc (Blk.new _ _ _) _) (ob_ne (by rfl) (by first | omega | (simp; done) | (simp; omega)))))) (en_one _) Hm2.out Hy2.out ?_; intro v2 w2 ho2 hbA2 hk2) | (refine step_append_src (by rfl) _ _ 23 (by rfl) 36 i0 (.agg #[.int .i64 0, .int .i64 0, .int .i64 0, .int .i64 0, .int .i64 0]) 5 40 Try.underlying23 hi hz0 hz1 hz2 rfl (by decide) wt (by (try go_split_ands); with_reducible assumption) v2 (0 + es.length + 1) ([] ++ enS.flat (es.take es.length) ++ enS.flat [y]) (by rfl) (by with_reducible exact ho2) (_) (0) (_) (enS.flat ([])) (by rfl) Hl3.out (fun _ => rfl) (fun a => en_src0 a) (en_one _) Hm3.out Hy3.out ?_; intro v3 w3 ho3 hbA3 hk3)))
        all_goals
          go_wp2
          go_ret2
          exact ⟨⟨_, ins es es.length y, true, rfl, by rw [Ht.out, Hpl.out, Hat.out]; rfl, (fun h => by cases h), by unfold ins; rw [List.drop_length]; exact putE_end (Nat.le_refl _) rfl (own_mono ho3 hbt.size)⟩, bthen hbt hbA3⟩
      · go_enter Try.func61, Try.ntmps61
        go_wp2_with fail
        refine (caPlace_any _ es y.a y.b _ (Hr.out.on hbA) Hval.out Hcu.out).mono ?_; rintro e w1 ⟨rfl, hb1⟩
        rw [Hpl.out]
        have hb1' := bthen hbA hb1
        have hbox1 := hbox.on hb1
        have q0 := hbox1.cell 0
        have q1 := hbox1.cell 1
        have q2 := hbox1.cell 2
        have q3 := hbox1.cell 3
        have q4 := hbox1.cell 4
        have ql := hbox1.lt
        go_wp2_with fail
        refine (caAt_any _ es k y.a y.b _ (Hr.out.on hb1')).mono ?_; rintro e w2 ⟨rfl, hb2⟩
        have hbt := bthen hb1' hb2
        have hblkt := hbox1.on hb2
        clear q0 q1 q2 q3 q4 ql hbox1 hb1 hb2 hb1' hbA hbox
        rw [Hat.out]
        go_wp2
        generalize w2 = wt at hbt hblkt ⊢
        have HRt := Lib.hid (Hr.out.on hbt)
        clear hcell
        have r0 := hblkt.cell 0
        have r1 := hblkt.cell 1
        have r2 := hblkt.cell 2
        have r3 := hblkt.cell 3
        have r4 := hblkt.cell 4
        have rl := hblkt.lt
        have t1 : (0 : Int) ≤ ((k : Nat) : Int) := by omega
        have t2 : ((k : Nat) : Int) ≤ (c : Int) := by omega
        have t3 : ((k : Nat) : Int) ≤ (es.length : Int) := by omega
        have HS : Hid (∀ w', Below wt.heap.size wt w' → (w'.cell? ⟨w.heap.size, 0, none⟩ = some (.int .i64 y.a) ∧ w'.cell? ⟨w.heap.size, 1, none⟩ = some (.int .i64 y.b) ∧ w'.cell? ⟨w.heap.size, 2, none⟩ = some (.int .i64 y.lo) ∧ w'.cell? ⟨w.heap.size, 3, none⟩ = some (.int .i64 y.hi) ∧ w'.cell? ⟨w.heap.size, 4, none⟩ = some (.int .i64 y.to) ∧ Below wt.heap.size wt w')) := Lib.hid (fun w' hw => ⟨(hw.cell (p := ⟨w.heap.size, 0, none⟩) rl).trans r0, (hw.cell (p := ⟨w.heap.size, 1, none⟩) rl).trans r1, (hw.cell (p := ⟨w.heap.size, 2, none⟩) rl).trans r2, (hw.cell (p := ⟨w.heap.size, 3, none⟩) rl).trans r3, (hw.cell (p := ⟨w.heap.size, 4, none⟩) rl).trans r4, hw⟩)
        have Hl1 : Hid ((enS.flat (es.take k)).length = (k) * 5) := Lib.hid (by first | (rw [Shape.length_flat, List.length_take, Nat.min_eq_left (by omega)]; rfl) | (simp [Shape.flat]; done))
        have Hl3 : Hid ((enS.flat (es.drop k)).length = (es.length - k) * 5) := Lib.hid (by first | (rw [Shape.length_flat, List.length_drop]; rfl) | (simp [Shape.flat]; done) | (simp [Shape.flat]; omega))
        have HA1 : Hid ((some ⟨g, off, none⟩ : Option Addr) = none → (k) = 0) := Lib.hid (by intro h; first | cases h | omega)
        have HA3 : Hid ((some ⟨g, off + k * 5, none⟩ : Option Addr) = none → (es.length - k) = 0) := Lib.hid (by intro h; first | cases h | omega)
        have Hs1 := Lib.hid (en_src HRt.out k)
        have Hs3 := Lib.hid (en_src2 HRt.out k hk)
        have Hm1 : Hid (0 + k ≤ maxLen) := Lib.hid (by unfold maxLen; omega)
        have Hy1 : Hid ((0 + k) * 40 ≤ 140737488355328) := Lib.hid (by omega)
        have Hm2 : Hid (0 + k + 1 ≤ maxLen) := Lib.hid (by unfold maxLen; omega)
        have Hy2 : Hid ((0 + k + 1) * 40 ≤ 140737488355328) := Lib.hid (by omega)
        have Hm3 : Hid (0 + k + 1 + (es.length - k) ≤ maxLen) := Lib.hid (by unfold maxLen; omega)
        have Hy3 : Hid ((0 + k + 1 + (es.length - k)) * 40 ≤ 140737488355328) := Lib.hid (by omega)
        go_region_held3 (fun w' => w'.cell? ⟨w.heap.size, 0, none⟩ = some (.int .i64 y.a) ∧ w'.cell? ⟨w.heap.size, 1, none⟩ = some (.int .i64 y.b) ∧ w'.cell? ⟨w.heap.size, 2, none⟩ = some (.int .i64 y.lo) ∧ w'.cell? ⟨w.heap.size, 3, none⟩ = some (.int .i64 y.hi) ∧ w'.cell? ⟨w.heap.size, 4, none⟩ = some (.int .i64 y.to) ∧ Below wt.heap.size wt w') ((go_split_ands; refine HS.out _ ?_; repeat (first | (with_reducible assumption) | (with_reducible exact Below.refl _ _) | (with_reducible refine Below.drew ?_) | (with_reducible refine bal ?_ _)))) ((first | (refine step_append_src (by rfl) _ _ 23 (by rfl) 36 i0 (.agg #[.int .i64 0, .int .i64 0, .int .i64 0, .int .i64 0, .int .i64 0]) 5 40 Try.underlying23 hi hz0 hz1 hz2 rfl (by decide) wt (by (try go_split_ands); with_reducible assumption) _ 0 [] (by rfl) (by first | exact own_empty (by simp) | exact own_empty1 (by simp) | exact (own_empty (by simp)).alloc _) (some ⟨g, off, none⟩) (k) (c) (enS.flat (es.take k)) (by rfl) Hl1.out (HA1.out) (src_below (by (try go_split_ands); with_reducible assumption) Hs1.out) (en_one _) Hm1.out Hy1.out ?_; intro v1 w1 ho1 hbA1 hk1) | (refine step_append_src (by rfl) _ _ 23 (by rfl) 36 i0 (.agg #[.int .i64 0, .int .i64 0, .int .i64 0, .int .i64 0, .int .i64 0]) 5 40 Try.underlying23 hi hz0 hz1 hz2 rfl (by decide) wt (by (try go_split_ands); with_reducible assumption) v1 (0 + k) ([] ++ enS.flat (es.take k)) (by rfl) (by first | with_reducible exact ho1 | with_reducible exact ho1.alloc _) _ 1 _ (enS.flat [y]) (by rfl) rfl (by intro h; cases h) (lit_src (oneEn_cells (by first | exact Blk.new _ _ _ | exact hk1 _ _ _ (Blk.new1 _ _ _ _) (ob_ne (by rfl) (by first | omega | (simp; done) | (simp; omega))) | exact hk1 _ _ _ (Blk.new _ _ _) (ob_ne (by rfl) (by first | omega | (simp; done) | (simp; omega))) | exact hk1 _ _ _ (Blk.alloc (Blk.new _ _ _) _) (ob_ne (by rfl) (by first | omega | (simp; done) | (simp; omega)))))) (en_one _) Hm2.out Hy2.out ?_; intro v2 w2 ho2 hbA2 hk2) | (refine step_append_src (by rfl) _ _ 23 (by rfl) 36 i0 (.agg #[.int .i64 0, .int .i64 0, .int .i64 0, .int .i64 0, .int .i64 0]) 5 40 Try.underlying23 hi hz0 hz1 hz2 rfl (by decide) wt (by (try go_split_ands); with_reducible assumption) v2 (0 + k + 1) ([] ++ enS.flat (es.take k) ++ enS.flat [y]) (by rfl) (by with_reducible exact ho2) (some ⟨g, off + k * 5, none⟩) (es.length - k) (c - k) (enS.flat (es.drop k)) (by rfl) Hl3.out (HA3.out) (src_below (by (try go_split_ands); with_reducible assumption) Hs3.out) (en_one _) Hm3.out Hy3.out ?_; intro v3 w3 ho3 hbA3 hk3)))
        all_goals
          go_wp2
          go_ret2
          exact ⟨⟨_, ins es k y, true, rfl, by rw [Ht.out, Hpl.out, Hat.out]; rfl, (fun h => by cases h), putE_end hk (List.length_drop ..) (own_mono ho3 hbt.size)⟩, bthen hbt hbA3⟩
    · rw [Hnat.out] at hat; cases hat
end Go.Proofs.Ytnphipfdpkgbaaa
