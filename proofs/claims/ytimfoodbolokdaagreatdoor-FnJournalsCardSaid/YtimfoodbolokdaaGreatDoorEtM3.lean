/- Own texts put together: An entry put into a catalogue: the reference's caTighten; An entry met in a catalogue: the reference's caTighten; slices; slices. Conditions: those of each theorem. -/
import Derived.Test.YtimfoodbolokdaaGreatDoorEtM2
import Derived.Test.YtimfoodbolokdaaGreatDoorEtM1
import Derived.Deep.DeepCutAuto
namespace Go.Proofs.YtimfoodbolokdaaGreatDoor
section
open Go Go.RowKit

theorem en_src {w : World} {hi c : Nat} {A : Option Addr} {es : List En} (h : Rd enS w hi (.slice A es.length c) es) (k : Nat) :
    ∀ a, A = some a → ∀ j u, (enS.flat (es.take k))[j]? = some u → w.cell? (a.add j) = some u := by
  intro a ha j u hj
  subst ha
  refine en_flat_cells h j u ?_
  rw [flat_cut es k, List.getElem?_append_left (List.getElem?_eq_some_iff.1 hj).1]
  exact hj
theorem en_src2 {w : World} {hi c g off : Nat} {es : List En} (h : Rd enS w hi (.slice (some ⟨g, off, none⟩) es.length c) es) (k : Nat) (hk : k ≤ es.length) :
    ∀ a, some (⟨g, off + k * 5, none⟩ : Addr) = some a → ∀ j u, (enS.flat (es.drop k))[j]? = some u → w.cell? (a.add j) = some u := by
  intro a ha j u hj
  cases ha
  have := en_flat_cells h (k * 5 + j) u (by
    have hl : (enS.flat (es.take k)).length = k * 5 := by rw [Shape.length_flat, List.length_take, Nat.min_eq_left hk]; rfl
    rw [flat_cut es k, List.getElem?_append_right (by omega), hl, show k * 5 + j - k * 5 = j by omega]
    exact hj)
  rw [Addr.add_lit] at this ⊢
  rw [Nat.add_assoc]
  exact this
theorem en_src0 {w : World} {A : Option Addr} (a : Addr) : A = some a → ∀ j u, (enS.flat ([] : List En))[j]? = some u → w.cell? (a.add j) = some u := by
  intro _ j u hj
  simp [Shape.flat] at hj
theorem putE_end {w : World} {B : Nat} {v : Value} {es D : List En} {k d : Nat} {y : En} (hk : k ≤ es.length) (hd : D.length = d) (h : w.ownsRow B 29 5 v (0 + k + 1 + d) ([] ++ enS.flat (es.take k) ++ enS.flat [y] ++ enS.flat D)) :
    w.ownsRow B 29 5 v (es.take k ++ y :: D).length (enS.flat (es.take k ++ y :: D)) := by
  have e1 : (es.take k ++ y :: D).length = 0 + k + 1 + d := by rw [List.length_append, List.length_cons, List.length_take, hd]; omega
  have e2 : enS.flat (es.take k ++ y :: D) = [] ++ enS.flat (es.take k) ++ enS.flat [y] ++ enS.flat D := by
    rw [Shape.flat_append, flat_cons, show enS.flat [y] = enS.cells y by simp [Shape.flat]]
    simp
  rw [e1, e2]; exact h

set_option maxRecDepth 8000 in
set_option maxHeartbeats 8000000 in
theorem caTighten_new (v : Value) (es : List En) (y : En) (w : World) (h : Rd enS w w.heap.size v es) (hlen : es.length ≤ 1000) (hval : okCat es) (hy : entE y = true) (hnat : atB es (placeN es y.a y.b) y.a y.b = false) :
    Calls Tryz.prog 149 #[v, .agg #[.int .i64 y.a, .int .i64 y.b, .int .i64 y.lo, .int .i64 y.hi, .int .i64 y.to]] w fun r w' =>
      (∃ (v' : Value) (z : List En) (b : Bool), r = .returned (.tuple #[v', .bool b]) ∧ tightO es y = (if b then some z else none) ∧ (b = false → z = []) ∧ w'.ownsRow w.heap.size 29 5 v' z.length (enS.flat z)) ∧ Below w.heap.size w w' := by
  obtain ⟨i0, hi, hz0, hz1, hz2⟩ := info_parts infoEn2
  have Hr := Lib.hid h
  have Hnat := Lib.hid hnat; clear hnat
  obtain ⟨A, c, rfl, hcc, hm, hA⟩ := h
  unfold maxLen at hm
  have hbA : Below w.heap.size w (w.alloc _) := bal (Below.refl _ _) (Obj.cells #[.int .i64 y.a, .int .i64 y.b, .int .i64 y.lo, .int .i64 y.hi, .int .i64 y.to] 29)
  have hbox : Blk _ w.heap.size 29 #[.int .i64 y.a, .int .i64 y.b, .int .i64 y.lo, .int .i64 y.hi, .int .i64 y.to] := Blk.new w _ _
  have Hval := Lib.hid hval; clear hval
  have Hcu := Lib.hid (entB_curve hy)
  have hyto := (entB_bd hy).2.2.2.1
  have Hto := Lib.hid hyto; clear hyto hy
  have Ht := Lib.hid (show tightO es y = if atB es (placeN es y.a y.b) y.a y.b then if okMeet (enS.get es (placeN es y.a y.b)) y then some (swapE es (placeN es y.a y.b) (meetE (enS.get es (placeN es y.a y.b)) y)) else none else some (ins es (placeN es y.a y.b) y) from rfl)
  have hk := (placeN_spec es y).1

  rcases Nat.eq_zero_or_pos es.length with h0 | h0
  · obtain rfl : es = [] := List.eq_nil_of_length_eq_zero h0
    clear hA hm hcc hk h0
    have hpl : placeN ([] : List En) y.a y.b = 0 := rfl
    have hat : atB ([] : List En) 0 y.a y.b = false := rfl
    have Hpl := Lib.hid hpl; clear hpl
    have Hat := Lib.hid hat; clear hat
    by_cases hc : c = 0
    · subst hc
      cases A with
      | none =>
        go_enter Tryz.func149, Tryz.ntmps149
        go_wp2_with fail
        refine (caPlace_any _ ([] : List En) y.a y.b _ (Hr.out.on hbA) Hval.out Hcu.out).mono ?_; rintro e w1 ⟨rfl, hb1⟩
        rw [Hpl.out]
        have hb1' := bthen hbA hb1
        have hbox1 := hbox.on hb1
        have q0 := hbox1.cell 0
        have q1 := hbox1.cell 1
        have q2 := hbox1.cell 2
        have q3 := hbox1.cell 3
        have q4 := hbox1.cell 4
        have ql := hbox1.lt
        go_wp2_with fail
        refine (caAt_any _ ([] : List En) 0 y.a y.b _ (Hr.out.on hb1')).mono ?_; rintro e w2 ⟨rfl, hb2⟩
        have hbt := bthen hb1' hb2
        have hblkt := hbox1.on hb2
        clear q0 q1 q2 q3 q4 ql hbox1 hb1 hb2 hb1' hbA hbox
        rw [Hat.out]
        go_wp2
        generalize w2 = wt at hbt hblkt ⊢
        have r0 := hblkt.cell 0
        have r1 := hblkt.cell 1
        have r2 := hblkt.cell 2
        have r3 := hblkt.cell 3
        have r4 := hblkt.cell 4
        have rl := hblkt.lt
        have HS : Hid (∀ w', Below wt.heap.size wt w' → (w'.cell? ⟨w.heap.size, 0, none⟩ = some (.int .i64 y.a) ∧ w'.cell? ⟨w.heap.size, 1, none⟩ = some (.int .i64 y.b) ∧ w'.cell? ⟨w.heap.size, 2, none⟩ = some (.int .i64 y.lo) ∧ w'.cell? ⟨w.heap.size, 3, none⟩ = some (.int .i64 y.hi) ∧ w'.cell? ⟨w.heap.size, 4, none⟩ = some (.int .i64 y.to) ∧ Below wt.heap.size wt w')) := Lib.hid (fun w' hw => ⟨(hw.cell (p := ⟨w.heap.size, 0, none⟩) rl).trans r0, (hw.cell (p := ⟨w.heap.size, 1, none⟩) rl).trans r1, (hw.cell (p := ⟨w.heap.size, 2, none⟩) rl).trans r2, (hw.cell (p := ⟨w.heap.size, 3, none⟩) rl).trans r3, (hw.cell (p := ⟨w.heap.size, 4, none⟩) rl).trans r4, hw⟩)
        have Hl1 : Hid ((enS.flat (([] : List En).take 0)).length = (0) * 5) := Lib.hid (by first | (rw [Shape.length_flat, List.length_take, Nat.min_eq_left (by omega)]; rfl) | (simp [Shape.flat]; done))
        have Hl3 : Hid ((enS.flat ([])).length = (0) * 5) := Lib.hid (by first | (rw [Shape.length_flat, List.length_drop]; rfl) | (simp [Shape.flat]; done) | (simp [Shape.flat]; omega))
        have Hm1 : Hid (0 + 0 ≤ maxLen) := Lib.hid (by unfold maxLen; omega)
        have Hy1 : Hid ((0 + 0) * 40 ≤ 140737488355328) := Lib.hid (by omega)
        have Hm2 : Hid (0 + 0 + 1 ≤ maxLen) := Lib.hid (by unfold maxLen; omega)
        have Hy2 : Hid ((0 + 0 + 1) * 40 ≤ 140737488355328) := Lib.hid (by omega)
        have Hm3 : Hid (0 + 0 + 1 + (0) ≤ maxLen) := Lib.hid (by unfold maxLen; omega)
        have Hy3 : Hid ((0 + 0 + 1 + (0)) * 40 ≤ 140737488355328) := Lib.hid (by omega)
        go_region_held3 (fun w' => w'.cell? ⟨w.heap.size, 0, none⟩ = some (.int .i64 y.a) ∧ w'.cell? ⟨w.heap.size, 1, none⟩ = some (.int .i64 y.b) ∧ w'.cell? ⟨w.heap.size, 2, none⟩ = some (.int .i64 y.lo) ∧ w'.cell? ⟨w.heap.size, 3, none⟩ = some (.int .i64 y.hi) ∧ w'.cell? ⟨w.heap.size, 4, none⟩ = some (.int .i64 y.to) ∧ Below wt.heap.size wt w') ((go_split_ands; refine HS.out _ ?_; repeat (first | (with_reducible assumption) | (with_reducible exact Below.refl _ _) | (with_reducible refine Below.drew ?_) | (with_reducible refine bal ?_ _)))) ((first | (refine step_append_src (by rfl) _ _ 23 (by rfl) 29 i0 (.agg #[.int .i64 0, .int .i64 0, .int .i64 0, .int .i64 0, .int .i64 0]) 5 40 Tryz.underlying23 hi hz0 hz1 hz2 rfl (by decide) wt (by (try go_split_ands); with_reducible assumption) _ 0 [] (by rfl) (by first | exact own_empty (by simp) | exact own_empty1 (by simp) | exact (own_empty (by simp)).alloc _) (_) (0) (_) (enS.flat (([] : List En).take 0)) (by rfl) Hl1.out (fun _ => rfl) (fun a => en_src0 a) (en_one _) Hm1.out Hy1.out ?_; intro v1 w1 ho1 hbA1 hk1) | (refine step_append_src (by rfl) _ _ 23 (by rfl) 29 i0 (.agg #[.int .i64 0, .int .i64 0, .int .i64 0, .int .i64 0, .int .i64 0]) 5 40 Tryz.underlying23 hi hz0 hz1 hz2 rfl (by decide) wt (by (try go_split_ands); with_reducible assumption) v1 (0 + 0) ([] ++ enS.flat (([] : List En).take 0)) (by rfl) (by first | with_reducible exact ho1 | with_reducible exact ho1.alloc _) _ 1 _ (enS.flat [y]) (by rfl) rfl (by intro h; cases h) (lit_src (oneEn_cells (by first | exact Blk.new _ _ _ | exact hk1 _ _ _ (Blk.new1 _ _ _ _) (ob_ne (by rfl) (by first | omega | (simp; done) | (simp; omega))) | exact hk1 _ _ _ (Blk.new _ _ _) (ob_ne (by rfl) (by first | omega | (simp; done) | (simp; omega))) | exact hk1 _ _ _ (Blk.alloc (Blk.new _ _ _) _) (ob_ne (by rfl) (by first | omega | (simp; done) | (simp; omega)))))) (en_one _) Hm2.out Hy2.out ?_; intro v2 w2 ho2 hbA2 hk2) | (refine step_append_src (by rfl) _ _ 23 (by rfl) 29 i0 (.agg #[.int .i64 0, .int .i64 0, .int .i64 0, .int .i64 0, .int .i64 0]) 5 40 Tryz.underlying23 hi hz0 hz1 hz2 rfl (by decide) wt (by (try go_split_ands); with_reducible assumption) v2 (0 + 0 + 1) ([] ++ enS.flat (([] : List En).take 0) ++ enS.flat [y]) (by rfl) (by with_reducible exact ho2) (_) (0) (_) (enS.flat ([])) (by rfl) Hl3.out (fun _ => rfl) (fun a => en_src0 a) (en_one _) Hm3.out Hy3.out ?_; intro v3 w3 ho3 hbA3 hk3)))
        all_goals
          go_wp2
          go_ret2
          exact ⟨⟨_, ins [] 0 y, true, rfl, by rw [Ht.out, Hpl.out, Hat.out]; rfl, (fun h => by cases h), putE_end (es := []) (D := []) (k := 0) (Nat.le_refl _) rfl (own_mono ho3 hbt.size)⟩, bthen hbt hbA3⟩
      | some a =>
        go_enter Tryz.func149, Tryz.ntmps149
        go_wp2_with fail
        refine (caPlace_any _ ([] : List En) y.a y.b _ (Hr.out.on hbA) Hval.out Hcu.out).mono ?_; rintro e w1 ⟨rfl, hb1⟩
        rw [Hpl.out]
        have hb1' := bthen hbA hb1
        have hbox1 := hbox.on hb1
        have q0 := hbox1.cell 0
        have q1 := hbox1.cell 1
        have q2 := hbox1.cell 2
        have q3 := hbox1.cell 3
        have q4 := hbox1.cell 4
        have ql := hbox1.lt
        go_wp2_with fail
        refine (caAt_any _ ([] : List En) 0 y.a y.b _ (Hr.out.on hb1')).mono ?_; rintro e w2 ⟨rfl, hb2⟩
        have hbt := bthen hb1' hb2
        have hblkt := hbox1.on hb2
        clear q0 q1 q2 q3 q4 ql hbox1 hb1 hb2 hb1' hbA hbox
        rw [Hat.out]
        go_wp2
        generalize w2 = wt at hbt hblkt ⊢
        have r0 := hblkt.cell 0
        have r1 := hblkt.cell 1
        have r2 := hblkt.cell 2
        have r3 := hblkt.cell 3
        have r4 := hblkt.cell 4
        have rl := hblkt.lt
        have HS : Hid (∀ w', Below wt.heap.size wt w' → (w'.cell? ⟨w.heap.size, 0, none⟩ = some (.int .i64 y.a) ∧ w'.cell? ⟨w.heap.size, 1, none⟩ = some (.int .i64 y.b) ∧ w'.cell? ⟨w.heap.size, 2, none⟩ = some (.int .i64 y.lo) ∧ w'.cell? ⟨w.heap.size, 3, none⟩ = some (.int .i64 y.hi) ∧ w'.cell? ⟨w.heap.size, 4, none⟩ = some (.int .i64 y.to) ∧ Below wt.heap.size wt w')) := Lib.hid (fun w' hw => ⟨(hw.cell (p := ⟨w.heap.size, 0, none⟩) rl).trans r0, (hw.cell (p := ⟨w.heap.size, 1, none⟩) rl).trans r1, (hw.cell (p := ⟨w.heap.size, 2, none⟩) rl).trans r2, (hw.cell (p := ⟨w.heap.size, 3, none⟩) rl).trans r3, (hw.cell (p := ⟨w.heap.size, 4, none⟩) rl).trans r4, hw⟩)
        have Hl1 : Hid ((enS.flat (([] : List En).take 0)).length = (0) * 5) := Lib.hid (by first | (rw [Shape.length_flat, List.length_take, Nat.min_eq_left (by omega)]; rfl) | (simp [Shape.flat]; done))
        have Hl3 : Hid ((enS.flat ([])).length = (0) * 5) := Lib.hid (by first | (rw [Shape.length_flat, List.length_drop]; rfl) | (simp [Shape.flat]; done) | (simp [Shape.flat]; omega))
        have Hm1 : Hid (0 + 0 ≤ maxLen) := Lib.hid (by unfold maxLen; omega)
        have Hy1 : Hid ((0 + 0) * 40 ≤ 140737488355328) := Lib.hid (by omega)
        have Hm2 : Hid (0 + 0 + 1 ≤ maxLen) := Lib.hid (by unfold maxLen; omega)
        have Hy2 : Hid ((0 + 0 + 1) * 40 ≤ 140737488355328) := Lib.hid (by omega)
        have Hm3 : Hid (0 + 0 + 1 + (0) ≤ maxLen) := Lib.hid (by unfold maxLen; omega)
        have Hy3 : Hid ((0 + 0 + 1 + (0)) * 40 ≤ 140737488355328) := Lib.hid (by omega)
        go_region_held3 (fun w' => w'.cell? ⟨w.heap.size, 0, none⟩ = some (.int .i64 y.a) ∧ w'.cell? ⟨w.heap.size, 1, none⟩ = some (.int .i64 y.b) ∧ w'.cell? ⟨w.heap.size, 2, none⟩ = some (.int .i64 y.lo) ∧ w'.cell? ⟨w.heap.size, 3, none⟩ = some (.int .i64 y.hi) ∧ w'.cell? ⟨w.heap.size, 4, none⟩ = some (.int .i64 y.to) ∧ Below wt.heap.size wt w') ((go_split_ands; refine HS.out _ ?_; repeat (first | (with_reducible assumption) | (with_reducible exact Below.refl _ _) | (with_reducible refine Below.drew ?_) | (with_reducible refine bal ?_ _)))) ((first | (refine step_append_src (by rfl) _ _ 23 (by rfl) 29 i0 (.agg #[.int .i64 0, .int .i64 0, .int .i64 0, .int .i64 0, .int .i64 0]) 5 40 Tryz.underlying23 hi hz0 hz1 hz2 rfl (by decide) wt (by (try go_split_ands); with_reducible assumption) _ 0 [] (by rfl) (by first | exact own_empty (by simp) | exact own_empty1 (by simp) | exact (own_empty (by simp)).alloc _) (_) (0) (_) (enS.flat (([] : List En).take 0)) (by rfl) Hl1.out (fun _ => rfl) (fun a => en_src0 a) (en_one _) Hm1.out Hy1.out ?_; intro v1 w1 ho1 hbA1 hk1) | (refine step_append_src (by rfl) _ _ 23 (by rfl) 29 i0 (.agg #[.int .i64 0, .int .i64 0, .int .i64 0, .int .i64 0, .int .i64 0]) 5 40 Tryz.underlying23 hi hz0 hz1 hz2 rfl (by decide) wt (by (try go_split_ands); with_reducible assumption) v1 (0 + 0) ([] ++ enS.flat (([] : List En).take 0)) (by rfl) (by first | with_reducible exact ho1 | with_reducible exact ho1.alloc _) _ 1 _ (enS.flat [y]) (by rfl) rfl (by intro h; cases h) (lit_src (oneEn_cells (by first | exact Blk.new _ _ _ | exact hk1 _ _ _ (Blk.new1 _ _ _ _) (ob_ne (by rfl) (by first | omega | (simp; done) | (simp; omega))) | exact hk1 _ _ _ (Blk.new _ _ _) (ob_ne (by rfl) (by first | omega | (simp; done) | (simp; omega))) | exact hk1 _ _ _ (Blk.alloc (Blk.new _ _ _) _) (ob_ne (by rfl) (by first | omega | (simp; done) | (simp; omega)))))) (en_one _) Hm2.out Hy2.out ?_; intro v2 w2 ho2 hbA2 hk2) | (refine step_append_src (by rfl) _ _ 23 (by rfl) 29 i0 (.agg #[.int .i64 0, .int .i64 0, .int .i64 0, .int .i64 0, .int .i64 0]) 5 40 Tryz.underlying23 hi hz0 hz1 hz2 rfl (by decide) wt (by (try go_split_ands); with_reducible assumption) v2 (0 + 0 + 1) ([] ++ enS.flat (([] : List En).take 0) ++ enS.flat [y]) (by rfl) (by with_reducible exact ho2) (_) (0) (_) (enS.flat ([])) (by rfl) Hl3.out (fun _ => rfl) (fun a => en_src0 a) (en_one _) Hm3.out Hy3.out ?_; intro v3 w3 ho3 hbA3 hk3)))
        all_goals
          go_wp2
          go_ret2
          exact ⟨⟨_, ins [] 0 y, true, rfl, by rw [Ht.out, Hpl.out, Hat.out]; rfl, (fun h => by cases h), putE_end (es := []) (D := []) (k := 0) (Nat.le_refl _) rfl (own_mono ho3 hbt.size)⟩, bthen hbt hbA3⟩
    · cases A with
      | none =>
        go_enter Tryz.func149, Tryz.ntmps149
        go_wp2_with fail
        refine (caPlace_any _ ([] : List En) y.a y.b _ (Hr.out.on hbA) Hval.out Hcu.out).mono ?_; rintro e w1 ⟨rfl, hb1⟩
        rw [Hpl.out]
        have hb1' := bthen hbA hb1
        have hbox1 := hbox.on hb1
        have q0 := hbox1.cell 0
        have q1 := hbox1.cell 1
        have q2 := hbox1.cell 2
        have q3 := hbox1.cell 3
        have q4 := hbox1.cell 4
        have ql := hbox1.lt
        go_wp2_with fail
        refine (caAt_any _ ([] : List En) 0 y.a y.b _ (Hr.out.on hb1')).mono ?_; rintro e w2 ⟨rfl, hb2⟩
        have hbt := bthen hb1' hb2
        have hblkt := hbox1.on hb2
        clear q0 q1 q2 q3 q4 ql hbox1 hb1 hb2 hb1' hbA hbox
        rw [Hat.out]
        go_wp2
        generalize w2 = wt at hbt hblkt ⊢
        have r0 := hblkt.cell 0
        have r1 := hblkt.cell 1
        have r2 := hblkt.cell 2
        have r3 := hblkt.cell 3
        have r4 := hblkt.cell 4
        have rl := hblkt.lt
        have HS : Hid (∀ w', Below wt.heap.size wt w' → (w'.cell? ⟨w.heap.size, 0, none⟩ = some (.int .i64 y.a) ∧ w'.cell? ⟨w.heap.size, 1, none⟩ = some (.int .i64 y.b) ∧ w'.cell? ⟨w.heap.size, 2, none⟩ = some (.int .i64 y.lo) ∧ w'.cell? ⟨w.heap.size, 3, none⟩ = some (.int .i64 y.hi) ∧ w'.cell? ⟨w.heap.size, 4, none⟩ = some (.int .i64 y.to) ∧ Below wt.heap.size wt w')) := Lib.hid (fun w' hw => ⟨(hw.cell (p := ⟨w.heap.size, 0, none⟩) rl).trans r0, (hw.cell (p := ⟨w.heap.size, 1, none⟩) rl).trans r1, (hw.cell (p := ⟨w.heap.size, 2, none⟩) rl).trans r2, (hw.cell (p := ⟨w.heap.size, 3, none⟩) rl).trans r3, (hw.cell (p := ⟨w.heap.size, 4, none⟩) rl).trans r4, hw⟩)
        have Hl1 : Hid ((enS.flat (([] : List En).take 0)).length = (0) * 5) := Lib.hid (by first | (rw [Shape.length_flat, List.length_take, Nat.min_eq_left (by omega)]; rfl) | (simp [Shape.flat]; done))
        have Hl3 : Hid ((enS.flat ([])).length = (0) * 5) := Lib.hid (by first | (rw [Shape.length_flat, List.length_drop]; rfl) | (simp [Shape.flat]; done) | (simp [Shape.flat]; omega))
        have Hm1 : Hid (0 + 0 ≤ maxLen) := Lib.hid (by unfold maxLen; omega)
        have Hy1 : Hid ((0 + 0) * 40 ≤ 140737488355328) := Lib.hid (by omega)
        have Hm2 : Hid (0 + 0 + 1 ≤ maxLen) := Lib.hid (by unfold maxLen; omega)
        have Hy2 : Hid ((0 + 0 + 1) * 40 ≤ 140737488355328) := Lib.hid (by omega)
        have Hm3 : Hid (0 + 0 + 1 + (0) ≤ maxLen) := Lib.hid (by unfold maxLen; omega)
        have Hy3 : Hid ((0 + 0 + 1 + (0)) * 40 ≤ 140737488355328) := Lib.hid (by omega)
        go_region_held3 (fun w' => w'.cell? ⟨w.heap.size, 0, none⟩ = some (.int .i64 y.a) ∧ w'.cell? ⟨w.heap.size, 1, none⟩ = some (.int .i64 y.b) ∧ w'.cell? ⟨w.heap.size, 2, none⟩ = some (.int .i64 y.lo) ∧ w'.cell? ⟨w.heap.size, 3, none⟩ = some (.int .i64 y.hi) ∧ w'.cell? ⟨w.heap.size, 4, none⟩ = some (.int .i64 y.to) ∧ Below wt.heap.size wt w') ((go_split_ands; refine HS.out _ ?_; repeat (first | (with_reducible assumption) | (with_reducible exact Below.refl _ _) | (with_reducible refine Below.drew ?_) | (with_reducible refine bal ?_ _)))) ((first | (refine step_append_src (by rfl) _ _ 23 (by rfl) 29 i0 (.agg #[.int .i64 0, .int .i64 0, .int .i64 0, .int .i64 0, .int .i64 0]) 5 40 Tryz.underlying23 hi hz0 hz1 hz2 rfl (by decide) wt (by (try go_split_ands); with_reducible assumption) _ 0 [] (by rfl) (by first | exact own_empty (by simp) | exact own_empty1 (by simp) | exact (own_empty (by simp)).alloc _) (_) (0) (_) (enS.flat (([] : List En).take 0)) (by rfl) Hl1.out (fun _ => rfl) (fun a => en_src0 a) (en_one _) Hm1.out Hy1.out ?_; intro v1 w1 ho1 hbA1 hk1) | (refine step_append_src (by rfl) _ _ 23 (by rfl) 29 i0 (.agg #[.int .i64 0, .int .i64 0, .int .i64 0, .int .i64 0, .int .i64 0]) 5 40 Tryz.underlying23 hi hz0 hz1 hz2 rfl (by decide) wt (by (try go_split_ands); with_reducible assumption) v1 (0 + 0) ([] ++ enS.flat (([] : List En).take 0)) (by rfl) (by first | with_reducible exact ho1 | with_reducible exact ho1.alloc _) _ 1 _ (enS.flat [y]) (by rfl) rfl (by intro h; cases h) (lit_src (oneEn_cells (by first | exact Blk.new _ _ _ | exact hk1 _ _ _ (Blk.new1 _ _ _ _) (ob_ne (by rfl) (by first | omega | (simp; done) | (simp; omega))) | exact hk1 _ _ _ (Blk.new _ _ _) (ob_ne (by rfl) (by first | omega | (simp; done) | (simp; omega))) | exact hk1 _ _ _ (Blk.alloc (Blk.new _ _ _) _) (ob_ne (by rfl) (by first | omega | (simp; done) | (simp; omega)))))) (en_one _) Hm2.out Hy2.out ?_; intro v2 w2 ho2 hbA2 hk2) | (refine step_append_src (by rfl) _ _ 23 (by rfl) 29 i0 (.agg #[.int .i64 0, .int .i64 0, .int .i64 0, .int .i64 0, .int .i64 0]) 5 40 Tryz.underlying23 hi hz0 hz1 hz2 rfl (by decide) wt (by (try go_split_ands); with_reducible assumption) v2 (0 + 0 + 1) ([] ++ enS.flat (([] : List En).take 0) ++ enS.flat [y]) (by rfl) (by with_reducible exact ho2) (_) (0) (_) (enS.flat ([])) (by rfl) Hl3.out (fun _ => rfl) (fun a => en_src0 a) (en_one _) Hm3.out Hy3.out ?_; intro v3 w3 ho3 hbA3 hk3)))
        all_goals
          go_wp2
          go_ret2
          exact ⟨⟨_, ins [] 0 y, true, rfl, by rw [Ht.out, Hpl.out, Hat.out]; rfl, (fun h => by cases h), putE_end (es := []) (D := []) (k := 0) (Nat.le_refl _) rfl (own_mono ho3 hbt.size)⟩, bthen hbt hbA3⟩
      | some a =>
        go_enter Tryz.func149, Tryz.ntmps149
        go_wp2_with fail
        refine (caPlace_any _ ([] : List En) y.a y.b _ (Hr.out.on hbA) Hval.out Hcu.out).mono ?_; rintro e w1 ⟨rfl, hb1⟩
        rw [Hpl.out]
        have hb1' := bthen hbA hb1
        have hbox1 := hbox.on hb1
        have q0 := hbox1.cell 0
        have q1 := hbox1.cell 1
        have q2 := hbox1.cell 2
        have q3 := hbox1.cell 3
        have q4 := hbox1.cell 4
        have ql := hbox1.lt
        go_wp2_with fail
        refine (caAt_any _ ([] : List En) 0 y.a y.b _ (Hr.out.on hb1')).mono ?_; rintro e w2 ⟨rfl, hb2⟩
        have hbt := bthen hb1' hb2
        have hblkt := hbox1.on hb2
        clear q0 q1 q2 q3 q4 ql hbox1 hb1 hb2 hb1' hbA hbox
        rw [Hat.out]
        go_wp2
        generalize w2 = wt at hbt hblkt ⊢
        have r0 := hblkt.cell 0
        have r1 := hblkt.cell 1
        have r2 := hblkt.cell 2
        have r3 := hblkt.cell 3
        have r4 := hblkt.cell 4
        have rl := hblkt.lt
        have HS : Hid (∀ w', Below wt.heap.size wt w' → (w'.cell? ⟨w.heap.size, 0, none⟩ = some (.int .i64 y.a) ∧ w'.cell? ⟨w.heap.size, 1, none⟩ = some (.int .i64 y.b) ∧ w'.cell? ⟨w.heap.size, 2, none⟩ = some (.int .i64 y.lo) ∧ w'.cell? ⟨w.heap.size, 3, none⟩ = some (.int .i64 y.hi) ∧ w'.cell? ⟨w.heap.size, 4, none⟩ = some (.int .i64 y.to) ∧ Below wt.heap.size wt w')) := Lib.hid (fun w' hw => ⟨(hw.cell (p := ⟨w.heap.size, 0, none⟩) rl).trans r0, (hw.cell (p := ⟨w.heap.size, 1, none⟩) rl).trans r1, (hw.cell (p := ⟨w.heap.size, 2, none⟩) rl).trans r2, (hw.cell (p := ⟨w.heap.size, 3, none⟩) rl).trans r3, (hw.cell (p := ⟨w.heap.size, 4, none⟩) rl).trans r4, hw⟩)
        have Hl1 : Hid ((enS.flat (([] : List En).take 0)).length = (0) * 5) := Lib.hid (by first | (rw [Shape.length_flat, List.length_take, Nat.min_eq_left (by omega)]; rfl) | (simp [Shape.flat]; done))
        have Hl3 : Hid ((enS.flat ([])).length = (0) * 5) := Lib.hid (by first | (rw [Shape.length_flat, List.length_drop]; rfl) | (simp [Shape.flat]; done) | (simp [Shape.flat]; omega))
        have Hm1 : Hid (0 + 0 ≤ maxLen) := Lib.hid (by unfold maxLen; omega)
        have Hy1 : Hid ((0 + 0) * 40 ≤ 140737488355328) := Lib.hid (by omega)
        have Hm2 : Hid (0 + 0 + 1 ≤ maxLen) := Lib.hid (by unfold maxLen; omega)
        have Hy2 : Hid ((0 + 0 + 1) * 40 ≤ 140737488355328) := Lib.hid (by omega)
        have Hm3 : Hid (0 + 0 + 1 + (0) ≤ maxLen) := Lib.hid (by unfold maxLen; omega)
        have Hy3 : Hid ((0 + 0 + 1 + (0)) * 40 ≤ 140737488355328) := Lib.hid (by omega)
        go_region_held3 (fun w' => w'.cell? ⟨w.heap.size, 0, none⟩ = some (.int .i64 y.a) ∧ w'.cell? ⟨w.heap.size, 1, none⟩ = some (.int .i64 y.b) ∧ w'.cell? ⟨w.heap.size, 2, none⟩ = some (.int .i64 y.lo) ∧ w'.cell? ⟨w.heap.size, 3, none⟩ = some (.int .i64 y.hi) ∧ w'.cell? ⟨w.heap.size, 4, none⟩ = some (.int .i64 y.to) ∧ Below wt.heap.size wt w') ((go_split_ands; refine HS.out _ ?_; repeat (first | (with_reducible assumption) | (with_reducible exact Below.refl _ _) | (with_reducible refine Below.drew ?_) | (with_reducible refine bal ?_ _)))) ((first | (refine step_append_src (by rfl) _ _ 23 (by rfl) 29 i0 (.agg #[.int .i64 0, .int .i64 0, .int .i64 0, .int .i64 0, .int .i64 0]) 5 40 Tryz.underlying23 hi hz0 hz1 hz2 rfl (by decide) wt (by (try go_split_ands); with_reducible assumption) _ 0 [] (by rfl) (by first | exact own_empty (by simp) | exact own_empty1 (by simp) | exact (own_empty (by simp)).alloc _) (_) (0) (_) (enS.flat (([] : List En).take 0)) (by rfl) Hl1.out (fun _ => rfl) (fun a => en_src0 a) (en_one _) Hm1.out Hy1.out ?_; intro v1 w1 ho1 hbA1 hk1) | (refine step_append_src (by rfl) _ _ 23 (by rfl) 29 i0 (.agg #[.int .i64 0, .int .i64 0, .int .i64 0, .int .i64 0, .int .i64 0]) 5 40 Tryz.underlying23 hi hz0 hz1 hz2 rfl (by decide) wt (by (try go_split_ands); with_reducible assumption) v1 (0 + 0) ([] ++ enS.flat (([] : List En).take 0)) (by rfl) (by first | with_reducible exact ho1 | with_reducible exact ho1.alloc _) _ 1 _ (enS.flat [y]) (by rfl) rfl (by intro h; cases h) (lit_src (oneEn_cells (by first | exact Blk.new _ _ _ | exact hk1 _ _ _ (Blk.new1 _ _ _ _) (ob_ne (by rfl) (by first | omega | (simp; done) | (simp; omega))) | exact hk1 _ _ _ (Blk.new _ _ _) (ob_ne (by rfl) (by first | omega | (simp; done) | (simp; omega))) | exact hk1 _ _ _ (Blk.alloc (Blk.new _ _ _) _) (ob_ne (by rfl) (by first | omega | (simp; done) | (simp; omega)))))) (en_one _) Hm2.out Hy2.out ?_; intro v2 w2 ho2 hbA2 hk2) | (refine step_append_src (by rfl) _ _ 23 (by rfl) 29 i0 (.agg #[.int .i64 0, .int .i64 0, .int .i64 0, .int .i64 0, .int .i64 0]) 5 40 Tryz.underlying23 hi hz0 hz1 hz2 rfl (by decide) wt (by (try go_split_ands); with_reducible assumption) v2 (0 + 0 + 1) ([] ++ enS.flat (([] : List En).take 0) ++ enS.flat [y]) (by rfl) (by with_reducible exact ho2) (_) (0) (_) (enS.flat ([])) (by rfl) Hl3.out (fun _ => rfl) (fun a => en_src0 a) (en_one _) Hm3.out Hy3.out ?_; intro v3 w3 ho3 hbA3 hk3)))
        all_goals
          go_wp2
          go_ret2
          exact ⟨⟨_, ins [] 0 y, true, rfl, by rw [Ht.out, Hpl.out, Hat.out]; rfl, (fun h => by cases h), putE_end (es := []) (D := []) (k := 0) (Nat.le_refl _) rfl (own_mono ho3 hbt.size)⟩, bthen hbt hbA3⟩
  · obtain ⟨g, off, rfl, hg, hcell⟩ := hA h0
    clear hA
    have hcell := en_cells hcell
    obtain ⟨k, hpl⟩ : ∃ k, placeN es y.a y.b = k := ⟨_, rfl⟩
    rw [hpl] at hk
    rw [hpl] at Hnat
    have Hpl := Lib.hid hpl; clear hpl
    have t1 : (0 : Int) ≤ (k : Int) := by omega
    have t2 : (k : Int) ≤ (c : Int) := by omega
    have t3 : (k : Int) ≤ (es.length : Int) := by omega
    cases hat : atB es k y.a y.b
    · have Hat := Lib.hid hat; clear hat
      by_cases hck : c = k
      · obtain rfl : k = es.length := by omega
        subst hck
        go_enter Tryz.func149, Tryz.ntmps149
        go_wp2_with fail
        refine (caPlace_any _ es y.a y.b _ (Hr.out.on hbA) Hval.out Hcu.out).mono ?_; rintro e w1 ⟨rfl, hb1⟩
        rw [Hpl.out]
        have hb1' := bthen hbA hb1
        have hbox1 := hbox.on hb1
        have q0 := hbox1.cell 0
        have q1 := hbox1.cell 1
        have q2 := hbox1.cell 2
        have q3 := hbox1.cell 3
        have q4 := hbox1.cell 4
        have ql := hbox1.lt
        go_wp2_with fail
        refine (caAt_any _ es es.length y.a y.b _ (Hr.out.on hb1')).mono ?_; rintro e w2 ⟨rfl, hb2⟩
        have hbt := bthen hb1' hb2
        have hblkt := hbox1.on hb2
        clear q0 q1 q2 q3 q4 ql hbox1 hb1 hb2 hb1' hbA hbox
        rw [Hat.out]
        go_wp2
        generalize w2 = wt at hbt hblkt ⊢
        have HRt := Lib.hid (Hr.out.on hbt)
        clear hcell
        have r0 := hblkt.cell 0
        have r1 := hblkt.cell 1
        have r2 := hblkt.cell 2
        have r3 := hblkt.cell 3
        have r4 := hblkt.cell 4
        have rl := hblkt.lt
        have HS : Hid (∀ w', Below wt.heap.size wt w' → (w'.cell? ⟨w.heap.size, 0, none⟩ = some (.int .i64 y.a) ∧ w'.cell? ⟨w.heap.size, 1, none⟩ = some (.int .i64 y.b) ∧ w'.cell? ⟨w.heap.size, 2, none⟩ = some (.int .i64 y.lo) ∧ w'.cell? ⟨w.heap.size, 3, none⟩ = some (.int .i64 y.hi) ∧ w'.cell? ⟨w.heap.size, 4, none⟩ = some (.int .i64 y.to) ∧ Below wt.heap.size wt w')) := Lib.hid (fun w' hw => ⟨(hw.cell (p := ⟨w.heap.size, 0, none⟩) rl).trans r0, (hw.cell (p := ⟨w.heap.size, 1, none⟩) rl).trans r1, (hw.cell (p := ⟨w.heap.size, 2, none⟩) rl).trans r2, (hw.cell (p := ⟨w.heap.size, 3, none⟩) rl).trans r3, (hw.cell (p := ⟨w.heap.size, 4, none⟩) rl).trans r4, hw⟩)
        have Hl1 : Hid ((enS.flat (es.take es.length)).length = (es.length) * 5) := Lib.hid (by first | (rw [Shape.length_flat, List.length_take, Nat.min_eq_left (by omega)]; rfl) | (simp [Shape.flat]; done))
        have Hl3 : Hid ((enS.flat ([])).length = (0) * 5) := Lib.hid (by first | (rw [Shape.length_flat, List.length_drop]; rfl) | (simp [Shape.flat]; done) | (simp [Shape.flat]; omega))
        have HA1 : Hid ((some ⟨g, off, none⟩ : Option Addr) = none → (es.length) = 0) := Lib.hid (by intro h; first | cases h | omega)
        have Hs1 := Lib.hid (en_src HRt.out es.length)
        have Hm1 : Hid (0 + es.length ≤ maxLen) := Lib.hid (by unfold maxLen; omega)
        have Hy1 : Hid ((0 + es.length) * 40 ≤ 140737488355328) := Lib.hid (by omega)
        have Hm2 : Hid (0 + es.length + 1 ≤ maxLen) := Lib.hid (by unfold maxLen; omega)
        have Hy2 : Hid ((0 + es.length + 1) * 40 ≤ 140737488355328) := Lib.hid (by omega)
        have Hm3 : Hid (0 + es.length + 1 + (0) ≤ maxLen) := Lib.hid (by unfold maxLen; omega)
        have Hy3 : Hid ((0 + es.length + 1 + (0)) * 40 ≤ 140737488355328) := Lib.hid (by omega)
        go_region_held3 (fun w' => w'.cell? ⟨w.heap.size, 0, none⟩ = some (.int .i64 y.a) ∧ w'.cell? ⟨w.heap.size, 1, none⟩ = some (.int .i64 y.b) ∧ w'.cell? ⟨w.heap.size, 2, none⟩ = some (.int .i64 y.lo) ∧ w'.cell? ⟨w.heap.size, 3, none⟩ = some (.int .i64 y.hi) ∧ w'.cell? ⟨w.heap.size, 4, none⟩ = some (.int .i64 y.to) ∧ Below wt.heap.size wt w') ((go_split_ands; refine HS.out _ ?_; repeat (first | (with_reducible assumption) | (with_reducible exact Below.refl _ _) | (with_reducible refine Below.drew ?_) | (with_reducible refine bal ?_ _)))) ((first | (refine step_append_src (by rfl) _ _ 23 (by rfl) 29 i0 (.agg #[.int .i64 0, .int .i64 0, .int .i64 0, .int .i64 0, .int .i64 0]) 5 40 Tryz.underlying23 hi hz0 hz1 hz2 rfl (by decide) wt (by (try go_split_ands); with_reducible assumption) _ 0 [] (by rfl) (by first | exact own_empty (by simp) | exact own_empty1 (by simp) | exact (own_empty (by simp)).alloc _) (some ⟨g, off, none⟩) (es.length) (_) (enS.flat (es.take es.length)) (by rfl) Hl1.out (HA1.out) (src_below (by (try go_split_ands); with_reducible assumption) Hs1.out) (en_one _) Hm1.out Hy1.out ?_; intro v1 w1 ho1 hbA1 hk1) | (refine step_append_src (by rfl) _ _ 23 (by rfl) 29 i0 (.agg #[.int .i64 0, .int .i64 0, .int .i64 0, .int .i64 0, .int .i64 0]) 5 40 Tryz.underlying23 hi hz0 hz1 hz2 rfl (by decide) wt (by (try go_split_ands); with_reducible assumption) v1 (0 + es.length) ([] ++ enS.flat (es.take es.length)) (by rfl) (by first | with_reducible exact ho1 | with_reducible exact ho1.alloc _) _ 1 _ (enS.flat [y]) (by rfl) rfl (by intro h; cases h) (lit_src (oneEn_cells (by first | exact Blk.new _ _ _ | exact hk1 _ _ _ (Blk.new1 _ _ _ _) (ob_ne (by rfl) (by first | omega | (simp; done) | (simp; omega))) | exact hk1 _ _ _ (Blk.new _ _ _) (ob_ne (by rfl) (by first | omega | (simp; done) | (simp; omega))) | exact hk1 _ _ _ (Blk.alloc (Blk.new _ _ _) _) (ob_ne (by rfl) (by first | omega | (simp; done) | (simp; omega)))))) (en_one _) Hm2.out Hy2.out ?_; intro v2 w2 ho2 hbA2 hk2) | (refine step_append_src (by rfl) _ _ 23 (by rfl) 29 i0 (.agg #[.int .i64 0, .int .i64 0, .int .i64 0, .int .i64 0, .int .i64 0]) 5 40 Tryz.underlying23 hi hz0 hz1 hz2 rfl (by decide) wt (by (try go_split_ands); with_reducible assumption) v2 (0 + es.length + 1) ([] ++ enS.flat (es.take es.length) ++ enS.flat [y]) (by rfl) (by with_reducible exact ho2) (_) (0) (_) (enS.flat ([])) (by rfl) Hl3.out (fun _ => rfl) (fun a => en_src0 a) (en_one _) Hm3.out Hy3.out ?_; intro v3 w3 ho3 hbA3 hk3)))
        all_goals
          go_wp2
          go_ret2
          exact ⟨⟨_, ins es es.length y, true, rfl, by rw [Ht.out, Hpl.out, Hat.out]; rfl, (fun h => by cases h), by unfold ins; rw [List.drop_length]; exact putE_end (Nat.le_refl _) rfl (own_mono ho3 hbt.size)⟩, bthen hbt hbA3⟩
      · go_enter Tryz.func149, Tryz.ntmps149
        go_wp2_with fail
        refine (caPlace_any _ es y.a y.b _ (Hr.out.on hbA) Hval.out Hcu.out).mono ?_; rintro e w1 ⟨rfl, hb1⟩
        rw [Hpl.out]
        have hb1' := bthen hbA hb1
        have hbox1 := hbox.on hb1
        have q0 := hbox1.cell 0
        have q1 := hbox1.cell 1
        have q2 := hbox1.cell 2
        have q3 := hbox1.cell 3
        have q4 := hbox1.cell 4
        have ql := hbox1.lt
        go_wp2_with fail
        refine (caAt_any _ es k y.a y.b _ (Hr.out.on hb1')).mono ?_; rintro e w2 ⟨rfl, hb2⟩
        have hbt := bthen hb1' hb2
        have hblkt := hbox1.on hb2
        clear q0 q1 q2 q3 q4 ql hbox1 hb1 hb2 hb1' hbA hbox
        rw [Hat.out]
        go_wp2
        generalize w2 = wt at hbt hblkt ⊢
        have HRt := Lib.hid (Hr.out.on hbt)
        clear hcell
        have r0 := hblkt.cell 0
        have r1 := hblkt.cell 1
        have r2 := hblkt.cell 2
        have r3 := hblkt.cell 3
        have r4 := hblkt.cell 4
        have rl := hblkt.lt
        have t1 : (0 : Int) ≤ ((k : Nat) : Int) := by omega
        have t2 : ((k : Nat) : Int) ≤ (c : Int) := by omega
        have t3 : ((k : Nat) : Int) ≤ (es.length : Int) := by omega
        have HS : Hid (∀ w', Below wt.heap.size wt w' → (w'.cell? ⟨w.heap.size, 0, none⟩ = some (.int .i64 y.a) ∧ w'.cell? ⟨w.heap.size, 1, none⟩ = some (.int .i64 y.b) ∧ w'.cell? ⟨w.heap.size, 2, none⟩ = some (.int .i64 y.lo) ∧ w'.cell? ⟨w.heap.size, 3, none⟩ = some (.int .i64 y.hi) ∧ w'.cell? ⟨w.heap.size, 4, none⟩ = some (.int .i64 y.to) ∧ Below wt.heap.size wt w')) := Lib.hid (fun w' hw => ⟨(hw.cell (p := ⟨w.heap.size, 0, none⟩) rl).trans r0, (hw.cell (p := ⟨w.heap.size, 1, none⟩) rl).trans r1, (hw.cell (p := ⟨w.heap.size, 2, none⟩) rl).trans r2, (hw.cell (p := ⟨w.heap.size, 3, none⟩) rl).trans r3, (hw.cell (p := ⟨w.heap.size, 4, none⟩) rl).trans r4, hw⟩)
        have Hl1 : Hid ((enS.flat (es.take k)).length = (k) * 5) := Lib.hid (by first | (rw [Shape.length_flat, List.length_take, Nat.min_eq_left (by omega)]; rfl) | (simp [Shape.flat]; done))
        have Hl3 : Hid ((enS.flat (es.drop k)).length = (es.length - k) * 5) := Lib.hid (by first | (rw [Shape.length_flat, List.length_drop]; rfl) | (simp [Shape.flat]; done) | (simp [Shape.flat]; omega))
        have HA1 : Hid ((some ⟨g, off, none⟩ : Option Addr) = none → (k) = 0) := Lib.hid (by intro h; first | cases h | omega)
        have HA3 : Hid ((some ⟨g, off + k * 5, none⟩ : Option Addr) = none → (es.length - k) = 0) := Lib.hid (by intro h; first | cases h | omega)
        have Hs1 := Lib.hid (en_src HRt.out k)
        have Hs3 := Lib.hid (en_src2 HRt.out k hk)
        have Hm1 : Hid (0 + k ≤ maxLen) := Lib.hid (by unfold maxLen; omega)
        have Hy1 : Hid ((0 + k) * 40 ≤ 140737488355328) := Lib.hid (by omega)
        have Hm2 : Hid (0 + k + 1 ≤ maxLen) := Lib.hid (by unfold maxLen; omega)
        have Hy2 : Hid ((0 + k + 1) * 40 ≤ 140737488355328) := Lib.hid (by omega)
        have Hm3 : Hid (0 + k + 1 + (es.length - k) ≤ maxLen) := Lib.hid (by unfold maxLen; omega)
        have Hy3 : Hid ((0 + k + 1 + (es.length - k)) * 40 ≤ 140737488355328) := Lib.hid (by omega)
        go_region_held3 (fun w' => w'.cell? ⟨w.heap.size, 0, none⟩ = some (.int .i64 y.a) ∧ w'.cell? ⟨w.heap.size, 1, none⟩ = some (.int .i64 y.b) ∧ w'.cell? ⟨w.heap.size, 2, none⟩ = some (.int .i64 y.lo) ∧ w'.cell? ⟨w.heap.size, 3, none⟩ = some (.int .i64 y.hi) ∧ w'.cell? ⟨w.heap.size, 4, none⟩ = some (.int .i64 y.to) ∧ Below wt.heap.size wt w') ((go_split_ands; refine HS.out _ ?_; repeat (first | (with_reducible assumption) | (with_reducible exact Below.refl _ _) | (with_reducible refine Below.drew ?_) | (with_reducible refine bal ?_ _)))) ((first | (refine step_append_src (by rfl) _ _ 23 (by rfl) 29 i0 (.agg #[.int .i64 0, .int .i64 0, .int .i64 0, .int .i64 0, .int .i64 0]) 5 40 Tryz.underlying23 hi hz0 hz1 hz2 rfl (by decide) wt (by (try go_split_ands); with_reducible assumption) _ 0 [] (by rfl) (by first | exact own_empty (by simp) | exact own_empty1 (by simp) | exact (own_empty (by simp)).alloc _) (some ⟨g, off, none⟩) (k) (c) (enS.flat (es.take k)) (by rfl) Hl1.out (HA1.out) (src_below (by (try go_split_ands); with_reducible assumption) Hs1.out) (en_one _) Hm1.out Hy1.out ?_; intro v1 w1 ho1 hbA1 hk1) | (refine step_append_src (by rfl) _ _ 23 (by rfl) 29 i0 (.agg #[.int .i64 0, .int .i64 0, .int .i64 0, .int .i64 0, .int .i64 0]) 5 40 Tryz.underlying23 hi hz0 hz1 hz2 rfl (by decide) wt (by (try go_split_ands); with_reducible assumption) v1 (0 + k) ([] ++ enS.flat (es.take k)) (by rfl) (by first | with_reducible exact ho1 | with_reducible exact ho1.alloc _) _ 1 _ (enS.flat [y]) (by rfl) rfl (by intro h; cases h) (lit_src (oneEn_cells (by first | exact Blk.new _ _ _ | exact hk1 _ _ _ (Blk.new1 _ _ _ _) (ob_ne (by rfl) (by first | omega | (simp; done) | (simp; omega))) | exact hk1 _ _ _ (Blk.new _ _ _) (ob_ne (by rfl) (by first | omega | (simp; done) | (simp; omega))) | exact hk1 _ _ _ (Blk.alloc (Blk.new _ _ _) _) (ob_ne (by rfl) (by first | omega | (simp; done) | (simp; omega)))))) (en_one _) Hm2.out Hy2.out ?_; intro v2 w2 ho2 hbA2 hk2) | (refine step_append_src (by rfl) _ _ 23 (by rfl) 29 i0 (.agg #[.int .i64 0, .int .i64 0, .int .i64 0, .int .i64 0, .int .i64 0]) 5 40 Tryz.underlying23 hi hz0 hz1 hz2 rfl (by decide) wt (by (try go_split_ands); with_reducible assumption) v2 (0 + k + 1) ([] ++ enS.flat (es.take k) ++ enS.flat [y]) (by rfl) (by with_reducible exact ho2) (some ⟨g, off + k * 5, none⟩) (es.length - k) (c - k) (enS.flat (es.drop k)) (by rfl) Hl3.out (HA3.out) (src_below (by (try go_split_ands); with_reducible assumption) Hs3.out) (en_one _) Hm3.out Hy3.out ?_; intro v3 w3 ho3 hbA3 hk3)))
        all_goals
          go_wp2
          go_ret2
          exact ⟨⟨_, ins es k y, true, rfl, by rw [Ht.out, Hpl.out, Hat.out]; rfl, (fun h => by cases h), putE_end hk (List.length_drop ..) (own_mono ho3 hbt.size)⟩, bthen hbt hbA3⟩
    · rw [Hnat.out] at hat; cases hat
end
section
open Go Go.RowKit

set_option maxRecDepth 8000 in
set_option maxHeartbeats 2400000 in
theorem caTighten_met (v : Value) (es : List En) (y : En) (w : World) (h : Rd enS w w.heap.size v es) (hlen : es.length ≤ 1000) (hval : okCat es) (hy : entE y = true) (hyat : atB es (placeN es y.a y.b) y.a y.b = true) :
    Calls Tryz.prog 149 #[v, .agg #[.int .i64 y.a, .int .i64 y.b, .int .i64 y.lo, .int .i64 y.hi, .int .i64 y.to]] w fun r w' =>
      (∃ (v' : Value) (z : List En) (b : Bool), r = .returned (.tuple #[v', .bool b]) ∧ tightO es y = (if b then some z else none) ∧ (b = false → z = []) ∧ w'.ownsRow w.heap.size 29 5 v' z.length (enS.flat z)) ∧ Below w.heap.size w w' := by
  obtain ⟨i0, hi, hz0, hz1, hz2⟩ := info_parts infoEn2
  have Hr := Lib.hid h
  obtain ⟨A, c, rfl, hcc, hm, hA⟩ := h
  unfold maxLen at hm
  have hbA : Below w.heap.size w (w.alloc _) := bal (Below.refl _ _) (Obj.cells #[.int .i64 y.a, .int .i64 y.b, .int .i64 y.lo, .int .i64 y.hi, .int .i64 y.to] 29)
  have hbox : Blk _ w.heap.size 29 #[.int .i64 y.a, .int .i64 y.b, .int .i64 y.lo, .int .i64 y.hi, .int .i64 y.to] := Blk.new w _ _
  have Hval := Lib.hid hval; clear hval
  have Hcu := Lib.hid (entB_curve hy)
  have hyto := (entB_bd hy).2.2.2.1
  have Hto := Lib.hid hyto; clear hyto hy
  have Ht := Lib.hid (show tightO es y = if atB es (placeN es y.a y.b) y.a y.b then if okMeet (enS.get es (placeN es y.a y.b)) y then some (swapE es (placeN es y.a y.b) (meetE (enS.get es (placeN es y.a y.b)) y)) else none else some (ins es (placeN es y.a y.b) y) from rfl)
  have hk := (placeN_spec es y).1

  have h0 : 0 < es.length := by have := (atB_spec hyat).1; omega
  obtain ⟨g, off, rfl, hg, hcell⟩ := hA h0
  clear hA
  have hcell := en_cells hcell
  obtain ⟨k, hpl⟩ : ∃ k, placeN es y.a y.b = k := ⟨_, rfl⟩
  rw [hpl] at hk hyat
  have hat := hyat
  clear hyat
  have Hpl := Lib.hid hpl; clear hpl
  have t1 : (0 : Int) ≤ (k : Int) := by omega
  have t2 : (k : Int) ≤ (c : Int) := by omega
  have t3 : (k : Int) ≤ (es.length : Int) := by omega
  have hlt := (atB_spec hat).1
  have Hat := Lib.hid hat; clear hat
  have hto := (entB_bd (okAt_ent (Hval.out k hlt))).2.2.2.1
  obtain ⟨f0, f1, f2, f3, f4⟩ := hcell k hlt
  clear hcell
  generalize hx : enS.get es k = x at f0 f1 f2 f3 f4 hto
  have Hx := Lib.hid hx; clear hx
  have Hxto := Lib.hid hto; clear hto
  have hi1 : (k : Int) < (es.length : Int) := by omega
  go_enter Tryz.func149, Tryz.ntmps149
  go_wp2_with fail
  refine (caPlace_any _ es y.a y.b _ (Hr.out.on hbA) Hval.out Hcu.out).mono ?_; rintro e w1 ⟨rfl, hb1⟩
  rw [Hpl.out]
  have hb1' := bthen hbA hb1
  have hbox1 := hbox.on hb1
  have q0 := hbox1.cell 0
  have q1 := hbox1.cell 1
  have q2 := hbox1.cell 2
  have q3 := hbox1.cell 3
  have q4 := hbox1.cell 4
  have ql := hbox1.lt
  go_wp2_with fail
  refine (caAt_any _ es k y.a y.b _ (Hr.out.on hb1')).mono ?_; rintro e w2 ⟨rfl, hb2⟩
  have hbt := bthen hb1' hb2
  have hblkt := hbox1.on hb2
  clear q0 q1 q2 q3 q4 ql hbox1 hb1 hb2 hb1' hbA hbox
  rw [Hat.out]
  have hg2 : g < w2.heap.size := Nat.lt_of_lt_of_le hg hbt.size
  rw [← hbt.cell (p := ⟨_, _, _⟩) hg] at f0 f1 f2 f3 f4
  have HS : Hid (∀ w', Below w2.heap.size w2 w' → (w'.cell? ⟨g, off + k * 5, none⟩ = some (.int .i64 x.a) ∧ w'.cell? ⟨g, off + k * 5 + 1, none⟩ = some (.int .i64 x.b) ∧ w'.cell? ⟨g, off + k * 5 + 2, none⟩ = some (.int .i64 x.lo) ∧ w'.cell? ⟨g, off + k * 5 + 3, none⟩ = some (.int .i64 x.hi) ∧ w'.cell? ⟨g, off + k * 5 + 4, none⟩ = some (.int .i64 x.to) ∧ w'.cell? ⟨w.heap.size, 0, none⟩ = some (.int .i64 y.a) ∧ w'.cell? ⟨w.heap.size, 1, none⟩ = some (.int .i64 y.b) ∧ w'.cell? ⟨w.heap.size, 2, none⟩ = some (.int .i64 y.lo) ∧ w'.cell? ⟨w.heap.size, 3, none⟩ = some (.int .i64 y.hi) ∧ w'.cell? ⟨w.heap.size, 4, none⟩ = some (.int .i64 y.to) ∧ Below w2.heap.size w2 w')) := Lib.hid (fun w' hw => ⟨(hw.cell (p := ⟨g, off + k * 5, none⟩) hg2).trans f0, (hw.cell (p := ⟨g, off + k * 5 + 1, none⟩) hg2).trans f1, (hw.cell (p := ⟨g, off + k * 5 + 2, none⟩) hg2).trans f2, (hw.cell (p := ⟨g, off + k * 5 + 3, none⟩) hg2).trans f3, (hw.cell (p := ⟨g, off + k * 5 + 4, none⟩) hg2).trans f4, (hw.cell (p := ⟨w.heap.size, 0, none⟩) hblkt.lt).trans (hblkt.cell 0), (hw.cell (p := ⟨w.heap.size, 1, none⟩) hblkt.lt).trans (hblkt.cell 1), (hw.cell (p := ⟨w.heap.size, 2, none⟩) hblkt.lt).trans (hblkt.cell 2), (hw.cell (p := ⟨w.heap.size, 3, none⟩) hblkt.lt).trans (hblkt.cell 3), (hw.cell (p := ⟨w.heap.size, 4, none⟩) hblkt.lt).trans (hblkt.cell 4), hw⟩)
  go_wp2_with fail
  go_cut [8, 9] (fun p b wx => ∃ (q : Nat) (m : En), p = .pointer (some ⟨q, 0, none⟩) ∧ b = .bool (okMeet x y) ∧ (okMeet x y = true → m = meetE x y) ∧ Blk wx q 29 #[.int .i64 m.a, .int .i64 m.b, .int .i64 m.lo, .int .i64 m.hi, .int .i64 m.to] ∧ w2.heap.size ≤ q ∧ Below w2.heap.size w2 wx)
  case first =>
    go_region_held3 (fun w' => w'.cell? ⟨g, off + k * 5, none⟩ = some (.int .i64 x.a) ∧ w'.cell? ⟨g, off + k * 5 + 1, none⟩ = some (.int .i64 x.b) ∧ w'.cell? ⟨g, off + k * 5 + 2, none⟩ = some (.int .i64 x.lo) ∧ w'.cell? ⟨g, off + k * 5 + 3, none⟩ = some (.int .i64 x.hi) ∧ w'.cell? ⟨g, off + k * 5 + 4, none⟩ = some (.int .i64 x.to) ∧ w'.cell? ⟨w.heap.size, 0, none⟩ = some (.int .i64 y.a) ∧ w'.cell? ⟨w.heap.size, 1, none⟩ = some (.int .i64 y.b) ∧ w'.cell? ⟨w.heap.size, 2, none⟩ = some (.int .i64 y.lo) ∧ w'.cell? ⟨w.heap.size, 3, none⟩ = some (.int .i64 y.hi) ∧ w'.cell? ⟨w.heap.size, 4, none⟩ = some (.int .i64 y.to) ∧ Below w2.heap.size w2 w')
      ((go_split_ands; refine HS.out _ ?_; repeat (first | (with_reducible assumption) | (with_reducible exact Below.refl _ _) | (with_reducible refine Below.drew ?_) | (with_reducible refine bal ?_ _) | (with_reducible refine bst ?_ (by first | omega | (simp; done) | (simp; omega)) _) | (with_reducible refine bthen ?_ (by with_reducible assumption)))))
      ((first
        | (go_at_call 198; refine (caMeet_any x y _ Hxto.out Hto.out).mono ?_; rintro e w3 ⟨⟨m, rfl, hm3⟩, hb3⟩; (try (have hz3 : Blk w3 w2.heap.size 29 #[.int .i64 0, .int .i64 0, .int .i64 0, .int .i64 0, .int .i64 0] := (Blk.drew (Blk.new w2 29 #[.int .i64 0, .int .i64 0, .int .i64 0, .int .i64 0, .int .i64 0])).on hb3; have zc0 := hz3.cell 0; have zc1 := hz3.cell 1; have zc2 := hz3.cell 2; have zc3 := hz3.cell 3; have zc4 := hz3.cell 4; have zf0 := hz3.frozen 0; have zf1 := hz3.frozen 1; have zf2 := hz3.frozen 2; have zf3 := hz3.frozen 3; have zf4 := hz3.frozen 4; have zl := hz3.lt; have Hz3 := Lib.hid hz3; clear hz3)))))
    all_goals
      have Hm3 := Lib.hid hm3
      clear hm3
      go_wp2_with fail
      go_meet
      have hsz3 : Hid (w2.drew.heap.size ≤ w3.heap.size → w2.heap.size ≤ w3.heap.size) := Lib.hid (fun h => h)
      first
        | with_reducible exact ⟨_, m, rfl, rfl, Hm3.out, Blk.new _ _ _, hsz3.out hb3.size, by repeat (with_reducible first | exact Below.refl _ _ | refine Below.drew ?_ | refine bal ?_ _ | refine bthen ?_ hb3)⟩
        | exact ⟨_, m, rfl, rfl, Hm3.out, Blk.set5 Hz3.out, Nat.le_refl _, by repeat (with_reducible first | exact Below.refl _ _ | refine Below.drew ?_ | refine bal ?_ _ | (refine bst ?_ (by first | omega | (simp; done) | (simp; omega)) _) | refine bthen ?_ hb3)⟩
  obtain ⟨q, m, rfl, rfl, hm, hBm, hq, hbc⟩ := hcut
  have hbt' := bthen hbt hbc
  have hblk' := hblkt.on hbc
  clear HS f0 f1 f2 f3 f4 hblkt hbt hbc hg2
  have Hm := Lib.hid hm; clear hm
  cases hok : okMeet x y
  · have Hok := Lib.hid hok; clear hok
    clear hBm hblk'
    go_wp2
    go_ret2
    exact ⟨⟨_, [], false, rfl, by rw [Ht.out, Hpl.out, Hat.out, Hx.out, Hok.out]; rfl, fun _ => rfl, by simp [Shape.flat], Or.inl ⟨rfl, rfl⟩⟩, hbt'⟩
  · have Hok := Lib.hid hok; clear hok
    have Hme := Lib.hid (Hm.out Hok.out)
    have hk1 : k + 1 ≤ es.length := hlt
    have t4 : (0 : Int) ≤ (k : Int) + 1 := by omega
    have t5 : (k : Int) + 1 ≤ (c : Int) := by omega
    have t6 : (k : Int) + 1 ≤ (es.length : Int) := by omega
    have m0 := hBm.cell 0
    have m1 := hBm.cell 1
    have m2 := hBm.cell 2
    have m3 := hBm.cell 3
    have m4 := hBm.cell 4
    have ml := hBm.lt
    have q0 := hblk'.cell 0
    have q1 := hblk'.cell 1
    have q2 := hblk'.cell 2
    have q3 := hblk'.cell 3
    have q4 := hblk'.cell 4
    have ql := hblk'.lt
    have z0 := hblk'.frozen 0
    have z1 := hblk'.frozen 1
    have z2 := hblk'.frozen 2
    have z3 := hblk'.frozen 3
    have z4 := hblk'.frozen 4
    have hblkt : Blk (((((wc.setCell ⟨w.heap.size, 0, none⟩ (.int .i64 m.a)).setCell ⟨w.heap.size, 1, none⟩ (.int .i64 m.b)).setCell ⟨w.heap.size, 2, none⟩ (.int .i64 m.lo)).setCell ⟨w.heap.size, 3, none⟩ (.int .i64 m.hi)).setCell ⟨w.heap.size, 4, none⟩ (.int .i64 m.to)) w.heap.size 29 #[.int .i64 m.a, .int .i64 m.b, .int .i64 m.lo, .int .i64 m.hi, .int .i64 m.to] := Blk.set5 hblk'
    have hbt : Below w.heap.size w (((((wc.setCell ⟨w.heap.size, 0, none⟩ (.int .i64 m.a)).setCell ⟨w.heap.size, 1, none⟩ (.int .i64 m.b)).setCell ⟨w.heap.size, 2, none⟩ (.int .i64 m.lo)).setCell ⟨w.heap.size, 3, none⟩ (.int .i64 m.hi)).setCell ⟨w.heap.size, 4, none⟩ (.int .i64 m.to)) := by repeat (with_reducible first | exact hbt' | (refine bst ?_ (Nat.le_refl _) _))
    have Hblkt := Lib.hid hblkt; clear hblkt
    have Hbt := Lib.hid hbt; clear hbt
    by_cases hck : c = k + 1
    · have hd0 : es.drop (k + 1) = [] := List.drop_eq_nil_of_le (by omega)
      have Hd0 := Lib.hid hd0; clear hd0
      go_wp2
      have hblkt := Hblkt.out
      have hbt := Hbt.out
      clear Hblkt Hbt m0 q0 z0 m1 q1 z1 m2 q2 z2 m3 q3 z3 m4 q4 z4 ml ql hBm hblk'
      generalize hwt : (((((wc.setCell ⟨w.heap.size, 0, none⟩ (.int .i64 m.a)).setCell ⟨w.heap.size, 1, none⟩ (.int .i64 m.b)).setCell ⟨w.heap.size, 2, none⟩ (.int .i64 m.lo)).setCell ⟨w.heap.size, 3, none⟩ (.int .i64 m.hi)).setCell ⟨w.heap.size, 4, none⟩ (.int .i64 m.to)) = wt at hbt hblkt ⊢
      clear hwt
      have HRt := Lib.hid (Hr.out.on hbt)
      clear t1 t2 t3
      have r0 := hblkt.cell 0
      have r1 := hblkt.cell 1
      have r2 := hblkt.cell 2
      have r3 := hblkt.cell 3
      have r4 := hblkt.cell 4
      have rl := hblkt.lt
      have t1 : (0 : Int) ≤ (k : Int) := by omega
      have t2 : (k : Int) ≤ ((k + 1 : Nat) : Int) := by omega
      have t2a : (k : Int) ≤ (k : Int) + 1 := by omega
      have t2b : k ≤ k + 1 := by omega
      have t2c : (k : Int) ≤ (c : Int) := by omega
      have t3 : (k : Int) ≤ (es.length : Int) := by omega
      have HS : Hid (∀ w', Below wt.heap.size wt w' → (w'.cell? ⟨w.heap.size, 0, none⟩ = some (.int .i64 m.a) ∧ w'.cell? ⟨w.heap.size, 1, none⟩ = some (.int .i64 m.b) ∧ w'.cell? ⟨w.heap.size, 2, none⟩ = some (.int .i64 m.lo) ∧ w'.cell? ⟨w.heap.size, 3, none⟩ = some (.int .i64 m.hi) ∧ w'.cell? ⟨w.heap.size, 4, none⟩ = some (.int .i64 m.to) ∧ Below wt.heap.size wt w')) := Lib.hid (fun w' hw => ⟨(hw.cell (p := ⟨w.heap.size, 0, none⟩) rl).trans r0, (hw.cell (p := ⟨w.heap.size, 1, none⟩) rl).trans r1, (hw.cell (p := ⟨w.heap.size, 2, none⟩) rl).trans r2, (hw.cell (p := ⟨w.heap.size, 3, none⟩) rl).trans r3, (hw.cell (p := ⟨w.heap.size, 4, none⟩) rl).trans r4, hw⟩)
      have Hl1 : Hid ((enS.flat (es.take k)).length = (k) * 5) := Lib.hid (by first | (rw [Shape.length_flat, List.length_take, Nat.min_eq_left (by omega)]; rfl) | (simp [Shape.flat]; done))
      have Hl3 : Hid ((enS.flat ([])).length = (es.length - (k + 1)) * 5) := Lib.hid (by first | (rw [Shape.length_flat, List.length_drop]; rfl) | (simp [Shape.flat]; done) | (simp [Shape.flat]; omega))
      have HA1 : Hid ((some ⟨g, off, none⟩ : Option Addr) = none → (k) = 0) := Lib.hid (by intro h; first | cases h | omega)
      have Hs1 := Lib.hid (en_src HRt.out k)
      have Hm1 : Hid (0 + k ≤ maxLen) := Lib.hid (by unfold maxLen; omega)
      have Hy1 : Hid ((0 + k) * 40 ≤ 140737488355328) := Lib.hid (by omega)
      have Hm2 : Hid (0 + k + 1 ≤ maxLen) := Lib.hid (by unfold maxLen; omega)
      have Hy2 : Hid ((0 + k + 1) * 40 ≤ 140737488355328) := Lib.hid (by omega)
      have Hm3 : Hid (0 + k + 1 + (es.length - (k + 1)) ≤ maxLen) := Lib.hid (by unfold maxLen; omega)
      have Hy3 : Hid ((0 + k + 1 + (es.length - (k + 1))) * 40 ≤ 140737488355328) := Lib.hid (by omega)
      go_region_held3 (fun w' => w'.cell? ⟨w.heap.size, 0, none⟩ = some (.int .i64 m.a) ∧ w'.cell? ⟨w.heap.size, 1, none⟩ = some (.int .i64 m.b) ∧ w'.cell? ⟨w.heap.size, 2, none⟩ = some (.int .i64 m.lo) ∧ w'.cell? ⟨w.heap.size, 3, none⟩ = some (.int .i64 m.hi) ∧ w'.cell? ⟨w.heap.size, 4, none⟩ = some (.int .i64 m.to) ∧ Below wt.heap.size wt w') ((go_split_ands; refine HS.out _ ?_; repeat (first | (with_reducible assumption) | (with_reducible exact Below.refl _ _) | (with_reducible refine Below.drew ?_) | (with_reducible refine bal ?_ _)))) ((first | (refine step_append_src (by rfl) _ _ 23 (by rfl) 29 i0 (.agg #[.int .i64 0, .int .i64 0, .int .i64 0, .int .i64 0, .int .i64 0]) 5 40 Tryz.underlying23 hi hz0 hz1 hz2 rfl (by decide) wt (by (try go_split_ands); with_reducible assumption) _ 0 [] (by rfl) (by first | exact own_empty (by simp) | exact own_empty1 (by simp) | exact (own_empty (by simp)).alloc _) (some ⟨g, off, none⟩) (k) (_) (enS.flat (es.take k)) (by rfl) Hl1.out (HA1.out) (src_below (by (try go_split_ands); with_reducible assumption) Hs1.out) (en_one _) Hm1.out Hy1.out ?_; intro v1 w1 ho1 hbA1 hk1) | (refine step_append_src (by rfl) _ _ 23 (by rfl) 29 i0 (.agg #[.int .i64 0, .int .i64 0, .int .i64 0, .int .i64 0, .int .i64 0]) 5 40 Tryz.underlying23 hi hz0 hz1 hz2 rfl (by decide) wt (by (try go_split_ands); with_reducible assumption) v1 (0 + k) ([] ++ enS.flat (es.take k)) (by rfl) (by first | with_reducible exact ho1 | with_reducible exact ho1.alloc _) _ 1 _ (enS.flat [m]) (by rfl) rfl (by intro h; cases h) (lit_src (oneEn_cells (by first | exact Blk.new _ _ _ | exact hk1 _ _ _ (Blk.new1 _ _ _ _) (ob_ne (by rfl) (by first | omega | (simp; done) | (simp; omega))) | exact hk1 _ _ _ (Blk.new _ _ _) (ob_ne (by rfl) (by first | omega | (simp; done) | (simp; omega))) | exact hk1 _ _ _ (Blk.alloc (Blk.new _ _ _) _) (ob_ne (by rfl) (by first | omega | (simp; done) | (simp; omega)))))) (en_one _) Hm2.out Hy2.out ?_; intro v2 w2 ho2 hbA2 hk2) | (refine step_append_src (by rfl) _ _ 23 (by rfl) 29 i0 (.agg #[.int .i64 0, .int .i64 0, .int .i64 0, .int .i64 0, .int .i64 0]) 5 40 Tryz.underlying23 hi hz0 hz1 hz2 rfl (by decide) wt (by (try go_split_ands); with_reducible assumption) v2 (0 + k + 1) ([] ++ enS.flat (es.take k) ++ enS.flat [m]) (by rfl) (by with_reducible exact ho2) (_) (es.length - (k + 1)) (_) (enS.flat ([])) (by rfl) Hl3.out (fun _ => (by omega)) (fun a => en_src0 a) (en_one _) Hm3.out Hy3.out ?_; intro v3 w3 ho3 hbA3 hk3)))
      all_goals
        go_wp2
        go_ret2
        exact ⟨⟨_, swapE es k m, true, rfl, by rw [Ht.out, Hpl.out, Hat.out, Hx.out, Hok.out, ← Hme.out]; rfl, (fun h => by cases h), by unfold swapE; rw [Hd0.out]; exact putE_end hk (by show 0 = es.length - (k + 1); omega) (own_mono ho3 hbt.size)⟩, bthen hbt hbA3⟩
    · go_wp2
      have hblkt := Hblkt.out
      have hbt := Hbt.out
      clear Hblkt Hbt m0 q0 z0 m1 q1 z1 m2 q2 z2 m3 q3 z3 m4 q4 z4 ml ql hBm hblk'
      generalize hwt : (((((wc.setCell ⟨w.heap.size, 0, none⟩ (.int .i64 m.a)).setCell ⟨w.heap.size, 1, none⟩ (.int .i64 m.b)).setCell ⟨w.heap.size, 2, none⟩ (.int .i64 m.lo)).setCell ⟨w.heap.size, 3, none⟩ (.int .i64 m.hi)).setCell ⟨w.heap.size, 4, none⟩ (.int .i64 m.to)) = wt at hbt hblkt ⊢
      clear hwt
      have HRt := Lib.hid (Hr.out.on hbt)
      clear t1 t2 t3
      have r0 := hblkt.cell 0
      have r1 := hblkt.cell 1
      have r2 := hblkt.cell 2
      have r3 := hblkt.cell 3
      have r4 := hblkt.cell 4
      have rl := hblkt.lt
      have t1 : (0 : Int) ≤ ((k : Nat) : Int) := by omega
      have t2 : ((k : Nat) : Int) ≤ (c : Int) := by omega
      have t3 : ((k : Nat) : Int) ≤ (es.length : Int) := by omega
      have HS : Hid (∀ w', Below wt.heap.size wt w' → (w'.cell? ⟨w.heap.size, 0, none⟩ = some (.int .i64 m.a) ∧ w'.cell? ⟨w.heap.size, 1, none⟩ = some (.int .i64 m.b) ∧ w'.cell? ⟨w.heap.size, 2, none⟩ = some (.int .i64 m.lo) ∧ w'.cell? ⟨w.heap.size, 3, none⟩ = some (.int .i64 m.hi) ∧ w'.cell? ⟨w.heap.size, 4, none⟩ = some (.int .i64 m.to) ∧ Below wt.heap.size wt w')) := Lib.hid (fun w' hw => ⟨(hw.cell (p := ⟨w.heap.size, 0, none⟩) rl).trans r0, (hw.cell (p := ⟨w.heap.size, 1, none⟩) rl).trans r1, (hw.cell (p := ⟨w.heap.size, 2, none⟩) rl).trans r2, (hw.cell (p := ⟨w.heap.size, 3, none⟩) rl).trans r3, (hw.cell (p := ⟨w.heap.size, 4, none⟩) rl).trans r4, hw⟩)
      have Hl1 : Hid ((enS.flat (es.take k)).length = (k) * 5) := Lib.hid (by first | (rw [Shape.length_flat, List.length_take, Nat.min_eq_left (by omega)]; rfl) | (simp [Shape.flat]; done))
      have Hl3 : Hid ((enS.flat (es.drop (k + 1))).length = (es.length - (k + 1)) * 5) := Lib.hid (by first | (rw [Shape.length_flat, List.length_drop]; rfl) | (simp [Shape.flat]; done) | (simp [Shape.flat]; omega))
      have HA1 : Hid ((some ⟨g, off, none⟩ : Option Addr) = none → (k) = 0) := Lib.hid (by intro h; first | cases h | omega)
      have HA3 : Hid ((some ⟨g, off + (k + 1) * 5, none⟩ : Option Addr) = none → (es.length - (k + 1)) = 0) := Lib.hid (by intro h; first | cases h | omega)
      have Hs1 := Lib.hid (en_src HRt.out k)
      have Hs3 := Lib.hid (en_src2 HRt.out (k + 1) hk1)
      have Hm1 : Hid (0 + k ≤ maxLen) := Lib.hid (by unfold maxLen; omega)
      have Hy1 : Hid ((0 + k) * 40 ≤ 140737488355328) := Lib.hid (by omega)
      have Hm2 : Hid (0 + k + 1 ≤ maxLen) := Lib.hid (by unfold maxLen; omega)
      have Hy2 : Hid ((0 + k + 1) * 40 ≤ 140737488355328) := Lib.hid (by omega)
      have Hm3 : Hid (0 + k + 1 + (es.length - (k + 1)) ≤ maxLen) := Lib.hid (by unfold maxLen; omega)
      have Hy3 : Hid ((0 + k + 1 + (es.length - (k + 1))) * 40 ≤ 140737488355328) := Lib.hid (by omega)
      go_region_held3 (fun w' => w'.cell? ⟨w.heap.size, 0, none⟩ = some (.int .i64 m.a) ∧ w'.cell? ⟨w.heap.size, 1, none⟩ = some (.int .i64 m.b) ∧ w'.cell? ⟨w.heap.size, 2, none⟩ = some (.int .i64 m.lo) ∧ w'.cell? ⟨w.heap.size, 3, none⟩ = some (.int .i64 m.hi) ∧ w'.cell? ⟨w.heap.size, 4, none⟩ = some (.int .i64 m.to) ∧ Below wt.heap.size wt w') ((go_split_ands; refine HS.out _ ?_; repeat (first | (with_reducible assumption) | (with_reducible exact Below.refl _ _) | (with_reducible refine Below.drew ?_) | (with_reducible refine bal ?_ _)))) ((first | (refine step_append_src (by rfl) _ _ 23 (by rfl) 29 i0 (.agg #[.int .i64 0, .int .i64 0, .int .i64 0, .int .i64 0, .int .i64 0]) 5 40 Tryz.underlying23 hi hz0 hz1 hz2 rfl (by decide) wt (by (try go_split_ands); with_reducible assumption) _ 0 [] (by rfl) (by first | exact own_empty (by simp) | exact own_empty1 (by simp) | exact (own_empty (by simp)).alloc _) (some ⟨g, off, none⟩) (k) (c) (enS.flat (es.take k)) (by rfl) Hl1.out (HA1.out) (src_below (by (try go_split_ands); with_reducible assumption) Hs1.out) (en_one _) Hm1.out Hy1.out ?_; intro v1 w1 ho1 hbA1 hk1) | (refine step_append_src (by rfl) _ _ 23 (by rfl) 29 i0 (.agg #[.int .i64 0, .int .i64 0, .int .i64 0, .int .i64 0, .int .i64 0]) 5 40 Tryz.underlying23 hi hz0 hz1 hz2 rfl (by decide) wt (by (try go_split_ands); with_reducible assumption) v1 (0 + k) ([] ++ enS.flat (es.take k)) (by rfl) (by first | with_reducible exact ho1 | with_reducible exact ho1.alloc _) _ 1 _ (enS.flat [m]) (by rfl) rfl (by intro h; cases h) (lit_src (oneEn_cells (by first | exact Blk.new _ _ _ | exact hk1 _ _ _ (Blk.new1 _ _ _ _) (ob_ne (by rfl) (by first | omega | (simp; done) | (simp; omega))) | exact hk1 _ _ _ (Blk.new _ _ _) (ob_ne (by rfl) (by first | omega | (simp; done) | (simp; omega))) | exact hk1 _ _ _ (Blk.alloc (Blk.new _ _ _) _) (ob_ne (by rfl) (by first | omega | (simp; done) | (simp; omega)))))) (en_one _) Hm2.out Hy2.out ?_; intro v2 w2 ho2 hbA2 hk2) | (refine step_append_src (by rfl) _ _ 23 (by rfl) 29 i0 (.agg #[.int .i64 0, .int .i64 0, .int .i64 0, .int .i64 0, .int .i64 0]) 5 40 Tryz.underlying23 hi hz0 hz1 hz2 rfl (by decide) wt (by (try go_split_ands); with_reducible assumption) v2 (0 + k + 1) ([] ++ enS.flat (es.take k) ++ enS.flat [m]) (by rfl) (by with_reducible exact ho2) (some ⟨g, off + (k + 1) * 5, none⟩) (es.length - (k + 1)) (c - (k + 1)) (enS.flat (es.drop (k + 1))) (by rfl) Hl3.out (HA3.out) (src_below (by (try go_split_ands); with_reducible assumption) Hs3.out) (en_one _) Hm3.out Hy3.out ?_; intro v3 w3 ho3 hbA3 hk3)))
      all_goals
        go_wp2
        go_ret2
        exact ⟨⟨_, swapE es k m, true, rfl, by rw [Ht.out, Hpl.out, Hat.out, Hx.out, Hok.out, ← Hme.out]; rfl, (fun h => by cases h), putE_end hk (List.length_drop ..) (own_mono ho3 hbt.size)⟩, bthen hbt hbA3⟩
theorem caTighten_any (v : Value) (es : List En) (y : En) (w : World) (h : Rd enS w w.heap.size v es) (hlen : es.length ≤ 1000) (hval : okCat es) (hy : entE y = true) :
    Calls Tryz.prog 149 #[v, .agg #[.int .i64 y.a, .int .i64 y.b, .int .i64 y.lo, .int .i64 y.hi, .int .i64 y.to]] w fun r w' =>
      (∃ (v' : Value) (z : List En) (b : Bool), r = .returned (.tuple #[v', .bool b]) ∧ tightO es y = (if b then some z else none) ∧ (b = false → z = []) ∧ w'.ownsRow w.heap.size 29 5 v' z.length (enS.flat z)) ∧ Below w.heap.size w w' := by
  cases hat : atB es (placeN es y.a y.b) y.a y.b
  · exact caTighten_new v es y w h hlen hval hy hat
  · exact caTighten_met v es y w h hlen hval hy hat
end
section
open Go Go.RowKit

theorem mergeCmp_any (x y : En) (w : World) :
    Calls Tryz.prog 176 #[.agg #[.int .i64 x.a, .int .i64 x.b, .int .i64 x.lo, .int .i64 x.hi, .int .i64 x.to], .agg #[.int .i64 y.a, .int .i64 y.b, .int .i64 y.lo, .int .i64 y.hi, .int .i64 y.to]] w fun r w' => r = .returned (.int .i64 (cmpC x.a x.b y.a y.b)) ∧ Below w.heap.size w w' := by
  have hbA : Below w.heap.size w ((w.alloc _).alloc _) := bal (bal (Below.refl _ _) (Obj.cells #[.int .i64 x.a, .int .i64 x.b, .int .i64 x.lo, .int .i64 x.hi, .int .i64 x.to] 29)) (Obj.cells #[.int .i64 y.a, .int .i64 y.b, .int .i64 y.lo, .int .i64 y.hi, .int .i64 y.to] 29)
  have HbA := Lib.hid hbA; clear hbA
  go_enter Tryz.func176, Tryz.ntmps176
  go_wp2_with fail
  refine (compareCurves_any _ _ _ _ _).mono ?_
  rintro e w1 ⟨rfl, hb1⟩
  go_wp2
  go_ret
  exact ⟨rfl, bthen HbA.out hb1⟩

set_option maxRecDepth 8000 in
set_option maxHeartbeats 4000000 in
theorem searchEn_any (v : Value) (es : List En) (y : En) (w : World) (h : Rd enS w w.heap.size v es) (hlen : es.length ≤ 1048576) (hmono : ∀ i j, i ≤ j → j < es.length → cmpC (enS.get es (j)).a (enS.get es (j)).b y.a y.b < 0 → cmpC (enS.get es (i)).a (enS.get es (i)).b y.a y.b < 0) :
    Calls Tryz.prog 175 #[v, .agg #[.int .i64 y.a, .int .i64 y.b, .int .i64 y.lo, .int .i64 y.hi, .int .i64 y.to], .func (Fn.func 176) #[] #[]] w fun r w' =>
      r = .returned (.tuple #[.int .i64 (placeN es y.a y.b), .bool (decide (placeN es y.a y.b < es.length) && decide (cmpC (enS.get es (placeN es y.a y.b)).a (enS.get es (placeN es y.a y.b)).b y.a y.b = 0))]) ∧ Below w.heap.size w w' := by
  obtain ⟨A, c, rfl, hcc, hm, hA⟩ := h
  unfold maxLen at hm
  have Hmono := Lib.hid hmono; clear hmono
  have hbox : Blk _ w.heap.size 29 #[.int .i64 y.a, .int .i64 y.b, .int .i64 y.lo, .int .i64 y.hi, .int .i64 y.to] := Blk.new w _ _
  have Hbox := Lib.hid hbox; clear hbox
  rcases Nat.eq_zero_or_pos es.length with h0 | h0
  · obtain rfl : es = [] := List.eq_nil_of_length_eq_zero h0
    clear hA
    have hp : placeN ([] : List En) y.a y.b = 0 := rfl
    have Hp := Lib.hid hp; clear hp
    go_enter Tryz.func175, Tryz.ntmps175
    go_wp2
    refine wp_loop_rounds 1 ?_
    rw [rounds_succ]
    go_wp2
    refine wp_region_tame (by kernel_rfl) (by kernel_rfl) (fun T _ W hT => ?_)
    have hx := hT.cell
    repeat (go_big_quiet_step (fail))
    refine wpQuiet_nil ?_
    intro x
    clear hx
    go_wp2
    go_ret2
    exact ⟨by rw [Hp.out]; rfl, bthen (bal (Below.refl _ _) _) (hT.below x)⟩
  · obtain ⟨g, off, rfl, hg, hcell⟩ := hA h0
    clear hA
    have hcell := en_cells hcell
    go_enter Tryz.func175, Tryz.ntmps175
    go_wp2
    go_loopw [9, 10] (fun s9 s10 wr => ∃ lo hi : Nat, s9 = .int .i64 lo ∧ s10 = .int .i64 hi ∧ lo ≤ hi ∧ hi ≤ es.length ∧ (∀ j, j < lo → cmpC (enS.get es (j)).a (enS.get es (j)).b y.a y.b < 0) ∧ (∀ j, hi ≤ j → j < es.length → ¬ cmpC (enS.get es (j)).a (enS.get es (j)).b y.a y.b < 0) ∧ Below w.heap.size w wr ∧ Blk wr w.heap.size 29 #[.int .i64 y.a, .int .i64 y.b, .int .i64 y.lo, .int .i64 y.hi, .int .i64 y.to]) (fun s9 s10 _ => (intOf s10).toNat - (intOf s9).toNat)
    case atStart => exact ⟨0, es.length, rfl, rfl, Nat.zero_le _, Nat.le_refl _, by omega, by omega, bal (Below.refl _ _) _, Hbox.out⟩
    case round =>
      obtain ⟨lo, hi, rfl, rfl, hlh, hin, hlow, hhigh, hb, hblk⟩ := hrel
      have Hlow := Lib.hid hlow; clear hlow
      have Hhigh := Lib.hid hhigh; clear hhigh
      have q0 := hblk.cell 0
      have q1 := hblk.cell 1
      have q2 := hblk.cell 2
      have q3 := hblk.cell 3
      have q4 := hblk.cell 4
      have ql := hblk.lt
      have Hblk := Lib.hid hblk; clear hblk
      by_cases hlt : lo < hi
      · obtain ⟨f0, f1, f2, f3, f4⟩ := hcell ((lo + hi) / 2) (by omega)
        rw [← hb.cell (p := ⟨_, _, _⟩) hg] at f0 f1 f2 f3 f4
        have hgr : g < wr.heap.size := Nat.lt_of_lt_of_le hg hb.size
        generalize hx : enS.get es ((lo + hi) / 2) = x at f0 f1 f2 f3 f4
        have Hx := Lib.hid hx; clear hx
        have hi0 : (0 : Int) ≤ ((lo + hi) / 2 : Int) := by omega
        have hi1 : ((lo + hi) / 2 : Int) < (es.length : Int) := by omega
        clear hcell
        cases hd : decide (cmpC x.a x.b y.a y.b < 0)
        · have Hd := Lib.hid (of_decide_eq_false hd)
          go_wp2
          refine wp_region_tame (by kernel_rfl) (by kernel_rfl) (fun T _ W hT => ?_)
          have hx := hT.cell
          repeat (go_big_quiet_step ((go_at_call 176; exact hT.call (mergeCmp_any _ _ _))))
          refine wpQuiet_nil ?_
          intro t
          clear hx
          go_wp2
          go_roundw
          case rel =>
            refine ⟨lo, (lo + hi) / 2, rfl, by go_num, by omega, by omega, Hlow.out, fun j h1 h2 h3 => ?_, bthen hb (hT.below t), Hblk.out.on (hT.below t)⟩
            have := Hmono.out ((lo + hi) / 2) j h1 h2 h3
            rw [Hx.out] at this
            have h5 := Hd.out
            omega
          case measure => simp [intOf]; omega
        · have Hd := Lib.hid (of_decide_eq_true hd)
          go_wp2
          refine wp_region_tame (by kernel_rfl) (by kernel_rfl) (fun T _ W hT => ?_)
          have hx := hT.cell
          repeat (go_big_quiet_step ((go_at_call 176; exact hT.call (mergeCmp_any _ _ _))))
          refine wpQuiet_nil ?_
          intro t
          clear hx
          go_wp2
          go_roundw
          case rel =>
            refine ⟨(lo + hi) / 2 + 1, hi, by go_num, rfl, by omega, by omega, fun j h1 => ?_, fun j h1 h2 => by have := Hhigh.out j h1 h2; omega, bthen hb (hT.below t), Hblk.out.on (hT.below t)⟩
            exact Hmono.out j ((lo + hi) / 2) (by omega) (by omega) (by rw [Hx.out]; exact Hd.out)
          case measure => simp [intOf]; omega
      · obtain rfl : hi = lo := by omega
        have hp : placeN es y.a y.b = hi := lead_eq _ _ _ hin (fun j hj => decide_eq_true (Hlow.out j hj)) (fun h => decide_eq_false (Hhigh.out hi (Nat.le_refl _) h))
        have Hp := Lib.hid hp; clear hp
        by_cases hn : hi < es.length
        · obtain ⟨f0, f1, f2, f3, f4⟩ := hcell hi hn
          rw [← hb.cell (p := ⟨_, _, _⟩) hg] at f0 f1 f2 f3 f4
          have hgr : g < wr.heap.size := Nat.lt_of_lt_of_le hg hb.size
          generalize hx : enS.get es hi = x at f0 f1 f2 f3 f4
          have Hx := Lib.hid hx; clear hx
          have hi0 : (0 : Int) ≤ (hi : Int) := by omega
          have hi1 : (hi : Int) < (es.length : Int) := by omega
          clear hcell
          go_wp2
          refine wp_region_tame (by kernel_rfl) (by kernel_rfl) (fun T _ W hT => ?_)
          have hx := hT.cell
          repeat (go_big_quiet_step ((go_at_call 176; exact hT.call (mergeCmp_any _ _ _))))
          refine wpQuiet_nil ?_
          intro t
          clear hx
          go_wp2
          go_ret2
          exact ⟨by rw [Hp.out, Hx.out, decide_eq_true hn, Bool.true_and]; rfl, bthen hb (hT.below t)⟩
        · clear hcell
          have hd : decide (hi < es.length) = false := decide_eq_false hn
          go_wp2
          refine wp_region_tame (by kernel_rfl) (by kernel_rfl) (fun T _ W hT => ?_)
          have hx := hT.cell
          repeat (go_big_quiet_step (fail))
          refine wpQuiet_nil ?_
          intro t
          clear hx
          go_wp2
          go_ret2
          exact ⟨by rw [Hp.out, hd, Bool.false_and]; rfl, bthen hb (hT.below t)⟩
end
section
open Go Go.RowKit

theorem sizeEn : (Tryz.prog.info? 29).map (·.size) = some 5 := by kernel_rfl
theorem sizeOfEn (w : World) : (sizeOf 29).run Tryz.prog w = .ok 5 w := by
  obtain ⟨i0, hi, hz0, hz1, hz2⟩ := info_parts infoEn2
  simp [sizeOf, typeInfo, hi, hz1]
theorem zeroBEn : ((.agg #[.int .i64 0, .int .i64 0, .int .i64 0, .int .i64 0, .int .i64 0] : Value).cells).size = 5 := rfl
theorem zsizeEn (m : Nat) : (Builtin.zeroCells ((.agg #[.int .i64 0, .int .i64 0, .int .i64 0, .int .i64 0, .int .i64 0] : Value).cells) m).size = m * 5 := by simp [Builtin.zeroCells, Value.cells]

set_option maxHeartbeats 1600000 in
set_option maxRecDepth 100000 in
/-- At the end: append. -/
theorem insEn_end (v : Value) (es : List En) (u : En) (vb B : Nat) (w : World) (hown : w.ownsRow B 29 5 v es.length (enS.flat es)) (hlen : es.length ≤ 1048576) (hblk : Blk w vb 29 #[.int .i64 u.a, .int .i64 u.b, .int .i64 u.lo, .int .i64 u.hi, .int .i64 u.to]) (hB : B ≤ w.heap.size) :
    Calls Tryz.prog 177 #[v, .int .i64 es.length, .slice (some ⟨vb, 0, none⟩) 1 1] w fun r w' => ∃ v', r = .returned v' ∧ w'.ownsRow B 29 5 v' (ins es es.length u).length (enS.flat (ins es es.length u)) ∧ w.grownBy w' v.ownBlock := by
  obtain ⟨i0, hi, hz0, hz1, hz2⟩ := info_parts infoEn2
  have Hown := Lib.hid hown
  have Hblk := Lib.hid hblk; clear hblk
  have hl : (ins es es.length u).length = es.length + 1 := length_ins es _ u
  have hf : enS.flat (ins es es.length u) = enS.flat es ++ enS.flat [u] := by rw [ins_end, Shape.flat_append]
  rw [hl, hf]
  clear hl hf
  have hv : (v = .slice none 0 0 ∧ es = []) ∨ ∃ g cap, v = .slice (some ⟨g, 0, none⟩) es.length cap ∧ es.length ≤ cap ∧ cap ≤ 9223372036854775807 := by
    rcases hown.2 with ⟨h1, h2⟩ | ⟨g, cap, cur, rfl, -⟩
    · exact .inl ⟨h1, List.eq_nil_of_length_eq_zero h2⟩
    · exact .inr ⟨g, cap, rfl, own_caps hown⟩
  clear hown
  rcases hv with ⟨rfl, rfl⟩ | ⟨g, cap, rfl, hc1, hc2⟩
  · go_enter Tryz.func177, Tryz.ntmps177
    go_wp2_with (at_builtin; refine wpList_append_own _ rfl _ _ 23 rfl B 29 i0 (.agg #[.int .i64 0, .int .i64 0, .int .i64 0, .int .i64 0, .int .i64 0]) 5 40 Tryz.underlying23 hi hz0 hz1 hz2 rfl (by decide) _ _ _ rfl Hown.out ⟨vb, 0, none⟩ 1 1 (enS.flat [u]) rfl rfl ?c1 (en_one _) ?c3 ?c4 ?c5 ?_)
    case c1 => exact oneEn_cells Hblk.out
    case c3 => unfold maxLen; simp
    case c4 => simp
    case c5 => exact hB
    intro v' w3 hown' hgrow _
    have Hown' := Lib.hid hown'
    have Hg := Lib.hid hgrow
    clear hown' hgrow
    go_wp2
    go_ret
    exact ⟨_, rfl, Hown'.out, Hg.out⟩
  · go_enter Tryz.func177, Tryz.ntmps177
    go_wp2_with (at_builtin; refine wpList_append_own _ rfl _ _ 23 rfl B 29 i0 (.agg #[.int .i64 0, .int .i64 0, .int .i64 0, .int .i64 0, .int .i64 0]) 5 40 Tryz.underlying23 hi hz0 hz1 hz2 rfl (by decide) _ _ _ rfl Hown.out ⟨vb, 0, none⟩ 1 1 (enS.flat [u]) rfl rfl ?c1 (en_one _) ?c3 ?c4 ?c5 ?_)
    all_goals first
      | (case c1 => exact oneEn_cells Hblk.out)
      | (case c3 => unfold maxLen; omega)
      | (case c4 => omega)
      | (case c5 => exact hB)
      | skip
    all_goals
      intro v' w3 hown' hgrow _
      have Hown' := Lib.hid hown'
      have Hg := Lib.hid hgrow
      clear hown' hgrow
      go_wp2
      go_ret
      exact ⟨_, rfl, Hown'.out, Hg.out⟩

set_option maxHeartbeats 4000000 in
set_option maxRecDepth 100000 in
/-- In the midst, with room. -/
theorem insEn_room (es : List En) (k : Nat) (u : En) (vb B g cap : Nat) (w : World) (hown : w.ownsRow B 29 5 (.slice (some ⟨g, 0, none⟩) es.length cap) es.length (enS.flat es)) (hk : k < es.length) (hblk : Blk w vb 29 #[.int .i64 u.a, .int .i64 u.b, .int .i64 u.lo, .int .i64 u.hi, .int .i64 u.to]) (hvb : vb ≠ g) (hroom : es.length + 1 ≤ cap) :
    Calls Tryz.prog 177 #[.slice (some ⟨g, 0, none⟩) es.length cap, .int .i64 k, .slice (some ⟨vb, 0, none⟩) 1 1] w fun r w' => ∃ v', r = .returned v' ∧ w'.ownsRow B 29 5 v' (ins es k u).length (enS.flat (ins es k u)) ∧ w.grownBy w' (some g) := by
  have hcap := (own_caps hown).2
  have hfl : (enS.flat es).length = es.length * 5 := Shape.length_flat es
  obtain ⟨zs, hzs, hown1⟩ := own_more hown hroom
  have hdl : (enS.flat (es.drop k)).length = (es.length - k) * 5 := by rw [Shape.length_flat, List.length_drop]; rfl
  have htl : (enS.flat (es.take k)).length = k * 5 := by rw [Shape.length_flat, List.length_take, Nat.min_eq_left (by omega)]; rfl
  have hul : (enS.cells u).length = 5 := Shape.length_cells u
  have hzl : zs.length = (enS.cells u).length := by rw [hzs, hul]
  have hov : ∀ lb cb, (callFunc 221 #[.slice (some ⟨vb, 0, none⟩) 1 1, .slice (some ⟨g, (k + 1) * 5, none⟩) lb cb]).run Tryz.prog w = .ok (.value (.bool false)) w := fun lb cb => by
    rw [run_callFunc_extern Tryz.func221 (by kernel_rfl) (by kernel_rfl) (by kernel_rfl) (e := Extern.SlicesOverlaps.overlaps #[23, 23] #[4]) (by kernel_rfl),
      Lib.run_overlaps_apart w 23 4 29 Tryz.underlying23 5 sizeOfEn ⟨vb, 0, none⟩ ⟨g, (k + 1) * 5, none⟩ 1 1 lb cb hvb _ _ _ _ (blk_shape hblk) (own_shape hown) (by omega) (hblk.frozen _) (hblk.frozen _)]
    rfl
  have hfl2 : enS.flat es ++ zs = enS.flat (es.take k) ++ (enS.flat (es.drop k) ++ zs) := by rw [flat_cut es k, List.append_assoc]
  have hcp1 : ∀ ty dc sc, (Builtin.copy_ #[23, 23] ty #[.slice (some ⟨g, (k + 1) * 5, none⟩) (es.length - k) dc, .slice (some ⟨g, k * 5, none⟩) (es.length + 1 - k) sc]).run Tryz.prog w.drew = .ok (goInt (Nat.min (es.length + 1 - k) (es.length - k))) (w.drew.setCells g ((k + 1) * 5) (enS.flat (es.drop k))) := fun ty dc sc =>
    run_copy_own (w := w.drew) Tryz.underlying23 sizeEn hown1.drew (by rw [hdl, show Nat.min (es.length + 1 - k) (es.length - k) = es.length - k from Nat.min_eq_right (by omega)]) (by rw [hdl, Nat.sub_mul]; omega)
      (own_add hown1.drew (by
        intro j hj
        rw [hfl2, List.getElem?_append_right (by omega), htl, show k * 5 + j - k * 5 = j by omega, List.getElem?_append_left hj]) (by rw [hdl, Nat.sub_mul]; omega)) (en_one _) ty dc sc
  obtain ⟨W1, hW1⟩ : ∃ W1, W1 = w.drew.setCells g ((k + 1) * 5) (enS.flat (es.drop k)) := ⟨_, rfl⟩
  have hl1 := own_lay (enS.flat (es.drop k)) _ _ ((k + 1) * 5) hown1.drew
  rw [← hW1] at hl1 hcp1
  have hblk1 : Blk W1 vb 29 #[.int .i64 u.a, .int .i64 u.b, .int .i64 u.lo, .int .i64 u.hi, .int .i64 u.to] := (hl1.2.block vb hblk.lt (by simp [hvb])).trans hblk
  have hcp2 : ∀ ty dc, (Builtin.copy_ #[23, 23] ty #[.slice (some ⟨g, k * 5, none⟩) (es.length + 1 - k) dc, .slice (some ⟨vb, 0, none⟩) 1 1]).run Tryz.prog W1 = .ok (goInt (Nat.min 1 (es.length + 1 - k))) (W1.setCells g (k * 5) (enS.flat [u])) := fun ty dc =>
    run_copy_own (w := W1) Tryz.underlying23 sizeEn hl1.1 (by rw [show Nat.min 1 (es.length + 1 - k) = 1 from Nat.min_eq_left (by omega)]; rfl) (by show k * 5 + 5 ≤ _; omega) (oneEn_cells hblk1) (en_one _) ty dc 1
  have hl2 := own_lay (enS.flat [u]) _ _ (k * 5) hl1.1
  have hfu : enS.flat [u] = enS.cells u := by simp [Shape.flat]
  have hfin : lay (lay (enS.flat es ++ zs) ((k + 1) * 5) (enS.flat (es.drop k))) (k * 5) (enS.flat [u]) = enS.flat (ins es k u) := by
    rw [flat_ins, hfu, hfl2]
    have := lay_shift (A := enS.flat (es.take k)) (D := enS.flat (es.drop k)) (Z := zs) (u := enS.cells u) hzl
    rw [htl, hul] at this
    rw [show (k + 1) * 5 = k * 5 + 5 by omega]
    exact this
  rw [hfin] at hl2
  have Hl2 := Lib.hid hl2.1
  have Hg2 := Lib.hid (gthen2 (gthen2 (show w.grownBy w.drew (some g) from ⟨rfl, rfl, rfl, Nat.le_refl _, fun _ _ _ => rfl⟩) hl1.2) hl2.2)
  have Hln := Lib.hid (length_ins es k u)
  have hz2 : ¬ ((k : Int) = (es.length : Int)) := by omega
  have hw1 : IntKind.i64.wrap ((k : Int) + 1) = (k : Int) + 1 := by rw [IntKind.wrap_i64]; omega
  have hw2 : IntKind.i64.wrap ((es.length : Int) + 1) = (es.length : Int) + 1 := by rw [IntKind.wrap_i64]; omega
  have hb1 : (0 : Int) ≤ (k : Int) + 1 := by omega
  have hin : k ≤ es.length := by omega
  have htn : ((k : Int) + 1).toNat = k + 1 := by omega
  have hb2 : ¬ (cap = k + 1) := by omega
  have hb3 : (k : Int) ≤ (es.length : Int) + 1 := by omega
  have hb4 : ¬ (cap = k) := by omega
  clear hown hown1 hblk hblk1 hl1 hl2 hW1 hfin hfl hfl2 hdl htl hul hzl hzs hfu
  go_enter Tryz.func177, Tryz.ntmps177
  go_wp2_with (simp only [hov])
  go_region_law (refine step_copy_runI rfl _ _ 23 23 rfl _ _ (by simp [Act.eval, Act.put]) (by simp [Act.eval, Act.put]) (hcp1 _ _ _) ?_)
  go_wp2_with (at_builtin; refine wpList_copy_runI _ rfl _ _ 23 23 rfl _ _ rfl rfl (hcp2 _ _) ?_)
  go_ret
  exact ⟨_, rfl, by rw [Hln.out]; exact Hl2.out, Hg2.out⟩
set_option maxHeartbeats 4000000 in
set_option maxRecDepth 100000 in
/-- In the midst, without room. -/
theorem insEn_grow (es : List En) (k : Nat) (u : En) (vb B g cap : Nat) (w : World) (hown : w.ownsRow B 29 5 (.slice (some ⟨g, 0, none⟩) es.length cap) es.length (enS.flat es)) (hlen : es.length ≤ 1048576) (hk : k < es.length) (hblk : Blk w vb 29 #[.int .i64 u.a, .int .i64 u.b, .int .i64 u.lo, .int .i64 u.hi, .int .i64 u.to]) (hB : B ≤ w.heap.size) (hroom : cap < es.length + 1) :
    Calls Tryz.prog 177 #[.slice (some ⟨g, 0, none⟩) es.length cap, .int .i64 k, .slice (some ⟨vb, 0, none⟩) 1 1] w fun r w' => ∃ v', r = .returned v' ∧ w'.ownsRow B 29 5 v' (ins es k u).length (enS.flat (ins es k u)) ∧ w.grownBy w' (some g) := by
  obtain ⟨i0, hi, hz0, hz1, hz2⟩ := info_parts infoEn2
  have hcap := own_caps hown
  have hdl : (enS.flat (es.drop k)).length = (es.length - k) * 5 := by rw [Shape.length_flat, List.length_drop]; rfl
  have htl : (enS.flat (es.take k)).length = k * 5 := by rw [Shape.length_flat, List.length_take, Nat.min_eq_left (by omega)]; rfl
  have hul : (enS.cells u).length = 5 := Shape.length_cells u
  have hfu : enS.flat [u] = enS.cells u := by simp [Shape.flat]
  have hg := (own_base hown).2
  have hkk : (es.length : Int) + 1 - (k : Int) = ((es.length + 1 - k : Nat) : Int) := by omega
  have hik : k + (es.length + 1 - k) = es.length + 1 := by omega
  have hold : (Builtin.firstCells i0.size k (.slice (some ⟨g, 0, none⟩) k cap)).run Tryz.prog w.drew = .ok (enS.flat (es.take k)).toArray w.drew := by
    rw [hz1]
    exact run_firstCells_some w.drew 5 k ⟨g, 0, none⟩ k cap (enS.flat (es.take k)) htl (own_add hown.drew (by
      intro j hj
      rw [Nat.zero_add, flat_cut es k, List.getElem?_append_left hj]) (by rw [htl]; omega))
  have hrz : ∀ ty, (Builtin.append_ #[23, 3] ty #[.slice (some ⟨g, 0, none⟩) k cap, .int .i64 ((es.length : Int) + 1 - (k : Int))]).run Tryz.prog w =
      .ok (.slice (some ⟨w.heap.size, 0, none⟩) (es.length + 1) (grownCap w (es.length + 1) cap 29)) (w.drew.alloc (.cells ((enS.flat (es.take k)).toArray ++ Builtin.zeroCells (.agg #[.int .i64 0, .int .i64 0, .int .i64 0, .int .i64 0, .int .i64 0] : Value).cells (es.length + 1 - k) ++ Builtin.zeroCells (.agg #[.int .i64 0, .int .i64 0, .int .i64 0, .int .i64 0, .int .i64 0] : Value).cells (grownCap w (es.length + 1) cap 29 - (es.length + 1))) 29)) := fun ty => by
    have h := Lib.run_append_grow_zeros w 23 3 ty 29 i0 _ .i64 .i64 Tryz.underlying23 Tryz.underlying3 hi hz0 (some ⟨g, 0, none⟩) k cap (enS.flat (es.take k)) hold (es.length + 1 - k) (by omega) (by omega) (by omega) (by omega) (by rw [hz2]; omega) (by rw [hz2, hik]; exact growslice_fits hroom (by omega))
    rw [hik] at h
    rw [hkk]
    exact h
  have hGn : es.length + 1 ≤ grownCap w (es.length + 1) cap 29 := grownCap_ge w _ _ _
  have hGm := grownCap_le_maxLen w (es.length + 1) cap 29 (by unfold maxLen; omega)
  generalize grownCap w (es.length + 1) cap 29 = G at hrz hGn hGm
  obtain ⟨ROW, hROW⟩ : ∃ ROW : Array Value, ROW = (enS.flat (es.take k)).toArray ++ Builtin.zeroCells (.agg #[.int .i64 0, .int .i64 0, .int .i64 0, .int .i64 0, .int .i64 0] : Value).cells (es.length + 1 - k) ++ Builtin.zeroCells (.agg #[.int .i64 0, .int .i64 0, .int .i64 0, .int .i64 0, .int .i64 0] : Value).cells (G - (es.length + 1)) := ⟨_, rfl⟩
  rw [← hROW] at hrz
  have hRs : ROW.size = G * 5 := by
    rw [hROW, Array.size_append, Array.size_append, zsizeEn, zsizeEn, List.size_toArray, htl, Nat.sub_mul, Nat.sub_mul]
    omega
  have hRt : (ROW.toList.take ((es.length + 1) * 5)).take (k * 5) = enS.flat (es.take k) := by
    rw [List.take_take, Nat.min_eq_left (by omega), hROW]
    simp only [Array.toList_append, List.append_assoc]
    rw [← htl]
    exact List.take_left
  have hGm2 : G ≤ 9223372036854775807 := by unfold maxLen at hGm; omega
  have hownN := own_new (w := w.drew) (e := 29) (size := 5) (cap := G) (cur := ROW) (base := B) (n := es.length + 1) hB hGn hGm hRs
  obtain ⟨Y, hY⟩ : ∃ Y, Y = ROW.toList.take ((es.length + 1) * 5) := ⟨_, rfl⟩
  rw [← hY] at hRt hownN
  have hYl : Y.length = (es.length + 1) * 5 := hownN.1
  have hYs : Y = enS.flat (es.take k) ++ Y.drop (k * 5) := by rw [← hRt, List.take_append_drop]
  obtain ⟨W1, hW1⟩ : ∃ W1, W1 = w.drew.alloc (.cells ROW 29) := ⟨_, rfl⟩
  have hgN : w.grownBy W1 (some g) := by rw [hW1]; exact gthen2 (show w.grownBy w.drew (some g) from ⟨rfl, rfl, rfl, Nat.le_refl _, fun _ _ _ => rfl⟩) (World.grownBy_alloc _ _ _)
  have hblk1 : Blk W1 vb 29 #[.int .i64 u.a, .int .i64 u.b, .int .i64 u.lo, .int .i64 u.hi, .int .i64 u.to] := by rw [hW1]; exact Blk.alloc (w := w.drew) hblk _
  have hown1 : W1.ownsRow B 29 5 (.slice (some ⟨g, 0, none⟩) es.length cap) es.length (enS.flat es) := by rw [hW1]; exact hown.drew.alloc _
  have hne : g ≠ w.heap.size := by omega
  have hnv : vb ≠ w.heap.size := by have := hblk.lt; omega
  rw [← hW1] at hrz
  replace hownN : W1.ownsRow B 29 5 (.slice (some ⟨w.heap.size, 0, none⟩) (es.length + 1) G) (es.length + 1) Y := by rw [hW1]; exact hownN
  have hcpA : ∀ ty dc, (Builtin.copy_ #[23, 23] ty #[.slice (some ⟨w.heap.size, k * 5, none⟩) (es.length + 1 - k) dc, .slice (some ⟨vb, 0, none⟩) 1 1]).run Tryz.prog W1 = .ok (goInt (Nat.min 1 (es.length + 1 - k))) (W1.setCells w.heap.size (k * 5) (enS.flat [u])) := fun ty dc =>
    run_copy_own (w := W1) Tryz.underlying23 sizeEn hownN (by rw [show Nat.min 1 (es.length + 1 - k) = 1 from Nat.min_eq_left (by omega)]; rfl) (by show k * 5 + 5 ≤ _; omega) (oneEn_cells hblk1) (en_one _) ty dc 1
  have hl1 := own_lay (enS.flat [u]) _ _ (k * 5) hownN
  obtain ⟨W2, hW2⟩ : ∃ W2, W2 = W1.setCells w.heap.size (k * 5) (enS.flat [u]) := ⟨_, rfl⟩
  rw [← hW2] at hcpA hl1
  have hown2 : W2.ownsRow B 29 5 (.slice (some ⟨g, 0, none⟩) es.length cap) es.length (enS.flat es) := hown1.kept hl1.2 (.inr (by simp [Value.ownBlock, hne]))
  have hcpB : ∀ ty dc sc, (Builtin.copy_ #[23, 23] ty #[.slice (some ⟨w.heap.size, (k + 1) * 5, none⟩) (es.length - k) dc, .slice (some ⟨g, k * 5, none⟩) (es.length - k) sc]).run Tryz.prog W2.drew = .ok (goInt (Nat.min (es.length - k) (es.length - k))) (W2.drew.setCells w.heap.size ((k + 1) * 5) (enS.flat (es.drop k))) := fun ty dc sc =>
    run_copy_own (w := W2.drew) Tryz.underlying23 sizeEn hl1.1.drew (by rw [hdl, show Nat.min (es.length - k) (es.length - k) = es.length - k from Nat.min_self _]) (by rw [hdl, Nat.sub_mul]; omega)
      (own_add hown2.drew (by
        intro j hj
        rw [flat_cut es k, List.getElem?_append_right (by omega), htl, show k * 5 + j - k * 5 = j by omega]) (by rw [hdl, Nat.sub_mul]; omega)) (en_one _) ty dc sc
  have hl2 := own_lay (enS.flat (es.drop k)) _ _ ((k + 1) * 5) hl1.1.drew
  have hfin : lay (lay Y (k * 5) (enS.flat [u])) ((k + 1) * 5) (enS.flat (es.drop k)) = enS.flat (ins es k u) := by
    rw [flat_ins, hfu, hYs]
    have := lay_shift2 (A := enS.flat (es.take k)) (D := enS.flat (es.drop k)) (R := Y.drop (k * 5)) (u := enS.cells u) (by rw [List.length_drop, hYl, hul, hdl, Nat.sub_mul]; omega)
    rw [htl, hul] at this
    rw [show (k + 1) * 5 = k * 5 + 5 by omega]
    exact this
  rw [hfin] at hl2
  have hmv : ∀ W' : World, W1.grownBy W' (some w.heap.size) → w.grownBy W' (some g) := fun W' h =>
    ⟨h.os.trans hgN.os, h.tape.trans hgN.tape, h.output.trans hgN.output, Nat.le_trans hgN.size h.size, fun i hi' hne' => (h.block i (Nat.lt_of_lt_of_le hi' hgN.size) (by intro e; injection e with e; omega)).trans (hgN.block i hi' hne')⟩
  have Hl2 := Lib.hid hl2.1
  have Hg2 := Lib.hid (hmv _ (gthen2 (gthen2 hl1.2 (show W2.grownBy W2.drew (some w.heap.size) from ⟨rfl, rfl, rfl, Nat.le_refl _, fun _ _ _ => rfl⟩)) hl2.2))
  have Hln := Lib.hid (length_ins es k u)
  have hz2' : ¬ ((k : Int) = (es.length : Int)) := by omega
  have hz3 : (cap : Int) < (es.length : Int) + 1 := by omega
  have hw1 : IntKind.i64.wrap ((k : Int) + 1) = (k : Int) + 1 := by rw [IntKind.wrap_i64]; omega
  have hw2 : IntKind.i64.wrap ((es.length : Int) + 1) = (es.length : Int) + 1 := by rw [IntKind.wrap_i64]; omega
  have hb1 : (0 : Int) ≤ (k : Int) + 1 := by omega
  have hin : k ≤ es.length := by omega
  have htn : ((k : Int) + 1).toNat = k + 1 := by omega
  have hGi : ¬ (G = k) := by omega
  have hGim : ¬ (G = k + 1) := by omega
  have hci : ¬ (cap = k) := by omega
  have hb3 : (k : Int) ≤ (es.length : Int) + 1 := by omega
  clear hown hblk hblk1 hl1 hl2 hW1 hW2 hfin hdl htl hul hfu hownN hown1 hown2 hY hYl hYs hRt hROW hRs hold hmv hgN hkk hik
  go_enter Tryz.func177, Tryz.ntmps177
  go_wp2_with (at_builtin; first | (refine Lib.wpList_append_run _ rfl _ _ _ _ rfl _ _ rfl rfl _ _ (hrz _) ?_) | (refine wpList_copy_runI _ rfl _ _ 23 23 rfl _ _ rfl rfl (hcpA _ _) ?_))
  go_region_law (refine step_copy_runI rfl _ _ 23 23 rfl _ _ (by simp [Act.eval, Act.put]) (by simp [Act.eval, Act.put]) (hcpB _ _ _) ?_)
  go_wp2
  go_ret
  exact ⟨_, rfl, by rw [Hln.out]; exact Hl2.out, Hg2.out⟩

/-- slices.Insert of one element into a row of the call's own. -/
theorem insEn_any (v : Value) (es : List En) (k : Nat) (u : En) (vb B : Nat) (w : World) (hown : w.ownsRow B 29 5 v es.length (enS.flat es)) (hlen : es.length ≤ 1048576) (hk : k ≤ es.length) (hblk : Blk w vb 29 #[.int .i64 u.a, .int .i64 u.b, .int .i64 u.lo, .int .i64 u.hi, .int .i64 u.to]) (hvb : v.ownBlock ≠ some vb) (hB : B ≤ w.heap.size) :
    Calls Tryz.prog 177 #[v, .int .i64 k, .slice (some ⟨vb, 0, none⟩) 1 1] w fun r w' => ∃ v', r = .returned v' ∧ w'.ownsRow B 29 5 v' (ins es k u).length (enS.flat (ins es k u)) ∧ w.grownBy w' v.ownBlock := by
  rcases Nat.lt_or_ge k es.length with h | h
  · obtain ⟨g, cap, rfl⟩ : ∃ g cap, v = .slice (some ⟨g, 0, none⟩) es.length cap := by
      rcases hown.2 with ⟨-, h0⟩ | ⟨g, cap, cur, h1, -⟩
      · omega
      · exact ⟨g, cap, h1⟩
    have hob : (Value.slice (some ⟨g, 0, none⟩) es.length cap).ownBlock = some g := rfl
    rw [hob] at hvb ⊢
    rcases Nat.lt_or_ge cap (es.length + 1) with hc | hc
    · exact insEn_grow es k u vb B g cap w hown hlen h hblk hB hc
    · exact insEn_room es k u vb B g cap w hown h hblk (fun e => hvb (by rw [e])) hc
  · obtain rfl : k = es.length := by omega
    exact insEn_end v es u vb B w hown hlen hblk hB
end
end Go.Proofs.YtimfoodbolokdaaGreatDoor
