/- A report put in its place: the reference's mrPut. Conditions: none. -/
import Derived.Test.YtjnghjgfhlgbiaaDoorSea
import Derived.Test.YtjnghjgfhlgbiaaDoorClone
import Derived.Test.YtjnghjgfhlgbiaaDoorApp
namespace Go.Proofs.YtjnghjgfhlgbiaaDoor
open Go Go.RowKit

theorem rp_src {w : World} {hi c : Nat} {A : Option Addr} {es : List Rp} (h : Rd rpS w hi (.slice A es.length c) es) (k : Nat) :
    ∀ a, A = some a → ∀ j u, (rpS.flat (es.take k))[j]? = some u → w.cell? (a.add j) = some u := by
  intro a ha j u hj
  subst ha
  refine rp_flat_cells h j u ?_
  rw [flat_cut es k, List.getElem?_append_left (List.getElem?_eq_some_iff.1 hj).1]
  exact hj
theorem rp_src2 {w : World} {hi c g off : Nat} {es : List Rp} (h : Rd rpS w hi (.slice (some ⟨g, off, none⟩) es.length c) es) (k : Nat) (hk : k ≤ es.length) :
    ∀ a, some (⟨g, off + k * 7, none⟩ : Addr) = some a → ∀ j u, (rpS.flat (es.drop k))[j]? = some u → w.cell? (a.add j) = some u := by
  intro a ha j u hj
  cases ha
  have := rp_flat_cells h (k * 7 + j) u (by
    have hl : (rpS.flat (es.take k)).length = k * 7 := by rw [Shape.length_flat, List.length_take, Nat.min_eq_left hk]; rfl
    rw [flat_cut es k, List.getElem?_append_right (by omega), hl, show k * 7 + j - k * 7 = j by omega]
    exact hj)
  rw [Addr.add_lit] at this ⊢
  rw [Nat.add_assoc]
  exact this
theorem rp_src0 {w : World} {A : Option Addr} (a : Addr) : A = some a → ∀ j u, (rpS.flat ([] : List Rp))[j]? = some u → w.cell? (a.add j) = some u := by
  intro _ j u hj
  simp [Shape.flat] at hj
theorem put_end {w : World} {B : Nat} {v : Value} {es : List Rp} {k : Nat} {y : Rp} (hk : k ≤ es.length) (h : w.ownsRow B 30 7 v (0 + k + 1 + (es.length - k)) ([] ++ rpS.flat (es.take k) ++ rpS.flat [y] ++ rpS.flat (es.drop k))) :
    w.ownsRow B 30 7 v (ins es k y).length (rpS.flat (ins es k y)) := by
  have e1 : (ins es k y).length = 0 + k + 1 + (es.length - k) := by rw [length_ins]; omega
  have e2 : rpS.flat (ins es k y) = [] ++ rpS.flat (es.take k) ++ rpS.flat [y] ++ rpS.flat (es.drop k) := by
    rw [flat_ins, show rpS.flat [y] = rpS.cells y by simp [Shape.flat]]
    simp
  rw [e1, e2]; exact h
theorem put_end0 {w : World} {B : Nat} {v : Value} {es : List Rp} {y : Rp} (h : w.ownsRow B 30 7 v (0 + es.length + 1 + 0) ([] ++ rpS.flat (es.take es.length) ++ rpS.flat [y] ++ rpS.flat [])) :
    w.ownsRow B 30 7 v (ins es es.length y).length (rpS.flat (ins es es.length y)) :=
  put_end (Nat.le_refl _) (by rw [List.drop_length, Nat.sub_self]; exact h)

set_option maxRecDepth 8000 in
set_option maxHeartbeats 4000000 in
theorem mrPut_any (v : Value) (es : List Rp) (y : Rp) (w : World) (h : Rd rpS w w.heap.size v es) (hlen : es.length ≤ 1000) (hval : ∀ k, k < es.length → (0 ≤ (rpS.get es k).tm ∧ (rpS.get es k).tm ≤ 1000000) ∧ (1 ≤ (rpS.get es k).mc ∧ (rpS.get es k).mc ≤ 9)) (hy : (0 ≤ y.tm ∧ y.tm ≤ 1000000) ∧ (1 ≤ y.mc ∧ y.mc ≤ 9)) :
    Calls Tryd.prog 35 #[v, .agg #[.int .i64 y.tm, .int .i64 y.mc, .int .i64 y.a, .int .i64 y.b, .int .i64 y.lo, .int .i64 y.hi, .int .i64 y.to]] w fun r w' => ∃ v', r = .returned v' ∧ w'.ownsRow w.heap.size 30 7 v' (ins es (placeR es y.tm y.mc) y).length (rpS.flat (ins es (placeR es y.tm y.mc) y)) ∧ Below w.heap.size w w' := by
  obtain ⟨i0, hi, hz0, hz1, hz2⟩ := info_parts infoRp2
  have Hr := Lib.hid h
  obtain ⟨A, c, rfl, hcc, hm, hA⟩ := h
  unfold maxLen at hm
  have hbox : Blk _ w.heap.size 30 #[.int .i64 y.tm, .int .i64 y.mc, .int .i64 y.a, .int .i64 y.b, .int .i64 y.lo, .int .i64 y.hi, .int .i64 y.to] := Blk.new w _ _
  have Hbox := Lib.hid hbox; clear hbox
  have Hval := Lib.hid hval; clear hval
  rcases Nat.eq_zero_or_pos es.length with h0 | h0
  · obtain rfl : es = [] := List.eq_nil_of_length_eq_zero h0
    clear hA hm hcc
    by_cases hc : c = 0
    · subst hc
      cases A with
      | none =>
        go_enter Tryd.func35, Tryd.ntmps35
        go_wp2
        refine wp_loop_rounds 1 ?_
        rw [rounds_succ]
        go_wp2
        refine wp_region_tame (by kernel_rfl) (by kernel_rfl) (fun T _ W hT => ?_)
        have hx := hT.cell
        repeat (go_big_quiet_step (fail))
        refine wpQuiet_nil ?_
        intro t
        clear hx
        go_wp2
        have hbt : Below w.heap.size w (W t) := bthen (bal (Below.refl _ _) _) (hT.below t)
        have hblkt := Hbox.out.on (hT.below t)
        generalize W t = wt at hbt hblkt ⊢
        clear hT
        have r0 := hblkt.cell 0
        have r1 := hblkt.cell 1
        have r2 := hblkt.cell 2
        have r3 := hblkt.cell 3
        have r4 := hblkt.cell 4
        have r5 := hblkt.cell 5
        have r6 := hblkt.cell 6
        have rl := hblkt.lt
        have HS : Hid (∀ w', Below wt.heap.size wt w' → (w'.cell? ⟨w.heap.size, 0, none⟩ = some (.int .i64 y.tm) ∧ w'.cell? ⟨w.heap.size, 1, none⟩ = some (.int .i64 y.mc) ∧ w'.cell? ⟨w.heap.size, 2, none⟩ = some (.int .i64 y.a) ∧ w'.cell? ⟨w.heap.size, 3, none⟩ = some (.int .i64 y.b) ∧ w'.cell? ⟨w.heap.size, 4, none⟩ = some (.int .i64 y.lo) ∧ w'.cell? ⟨w.heap.size, 5, none⟩ = some (.int .i64 y.hi) ∧ w'.cell? ⟨w.heap.size, 6, none⟩ = some (.int .i64 y.to) ∧ Below wt.heap.size wt w')) := Lib.hid (fun w' hw => ⟨(hw.cell (p := ⟨w.heap.size, 0, none⟩) rl).trans r0, (hw.cell (p := ⟨w.heap.size, 1, none⟩) rl).trans r1, (hw.cell (p := ⟨w.heap.size, 2, none⟩) rl).trans r2, (hw.cell (p := ⟨w.heap.size, 3, none⟩) rl).trans r3, (hw.cell (p := ⟨w.heap.size, 4, none⟩) rl).trans r4, (hw.cell (p := ⟨w.heap.size, 5, none⟩) rl).trans r5, (hw.cell (p := ⟨w.heap.size, 6, none⟩) rl).trans r6, hw⟩)
        have Hl1 : Hid ((rpS.flat (([] : List Rp).take 0)).length = (0) * 7) := Lib.hid (by first | (rw [Shape.length_flat, List.length_take, Nat.min_eq_left (by omega)]; rfl) | (simp [Shape.flat]; done))
        have Hl3 : Hid ((rpS.flat ([])).length = (0) * 7) := Lib.hid (by first | (rw [Shape.length_flat, List.length_drop]; rfl) | (simp [Shape.flat]; done) | (simp [Shape.flat]; omega))
        have Hm1 : Hid (0 + 0 ≤ maxLen) := Lib.hid (by unfold maxLen; omega)
        have Hy1 : Hid ((0 + 0) * 56 ≤ 140737488355328) := Lib.hid (by omega)
        have Hm2 : Hid (0 + 0 + 1 ≤ maxLen) := Lib.hid (by unfold maxLen; omega)
        have Hy2 : Hid ((0 + 0 + 1) * 56 ≤ 140737488355328) := Lib.hid (by omega)
        have Hm3 : Hid (0 + 0 + 1 + (0) ≤ maxLen) := Lib.hid (by unfold maxLen; omega)
        have Hy3 : Hid ((0 + 0 + 1 + (0)) * 56 ≤ 140737488355328) := Lib.hid (by omega)
        go_region_held3 (fun w' => w'.cell? ⟨w.heap.size, 0, none⟩ = some (.int .i64 y.tm) ∧ w'.cell? ⟨w.heap.size, 1, none⟩ = some (.int .i64 y.mc) ∧ w'.cell? ⟨w.heap.size, 2, none⟩ = some (.int .i64 y.a) ∧ w'.cell? ⟨w.heap.size, 3, none⟩ = some (.int .i64 y.b) ∧ w'.cell? ⟨w.heap.size, 4, none⟩ = some (.int .i64 y.lo) ∧ w'.cell? ⟨w.heap.size, 5, none⟩ = some (.int .i64 y.hi) ∧ w'.cell? ⟨w.heap.size, 6, none⟩ = some (.int .i64 y.to) ∧ Below wt.heap.size wt w') ((go_split_ands; refine HS.out _ ?_; repeat (first | (with_reducible assumption) | (with_reducible exact Below.refl _ _) | (with_reducible refine Below.drew ?_) | (with_reducible refine bal ?_ _)))) ((first | (refine step_append_src (by rfl) _ _ 24 (by rfl) 30 i0 (.agg #[.int .i64 0, .int .i64 0, .int .i64 0, .int .i64 0, .int .i64 0, .int .i64 0, .int .i64 0]) 7 56 Tryd.underlying24 hi hz0 hz1 hz2 rfl (by decide) wt (by (try go_split_ands); with_reducible assumption) _ 0 [] (by rfl) (by first | exact own_empty (by simp) | exact own_empty1 (by simp) | exact (own_empty (by simp)).alloc _) (_) (0) (_) (rpS.flat (([] : List Rp).take 0)) (by rfl) Hl1.out (fun _ => rfl) (fun a => rp_src0 a) (rp_one _) Hm1.out Hy1.out ?_; intro v1 w1 ho1 hbA1 hk1) | (refine step_append_src (by rfl) _ _ 24 (by rfl) 30 i0 (.agg #[.int .i64 0, .int .i64 0, .int .i64 0, .int .i64 0, .int .i64 0, .int .i64 0, .int .i64 0]) 7 56 Tryd.underlying24 hi hz0 hz1 hz2 rfl (by decide) wt (by (try go_split_ands); with_reducible assumption) v1 (0 + 0) ([] ++ rpS.flat (([] : List Rp).take 0)) (by rfl) (by first | with_reducible exact ho1 | with_reducible exact ho1.alloc _) _ 1 _ (rpS.flat [y]) (by rfl) rfl (by intro h; cases h) (lit_src (oneRp_cells (by first | exact Blk.new _ _ _ | exact hk1 _ _ _ (Blk.new1 _ _ _ _) (ob_ne (by rfl) (by first | omega | (simp; done) | (simp; omega))) | exact hk1 _ _ _ (Blk.new _ _ _) (ob_ne (by rfl) (by first | omega | (simp; done) | (simp; omega))) | exact hk1 _ _ _ (Blk.alloc (Blk.new _ _ _) _) (ob_ne (by rfl) (by first | omega | (simp; done) | (simp; omega)))))) (rp_one _) Hm2.out Hy2.out ?_; intro v2 w2 ho2 hbA2 hk2) | (refine step_append_src (by rfl) _ _ 24 (by rfl) 30 i0 (.agg #[.int .i64 0, .int .i64 0, .int .i64 0, .int .i64 0, .int .i64 0, .int .i64 0, .int .i64 0]) 7 56 Tryd.underlying24 hi hz0 hz1 hz2 rfl (by decide) wt (by (try go_split_ands); with_reducible assumption) v2 (0 + 0 + 1) ([] ++ rpS.flat (([] : List Rp).take 0) ++ rpS.flat [y]) (by rfl) (by with_reducible exact ho2) (_) (0) (_) (rpS.flat ([])) (by rfl) Hl3.out (fun _ => rfl) (fun a => rp_src0 a) (rp_one _) Hm3.out Hy3.out ?_; intro v3 w3 ho3 hbA3 hk3)))
        all_goals
          go_wp2
          go_ret
          exact ⟨_, rfl, put_end0 (es := []) (own_mono ho3 hbt.size), bthen hbt hbA3⟩
      | some a =>
        go_enter Tryd.func35, Tryd.ntmps35
        go_wp2
        refine wp_loop_rounds 1 ?_
        rw [rounds_succ]
        go_wp2
        refine wp_region_tame (by kernel_rfl) (by kernel_rfl) (fun T _ W hT => ?_)
        have hx := hT.cell
        repeat (go_big_quiet_step (fail))
        refine wpQuiet_nil ?_
        intro t
        clear hx
        go_wp2
        have hbt : Below w.heap.size w (W t) := bthen (bal (Below.refl _ _) _) (hT.below t)
        have hblkt := Hbox.out.on (hT.below t)
        generalize W t = wt at hbt hblkt ⊢
        clear hT
        have r0 := hblkt.cell 0
        have r1 := hblkt.cell 1
        have r2 := hblkt.cell 2
        have r3 := hblkt.cell 3
        have r4 := hblkt.cell 4
        have r5 := hblkt.cell 5
        have r6 := hblkt.cell 6
        have rl := hblkt.lt
        have HS : Hid (∀ w', Below wt.heap.size wt w' → (w'.cell? ⟨w.heap.size, 0, none⟩ = some (.int .i64 y.tm) ∧ w'.cell? ⟨w.heap.size, 1, none⟩ = some (.int .i64 y.mc) ∧ w'.cell? ⟨w.heap.size, 2, none⟩ = some (.int .i64 y.a) ∧ w'.cell? ⟨w.heap.size, 3, none⟩ = some (.int .i64 y.b) ∧ w'.cell? ⟨w.heap.size, 4, none⟩ = some (.int .i64 y.lo) ∧ w'.cell? ⟨w.heap.size, 5, none⟩ = some (.int .i64 y.hi) ∧ w'.cell? ⟨w.heap.size, 6, none⟩ = some (.int .i64 y.to) ∧ Below wt.heap.size wt w')) := Lib.hid (fun w' hw => ⟨(hw.cell (p := ⟨w.heap.size, 0, none⟩) rl).trans r0, (hw.cell (p := ⟨w.heap.size, 1, none⟩) rl).trans r1, (hw.cell (p := ⟨w.heap.size, 2, none⟩) rl).trans r2, (hw.cell (p := ⟨w.heap.size, 3, none⟩) rl).trans r3, (hw.cell (p := ⟨w.heap.size, 4, none⟩) rl).trans r4, (hw.cell (p := ⟨w.heap.size, 5, none⟩) rl).trans r5, (hw.cell (p := ⟨w.heap.size, 6, none⟩) rl).trans r6, hw⟩)
        have Hl1 : Hid ((rpS.flat (([] : List Rp).take 0)).length = (0) * 7) := Lib.hid (by first | (rw [Shape.length_flat, List.length_take, Nat.min_eq_left (by omega)]; rfl) | (simp [Shape.flat]; done))
        have Hl3 : Hid ((rpS.flat ([])).length = (0) * 7) := Lib.hid (by first | (rw [Shape.length_flat, List.length_drop]; rfl) | (simp [Shape.flat]; done) | (simp [Shape.flat]; omega))
        have Hm1 : Hid (0 + 0 ≤ maxLen) := Lib.hid (by unfold maxLen; omega)
        have Hy1 : Hid ((0 + 0) * 56 ≤ 140737488355328) := Lib.hid (by omega)
        have Hm2 : Hid (0 + 0 + 1 ≤ maxLen) := Lib.hid (by unfold maxLen; omega)
        have Hy2 : Hid ((0 + 0 + 1) * 56 ≤ 140737488355328) := Lib.hid (by omega)
        have Hm3 : Hid (0 + 0 + 1 + (0) ≤ maxLen) := Lib.hid (by unfold maxLen; omega)
        have Hy3 : Hid ((0 + 0 + 1 + (0)) * 56 ≤ 140737488355328) := Lib.hid (by omega)
        go_region_held3 (fun w' => w'.cell? ⟨w.heap.size, 0, none⟩ = some (.int .i64 y.tm) ∧ w'.cell? ⟨w.heap.size, 1, none⟩ = some (.int .i64 y.mc) ∧ w'.cell? ⟨w.heap.size, 2, none⟩ = some (.int .i64 y.a) ∧ w'.cell? ⟨w.heap.size, 3, none⟩ = some (.int .i64 y.b) ∧ w'.cell? ⟨w.heap.size, 4, none⟩ = some (.int .i64 y.lo) ∧ w'.cell? ⟨w.heap.size, 5, none⟩ = some (.int .i64 y.hi) ∧ w'.cell? ⟨w.heap.size, 6, none⟩ = some (.int .i64 y.to) ∧ Below wt.heap.size wt w') ((go_split_ands; refine HS.out _ ?_; repeat (first | (with_reducible assumption) | (with_reducible exact Below.refl _ _) | (with_reducible refine Below.drew ?_) | (with_reducible refine bal ?_ _)))) ((first | (refine step_append_src (by rfl) _ _ 24 (by rfl) 30 i0 (.agg #[.int .i64 0, .int .i64 0, .int .i64 0, .int .i64 0, .int .i64 0, .int .i64 0, .int .i64 0]) 7 56 Tryd.underlying24 hi hz0 hz1 hz2 rfl (by decide) wt (by (try go_split_ands); with_reducible assumption) _ 0 [] (by rfl) (by first | exact own_empty (by simp) | exact own_empty1 (by simp) | exact (own_empty (by simp)).alloc _) (_) (0) (_) (rpS.flat (([] : List Rp).take 0)) (by rfl) Hl1.out (fun _ => rfl) (fun a => rp_src0 a) (rp_one _) Hm1.out Hy1.out ?_; intro v1 w1 ho1 hbA1 hk1) | (refine step_append_src (by rfl) _ _ 24 (by rfl) 30 i0 (.agg #[.int .i64 0, .int .i64 0, .int .i64 0, .int .i64 0, .int .i64 0, .int .i64 0, .int .i64 0]) 7 56 Tryd.underlying24 hi hz0 hz1 hz2 rfl (by decide) wt (by (try go_split_ands); with_reducible assumption) v1 (0 + 0) ([] ++ rpS.flat (([] : List Rp).take 0)) (by rfl) (by first | with_reducible exact ho1 | with_reducible exact ho1.alloc _) _ 1 _ (rpS.flat [y]) (by rfl) rfl (by intro h; cases h) (lit_src (oneRp_cells (by first | exact Blk.new _ _ _ | exact hk1 _ _ _ (Blk.new1 _ _ _ _) (ob_ne (by rfl) (by first | omega | (simp; done) | (simp; omega))) | exact hk1 _ _ _ (Blk.new _ _ _) (ob_ne (by rfl) (by first | omega | (simp; done) | (simp; omega))) | exact hk1 _ _ _ (Blk.alloc (Blk.new _ _ _) _) (ob_ne (by rfl) (by first | omega | (simp; done) | (simp; omega)))))) (rp_one _) Hm2.out Hy2.out ?_; intro v2 w2 ho2 hbA2 hk2) | (refine step_append_src (by rfl) _ _ 24 (by rfl) 30 i0 (.agg #[.int .i64 0, .int .i64 0, .int .i64 0, .int .i64 0, .int .i64 0, .int .i64 0, .int .i64 0]) 7 56 Tryd.underlying24 hi hz0 hz1 hz2 rfl (by decide) wt (by (try go_split_ands); with_reducible assumption) v2 (0 + 0 + 1) ([] ++ rpS.flat (([] : List Rp).take 0) ++ rpS.flat [y]) (by rfl) (by with_reducible exact ho2) (_) (0) (_) (rpS.flat ([])) (by rfl) Hl3.out (fun _ => rfl) (fun a => rp_src0 a) (rp_one _) Hm3.out Hy3.out ?_; intro v3 w3 ho3 hbA3 hk3)))
        all_goals
          go_wp2
          go_ret
          exact ⟨_, rfl, put_end0 (es := []) (own_mono ho3 hbt.size), bthen hbt hbA3⟩
    · cases A with
      | none =>
        go_enter Tryd.func35, Tryd.ntmps35
        go_wp2
        refine wp_loop_rounds 1 ?_
        rw [rounds_succ]
        go_wp2
        refine wp_region_tame (by kernel_rfl) (by kernel_rfl) (fun T _ W hT => ?_)
        have hx := hT.cell
        repeat (go_big_quiet_step (fail))
        refine wpQuiet_nil ?_
        intro t
        clear hx
        go_wp2
        have hbt : Below w.heap.size w (W t) := bthen (bal (Below.refl _ _) _) (hT.below t)
        have hblkt := Hbox.out.on (hT.below t)
        generalize W t = wt at hbt hblkt ⊢
        clear hT
        have r0 := hblkt.cell 0
        have r1 := hblkt.cell 1
        have r2 := hblkt.cell 2
        have r3 := hblkt.cell 3
        have r4 := hblkt.cell 4
        have r5 := hblkt.cell 5
        have r6 := hblkt.cell 6
        have rl := hblkt.lt
        have HS : Hid (∀ w', Below wt.heap.size wt w' → (w'.cell? ⟨w.heap.size, 0, none⟩ = some (.int .i64 y.tm) ∧ w'.cell? ⟨w.heap.size, 1, none⟩ = some (.int .i64 y.mc) ∧ w'.cell? ⟨w.heap.size, 2, none⟩ = some (.int .i64 y.a) ∧ w'.cell? ⟨w.heap.size, 3, none⟩ = some (.int .i64 y.b) ∧ w'.cell? ⟨w.heap.size, 4, none⟩ = some (.int .i64 y.lo) ∧ w'.cell? ⟨w.heap.size, 5, none⟩ = some (.int .i64 y.hi) ∧ w'.cell? ⟨w.heap.size, 6, none⟩ = some (.int .i64 y.to) ∧ Below wt.heap.size wt w')) := Lib.hid (fun w' hw => ⟨(hw.cell (p := ⟨w.heap.size, 0, none⟩) rl).trans r0, (hw.cell (p := ⟨w.heap.size, 1, none⟩) rl).trans r1, (hw.cell (p := ⟨w.heap.size, 2, none⟩) rl).trans r2, (hw.cell (p := ⟨w.heap.size, 3, none⟩) rl).trans r3, (hw.cell (p := ⟨w.heap.size, 4, none⟩) rl).trans r4, (hw.cell (p := ⟨w.heap.size, 5, none⟩) rl).trans r5, (hw.cell (p := ⟨w.heap.size, 6, none⟩) rl).trans r6, hw⟩)
        have Hl1 : Hid ((rpS.flat (([] : List Rp).take 0)).length = (0) * 7) := Lib.hid (by first | (rw [Shape.length_flat, List.length_take, Nat.min_eq_left (by omega)]; rfl) | (simp [Shape.flat]; done))
        have Hl3 : Hid ((rpS.flat ([])).length = (0) * 7) := Lib.hid (by first | (rw [Shape.length_flat, List.length_drop]; rfl) | (simp [Shape.flat]; done) | (simp [Shape.flat]; omega))
        have Hm1 : Hid (0 + 0 ≤ maxLen) := Lib.hid (by unfold maxLen; omega)
        have Hy1 : Hid ((0 + 0) * 56 ≤ 140737488355328) := Lib.hid (by omega)
        have Hm2 : Hid (0 + 0 + 1 ≤ maxLen) := Lib.hid (by unfold maxLen; omega)
        have Hy2 : Hid ((0 + 0 + 1) * 56 ≤ 140737488355328) := Lib.hid (by omega)
        have Hm3 : Hid (0 + 0 + 1 + (0) ≤ maxLen) := Lib.hid (by unfold maxLen; omega)
        have Hy3 : Hid ((0 + 0 + 1 + (0)) * 56 ≤ 140737488355328) := Lib.hid (by omega)
        go_region_held3 (fun w' => w'.cell? ⟨w.heap.size, 0, none⟩ = some (.int .i64 y.tm) ∧ w'.cell? ⟨w.heap.size, 1, none⟩ = some (.int .i64 y.mc) ∧ w'.cell? ⟨w.heap.size, 2, none⟩ = some (.int .i64 y.a) ∧ w'.cell? ⟨w.heap.size, 3, none⟩ = some (.int .i64 y.b) ∧ w'.cell? ⟨w.heap.size, 4, none⟩ = some (.int .i64 y.lo) ∧ w'.cell? ⟨w.heap.size, 5, none⟩ = some (.int .i64 y.hi) ∧ w'.cell? ⟨w.heap.size, 6, none⟩ = some (.int .i64 y.to) ∧ Below wt.heap.size wt w') ((go_split_ands; refine HS.out _ ?_; repeat (first | (with_reducible assumption) | (with_reducible exact Below.refl _ _) | (with_reducible refine Below.drew ?_) | (with_reducible refine bal ?_ _)))) ((first | (refine step_append_src (by rfl) _ _ 24 (by rfl) 30 i0 (.agg #[.int .i64 0, .int .i64 0, .int .i64 0, .int .i64 0, .int .i64 0, .int .i64 0, .int .i64 0]) 7 56 Tryd.underlying24 hi hz0 hz1 hz2 rfl (by decide) wt (by (try go_split_ands); with_reducible assumption) _ 0 [] (by rfl) (by first | exact own_empty (by simp) | exact own_empty1 (by simp) | exact (own_empty (by simp)).alloc _) (_) (0) (_) (rpS.flat (([] : List Rp).take 0)) (by rfl) Hl1.out (fun _ => rfl) (fun a => rp_src0 a) (rp_one _) Hm1.out Hy1.out ?_; intro v1 w1 ho1 hbA1 hk1) | (refine step_append_src (by rfl) _ _ 24 (by rfl) 30 i0 (.agg #[.int .i64 0, .int .i64 0, .int .i64 0, .int .i64 0, .int .i64 0, .int .i64 0, .int .i64 0]) 7 56 Tryd.underlying24 hi hz0 hz1 hz2 rfl (by decide) wt (by (try go_split_ands); with_reducible assumption) v1 (0 + 0) ([] ++ rpS.flat (([] : List Rp).take 0)) (by rfl) (by first | with_reducible exact ho1 | with_reducible exact ho1.alloc _) _ 1 _ (rpS.flat [y]) (by rfl) rfl (by intro h; cases h) (lit_src (oneRp_cells (by first | exact Blk.new _ _ _ | exact hk1 _ _ _ (Blk.new1 _ _ _ _) (ob_ne (by rfl) (by first | omega | (simp; done) | (simp; omega))) | exact hk1 _ _ _ (Blk.new _ _ _) (ob_ne (by rfl) (by first | omega | (simp; done) | (simp; omega))) | exact hk1 _ _ _ (Blk.alloc (Blk.new _ _ _) _) (ob_ne (by rfl) (by first | omega | (simp; done) | (simp; omega)))))) (rp_one _) Hm2.out Hy2.out ?_; intro v2 w2 ho2 hbA2 hk2) | (refine step_append_src (by rfl) _ _ 24 (by rfl) 30 i0 (.agg #[.int .i64 0, .int .i64 0, .int .i64 0, .int .i64 0, .int .i64 0, .int .i64 0, .int .i64 0]) 7 56 Tryd.underlying24 hi hz0 hz1 hz2 rfl (by decide) wt (by (try go_split_ands); with_reducible assumption) v2 (0 + 0 + 1) ([] ++ rpS.flat (([] : List Rp).take 0) ++ rpS.flat [y]) (by rfl) (by with_reducible exact ho2) (_) (0) (_) (rpS.flat ([])) (by rfl) Hl3.out (fun _ => rfl) (fun a => rp_src0 a) (rp_one _) Hm3.out Hy3.out ?_; intro v3 w3 ho3 hbA3 hk3)))
        all_goals
          go_wp2
          go_ret
          exact ⟨_, rfl, put_end0 (es := []) (own_mono ho3 hbt.size), bthen hbt hbA3⟩
      | some a =>
        go_enter Tryd.func35, Tryd.ntmps35
        go_wp2
        refine wp_loop_rounds 1 ?_
        rw [rounds_succ]
        go_wp2
        refine wp_region_tame (by kernel_rfl) (by kernel_rfl) (fun T _ W hT => ?_)
        have hx := hT.cell
        repeat (go_big_quiet_step (fail))
        refine wpQuiet_nil ?_
        intro t
        clear hx
        go_wp2
        have hbt : Below w.heap.size w (W t) := bthen (bal (Below.refl _ _) _) (hT.below t)
        have hblkt := Hbox.out.on (hT.below t)
        generalize W t = wt at hbt hblkt ⊢
        clear hT
        have r0 := hblkt.cell 0
        have r1 := hblkt.cell 1
        have r2 := hblkt.cell 2
        have r3 := hblkt.cell 3
        have r4 := hblkt.cell 4
        have r5 := hblkt.cell 5
        have r6 := hblkt.cell 6
        have rl := hblkt.lt
        have HS : Hid (∀ w', Below wt.heap.size wt w' → (w'.cell? ⟨w.heap.size, 0, none⟩ = some (.int .i64 y.tm) ∧ w'.cell? ⟨w.heap.size, 1, none⟩ = some (.int .i64 y.mc) ∧ w'.cell? ⟨w.heap.size, 2, none⟩ = some (.int .i64 y.a) ∧ w'.cell? ⟨w.heap.size, 3, none⟩ = some (.int .i64 y.b) ∧ w'.cell? ⟨w.heap.size, 4, none⟩ = some (.int .i64 y.lo) ∧ w'.cell? ⟨w.heap.size, 5, none⟩ = some (.int .i64 y.hi) ∧ w'.cell? ⟨w.heap.size, 6, none⟩ = some (.int .i64 y.to) ∧ Below wt.heap.size wt w')) := Lib.hid (fun w' hw => ⟨(hw.cell (p := ⟨w.heap.size, 0, none⟩) rl).trans r0, (hw.cell (p := ⟨w.heap.size, 1, none⟩) rl).trans r1, (hw.cell (p := ⟨w.heap.size, 2, none⟩) rl).trans r2, (hw.cell (p := ⟨w.heap.size, 3, none⟩) rl).trans r3, (hw.cell (p := ⟨w.heap.size, 4, none⟩) rl).trans r4, (hw.cell (p := ⟨w.heap.size, 5, none⟩) rl).trans r5, (hw.cell (p := ⟨w.heap.size, 6, none⟩) rl).trans r6, hw⟩)
        have Hl1 : Hid ((rpS.flat (([] : List Rp).take 0)).length = (0) * 7) := Lib.hid (by first | (rw [Shape.length_flat, List.length_take, Nat.min_eq_left (by omega)]; rfl) | (simp [Shape.flat]; done))
        have Hl3 : Hid ((rpS.flat ([])).length = (0) * 7) := Lib.hid (by first | (rw [Shape.length_flat, List.length_drop]; rfl) | (simp [Shape.flat]; done) | (simp [Shape.flat]; omega))
        have Hm1 : Hid (0 + 0 ≤ maxLen) := Lib.hid (by unfold maxLen; omega)
        have Hy1 : Hid ((0 + 0) * 56 ≤ 140737488355328) := Lib.hid (by omega)
        have Hm2 : Hid (0 + 0 + 1 ≤ maxLen) := Lib.hid (by unfold maxLen; omega)
        have Hy2 : Hid ((0 + 0 + 1) * 56 ≤ 140737488355328) := Lib.hid (by omega)
        have Hm3 : Hid (0 + 0 + 1 + (0) ≤ maxLen) := Lib.hid (by unfold maxLen; omega)
        have Hy3 : Hid ((0 + 0 + 1 + (0)) * 56 ≤ 140737488355328) := Lib.hid (by omega)
        go_region_held3 (fun w' => w'.cell? ⟨w.heap.size, 0, none⟩ = some (.int .i64 y.tm) ∧ w'.cell? ⟨w.heap.size, 1, none⟩ = some (.int .i64 y.mc) ∧ w'.cell? ⟨w.heap.size, 2, none⟩ = some (.int .i64 y.a) ∧ w'.cell? ⟨w.heap.size, 3, none⟩ = some (.int .i64 y.b) ∧ w'.cell? ⟨w.heap.size, 4, none⟩ = some (.int .i64 y.lo) ∧ w'.cell? ⟨w.heap.size, 5, none⟩ = some (.int .i64 y.hi) ∧ w'.cell? ⟨w.heap.size, 6, none⟩ = some (.int .i64 y.to) ∧ Below wt.heap.size wt w') ((go_split_ands; refine HS.out _ ?_; repeat (first | (with_reducible assumption) | (with_reducible exact Below.refl _ _) | (with_reducible refine Below.drew ?_) | (with_reducible refine bal ?_ _)))) ((first | (refine step_append_src (by rfl) _ _ 24 (by rfl) 30 i0 (.agg #[.int .i64 0, .int .i64 0, .int .i64 0, .int .i64 0, .int .i64 0, .int .i64 0, .int .i64 0]) 7 56 Tryd.underlying24 hi hz0 hz1 hz2 rfl (by decide) wt (by (try go_split_ands); with_reducible assumption) _ 0 [] (by rfl) (by first | exact own_empty (by simp) | exact own_empty1 (by simp) | exact (own_empty (by simp)).alloc _) (_) (0) (_) (rpS.flat (([] : List Rp).take 0)) (by rfl) Hl1.out (fun _ => rfl) (fun a => rp_src0 a) (rp_one _) Hm1.out Hy1.out ?_; intro v1 w1 ho1 hbA1 hk1) | (refine step_append_src (by rfl) _ _ 24 (by rfl) 30 i0 (.agg #[.int .i64 0, .int .i64 0, .int .i64 0, .int .i64 0, .int .i64 0, .int .i64 0, .int .i64 0]) 7 56 Tryd.underlying24 hi hz0 hz1 hz2 rfl (by decide) wt (by (try go_split_ands); with_reducible assumption) v1 (0 + 0) ([] ++ rpS.flat (([] : List Rp).take 0)) (by rfl) (by first | with_reducible exact ho1 | with_reducible exact ho1.alloc _) _ 1 _ (rpS.flat [y]) (by rfl) rfl (by intro h; cases h) (lit_src (oneRp_cells (by first | exact Blk.new _ _ _ | exact hk1 _ _ _ (Blk.new1 _ _ _ _) (ob_ne (by rfl) (by first | omega | (simp; done) | (simp; omega))) | exact hk1 _ _ _ (Blk.new _ _ _) (ob_ne (by rfl) (by first | omega | (simp; done) | (simp; omega))) | exact hk1 _ _ _ (Blk.alloc (Blk.new _ _ _) _) (ob_ne (by rfl) (by first | omega | (simp; done) | (simp; omega)))))) (rp_one _) Hm2.out Hy2.out ?_; intro v2 w2 ho2 hbA2 hk2) | (refine step_append_src (by rfl) _ _ 24 (by rfl) 30 i0 (.agg #[.int .i64 0, .int .i64 0, .int .i64 0, .int .i64 0, .int .i64 0, .int .i64 0, .int .i64 0]) 7 56 Tryd.underlying24 hi hz0 hz1 hz2 rfl (by decide) wt (by (try go_split_ands); with_reducible assumption) v2 (0 + 0 + 1) ([] ++ rpS.flat (([] : List Rp).take 0) ++ rpS.flat [y]) (by rfl) (by with_reducible exact ho2) (_) (0) (_) (rpS.flat ([])) (by rfl) Hl3.out (fun _ => rfl) (fun a => rp_src0 a) (rp_one _) Hm3.out Hy3.out ?_; intro v3 w3 ho3 hbA3 hk3)))
        all_goals
          go_wp2
          go_ret
          exact ⟨_, rfl, put_end0 (es := []) (own_mono ho3 hbt.size), bthen hbt hbA3⟩
  · obtain ⟨g, off, rfl, hg, hcell⟩ := hA h0
    clear hA
    have hcell := rp_cells hcell
    go_enter Tryd.func35, Tryd.ntmps35
    go_wp2
    go_loopw [5] (fun i wr => ∃ k : Nat, k ≤ es.length ∧ i = .int .i64 k ∧ (∀ j, j < k → decide (cmpC (rpS.get es j).tm (rpS.get es j).mc y.tm y.mc < 0) = true) ∧ Below w.heap.size w wr ∧ Blk wr w.heap.size 30 #[.int .i64 y.tm, .int .i64 y.mc, .int .i64 y.a, .int .i64 y.b, .int .i64 y.lo, .int .i64 y.hi, .int .i64 y.to]) (fun i _ => es.length - (intOf i).toNat)
    case atStart => exact ⟨0, Nat.zero_le _, rfl, by omega, bal (Below.refl _ _) _, Hbox.out⟩
    case round =>
      obtain ⟨k, hk, rfl, hok, hb, hblk⟩ := hrel
      have Hok := Lib.hid hok; clear hok
      have q0 := hblk.cell 0
      have q1 := hblk.cell 1
      have q2 := hblk.cell 2
      have q3 := hblk.cell 3
      have q4 := hblk.cell 4
      have q5 := hblk.cell 5
      have q6 := hblk.cell 6
      have ql := hblk.lt
      have Hblk := Lib.hid hblk; clear hblk
      by_cases hlt : k < es.length
      · obtain ⟨f0, f1, f2, f3, f4, f5, f6⟩ := hcell k hlt
        rw [← hb.cell (p := ⟨_, _, _⟩) hg] at f0 f1 f2 f3 f4 f5 f6
        have hbd := Hval.out k hlt
        have hgr : g < wr.heap.size := Nat.lt_of_lt_of_le hg hb.size
        generalize hx : rpS.get es k = x at f0 f1 f2 f3 f4 f5 f6 hbd
        have Hx := Lib.hid hx; clear hx
        have hi0 : (0 : Int) ≤ (k : Int) := by omega
        have hi1 : (k : Int) < (es.length : Int) := by omega
        clear hcell
        cases hd : decide (cmpC x.tm x.mc y.tm y.mc < 0)
        · have Hd := Lib.hid hd
          go_wp2
          refine wp_region_tame (by kernel_rfl) (by kernel_rfl) (fun T _ W hT => ?_)
          have hx := hT.cell
          repeat (go_big_quiet_step ((go_at_call 57; exact hT.call (mrOrder_any _ _ _ _ _ _ _ _ _ _ _ _ _ _ _ hbd.1 hbd.2 hy.1 hy.2))))
          refine wpQuiet_nil ?_
          intro t
          clear hx
          go_wp2
          have hbt := bthen hb (hT.below t)
          have hblkt := Hblk.out.on (hT.below t)
          generalize W t = wt at hbt hblkt ⊢
          clear hT f0 f1 f2 f3 f4 f5 f6
          have hp : placeR es y.tm y.mc = k := lead_eq _ _ _ hk Hok.out (fun _ => by rw [Hx.out]; exact Hd.out)
          have HRt := Lib.hid (Hr.out.on hbt)
          have hck : ¬ (c = k) := by omega
          have Hp := Lib.hid hp; clear hp
          have r0 := hblkt.cell 0
          have r1 := hblkt.cell 1
          have r2 := hblkt.cell 2
          have r3 := hblkt.cell 3
          have r4 := hblkt.cell 4
          have r5 := hblkt.cell 5
          have r6 := hblkt.cell 6
          have rl := hblkt.lt
          have t1 : (0 : Int) ≤ ((k : Nat) : Int) := by omega
          have t2 : ((k : Nat) : Int) ≤ (c : Int) := by omega
          have t3 : ((k : Nat) : Int) ≤ (es.length : Int) := by omega
          have HS : Hid (∀ w', Below wt.heap.size wt w' → (w'.cell? ⟨w.heap.size, 0, none⟩ = some (.int .i64 y.tm) ∧ w'.cell? ⟨w.heap.size, 1, none⟩ = some (.int .i64 y.mc) ∧ w'.cell? ⟨w.heap.size, 2, none⟩ = some (.int .i64 y.a) ∧ w'.cell? ⟨w.heap.size, 3, none⟩ = some (.int .i64 y.b) ∧ w'.cell? ⟨w.heap.size, 4, none⟩ = some (.int .i64 y.lo) ∧ w'.cell? ⟨w.heap.size, 5, none⟩ = some (.int .i64 y.hi) ∧ w'.cell? ⟨w.heap.size, 6, none⟩ = some (.int .i64 y.to) ∧ Below wt.heap.size wt w')) := Lib.hid (fun w' hw => ⟨(hw.cell (p := ⟨w.heap.size, 0, none⟩) rl).trans r0, (hw.cell (p := ⟨w.heap.size, 1, none⟩) rl).trans r1, (hw.cell (p := ⟨w.heap.size, 2, none⟩) rl).trans r2, (hw.cell (p := ⟨w.heap.size, 3, none⟩) rl).trans r3, (hw.cell (p := ⟨w.heap.size, 4, none⟩) rl).trans r4, (hw.cell (p := ⟨w.heap.size, 5, none⟩) rl).trans r5, (hw.cell (p := ⟨w.heap.size, 6, none⟩) rl).trans r6, hw⟩)
          have Hl1 : Hid ((rpS.flat (es.take k)).length = (k) * 7) := Lib.hid (by first | (rw [Shape.length_flat, List.length_take, Nat.min_eq_left (by omega)]; rfl) | (simp [Shape.flat]; done))
          have Hl3 : Hid ((rpS.flat (es.drop k)).length = (es.length - k) * 7) := Lib.hid (by first | (rw [Shape.length_flat, List.length_drop]; rfl) | (simp [Shape.flat]; done) | (simp [Shape.flat]; omega))
          have HA1 : Hid ((some ⟨g, off, none⟩ : Option Addr) = none → (k) = 0) := Lib.hid (by intro h; first | cases h | omega)
          have HA3 : Hid ((some ⟨g, off + k * 7, none⟩ : Option Addr) = none → (es.length - k) = 0) := Lib.hid (by intro h; first | cases h | omega)
          have Hs1 := Lib.hid (rp_src HRt.out k)
          have Hs3 := Lib.hid (rp_src2 HRt.out k hk)
          have Hm1 : Hid (0 + k ≤ maxLen) := Lib.hid (by unfold maxLen; omega)
          have Hy1 : Hid ((0 + k) * 56 ≤ 140737488355328) := Lib.hid (by omega)
          have Hm2 : Hid (0 + k + 1 ≤ maxLen) := Lib.hid (by unfold maxLen; omega)
          have Hy2 : Hid ((0 + k + 1) * 56 ≤ 140737488355328) := Lib.hid (by omega)
          have Hm3 : Hid (0 + k + 1 + (es.length - k) ≤ maxLen) := Lib.hid (by unfold maxLen; omega)
          have Hy3 : Hid ((0 + k + 1 + (es.length - k)) * 56 ≤ 140737488355328) := Lib.hid (by omega)
          go_region_held3 (fun w' => w'.cell? ⟨w.heap.size, 0, none⟩ = some (.int .i64 y.tm) ∧ w'.cell? ⟨w.heap.size, 1, none⟩ = some (.int .i64 y.mc) ∧ w'.cell? ⟨w.heap.size, 2, none⟩ = some (.int .i64 y.a) ∧ w'.cell? ⟨w.heap.size, 3, none⟩ = some (.int .i64 y.b) ∧ w'.cell? ⟨w.heap.size, 4, none⟩ = some (.int .i64 y.lo) ∧ w'.cell? ⟨w.heap.size, 5, none⟩ = some (.int .i64 y.hi) ∧ w'.cell? ⟨w.heap.size, 6, none⟩ = some (.int .i64 y.to) ∧ Below wt.heap.size wt w') ((go_split_ands; refine HS.out _ ?_; repeat (first | (with_reducible assumption) | (with_reducible exact Below.refl _ _) | (with_reducible refine Below.drew ?_) | (with_reducible refine bal ?_ _)))) ((first | (refine step_append_src (by rfl) _ _ 24 (by rfl) 30 i0 (.agg #[.int .i64 0, .int .i64 0, .int .i64 0, .int .i64 0, .int .i64 0, .int .i64 0, .int .i64 0]) 7 56 Tryd.underlying24 hi hz0 hz1 hz2 rfl (by decide) wt (by (try go_split_ands); with_reducible assumption) _ 0 [] (by rfl) (by first | exact own_empty (by simp) | exact own_empty1 (by simp) | exact (own_empty (by simp)).alloc _) (some ⟨g, off, none⟩) (k) (c) (rpS.flat (es.take k)) (by rfl) Hl1.out (HA1.out) (src_below (by (try go_split_ands); with_reducible assumption) Hs1.out) (rp_one _) Hm1.out Hy1.out ?_; intro v1 w1 ho1 hbA1 hk1) | (refine step_append_src (by rfl) _ _ 24 (by rfl) 30 i0 (.agg #[.int .i64 0, .int .i64 0, .int .i64 0, .int .i64 0, .int .i64 0, .int .i64 0, .int .i64 0]) 7 56 Tryd.underlying24 hi hz0 hz1 hz2 rfl (by decide) wt (by (try go_split_ands); with_reducible assumption) v1 (0 + k) ([] ++ rpS.flat (es.take k)) (by rfl) (by first | with_reducible exact ho1 | with_reducible exact ho1.alloc _) _ 1 _ (rpS.flat [y]) (by rfl) rfl (by intro h; cases h) (lit_src (oneRp_cells (by first | exact Blk.new _ _ _ | exact hk1 _ _ _ (Blk.new1 _ _ _ _) (ob_ne (by rfl) (by first | omega | (simp; done) | (simp; omega))) | exact hk1 _ _ _ (Blk.new _ _ _) (ob_ne (by rfl) (by first | omega | (simp; done) | (simp; omega))) | exact hk1 _ _ _ (Blk.alloc (Blk.new _ _ _) _) (ob_ne (by rfl) (by first | omega | (simp; done) | (simp; omega)))))) (rp_one _) Hm2.out Hy2.out ?_; intro v2 w2 ho2 hbA2 hk2) | (refine step_append_src (by rfl) _ _ 24 (by rfl) 30 i0 (.agg #[.int .i64 0, .int .i64 0, .int .i64 0, .int .i64 0, .int .i64 0, .int .i64 0, .int .i64 0]) 7 56 Tryd.underlying24 hi hz0 hz1 hz2 rfl (by decide) wt (by (try go_split_ands); with_reducible assumption) v2 (0 + k + 1) ([] ++ rpS.flat (es.take k) ++ rpS.flat [y]) (by rfl) (by with_reducible exact ho2) (some ⟨g, off + k * 7, none⟩) (es.length - k) (c - k) (rpS.flat (es.drop k)) (by rfl) Hl3.out (HA3.out) (src_below (by (try go_split_ands); with_reducible assumption) Hs3.out) (rp_one _) Hm3.out Hy3.out ?_; intro v3 w3 ho3 hbA3 hk3)))
          all_goals
            go_wp2
            go_ret
            exact ⟨_, rfl, by rw [Hp.out]; exact put_end hk (own_mono ho3 hbt.size), bthen hbt hbA3⟩
        · have Hd := Lib.hid hd
          go_wp2
          refine wp_region_tame (by kernel_rfl) (by kernel_rfl) (fun T _ W hT => ?_)
          have hx := hT.cell
          repeat (go_big_quiet_step ((go_at_call 57; exact hT.call (mrOrder_any _ _ _ _ _ _ _ _ _ _ _ _ _ _ _ hbd.1 hbd.2 hy.1 hy.2))))
          refine wpQuiet_nil ?_
          intro t
          clear hx
          go_wp2
          go_roundw
          case rel => exact ⟨k + 1, by omega, by go_num, all_lt_succ Hok.out (by rw [Hx.out]; exact Hd.out), bthen hb (hT.below t), Hblk.out.on (hT.below t)⟩
          case measure => simp [intOf]; omega
      · have hd : decide (k < es.length) = false := decide_eq_false hlt
        obtain rfl : k = es.length := by omega
        clear hcell
        go_wp2
        refine wp_region_tame (by kernel_rfl) (by kernel_rfl) (fun T _ W hT => ?_)
        have hx := hT.cell
        repeat (go_big_quiet_step (fail))
        refine wpQuiet_nil ?_
        intro t
        clear hx
        go_wp2
        have hbt := bthen hb (hT.below t)
        have hblkt := Hblk.out.on (hT.below t)
        generalize W t = wt at hbt hblkt ⊢
        clear hT
        have hp : placeR es y.tm y.mc = es.length := lead_eq _ _ _ hk Hok.out (fun h => absurd h hlt)
        have HRt := Lib.hid (Hr.out.on hbt)
        have Hp := Lib.hid hp; clear hp
        by_cases hck : c = es.length
        · subst hck
          have r0 := hblkt.cell 0
          have r1 := hblkt.cell 1
          have r2 := hblkt.cell 2
          have r3 := hblkt.cell 3
          have r4 := hblkt.cell 4
          have r5 := hblkt.cell 5
          have r6 := hblkt.cell 6
          have rl := hblkt.lt
          have HS : Hid (∀ w', Below wt.heap.size wt w' → (w'.cell? ⟨w.heap.size, 0, none⟩ = some (.int .i64 y.tm) ∧ w'.cell? ⟨w.heap.size, 1, none⟩ = some (.int .i64 y.mc) ∧ w'.cell? ⟨w.heap.size, 2, none⟩ = some (.int .i64 y.a) ∧ w'.cell? ⟨w.heap.size, 3, none⟩ = some (.int .i64 y.b) ∧ w'.cell? ⟨w.heap.size, 4, none⟩ = some (.int .i64 y.lo) ∧ w'.cell? ⟨w.heap.size, 5, none⟩ = some (.int .i64 y.hi) ∧ w'.cell? ⟨w.heap.size, 6, none⟩ = some (.int .i64 y.to) ∧ Below wt.heap.size wt w')) := Lib.hid (fun w' hw => ⟨(hw.cell (p := ⟨w.heap.size, 0, none⟩) rl).trans r0, (hw.cell (p := ⟨w.heap.size, 1, none⟩) rl).trans r1, (hw.cell (p := ⟨w.heap.size, 2, none⟩) rl).trans r2, (hw.cell (p := ⟨w.heap.size, 3, none⟩) rl).trans r3, (hw.cell (p := ⟨w.heap.size, 4, none⟩) rl).trans r4, (hw.cell (p := ⟨w.heap.size, 5, none⟩) rl).trans r5, (hw.cell (p := ⟨w.heap.size, 6, none⟩) rl).trans r6, hw⟩)
          have Hl1 : Hid ((rpS.flat (es.take es.length)).length = (es.length) * 7) := Lib.hid (by first | (rw [Shape.length_flat, List.length_take, Nat.min_eq_left (by omega)]; rfl) | (simp [Shape.flat]; done))
          have Hl3 : Hid ((rpS.flat ([])).length = (0) * 7) := Lib.hid (by first | (rw [Shape.length_flat, List.length_drop]; rfl) | (simp [Shape.flat]; done) | (simp [Shape.flat]; omega))
          have HA1 : Hid ((some ⟨g, off, none⟩ : Option Addr) = none → (es.length) = 0) := Lib.hid (by intro h; first | cases h | omega)
          have Hs1 := Lib.hid (rp_src HRt.out es.length)
          have Hm1 : Hid (0 + es.length ≤ maxLen) := Lib.hid (by unfold maxLen; omega)
          have Hy1 : Hid ((0 + es.length) * 56 ≤ 140737488355328) := Lib.hid (by omega)
          have Hm2 : Hid (0 + es.length + 1 ≤ maxLen) := Lib.hid (by unfold maxLen; omega)
          have Hy2 : Hid ((0 + es.length + 1) * 56 ≤ 140737488355328) := Lib.hid (by omega)
          have Hm3 : Hid (0 + es.length + 1 + (0) ≤ maxLen) := Lib.hid (by unfold maxLen; omega)
          have Hy3 : Hid ((0 + es.length + 1 + (0)) * 56 ≤ 140737488355328) := Lib.hid (by omega)
          go_region_held3 (fun w' => w'.cell? ⟨w.heap.size, 0, none⟩ = some (.int .i64 y.tm) ∧ w'.cell? ⟨w.heap.size, 1, none⟩ = some (.int .i64 y.mc) ∧ w'.cell? ⟨w.heap.size, 2, none⟩ = some (.int .i64 y.a) ∧ w'.cell? ⟨w.heap.size, 3, none⟩ = some (.int .i64 y.b) ∧ w'.cell? ⟨w.heap.size, 4, none⟩ = some (.int .i64 y.lo) ∧ w'.cell? ⟨w.heap.size, 5, none⟩ = some (.int .i64 y.hi) ∧ w'.cell? ⟨w.heap.size, 6, none⟩ = some (.int .i64 y.to) ∧ Below wt.heap.size wt w') ((go_split_ands; refine HS.out _ ?_; repeat (first | (with_reducible assumption) | (with_reducible exact Below.refl _ _) | (with_reducible refine Below.drew ?_) | (with_reducible refine bal ?_ _)))) ((first | (refine step_append_src (by rfl) _ _ 24 (by rfl) 30 i0 (.agg #[.int .i64 0, .int .i64 0, .int .i64 0, .int .i64 0, .int .i64 0, .int .i64 0, .int .i64 0]) 7 56 Tryd.underlying24 hi hz0 hz1 hz2 rfl (by decide) wt (by (try go_split_ands); with_reducible assumption) _ 0 [] (by rfl) (by first | exact own_empty (by simp) | exact own_empty1 (by simp) | exact (own_empty (by simp)).alloc _) (some ⟨g, off, none⟩) (es.length) (_) (rpS.flat (es.take es.length)) (by rfl) Hl1.out (HA1.out) (src_below (by (try go_split_ands); with_reducible assumption) Hs1.out) (rp_one _) Hm1.out Hy1.out ?_; intro v1 w1 ho1 hbA1 hk1) | (refine step_append_src (by rfl) _ _ 24 (by rfl) 30 i0 (.agg #[.int .i64 0, .int .i64 0, .int .i64 0, .int .i64 0, .int .i64 0, .int .i64 0, .int .i64 0]) 7 56 Tryd.underlying24 hi hz0 hz1 hz2 rfl (by decide) wt (by (try go_split_ands); with_reducible assumption) v1 (0 + es.length) ([] ++ rpS.flat (es.take es.length)) (by rfl) (by first | with_reducible exact ho1 | with_reducible exact ho1.alloc _) _ 1 _ (rpS.flat [y]) (by rfl) rfl (by intro h; cases h) (lit_src (oneRp_cells (by first | exact Blk.new _ _ _ | exact hk1 _ _ _ (Blk.new1 _ _ _ _) (ob_ne (by rfl) (by first | omega | (simp; done) | (simp; omega))) | exact hk1 _ _ _ (Blk.new _ _ _) (ob_ne (by rfl) (by first | omega | (simp; done) | (simp; omega))) | exact hk1 _ _ _ (Blk.alloc (Blk.new _ _ _) _) (ob_ne (by rfl) (by first | omega | (simp; done) | (simp; omega)))))) (rp_one _) Hm2.out Hy2.out ?_; intro v2 w2 ho2 hbA2 hk2) | (refine step_append_src (by rfl) _ _ 24 (by rfl) 30 i0 (.agg #[.int .i64 0, .int .i64 0, .int .i64 0, .int .i64 0, .int .i64 0, .int .i64 0, .int .i64 0]) 7 56 Tryd.underlying24 hi hz0 hz1 hz2 rfl (by decide) wt (by (try go_split_ands); with_reducible assumption) v2 (0 + es.length + 1) ([] ++ rpS.flat (es.take es.length) ++ rpS.flat [y]) (by rfl) (by with_reducible exact ho2) (_) (0) (_) (rpS.flat ([])) (by rfl) Hl3.out (fun _ => rfl) (fun a => rp_src0 a) (rp_one _) Hm3.out Hy3.out ?_; intro v3 w3 ho3 hbA3 hk3)))
          all_goals
            go_wp2
            go_ret
            exact ⟨_, rfl, by rw [Hp.out]; exact put_end0 (own_mono ho3 hbt.size), bthen hbt hbA3⟩
        · skip
          have r0 := hblkt.cell 0
          have r1 := hblkt.cell 1
          have r2 := hblkt.cell 2
          have r3 := hblkt.cell 3
          have r4 := hblkt.cell 4
          have r5 := hblkt.cell 5
          have r6 := hblkt.cell 6
          have rl := hblkt.lt
          have t1 : (0 : Int) ≤ ((es.length : Nat) : Int) := by omega
          have t2 : ((es.length : Nat) : Int) ≤ (c : Int) := by omega
          have t3 : ((es.length : Nat) : Int) ≤ (es.length : Int) := by omega
          have HS : Hid (∀ w', Below wt.heap.size wt w' → (w'.cell? ⟨w.heap.size, 0, none⟩ = some (.int .i64 y.tm) ∧ w'.cell? ⟨w.heap.size, 1, none⟩ = some (.int .i64 y.mc) ∧ w'.cell? ⟨w.heap.size, 2, none⟩ = some (.int .i64 y.a) ∧ w'.cell? ⟨w.heap.size, 3, none⟩ = some (.int .i64 y.b) ∧ w'.cell? ⟨w.heap.size, 4, none⟩ = some (.int .i64 y.lo) ∧ w'.cell? ⟨w.heap.size, 5, none⟩ = some (.int .i64 y.hi) ∧ w'.cell? ⟨w.heap.size, 6, none⟩ = some (.int .i64 y.to) ∧ Below wt.heap.size wt w')) := Lib.hid (fun w' hw => ⟨(hw.cell (p := ⟨w.heap.size, 0, none⟩) rl).trans r0, (hw.cell (p := ⟨w.heap.size, 1, none⟩) rl).trans r1, (hw.cell (p := ⟨w.heap.size, 2, none⟩) rl).trans r2, (hw.cell (p := ⟨w.heap.size, 3, none⟩) rl).trans r3, (hw.cell (p := ⟨w.heap.size, 4, none⟩) rl).trans r4, (hw.cell (p := ⟨w.heap.size, 5, none⟩) rl).trans r5, (hw.cell (p := ⟨w.heap.size, 6, none⟩) rl).trans r6, hw⟩)
          have Hl1 : Hid ((rpS.flat (es.take es.length)).length = (es.length) * 7) := Lib.hid (by first | (rw [Shape.length_flat, List.length_take, Nat.min_eq_left (by omega)]; rfl) | (simp [Shape.flat]; done))
          have Hl3 : Hid ((rpS.flat ([])).length = (0) * 7) := Lib.hid (by first | (rw [Shape.length_flat, List.length_drop]; rfl) | (simp [Shape.flat]; done) | (simp [Shape.flat]; omega))
          have HA1 : Hid ((some ⟨g, off, none⟩ : Option Addr) = none → (es.length) = 0) := Lib.hid (by intro h; first | cases h | omega)
          have HA3 : Hid ((some ⟨g, off + es.length * 7, none⟩ : Option Addr) = none → (0) = 0) := Lib.hid (by intro h; first | cases h | omega)
          have Hs1 := Lib.hid (rp_src HRt.out es.length)
          have Hm1 : Hid (0 + es.length ≤ maxLen) := Lib.hid (by unfold maxLen; omega)
          have Hy1 : Hid ((0 + es.length) * 56 ≤ 140737488355328) := Lib.hid (by omega)
          have Hm2 : Hid (0 + es.length + 1 ≤ maxLen) := Lib.hid (by unfold maxLen; omega)
          have Hy2 : Hid ((0 + es.length + 1) * 56 ≤ 140737488355328) := Lib.hid (by omega)
          have Hm3 : Hid (0 + es.length + 1 + (0) ≤ maxLen) := Lib.hid (by unfold maxLen; omega)
          have Hy3 : Hid ((0 + es.length + 1 + (0)) * 56 ≤ 140737488355328) := Lib.hid (by omega)
          go_region_held3 (fun w' => w'.cell? ⟨w.heap.size, 0, none⟩ = some (.int .i64 y.tm) ∧ w'.cell? ⟨w.heap.size, 1, none⟩ = some (.int .i64 y.mc) ∧ w'.cell? ⟨w.heap.size, 2, none⟩ = some (.int .i64 y.a) ∧ w'.cell? ⟨w.heap.size, 3, none⟩ = some (.int .i64 y.b) ∧ w'.cell? ⟨w.heap.size, 4, none⟩ = some (.int .i64 y.lo) ∧ w'.cell? ⟨w.heap.size, 5, none⟩ = some (.int .i64 y.hi) ∧ w'.cell? ⟨w.heap.size, 6, none⟩ = some (.int .i64 y.to) ∧ Below wt.heap.size wt w') ((go_split_ands; refine HS.out _ ?_; repeat (first | (with_reducible assumption) | (with_reducible exact Below.refl _ _) | (with_reducible refine Below.drew ?_) | (with_reducible refine bal ?_ _)))) ((first | (refine step_append_src (by rfl) _ _ 24 (by rfl) 30 i0 (.agg #[.int .i64 0, .int .i64 0, .int .i64 0, .int .i64 0, .int .i64 0, .int .i64 0, .int .i64 0]) 7 56 Tryd.underlying24 hi hz0 hz1 hz2 rfl (by decide) wt (by (try go_split_ands); with_reducible assumption) _ 0 [] (by rfl) (by first | exact own_empty (by simp) | exact own_empty1 (by simp) | exact (own_empty (by simp)).alloc _) (some ⟨g, off, none⟩) (es.length) (c) (rpS.flat (es.take es.length)) (by rfl) Hl1.out (HA1.out) (src_below (by (try go_split_ands); with_reducible assumption) Hs1.out) (rp_one _) Hm1.out Hy1.out ?_; intro v1 w1 ho1 hbA1 hk1) | (refine step_append_src (by rfl) _ _ 24 (by rfl) 30 i0 (.agg #[.int .i64 0, .int .i64 0, .int .i64 0, .int .i64 0, .int .i64 0, .int .i64 0, .int .i64 0]) 7 56 Tryd.underlying24 hi hz0 hz1 hz2 rfl (by decide) wt (by (try go_split_ands); with_reducible assumption) v1 (0 + es.length) ([] ++ rpS.flat (es.take es.length)) (by rfl) (by first | with_reducible exact ho1 | with_reducible exact ho1.alloc _) _ 1 _ (rpS.flat [y]) (by rfl) rfl (by intro h; cases h) (lit_src (oneRp_cells (by first | exact Blk.new _ _ _ | exact hk1 _ _ _ (Blk.new1 _ _ _ _) (ob_ne (by rfl) (by first | omega | (simp; done) | (simp; omega))) | exact hk1 _ _ _ (Blk.new _ _ _) (ob_ne (by rfl) (by first | omega | (simp; done) | (simp; omega))) | exact hk1 _ _ _ (Blk.alloc (Blk.new _ _ _) _) (ob_ne (by rfl) (by first | omega | (simp; done) | (simp; omega)))))) (rp_one _) Hm2.out Hy2.out ?_; intro v2 w2 ho2 hbA2 hk2) | (refine step_append_src (by rfl) _ _ 24 (by rfl) 30 i0 (.agg #[.int .i64 0, .int .i64 0, .int .i64 0, .int .i64 0, .int .i64 0, .int .i64 0, .int .i64 0]) 7 56 Tryd.underlying24 hi hz0 hz1 hz2 rfl (by decide) wt (by (try go_split_ands); with_reducible assumption) v2 (0 + es.length + 1) ([] ++ rpS.flat (es.take es.length) ++ rpS.flat [y]) (by rfl) (by with_reducible exact ho2) (some ⟨g, off + es.length * 7, none⟩) (0) (_) (rpS.flat ([])) (by rfl) Hl3.out (HA3.out) (fun a => rp_src0 a) (rp_one _) Hm3.out Hy3.out ?_; intro v3 w3 ho3 hbA3 hk3)))
          all_goals
            go_wp2
            go_ret
            exact ⟨_, rfl, by rw [Hp.out]; exact put_end0 (own_mono ho3 hbt.size), bthen hbt hbA3⟩
end Go.Proofs.YtjnghjgfhlgbiaaDoor
