/- A curve put into an ordered list: the reference's icPut. Conditions: those of each theorem. Printed by gen_icu.py. -/
import Derived.Test.YtnhgdmhiblpknaaIcO
import Derived.Test.YtnhgdmhiblpknaaApp
import Derived.Deep.DeepCutAuto
namespace Go.Proofs.Ytnhgdmhiblpknaa
open Go Go.RowKit

theorem infoCuI : (Try.prog.info? 37).map (fun i => (i.zero, i.size, i.bytes)) = some (some (.agg #[.int .i64 0, .int .i64 0]), 2, 16) := by kernel_rfl
theorem cui_one (es : List Cu) : ∀ u ∈ cuS.flat es, u.oneCell' = true := by
  intro u hu
  unfold Shape.flat at hu
  rw [List.mem_flatMap] at hu
  obtain ⟨x, -, hx⟩ := hu
  unfold Shape.cells at hx
  rw [List.mem_map] at hx
  obtain ⟨j, hj, rfl⟩ := hx
  rw [List.mem_range] at hj
  change j < 2 at hj
  match j, hj with
  | 0, _ => rfl
  | 1, _ => rfl
theorem cui_flat_cells {w : World} {hi c : Nat} {a : Addr} {es : List Cu} (h : Rd cuS w hi (.slice (some a) es.length c) es) :
    ∀ j u, (cuS.flat es)[j]? = some u → w.cell? (a.add j) = some u := by
  intro j u hj
  have hl : j < (cuS.flat es).length := (List.getElem?_eq_some_iff.1 hj).1
  rw [Shape.length_flat] at hl
  change j < es.length * 2 at hl
  obtain ⟨A, c', hv, -, -, hA⟩ := h
  obtain ⟨g, off, rfl, -, hc⟩ := hA (by omega)
  cases hv
  have h1 : j / 2 < es.length := by omega
  have h2 : j % 2 < 2 := by omega
  have h3 := Shape.flat_at (S := cuS) es (j / 2) (j % 2) h1 h2
  have h4 := hc (j / 2) h1 (j % 2) h2
  change (cuS.flat es)[j / 2 * 2 + j % 2]? = _ at h3
  change w.cell? ⟨g, off + j / 2 * 2 + j % 2, none⟩ = _ at h4
  have e : j / 2 * 2 + j % 2 = j := by omega
  rw [e, hj] at h3
  rw [Nat.add_assoc, e] at h4
  rw [Addr.add_lit, h4, h3]
theorem oneCuI_cells {w : World} {b : Nat} {x : Cu} (h : Blk w b 37 #[.int .i64 x.a, .int .i64 x.b]) : ∀ j u, (cuS.flat [x])[j]? = some u → w.cell? ((⟨b, 0, none⟩ : Addr).add j) = some u := by
  intro j u hj
  have hj2 : ((#[.int .i64 x.a, .int .i64 x.b] : Array Value).toList)[j]? = some u := hj
  rw [Array.getElem?_toList] at hj2
  rw [← hj2, ← h.cell j]
  unfold Addr.add
  by_cases h0 : j = 0 <;> simp [h0]
theorem cui_src {w : World} {hi c : Nat} {A : Option Addr} {es : List Cu} (h : Rd cuS w hi (.slice A es.length c) es) (k : Nat) :
    ∀ a, A = some a → ∀ j u, (cuS.flat (es.take k))[j]? = some u → w.cell? (a.add j) = some u := by
  intro a ha j u hj
  subst ha
  refine cui_flat_cells h j u ?_
  rw [flat_cut es k, List.getElem?_append_left (List.getElem?_eq_some_iff.1 hj).1]
  exact hj
theorem cui_src2 {w : World} {hi c g off : Nat} {es : List Cu} (h : Rd cuS w hi (.slice (some ⟨g, off, none⟩) es.length c) es) (k : Nat) (hk : k ≤ es.length) :
    ∀ a, some (⟨g, off + k * 2, none⟩ : Addr) = some a → ∀ j u, (cuS.flat (es.drop k))[j]? = some u → w.cell? (a.add j) = some u := by
  intro a ha j u hj
  cases ha
  have := cui_flat_cells h (k * 2 + j) u (by
    have hl : (cuS.flat (es.take k)).length = k * 2 := by rw [Shape.length_flat, List.length_take, Nat.min_eq_left hk]; rfl
    rw [flat_cut es k, List.getElem?_append_right (by omega), hl, show k * 2 + j - k * 2 = j by omega]
    exact hj)
  rw [Addr.add_lit] at this ⊢
  rw [Nat.add_assoc]
  exact this
theorem cui_src0 {w : World} {A : Option Addr} (a : Addr) : A = some a → ∀ j u, (cuS.flat ([] : List Cu))[j]? = some u → w.cell? (a.add j) = some u := by
  intro _ j u hj
  simp [Shape.flat] at hj
theorem putI_end {w : World} {B b : Nat} {v : Value} {es D : List Cu} {k d : Nat} {y : Cu} (hB : B ≤ b) (hk : k ≤ es.length) (hd : D.length = d) (h : w.ownsRow b 37 2 v (0 + k + 1 + d) ([] ++ cuS.flat (es.take k) ++ cuS.flat [y] ++ cuS.flat D)) :
    w.ownsRow B 37 2 v (es.take k ++ y :: D).length (cuS.flat (es.take k ++ y :: D)) := by
  have e1 : (es.take k ++ y :: D).length = 0 + k + 1 + d := by rw [List.length_append, List.length_cons, List.length_take, hd]; omega
  have e2 : cuS.flat (es.take k ++ y :: D) = [] ++ cuS.flat (es.take k) ++ cuS.flat [y] ++ cuS.flat D := by
    rw [Shape.flat_append, flat_cons, show cuS.flat [y] = cuS.cells y by simp [Shape.flat]]
    simp
  rw [e1, e2]; exact own_mono h hB
set_option maxRecDepth 8000 in
set_option maxHeartbeats 16000000 in
theorem icPut_any (B : Nat) (v : Value) (es : List Cu) (y : Cu) (w : World) (ho : w.ownsRow B 37 2 v es.length (cuS.flat es)) (hB : B ≤ w.heap.size) (hlen : es.length ≤ 1000) :
    Calls Try.prog 49 #[v, .agg #[.int .i64 y.a, .int .i64 y.b]] w fun r w' => (∃ v' : Value, r = .returned v' ∧ w'.ownsRow B 37 2 v' (putC es y).length (cuS.flat (putC es y))) ∧ Below w.heap.size w w' := by
  obtain ⟨i0, hi, hz0, hz1, hz2⟩ := info_parts infoCuI
  have Ho := Lib.hid ho
  have Hr := Lib.hid (Rd.of_own (S := cuS) ho rfl); clear ho
  obtain ⟨A, c, rfl, hcc, hm, hA⟩ := Hr.out
  unfold maxLen at hm
  have HbA := Lib.hid (show Below w.heap.size w (w.alloc _) from bal (Below.refl _ _) (Obj.cells #[.int .i64 y.a, .int .i64 y.b] 37))
  have HB := Lib.hid (Blk.new w 37 #[.int .i64 y.a, .int .i64 y.b])
  have hql := eqlCuI
  go_enter Try.func49, Try.ntmps49
  go_wp2
  go_loopw [5] (fun i wr => ∃ k : Nat, k ≤ es.length ∧ i = .int .i64 k ∧ Hid (∀ j, j < k → ltC (cuS.get es j) y) ∧ Hid (Below w.heap.size w wr) ∧ Hid (Blk wr w.heap.size 37 #[.int .i64 y.a, .int .i64 y.b])) (fun i _ => es.length - (intOf i).toNat)
  case atStart => exact ⟨0, Nat.zero_le _, rfl, Lib.hid (fun j hj => absurd hj (Nat.not_lt_zero _)), HbA, HB⟩
  case round =>
    obtain ⟨k, hk, rfl, Hlt, Hb, HBr⟩ := hrel
    have q0 : wr.cell? ⟨w.heap.size, 0, none⟩ = some (.int .i64 y.a) := HBr.out.cell 0
    have q1 : wr.cell? ⟨w.heap.size, 1, none⟩ = some (.int .i64 y.b) := HBr.out.cell 1
    have ql := HBr.out.lt
    have Hpa := Lib.hid (putC_at y es k hk Hlt.out)
    by_cases hlt : k < es.length
    · obtain ⟨g, off, rfl, hg, hcell⟩ := hA (by omega)
      obtain ⟨f0, f1⟩ := cu_cells hcell k hlt
      clear hcell hA
      rw [← Hb.out.cell (p := ⟨_, _, _⟩) hg] at f0 f1
      have hgr : g < wr.heap.size := Nat.lt_of_lt_of_le hg Hb.out.size
      have hi0 : (0 : Int) ≤ (k : Int) := by omega
      have hi1 : (k : Int) < (es.length : Int) := by omega
      have hstep := Lib.hid (fun hne => all_lt_succ (p := fun j => ltC (cuS.get es j) y) Hlt.out hne)
      generalize hx : cuS.get es k = x at f0 f1 hstep Hpa
      have Hx := Lib.hid hx; clear hx
      by_cases hbf : ltC x y
      · have Hst := Lib.hid (hstep.out hbf)
        have hd : decide (cmpC x.a x.b y.a y.b < 0) = true := decide_eq_true hbf
        clear hbf hstep Hpa
        go_wp2
        refine wp_region_tame (by kernel_rfl) (by kernel_rfl) (fun T _ W hT => ?_)
        have hxx := hT.cell
        repeat (go_big_quiet_step ((go_at_call 31; exact hT.call (icBefore_any _ _ _ _ _))))
        refine wpQuiet_nil ?_
        intro t
        clear hxx
        go_wp2
        go_roundw
        case rel => exact ⟨k + 1, by omega, by go_num, Hst, Lib.hid (bthen Hb.out (hT.below t)), Lib.hid (HBr.out.on (hT.below t))⟩
        case measure => simp [intOf]; omega
      · have hd : decide (cmpC x.a x.b y.a y.b < 0) = false := decide_eq_false hbf
        have Hput := Lib.hid (Hpa.out (fun _ => hbf))
        clear hbf hstep Hpa
        go_wp2
        refine wp_region_tame (by kernel_rfl) (by kernel_rfl) (fun T _ W hT => ?_)
        have hxx := hT.cell
        repeat (go_big_quiet_step ((go_at_call 31; exact hT.call (icBefore_any _ _ _ _ _))))
        refine wpQuiet_nil ?_
        intro t
        clear hxx
        have Hbt := Lib.hid (bthen Hb.out (hT.below t))
        have HBt := Lib.hid (HBr.out.on (hT.below t))
        have HF0 := Lib.hid (((hT.below t).cell (p := ⟨g, off + k * 2, none⟩) hgr).trans f0)
        have HF1 := Lib.hid (((hT.below t).cell (p := ⟨g, off + k * 2 + 1, none⟩) hgr).trans f1)
        clear f0 f1 hgr
        generalize W t = w5 at Hbt HBt HF0 HF1 ⊢
        clear hT q0 q1 ql
        have q0 : w5.cell? ⟨w.heap.size, 0, none⟩ = some (.int .i64 y.a) := HBt.out.cell 0
        have q1 : w5.cell? ⟨w.heap.size, 1, none⟩ = some (.int .i64 y.b) := HBt.out.cell 1
        have ql := HBt.out.lt
        have f0 : w5.cell? ⟨g, off + k * 2, none⟩ = some (.int .i64 x.a) := HF0.out
        have f1 : w5.cell? ⟨g, off + k * 2 + 1, none⟩ = some (.int .i64 x.b) := HF1.out
        have hgr : g < w5.heap.size := Nat.lt_of_lt_of_le hg Hbt.out.size
        clear HF0 HF1
        have hcu := cu_eq (x := x) (y := y)
        by_cases he : x = y
        · have hd2 : (x.a == y.a && x.b == y.b) = true := by rw [hcu]; exact decide_eq_true he
          have Hfin := Lib.hid (show putC es y = es by rw [Hput.out, if_pos ⟨hlt, he⟩])
          clear hcu he
          go_wp2
          refine wp_region_tame (by kernel_rfl) (by kernel_rfl) (fun T _ W hT => ?_)
          have hxx := hT.cell
          repeat (go_big_quiet_step (fail))
          refine wpQuiet_nil ?_
          intro t
          clear hxx
          go_wp2
          go_ret
          exact ⟨⟨_, rfl, by rw [Hfin.out]; exact own_below Ho.out (bthen Hbt.out (hT.below t))⟩, bthen Hbt.out (hT.below t)⟩
        · have hd2 : (x.a == y.a && x.b == y.b) = false := by rw [hcu]; exact decide_eq_false he
          have hck : ¬ c = k := by omega
          have Hfin := Lib.hid (show putC es y = es.take k ++ y :: es.drop k by rw [Hput.out, if_neg (fun h => he h.2)])
          clear hcu he
          go_wp2
          refine wp_region_tame (by kernel_rfl) (by kernel_rfl) (fun T _ W hT => ?_)
          have hxx := hT.cell
          repeat (go_big_quiet_step (fail))
          refine wpQuiet_nil ?_
          intro t
          clear hxx
          have Hbt9 := Lib.hid (bthen Hbt.out (hT.below t))
          have HBt9 := Lib.hid (HBt.out.on (hT.below t))
          clear q0 q1 ql f0 f1 hgr hd hd2
          generalize W t = wt at Hbt9 HBt9 ⊢
          have hbt := Hbt9.out
          have hblkt := HBt9.out
          have HRt := Lib.hid (Hr.out.on hbt)
          clear Hbt9 HBt9 Hbt HBt hT
          go_wp2
          have r0 := hblkt.cell 0
          have r1 := hblkt.cell 1
          have rl := hblkt.lt
          have t1 : (0 : Int) ≤ ((k : Nat) : Int) := by omega
          have t2 : ((k : Nat) : Int) ≤ (c : Int) := by omega
          have t3 : ((k : Nat) : Int) ≤ (es.length : Int) := by omega
          have HS : Hid (∀ w', Below wt.heap.size wt w' → (w'.cell? ⟨w.heap.size, 0, none⟩ = some (.int .i64 y.a) ∧ w'.cell? ⟨w.heap.size, 1, none⟩ = some (.int .i64 y.b) ∧ Below wt.heap.size wt w')) := Lib.hid (fun w' hw => ⟨(hw.cell (p := ⟨w.heap.size, 0, none⟩) rl).trans r0, (hw.cell (p := ⟨w.heap.size, 1, none⟩) rl).trans r1, hw⟩)
          have Hl1 : Hid ((cuS.flat (es.take k)).length = (k) * 2) := Lib.hid (by first | (rw [Shape.length_flat, List.length_take, Nat.min_eq_left (by omega)]; rfl) | (simp [Shape.flat]; done))
          have Hl3 : Hid ((cuS.flat (es.drop k)).length = (es.length - k) * 2) := Lib.hid (by first | (rw [Shape.length_flat, List.length_drop]; rfl) | (simp [Shape.flat]; done) | (simp [Shape.flat]; omega))
          have HA1 : Hid ((some ⟨g, off, none⟩ : Option Addr) = none → (k) = 0) := Lib.hid (by intro h; first | cases h | omega)
          have HA3 : Hid ((some ⟨g, off + k * 2, none⟩ : Option Addr) = none → (es.length - k) = 0) := Lib.hid (by intro h; first | cases h | omega)
          have Hs1 := Lib.hid (cui_src HRt.out k)
          have Hs3 := Lib.hid (cui_src2 HRt.out k hk)
          have Hm1 : Hid (0 + k ≤ maxLen) := Lib.hid (by unfold maxLen; omega)
          have Hy1 : Hid ((0 + k) * 16 ≤ 140737488355328) := Lib.hid (by omega)
          have Hm2 : Hid (0 + k + 1 ≤ maxLen) := Lib.hid (by unfold maxLen; omega)
          have Hy2 : Hid ((0 + k + 1) * 16 ≤ 140737488355328) := Lib.hid (by omega)
          have Hm3 : Hid (0 + k + 1 + (es.length - k) ≤ maxLen) := Lib.hid (by unfold maxLen; omega)
          have Hy3 : Hid ((0 + k + 1 + (es.length - k)) * 16 ≤ 140737488355328) := Lib.hid (by omega)
          go_region_held3 (fun w' => w'.cell? ⟨w.heap.size, 0, none⟩ = some (.int .i64 y.a) ∧ w'.cell? ⟨w.heap.size, 1, none⟩ = some (.int .i64 y.b) ∧ Below wt.heap.size wt w') ((go_split_ands; refine HS.out _ ?_; repeat (first | (with_reducible assumption) | (with_reducible exact Below.refl _ _) | (with_reducible refine Below.drew ?_) | (with_reducible refine bal ?_ _)))) ((first | (refine step_append_src (by rfl) _ _ 27 (by rfl) 37 i0 (.agg #[.int .i64 0, .int .i64 0]) 2 16 Try.underlying27 hi hz0 hz1 hz2 rfl (by decide) wt (by (try go_split_ands); with_reducible assumption) _ 0 [] (by rfl) (by first | exact own_empty (by simp) | exact own_empty1 (by simp) | exact (own_empty (by simp)).alloc _) (some ⟨g, off, none⟩) (k) (c) (cuS.flat (es.take k)) (by rfl) Hl1.out (HA1.out) (src_below (by (try go_split_ands); with_reducible assumption) Hs1.out) (cui_one _) Hm1.out Hy1.out ?_; intro v1 w1 ho1 hbA1 hk1) | (refine step_append_src (by rfl) _ _ 27 (by rfl) 37 i0 (.agg #[.int .i64 0, .int .i64 0]) 2 16 Try.underlying27 hi hz0 hz1 hz2 rfl (by decide) wt (by (try go_split_ands); with_reducible assumption) v1 (0 + k) ([] ++ cuS.flat (es.take k)) (by rfl) (by first | with_reducible exact ho1 | with_reducible exact ho1.alloc _) _ 1 _ (cuS.flat [y]) (by rfl) rfl (by intro h; cases h) (lit_src (oneCuI_cells (by first | exact Blk.new _ _ _ | exact hk1 _ _ _ (Blk.new1 _ _ _ _) (ob_ne (by rfl) (by first | omega | (simp; done) | (simp; omega))) | exact hk1 _ _ _ (Blk.new _ _ _) (ob_ne (by rfl) (by first | omega | (simp; done) | (simp; omega))) | exact hk1 _ _ _ (Blk.alloc (Blk.new _ _ _) _) (ob_ne (by rfl) (by first | omega | (simp; done) | (simp; omega)))))) (cui_one _) Hm2.out Hy2.out ?_; intro v2 w2 ho2 hbA2 hk2) | (refine step_append_src (by rfl) _ _ 27 (by rfl) 37 i0 (.agg #[.int .i64 0, .int .i64 0]) 2 16 Try.underlying27 hi hz0 hz1 hz2 rfl (by decide) wt (by (try go_split_ands); with_reducible assumption) v2 (0 + k + 1) ([] ++ cuS.flat (es.take k) ++ cuS.flat [y]) (by rfl) (by with_reducible exact ho2) (some ⟨g, off + k * 2, none⟩) (es.length - k) (c - k) (cuS.flat (es.drop k)) (by rfl) Hl3.out (HA3.out) (src_below (by (try go_split_ands); with_reducible assumption) Hs3.out) (cui_one _) Hm3.out Hy3.out ?_; intro v3 w3 ho3 hbA3 hk3)))
          all_goals
            go_wp2
            go_ret
            exact ⟨⟨_, rfl, by rw [Hfin.out]; exact putI_end (Nat.le_trans hB hbt.size) hk (List.length_drop ..) ho3⟩, bthen hbt hbA3⟩
    · obtain rfl : k = es.length := by omega
      have Hfin := Lib.hid (show putC es y = es ++ [y] by rw [Hpa.out (fun h => absurd h hlt), if_neg (fun h => hlt h.1), List.take_length, List.drop_length])
      have hdl : decide (es.length < es.length) = false := decide_eq_false hlt
      clear Hpa
      go_wp2
      refine wp_region_tame (by kernel_rfl) (by kernel_rfl) (fun T _ W hT => ?_)
      have hxx := hT.cell
      repeat (go_big_quiet_step (fail))
      refine wpQuiet_nil ?_
      intro t
      clear hxx
      have Hbt := Lib.hid (bthen Hb.out (hT.below t))
      have HBt := Lib.hid (HBr.out.on (hT.below t))
      generalize W t = w5 at Hbt HBt ⊢
      clear hT q0 q1 ql
      have q0 : w5.cell? ⟨w.heap.size, 0, none⟩ = some (.int .i64 y.a) := HBt.out.cell 0
      have q1 : w5.cell? ⟨w.heap.size, 1, none⟩ = some (.int .i64 y.b) := HBt.out.cell 1
      have ql := HBt.out.lt
      go_wp2
      refine wp_region_tame (by kernel_rfl) (by kernel_rfl) (fun T _ W hT => ?_)
      have hxx := hT.cell
      repeat (go_big_quiet_step (fail))
      refine wpQuiet_nil ?_
      intro t
      clear hxx
      have Hbt9 := Lib.hid (bthen Hbt.out (hT.below t))
      have HBt9 := Lib.hid (HBt.out.on (hT.below t))
      clear q0 q1 ql hdl hlt
      generalize W t = wt at Hbt9 HBt9 ⊢
      have hbt := Hbt9.out
      have hblkt := HBt9.out
      have HRt := Lib.hid (Hr.out.on hbt)
      clear Hbt9 HBt9 Hbt HBt hT
      rcases Nat.eq_zero_or_pos es.length with h0 | h0
      · obtain rfl : es = [] := List.eq_nil_of_length_eq_zero h0
        clear hA hm hcc hk h0 Hlt
        by_cases hc : c = 0
        · subst hc
          cases A with
          | none =>
            go_wp2
            have r0 := hblkt.cell 0
            have r1 := hblkt.cell 1
            have rl := hblkt.lt
            have HS : Hid (∀ w', Below wt.heap.size wt w' → (w'.cell? ⟨w.heap.size, 0, none⟩ = some (.int .i64 y.a) ∧ w'.cell? ⟨w.heap.size, 1, none⟩ = some (.int .i64 y.b) ∧ Below wt.heap.size wt w')) := Lib.hid (fun w' hw => ⟨(hw.cell (p := ⟨w.heap.size, 0, none⟩) rl).trans r0, (hw.cell (p := ⟨w.heap.size, 1, none⟩) rl).trans r1, hw⟩)
            have Hl1 : Hid ((cuS.flat (([] : List Cu).take 0)).length = (0) * 2) := Lib.hid (by first | (rw [Shape.length_flat, List.length_take, Nat.min_eq_left (by omega)]; rfl) | (simp [Shape.flat]; done))
            have Hl3 : Hid ((cuS.flat ([])).length = (0) * 2) := Lib.hid (by first | (rw [Shape.length_flat, List.length_drop]; rfl) | (simp [Shape.flat]; done) | (simp [Shape.flat]; omega))
            have Hm1 : Hid (0 + 0 ≤ maxLen) := Lib.hid (by unfold maxLen; omega)
            have Hy1 : Hid ((0 + 0) * 16 ≤ 140737488355328) := Lib.hid (by omega)
            have Hm2 : Hid (0 + 0 + 1 ≤ maxLen) := Lib.hid (by unfold maxLen; omega)
            have Hy2 : Hid ((0 + 0 + 1) * 16 ≤ 140737488355328) := Lib.hid (by omega)
            have Hm3 : Hid (0 + 0 + 1 + (0) ≤ maxLen) := Lib.hid (by unfold maxLen; omega)
            have Hy3 : Hid ((0 + 0 + 1 + (0)) * 16 ≤ 140737488355328) := Lib.hid (by omega)
            go_region_held3 (fun w' => w'.cell? ⟨w.heap.size, 0, none⟩ = some (.int .i64 y.a) ∧ w'.cell? ⟨w.heap.size, 1, none⟩ = some (.int .i64 y.b) ∧ Below wt.heap.size wt w') ((go_split_ands; refine HS.out _ ?_; repeat (first | (with_reducible assumption) | (with_reducible exact Below.refl _ _) | (with_reducible refine Below.drew ?_) | (with_reducible refine bal ?_ _)))) ((first | (refine step_append_src (by rfl) _ _ 27 (by rfl) 37 i0 (.agg #[.int .i64 0, .int .i64 0]) 2 16 Try.underlying27 hi hz0 hz1 hz2 rfl (by decide) wt (by (try go_split_ands); with_reducible assumption) _ 0 [] (by rfl) (by first | exact own_empty (by simp) | exact own_empty1 (by simp) | exact (own_empty (by simp)).alloc _) (_) (0) (_) (cuS.flat (([] : List Cu).take 0)) (by rfl) Hl1.out (fun _ => rfl) (fun a => cui_src0 a) (cui_one _) Hm1.out Hy1.out ?_; intro v1 w1 ho1 hbA1 hk1) | (refine step_append_src (by rfl) _ _ 27 (by rfl) 37 i0 (.agg #[.int .i64 0, .int .i64 0]) 2 16 Try.underlying27 hi hz0 hz1 hz2 rfl (by decide) wt (by (try go_split_ands); with_reducible assumption) v1 (0 + 0) ([] ++ cuS.flat (([] : List Cu).take 0)) (by rfl) (by first | with_reducible exact ho1 | with_reducible exact ho1.alloc _) _ 1 _ (cuS.flat [y]) (by rfl) rfl (by intro h; cases h) (lit_src (oneCuI_cells (by first | exact Blk.new _ _ _ | exact hk1 _ _ _ (Blk.new1 _ _ _ _) (ob_ne (by rfl) (by first | omega | (simp; done) | (simp; omega))) | exact hk1 _ _ _ (Blk.new _ _ _) (ob_ne (by rfl) (by first | omega | (simp; done) | (simp; omega))) | exact hk1 _ _ _ (Blk.alloc (Blk.new _ _ _) _) (ob_ne (by rfl) (by first | omega | (simp; done) | (simp; omega)))))) (cui_one _) Hm2.out Hy2.out ?_; intro v2 w2 ho2 hbA2 hk2) | (refine step_append_src (by rfl) _ _ 27 (by rfl) 37 i0 (.agg #[.int .i64 0, .int .i64 0]) 2 16 Try.underlying27 hi hz0 hz1 hz2 rfl (by decide) wt (by (try go_split_ands); with_reducible assumption) v2 (0 + 0 + 1) ([] ++ cuS.flat (([] : List Cu).take 0) ++ cuS.flat [y]) (by rfl) (by with_reducible exact ho2) (_) (0) (_) (cuS.flat ([])) (by rfl) Hl3.out (fun _ => rfl) (fun a => cui_src0 a) (cui_one _) Hm3.out Hy3.out ?_; intro v3 w3 ho3 hbA3 hk3)))
            all_goals
              go_wp2
              go_ret
              exact ⟨⟨_, rfl, by rw [Hfin.out]; exact putI_end (es := []) (D := []) (k := 0) (Nat.le_trans hB hbt.size) (Nat.le_refl _) rfl ho3⟩, bthen hbt hbA3⟩
          | some a =>
            go_wp2
            have r0 := hblkt.cell 0
            have r1 := hblkt.cell 1
            have rl := hblkt.lt
            have HS : Hid (∀ w', Below wt.heap.size wt w' → (w'.cell? ⟨w.heap.size, 0, none⟩ = some (.int .i64 y.a) ∧ w'.cell? ⟨w.heap.size, 1, none⟩ = some (.int .i64 y.b) ∧ Below wt.heap.size wt w')) := Lib.hid (fun w' hw => ⟨(hw.cell (p := ⟨w.heap.size, 0, none⟩) rl).trans r0, (hw.cell (p := ⟨w.heap.size, 1, none⟩) rl).trans r1, hw⟩)
            have Hl1 : Hid ((cuS.flat (([] : List Cu).take 0)).length = (0) * 2) := Lib.hid (by first | (rw [Shape.length_flat, List.length_take, Nat.min_eq_left (by omega)]; rfl) | (simp [Shape.flat]; done))
            have Hl3 : Hid ((cuS.flat ([])).length = (0) * 2) := Lib.hid (by first | (rw [Shape.length_flat, List.length_drop]; rfl) | (simp [Shape.flat]; done) | (simp [Shape.flat]; omega))
            have Hm1 : Hid (0 + 0 ≤ maxLen) := Lib.hid (by unfold maxLen; omega)
            have Hy1 : Hid ((0 + 0) * 16 ≤ 140737488355328) := Lib.hid (by omega)
            have Hm2 : Hid (0 + 0 + 1 ≤ maxLen) := Lib.hid (by unfold maxLen; omega)
            have Hy2 : Hid ((0 + 0 + 1) * 16 ≤ 140737488355328) := Lib.hid (by omega)
            have Hm3 : Hid (0 + 0 + 1 + (0) ≤ maxLen) := Lib.hid (by unfold maxLen; omega)
            have Hy3 : Hid ((0 + 0 + 1 + (0)) * 16 ≤ 140737488355328) := Lib.hid (by omega)
            go_region_held3 (fun w' => w'.cell? ⟨w.heap.size, 0, none⟩ = some (.int .i64 y.a) ∧ w'.cell? ⟨w.heap.size, 1, none⟩ = some (.int .i64 y.b) ∧ Below wt.heap.size wt w') ((go_split_ands; refine HS.out _ ?_; repeat (first | (with_reducible assumption) | (with_reducible exact Below.refl _ _) | (with_reducible refine Below.drew ?_) | (with_reducible refine bal ?_ _)))) ((first | (refine step_append_src (by rfl) _ _ 27 (by rfl) 37 i0 (.agg #[.int .i64 0, .int .i64 0]) 2 16 Try.underlying27 hi hz0 hz1 hz2 rfl (by decide) wt (by (try go_split_ands); with_reducible assumption) _ 0 [] (by rfl) (by first | exact own_empty (by simp) | exact own_empty1 (by simp) | exact (own_empty (by simp)).alloc _) (_) (0) (_) (cuS.flat (([] : List Cu).take 0)) (by rfl) Hl1.out (fun _ => rfl) (fun a => cui_src0 a) (cui_one _) Hm1.out Hy1.out ?_; intro v1 w1 ho1 hbA1 hk1) | (refine step_append_src (by rfl) _ _ 27 (by rfl) 37 i0 (.agg #[.int .i64 0, .int .i64 0]) 2 16 Try.underlying27 hi hz0 hz1 hz2 rfl (by decide) wt (by (try go_split_ands); with_reducible assumption) v1 (0 + 0) ([] ++ cuS.flat (([] : List Cu).take 0)) (by rfl) (by first | with_reducible exact ho1 | with_reducible exact ho1.alloc _) _ 1 _ (cuS.flat [y]) (by rfl) rfl (by intro h; cases h) (lit_src (oneCuI_cells (by first | exact Blk.new _ _ _ | exact hk1 _ _ _ (Blk.new1 _ _ _ _) (ob_ne (by rfl) (by first | omega | (simp; done) | (simp; omega))) | exact hk1 _ _ _ (Blk.new _ _ _) (ob_ne (by rfl) (by first | omega | (simp; done) | (simp; omega))) | exact hk1 _ _ _ (Blk.alloc (Blk.new _ _ _) _) (ob_ne (by rfl) (by first | omega | (simp; done) | (simp; omega)))))) (cui_one _) Hm2.out Hy2.out ?_; intro v2 w2 ho2 hbA2 hk2) | (refine step_append_src (by rfl) _ _ 27 (by rfl) 37 i0 (.agg #[.int .i64 0, .int .i64 0]) 2 16 Try.underlying27 hi hz0 hz1 hz2 rfl (by decide) wt (by (try go_split_ands); with_reducible assumption) v2 (0 + 0 + 1) ([] ++ cuS.flat (([] : List Cu).take 0) ++ cuS.flat [y]) (by rfl) (by with_reducible exact ho2) (_) (0) (_) (cuS.flat ([])) (by rfl) Hl3.out (fun _ => rfl) (fun a => cui_src0 a) (cui_one _) Hm3.out Hy3.out ?_; intro v3 w3 ho3 hbA3 hk3)))
            all_goals
              go_wp2
              go_ret
              exact ⟨⟨_, rfl, by rw [Hfin.out]; exact putI_end (es := []) (D := []) (k := 0) (Nat.le_trans hB hbt.size) (Nat.le_refl _) rfl ho3⟩, bthen hbt hbA3⟩
        · cases A with
          | none =>
            go_wp2
            have r0 := hblkt.cell 0
            have r1 := hblkt.cell 1
            have rl := hblkt.lt
            have HS : Hid (∀ w', Below wt.heap.size wt w' → (w'.cell? ⟨w.heap.size, 0, none⟩ = some (.int .i64 y.a) ∧ w'.cell? ⟨w.heap.size, 1, none⟩ = some (.int .i64 y.b) ∧ Below wt.heap.size wt w')) := Lib.hid (fun w' hw => ⟨(hw.cell (p := ⟨w.heap.size, 0, none⟩) rl).trans r0, (hw.cell (p := ⟨w.heap.size, 1, none⟩) rl).trans r1, hw⟩)
            have Hl1 : Hid ((cuS.flat (([] : List Cu).take 0)).length = (0) * 2) := Lib.hid (by first | (rw [Shape.length_flat, List.length_take, Nat.min_eq_left (by omega)]; rfl) | (simp [Shape.flat]; done))
            have Hl3 : Hid ((cuS.flat ([])).length = (0) * 2) := Lib.hid (by first | (rw [Shape.length_flat, List.length_drop]; rfl) | (simp [Shape.flat]; done) | (simp [Shape.flat]; omega))
            have Hm1 : Hid (0 + 0 ≤ maxLen) := Lib.hid (by unfold maxLen; omega)
            have Hy1 : Hid ((0 + 0) * 16 ≤ 140737488355328) := Lib.hid (by omega)
            have Hm2 : Hid (0 + 0 + 1 ≤ maxLen) := Lib.hid (by unfold maxLen; omega)
            have Hy2 : Hid ((0 + 0 + 1) * 16 ≤ 140737488355328) := Lib.hid (by omega)
            have Hm3 : Hid (0 + 0 + 1 + (0) ≤ maxLen) := Lib.hid (by unfold maxLen; omega)
            have Hy3 : Hid ((0 + 0 + 1 + (0)) * 16 ≤ 140737488355328) := Lib.hid (by omega)
            go_region_held3 (fun w' => w'.cell? ⟨w.heap.size, 0, none⟩ = some (.int .i64 y.a) ∧ w'.cell? ⟨w.heap.size, 1, none⟩ = some (.int .i64 y.b) ∧ Below wt.heap.size wt w') ((go_split_ands; refine HS.out _ ?_; repeat (first | (with_reducible assumption) | (with_reducible exact Below.refl _ _) | (with_reducible refine Below.drew ?_) | (with_reducible refine bal ?_ _)))) ((first | (refine step_append_src (by rfl) _ _ 27 (by rfl) 37 i0 (.agg #[.int .i64 0, .int .i64 0]) 2 16 Try.underlying27 hi hz0 hz1 hz2 rfl (by decide) wt (by (try go_split_ands); with_reducible assumption) _ 0 [] (by rfl) (by first | exact own_empty (by simp) | exact own_empty1 (by simp) | exact (own_empty (by simp)).alloc _) (_) (0) (_) (cuS.flat (([] : List Cu).take 0)) (by rfl) Hl1.out (fun _ => rfl) (fun a => cui_src0 a) (cui_one _) Hm1.out Hy1.out ?_; intro v1 w1 ho1 hbA1 hk1) | (refine step_append_src (by rfl) _ _ 27 (by rfl) 37 i0 (.agg #[.int .i64 0, .int .i64 0]) 2 16 Try.underlying27 hi hz0 hz1 hz2 rfl (by decide) wt (by (try go_split_ands); with_reducible assumption) v1 (0 + 0) ([] ++ cuS.flat (([] : List Cu).take 0)) (by rfl) (by first | with_reducible exact ho1 | with_reducible exact ho1.alloc _) _ 1 _ (cuS.flat [y]) (by rfl) rfl (by intro h; cases h) (lit_src (oneCuI_cells (by first | exact Blk.new _ _ _ | exact hk1 _ _ _ (Blk.new1 _ _ _ _) (ob_ne (by rfl) (by first | omega | (simp; done) | (simp; omega))) | exact hk1 _ _ _ (Blk.new _ _ _) (ob_ne (by rfl) (by first | omega | (simp; done) | (simp; omega))) | exact hk1 _ _ _ (Blk.alloc (Blk.new _ _ _) _) (ob_ne (by rfl) (by first | omega | (simp; done) | (simp; omega)))))) (cui_one _) Hm2.out Hy2.out ?_; intro v2 w2 ho2 hbA2 hk2) | (refine step_append_src (by rfl) _ _ 27 (by rfl) 37 i0 (.agg #[.int .i64 0, .int .i64 0]) 2 16 Try.underlying27 hi hz0 hz1 hz2 rfl (by decide) wt (by (try go_split_ands); with_reducible assumption) v2 (0 + 0 + 1) ([] ++ cuS.flat (([] : List Cu).take 0) ++ cuS.flat [y]) (by rfl) (by with_reducible exact ho2) (_) (0) (_) (cuS.flat ([])) (by rfl) Hl3.out (fun _ => rfl) (fun a => cui_src0 a) (cui_one _) Hm3.out Hy3.out ?_; intro v3 w3 ho3 hbA3 hk3)))
            all_goals
              go_wp2
              go_ret
              exact ⟨⟨_, rfl, by rw [Hfin.out]; exact putI_end (es := []) (D := []) (k := 0) (Nat.le_trans hB hbt.size) (Nat.le_refl _) rfl ho3⟩, bthen hbt hbA3⟩
          | some a =>
            go_wp2
            have r0 := hblkt.cell 0
            have r1 := hblkt.cell 1
            have rl := hblkt.lt
            have HS : Hid (∀ w', Below wt.heap.size wt w' → (w'.cell? ⟨w.heap.size, 0, none⟩ = some (.int .i64 y.a) ∧ w'.cell? ⟨w.heap.size, 1, none⟩ = some (.int .i64 y.b) ∧ Below wt.heap.size wt w')) := Lib.hid (fun w' hw => ⟨(hw.cell (p := ⟨w.heap.size, 0, none⟩) rl).trans r0, (hw.cell (p := ⟨w.heap.size, 1, none⟩) rl).trans r1, hw⟩)
            have Hl1 : Hid ((cuS.flat (([] : List Cu).take 0)).length = (0) * 2) := Lib.hid (by first | (rw [Shape.length_flat, List.length_take, Nat.min_eq_left (by omega)]; rfl) | (simp [Shape.flat]; done))
            have Hl3 : Hid ((cuS.flat ([])).length = (0) * 2) := Lib.hid (by first | (rw [Shape.length_flat, List.length_drop]; rfl) | (simp [Shape.flat]; done) | (simp [Shape.flat]; omega))
            have Hm1 : Hid (0 + 0 ≤ maxLen) := Lib.hid (by unfold maxLen; omega)
            have Hy1 : Hid ((0 + 0) * 16 ≤ 140737488355328) := Lib.hid (by omega)
            have Hm2 : Hid (0 + 0 + 1 ≤ maxLen) := Lib.hid (by unfold maxLen; omega)
            have Hy2 : Hid ((0 + 0 + 1) * 16 ≤ 140737488355328) := Lib.hid (by omega)
            have Hm3 : Hid (0 + 0 + 1 + (0) ≤ maxLen) := Lib.hid (by unfold maxLen; omega)
            have Hy3 : Hid ((0 + 0 + 1 + (0)) * 16 ≤ 140737488355328) := Lib.hid (by omega)
            go_region_held3 (fun w' => w'.cell? ⟨w.heap.size, 0, none⟩ = some (.int .i64 y.a) ∧ w'.cell? ⟨w.heap.size, 1, none⟩ = some (.int .i64 y.b) ∧ Below wt.heap.size wt w') ((go_split_ands; refine HS.out _ ?_; repeat (first | (with_reducible assumption) | (with_reducible exact Below.refl _ _) | (with_reducible refine Below.drew ?_) | (with_reducible refine bal ?_ _)))) ((first | (refine step_append_src (by rfl) _ _ 27 (by rfl) 37 i0 (.agg #[.int .i64 0, .int .i64 0]) 2 16 Try.underlying27 hi hz0 hz1 hz2 rfl (by decide) wt (by (try go_split_ands); with_reducible assumption) _ 0 [] (by rfl) (by first | exact own_empty (by simp) | exact own_empty1 (by simp) | exact (own_empty (by simp)).alloc _) (_) (0) (_) (cuS.flat (([] : List Cu).take 0)) (by rfl) Hl1.out (fun _ => rfl) (fun a => cui_src0 a) (cui_one _) Hm1.out Hy1.out ?_; intro v1 w1 ho1 hbA1 hk1) | (refine step_append_src (by rfl) _ _ 27 (by rfl) 37 i0 (.agg #[.int .i64 0, .int .i64 0]) 2 16 Try.underlying27 hi hz0 hz1 hz2 rfl (by decide) wt (by (try go_split_ands); with_reducible assumption) v1 (0 + 0) ([] ++ cuS.flat (([] : List Cu).take 0)) (by rfl) (by first | with_reducible exact ho1 | with_reducible exact ho1.alloc _) _ 1 _ (cuS.flat [y]) (by rfl) rfl (by intro h; cases h) (lit_src (oneCuI_cells (by first | exact Blk.new _ _ _ | exact hk1 _ _ _ (Blk.new1 _ _ _ _) (ob_ne (by rfl) (by first | omega | (simp; done) | (simp; omega))) | exact hk1 _ _ _ (Blk.new _ _ _) (ob_ne (by rfl) (by first | omega | (simp; done) | (simp; omega))) | exact hk1 _ _ _ (Blk.alloc (Blk.new _ _ _) _) (ob_ne (by rfl) (by first | omega | (simp; done) | (simp; omega)))))) (cui_one _) Hm2.out Hy2.out ?_; intro v2 w2 ho2 hbA2 hk2) | (refine step_append_src (by rfl) _ _ 27 (by rfl) 37 i0 (.agg #[.int .i64 0, .int .i64 0]) 2 16 Try.underlying27 hi hz0 hz1 hz2 rfl (by decide) wt (by (try go_split_ands); with_reducible assumption) v2 (0 + 0 + 1) ([] ++ cuS.flat (([] : List Cu).take 0) ++ cuS.flat [y]) (by rfl) (by with_reducible exact ho2) (_) (0) (_) (cuS.flat ([])) (by rfl) Hl3.out (fun _ => rfl) (fun a => cui_src0 a) (cui_one _) Hm3.out Hy3.out ?_; intro v3 w3 ho3 hbA3 hk3)))
            all_goals
              go_wp2
              go_ret
              exact ⟨⟨_, rfl, by rw [Hfin.out]; exact putI_end (es := []) (D := []) (k := 0) (Nat.le_trans hB hbt.size) (Nat.le_refl _) rfl ho3⟩, bthen hbt hbA3⟩
      · obtain ⟨g, off, rfl, hg, hcell⟩ := hA h0
        clear hA hcell
        by_cases hck : c = es.length
        · subst hck
          have t1 : (0 : Int) ≤ (es.length : Int) := by omega
          go_wp2
          have r0 := hblkt.cell 0
          have r1 := hblkt.cell 1
          have rl := hblkt.lt
          have HS : Hid (∀ w', Below wt.heap.size wt w' → (w'.cell? ⟨w.heap.size, 0, none⟩ = some (.int .i64 y.a) ∧ w'.cell? ⟨w.heap.size, 1, none⟩ = some (.int .i64 y.b) ∧ Below wt.heap.size wt w')) := Lib.hid (fun w' hw => ⟨(hw.cell (p := ⟨w.heap.size, 0, none⟩) rl).trans r0, (hw.cell (p := ⟨w.heap.size, 1, none⟩) rl).trans r1, hw⟩)
          have Hl1 : Hid ((cuS.flat (es.take es.length)).length = (es.length) * 2) := Lib.hid (by first | (rw [Shape.length_flat, List.length_take, Nat.min_eq_left (by omega)]; rfl) | (simp [Shape.flat]; done))
          have Hl3 : Hid ((cuS.flat ([])).length = (0) * 2) := Lib.hid (by first | (rw [Shape.length_flat, List.length_drop]; rfl) | (simp [Shape.flat]; done) | (simp [Shape.flat]; omega))
          have HA1 : Hid ((some ⟨g, off, none⟩ : Option Addr) = none → (es.length) = 0) := Lib.hid (by intro h; first | cases h | omega)
          have Hs1 := Lib.hid (cui_src HRt.out es.length)
          have Hm1 : Hid (0 + es.length ≤ maxLen) := Lib.hid (by unfold maxLen; omega)
          have Hy1 : Hid ((0 + es.length) * 16 ≤ 140737488355328) := Lib.hid (by omega)
          have Hm2 : Hid (0 + es.length + 1 ≤ maxLen) := Lib.hid (by unfold maxLen; omega)
          have Hy2 : Hid ((0 + es.length + 1) * 16 ≤ 140737488355328) := Lib.hid (by omega)
          have Hm3 : Hid (0 + es.length + 1 + (0) ≤ maxLen) := Lib.hid (by unfold maxLen; omega)
          have Hy3 : Hid ((0 + es.length + 1 + (0)) * 16 ≤ 140737488355328) := Lib.hid (by omega)
          go_region_held3 (fun w' => w'.cell? ⟨w.heap.size, 0, none⟩ = some (.int .i64 y.a) ∧ w'.cell? ⟨w.heap.size, 1, none⟩ = some (.int .i64 y.b) ∧ Below wt.heap.size wt w') ((go_split_ands; refine HS.out _ ?_; repeat (first | (with_reducible assumption) | (with_reducible exact Below.refl _ _) | (with_reducible refine Below.drew ?_) | (with_reducible refine bal ?_ _)))) ((first | (refine step_append_src (by rfl) _ _ 27 (by rfl) 37 i0 (.agg #[.int .i64 0, .int .i64 0]) 2 16 Try.underlying27 hi hz0 hz1 hz2 rfl (by decide) wt (by (try go_split_ands); with_reducible assumption) _ 0 [] (by rfl) (by first | exact own_empty (by simp) | exact own_empty1 (by simp) | exact (own_empty (by simp)).alloc _) (some ⟨g, off, none⟩) (es.length) (_) (cuS.flat (es.take es.length)) (by rfl) Hl1.out (HA1.out) (src_below (by (try go_split_ands); with_reducible assumption) Hs1.out) (cui_one _) Hm1.out Hy1.out ?_; intro v1 w1 ho1 hbA1 hk1) | (refine step_append_src (by rfl) _ _ 27 (by rfl) 37 i0 (.agg #[.int .i64 0, .int .i64 0]) 2 16 Try.underlying27 hi hz0 hz1 hz2 rfl (by decide) wt (by (try go_split_ands); with_reducible assumption) v1 (0 + es.length) ([] ++ cuS.flat (es.take es.length)) (by rfl) (by first | with_reducible exact ho1 | with_reducible exact ho1.alloc _) _ 1 _ (cuS.flat [y]) (by rfl) rfl (by intro h; cases h) (lit_src (oneCuI_cells (by first | exact Blk.new _ _ _ | exact hk1 _ _ _ (Blk.new1 _ _ _ _) (ob_ne (by rfl) (by first | omega | (simp; done) | (simp; omega))) | exact hk1 _ _ _ (Blk.new _ _ _) (ob_ne (by rfl) (by first | omega | (simp; done) | (simp; omega))) | exact hk1 _ _ _ (Blk.alloc (Blk.new _ _ _) _) (ob_ne (by rfl) (by first | omega | (simp; done) | (simp; omega)))))) (cui_one _) Hm2.out Hy2.out ?_; intro v2 w2 ho2 hbA2 hk2) | (refine step_append_src (by rfl) _ _ 27 (by rfl) 37 i0 (.agg #[.int .i64 0, .int .i64 0]) 2 16 Try.underlying27 hi hz0 hz1 hz2 rfl (by decide) wt (by (try go_split_ands); with_reducible assumption) v2 (0 + es.length + 1) ([] ++ cuS.flat (es.take es.length) ++ cuS.flat [y]) (by rfl) (by with_reducible exact ho2) (_) (0) (_) (cuS.flat ([])) (by rfl) Hl3.out (fun _ => rfl) (fun a => cui_src0 a) (cui_one _) Hm3.out Hy3.out ?_; intro v3 w3 ho3 hbA3 hk3)))
          all_goals
            go_wp2
            go_ret
            have e9 : es ++ [y] = es.take es.length ++ y :: [] := by rw [List.take_length]
            exact ⟨⟨_, rfl, by rw [Hfin.out, e9]; exact putI_end (D := []) (Nat.le_trans hB hbt.size) (Nat.le_refl _) rfl ho3⟩, bthen hbt hbA3⟩
        · have t1 : (0 : Int) ≤ (es.length : Int) := by omega
          have t2 : (es.length : Int) ≤ (c : Int) := by omega
          go_wp2
          have r0 := hblkt.cell 0
          have r1 := hblkt.cell 1
          have rl := hblkt.lt
          have t1 : (0 : Int) ≤ ((es.length : Nat) : Int) := by omega
          have t2 : ((es.length : Nat) : Int) ≤ (c : Int) := by omega
          have t3 : ((es.length : Nat) : Int) ≤ (es.length : Int) := by omega
          have HS : Hid (∀ w', Below wt.heap.size wt w' → (w'.cell? ⟨w.heap.size, 0, none⟩ = some (.int .i64 y.a) ∧ w'.cell? ⟨w.heap.size, 1, none⟩ = some (.int .i64 y.b) ∧ Below wt.heap.size wt w')) := Lib.hid (fun w' hw => ⟨(hw.cell (p := ⟨w.heap.size, 0, none⟩) rl).trans r0, (hw.cell (p := ⟨w.heap.size, 1, none⟩) rl).trans r1, hw⟩)
          have Hl1 : Hid ((cuS.flat (es.take es.length)).length = (es.length) * 2) := Lib.hid (by first | (rw [Shape.length_flat, List.length_take, Nat.min_eq_left (by omega)]; rfl) | (simp [Shape.flat]; done))
          have Hl3 : Hid ((cuS.flat ([])).length = (0) * 2) := Lib.hid (by first | (rw [Shape.length_flat, List.length_drop]; rfl) | (simp [Shape.flat]; done) | (simp [Shape.flat]; omega))
          have HA1 : Hid ((some ⟨g, off, none⟩ : Option Addr) = none → (es.length) = 0) := Lib.hid (by intro h; first | cases h | omega)
          have HA3 : Hid ((some ⟨g, off + es.length * 2, none⟩ : Option Addr) = none → (0) = 0) := Lib.hid (by intro h; first | cases h | omega)
          have Hs1 := Lib.hid (cui_src HRt.out es.length)
          have Hm1 : Hid (0 + es.length ≤ maxLen) := Lib.hid (by unfold maxLen; omega)
          have Hy1 : Hid ((0 + es.length) * 16 ≤ 140737488355328) := Lib.hid (by omega)
          have Hm2 : Hid (0 + es.length + 1 ≤ maxLen) := Lib.hid (by unfold maxLen; omega)
          have Hy2 : Hid ((0 + es.length + 1) * 16 ≤ 140737488355328) := Lib.hid (by omega)
          have Hm3 : Hid (0 + es.length + 1 + (0) ≤ maxLen) := Lib.hid (by unfold maxLen; omega)
          have Hy3 : Hid ((0 + es.length + 1 + (0)) * 16 ≤ 140737488355328) := Lib.hid (by omega)
          go_region_held3 (fun w' => w'.cell? ⟨w.heap.size, 0, none⟩ = some (.int .i64 y.a) ∧ w'.cell? ⟨w.heap.size, 1, none⟩ = some (.int .i64 y.b) ∧ Below wt.heap.size wt w') ((go_split_ands; refine HS.out _ ?_; repeat (first | (with_reducible assumption) | (with_reducible exact Below.refl _ _) | (with_reducible refine Below.drew ?_) | (with_reducible refine bal ?_ _)))) ((first | (refine step_append_src (by rfl) _ _ 27 (by rfl) 37 i0 (.agg #[.int .i64 0, .int .i64 0]) 2 16 Try.underlying27 hi hz0 hz1 hz2 rfl (by decide) wt (by (try go_split_ands); with_reducible assumption) _ 0 [] (by rfl) (by first | exact own_empty (by simp) | exact own_empty1 (by simp) | exact (own_empty (by simp)).alloc _) (some ⟨g, off, none⟩) (es.length) (c) (cuS.flat (es.take es.length)) (by rfl) Hl1.out (HA1.out) (src_below (by (try go_split_ands); with_reducible assumption) Hs1.out) (cui_one _) Hm1.out Hy1.out ?_; intro v1 w1 ho1 hbA1 hk1) | (refine step_append_src (by rfl) _ _ 27 (by rfl) 37 i0 (.agg #[.int .i64 0, .int .i64 0]) 2 16 Try.underlying27 hi hz0 hz1 hz2 rfl (by decide) wt (by (try go_split_ands); with_reducible assumption) v1 (0 + es.length) ([] ++ cuS.flat (es.take es.length)) (by rfl) (by first | with_reducible exact ho1 | with_reducible exact ho1.alloc _) _ 1 _ (cuS.flat [y]) (by rfl) rfl (by intro h; cases h) (lit_src (oneCuI_cells (by first | exact Blk.new _ _ _ | exact hk1 _ _ _ (Blk.new1 _ _ _ _) (ob_ne (by rfl) (by first | omega | (simp; done) | (simp; omega))) | exact hk1 _ _ _ (Blk.new _ _ _) (ob_ne (by rfl) (by first | omega | (simp; done) | (simp; omega))) | exact hk1 _ _ _ (Blk.alloc (Blk.new _ _ _) _) (ob_ne (by rfl) (by first | omega | (simp; done) | (simp; omega)))))) (cui_one _) Hm2.out Hy2.out ?_; intro v2 w2 ho2 hbA2 hk2) | (refine step_append_src (by rfl) _ _ 27 (by rfl) 37 i0 (.agg #[.int .i64 0, .int .i64 0]) 2 16 Try.underlying27 hi hz0 hz1 hz2 rfl (by decide) wt (by (try go_split_ands); with_reducible assumption) v2 (0 + es.length + 1) ([] ++ cuS.flat (es.take es.length) ++ cuS.flat [y]) (by rfl) (by with_reducible exact ho2) (some ⟨g, off + es.length * 2, none⟩) (0) (c - es.length) (cuS.flat ([])) (by rfl) Hl3.out (HA3.out) (fun a => cui_src0 a) (cui_one _) Hm3.out Hy3.out ?_; intro v3 w3 ho3 hbA3 hk3)))
          all_goals
            go_wp2
            go_ret
            have e9 : es ++ [y] = es.take es.length ++ y :: [] := by rw [List.take_length]
            exact ⟨⟨_, rfl, by rw [Hfin.out, e9]; exact putI_end (D := []) (Nat.le_trans hB hbt.size) (Nat.le_refl _) rfl ho3⟩, bthen hbt hbA3⟩
end Go.Proofs.Ytnhgdmhiblpknaa
