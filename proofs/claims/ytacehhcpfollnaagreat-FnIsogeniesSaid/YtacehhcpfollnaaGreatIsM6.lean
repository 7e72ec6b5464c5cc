/- Own texts put together: A curve put into an ordered list: the reference's icPut; The sort of a row of curves; slices; All neighbours of a curve: the reference's icAll; Compact, Index, Contains at curves; all neighbours of a curve: the program's twoNeighbours. Conditions: those of each theorem. -/
import Derived.Test.YtacehhcpfollnaaGreatIsM5
import Derived.Deep.DeepCutAuto
import Derived.Test.YtacehhcpfollnaaGreatShelfS
import Derived.Sort.Grow
import Derived.Deep.RegionHeld3
import Derived.Shelf.GgSortFunc.InsertionK
namespace Go.Proofs.YtacehhcpfollnaaGreat
section
open Go Go.RowKit

theorem infoCuI : (Tryz.prog.info? 25).map (fun i => (i.zero, i.size, i.bytes)) = some (some (.agg #[.int .i64 0, .int .i64 0]), 2, 16) := by kernel_rfl
theorem cui_one (es : List Cu) : ∀ u ∈ cuS.flat es, u.oneCell' = true := by
  intro u hu
  unfold Shape.flat at hu
  rw [List.mem_flatMap] at hu
  obtain ⟨x, -, hx⟩ := hu
  unfold Shape.cells at hx
  rw [List.mem_map] at hx
  obtain ⟨j, hj, rfl⟩ := hx
  rw [List.mem_range] at hj
  change j < 2 at hj
  match j, hj with
  | 0, _ => rfl
  | 1, _ => rfl
theorem cui_flat_cells {w : World} {hi c : Nat} {a : Addr} {es : List Cu} (h : Rd cuS w hi (.slice (some a) es.length c) es) :
    ∀ j u, (cuS.flat es)[j]? = some u → w.cell? (a.add j) = some u := by
  intro j u hj
  have hl : j < (cuS.flat es).length := (List.getElem?_eq_some_iff.1 hj).1
  rw [Shape.length_flat] at hl
  change j < es.length * 2 at hl
  obtain ⟨A, c', hv, -, -, hA⟩ := h
  obtain ⟨g, off, rfl, -, hc⟩ := hA (by omega)
  cases hv
  have h1 : j / 2 < es.length := by omega
  have h2 : j % 2 < 2 := by omega
  have h3 := Shape.flat_at (S := cuS) es (j / 2) (j % 2) h1 h2
  have h4 := hc (j / 2) h1 (j % 2) h2
  change (cuS.flat es)[j / 2 * 2 + j % 2]? = _ at h3
  change w.cell? ⟨g, off + j / 2 * 2 + j % 2, none⟩ = _ at h4
  have e : j / 2 * 2 + j % 2 = j := by omega
  rw [e, hj] at h3
  rw [Nat.add_assoc, e] at h4
  rw [Addr.add_lit, h4, h3]
theorem oneCuI_cells {w : World} {b : Nat} {x : Cu} (h : Blk w b 25 #[.int .i64 x.a, .int .i64 x.b]) : ∀ j u, (cuS.flat [x])[j]? = some u → w.cell? ((⟨b, 0, none⟩ : Addr).add j) = some u := by
  intro j u hj
  have hj2 : ((#[.int .i64 x.a, .int .i64 x.b] : Array Value).toList)[j]? = some u := hj
  rw [Array.getElem?_toList] at hj2
  rw [← hj2, ← h.cell j]
  unfold Addr.add
  by_cases h0 : j = 0 <;> simp [h0]
theorem cui_src {w : World} {hi c : Nat} {A : Option Addr} {es : List Cu} (h : Rd cuS w hi (.slice A es.length c) es) (k : Nat) :
    ∀ a, A = some a → ∀ j u, (cuS.flat (es.take k))[j]? = some u → w.cell? (a.add j) = some u := by
  intro a ha j u hj
  subst ha
  refine cui_flat_cells h j u ?_
  rw [flat_cut es k, List.getElem?_append_left (List.getElem?_eq_some_iff.1 hj).1]
  exact hj
theorem cui_src2 {w : World} {hi c g off : Nat} {es : List Cu} (h : Rd cuS w hi (.slice (some ⟨g, off, none⟩) es.length c) es) (k : Nat) (hk : k ≤ es.length) :
    ∀ a, some (⟨g, off + k * 2, none⟩ : Addr) = some a → ∀ j u, (cuS.flat (es.drop k))[j]? = some u → w.cell? (a.add j) = some u := by
  intro a ha j u hj
  cases ha
  have := cui_flat_cells h (k * 2 + j) u (by
    have hl : (cuS.flat (es.take k)).length = k * 2 := by rw [Shape.length_flat, List.length_take, Nat.min_eq_left hk]; rfl
    rw [flat_cut es k, List.getElem?_append_right (by omega), hl, show k * 2 + j - k * 2 = j by omega]
    exact hj)
  rw [Addr.add_lit] at this ⊢
  rw [Nat.add_assoc]
  exact this
theorem cui_src0 {w : World} {A : Option Addr} (a : Addr) : A = some a → ∀ j u, (cuS.flat ([] : List Cu))[j]? = some u → w.cell? (a.add j) = some u := by
  intro _ j u hj
  simp [Shape.flat] at hj
theorem putI_end {w : World} {B b : Nat} {v : Value} {es D : List Cu} {k d : Nat} {y : Cu} (hB : B ≤ b) (hk : k ≤ es.length) (hd : D.length = d) (h : w.ownsRow b 25 2 v (0 + k + 1 + d) ([] ++ cuS.flat (es.take k) ++ cuS.flat [y] ++ cuS.flat D)) :
    w.ownsRow B 25 2 v (es.take k ++ y :: D).length (cuS.flat (es.take k ++ y :: D)) := by
  have e1 : (es.take k ++ y :: D).length = 0 + k + 1 + d := by rw [List.length_append, List.length_cons, List.length_take, hd]; omega
  have e2 : cuS.flat (es.take k ++ y :: D) = [] ++ cuS.flat (es.take k) ++ cuS.flat [y] ++ cuS.flat D := by
    rw [Shape.flat_append, flat_cons, show cuS.flat [y] = cuS.cells y by simp [Shape.flat]]
    simp
  rw [e1, e2]; exact own_mono h hB
set_option maxRecDepth 8000 in
set_option maxHeartbeats 16000000 in
theorem icPut_any (B : Nat) (v : Value) (es : List Cu) (y : Cu) (w : World) (ho : w.ownsRow B 25 2 v es.length (cuS.flat es)) (hB : B ≤ w.heap.size) (hlen : es.length ≤ 1000) :
    Calls Tryz.prog 112 #[v, .agg #[.int .i64 y.a, .int .i64 y.b]] w fun r w' => (∃ v' : Value, r = .returned v' ∧ w'.ownsRow B 25 2 v' (putC es y).length (cuS.flat (putC es y))) ∧ Below w.heap.size w w' := by
  obtain ⟨i0, hi, hz0, hz1, hz2⟩ := info_parts infoCuI
  have Ho := Lib.hid ho
  have Hr := Lib.hid (Rd.of_own (S := cuS) ho rfl); clear ho
  obtain ⟨A, c, rfl, hcc, hm, hA⟩ := Hr.out
  unfold maxLen at hm
  have HbA := Lib.hid (show Below w.heap.size w (w.alloc _) from bal (Below.refl _ _) (Obj.cells #[.int .i64 y.a, .int .i64 y.b] 25))
  have HB := Lib.hid (Blk.new w 25 #[.int .i64 y.a, .int .i64 y.b])
  have hql := eqlCuI
  go_enter Tryz.func112, Tryz.ntmps112
  go_wp2
  go_loopw [5] (fun i wr => ∃ k : Nat, k ≤ es.length ∧ i = .int .i64 k ∧ Hid (∀ j, j < k → ltC (cuS.get es j) y) ∧ Hid (Below w.heap.size w wr) ∧ Hid (Blk wr w.heap.size 25 #[.int .i64 y.a, .int .i64 y.b])) (fun i _ => es.length - (intOf i).toNat)
  case atStart => exact ⟨0, Nat.zero_le _, rfl, Lib.hid (fun j hj => absurd hj (Nat.not_lt_zero _)), HbA, HB⟩
  case round =>
    obtain ⟨k, hk, rfl, Hlt, Hb, HBr⟩ := hrel
    have q0 : wr.cell? ⟨w.heap.size, 0, none⟩ = some (.int .i64 y.a) := HBr.out.cell 0
    have q1 : wr.cell? ⟨w.heap.size, 1, none⟩ = some (.int .i64 y.b) := HBr.out.cell 1
    have ql := HBr.out.lt
    have Hpa := Lib.hid (putC_at y es k hk Hlt.out)
    by_cases hlt : k < es.length
    · obtain ⟨g, off, rfl, hg, hcell⟩ := hA (by omega)
      obtain ⟨f0, f1⟩ := cu_cells hcell k hlt
      clear hcell hA
      rw [← Hb.out.cell (p := ⟨_, _, _⟩) hg] at f0 f1
      have hgr : g < wr.heap.size := Nat.lt_of_lt_of_le hg Hb.out.size
      have hi0 : (0 : Int) ≤ (k : Int) := by omega
      have hi1 : (k : Int) < (es.length : Int) := by omega
      have hstep := Lib.hid (fun hne => all_lt_succ (p := fun j => ltC (cuS.get es j) y) Hlt.out hne)
      generalize hx : cuS.get es k = x at f0 f1 hstep Hpa
      have Hx := Lib.hid hx; clear hx
      by_cases hbf : ltC x y
      · have Hst := Lib.hid (hstep.out hbf)
        have hd : decide (cmpC x.a x.b y.a y.b < 0) = true := decide_eq_true hbf
        clear hbf hstep Hpa
        go_wp2
        refine wp_region_tame (by kernel_rfl) (by kernel_rfl) (fun T _ W hT => ?_)
        have hxx := hT.cell
        repeat (go_big_quiet_step ((go_at_call 161; exact hT.call (icBefore_any _ _ _ _ _))))
        refine wpQuiet_nil ?_
        intro t
        clear hxx
        go_wp2
        go_roundw
        case rel => exact ⟨k + 1, by omega, by go_num, Hst, Lib.hid (bthen Hb.out (hT.below t)), Lib.hid (HBr.out.on (hT.below t))⟩
        case measure => simp [intOf]; omega
      · have hd : decide (cmpC x.a x.b y.a y.b < 0) = false := decide_eq_false hbf
        have Hput := Lib.hid (Hpa.out (fun _ => hbf))
        clear hbf hstep Hpa
        go_wp2
        refine wp_region_tame (by kernel_rfl) (by kernel_rfl) (fun T _ W hT => ?_)
        have hxx := hT.cell
        repeat (go_big_quiet_step ((go_at_call 161; exact hT.call (icBefore_any _ _ _ _ _))))
        refine wpQuiet_nil ?_
        intro t
        clear hxx
        have Hbt := Lib.hid (bthen Hb.out (hT.below t))
        have HBt := Lib.hid (HBr.out.on (hT.below t))
        have HF0 := Lib.hid (((hT.below t).cell (p := ⟨g, off + k * 2, none⟩) hgr).trans f0)
        have HF1 := Lib.hid (((hT.below t).cell (p := ⟨g, off + k * 2 + 1, none⟩) hgr).trans f1)
        clear f0 f1 hgr
        generalize W t = w5 at Hbt HBt HF0 HF1 ⊢
        clear hT q0 q1 ql
        have q0 : w5.cell? ⟨w.heap.size, 0, none⟩ = some (.int .i64 y.a) := HBt.out.cell 0
        have q1 : w5.cell? ⟨w.heap.size, 1, none⟩ = some (.int .i64 y.b) := HBt.out.cell 1
        have ql := HBt.out.lt
        have f0 : w5.cell? ⟨g, off + k * 2, none⟩ = some (.int .i64 x.a) := HF0.out
        have f1 : w5.cell? ⟨g, off + k * 2 + 1, none⟩ = some (.int .i64 x.b) := HF1.out
        have hgr : g < w5.heap.size := Nat.lt_of_lt_of_le hg Hbt.out.size
        clear HF0 HF1
        have hcu := cu_eq (x := x) (y := y)
        by_cases he : x = y
        · have hd2 : (x.a == y.a && x.b == y.b) = true := by rw [hcu]; exact decide_eq_true he
          have Hfin := Lib.hid (show putC es y = es by rw [Hput.out, if_pos ⟨hlt, he⟩])
          clear hcu he
          go_wp2
          refine wp_region_tame (by kernel_rfl) (by kernel_rfl) (fun T _ W hT => ?_)
          have hxx := hT.cell
          repeat (go_big_quiet_step (fail))
          refine wpQuiet_nil ?_
          intro t
          clear hxx
          go_wp2
          go_ret
          exact ⟨⟨_, rfl, by rw [Hfin.out]; exact own_below Ho.out (bthen Hbt.out (hT.below t))⟩, bthen Hbt.out (hT.below t)⟩
        · have hd2 : (x.a == y.a && x.b == y.b) = false := by rw [hcu]; exact decide_eq_false he
          have hck : ¬ c = k := by omega
          have Hfin := Lib.hid (show putC es y = es.take k ++ y :: es.drop k by rw [Hput.out, if_neg (fun h => he h.2)])
          clear hcu he
          go_wp2
          refine wp_region_tame (by kernel_rfl) (by kernel_rfl) (fun T _ W hT => ?_)
          have hxx := hT.cell
          repeat (go_big_quiet_step (fail))
          refine wpQuiet_nil ?_
          intro t
          clear hxx
          have Hbt9 := Lib.hid (bthen Hbt.out (hT.below t))
          have HBt9 := Lib.hid (HBt.out.on (hT.below t))
          clear q0 q1 ql f0 f1 hgr hd hd2
          generalize W t = wt at Hbt9 HBt9 ⊢
          have hbt := Hbt9.out
          have hblkt := HBt9.out
          have HRt := Lib.hid (Hr.out.on hbt)
          clear Hbt9 HBt9 Hbt HBt hT
          go_wp2
          have r0 := hblkt.cell 0
          have r1 := hblkt.cell 1
          have rl := hblkt.lt
          have t1 : (0 : Int) ≤ ((k : Nat) : Int) := by omega
          have t2 : ((k : Nat) : Int) ≤ (c : Int) := by omega
          have t3 : ((k : Nat) : Int) ≤ (es.length : Int) := by omega
          have HS : Hid (∀ w', Below wt.heap.size wt w' → (w'.cell? ⟨w.heap.size, 0, none⟩ = some (.int .i64 y.a) ∧ w'.cell? ⟨w.heap.size, 1, none⟩ = some (.int .i64 y.b) ∧ Below wt.heap.size wt w')) := Lib.hid (fun w' hw => ⟨(hw.cell (p := ⟨w.heap.size, 0, none⟩) rl).trans r0, (hw.cell (p := ⟨w.heap.size, 1, none⟩) rl).trans r1, hw⟩)
          have Hl1 : Hid ((cuS.flat (es.take k)).length = (k) * 2) := Lib.hid (by first | (rw [Shape.length_flat, List.length_take, Nat.min_eq_left (by omega)]; rfl) | (simp [Shape.flat]; done))
          have Hl3 : Hid ((cuS.flat (es.drop k)).length = (es.length - k) * 2) := Lib.hid (by first | (rw [Shape.length_flat, List.length_drop]; rfl) | (simp [Shape.flat]; done) | (simp [Shape.flat]; omega))
          have HA1 : Hid ((some ⟨g, off, none⟩ : Option Addr) = none → (k) = 0) := Lib.hid (by intro h; first | cases h | omega)
          have HA3 : Hid ((some ⟨g, off + k * 2, none⟩ : Option Addr) = none → (es.length - k) = 0) := Lib.hid (by intro h; first | cases h | omega)
          have Hs1 := Lib.hid (cui_src HRt.out k)
          have Hs3 := Lib.hid (cui_src2 HRt.out k hk)
          have Hm1 : Hid (0 + k ≤ maxLen) := Lib.hid (by unfold maxLen; omega)
          have Hy1 : Hid ((0 + k) * 16 ≤ 140737488355328) := Lib.hid (by omega)
          have Hm2 : Hid (0 + k + 1 ≤ maxLen) := Lib.hid (by unfold maxLen; omega)
          have Hy2 : Hid ((0 + k + 1) * 16 ≤ 140737488355328) := Lib.hid (by omega)
          have Hm3 : Hid (0 + k + 1 + (es.length - k) ≤ maxLen) := Lib.hid (by unfold maxLen; omega)
          have Hy3 : Hid ((0 + k + 1 + (es.length - k)) * 16 ≤ 140737488355328) := Lib.hid (by omega)
          go_region_held3 (fun w' => w'.cell? ⟨w.heap.size, 0, none⟩ = some (.int .i64 y.a) ∧ w'.cell? ⟨w.heap.size, 1, none⟩ = some (.int .i64 y.b) ∧ Below wt.heap.size wt w') ((go_split_ands; refine HS.out _ ?_; repeat (first | (with_reducible assumption) | (with_reducible exact Below.refl _ _) | (with_reducible refine Below.drew ?_) | (with_reducible refine bal ?_ _)))) ((first | (refine step_append_src (by rfl) _ _ 34 (by rfl) 25 i0 (.agg #[.int .i64 0, .int .i64 0]) 2 16 Tryz.underlying34 hi hz0 hz1 hz2 rfl (by decide) wt (by (try go_split_ands); with_reducible assumption) _ 0 [] (by rfl) (by first | exact own_empty (by simp) | exact own_empty1 (by simp) | exact (own_empty (by simp)).alloc _) (some ⟨g, off, none⟩) (k) (c) (cuS.flat (es.take k)) (by rfl) Hl1.out (HA1.out) (src_below (by (try go_split_ands); with_reducible assumption) Hs1.out) (cui_one _) Hm1.out Hy1.out ?_; intro v1 w1 ho1 hbA1 hk1) | (refine step_append_src (by rfl) _ _ 34 (by rfl) 25 i0 (.agg #[.int .i64 0, .int .i64 0]) 2 16 Tryz.underlying34 hi hz0 hz1 hz2 rfl (by decide) wt (by (try go_split_ands); with_reducible assumption) v1 (0 + k) ([] ++ cuS.flat (es.take k)) (by rfl) (by first | with_reducible exact ho1 | with_reducible exact ho1.alloc _) _ 1 _ (cuS.flat [y]) (by rfl) rfl (by intro h; cases h) (lit_src (oneCuI_cells (by first | exact Blk.new _ _ _ | exact hk1 _ _ _ (Blk.new1 _ _ _ _) (ob_ne (by rfl) (by first | omega | (simp; done) | (simp; omega))) | exact hk1 _ _ _ (Blk.new _ _ _) (ob_ne (by rfl) (by first | omega | (simp; done) | (simp; omega))) | exact hk1 _ _ _ (Blk.alloc (Blk.new _ _ _) _) (ob_ne (by rfl) (by first | omega | (simp; done) | (simp; omega)))))) (cui_one _) Hm2.out Hy2.out ?_; intro v2 w2 ho2 hbA2 hk2) | (refine step_append_src (by rfl) _ _ 34 (by rfl) 25 i0 (.agg #[.int .i64 0, .int .i64 0]) 2 16 Tryz.underlying34 hi hz0 hz1 hz2 rfl (by decide) wt (by (try go_split_ands); with_reducible assumption) v2 (0 + k + 1) ([] ++ cuS.flat (es.take k) ++ cuS.flat [y]) (by rfl) (by with_reducible exact ho2) (some ⟨g, off + k * 2, none⟩) (es.length - k) (c - k) (cuS.flat (es.drop k)) (by rfl) Hl3.out (HA3.out) (src_below (by (try go_split_ands); with_reducible assumption) Hs3.out) (cui_one _) Hm3.out Hy3.out ?_; intro v3 w3 ho3 hbA3 hk3)))
          all_goals
            go_wp2
            go_ret
            exact ⟨⟨_, rfl, by rw [Hfin.out]; exact putI_end (Nat.le_trans hB hbt.size) hk (List.length_drop ..) ho3⟩, bthen hbt hbA3⟩
    · obtain rfl : k = es.length := by omega
      have Hfin := Lib.hid (show putC es y = es ++ [y] by rw [Hpa.out (fun h => absurd h hlt), if_neg (fun h => hlt h.1), List.take_length, List.drop_length])
      have hdl : decide (es.length < es.length) = false := decide_eq_false hlt
      clear Hpa
      go_wp2
      refine wp_region_tame (by kernel_rfl) (by kernel_rfl) (fun T _ W hT => ?_)
      have hxx := hT.cell
      repeat (go_big_quiet_step (fail))
      refine wpQuiet_nil ?_
      intro t
      clear hxx
      have Hbt := Lib.hid (bthen Hb.out (hT.below t))
      have HBt := Lib.hid (HBr.out.on (hT.below t))
      generalize W t = w5 at Hbt HBt ⊢
      clear hT q0 q1 ql
      have q0 : w5.cell? ⟨w.heap.size, 0, none⟩ = some (.int .i64 y.a) := HBt.out.cell 0
      have q1 : w5.cell? ⟨w.heap.size, 1, none⟩ = some (.int .i64 y.b) := HBt.out.cell 1
      have ql := HBt.out.lt
      go_wp2
      refine wp_region_tame (by kernel_rfl) (by kernel_rfl) (fun T _ W hT => ?_)
      have hxx := hT.cell
      repeat (go_big_quiet_step (fail))
      refine wpQuiet_nil ?_
      intro t
      clear hxx
      have Hbt9 := Lib.hid (bthen Hbt.out (hT.below t))
      have HBt9 := Lib.hid (HBt.out.on (hT.below t))
      clear q0 q1 ql hdl hlt
      generalize W t = wt at Hbt9 HBt9 ⊢
      have hbt := Hbt9.out
      have hblkt := HBt9.out
      have HRt := Lib.hid (Hr.out.on hbt)
      clear Hbt9 HBt9 Hbt HBt hT
      rcases Nat.eq_zero_or_pos es.length with h0 | h0
      · obtain rfl : es = [] := List.eq_nil_of_length_eq_zero h0
        clear hA hm hcc hk h0 Hlt
        by_cases hc : c = 0
        · subst hc
          cases A with
          | none =>
            go_wp2
            have r0 := hblkt.cell 0
            have r1 := hblkt.cell 1
            have rl := hblkt.lt
            have HS : Hid (∀ w', Below wt.heap.size wt w' → (w'.cell? ⟨w.heap.size, 0, none⟩ = some (.int .i64 y.a) ∧ w'.cell? ⟨w.heap.size, 1, none⟩ = some (.int .i64 y.b) ∧ Below wt.heap.size wt w')) := Lib.hid (fun w' hw => ⟨(hw.cell (p := ⟨w.heap.size, 0, none⟩) rl).trans r0, (hw.cell (p := ⟨w.heap.size, 1, none⟩) rl).trans r1, hw⟩)
            have Hl1 : Hid ((cuS.flat (([] : List Cu).take 0)).length = (0) * 2) := Lib.hid (by first | (rw [Shape.length_flat, List.length_take, Nat.min_eq_left (by omega)]; rfl) | (simp [Shape.flat]; done))
            have Hl3 : Hid ((cuS.flat ([])).length = (0) * 2) := Lib.hid (by first | (rw [Shape.length_flat, List.length_drop]; rfl) | (simp [Shape.flat]; done) | (simp [Shape.flat]; omega))
            have Hm1 : Hid (0 + 0 ≤ maxLen) := Lib.hid (by unfold maxLen; omega)
            have Hy1 : Hid ((0 + 0) * 16 ≤ 140737488355328) := Lib.hid (by omega)
            have Hm2 : Hid (0 + 0 + 1 ≤ maxLen) := Lib.hid (by unfold maxLen; omega)
            have Hy2 : Hid ((0 + 0 + 1) * 16 ≤ 140737488355328) := Lib.hid (by omega)
            have Hm3 : Hid (0 + 0 + 1 + (0) ≤ maxLen) := Lib.hid (by unfold maxLen; omega)
            have Hy3 : Hid ((0 + 0 + 1 + (0)) * 16 ≤ 140737488355328) := Lib.hid (by omega)
            go_region_held3 (fun w' => w'.cell? ⟨w.heap.size, 0, none⟩ = some (.int .i64 y.a) ∧ w'.cell? ⟨w.heap.size, 1, none⟩ = some (.int .i64 y.b) ∧ Below wt.heap.size wt w') ((go_split_ands; refine HS.out _ ?_; repeat (first | (with_reducible assumption) | (with_reducible exact Below.refl _ _) | (with_reducible refine Below.drew ?_) | (with_reducible refine bal ?_ _)))) ((first | (refine step_append_src (by rfl) _ _ 34 (by rfl) 25 i0 (.agg #[.int .i64 0, .int .i64 0]) 2 16 Tryz.underlying34 hi hz0 hz1 hz2 rfl (by decide) wt (by (try go_split_ands); with_reducible assumption) _ 0 [] (by rfl) (by first | exact own_empty (by simp) | exact own_empty1 (by simp) | exact (own_empty (by simp)).alloc _) (_) (0) (_) (cuS.flat (([] : List Cu).take 0)) (by rfl) Hl1.out (fun _ => rfl) (fun a => cui_src0 a) (cui_one _) Hm1.out Hy1.out ?_; intro v1 w1 ho1 hbA1 hk1) | (refine step_append_src (by rfl) _ _ 34 (by rfl) 25 i0 (.agg #[.int .i64 0, .int .i64 0]) 2 16 Tryz.underlying34 hi hz0 hz1 hz2 rfl (by decide) wt (by (try go_split_ands); with_reducible assumption) v1 (0 + 0) ([] ++ cuS.flat (([] : List Cu).take 0)) (by rfl) (by first | with_reducible exact ho1 | with_reducible exact ho1.alloc _) _ 1 _ (cuS.flat [y]) (by rfl) rfl (by intro h; cases h) (lit_src (oneCuI_cells (by first | exact Blk.new _ _ _ | exact hk1 _ _ _ (Blk.new1 _ _ _ _) (ob_ne (by rfl) (by first | omega | (simp; done) | (simp; omega))) | exact hk1 _ _ _ (Blk.new _ _ _) (ob_ne (by rfl) (by first | omega | (simp; done) | (simp; omega))) | exact hk1 _ _ _ (Blk.alloc (Blk.new _ _ _) _) (ob_ne (by rfl) (by first | omega | (simp; done) | (simp; omega)))))) (cui_one _) Hm2.out Hy2.out ?_; intro v2 w2 ho2 hbA2 hk2) | (refine step_append_src (by rfl) _ _ 34 (by rfl) 25 i0 (.agg #[.int .i64 0, .int .i64 0]) 2 16 Tryz.underlying34 hi hz0 hz1 hz2 rfl (by decide) wt (by (try go_split_ands); with_reducible assumption) v2 (0 + 0 + 1) ([] ++ cuS.flat (([] : List Cu).take 0) ++ cuS.flat [y]) (by rfl) (by with_reducible exact ho2) (_) (0) (_) (cuS.flat ([])) (by rfl) Hl3.out (fun _ => rfl) (fun a => cui_src0 a) (cui_one _) Hm3.out Hy3.out ?_; intro v3 w3 ho3 hbA3 hk3)))
            all_goals
              go_wp2
              go_ret
              exact ⟨⟨_, rfl, by rw [Hfin.out]; exact putI_end (es := []) (D := []) (k := 0) (Nat.le_trans hB hbt.size) (Nat.le_refl _) rfl ho3⟩, bthen hbt hbA3⟩
          | some a =>
            go_wp2
            have r0 := hblkt.cell 0
            have r1 := hblkt.cell 1
            have rl := hblkt.lt
            have HS : Hid (∀ w', Below wt.heap.size wt w' → (w'.cell? ⟨w.heap.size, 0, none⟩ = some (.int .i64 y.a) ∧ w'.cell? ⟨w.heap.size, 1, none⟩ = some (.int .i64 y.b) ∧ Below wt.heap.size wt w')) := Lib.hid (fun w' hw => ⟨(hw.cell (p := ⟨w.heap.size, 0, none⟩) rl).trans r0, (hw.cell (p := ⟨w.heap.size, 1, none⟩) rl).trans r1, hw⟩)
            have Hl1 : Hid ((cuS.flat (([] : List Cu).take 0)).length = (0) * 2) := Lib.hid (by first | (rw [Shape.length_flat, List.length_take, Nat.min_eq_left (by omega)]; rfl) | (simp [Shape.flat]; done))
            have Hl3 : Hid ((cuS.flat ([])).length = (0) * 2) := Lib.hid (by first | (rw [Shape.length_flat, List.length_drop]; rfl) | (simp [Shape.flat]; done) | (simp [Shape.flat]; omega))
            have Hm1 : Hid (0 + 0 ≤ maxLen) := Lib.hid (by unfold maxLen; omega)
            have Hy1 : Hid ((0 + 0) * 16 ≤ 140737488355328) := Lib.hid (by omega)
            have Hm2 : Hid (0 + 0 + 1 ≤ maxLen) := Lib.hid (by unfold maxLen; omega)
            have Hy2 : Hid ((0 + 0 + 1) * 16 ≤ 140737488355328) := Lib.hid (by omega)
            have Hm3 : Hid (0 + 0 + 1 + (0) ≤ maxLen) := Lib.hid (by unfold maxLen; omega)
            have Hy3 : Hid ((0 + 0 + 1 + (0)) * 16 ≤ 140737488355328) := Lib.hid (by omega)
            go_region_held3 (fun w' => w'.cell? ⟨w.heap.size, 0, none⟩ = some (.int .i64 y.a) ∧ w'.cell? ⟨w.heap.size, 1, none⟩ = some (.int .i64 y.b) ∧ Below wt.heap.size wt w') ((go_split_ands; refine HS.out _ ?_; repeat (first | (with_reducible assumption) | (with_reducible exact Below.refl _ _) | (with_reducible refine Below.drew ?_) | (with_reducible refine bal ?_ _)))) ((first | (refine step_append_src (by rfl) _ _ 34 (by rfl) 25 i0 (.agg #[.int .i64 0, .int .i64 0]) 2 16 Tryz.underlying34 hi hz0 hz1 hz2 rfl (by decide) wt (by (try go_split_ands); with_reducible assumption) _ 0 [] (by rfl) (by first | exact own_empty (by simp) | exact own_empty1 (by simp) | exact (own_empty (by simp)).alloc _) (_) (0) (_) (cuS.flat (([] : List Cu).take 0)) (by rfl) Hl1.out (fun _ => rfl) (fun a => cui_src0 a) (cui_one _) Hm1.out Hy1.out ?_; intro v1 w1 ho1 hbA1 hk1) | (refine step_append_src (by rfl) _ _ 34 (by rfl) 25 i0 (.agg #[.int .i64 0, .int .i64 0]) 2 16 Tryz.underlying34 hi hz0 hz1 hz2 rfl (by decide) wt (by (try go_split_ands); with_reducible assumption) v1 (0 + 0) ([] ++ cuS.flat (([] : List Cu).take 0)) (by rfl) (by first | with_reducible exact ho1 | with_reducible exact ho1.alloc _) _ 1 _ (cuS.flat [y]) (by rfl) rfl (by intro h; cases h) (lit_src (oneCuI_cells (by first | exact Blk.new _ _ _ | exact hk1 _ _ _ (Blk.new1 _ _ _ _) (ob_ne (by rfl) (by first | omega | (simp; done) | (simp; omega))) | exact hk1 _ _ _ (Blk.new _ _ _) (ob_ne (by rfl) (by first | omega | (simp; done) | (simp; omega))) | exact hk1 _ _ _ (Blk.alloc (Blk.new _ _ _) _) (ob_ne (by rfl) (by first | omega | (simp; done) | (simp; omega)))))) (cui_one _) Hm2.out Hy2.out ?_; intro v2 w2 ho2 hbA2 hk2) | (refine step_append_src (by rfl) _ _ 34 (by rfl) 25 i0 (.agg #[.int .i64 0, .int .i64 0]) 2 16 Tryz.underlying34 hi hz0 hz1 hz2 rfl (by decide) wt (by (try go_split_ands); with_reducible assumption) v2 (0 + 0 + 1) ([] ++ cuS.flat (([] : List Cu).take 0) ++ cuS.flat [y]) (by rfl) (by with_reducible exact ho2) (_) (0) (_) (cuS.flat ([])) (by rfl) Hl3.out (fun _ => rfl) (fun a => cui_src0 a) (cui_one _) Hm3.out Hy3.out ?_; intro v3 w3 ho3 hbA3 hk3)))
            all_goals
              go_wp2
              go_ret
              exact ⟨⟨_, rfl, by rw [Hfin.out]; exact putI_end (es := []) (D := []) (k := 0) (Nat.le_trans hB hbt.size) (Nat.le_refl _) rfl ho3⟩, bthen hbt hbA3⟩
        · cases A with
          | none =>
            go_wp2
            have r0 := hblkt.cell 0
            have r1 := hblkt.cell 1
            have rl := hblkt.lt
            have HS : Hid (∀ w', Below wt.heap.size wt w' → (w'.cell? ⟨w.heap.size, 0, none⟩ = some (.int .i64 y.a) ∧ w'.cell? ⟨w.heap.size, 1, none⟩ = some (.int .i64 y.b) ∧ Below wt.heap.size wt w')) := Lib.hid (fun w' hw => ⟨(hw.cell (p := ⟨w.heap.size, 0, none⟩) rl).trans r0, (hw.cell (p := ⟨w.heap.size, 1, none⟩) rl).trans r1, hw⟩)
            have Hl1 : Hid ((cuS.flat (([] : List Cu).take 0)).length = (0) * 2) := Lib.hid (by first | (rw [Shape.length_flat, List.length_take, Nat.min_eq_left (by omega)]; rfl) | (simp [Shape.flat]; done))
            have Hl3 : Hid ((cuS.flat ([])).length = (0) * 2) := Lib.hid (by first | (rw [Shape.length_flat, List.length_drop]; rfl) | (simp [Shape.flat]; done) | (simp [Shape.flat]; omega))
            have Hm1 : Hid (0 + 0 ≤ maxLen) := Lib.hid (by unfold maxLen; omega)
            have Hy1 : Hid ((0 + 0) * 16 ≤ 140737488355328) := Lib.hid (by omega)
            have Hm2 : Hid (0 + 0 + 1 ≤ maxLen) := Lib.hid (by unfold maxLen; omega)
            have Hy2 : Hid ((0 + 0 + 1) * 16 ≤ 140737488355328) := Lib.hid (by omega)
            have Hm3 : Hid (0 + 0 + 1 + (0) ≤ maxLen) := Lib.hid (by unfold maxLen; omega)
            have Hy3 : Hid ((0 + 0 + 1 + (0)) * 16 ≤ 140737488355328) := Lib.hid (by omega)
            go_region_held3 (fun w' => w'.cell? ⟨w.heap.size, 0, none⟩ = some (.int .i64 y.a) ∧ w'.cell? ⟨w.heap.size, 1, none⟩ = some (.int .i64 y.b) ∧ Below wt.heap.size wt w') ((go_split_ands; refine HS.out _ ?_; repeat (first | (with_reducible assumption) | (with_reducible exact Below.refl _ _) | (with_reducible refine Below.drew ?_) | (with_reducible refine bal ?_ _)))) ((first | (refine step_append_src (by rfl) _ _ 34 (by rfl) 25 i0 (.agg #[.int .i64 0, .int .i64 0]) 2 16 Tryz.underlying34 hi hz0 hz1 hz2 rfl (by decide) wt (by (try go_split_ands); with_reducible assumption) _ 0 [] (by rfl) (by first | exact own_empty (by simp) | exact own_empty1 (by simp) | exact (own_empty (by simp)).alloc _) (_) (0) (_) (cuS.flat (([] : List Cu).take 0)) (by rfl) Hl1.out (fun _ => rfl) (fun a => cui_src0 a) (cui_one _) Hm1.out Hy1.out ?_; intro v1 w1 ho1 hbA1 hk1) | (refine step_append_src (by rfl) _ _ 34 (by rfl) 25 i0 (.agg #[.int .i64 0, .int .i64 0]) 2 16 Tryz.underlying34 hi hz0 hz1 hz2 rfl (by decide) wt (by (try go_split_ands); with_reducible assumption) v1 (0 + 0) ([] ++ cuS.flat (([] : List Cu).take 0)) (by rfl) (by first | with_reducible exact ho1 | with_reducible exact ho1.alloc _) _ 1 _ (cuS.flat [y]) (by rfl) rfl (by intro h; cases h) (lit_src (oneCuI_cells (by first | exact Blk.new _ _ _ | exact hk1 _ _ _ (Blk.new1 _ _ _ _) (ob_ne (by rfl) (by first | omega | (simp; done) | (simp; omega))) | exact hk1 _ _ _ (Blk.new _ _ _) (ob_ne (by rfl) (by first | omega | (simp; done) | (simp; omega))) | exact hk1 _ _ _ (Blk.alloc (Blk.new _ _ _) _) (ob_ne (by rfl) (by first | omega | (simp; done) | (simp; omega)))))) (cui_one _) Hm2.out Hy2.out ?_; intro v2 w2 ho2 hbA2 hk2) | (refine step_append_src (by rfl) _ _ 34 (by rfl) 25 i0 (.agg #[.int .i64 0, .int .i64 0]) 2 16 Tryz.underlying34 hi hz0 hz1 hz2 rfl (by decide) wt (by (try go_split_ands); with_reducible assumption) v2 (0 + 0 + 1) ([] ++ cuS.flat (([] : List Cu).take 0) ++ cuS.flat [y]) (by rfl) (by with_reducible exact ho2) (_) (0) (_) (cuS.flat ([])) (by rfl) Hl3.out (fun _ => rfl) (fun a => cui_src0 a) (cui_one _) Hm3.out Hy3.out ?_; intro v3 w3 ho3 hbA3 hk3)))
            all_goals
              go_wp2
              go_ret
              exact ⟨⟨_, rfl, by rw [Hfin.out]; exact putI_end (es := []) (D := []) (k := 0) (Nat.le_trans hB hbt.size) (Nat.le_refl _) rfl ho3⟩, bthen hbt hbA3⟩
          | some a =>
            go_wp2
            have r0 := hblkt.cell 0
            have r1 := hblkt.cell 1
            have rl := hblkt.lt
            have HS : Hid (∀ w', Below wt.heap.size wt w' → (w'.cell? ⟨w.heap.size, 0, none⟩ = some (.int .i64 y.a) ∧ w'.cell? ⟨w.heap.size, 1, none⟩ = some (.int .i64 y.b) ∧ Below wt.heap.size wt w')) := Lib.hid (fun w' hw => ⟨(hw.cell (p := ⟨w.heap.size, 0, none⟩) rl).trans r0, (hw.cell (p := ⟨w.heap.size, 1, none⟩) rl).trans r1, hw⟩)
            have Hl1 : Hid ((cuS.flat (([] : List Cu).take 0)).length = (0) * 2) := Lib.hid (by first | (rw [Shape.length_flat, List.length_take, Nat.min_eq_left (by omega)]; rfl) | (simp [Shape.flat]; done))
            have Hl3 : Hid ((cuS.flat ([])).length = (0) * 2) := Lib.hid (by first | (rw [Shape.length_flat, List.length_drop]; rfl) | (simp [Shape.flat]; done) | (simp [Shape.flat]; omega))
            have Hm1 : Hid (0 + 0 ≤ maxLen) := Lib.hid (by unfold maxLen; omega)
            have Hy1 : Hid ((0 + 0) * 16 ≤ 140737488355328) := Lib.hid (by omega)
            have Hm2 : Hid (0 + 0 + 1 ≤ maxLen) := Lib.hid (by unfold maxLen; omega)
            have Hy2 : Hid ((0 + 0 + 1) * 16 ≤ 140737488355328) := Lib.hid (by omega)
            have Hm3 : Hid (0 + 0 + 1 + (0) ≤ maxLen) := Lib.hid (by unfold maxLen; omega)
            have Hy3 : Hid ((0 + 0 + 1 + (0)) * 16 ≤ 140737488355328) := Lib.hid (by omega)
            go_region_held3 (fun w' => w'.cell? ⟨w.heap.size, 0, none⟩ = some (.int .i64 y.a) ∧ w'.cell? ⟨w.heap.size, 1, none⟩ = some (.int .i64 y.b) ∧ Below wt.heap.size wt w') ((go_split_ands; refine HS.out _ ?_; repeat (first | (with_reducible assumption) | (with_reducible exact Below.refl _ _) | (with_reducible refine Below.drew ?_) | (with_reducible refine bal ?_ _)))) ((first | (refine step_append_src (by rfl) _ _ 34 (by rfl) 25 i0 (.agg #[.int .i64 0, .int .i64 0]) 2 16 Tryz.underlying34 hi hz0 hz1 hz2 rfl (by decide) wt (by (try go_split_ands); with_reducible assumption) _ 0 [] (by rfl) (by first | exact own_empty (by simp) | exact own_empty1 (by simp) | exact (own_empty (by simp)).alloc _) (_) (0) (_) (cuS.flat (([] : List Cu).take 0)) (by rfl) Hl1.out (fun _ => rfl) (fun a => cui_src0 a) (cui_one _) Hm1.out Hy1.out ?_; intro v1 w1 ho1 hbA1 hk1) | (refine step_append_src (by rfl) _ _ 34 (by rfl) 25 i0 (.agg #[.int .i64 0, .int .i64 0]) 2 16 Tryz.underlying34 hi hz0 hz1 hz2 rfl (by decide) wt (by (try go_split_ands); with_reducible assumption) v1 (0 + 0) ([] ++ cuS.flat (([] : List Cu).take 0)) (by rfl) (by first | with_reducible exact ho1 | with_reducible exact ho1.alloc _) _ 1 _ (cuS.flat [y]) (by rfl) rfl (by intro h; cases h) (lit_src (oneCuI_cells (by first | exact Blk.new _ _ _ | exact hk1 _ _ _ (Blk.new1 _ _ _ _) (ob_ne (by rfl) (by first | omega | (simp; done) | (simp; omega))) | exact hk1 _ _ _ (Blk.new _ _ _) (ob_ne (by rfl) (by first | omega | (simp; done) | (simp; omega))) | exact hk1 _ _ _ (Blk.alloc (Blk.new _ _ _) _) (ob_ne (by rfl) (by first | omega | (simp; done) | (simp; omega)))))) (cui_one _) Hm2.out Hy2.out ?_; intro v2 w2 ho2 hbA2 hk2) | (refine step_append_src (by rfl) _ _ 34 (by rfl) 25 i0 (.agg #[.int .i64 0, .int .i64 0]) 2 16 Tryz.underlying34 hi hz0 hz1 hz2 rfl (by decide) wt (by (try go_split_ands); with_reducible assumption) v2 (0 + 0 + 1) ([] ++ cuS.flat (([] : List Cu).take 0) ++ cuS.flat [y]) (by rfl) (by with_reducible exact ho2) (_) (0) (_) (cuS.flat ([])) (by rfl) Hl3.out (fun _ => rfl) (fun a => cui_src0 a) (cui_one _) Hm3.out Hy3.out ?_; intro v3 w3 ho3 hbA3 hk3)))
            all_goals
              go_wp2
              go_ret
              exact ⟨⟨_, rfl, by rw [Hfin.out]; exact putI_end (es := []) (D := []) (k := 0) (Nat.le_trans hB hbt.size) (Nat.le_refl _) rfl ho3⟩, bthen hbt hbA3⟩
      · obtain ⟨g, off, rfl, hg, hcell⟩ := hA h0
        clear hA hcell
        by_cases hck : c = es.length
        · subst hck
          have t1 : (0 : Int) ≤ (es.length : Int) := by omega
          go_wp2
          have r0 := hblkt.cell 0
          have r1 := hblkt.cell 1
          have rl := hblkt.lt
          have HS : Hid (∀ w', Below wt.heap.size wt w' → (w'.cell? ⟨w.heap.size, 0, none⟩ = some (.int .i64 y.a) ∧ w'.cell? ⟨w.heap.size, 1, none⟩ = some (.int .i64 y.b) ∧ Below wt.heap.size wt w')) := Lib.hid (fun w' hw => ⟨(hw.cell (p := ⟨w.heap.size, 0, none⟩) rl).trans r0, (hw.cell (p := ⟨w.heap.size, 1, none⟩) rl).trans r1, hw⟩)
          have Hl1 : Hid ((cuS.flat (es.take es.length)).length = (es.length) * 2) := Lib.hid (by first | (rw [Shape.length_flat, List.length_take, Nat.min_eq_left (by omega)]; rfl) | (simp [Shape.flat]; done))
          have Hl3 : Hid ((cuS.flat ([])).length = (0) * 2) := Lib.hid (by first | (rw [Shape.length_flat, List.length_drop]; rfl) | (simp [Shape.flat]; done) | (simp [Shape.flat]; omega))
          have HA1 : Hid ((some ⟨g, off, none⟩ : Option Addr) = none → (es.length) = 0) := Lib.hid (by intro h; first | cases h | omega)
          have Hs1 := Lib.hid (cui_src HRt.out es.length)
          have Hm1 : Hid (0 + es.length ≤ maxLen) := Lib.hid (by unfold maxLen; omega)
          have Hy1 : Hid ((0 + es.length) * 16 ≤ 140737488355328) := Lib.hid (by omega)
          have Hm2 : Hid (0 + es.length + 1 ≤ maxLen) := Lib.hid (by unfold maxLen; omega)
          have Hy2 : Hid ((0 + es.length + 1) * 16 ≤ 140737488355328) := Lib.hid (by omega)
          have Hm3 : Hid (0 + es.length + 1 + (0) ≤ maxLen) := Lib.hid (by unfold maxLen; omega)
          have Hy3 : Hid ((0 + es.length + 1 + (0)) * 16 ≤ 140737488355328) := Lib.hid (by omega)
          go_region_held3 (fun w' => w'.cell? ⟨w.heap.size, 0, none⟩ = some (.int .i64 y.a) ∧ w'.cell? ⟨w.heap.size, 1, none⟩ = some (.int .i64 y.b) ∧ Below wt.heap.size wt w') ((go_split_ands; refine HS.out _ ?_; repeat (first | (with_reducible assumption) | (with_reducible exact Below.refl _ _) | (with_reducible refine Below.drew ?_) | (with_reducible refine bal ?_ _)))) ((first | (refine step_append_src (by rfl) _ _ 34 (by rfl) 25 i0 (.agg #[.int .i64 0, .int .i64 0]) 2 16 Tryz.underlying34 hi hz0 hz1 hz2 rfl (by decide) wt (by (try go_split_ands); with_reducible assumption) _ 0 [] (by rfl) (by first | exact own_empty (by simp) | exact own_empty1 (by simp) | exact (own_empty (by simp)).alloc _) (some ⟨g, off, none⟩) (es.length) (_) (cuS.flat (es.take es.length)) (by rfl) Hl1.out (HA1.out) (src_below (by (try go_split_ands); with_reducible assumption) Hs1.out) (cui_one _) Hm1.out Hy1.out ?_; intro v1 w1 ho1 hbA1 hk1) | (refine step_append_src (by rfl) _ _ 34 (by rfl) 25 i0 (.agg #[.int .i64 0, .int .i64 0]) 2 16 Tryz.underlying34 hi hz0 hz1 hz2 rfl (by decide) wt (by (try go_split_ands); with_reducible assumption) v1 (0 + es.length) ([] ++ cuS.flat (es.take es.length)) (by rfl) (by first | with_reducible exact ho1 | with_reducible exact ho1.alloc _) _ 1 _ (cuS.flat [y]) (by rfl) rfl (by intro h; cases h) (lit_src (oneCuI_cells (by first | exact Blk.new _ _ _ | exact hk1 _ _ _ (Blk.new1 _ _ _ _) (ob_ne (by rfl) (by first | omega | (simp; done) | (simp; omega))) | exact hk1 _ _ _ (Blk.new _ _ _) (ob_ne (by rfl) (by first | omega | (simp; done) | (simp; omega))) | exact hk1 _ _ _ (Blk.alloc (Blk.new _ _ _) _) (ob_ne (by rfl) (by first | omega | (simp; done) | (simp; omega)))))) (cui_one _) Hm2.out Hy2.out ?_; intro v2 w2 ho2 hbA2 hk2) | (refine step_append_src (by rfl) _ _ 34 (by rfl) 25 i0 (.agg #[.int .i64 0, .int .i64 0]) 2 16 Tryz.underlying34 hi hz0 hz1 hz2 rfl (by decide) wt (by (try go_split_ands); with_reducible assumption) v2 (0 + es.length + 1) ([] ++ cuS.flat (es.take es.length) ++ cuS.flat [y]) (by rfl) (by with_reducible exact ho2) (_) (0) (_) (cuS.flat ([])) (by rfl) Hl3.out (fun _ => rfl) (fun a => cui_src0 a) (cui_one _) Hm3.out Hy3.out ?_; intro v3 w3 ho3 hbA3 hk3)))
          all_goals
            go_wp2
            go_ret
            have e9 : es ++ [y] = es.take es.length ++ y :: [] := by rw [List.take_length]
            exact ⟨⟨_, rfl, by rw [Hfin.out, e9]; exact putI_end (D := []) (Nat.le_trans hB hbt.size) (Nat.le_refl _) rfl ho3⟩, bthen hbt hbA3⟩
        · have t1 : (0 : Int) ≤ (es.length : Int) := by omega
          have t2 : (es.length : Int) ≤ (c : Int) := by omega
          go_wp2
          have r0 := hblkt.cell 0
          have r1 := hblkt.cell 1
          have rl := hblkt.lt
          have t1 : (0 : Int) ≤ ((es.length : Nat) : Int) := by omega
          have t2 : ((es.length : Nat) : Int) ≤ (c : Int) := by omega
          have t3 : ((es.length : Nat) : Int) ≤ (es.length : Int) := by omega
          have HS : Hid (∀ w', Below wt.heap.size wt w' → (w'.cell? ⟨w.heap.size, 0, none⟩ = some (.int .i64 y.a) ∧ w'.cell? ⟨w.heap.size, 1, none⟩ = some (.int .i64 y.b) ∧ Below wt.heap.size wt w')) := Lib.hid (fun w' hw => ⟨(hw.cell (p := ⟨w.heap.size, 0, none⟩) rl).trans r0, (hw.cell (p := ⟨w.heap.size, 1, none⟩) rl).trans r1, hw⟩)
          have Hl1 : Hid ((cuS.flat (es.take es.length)).length = (es.length) * 2) := Lib.hid (by first | (rw [Shape.length_flat, List.length_take, Nat.min_eq_left (by omega)]; rfl) | (simp [Shape.flat]; done))
          have Hl3 : Hid ((cuS.flat ([])).length = (0) * 2) := Lib.hid (by first | (rw [Shape.length_flat, List.length_drop]; rfl) | (simp [Shape.flat]; done) | (simp [Shape.flat]; omega))
          have HA1 : Hid ((some ⟨g, off, none⟩ : Option Addr) = none → (es.length) = 0) := Lib.hid (by intro h; first | cases h | omega)
          have HA3 : Hid ((some ⟨g, off + es.length * 2, none⟩ : Option Addr) = none → (0) = 0) := Lib.hid (by intro h; first | cases h | omega)
          have Hs1 := Lib.hid (cui_src HRt.out es.length)
          have Hm1 : Hid (0 + es.length ≤ maxLen) := Lib.hid (by unfold maxLen; omega)
          have Hy1 : Hid ((0 + es.length) * 16 ≤ 140737488355328) := Lib.hid (by omega)
          have Hm2 : Hid (0 + es.length + 1 ≤ maxLen) := Lib.hid (by unfold maxLen; omega)
          have Hy2 : Hid ((0 + es.length + 1) * 16 ≤ 140737488355328) := Lib.hid (by omega)
          have Hm3 : Hid (0 + es.length + 1 + (0) ≤ maxLen) := Lib.hid (by unfold maxLen; omega)
          have Hy3 : Hid ((0 + es.length + 1 + (0)) * 16 ≤ 140737488355328) := Lib.hid (by omega)
          go_region_held3 (fun w' => w'.cell? ⟨w.heap.size, 0, none⟩ = some (.int .i64 y.a) ∧ w'.cell? ⟨w.heap.size, 1, none⟩ = some (.int .i64 y.b) ∧ Below wt.heap.size wt w') ((go_split_ands; refine HS.out _ ?_; repeat (first | (with_reducible assumption) | (with_reducible exact Below.refl _ _) | (with_reducible refine Below.drew ?_) | (with_reducible refine bal ?_ _)))) ((first | (refine step_append_src (by rfl) _ _ 34 (by rfl) 25 i0 (.agg #[.int .i64 0, .int .i64 0]) 2 16 Tryz.underlying34 hi hz0 hz1 hz2 rfl (by decide) wt (by (try go_split_ands); with_reducible assumption) _ 0 [] (by rfl) (by first | exact own_empty (by simp) | exact own_empty1 (by simp) | exact (own_empty (by simp)).alloc _) (some ⟨g, off, none⟩) (es.length) (c) (cuS.flat (es.take es.length)) (by rfl) Hl1.out (HA1.out) (src_below (by (try go_split_ands); with_reducible assumption) Hs1.out) (cui_one _) Hm1.out Hy1.out ?_; intro v1 w1 ho1 hbA1 hk1) | (refine step_append_src (by rfl) _ _ 34 (by rfl) 25 i0 (.agg #[.int .i64 0, .int .i64 0]) 2 16 Tryz.underlying34 hi hz0 hz1 hz2 rfl (by decide) wt (by (try go_split_ands); with_reducible assumption) v1 (0 + es.length) ([] ++ cuS.flat (es.take es.length)) (by rfl) (by first | with_reducible exact ho1 | with_reducible exact ho1.alloc _) _ 1 _ (cuS.flat [y]) (by rfl) rfl (by intro h; cases h) (lit_src (oneCuI_cells (by first | exact Blk.new _ _ _ | exact hk1 _ _ _ (Blk.new1 _ _ _ _) (ob_ne (by rfl) (by first | omega | (simp; done) | (simp; omega))) | exact hk1 _ _ _ (Blk.new _ _ _) (ob_ne (by rfl) (by first | omega | (simp; done) | (simp; omega))) | exact hk1 _ _ _ (Blk.alloc (Blk.new _ _ _) _) (ob_ne (by rfl) (by first | omega | (simp; done) | (simp; omega)))))) (cui_one _) Hm2.out Hy2.out ?_; intro v2 w2 ho2 hbA2 hk2) | (refine step_append_src (by rfl) _ _ 34 (by rfl) 25 i0 (.agg #[.int .i64 0, .int .i64 0]) 2 16 Tryz.underlying34 hi hz0 hz1 hz2 rfl (by decide) wt (by (try go_split_ands); with_reducible assumption) v2 (0 + es.length + 1) ([] ++ cuS.flat (es.take es.length) ++ cuS.flat [y]) (by rfl) (by with_reducible exact ho2) (some ⟨g, off + es.length * 2, none⟩) (0) (c - es.length) (cuS.flat ([])) (by rfl) Hl3.out (HA3.out) (fun a => cui_src0 a) (cui_one _) Hm3.out Hy3.out ?_; intro v3 w3 ho3 hbA3 hk3)))
          all_goals
            go_wp2
            go_ret
            have e9 : es ++ [y] = es.take es.length ++ y :: [] := by rw [List.take_length]
            exact ⟨⟨_, rfl, by rw [Hfin.out, e9]; exact putI_end (D := []) (Nat.le_trans hB hbt.size) (Nat.le_refl _) rfl ho3⟩, bthen hbt hbA3⟩
end
section
section
open Go Go.RowKit Go.Sort

/-- Draws and new blocks, nothing else. -/
def GrI (w w' : World) : Prop := ∃ (q : Nat) (os : Array Obj), w' = grow (w.drewN q) os
theorem GrI.refl (w : World) : GrI w w := ⟨0, #[], by rw [grow_empty]; rfl⟩
theorem GrI.drew {w w' : World} (h : GrI w w') : GrI w w'.drew := by
  obtain ⟨q, os, rfl⟩ := h
  exact ⟨q + 1, os, rfl⟩
theorem GrI.alloc {w w' : World} (h : GrI w w') (o : Obj) : GrI w (w'.alloc o) := by
  obtain ⟨q, os, rfl⟩ := h
  exact ⟨q, os ++ #[o], by rw [alloc_eq_grow, grow_grow]⟩
theorem GrI.trans {w w1 w2 : World} (h : GrI w w1) (k : GrI w1 w2) : GrI w w2 := by
  obtain ⟨q, os, rfl⟩ := h
  obtain ⟨p, ot, rfl⟩ := k
  refine ⟨q + p, os ++ ot, ?_⟩
  rw [← grow_grow]
  unfold grow World.drewN
  simp only [Nat.add_assoc]
set_option maxHeartbeats 800000 in
theorem compareCurves_grI (a b c d : Int) (w : World) :
    Calls Tryz.prog 110 #[.agg #[.int .i64 a, .int .i64 b], .agg #[.int .i64 c, .int .i64 d]] w fun e w' => e = .returned (.int .i64 (cmpC a b c d)) ∧ GrI w w' := by
  go_enter Tryz.func110, Tryz.ntmps110
  go_wp2
  go_region_held3 (fun w' => w'.cell? ⟨w.heap.size, 0, none⟩ = some (.int .i64 a) ∧ w'.cell? ⟨w.heap.size, 1, none⟩ = some (.int .i64 b) ∧ w'.cell? ⟨w.heap.size + 1, 0, none⟩ = some (.int .i64 c) ∧ w'.cell? ⟨w.heap.size + 1, 1, none⟩ = some (.int .i64 d)) (simp [go_sem, World.cell?_alloc_past])
    (first
      | (go_at_call 160; refine (cmpCompare_any _ _ _).mono ?_; rintro e w' ⟨rfl, rfl⟩)
      | (go_at_call 159; refine (cmpOr_two _ _ (cmpI a c) (cmpI b d) _ ?_ ?_).mono ?_; (simp [go_sem]); (simp [go_sem]); rintro e w' ⟨rfl, rfl⟩))
  all_goals go_wp2
  all_goals go_ret
  all_goals exact ⟨by rw [← or2_cmp]; rfl, by repeat (with_reducible first | exact GrI.refl _ | refine GrI.drew ?_ | refine GrI.alloc ?_ _)⟩
end
section
open Go Go.RowKit Go.Sort Go.Shelf

instance : Inhabited Cu := ⟨⟨0, 0⟩⟩
def encEI (x : Cu) : List Value := [.int .i64 x.a, .int .i64 x.b]
theorem encE_lenI (x : Cu) : (encEI x).length = 2 := rfl
theorem encE_cellI (x : Cu) (j : Nat) (hj : j < 2) : (encEI x)[j]! = cuS.cell x j := by
  match j, hj with
  | 0, _ => rfl
  | 1, _ => rfl
theorem getCu_bang (d : List Cu) (k : Nat) (h : k < d.length) : d.toArray[k]! = cuS.get d k := by
  rw [getCu h, getElem!_pos d.toArray k (by simpa using h)]
  simp
theorem flatK_flatI (d : List Cu) (j : Nat) (h : j < d.length * 2) : some (flatK encEI 2 d.toArray)[j]! = (cuS.flat d)[j]? := by
  have hk : j / 2 < d.length := by omega
  have hm : j % 2 < 2 := Nat.mod_lt _ (by decide)
  rw [get_flatK encEI 2 d.toArray j (by simpa using h), getCu_bang d _ hk, encE_cellI _ _ hm]
  have := cuS.flat_at d (j / 2) (j % 2) hk hm
  rw [← this]
  congr 1
  show j / 2 * 2 + j % 2 = j
  omega
section
variable {w : World} {base g n c : Nat} {d d' : List Cu} {cur : Array Value}
theorem own_curI (h : w.ownsRow base 25 2 (.slice (some ⟨g, 0, none⟩) n c) n (cuS.flat d)) : ∃ cur, base ≤ g ∧ w.heap[g]? = some (.cells cur 25 (0, 0)) ∧ n ≤ c ∧ c ≤ maxLen ∧ cur.size = c * 2 ∧ cur.toList.take (n * 2) = cuS.flat d := by
  obtain ⟨-, ⟨h', -⟩ | ⟨g', cap', cur, h', hb, hg, hc, hm, hs, ht⟩⟩ := h
  · cases h'
  · cases h'
    exact ⟨cur, hb, hg, hc, hm, hs, ht⟩
theorem own_holdsKI (h : w.ownsRow base 25 2 (.slice (some ⟨g, 0, none⟩) n c) n (cuS.flat d)) (hn : n = d.length) : HoldsK encEI 2 w g 0 d.toArray := by
  obtain ⟨cur, -, hg, -, -, -, ht⟩ := own_curI h
  intro j hj
  have hj' : j < d.length * 2 := by simpa using hj
  have hB : Blk w g 25 cur := hg
  refine ⟨?_, hB.frozen _⟩
  rw [Nat.zero_add, hB.cell j]
  show cur[j]? = some (flatK encEI 2 d.toArray)[j]!
  rw [flatK_flatI d j hj', ← ht, List.getElem?_take, if_pos (by omega)]
  simp
theorem heap_sortKI (hg : w.heap[g]? = some (.cells cur 25 (0, 0))) (m : Nat) (os : Array Obj) : (sortWorldK encEI 2 w g 0 m d.toArray os).heap[g]? = some (.cells (putCells id 0 (flatK encEI 2 d.toArray) cur) 25 (0, 0)) := by
  have hlt : g < w.heap.size := (Array.getElem?_eq_some_iff.1 hg).1
  show ((w.heap.modify g (onCells (putCells id 0 (flatK encEI 2 d.toArray)))) ++ os)[g]? = _
  rw [Array.getElem?_append_left (by rw [Array.size_modify]; exact hlt), Array.getElem?_modify, if_pos rfl, hg]
  rfl
theorem own_behindI (h : w.ownsRow base 25 2 (.slice (some ⟨g, 0, none⟩) n c) n (cuS.flat d)) (hn : n = d'.length) (m : Nat) (os : Array Obj) :
    (sortWorldK encEI 2 w g 0 m d'.toArray os).ownsRow base 25 2 (.slice (some ⟨g, 0, none⟩) n c) n (cuS.flat d') ∧ Below base w (sortWorldK encEI 2 w g 0 m d'.toArray os) := by
  obtain ⟨cur, hb, hg, hc, hm, hs, -⟩ := own_curI h
  have hfl : (cuS.flat d').length = d'.length * 2 := Shape.length_flat d'
  refine ⟨⟨by rw [hfl, hn], Or.inr ⟨g, c, _, rfl, hb, heap_sortKI hg m os, hc, hm, by rw [← hs]; simp [putCells], ?_⟩⟩, rfl, rfl, rfl, ?_, ?_⟩
  · apply List.ext_getElem?
    intro i
    rw [List.getElem?_take]
    by_cases hi : i < n * 2
    · rw [if_pos hi, ← flatK_flatI d' i (by omega), Array.getElem?_toList]
      have hic : i < cur.size := by rw [hs]; omega
      unfold putCells
      rw [Array.getElem?_mapIdx, Array.getElem?_eq_getElem hic, Option.map_some, if_pos ⟨Nat.zero_le _, by rw [size_flatK]; simp; omega⟩]
      rfl
    · rw [if_neg hi, List.getElem?_eq_none (by omega)]
  · show w.heap.size ≤ ((w.heap.modify g _) ++ os).size
    rw [Array.size_append, Array.size_modify]
    omega
  · intro k hk
    show ((w.heap.modify g _) ++ os)[k]? = _
    have hlt : g < w.heap.size := (Array.getElem?_eq_some_iff.1 hg).1
    rw [Array.getElem?_append_left (by rw [Array.size_modify]; omega), Array.getElem?_modify, if_neg (by omega)]
end

def cmpCu (x y : Cu) : Int := cmpC x.a x.b y.a y.b
theorem ltEI (x y : Cu) : ltOf cmpCu x y = decide (cmpCu x y < 0) := rfl
theorem swoEI : SWO (ltOf cmpCu) where
  irrefl x := by rw [ltEI]; exact decide_eq_false (ltC_irr x)
  trans x y z h1 h2 := by
    rw [ltEI] at *
    exact decide_eq_true (ltC_trans (of_decide_eq_true h1) (of_decide_eq_true h2))
  ntrans x y z h1 h2 := by
    rw [ltEI] at *
    have h1 := of_decide_eq_false h1
    have h2 := of_decide_eq_false h2
    refine decide_eq_false (fun h => ?_)
    unfold cmpCu at *
    rw [cmpC_lt] at *
    omega
theorem cmpLaysEI (g n : Nat) (w : World) : CmpLays Tryz.prog 110 #[] encEI 2 cmpCu g 0 n w := fun _ _ _ _ x y =>
  (compareCurves_grI x.a x.b y.a y.b _).mono fun _ _ ⟨he, q, os', hq⟩ => ⟨he, q, os', hq⟩
theorem closEI : ∀ args w, (callFunc 110 args).run Tryz.prog w = .ok (.enter 110 args) w := enters_of Tryz.func110 (by kernel_rfl) rfl
theorem insNoneI (fv : Value) (w : World) : Calls Tryz.prog 195 #[.slice none 0 0, .int .i64 0, .int .i64 0, fv] w fun e w' => e = .returned (.tuple #[]) ∧ w' = w := by
  go_enter Tryz.func195, Tryz.ntmps195
  go_wp2
  refine wp_loop_rounds 1 ?_
  rw [rounds_succ]
  go_wp2
  go_end0
  exact ⟨rfl, rfl⟩
theorem pdqNoneI (lim : Int) (fv : Value) (w : World) : Calls Tryz.prog 157 #[.slice none 0 0, .int .i64 0, .int .i64 0, .int .i64 lim, fv] w fun e w' => e = .returned (.tuple #[]) ∧ w' = w := by
  go_enter Tryz.func157, Tryz.ntmps157
  go_wp2
  refine wp_loop_rounds 1 ?_
  rw [rounds_succ]
  go_wp2_with (go_at_call 195; refine (insNoneI _ _).mono ?_; rintro e w' ⟨rfl, rfl⟩)
  (try simp only [Exit.inBlock, Exit.then]); refine bodyPost_ret (results_none rfl _ _ _) rfl ?_
  exact ⟨rfl, rfl⟩
theorem sortNoneI (fv : Value) (w : World) : Calls Tryz.prog 109 #[.slice none 0 0, fv] w fun e w' => e = .returned (.tuple #[]) ∧ w' = w := by
  have hl : Calls Tryz.prog 158 #[.int .u64 0] w fun e w' => e = .returned (.int .i64 0) ∧ w' = w := Any.bits_Len (SlLaysF0.n15.bits (P := Tryz.prog) (ρ := Tryz.sortEn_ren) { Tryz.sortEn with }) 0 w (by omega) (by omega)
  go_enter Tryz.func109, Tryz.ntmps109
  go_wp2_with (first | (go_at_call 158; refine hl.mono ?_; rintro e w' ⟨rfl, rfl⟩) | (go_at_call 157; refine (pdqNoneI _ _ _).mono ?_; rintro e w' ⟨rfl, rfl⟩))
  go_end0
  exact ⟨rfl, rfl⟩
theorem sortCu_any (base : Nat) (v : Value) (xs : List Cu) (w : World) (ho : w.ownsRow base 25 2 v xs.length (cuS.flat xs)) (hlen : xs.length ≤ 1000000) :
    Calls Tryz.prog 109 #[v, .func (.func 110) #[] #[]] w fun e w' => e = .returned (.tuple #[]) ∧ ∃ d : List Cu, d.Perm xs ∧ (∀ i j, i < j → j < d.length → ¬ cmpCu (cuS.get d j) (cuS.get d i) < 0) ∧ w'.ownsRow base 25 2 v d.length (cuS.flat d) ∧ Below base w w' := by
  have hform : (v = .slice none 0 0 ∧ xs.length = 0) ∨ ∃ g c, v = .slice (some ⟨g, 0, none⟩) xs.length c := by
    rcases ho.2 with h | ⟨g, c, _, h, _⟩
    · exact Or.inl h
    · exact Or.inr ⟨g, c, h⟩
  rcases hform with ⟨rfl, h0⟩ | ⟨g, c, rfl⟩
  · obtain rfl := List.eq_nil_of_length_eq_zero h0
    have hcon := sortNoneI (.func (.func 110) #[] #[]) w
    refine hcon.mono fun e w' ⟨he, hw⟩ => ?_
    subst hw
    exact ⟨he, [], List.Perm.refl _, fun i j _ hj => absurd hj (Nat.not_lt_zero _), ho, Below.refl _ _⟩
  · obtain ⟨cur, hb, hg, -⟩ := own_curI ho
    have hlt : g < w.heap.size := (Array.getElem?_eq_some_iff.1 hg).1
    have hcon := AnyQ.slices_SortFunc Tryz.sortEn 2 (fun _ => by kernel_rfl) (fun _ => by kernel_rfl) encEI encE_lenI (fun x u hu => by simp [encEI] at hu; rcases hu with rfl | rfl <;> rfl) cmpCu swoEI 110 #[] g 0 c xs.toArray w closEI (cmpLaysEI g xs.toArray.size w) (own_holdsKI ho rfl) hlt (by simp; omega)
    change Calls Tryz.prog 109 _ _ _ at hcon
    rw [List.size_toArray] at hcon
    refine hcon.mono fun e w' ⟨he, d', n, os, hp, hs, hw⟩ => ?_
    subst hw
    obtain ⟨hsz, -, hpm⟩ := hp
    have hsz' : d'.toList.length = xs.length := by simpa using hsz
    have hpl : d'.toList.Perm xs := by
      have h2 : d'.extract 0 xs.length = d' := by rw [← hsz']; simp
      rw [h2] at hpm
      simpa using hpm
    have hd : d' = d'.toList.toArray := by simp
    obtain ⟨h3, h4⟩ := own_behindI (d' := d'.toList) ho hsz'.symm n os
    refine ⟨he, d'.toList, hpl, fun i j hij hj h => ?_, ?_, ?_⟩
    · have h5 := hs i j (Nat.zero_le _) hij (by omega)
      rw [ltEI] at h5
      rw [hd, getCu_bang _ j hj, getCu_bang _ i (by omega)] at h5
      exact of_decide_eq_false h5 h
    · rw [hsz', ← hd] at *; exact h3
    · rw [← hd] at h4; exact h4
end
end
section
open Go Go.RowKit

theorem roots_lt (a b lo : Int) (n : Nat) : (rootsF a b lo n).Pairwise (· < ·) := by
  unfold rootsF
  refine List.Pairwise.filter _ ?_
  rw [List.pairwise_map]
  exact List.pairwise_lt_range.imp (fun h => by omega)
theorem roots_pair {a b x y : Int} (hx : evZ a b x = 0) (hy : evZ a b y = 0) (h : x ≠ y) : x * x + x * y + y * y + a = 0 := by
  unfold evZ at hx hy
  have h1 : (x - y) * (x * x + x * y + y * y + a) = 0 := by grind
  exact (Int.mul_eq_zero.1 h1).resolve_left (by omega)
theorem roots_sum {a b x y z : Int} (hx : evZ a b x = 0) (hy : evZ a b y = 0) (hz : evZ a b z = 0) (h1 : x ≠ y) (h2 : x ≠ z) (h3 : y ≠ z) : x + y + z = 0 := by
  have e1 := roots_pair hx hy h1
  have e2 := roots_pair hx hz h2
  have h : (y - z) * (x + y + z) = 0 := by grind
  exact (Int.mul_eq_zero.1 h).resolve_left (by omega)
/-- A cubic has at most three roots. -/
theorem roots_three (a b : Int) : (rootsV a b).length ≤ 3 := by
  rcases Nat.lt_or_ge 3 (rootsV a b).length with h | h
  · exfalso
    have hp := List.pairwise_iff_getElem.1 (roots_lt a b (-100) 201)
    have hv : ∀ k (hk : k < (rootsV a b).length), evZ a b (rootsV a b)[k] = 0 := fun k hk => root_ev (List.getElem_mem hk)
    have p01 := hp 0 1 (by show 0 < (rootsV a b).length; omega) (by show 1 < (rootsV a b).length; omega) (by omega)
    have p12 := hp 1 2 (by show 1 < (rootsV a b).length; omega) (by show 2 < (rootsV a b).length; omega) (by omega)
    have p23 := hp 2 3 (by show 2 < (rootsV a b).length; omega) (by show 3 < (rootsV a b).length; omega) (by omega)
    change (rootsV a b)[0] < (rootsV a b)[1] at p01
    change (rootsV a b)[1] < (rootsV a b)[2] at p12
    change (rootsV a b)[2] < (rootsV a b)[3] at p23
    have s1 := roots_sum (hv 0 (by omega)) (hv 1 (by omega)) (hv 2 (by omega)) (by omega) (by omega) (by omega)
    have s2 := roots_sum (hv 0 (by omega)) (hv 1 (by omega)) (hv 3 (by omega)) (by omega) (by omega) (by omega)
    omega
  · exact h
theorem zero_cuI (w : World) : (zeroValue 25).run Tryz.prog w = .ok (.agg #[.int .i64 0, .int .i64 0]) w := by
  obtain ⟨i0, hi, hz0, hz1, hz2⟩ := info_parts infoCuI
  simp [zeroValue, typeInfo, hi, hz0]
theorem cu_clear (w : World) {B g n cap : Nat} {xs : List Value} (i p m : Nat) (hp : p = i * 2) (hm : m = n - i) (h : w.ownsRow B 25 2 (.slice (some ⟨g, 0, none⟩) n cap) n xs) (hi : i ≤ n) :
    ∃ l, (∀ ty c, (Builtin.clear_ #[34] ty #[.slice (some ⟨g, p, none⟩) m c]).run Tryz.prog w = .ok (.tuple #[]) (w.setCells g p l)) ∧
      (w.setCells g p l).ownsRow B 25 2 (.slice (some ⟨g, 0, none⟩) i cap) i (xs.take p) ∧ Below B w (w.setCells g p l) := by
  subst hp; subst hm
  refine ⟨_, fun ty c => run_clear_row (P := Tryz.prog) (z := .agg #[.int .i64 0, .int .i64 0]) Tryz.underlying34 zero_cuI
    (zeroCells_one (by
      intro j hj
      match j, hj with
      | 0, _ => rfl
      | 1, _ => rfl) (by decide) _)
    (by intro m; simp [Builtin.zeroCells, Value.cells]) h hi ty c, ?_, ?_⟩
  · have hlay := own_lay (Builtin.zeroCells (Value.agg #[.int .i64 0, .int .i64 0]).cells (n - i)).toList w _ (i * 2) h
    have hcut := own_cut hlay.1 hi
    rw [lay_take _ _ _ _ (Nat.le_refl _)] at hcut
    exact hcut
  · have hlay := own_lay (Builtin.zeroCells (Value.agg #[.int .i64 0, .int .i64 0]).cells (n - i)).toList w _ (i * 2) h
    exact ⟨hlay.2.os, hlay.2.tape, hlay.2.output, hlay.2.size, fun k hk => hlay.2.block k (Nat.lt_of_lt_of_le hk (Nat.le_trans (own_base h).1 (Nat.le_of_lt (own_base h).2))) (fun e => by cases e; exact absurd (own_base h).1 (by omega))⟩
/-- Two stores into an own row. -/
theorem own_two {w : World} {B g n cap o : Nat} {xs : List Value} {u v : Value} (h : w.ownsRow B 25 2 (.slice (some ⟨g, 0, none⟩) n cap) n xs) :
    ((w.setCell ⟨g, o, none⟩ u).setCell ⟨g, o + 1, none⟩ v).ownsRow B 25 2 (.slice (some ⟨g, 0, none⟩) n cap) n ((xs.set o u).set (o + 1) v) ∧ Below B w ((w.setCell ⟨g, o, none⟩ u).setCell ⟨g, o + 1, none⟩ v) := by
  have h1 := h.stored o u
  have h2 := h1.1.stored (o + 1) v
  have hg := gthen2 h1.2 h2.2
  exact ⟨h2.1, hg.os, hg.tape, hg.output, hg.size, fun k hk => hg.block k (Nat.lt_of_lt_of_le hk (Nat.le_trans (own_base h).1 (Nat.le_of_lt (own_base h).2))) (fun e => by cases e; exact absurd (own_base h).1 (by omega))⟩
theorem Below.thenB {B : Nat} {w w1 w2 : World} (h : Below B w w1) (hB : B ≤ w.heap.size) (k : Below w1.heap.size w1 w2) : Below B w w2 := h.trans (k.mono (Nat.le_trans hB h.size))
theorem neqCuI (x y a b : Int) (W : World) : (binOp .neq 25 (.agg #[.int .i64 x, .int .i64 y]) (.agg #[.int .i64 a, .int .i64 b])).run Tryz.prog W = .ok (.bool (!(x == a && y == b))) W := by
  by_cases h1 : x = a <;> by_cases h2 : y = b <;> simp [go_sem, h1, h2]
set_option maxRecDepth 8000 in
set_option maxHeartbeats 8000000 in
theorem compact2 (B g c : Nat) (x y : Cu) (w : World) (ho : w.ownsRow B 25 2 (.slice (some ⟨g, 0, none⟩) 2 c) 2 (cuS.flat [x, y])) (hcc : 2 ≤ c) (hcm : c ≤ maxLen) :
    Calls Tryz.prog 111 #[.slice (some ⟨g, 0, none⟩) 2 c] w fun e w' => (∃ v' : Value, e = .returned v' ∧ w'.ownsRow B 25 2 v' (cptC [x, y]).length (cuS.flat (cptC [x, y]))) ∧ Below B w w' := by
  have hql := eqlCuI
  have hqn := neqCuI
  unfold maxLen at hcm
  have hcap : 2 ≤ c := hcc
  have HcB := Lib.hid (own_base ho)
  have Ho := Lib.hid ho; clear ho
  go_enter Tryz.func111, Tryz.ntmps111
  go_wp2
  go_loopw [3] (fun i wr => ∃ k : Nat, (k = 1 ∨ k = 2 ∧ y ≠ x) ∧ i = .int .i64 k ∧ Hid (wr.ownsRow B 25 2 (.slice (some ⟨g, 0, none⟩) 2 c) 2 (cuS.flat [x, y])) ∧ Hid (Below B w wr)) (fun i _ => 4 - (intOf i).toNat)
  case atStart => exact ⟨1, .inl rfl, rfl, Ho, Lib.hid (Below.refl _ _)⟩
  case round =>
    obtain ⟨k, hk, rfl, Hown, Hb⟩ := hrel
    rcases hk with rfl | ⟨rfl, n1⟩
    · have f0 := Hown.out.cellAt 0 (by omega)
      have f1 := Hown.out.cellAt 1 (by omega)
      have f2 := Hown.out.cellAt 2 (by omega)
      have f3 := Hown.out.cellAt 3 (by omega)
      simp [Shape.flat, Shape.cells, cuS, List.range_succ] at f0 f1 f2 f3
      have hgr := (own_base Hown.out).2
      by_cases he : y = x
      · have hd : (y.a == x.a && y.b == x.b) = true := by rw [cu_eq]; exact decide_eq_true he
        have Hey := Lib.hid he; clear he
        go_wp2
        refine wp_region_tame (by kernel_rfl) (by kernel_rfl) (fun T _ W hT => ?_)
        have hxx := hT.cell
        repeat (go_big_quiet_step (fail))
        refine wpQuiet_nil ?_
        intro t
        clear hxx
        have Hown2 := Lib.hid (own_below Hown.out (hT.below t))
        have Hb2 := Lib.hid (Below.thenB Hb.out (Nat.le_trans HcB.out.1 (Nat.le_of_lt HcB.out.2)) (hT.below t))
        clear f0 f1 f2 f3 hgr hd
        generalize W t = wt at Hown2 Hb2 ⊢
        clear hT
        obtain ⟨lc, hcl, hcown, hcb⟩ := cu_clear wt 1 2 1 rfl rfl Hown2.out (by omega)
        have Hfin := Lib.hid (show cptC [x, y] = [x] by have he := Hey.out; subst he; simp [cptC])
        have Hco := Lib.hid (show (wt.setCells g 2 lc).ownsRow B 25 2 (.slice (some ⟨g, 0, none⟩) 1 c) 1 (cuS.flat [x]) from hcown)
        have Hcb := Lib.hid (Hb2.out.trans hcb)
        clear hcown hcb
        go_wp2
        refine wp_loop_rounds 1 ?_
        rw [rounds_succ]
        go_wp2
        go_ret
        exact ⟨⟨_, rfl, by rw [Hfin.out]; exact Hco.out⟩, Hcb.out⟩
      · have hd : (y.a == x.a && y.b == x.b) = false := by rw [cu_eq]; exact decide_eq_false he
        have Hne := Lib.hid he; clear he
        go_wp2
        refine wp_region_tame (by kernel_rfl) (by kernel_rfl) (fun T _ W hT => ?_)
        have hxx := hT.cell
        repeat (go_big_quiet_step (fail))
        refine wpQuiet_nil ?_
        intro t
        clear hxx
        go_wp2
        go_roundw
        case rel => exact ⟨2, .inr (⟨rfl, Hne.out⟩), by go_num, Lib.hid (own_below Hown.out (hT.below t)), Lib.hid (Below.thenB Hb.out (Nat.le_trans HcB.out.1 (Nat.le_of_lt HcB.out.2)) (hT.below t))⟩
        case measure => simp [intOf]
    · have Hfin := Lib.hid (show cptC [x, y] = [x, y] by simp [cptC, Ne.symm n1])
      go_wp2
      go_ret
      exact ⟨⟨_, rfl, by rw [Hfin.out]; exact Hown.out⟩, Hb.out⟩
set_option maxRecDepth 8000 in
set_option maxHeartbeats 8000000 in
theorem compact3 (B g c : Nat) (x y z : Cu) (w : World) (ho : w.ownsRow B 25 2 (.slice (some ⟨g, 0, none⟩) 3 c) 3 (cuS.flat [x, y, z])) (hcc : 3 ≤ c) (hcm : c ≤ maxLen) :
    Calls Tryz.prog 111 #[.slice (some ⟨g, 0, none⟩) 3 c] w fun e w' => (∃ v' : Value, e = .returned v' ∧ w'.ownsRow B 25 2 v' (cptC [x, y, z]).length (cuS.flat (cptC [x, y, z]))) ∧ Below B w w' := by
  have hql := eqlCuI
  have hqn := neqCuI
  unfold maxLen at hcm
  have hcap : 3 ≤ c := hcc
  have HcB := Lib.hid (own_base ho)
  have Ho := Lib.hid ho; clear ho
  go_enter Tryz.func111, Tryz.ntmps111
  go_wp2
  go_loopw [3] (fun i wr => ∃ k : Nat, (k = 1 ∨ k = 2 ∧ y ≠ x ∨ k = 3 ∧ y ≠ x ∧ z ≠ y) ∧ i = .int .i64 k ∧ Hid (wr.ownsRow B 25 2 (.slice (some ⟨g, 0, none⟩) 3 c) 3 (cuS.flat [x, y, z])) ∧ Hid (Below B w wr)) (fun i _ => 4 - (intOf i).toNat)
  case atStart => exact ⟨1, .inl rfl, rfl, Ho, Lib.hid (Below.refl _ _)⟩
  case round =>
    obtain ⟨k, hk, rfl, Hown, Hb⟩ := hrel
    rcases hk with rfl | ⟨rfl, n1⟩ | ⟨rfl, n1, n2⟩
    · have f0 := Hown.out.cellAt 0 (by omega)
      have f1 := Hown.out.cellAt 1 (by omega)
      have f2 := Hown.out.cellAt 2 (by omega)
      have f3 := Hown.out.cellAt 3 (by omega)
      have f4 := Hown.out.cellAt 4 (by omega)
      have f5 := Hown.out.cellAt 5 (by omega)
      simp [Shape.flat, Shape.cells, cuS, List.range_succ] at f0 f1 f2 f3 f4 f5
      have hgr := (own_base Hown.out).2
      by_cases he : y = x
      · have hd : (y.a == x.a && y.b == x.b) = true := by rw [cu_eq]; exact decide_eq_true he
        have Hey := Lib.hid he; clear he
        go_wp2
        refine wp_region_tame (by kernel_rfl) (by kernel_rfl) (fun T _ W hT => ?_)
        have hxx := hT.cell
        repeat (go_big_quiet_step (fail))
        refine wpQuiet_nil ?_
        intro t
        clear hxx
        have Hown2 := Lib.hid (own_below Hown.out (hT.below t))
        have Hb2 := Lib.hid (Below.thenB Hb.out (Nat.le_trans HcB.out.1 (Nat.le_of_lt HcB.out.2)) (hT.below t))
        clear f0 f1 f2 f3 f4 f5 hgr hd
        generalize W t = wt at Hown2 Hb2 ⊢
        clear hT
        have hoff : ∃ j : Nat, j = 1 := ⟨1, rfl⟩
        go_wp2
        go_loopw [5, 3] (fun i2 i wi => ∃ k2 k : Nat, i2 = .int .i64 k2 ∧ i = .int .i64 k ∧ ((k2 = 1 ∧ k = 1 ∧ Hid (wi.ownsRow B 25 2 (.slice (some ⟨g, 0, none⟩) 3 c) 3 (cuS.flat [x, y, z]))) ∨ (k2 = 2 ∧ k = 1 ∧ Hid (z = y) ∧ Hid (wi.ownsRow B 25 2 (.slice (some ⟨g, 0, none⟩) 3 c) 3 (cuS.flat [x, y, z]))) ∨ (k2 = 2 ∧ k = 2 ∧ Hid (z ≠ y) ∧ Hid (wi.ownsRow B 25 2 (.slice (some ⟨g, 0, none⟩) 3 c) 3 (cuS.flat [x, z, z])))) ∧ Hid (Below B w wi)) (fun i2 _ _ => 4 - (intOf i2).toNat)
        case atStart => exact ⟨1, 1, rfl, rfl, .inl ⟨rfl, rfl, Hown2⟩, Hb2⟩
        case round =>
          obtain ⟨k2, k, rfl, rfl, hk2, Hbi⟩ := hrel
          rcases hk2 with ⟨rfl, rfl, Hoi⟩ | ⟨rfl, rfl, Hzy, Hoi⟩ | ⟨rfl, rfl, Hzy, Hoi⟩
          · have f0 := Hoi.out.cellAt 0 (by omega)
            have f1 := Hoi.out.cellAt 1 (by omega)
            have f2 := Hoi.out.cellAt 2 (by omega)
            have f3 := Hoi.out.cellAt 3 (by omega)
            have f4 := Hoi.out.cellAt 4 (by omega)
            have f5 := Hoi.out.cellAt 5 (by omega)
            simp [Shape.flat, Shape.cells, cuS, List.range_succ] at f0 f1 f2 f3 f4 f5
            have hgr := (own_base Hoi.out).2
            have z0 := Hoi.out.frozenAt 2
            have z1 := Hoi.out.frozenAt 3
            by_cases hz : z = y
            · have hd : (z.a == y.a && z.b == y.b) = true := by rw [cu_eq]; exact decide_eq_true hz
              have Hz := Lib.hid hz; clear hz
              go_wp2
              refine wp_region_tame (by kernel_rfl) (by kernel_rfl) (fun T _ W hT => ?_)
              have hxx := hT.cell
              repeat (go_big_quiet_step (fail))
              refine wpQuiet_nil ?_
              intro t
              clear hxx
              go_wp2
              go_roundw
              case rel => exact ⟨2, 1, by go_num, by go_num, .inr (.inl ⟨rfl, rfl, Hz, Lib.hid (own_below Hoi.out (hT.below t))⟩), Lib.hid (Below.thenB Hbi.out (Nat.le_trans HcB.out.1 (Nat.le_of_lt HcB.out.2)) (hT.below t))⟩
              case measure => simp [intOf]
            · have hd : (z.a == y.a && z.b == y.b) = false := by rw [cu_eq]; exact decide_eq_false hz
              have Hz := Lib.hid hz; clear hz
              go_wp2
              refine wp_region_tame (by kernel_rfl) (by kernel_rfl) (fun T _ W hT => ?_)
              have hxx := hT.cell
              repeat (go_big_quiet_step (fail))
              refine wpQuiet_nil ?_
              intro t
              clear hxx
              have Hoi2 := Lib.hid (own_below Hoi.out (hT.below t))
              have Hbi2 := Lib.hid (Below.thenB Hbi.out (Nat.le_trans HcB.out.1 (Nat.le_of_lt HcB.out.2)) (hT.below t))
              clear f0 f1 f2 f3 f4 f5 hgr z0 z1
              generalize W t = wu at Hoi2 Hbi2 ⊢
              clear hT
              have f0 := Hoi2.out.cellAt 0 (by omega)
              have f1 := Hoi2.out.cellAt 1 (by omega)
              have f2 := Hoi2.out.cellAt 2 (by omega)
              have f3 := Hoi2.out.cellAt 3 (by omega)
              have f4 := Hoi2.out.cellAt 4 (by omega)
              have f5 := Hoi2.out.cellAt 5 (by omega)
              simp [Shape.flat, Shape.cells, cuS, List.range_succ] at f0 f1 f2 f3 f4 f5
              have hgr := (own_base Hoi2.out).2
              have z0 := Hoi2.out.frozenAt 2
              have z1 := Hoi2.out.frozenAt 3
              have H2 := Lib.hid (own_two (o := 2) (u := .int .i64 z.a) (v := .int .i64 z.b) Hoi2.out)
              go_wp2
              go_roundw
              case rel => exact ⟨2, 2, by go_num, by go_num, .inr (.inr ⟨rfl, rfl, Hz, Lib.hid H2.out.1⟩), Lib.hid (Hbi2.out.trans H2.out.2)⟩
              case measure => simp [intOf]
          · obtain ⟨lc, hcl, hcown, hcb⟩ := cu_clear wr 1 2 2 rfl rfl Hoi.out (by omega)
            have Hfin := Lib.hid (show cptC [x, y, z] = [x] by have he := Hey.out; have hzy := Hzy.out; subst he; subst hzy; simp [cptC])
            have Hco := Lib.hid (show (wr.setCells g 2 lc).ownsRow B 25 2 (.slice (some ⟨g, 0, none⟩) 1 c) 1 (cuS.flat [x]) from hcown)
            have Hcb := Lib.hid (Hbi.out.trans hcb)
            clear hcown hcb
            go_wp2
            go_ret
            exact ⟨⟨_, rfl, by rw [Hfin.out]; exact Hco.out⟩, Hcb.out⟩
          · obtain ⟨lc, hcl, hcown, hcb⟩ := cu_clear wr 2 4 1 rfl rfl Hoi.out (by omega)
            have Hfin := Lib.hid (show cptC [x, y, z] = [x, z] by have he := Hey.out; have hzy := Hzy.out; subst he; simp [cptC, Ne.symm hzy])
            have Hco := Lib.hid (show (wr.setCells g 4 lc).ownsRow B 25 2 (.slice (some ⟨g, 0, none⟩) 2 c) 2 (cuS.flat [x, z]) from hcown)
            have Hcb := Lib.hid (Hbi.out.trans hcb)
            clear hcown hcb
            go_wp2
            go_ret
            exact ⟨⟨_, rfl, by rw [Hfin.out]; exact Hco.out⟩, Hcb.out⟩
      · have hd : (y.a == x.a && y.b == x.b) = false := by rw [cu_eq]; exact decide_eq_false he
        have Hne := Lib.hid he; clear he
        go_wp2
        refine wp_region_tame (by kernel_rfl) (by kernel_rfl) (fun T _ W hT => ?_)
        have hxx := hT.cell
        repeat (go_big_quiet_step (fail))
        refine wpQuiet_nil ?_
        intro t
        clear hxx
        go_wp2
        go_roundw
        case rel => exact ⟨2, .inr (.inl ⟨rfl, Hne.out⟩), by go_num, Lib.hid (own_below Hown.out (hT.below t)), Lib.hid (Below.thenB Hb.out (Nat.le_trans HcB.out.1 (Nat.le_of_lt HcB.out.2)) (hT.below t))⟩
        case measure => simp [intOf]
    · have f0 := Hown.out.cellAt 0 (by omega)
      have f1 := Hown.out.cellAt 1 (by omega)
      have f2 := Hown.out.cellAt 2 (by omega)
      have f3 := Hown.out.cellAt 3 (by omega)
      have f4 := Hown.out.cellAt 4 (by omega)
      have f5 := Hown.out.cellAt 5 (by omega)
      simp [Shape.flat, Shape.cells, cuS, List.range_succ] at f0 f1 f2 f3 f4 f5
      have hgr := (own_base Hown.out).2
      by_cases he : z = y
      · have hd : (z.a == y.a && z.b == y.b) = true := by rw [cu_eq]; exact decide_eq_true he
        have Hey := Lib.hid he; clear he
        go_wp2
        refine wp_region_tame (by kernel_rfl) (by kernel_rfl) (fun T _ W hT => ?_)
        have hxx := hT.cell
        repeat (go_big_quiet_step (fail))
        refine wpQuiet_nil ?_
        intro t
        clear hxx
        have Hown2 := Lib.hid (own_below Hown.out (hT.below t))
        have Hb2 := Lib.hid (Below.thenB Hb.out (Nat.le_trans HcB.out.1 (Nat.le_of_lt HcB.out.2)) (hT.below t))
        clear f0 f1 f2 f3 f4 f5 hgr hd
        generalize W t = wt at Hown2 Hb2 ⊢
        clear hT
        obtain ⟨lc, hcl, hcown, hcb⟩ := cu_clear wt 2 4 1 rfl rfl Hown2.out (by omega)
        have Hfin := Lib.hid (show cptC [x, y, z] = [x, y] by have he := Hey.out; subst he; simp [cptC, Ne.symm n1])
        have Hco := Lib.hid (show (wt.setCells g 4 lc).ownsRow B 25 2 (.slice (some ⟨g, 0, none⟩) 2 c) 2 (cuS.flat [x, y]) from hcown)
        have Hcb := Lib.hid (Hb2.out.trans hcb)
        clear hcown hcb
        go_wp2
        refine wp_loop_rounds 1 ?_
        rw [rounds_succ]
        go_wp2
        go_ret
        exact ⟨⟨_, rfl, by rw [Hfin.out]; exact Hco.out⟩, Hcb.out⟩
      · have hd : (z.a == y.a && z.b == y.b) = false := by rw [cu_eq]; exact decide_eq_false he
        have Hne := Lib.hid he; clear he
        go_wp2
        refine wp_region_tame (by kernel_rfl) (by kernel_rfl) (fun T _ W hT => ?_)
        have hxx := hT.cell
        repeat (go_big_quiet_step (fail))
        refine wpQuiet_nil ?_
        intro t
        clear hxx
        go_wp2
        go_roundw
        case rel => exact ⟨3, .inr (.inr (⟨rfl, n1, Hne.out⟩)), by go_num, Lib.hid (own_below Hown.out (hT.below t)), Lib.hid (Below.thenB Hb.out (Nat.le_trans HcB.out.1 (Nat.le_of_lt HcB.out.2)) (hT.below t))⟩
        case measure => simp [intOf]
    · have Hfin := Lib.hid (show cptC [x, y, z] = [x, y, z] by simp [cptC, Ne.symm n1, Ne.symm n2])
      go_wp2
      go_ret
      exact ⟨⟨_, rfl, by rw [Hfin.out]; exact Hown.out⟩, Hb.out⟩
end
section
open Go Go.RowKit

theorem own_formI {w : World} {b : Nat} {t : TypeId} {z : Nat} {v : Value} {n : Nat} {xs : List Value} (h : w.ownsRow b t z v n xs) : ∃ A c, v = .slice A n c := by
  rcases h.2 with ⟨h', h0⟩ | ⟨g', cap', cur, h', _⟩
  · exact ⟨none, 0, by rw [h', h0]⟩
  · exact ⟨_, _, h'⟩
/-- The k-th cell of an own row of ints. -/
theorem own_intI {w : World} {b : Nat} {t : TypeId} {A : Option Addr} {n c : Nat} {xs : List Int} (h : w.ownsRow b t 1 (.slice A n c) n (xs.map (Value.int .i64))) (hn : n = xs.length) (k : Nat) (hk : k < n) :
    ∃ g, A = some ⟨g, 0, none⟩ ∧ g < w.heap.size ∧ w.cell? ⟨g, k, none⟩ = some (.int .i64 (xs[k]'(hn ▸ hk))) := by
  rcases h.2 with ⟨h', h0⟩ | ⟨g, cap, cur, h', h1, h2, h3, h4, h5, h6⟩
  · omega
  · cases h'
    refine ⟨g, rfl, (Array.getElem?_eq_some_iff.1 h2).1, ?_⟩
    have hcell := h.cellAt k (by omega)
    rw [hcell, List.getElem?_map, List.getElem?_eq_getElem (hn ▸ hk)]
    rfl
set_option maxRecDepth 8000 in
set_option maxHeartbeats 8000000 in
theorem icAll_any (a b : Int) (w : World) (hc : curveB a b = true) :
    Calls Tryz.prog 54 #[.agg #[.int .i64 a, .int .i64 b]] w fun r w' => (∃ v : Value, r = .returned (.tuple #[v, .bool (allV a b).2]) ∧ w'.ownsRow w.heap.size 25 2 v (allV a b).1.length (cuS.flat (allV a b).1)) ∧ Below w.heap.size w w' := by
  have Hc := Lib.hid hc; clear hc
  have HbA := Lib.hid (show Below w.heap.size w (w.alloc (Obj.cells #[.int .i64 a, .int .i64 b] 25)) from bal (Below.refl _ _) _)
  have HB := Lib.hid (Blk.new w 25 #[.int .i64 a, .int .i64 b])
  go_enter Tryz.func54, Tryz.ntmps54
  go_wp2_with fail
  refine (ecRoots_any a b _ Hc.out).mono ?_
  rintro e W ⟨⟨v, rfl, hrow⟩, hb1⟩
  have HbW := Lib.hid (bthen HbA.out hb1)
  have HBW := Lib.hid (HB.out.on hb1)
  clear hb1
  have Hyes := Lib.hid (fun l h => allV_yes (a := a) (b := b) (l := l) h)
  have Hno := Lib.hid (fun h => allV_no (a := a) (b := b) h)
  have Hbd := Lib.hid (fun e (he : e ∈ rootsV a b) => root_bd he)
  have Hev := Lib.hid (fun e (he : e ∈ rootsV a b) => root_ev he)
  have hrl : (rootsV a b).length ≤ 201 := rootsF_len a b (-100) 201
  generalize rootsV a b = rs at hrow Hyes Hno Hbd Hev hrl
  obtain ⟨A, c, rfl⟩ := own_formI hrow
  have Hrow := Lib.hid hrow; clear hrow
  go_wp2
  go_loopw [12, 4] (fun i o wr => ∃ (k : Nat) (l : List Cu), k ≤ rs.length ∧ i = .int .i64 k ∧ Hid (nbsF a b (rs.take k) = some l) ∧ Hid (wr.ownsRow W.heap.size 25 2 o (setC l).length (cuS.flat (setC l))) ∧ Hid (Below W.heap.size W wr)) (fun i _ _ => rs.length - (intOf i).toNat)
  case atStart => exact ⟨0, [], Nat.zero_le _, rfl, Lib.hid rfl, Lib.hid ⟨rfl, Or.inl ⟨rfl, rfl⟩⟩, Lib.hid (Below.refl _ _)⟩
  case round =>
    obtain ⟨k, l, hk, rfl, Hl, Hown, Hb⟩ := hrel
    have HBr := Lib.hid (HBW.out.on Hb.out)
    have q0 : wr.cell? ⟨w.heap.size, 0, none⟩ = some (.int .i64 a) := HBr.out.cell 0
    have q1 : wr.cell? ⟨w.heap.size, 1, none⟩ = some (.int .i64 b) := HBr.out.cell 1
    have ql := HBr.out.lt
    by_cases hlt : k < rs.length
    · obtain ⟨g, rfl, hg, f0⟩ := own_intI Hrow.out rfl k hlt
      rw [← Hb.out.cell (p := ⟨_, _, _⟩) hg] at f0
      have hgr : g < wr.heap.size := Nat.lt_of_lt_of_le hg Hb.out.size
      have hi0 : (0 : Int) ≤ (k : Int) := by omega
      have hi1 : (k : Int) < (rs.length : Int) := by omega
      have Htk := Lib.hid (nbsF_take (a := a) (b := b) hlt)
      have Hbad := Lib.hid (nbsF_no (a := a) (b := b) hlt)
      have Hb1 := Lib.hid (Hbd.out _ (List.getElem_mem hlt))
      have He1 := Lib.hid (Hev.out _ (List.getElem_mem hlt))
      generalize rs[k] = e at f0 Htk Hbad Hb1 He1
      go_wp2_with fail
      refine (nbS_any a b e _ Hc.out He1.out Hb1.out).mono ?_
      rintro r w3 ⟨hr, hb3⟩
      have Hb3 := Lib.hid (bthen Hb.out hb3)
      have Hown3 := Lib.hid (own_below Hown.out hb3)
      have HB3 := Lib.hid (HBr.out.on hb3)
      clear hb3 q0 q1 ql f0 hgr
      cases hn : nbV a b e with
      | none =>
        rw [hn] at hr
        have hr2 : r = .returned (.tuple #[.agg #[.int .i64 0, .int .i64 0], .bool false]) := hr
        subst hr2
        have Hfin := Lib.hid (Hno.out (Hbad.out hn))
        clear hr hn
        go_wp2
        go_ret2
        exact ⟨⟨_, by rw [Hfin.out]; rfl, by rw [Hfin.out]; exact ⟨rfl, Or.inl ⟨rfl, rfl⟩⟩⟩, bthen HbW.out (bal Hb3.out _)⟩
      | some d =>
        rw [hn] at hr
        have hr2 : r = .returned (.tuple #[.agg #[.int .i64 d.a, .int .i64 d.b], .bool true]) := hr
        subst hr2
        have Hn := Lib.hid (show nbsF a b (rs.take (k + 1)) = some (l ++ [d]) by rw [Htk.out, Hl.out, hn])
        have hll : (setC l).length ≤ 1000 := by
          have h1 := setC_len l
          have h2 := nbsF_len Hl.out
          rw [List.length_take] at h2
          omega
        clear hr hn
        have Hb4 := Lib.hid (bal Hb3.out (Obj.cells #[.int .i64 d.a, .int .i64 d.b] 25))
        have Hown4 := Lib.hid (own_below Hown3.out (bal (Below.refl _ _) (Obj.cells #[.int .i64 d.a, .int .i64 d.b] 25)))
        go_wp2_with fail
        refine (icPut_any W.heap.size _ (setC l) d _ Hown4.out Hb4.out.size hll).mono ?_
        rintro r w5 ⟨⟨v5, rfl, hown5⟩, hb5⟩
        have Hb5 := Lib.hid (bthen Hb4.out hb5)
        have Hown5 := Lib.hid (show w5.ownsRow W.heap.size 25 2 v5 (setC (l ++ [d])).length (cuS.flat (setC (l ++ [d]))) by rw [setC_snoc]; exact hown5)
        clear hb5 hown5
        go_wp2
        go_roundw
        case rel => exact ⟨k + 1, l ++ [d], by omega, by go_num, Hn, Hown5, Hb5⟩
        case measure => simp [intOf]; omega
    · obtain rfl : k = rs.length := by omega
      have Hfin := Lib.hid (Hyes.out l (by have := Hl.out; rwa [List.take_length] at this))
      go_wp2
      go_ret2
      exact ⟨⟨_, by rw [Hfin.out]; rfl, by rw [Hfin.out]; exact own_mono Hown.out HbW.out.size⟩, bthen HbW.out Hb.out⟩
end
section
open Go Go.RowKit

set_option maxHeartbeats 800000 in
theorem compact_one (v : Value) (n c : Nat) (A : Option Addr) (w : World) (hv : v = .slice A n c) (hn : n < 2) : Calls Tryz.prog 111 #[v] w fun e w' => e = .returned v ∧ w' = w := by
  subst hv
  have hd : decide ((n : Int) < 2) = true := decide_eq_true (by omega)
  go_enter Tryz.func111, Tryz.ntmps111
  go_wp2
  go_ret
  exact ⟨rfl, rfl⟩
theorem compactCu_any (B : Nat) (v : Value) (xs : List Cu) (w : World) (ho : w.ownsRow B 25 2 v xs.length (cuS.flat xs)) (h3 : xs.length ≤ 3) :
    Calls Tryz.prog 111 #[v] w fun e w' => (∃ v' : Value, e = .returned v' ∧ w'.ownsRow B 25 2 v' (cptC xs).length (cuS.flat (cptC xs))) ∧ Below B w w' := by
  obtain ⟨A, c, rfl⟩ := own_formI ho
  match xs, h3, ho with
  | [], _, ho => exact (compact_one _ 0 c A w rfl (by omega)).mono (fun e w' ⟨he, hw⟩ => by subst hw; exact ⟨⟨_, he, ho⟩, Below.refl _ _⟩)
  | [x], _, ho => exact (compact_one _ 1 c A w rfl (by omega)).mono (fun e w' ⟨he, hw⟩ => by subst hw; exact ⟨⟨_, he, ho⟩, Below.refl _ _⟩)
  | [x, y], _, ho =>
    rcases ho.2 with ⟨_, h0⟩ | ⟨g, cap, cur, hv, h1, h2, h3, h4, h5, h6⟩
    · simp at h0
    · cases hv
      exact compact2 B g _ x y w ho h3 h4
  | [x, y, z], _, ho =>
    rcases ho.2 with ⟨_, h0⟩ | ⟨g, cap, cur, hv, h1, h2, h3, h4, h5, h6⟩
    · simp at h0
    · cases hv
      exact compact3 B g _ x y z w ho h3 h4
theorem flat_one (d : Cu) : cuS.flat [d] = [.int .i64 d.a, .int .i64 d.b] := rfl
set_option maxRecDepth 8000 in
set_option maxHeartbeats 8000000 in
theorem twoNb_any (a b : Int) (w : World) (hc : curveB a b = true) :
    Calls Tryz.prog 53 #[.agg #[.int .i64 a, .int .i64 b]] w fun r w' => (∃ v : Value, r = .returned (.tuple #[v, .bool (allV a b).2]) ∧ w'.ownsRow w.heap.size 25 2 v (allV a b).1.length (cuS.flat (allV a b).1)) ∧ Below w.heap.size w w' := by
  obtain ⟨i0, hi, hz0, hz1, hz2⟩ := info_parts infoCuI
  have Hc := Lib.hid hc; clear hc
  have HbA := Lib.hid (show Below w.heap.size w (w.alloc (Obj.cells #[.int .i64 a, .int .i64 b] 25)) from bal (Below.refl _ _) _)
  have HB := Lib.hid (Blk.new w 25 #[.int .i64 a, .int .i64 b])
  go_enter Tryz.func53, Tryz.ntmps53
  go_wp2_with fail
  refine (orderTwo_any a b _ Hc.out).mono ?_
  rintro e W ⟨⟨v, rfl, hrow⟩, hb1⟩
  have HbW := Lib.hid (bthen HbA.out hb1)
  have HBW := Lib.hid (HB.out.on hb1)
  clear hb1
  have Hyes := Lib.hid (fun l h => allV_yes (a := a) (b := b) (l := l) h)
  have Hno := Lib.hid (fun h => allV_no (a := a) (b := b) h)
  have Hbd := Lib.hid (fun e (he : e ∈ rootsV a b) => root_bd he)
  have Hev := Lib.hid (fun e (he : e ∈ rootsV a b) => root_ev he)
  have hrl := roots_three a b
  generalize rootsV a b = rs at hrow Hyes Hno Hbd Hev hrl
  obtain ⟨A, c, rfl⟩ := own_formI hrow
  have Hrow := Lib.hid hrow; clear hrow
  go_wp2
  go_loopw [18, 6] (fun i o wr => ∃ (k : Nat) (l : List Cu), k ≤ rs.length ∧ i = .int .i64 k ∧ Hid (nbsF a b (rs.take k) = some l) ∧ Hid (wr.ownsRow W.heap.size 25 2 o l.length (cuS.flat l)) ∧ Hid (Below W.heap.size W wr)) (fun i _ _ => rs.length - (intOf i).toNat)
  case atStart => exact ⟨0, [], Nat.zero_le _, rfl, Lib.hid rfl, Lib.hid ⟨rfl, Or.inl ⟨rfl, rfl⟩⟩, Lib.hid (Below.refl _ _)⟩
  case round =>
    obtain ⟨k, l, hk, rfl, Hl, Hown, Hb⟩ := hrel
    have HBr := Lib.hid (HBW.out.on Hb.out)
    have q0 : wr.cell? ⟨w.heap.size, 0, none⟩ = some (.int .i64 a) := HBr.out.cell 0
    have q1 : wr.cell? ⟨w.heap.size, 1, none⟩ = some (.int .i64 b) := HBr.out.cell 1
    have ql := HBr.out.lt
    have hll : l.length = k := by
      have h2 := nbsF_len Hl.out
      rw [List.length_take] at h2
      omega
    have Hll := Lib.hid hll; clear hll
    by_cases hlt : k < rs.length
    · obtain ⟨g, rfl, hg, f0⟩ := own_intI Hrow.out rfl k hlt
      rw [← Hb.out.cell (p := ⟨_, _, _⟩) hg] at f0
      have hgr : g < wr.heap.size := Nat.lt_of_lt_of_le hg Hb.out.size
      have hi0 : (0 : Int) ≤ (k : Int) := by omega
      have hi1 : (k : Int) < (rs.length : Int) := by omega
      have Htk := Lib.hid (nbsF_take (a := a) (b := b) hlt)
      have Hbad := Lib.hid (nbsF_no (a := a) (b := b) hlt)
      have Hb1 := Lib.hid (Hbd.out _ (List.getElem_mem hlt))
      have He1 := Lib.hid (Hev.out _ (List.getElem_mem hlt))
      generalize rs[k] = e at f0 Htk Hbad Hb1 He1
      go_wp2_with fail
      refine (nbI_any a b e _ Hc.out He1.out Hb1.out).mono ?_
      rintro r w3 ⟨hr, hb3⟩
      have Hb3 := Lib.hid (bthen Hb.out hb3)
      have Hown3 := Lib.hid (own_below Hown.out hb3)
      have HB3 := Lib.hid (HBr.out.on hb3)
      clear hb3 q0 q1 ql f0 hgr
      cases hn : nbV a b e with
      | none =>
        rw [hn] at hr
        have hr2 : r = .returned (.tuple #[.agg #[.int .i64 0, .int .i64 0], .bool false]) := hr
        subst hr2
        have Hfin := Lib.hid (Hno.out (Hbad.out hn))
        clear hr hn
        go_wp2
        go_ret2
        exact ⟨⟨_, by rw [Hfin.out]; rfl, by rw [Hfin.out]; exact ⟨rfl, Or.inl ⟨rfl, rfl⟩⟩⟩, bthen HbW.out (bal Hb3.out _)⟩
      | some d =>
        rw [hn] at hr
        have hr2 : r = .returned (.tuple #[.agg #[.int .i64 d.a, .int .i64 d.b], .bool true]) := hr
        subst hr2
        have Hn := Lib.hid (show nbsF a b (rs.take (k + 1)) = some (l ++ [d]) by rw [Htk.out, Hl.out, hn])
        clear hr hn
        have Hb4 := Lib.hid (bal (bal Hb3.out (Obj.cells #[.int .i64 d.a, .int .i64 d.b] 25)) (Obj.cells #[.int .i64 d.a, .int .i64 d.b] 25))
        have hl3 : l.length ≤ 3 := by have := Hll.out; omega
        go_wp2_with (at_builtin; refine wpList_append_own _ rfl _ _ 34 rfl W.heap.size 25 i0 (.agg #[.int .i64 0, .int .i64 0]) 2 16 Tryz.underlying34 hi hz0 hz1 hz2 rfl (by decide) _ _ _ rfl ((Hown3.out.alloc _).alloc _) ⟨w3.heap.size + 1, 0, none⟩ 1 1 (cuS.flat [d]) rfl rfl ?c1 (cui_one _) ?c3 ?c4 ?c5 ?_)
        case c1 => exact oneCuI_cells (Blk.new1 _ _ _ _)
        case c3 => unfold maxLen; omega
        case c4 => omega
        case c5 => have := Hb3.out.size; simp; omega
        intro v6 w6 hown6 hgrow _
        have Hb6 := Lib.hid (Below.grown Hb4.out hgrow (by have := Hb3.out.size; simp; omega) (fun j hj => (Hown3.out.lt j hj).1))
        have Hown6 := Lib.hid (show w6.ownsRow W.heap.size 25 2 v6 (l ++ [d]).length (cuS.flat (l ++ [d])) by rw [List.length_append, Shape.flat_append]; exact hown6)
        clear hown6 hgrow
        go_wp2
        go_roundw
        case rel => exact ⟨k + 1, l ++ [d], by omega, by go_num, Hn, Hown6, Hb6⟩
        case measure => simp [intOf]; omega
    · obtain rfl : k = rs.length := by omega
      have Hfin := Lib.hid (Hyes.out l (by have := Hl.out; rwa [List.take_length] at this))
      have hl3 : l.length ≤ 3 := by have := Hll.out; omega
      clear q0 q1 ql
      obtain ⟨A9, c9, hv9⟩ := own_formI Hown.out
      subst hv9
      go_wp2_with fail
      refine (sortCu_any W.heap.size _ l _ Hown.out (by omega)).mono ?_
      rintro e w5 ⟨rfl, d, hperm, hsrt, hown5, hb5⟩
      have hd3 : d.length ≤ 3 := by rw [hperm.length_eq]; exact hl3
      have Hset := Lib.hid (show cptC d = setC l from cpt_set hperm (List.pairwise_iff_getElem.2 (fun i j hi hj hij h => hsrt i j hij hj (by rw [getCu hi, getCu hj]; exact h))))
      have Hb5 := Lib.hid (Hb.out.trans hb5)
      have Hown5 := Lib.hid hown5; clear hown5 hb5 hsrt hperm hl3
      go_wp2_with fail
      refine (compactCu_any W.heap.size _ d _ Hown5.out hd3).mono ?_
      rintro e w6 ⟨⟨v6, rfl, hown6⟩, hb6⟩
      have Hb6 := Lib.hid (Hb5.out.trans hb6)
      rw [Hset.out] at hown6
      have Hown6 := Lib.hid hown6; clear hown6 hb6
      go_wp2
      go_ret2
      exact ⟨⟨_, by rw [Hfin.out]; rfl, by rw [Hfin.out]; exact own_mono Hown6.out HbW.out.size⟩, bthen HbW.out Hb6.out⟩
end
end Go.Proofs.YtacehhcpfollnaaGreat
