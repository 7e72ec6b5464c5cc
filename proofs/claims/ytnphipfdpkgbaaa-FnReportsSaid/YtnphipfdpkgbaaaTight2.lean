/- An entry met in a catalogue: the reference's caTighten. Conditions: none. -/
import Derived.Test.YtnphipfdpkgbaaaTight
namespace Go.Proofs.Ytnphipfdpkgbaaa
open Go Go.RowKit

set_option maxRecDepth 8000 in
set_option maxHeartbeats 2400000 in
theorem caTighten_met (v : Value) (es : List En) (y : En) (w : World) (h : Rd enS w w.heap.size v es) (hlen : es.length ≤ 1000) (hval : okCat es) (hy : entE y = true) (hyat : atB es (placeN es y.a y.b) y.a y.b = true) :
    Calls Try.prog 61 #[v, .agg #[.int .i64 y.a, .int .i64 y.b, .int .i64 y.lo, .int .i64 y.hi, .int .i64 y.to]] w fun r w' =>
      (∃ (v' : Value) (z : List En) (b : Bool), r = .returned (.tuple #[v', .bool b]) ∧ tightO es y = (if b then some z else none) ∧ (b = false → z = []) ∧ w'.ownsRow w.heap.size 36 5 v' z.length (enS.flat z)) ∧ Below w.heap.size w w' := by
  obtain ⟨i0, hi, hz0, hz1, hz2⟩ := info_parts infoEn2
  have Hr := Lib.hid h
  obtain ⟨A, c, rfl, hcc, hm, hA⟩ := h
  unfold maxLen at hm
  have hbA : Below w.heap.size w (w.alloc _) := bal (Below.refl _ _) (Obj.cells #[.int .i64 y.a, .int .i64 y.b, .int .i64 y.lo, .int .i64 y.hi, .int .i64 y.to] 36)
  have hbox : Blk _ w.heap.size 36 #[.int .i64 y.a, .int .i64 y.b, .int .i64 y.lo, .int .i64 y.hi, .int .i64 y.to] := Blk.new w _ _
  have Hval := Lib.hid hval; clear hval
  have Hcu := Lib.hid (entB_curve hy)
  have hyto := (entB_bd hy).2.2.2.1
  have Hto := Lib.hid hyto; clear hyto hy
  have Ht := Lib.hid (show tightO es y = if atB es (placeN es y.a y.b) y.a y.b then if okMeet (enS.get es (placeN es y.a y.b)) y then some (swapE es (placeN es y.a y.b) (meetE (enS.get es (placeN es y.a y.b)) y)) else none else some (ins es (placeN es y.a y.b) y) from rfl)
  have hk := (placeN_spec es y).1

  have h0 : 0 < es.length := by have := (atB_spec hyat).1; omega
  obtain ⟨g, off, rfl, hg, hcell⟩ := hA h0
  clear hA
  have hcell := en_cells hcell
  obtain ⟨k, hpl⟩ : ∃ k, placeN es y.a y.b = k := ⟨_, rfl⟩
  rw [hpl] at hk hyat
  have hat := hyat
  clear hyat
  have Hpl := Lib.hid hpl; clear hpl
  have t1 : (0 : Int) ≤ (k : Int) := by omega
  have t2 : (k : Int) ≤ (c : Int) := by omega
  have t3 : (k : Int) ≤ (es.length : Int) := by omega
  have hlt := (atB_spec hat).1
  have Hat := Lib.hid hat; clear hat
  have hto := (entB_bd (okAt_ent (Hval.out k hlt))).2.2.2.1
  obtain ⟨f0, f1, f2, f3, f4⟩ := hcell k hlt
  clear hcell
  generalize hx : enS.get es k = x at f0 f1 f2 f3 f4 hto
  have Hx := Lib.hid hx; clear hx
  have Hxto := Lib.hid hto; clear hto
  have hi1 : (k : Int) < (es.length : Int) := by omega
  go_enter Try.func61, Try.ntmps61
  go_wp2_with fail
  refine (caPlace_any _ es y.a y.b _ (Hr.out.on hbA) Hval.out Hcu.out).mono ?_; rintro e w1 ⟨rfl, hb1⟩
  rw [Hpl.out]
  have hb1' := bthen hbA hb1
  have hbox1 := hbox.on hb1
  have q0 := hbox1.cell 0
  have q1 := hbox1.cell 1
  have q2 := hbox1.cell 2
  have q3 := hbox1.cell 3
  have q4 := hbox1.cell 4
  have ql := hbox1.lt
  go_wp2_with fail
  refine (caAt_any _ es k y.a y.b _ (Hr.out.on hb1')).mono ?_; rintro e w2 ⟨rfl, hb2⟩
  have hbt := bthen hb1' hb2
  have hblkt := hbox1.on hb2
  clear q0 q1 q2 q3 q4 ql hbox1 hb1 hb2 hb1' hbA hbox
  rw [Hat.out]
  have hg2 : g < w2.heap.size := Nat.lt_of_lt_of_le hg hbt.size
  rw [← hbt.cell (p := ⟨_, _, _⟩) hg] at f0 f1 f2 f3 f4
  have HS : Hid (∀ w', Below w2.heap.size w2 w' → (w'.cell? ⟨g, off + k * 5, none⟩ = some (.int .i64 x.a) ∧ w'.cell? ⟨g, off + k * 5 + 1, none⟩ = some (.int .i64 x.b) ∧ w'.cell? ⟨g, off + k * 5 + 2, none⟩ = some (.int .i64 x.lo) ∧ w'.cell? ⟨g, off + k * 5 + 3, none⟩ = some (.int .i64 x.hi) ∧ w'.cell? ⟨g, off + k * 5 + 4, none⟩ = some (.int .i64 x.to) ∧ w'.cell? ⟨w.heap.size, 0, none⟩ = some (.int .i64 y.a) ∧ w'.cell? ⟨w.heap.size, 1, none⟩ = some (.int .i64 y.b) ∧ w'.cell? ⟨w.heap.size, 2, none⟩ = some (.int .i64 y.lo) ∧ w'.cell? ⟨w.heap.size, 3, none⟩ = some (.int .i64 y.hi) ∧ w'.cell? ⟨w.heap.size, 4, none⟩ = some (.int .i64 y.to) ∧ Below w2.heap.size w2 w')) := Lib.hid (fun w' hw => ⟨(hw.cell (p := ⟨g, off + k * 5, none⟩) hg2).trans f0, (hw.cell (p := ⟨g, off + k * 5 + 1, none⟩) hg2).trans f1, (hw.cell (p := ⟨g, off + k * 5 + 2, none⟩) hg2).trans f2, (hw.cell (p := ⟨g, off + k * 5 + 3, none⟩) hg2).trans f3, (hw.cell (p := ⟨g, off + k * 5 + 4, none⟩) hg2).trans f4, (hw.cell (p := ⟨w.heap.size, 0, none⟩) hblkt.lt).trans (hblkt.cell 0), (hw.cell (p := ⟨w.heap.size, 1, none⟩) hblkt.lt).trans (hblkt.cell 1), (hw.cell (p := ⟨w.heap.size, 2, none⟩) hblkt.lt).trans (hblkt.cell 2), (hw.cell (p := ⟨w.heap.size, 3, none⟩) hblkt.lt).trans (hblkt.cell 3), (hw.cell (p := ⟨w.heap.size, 4, none⟩) hblkt.lt).trans (hblkt.cell 4), hw⟩)
  go_wp2_with fail
  go_cut [8, 9] (fun p b wx => ∃ (q : Nat) (m : En), p = .pointer (some ⟨q, 0, none⟩) ∧ b = .bool (okMeet x y) ∧ (okMeet x y = true → m = meetE x y) ∧ Blk wx q 36 #[.int .i64 m.a, .int .i64 m.b, .int .i64 m.lo, .int .i64 m.hi, .int .i64 m.to] ∧ w2.heap.size ≤ q ∧ Below w2.heap.size w2 wx)
  case first =>
    go_region_held3 (fun w' => w'.cell? ⟨g, off + k * 5, none⟩ = some (.int .i64 x.a) ∧ w'.cell? ⟨g, off + k * 5 + 1, none⟩ = some (.int .i64 x.b) ∧ w'.cell? ⟨g, off + k * 5 + 2, none⟩ = some (.int .i64 x.lo) ∧ w'.cell? ⟨g, off + k * 5 + 3, none⟩ = some (.int .i64 x.hi) ∧ w'.cell? ⟨g, off + k * 5 + 4, none⟩ = some (.int .i64 x.to) ∧ w'.cell? ⟨w.heap.size, 0, none⟩ = some (.int .i64 y.a) ∧ w'.cell? ⟨w.heap.size, 1, none⟩ = some (.int .i64 y.b) ∧ w'.cell? ⟨w.heap.size, 2, none⟩ = some (.int .i64 y.lo) ∧ w'.cell? ⟨w.heap.size, 3, none⟩ = some (.int .i64 y.hi) ∧ w'.cell? ⟨w.heap.size, 4, none⟩ = some (.int .i64 y.to) ∧ Below w2.heap.size w2 w')
      ((go_split_ands; refine HS.out _ ?_; repeat (first | (with_reducible assumption) | (with_reducible exact Below.refl _ _) | (with_reducible refine Below.drew ?_) | (with_reducible refine bal ?_ _) | (with_reducible refine bst ?_ (by first | omega | (simp; done) | (simp; omega)) _) | (with_reducible refine bthen ?_ (by with_reducible assumption)))))
      ((first
        | (go_at_call 66; refine (caMeet_any x y _ Hxto.out Hto.out).mono ?_; rintro e w3 ⟨⟨m, rfl, hm3⟩, hb3⟩; (try (have hz3 : Blk w3 w2.heap.size 36 #[.int .i64 0, .int .i64 0, .int .i64 0, .int .i64 0, .int .i64 0] := (Blk.drew (Blk.new w2 36 #[.int .i64 0, .int .i64 0, .int .i64 0, .int .i64 0, .int .i64 0])).on hb3; have zc0 := hz3.cell 0; have zc1 := hz3.cell 1; have zc2 := hz3.cell 2; have zc3 := hz3.cell 3; have zc4 := hz3.cell 4; have zf0 := hz3.frozen 0; have zf1 := hz3.frozen 1; have zf2 := hz3.frozen 2; have zf3 := hz3.frozen 3; have zf4 := hz3.frozen 4; have zl := hz3.lt; have Hz3 := Lib.hid hz3; clear hz3)))))
    all_goals
      have Hm3 := Lib.hid hm3
      clear hm3
      go_wp2_with fail
      go_meet
      have hsz3 : Hid (w2.drew.heap.size ≤ w3.heap.size → w2.heap.size ≤ w3.heap.size) := Lib.hid (fun h => h)
      first
        | with_reducible exact ⟨_, m, rfl, rfl, Hm3.out, Blk.new _ _ _, hsz3.out hb3.size, by repeat (with_reducible first | exact Below.refl _ _ | refine Below.drew ?_ | refine bal ?_ _ | refine bthen ?_ hb3)⟩
        | exact ⟨_, m, rfl, rfl, Hm3.out, Blk.set5 Hz3.out, Nat.le_refl _, by repeat (with_reducible first | exact Below.refl _ _ | refine Below.drew ?_ | refine bal ?_ _ | (refine bst ?_ (by first | omega | (simp; done) | (simp; omega)) _) | refine bthen ?_ hb3)⟩
  obtain ⟨q, m, rfl, rfl, hm, hBm, hq, hbc⟩ := hcut
  have hbt' := bthen hbt hbc
  have hblk' := hblkt.on hbc
  clear HS f0 f1 f2 f3 f4 hblkt hbt hbc hg2
  have Hm := Lib.hid hm; clear hm
  cases hok : okMeet x y
  · have Hok := Lib.hid hok; clear hok
    clear hBm hblk'
    go_wp2
    go_ret2
    exact ⟨⟨_, [], false, rfl, by rw [Ht.out, Hpl.out, Hat.out, Hx.out, Hok.out]; rfl, fun _ => rfl, by simp [Shape.flat], Or.inl ⟨rfl, rfl⟩⟩, hbt'⟩
  · have Hok := Lib.hid hok; clear hok
    have Hme := Lib.hid (Hm.out Hok.out)
    have hk1 : k + 1 ≤ es.length := hlt
    have t4 : (0 : Int) ≤ (k : Int) + 1 := by omega
    have t5 : (k : Int) + 1 ≤ (c : Int) := by omega
    have t6 : (k : Int) + 1 ≤ (es.length : Int) := by omega
    have m0 := hBm.cell 0
    have m1 := hBm.cell 1
    have m2 := hBm.cell 2
    have m3 := hBm.cell 3
    have m4 := hBm.cell 4
    have ml := hBm.lt
    have q0 := hblk'.cell 0
    have q1 := hblk'.cell 1
    have q2 := hblk'.cell 2
    have q3 := hblk'.cell 3
    have q4 := hblk'.cell 4
    have ql := hblk'.lt
    have z0 := hblk'.frozen 0
    have z1 := hblk'.frozen 1
    have z2 := hblk'.frozen 2
    have z3 := hblk'.frozen 3
    have z4 := hblk'.frozen 4
    have hblkt : Blk (((((wc.setCell ⟨w.heap.size, 0, none⟩ (.int .i64 m.a)).setCell ⟨w.heap.size, 1, none⟩ (.int .i64 m.b)).setCell ⟨w.heap.size, 2, none⟩ (.int .i64 m.lo)).setCell ⟨w.heap.size, 3, none⟩ (.int .i64 m.hi)).setCell ⟨w.heap.size, 4, none⟩ (.int .i64 m.to)) w.heap.size 36 #[.int .i64 m.a, .int .i64 m.b, .int .i64 m.lo, .int .i64 m.hi, .int .i64 m.to] := Blk.set5 hblk'
    have hbt : Below w.heap.size w (((((wc.setCell ⟨w.heap.size, 0, none⟩ (.int .i64 m.a)).setCell ⟨w.heap.size, 1, none⟩ (.int .i64 m.b)).setCell ⟨w.heap.size, 2, none⟩ (.int .i64 m.lo)).setCell ⟨w.heap.size, 3, none⟩ (.int .i64 m.hi)).setCell ⟨w.heap.size, 4, none⟩ (.int .i64 m.to)) := by repeat (with_reducible first | exact hbt' | (refine bst ?_ (Nat.le_refl _) _))
    have Hblkt := Lib.hid hblkt; clear hblkt
    have Hbt := Lib.hid hbt; clear hbt
    by_cases hck : c = k + 1
    · have hd0 : es.drop (k + 1) = [] := List.drop_eq_nil_of_le (by omega)
      have Hd0 := Lib.hid hd0; clear hd0
      go_wp2
      have hblkt := Hblkt.out
      have hbt := Hbt.out
      clear Hblkt Hbt m0 q0 z0 m1 q1 z1 m2 q2 z2 m3 q3 z3 m4 q4 z4 ml ql hBm hblk'
      generalize hwt : (((((wc.setCell ⟨w.heap.size, 0, none⟩ (.int .i64 m.a)).setCell ⟨w.heap.size, 1, none⟩ (.int .i64 m.b)).setCell ⟨w.heap.size, 2, none⟩ (.int .i64 m.lo)).setCell ⟨w.heap.size, 3, none⟩ (.int .i64 m.hi)).setCell ⟨w.heap.size, 4, none⟩ (.int .i64 m.to)) = wt at hbt hblkt ⊢
      clear hwt
      have HRt := Lib.hid (Hr.out.on hbt)
      clear t1 t2 t3
      have r0 := hblkt.cell 0
      have r1 := hblkt.cell 1
      have r2 := hblkt.cell 2
      have r3 := hblkt.cell 3
      have r4 := hblkt.cell 4
      have rl := hblkt.lt
      have t1 : (0 : Int) ≤ (k : Int) := by omega
      have t2 : (k : Int) ≤ ((k + 1 : Nat) : Int) := by omega
      have t2a : (k : Int) ≤ (k : Int) + 1 := by omega
      have t2b : k ≤ k + 1 := by omega
      have t2c : (k : Int) ≤ (c : Int) := by omega
      have t3 : (k : Int) ≤ (es.length : Int) := by omega
      have HS : Hid (∀ w', Below wt.heap.size wt w' → (w'.cell? ⟨w.heap.size, 0, none⟩ = some (.int .i64 m.a) ∧ w'.cell? ⟨w.heap.size, 1, none⟩ = some (.int .i64 m.b) ∧ w'.cell? ⟨w.heap.size, 2, none⟩ = some (.int .i64 m.lo) ∧ w'.cell? ⟨w.heap.size, 3, none⟩ = some (.int .i64 m.hi) ∧ w'.cell? ⟨w.heap.size, 4, none⟩ = some (.int .i64 m.to) ∧ Below wt.heap.size wt w')) := Lib.hid (fun w' hw => ⟨(hw.cell (p := ⟨w.heap.size, 0, none⟩) rl).trans r0, (hw.cell (p := ⟨w.heap.size, 1, none⟩) rl).trans r1, (hw.cell (p := ⟨w.heap.size, 2, none⟩) rl).trans r2, (hw.cell (p := ⟨w.heap.size, 3, none⟩) rl).trans r3, (hw.cell (p := ⟨w.heap.size, 4, none⟩) rl).trans r4, hw⟩)
      have Hl1 : Hid ((enS.flat (es.take k)).length = (k) * 5) := Lib.hid (by first | (rw [Shape.length_flat, List.length_take, Nat.min_eq_left (by omega)]; rfl) | (simp [Shape.flat]; done))
      have Hl3 : Hid ((enS.flat ([])).length = (es.length - (k + 1)) * 5) := Lib.hid (by first | (rw [Shape.length_flat, List.length_drop]; rfl) | (simp [Shape.flat]; done) | (simp [Shape.flat]; omega))
      have HA1 : Hid ((some ⟨g, off, none⟩ : Option Addr) = none → (k) = 0) := Lib.hid (by intro h; first | cases h | omega)
      have Hs1 := Lib.hid (en_src HRt.out k)
      have Hm1 : Hid (0 + k ≤ maxLen) := Lib.hid (by unfold maxLen; omega)
      have Hy1 : Hid ((0 + k) * 40 ≤ 140737488355328) := Lib.hid (by omega)
      have Hm2 : Hid (0 + k + 1 ≤ maxLen) := Lib.hid (by unfold maxLen; omega)
      have Hy2 : Hid ((0 + k + 1) * 40 ≤ 140737488355328) := Lib.hid (by omega)
      have Hm3 : Hid (0 + k + 1 + (es.length - (k + 1)) ≤ maxLen) := Lib.hid (by unfold maxLen; omega)
      have Hy3 : Hid ((0 + k + 1 + (es.length - (k + 1))) * 40 ≤ 140737488355328) := Lib.hid (by omega)
      go_region_held3 (fun w' => w'.cell? ⟨w.heap.size, 0, none⟩ = some (.int .i64 m.a) ∧ w'.cell? ⟨w.heap.size, 1, none⟩ = some (.int .i64 m.b) ∧ w'.cell? ⟨w.heap.size, 2, none⟩ = some (.int .i64 m.lo) ∧ w'.cell? ⟨w.heap.size, 3, none⟩ = some (.int .i64 m.hi) ∧ w'.cell? ⟨w.heap.size, 4, none⟩ = some (.int .i64 m.to) ∧ Below wt.heap.size wt w') ((go_split_ands; refine HS.out _ ?_; repeat (first | (with_reducible assumption) | (with_reducible exact Below.refl _ _) | (with_reducible refine Below.drew ?_) | (with_reducible refine bal ?_ _)))) ((first | (refine step_append_src (by rfl) _ _ 23 (by rfl) 36 i0 (.agg #[.int .i64 0, .int .i64 0, .int .i64 0, .int .i64 0, .int .i64 0]) 5 40 Try.underlying23 hi hz0 hz1 hz2 rfl (by decide) wt (by (try go_split_ands); with_reducible assumption) _ 0 [] (by rfl) (by first | exact own_empty (by simp) | exact own_empty1 (by simp) | exact (own_empty (by simp)).alloc _) (some ⟨g, off, none⟩) (k) (_) (enS.flat (es.take k)) (by rfl) Hl1.out (HA1.out) (src_below (by (try go_split_ands); with_reducible assumption) Hs1.out) (en_one _) Hm1.out Hy1.out ?_; intro v1 w1 ho1 hbA1 hk1) | (refine step_append_src (by rfl) _ _ 23 (by rfl) 36 i0 (.agg #[.int .i64 0, .int .i64 0, .int .i64 0, .int .i64 0, .int .i64 0]) 5 40 Try.underlying23 hi hz0 hz1 hz2 rfl (by decide) wt (by (try go_split_ands); with_reducible assumption) v1 (0 + k) ([] ++ enS.flat (es.take k)) (by rfl) (by first | with_reducible exact ho1 | with_reducible exact ho1.alloc _) _ 1 _ (enS.flat [m]) (by rfl) rfl (by intro h; cases h) (lit_src (oneEn_cells (by first | exact Blk.new _ _ _ | exact hk1 _ _ _ (Blk.new1 _ _ _ _) (ob_ne (by rfl) (by first | omega | (simp; done) | (simp; omega))) | exact hk1 _ _ _ (Blk.new _ _ _) (ob_ne (by rfl) (by first | omega | (simp; done) | (simp; omega))) | exact hk1 _ _ _ (Blk.alloc (Blk.new _ _ _) _) (ob_ne (by rfl) (by first | omega | (simp; done) | (simp; omega)))))) (en_one _) Hm2.out Hy2.out ?_; intro v2 w2 ho2 hbA2 hk2) | (refine step_append_src (by rfl) _ _ 23 (by rfl) 36 i0 (.agg #[.int .i64 0, .int .i64 0, .int .i64 0, .int .i64 0, .int .i64 0]) 5 40 Try.underlying23 hi hz0 hz1 hz2 rfl (by decide) wt (by (try go_split_ands); with_reducible assumption) v2 (0 + k + 1) ([] ++ enS.flat (es.take k) ++ enS.flat [m]) (by rfl) (by with_reducible exact ho2) (_) (es.length - (k + 1)) (_) (enS.flat ([])) (by rfl) Hl3.out (fun _ => (by omega)) (fun a => en_src0 a) (en_one _) Hm3.out Hy3.out ?_; intro v3 w3 ho3 hbA3 hk3)))
      all_goals
        go_wp2
        go_ret2
        exact ⟨⟨_, swapE es k m, true, rfl, by rw [Ht.out, Hpl.out, Hat.out, Hx.out, Hok.out, ← Hme.out]; rfl, (fun h => by cases h), by unfold swapE; rw [Hd0.out]; exact putE_end hk (by show 0 = es.length - (k + 1); omega) (own_mono ho3 hbt.size)⟩, bthen hbt hbA3⟩
    · go_wp2
      have hblkt := Hblkt.out
      have hbt := Hbt.out
      clear Hblkt Hbt m0 q0 z0 m1 q1 z1 m2 q2 z2 m3 q3 z3 m4 q4 z4 ml ql hBm hblk'
      generalize hwt : (((((wc.setCell ⟨w.heap.size, 0, none⟩ (.int .i64 m.a)).setCell ⟨w.heap.size, 1, none⟩ (.int .i64 m.b)).setCell ⟨w.heap.size, 2, none⟩ (.int .i64 m.lo)).setCell ⟨w.heap.size, 3, none⟩ (.int .i64 m.hi)).setCell ⟨w.heap.size, 4, none⟩ (.int .i64 m.to)) = wt at hbt hblkt ⊢
      clear hwt
      have HRt := Lib.hid (Hr.out.on hbt)
      clear t1 t2 t3
      have r0 := hblkt.cell 0
      have r1 := hblkt.cell 1
      have r2 := hblkt.cell 2
      have r3 := hblkt.cell 3
      have r4 := hblkt.cell 4
      have rl := hblkt.lt
      have t1 : (0 : Int) ≤ ((k : Nat) : Int) := by omega
      have t2 : ((k : Nat) : Int) ≤ (c : Int) := by omega
      have t3 : ((k : Nat) : Int) ≤ (es.length : Int) := by omega
      have HS : Hid (∀ w', Below wt.heap.size wt w' → (w'.cell? ⟨w.heap.size, 0, none⟩ = some (.int .i64 m.a) ∧ w'.cell? ⟨w.heap.size, 1, none⟩ = some (.int .i64 m.b) ∧ w'.cell? ⟨w.heap.size, 2, none⟩ = some (.int .i64 m.lo) ∧ w'.cell? ⟨w.heap.size, 3, none⟩ = some (.int .i64 m.hi) ∧ w'.cell? ⟨w.heap.size, 4, none⟩ = some (.int .i64 m.to) ∧ Below wt.heap.size wt w')) := Lib.hid (fun w' hw => ⟨(hw.cell (p := ⟨w.heap.size, 0, none⟩) rl).trans r0, (hw.cell (p := ⟨w.heap.size, 1, none⟩) rl).trans r1, (hw.cell (p := ⟨w.heap.size, 2, none⟩) rl).trans r2, (hw.cell (p := ⟨w.heap.size, 3, none⟩) rl).trans r3, (hw.cell (p := ⟨w.heap.size, 4, none⟩) rl).trans r4, hw⟩)
      have Hl1 : Hid ((enS.flat (es.take k)).length = (k) * 5) := Lib.hid (by first | (rw [Shape.length_flat, List.length_take, Nat.min_eq_left (by omega)]; rfl) | (simp [Shape.flat]; done))
      have Hl3 : Hid ((enS.flat (es.drop (k + 1))).length = (es.length - (k + 1)) * 5) := Lib.hid (by first | (rw [Shape.length_flat, List.length_drop]; rfl) | (simp [Shape.flat]; done) | (simp [Shape.flat]; omega))
      have HA1 : Hid ((some ⟨g, off, none⟩ : Option Addr) = none → (k) = 0) := Lib.hid (by intro h; first | cases h | omega)
      have HA3 : Hid ((some ⟨g, off + (k + 1) * 5, none⟩ : Option Addr) = none → (es.length - (k + 1)) = 0) := Lib.hid (by intro h; first | cases h | omega)
      have Hs1 := Lib.hid (en_src HRt.out k)
      have Hs3 := Lib.hid (en_src2 HRt.out (k + 1) hk1)
      have Hm1 : Hid (0 + k ≤ maxLen) := Lib.hid (by unfold maxLen; omega)
      have Hy1 : Hid ((0 + k) * 40 ≤ 140737488355328) := Lib.hid (by omega)
      have Hm2 : Hid (0 + k + 1 ≤ maxLen) := Lib.hid (by unfold maxLen; omega)
      have Hy2 : Hid ((0 + k + 1) * 40 ≤ 140737488355328) := Lib.hid (by omega)
      have Hm3 : Hid (0 + k + 1 + (es.length - (k + 1)) ≤ maxLen) := Lib.hid (by unfold maxLen; omega)
      have Hy3 : Hid ((0 + k + 1 + (es.length - (k + 1))) * 40 ≤ 140737488355328) := Lib.hid (by omega)
      go_region_held3 (fun w' => w'.cell? ⟨w.heap.size, 0, none⟩ = some (.int .i64 m.a) ∧ w'.cell? ⟨w.heap.size, 1, none⟩ = some (.int .i64 m.b) ∧ w'.cell? ⟨w.heap.size, 2, none⟩ = some (.int .i64 m.lo) ∧ w'.cell? ⟨w.heap.size, 3, none⟩ = some (.int .i64 m.hi) ∧ w'.cell? ⟨w.heap.size, 4, none⟩ = some (.int .i64 m.to) ∧ Below wt.heap.size wt w') ((go_split_ands; refine HS.out _ ?_; repeat (first | (with_reducible assumption) | (with_reducible exact Below.refl _ _) | (with_reducible refine Below.drew ?_) | (with_reducible refine bal ?_ _)))) ((first | (refine step_append_src (by rfl) _ _ 23 (by rfl) 36 i0 (.agg #[.int .i64 0, .int .i64 0, .int .i64 0, .int .i64 0, .int .i64 0]) 5 40 Try.underlying23 hi hz0 hz1 hz2 rfl (by decide) wt (by (try go_split_ands); with_reducible assumption) _ 0 [] (by rfl) (by first | exact own_empty (by simp) | exact own_empty1 (by simp) | exact (own_empty (by simp)).alloc _) (some ⟨g, off, none⟩) (k) (c) (enS.flat (es.take k)) (by rfl) Hl1.out (HA1.out) (src_below (by (try go_split_ands); with_reducible assumption) Hs1.out) (en_one _) Hm1.out Hy1.out ?_; intro v1 w1 ho1 hbA1 hk1) | (refine step_append_src (by rfl) _ _ 23 (by rfl) 36 i0 (.agg #[.int .i64 0, .int .i64 0, .int .i64 0, .int .i64 0, .int .i64 0]) 5 40 Try.underlying23 hi hz0 hz1 hz2 rfl (by decide) wt (by (try go_split_ands); with_reducible assumption) v1 (0 + k) ([] ++ enS.flat (es.take k)) (by rfl) (by first | with_reducible exact ho1 | with_reducible exact ho1.alloc _) _ 1 _ (enS.flat [m]) (by rfl) rfl (by intro h; cases h) (lit_src (oneEn_cells (by first | exact Blk.new _ _ _ | exact hk1 _ _ _ (Blk.new1 _ _ _ _) (ob_ne (by rfl) (by first | omega | (simp; done) | (simp; omega))) | exact hk1 _ _ _ (Blk.new _ _ _) (ob_ne (by rfl) (by first | omega | (simp; done) | (simp; omega))) | exact hk1 _ _ _ (Blk.alloc (Blk.new _ _ _) _) (ob_ne (by rfl) (by first | omega | (simp; done) | (simp; omega)))))) (en_one _) Hm2.out Hy2.out ?_; intro v2 w2 ho2 hbA2 hk2) | (refine step_append_src (by rfl) _ _ 23 (by rfl) 36 i0 (.agg #[.int .i64 0, .int .i64 0, .int .i64 0, .int .i64 0, .int .i64 0]) 5 40 Try.underlying23 hi hz0 hz1 hz2 rfl (by decide) wt (by (try go_split_ands); with_reducible assumption) v2 (0 + k + 1) ([] ++ enS.flat (es.take k) ++ enS.flat [m]) (by rfl) (by with_reducible exact ho2) (some ⟨g, off + (k + 1) * 5, none⟩) (es.length - (k + 1)) (c - (k + 1)) (enS.flat (es.drop (k + 1))) (by rfl) Hl3.out (HA3.out) (src_below (by (try go_split_ands); with_reducible assumption) Hs3.out) (en_one _) Hm3.out Hy3.out ?_; intro v3 w3 ho3 hbA3 hk3)))
      all_goals
        go_wp2
        go_ret2
        exact ⟨⟨_, swapE es k m, true, rfl, by rw [Ht.out, Hpl.out, Hat.out, Hx.out, Hok.out, ← Hme.out]; rfl, (fun h => by cases h), putE_end hk (List.length_drop ..) (own_mono ho3 hbt.size)⟩, bthen hbt hbA3⟩
theorem caTighten_any (v : Value) (es : List En) (y : En) (w : World) (h : Rd enS w w.heap.size v es) (hlen : es.length ≤ 1000) (hval : okCat es) (hy : entE y = true) :
    Calls Try.prog 61 #[v, .agg #[.int .i64 y.a, .int .i64 y.b, .int .i64 y.lo, .int .i64 y.hi, .int .i64 y.to]] w fun r w' =>
      (∃ (v' : Value) (z : List En) (b : Bool), r = .returned (.tuple #[v', .bool b]) ∧ tightO es y = (if b then some z else none) ∧ (b = false → z = []) ∧ w'.ownsRow w.heap.size 36 5 v' z.length (enS.flat z)) ∧ Below w.heap.size w w' := by
  cases hat : atB es (placeN es y.a y.b) y.a y.b
  · exact caTighten_new v es y w h hlen hval hy hat
  · exact caTighten_met v es y w h hlen hval hy hat
end Go.Proofs.Ytnphipfdpkgbaaa
