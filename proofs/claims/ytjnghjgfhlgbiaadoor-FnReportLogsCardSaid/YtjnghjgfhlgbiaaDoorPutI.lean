/- PutReport of the reference and of the program: the walks. Conditions: none. -/
import Derived.Test.YtjnghjgfhlgbiaaDoorPutL
import Derived.Test.YtjnghjgfhlgbiaaDoorPutS
import Derived.Test.YtjnghjgfhlgbiaaDoorIns
namespace Go.Proofs.YtjnghjgfhlgbiaaDoor
open Go Go.RowKit

set_option maxRecDepth 8000 in
set_option maxHeartbeats 1600000 in
theorem specPut_any (v : Value) (es : List Rp) (y : Rp) (w : World) (h : Rd rpS w w.heap.size v es) :
    Calls Tryd.prog 7 #[v, .agg #[.int .i64 y.tm, .int .i64 y.mc, .int .i64 y.a, .int .i64 y.b, .int .i64 y.lo, .int .i64 y.hi, .int .i64 y.to]] w fun r w' => (∃ (v' : Value) (z : List Rp) (b : Bool), r = .returned (.tuple #[v', .bool b]) ∧ putV es y = (z, b) ∧ w'.ownsRow w.heap.size 30 7 v' z.length (rpS.flat z)) ∧ Below w.heap.size w w' := by
  have Hr := Lib.hid h; clear h
  have hbA : Below w.heap.size w (w.alloc _) := bal (Below.refl _ _) (Obj.cells #[.int .i64 y.tm, .int .i64 y.mc, .int .i64 y.a, .int .i64 y.b, .int .i64 y.lo, .int .i64 y.hi, .int .i64 y.to] 30)
  have hbox : Blk _ w.heap.size 30 #[.int .i64 y.tm, .int .i64 y.mc, .int .i64 y.a, .int .i64 y.b, .int .i64 y.lo, .int .i64 y.hi, .int .i64 y.to] := Blk.new w _ _
  cases hg : repsB es
  · have Hfin := Lib.hid (show putV es y = ([], false) by unfold putV; rw [hg]; rfl)
    go_enter Tryd.func7, Tryd.ntmps7
    go_wp2_with fail
    refine (mrGood_any _ es _ (Hr.out.on hbA)).mono ?_; rintro e w1 ⟨rfl, hb1⟩
    rw [hg]
    go_wp2
    go_ret2
    exact ⟨⟨_, [], false, rfl, Hfin.out, by simp [Shape.flat], Or.inl ⟨rfl, rfl⟩⟩, bthen hbA hb1⟩
  · obtain ⟨hl, hv⟩ := repsB_spec hg
    have Hv := Lib.hid hv; clear hv
    cases hy : repR y
    · have Hfin := Lib.hid (show putV es y = ([], false) by unfold putV; rw [hy, Bool.and_false]; rfl)
      have Hy := Lib.hid (show repB y.tm y.mc y.a y.b y.lo y.hi y.to = false from hy)
      go_enter Tryd.func7, Tryd.ntmps7
      go_wp2_with fail
      refine (mrGood_any _ es _ (Hr.out.on hbA)).mono ?_; rintro e w1 ⟨rfl, hb1⟩
      rw [hg]
      have hbox1 := hbox.on hb1
      have q0 := hbox1.cell 0
      have q1 := hbox1.cell 1
      have q2 := hbox1.cell 2
      have q3 := hbox1.cell 3
      have q4 := hbox1.cell 4
      have q5 := hbox1.cell 5
      have q6 := hbox1.cell 6
      have ql := hbox1.lt
      go_wp2_with fail
      refine (mrOne_any _ _ _ _ _ _ _ _).mono ?_; rintro e w2 ⟨rfl, hb2⟩
      rw [Hy.out]
      go_wp2
      go_ret2
      exact ⟨⟨_, [], false, rfl, Hfin.out, by simp [Shape.flat], Or.inl ⟨rfl, rfl⟩⟩, bthen (bthen hbA hb1) hb2⟩
    · have Hy := Lib.hid (show repB y.tm y.mc y.a y.b y.lo y.hi y.to = true from hy)
      have Hbd := Lib.hid (repR_bd hy)
      have Hfin := Lib.hid (show putV es y = if repsB (putR es y) then (putR es y, true) else ([], false) by unfold putV; rw [hg, hy]; rfl)
      go_enter Tryd.func7, Tryd.ntmps7
      go_wp2_with fail
      refine (mrGood_any _ es _ (Hr.out.on hbA)).mono ?_; rintro e w1 ⟨rfl, hb1⟩
      rw [hg]
      have hbox1 := hbox.on hb1
      have q0 := hbox1.cell 0
      have q1 := hbox1.cell 1
      have q2 := hbox1.cell 2
      have q3 := hbox1.cell 3
      have q4 := hbox1.cell 4
      have q5 := hbox1.cell 5
      have q6 := hbox1.cell 6
      have ql := hbox1.lt
      go_wp2_with fail
      refine (mrOne_any _ _ _ _ _ _ _ _).mono ?_; rintro e w2 ⟨rfl, hb2⟩
      rw [Hy.out]
      have hb2' := bthen (bthen hbA hb1) hb2
      have hbox2 := hbox1.on hb2
      clear q0 q1 q2 q3 q4 q5 q6 ql
      have q0 := hbox2.cell 0
      have q1 := hbox2.cell 1
      have q2 := hbox2.cell 2
      have q3 := hbox2.cell 3
      have q4 := hbox2.cell 4
      have q5 := hbox2.cell 5
      have q6 := hbox2.cell 6
      have ql := hbox2.lt
      go_wp2_with fail
      refine (mrPut_any _ es y _ (Hr.out.on hb2') (by omega) (reps_bd Hv.out) Hbd.out).mono ?_
      rintro e w3 ⟨v3, rfl, ho3, hb3⟩
      change w3.ownsRow w2.heap.size 30 7 v3 (putR es y).length (rpS.flat (putR es y)) at ho3
      have Ho3 := Lib.hid ho3; clear ho3
      have hb3' := bthen hb2' hb3
      go_wp2_with fail
      refine (mrGood_any _ (putR es y) _ (Rd.of_own Ho3.out rfl)).mono ?_; rintro e w4 ⟨rfl, hb4⟩
      have Hb4 := Lib.hid hb4
      cases hg2 : repsB (putR es y)
      · have Hg2 := Lib.hid hg2; clear hg2
        go_wp2
        go_ret2
        exact ⟨⟨_, [], false, rfl, by rw [Hfin.out, Hg2.out]; rfl, by simp [Shape.flat], Or.inl ⟨rfl, rfl⟩⟩, bthen hb3' hb4⟩
      · have Hg2 := Lib.hid hg2; clear hg2
        go_wp2
        go_ret2
        exact ⟨⟨_, _, true, rfl, by rw [Hfin.out, Hg2.out]; rfl, own_mono (own_below Ho3.out Hb4.out) hb2'.size⟩, bthen hb3' hb4⟩
theorem specPut_ints (v : Value) (es : List Rp) (tm mc a b lo hi to : Int) (w : World) (h : Rd rpS w w.heap.size v es) :
    Calls Tryd.prog 7 #[v, .agg #[.int .i64 tm, .int .i64 mc, .int .i64 a, .int .i64 b, .int .i64 lo, .int .i64 hi, .int .i64 to]] w fun r w' => (∃ (v' : Value) (z : List Rp) (b' : Bool), r = .returned (.tuple #[v', .bool b']) ∧ putV es ⟨tm, mc, a, b, lo, hi, to⟩ = (z, b') ∧ w'.ownsRow w.heap.size 30 7 v' z.length (rpS.flat z)) ∧ Below w.heap.size w w' :=
  specPut_any v es ⟨tm, mc, a, b, lo, hi, to⟩ w h

set_option maxRecDepth 8000 in
set_option maxHeartbeats 4000000 in
theorem implPut_any (v : Value) (es : List Rp) (y : Rp) (w : World) (h : Rd rpS w w.heap.size v es) :
    Calls Tryd.prog 6 #[v, .agg #[.int .i64 y.tm, .int .i64 y.mc, .int .i64 y.a, .int .i64 y.b, .int .i64 y.lo, .int .i64 y.hi, .int .i64 y.to]] w fun r w' => (∃ (v' : Value) (z : List Rp) (b : Bool), r = .returned (.tuple #[v', .bool b]) ∧ putV es y = (z, b) ∧ w'.ownsRow w.heap.size 30 7 v' z.length (rpS.flat z)) ∧ Below w.heap.size w w' := by
  have Hr := Lib.hid h
  obtain ⟨A, c, rfl, hcc, -, -⟩ := h
  have hbA : Below w.heap.size w (w.alloc _) := bal (Below.refl _ _) (Obj.cells #[.int .i64 y.tm, .int .i64 y.mc, .int .i64 y.a, .int .i64 y.b, .int .i64 y.lo, .int .i64 y.hi, .int .i64 y.to] 30)
  have hbox : Blk _ w.heap.size 30 #[.int .i64 y.tm, .int .i64 y.mc, .int .i64 y.a, .int .i64 y.b, .int .i64 y.lo, .int .i64 y.hi, .int .i64 y.to] := Blk.new w _ _
  cases hg : repsB es
  · have Hfin := Lib.hid (show putV es y = ([], false) by unfold putV; rw [hg]; rfl)
    go_enter Tryd.func6, Tryd.ntmps6
    go_wp2_with fail
    refine (areReports_any _ es _ (Hr.out.on hbA)).mono ?_; rintro e w1 ⟨rfl, hb1⟩
    rw [hg]
    go_wp2
    go_ret2
    exact ⟨⟨_, [], false, rfl, Hfin.out, by simp [Shape.flat], Or.inl ⟨rfl, rfl⟩⟩, bthen hbA hb1⟩
  · obtain ⟨hl, hv⟩ := repsB_spec hg
    have Hv := Lib.hid hv; clear hv
    cases hy : repR y
    · have Hfin := Lib.hid (show putV es y = ([], false) by unfold putV; rw [hy, Bool.and_false]; rfl)
      have Hy := Lib.hid (show repB y.tm y.mc y.a y.b y.lo y.hi y.to = false from hy)
      go_enter Tryd.func6, Tryd.ntmps6
      go_wp2_with fail
      refine (areReports_any _ es _ (Hr.out.on hbA)).mono ?_; rintro e w1 ⟨rfl, hb1⟩
      rw [hg]
      have hbox1 := hbox.on hb1
      have q0 := hbox1.cell 0
      have q1 := hbox1.cell 1
      have q2 := hbox1.cell 2
      have q3 := hbox1.cell 3
      have q4 := hbox1.cell 4
      have q5 := hbox1.cell 5
      have q6 := hbox1.cell 6
      have ql := hbox1.lt
      go_wp2_with fail
      refine (isReport_any _ _ _ _ _ _ _ _).mono ?_; rintro e w2 ⟨rfl, hb2⟩
      rw [Hy.out]
      go_wp2
      go_ret2
      exact ⟨⟨_, [], false, rfl, Hfin.out, by simp [Shape.flat], Or.inl ⟨rfl, rfl⟩⟩, bthen (bthen hbA hb1) hb2⟩
    · have Hy := Lib.hid (show repB y.tm y.mc y.a y.b y.lo y.hi y.to = true from hy)
      have Hgood := Lib.hid (putR_good hg hy)
      have Hfin := Lib.hid (show putV es y = if repsB (putR es y) then (putR es y, true) else ([], false) by unfold putV; rw [hg, hy]; rfl)
      have Hk := Lib.hid (placeR_spec es y).1
      go_enter Tryd.func6, Tryd.ntmps6
      go_wp2_with fail
      refine (areReports_any _ es _ (Hr.out.on hbA)).mono ?_; rintro e w1 ⟨rfl, hb1⟩
      rw [hg]
      have hbox1 := hbox.on hb1
      have q0 := hbox1.cell 0
      have q1 := hbox1.cell 1
      have q2 := hbox1.cell 2
      have q3 := hbox1.cell 3
      have q4 := hbox1.cell 4
      have q5 := hbox1.cell 5
      have q6 := hbox1.cell 6
      have ql := hbox1.lt
      go_wp2_with fail
      refine (isReport_any _ _ _ _ _ _ _ _).mono ?_; rintro e w2 ⟨rfl, hb2⟩
      rw [Hy.out]
      have hb2' := bthen (bthen hbA hb1) hb2
      have hbox2 := hbox1.on hb2
      clear q0 q1 q2 q3 q4 q5 q6 ql
      have q0 := hbox2.cell 0
      have q1 := hbox2.cell 1
      have q2 := hbox2.cell 2
      have q3 := hbox2.cell 3
      have q4 := hbox2.cell 4
      have q5 := hbox2.cell 5
      have q6 := hbox2.cell 6
      have ql := hbox2.lt
      go_wp2_with fail
      refine (searchRp_any _ es y _ (Hr.out.on hb2') (by omega) (fun i j h1 h2 h3 => reps_mono Hv.out y i j h1 h2 h3)).mono ?_
      rintro e w3 ⟨rfl, hb3⟩
      have hb3' := bthen hb2' hb3
      have hblkt := hbox2.on hb3
      have hfd : (decide (placeR es y.tm y.mc < es.length) && decide (cmpC (rpS.get es (placeR es y.tm y.mc)).tm (rpS.get es (placeR es y.tm y.mc)).mc y.tm y.mc = 0)) = foundR es y := rfl
      rw [hfd]
      clear hfd q0 q1 q2 q3 q4 q5 q6 ql hbox hbox1 hbox2 hb1 hb2 hb3
      cases hf : foundR es y
      · by_cases h20 : es.length = 20
        · have Hno := Lib.hid (show repsB (putR es y) = false by rw [Hgood.out, decide_eq_false (by omega), Bool.and_false])
          have h20' : (es.length : Int) = 20 := by omega
          clear hblkt
          go_wp2
          go_ret2
          exact ⟨⟨_, [], false, rfl, by rw [Hfin.out, Hno.out]; rfl, by simp [Shape.flat], Or.inl ⟨rfl, rfl⟩⟩, hb3'⟩
        · have Hyes := Lib.hid (show repsB (putR es y) = true by rw [Hgood.out, hf, decide_eq_true (by omega)]; rfl)
          have h20' : ((es.length : Int) == 20) = false := beq_eq_false_iff_ne.2 (by omega)
          have h20'' : ¬ (es.length : Int) = 20 := by omega
          have hpk : ∃ k, placeR es y.tm y.mc = k := ⟨_, rfl⟩
          obtain ⟨k, hpk⟩ := hpk
          rw [hpk] at Hk ⊢
          have Hpk := Lib.hid hpk; clear hpk
          go_wp2
          generalize w3 = wt at hb3' hblkt ⊢
          have r0 := hblkt.cell 0
          have r1 := hblkt.cell 1
          have r2 := hblkt.cell 2
          have r3 := hblkt.cell 3
          have r4 := hblkt.cell 4
          have r5 := hblkt.cell 5
          have r6 := hblkt.cell 6
          have rl := hblkt.lt
          have HR := Lib.hid (Hr.out.on hb3')
          have HS : Hid (∀ w', Below wt.heap.size wt w' → (w'.cell? ⟨w.heap.size, 0, none⟩ = some (.int .i64 y.tm) ∧ w'.cell? ⟨w.heap.size, 1, none⟩ = some (.int .i64 y.mc) ∧ w'.cell? ⟨w.heap.size, 2, none⟩ = some (.int .i64 y.a) ∧ w'.cell? ⟨w.heap.size, 3, none⟩ = some (.int .i64 y.b) ∧ w'.cell? ⟨w.heap.size, 4, none⟩ = some (.int .i64 y.lo) ∧ w'.cell? ⟨w.heap.size, 5, none⟩ = some (.int .i64 y.hi) ∧ w'.cell? ⟨w.heap.size, 6, none⟩ = some (.int .i64 y.to) ∧ Below wt.heap.size wt w')) := Lib.hid (fun w' hw => ⟨(hw.cell (p := ⟨w.heap.size, 0, none⟩) rl).trans r0, (hw.cell (p := ⟨w.heap.size, 1, none⟩) rl).trans r1, (hw.cell (p := ⟨w.heap.size, 2, none⟩) rl).trans r2, (hw.cell (p := ⟨w.heap.size, 3, none⟩) rl).trans r3, (hw.cell (p := ⟨w.heap.size, 4, none⟩) rl).trans r4, (hw.cell (p := ⟨w.heap.size, 5, none⟩) rl).trans r5, (hw.cell (p := ⟨w.heap.size, 6, none⟩) rl).trans r6, hw⟩)
          go_region_held3 (fun w' => w'.cell? ⟨w.heap.size, 0, none⟩ = some (.int .i64 y.tm) ∧ w'.cell? ⟨w.heap.size, 1, none⟩ = some (.int .i64 y.mc) ∧ w'.cell? ⟨w.heap.size, 2, none⟩ = some (.int .i64 y.a) ∧ w'.cell? ⟨w.heap.size, 3, none⟩ = some (.int .i64 y.b) ∧ w'.cell? ⟨w.heap.size, 4, none⟩ = some (.int .i64 y.lo) ∧ w'.cell? ⟨w.heap.size, 5, none⟩ = some (.int .i64 y.hi) ∧ w'.cell? ⟨w.heap.size, 6, none⟩ = some (.int .i64 y.to) ∧ Below wt.heap.size wt w')
            ((go_split_ands; refine HS.out _ ?_; repeat (first | (with_reducible assumption) | (with_reducible exact Below.refl _ _) | (with_reducible refine Below.drew ?_) | (with_reducible refine bal ?_ _) | (with_reducible refine bthen ?_ (by with_reducible assumption)))))
            ((first
              | (go_at_call 32; refine (cloneRp_any _ es _ (HR.out.on (by go_split_ands; with_reducible assumption)) (by omega)).mono ?_; rintro e w4 ⟨v4, rfl, ho4, hb4⟩)
              | (go_at_call 31; refine (insRp_any v4 es k y _ wt.heap.size _ (by first | with_reducible exact own_mono (World.ownsRow.alloc ho4 _) (by first | exact Nat.le_refl _ | simp) | with_reducible exact own_mono ho4 (by first | exact Nat.le_refl _ | simp)) (by omega) Hk.out (by first | exact Blk.new _ _ _ | exact (Blk.new _ _ _).on hb4 | exact (Blk.drew (Blk.new _ _ _)).on hb4) (by intro e; have h5 := ho4.lt _ e; first | omega | (simp at h5; done) | (simp at h5; omega)) (by go_split_ands; exact Below.size (B := wt.heap.size) (w := wt) (by with_reducible assumption))).mono ?_; rintro e w5 ⟨v5, rfl, ho5, hg5⟩; have hb5 : Below wt.heap.size wt w5 := Below.grown (by go_split_ands; with_reducible assumption) hg5 (by go_split_ands; exact Below.size (B := wt.heap.size) (w := wt) (by with_reducible assumption)) (fun k hk => by have h5 := ho4.lt k hk; first | omega | (simp at h5; omega)))))
          all_goals
            have Ho5 := Lib.hid ho5
            clear ho5 ho4 hg5
            go_wp2
            go_ret2
            have e : putR es y = ins es k y := by unfold putR; rw [Hpk.out]
            exact ⟨⟨_, putR es y, true, rfl, by rw [Hfin.out, Hyes.out]; rfl, by rw [e]; exact own_mono Ho5.out hb3'.size⟩, bthen hb3' hb5⟩
      · have Hno := Lib.hid (show repsB (putR es y) = false by rw [Hgood.out, hf]; rfl)
        clear hblkt
        go_wp2
        go_ret2
        exact ⟨⟨_, [], false, rfl, by rw [Hfin.out, Hno.out]; rfl, by simp [Shape.flat], Or.inl ⟨rfl, rfl⟩⟩, hb3'⟩
theorem implPut_ints (v : Value) (es : List Rp) (tm mc a b lo hi to : Int) (w : World) (h : Rd rpS w w.heap.size v es) :
    Calls Tryd.prog 6 #[v, .agg #[.int .i64 tm, .int .i64 mc, .int .i64 a, .int .i64 b, .int .i64 lo, .int .i64 hi, .int .i64 to]] w fun r w' => (∃ (v' : Value) (z : List Rp) (b' : Bool), r = .returned (.tuple #[v', .bool b']) ∧ putV es ⟨tm, mc, a, b, lo, hi, to⟩ = (z, b') ∧ w'.ownsRow w.heap.size 30 7 v' z.length (rpS.flat z)) ∧ Below w.heap.size w w' :=
  implPut_any v es ⟨tm, mc, a, b, lo, hi, to⟩ w h
end Go.Proofs.YtjnghjgfhlgbiaaDoor
