/- FindEntry of the reference and of the program. Conditions: none. -/
import Derived.Test.YtnphipfdpkgbaaaFind
namespace Go.Proofs.Ytnphipfdpkgbaaa
open Go Go.RowKit

theorem okAt_lt {es : List En} {k : Nat} (h : okAt es (k + 1) = true) : cmpC (enS.get es k).a (enS.get es k).b (enS.get es (k + 1)).a (enS.get es (k + 1)).b < 0 := by
  unfold okAt at h
  simp only [Bool.and_eq_true, Bool.or_eq_true, decide_eq_true_eq, Nat.add_sub_cancel] at h
  rcases h.2 with h' | h'
  · simp at h'
  · exact h'
theorem cmpC_trans {a b c d e f : Int} (h1 : cmpC a b c d < 0) (h2 : cmpC c d e f < 0) : cmpC a b e f < 0 := by
  rw [cmpC_lt] at *
  omega
/-- A catalogue is in order. -/
theorem cat_sorted {es : List En} (hv : ∀ k, k < es.length → okAt es k = true) (i : Nat) : ∀ d, i + d + 1 < es.length → cmpC (enS.get es i).a (enS.get es i).b (enS.get es (i + d + 1)).a (enS.get es (i + d + 1)).b < 0
  | 0, h => okAt_lt (hv _ h)
  | d + 1, h => cmpC_trans (cat_sorted hv i d (by omega)) (okAt_lt (hv _ h))
theorem cat_lt {es : List En} (hv : ∀ k, k < es.length → okAt es k = true) {i j : Nat} (hij : i < j) (hj : j < es.length) : cmpC (enS.get es i).a (enS.get es i).b (enS.get es j).a (enS.get es j).b < 0 := by
  have := cat_sorted hv i (j - i - 1) (by omega)
  rw [show i + (j - i - 1) + 1 = j by omega] at this
  exact this

theorem isCu_iff {es : List En} {a b : Int} {k : Nat} : isCu es a b k = true ↔ (enS.get es k).a = a ∧ (enS.get es k).b = b := by
  unfold isCu
  simp
theorem bef_notCu {es : List En} {a b : Int} {k : Nat} (h : befB es a b k = true) : isCu es a b k = false := by
  cases hc : isCu es a b k
  · rfl
  · obtain ⟨h1, h2⟩ := isCu_iff.1 hc
    unfold befB at h
    rw [decide_eq_true_eq, cmpC_lt] at h
    omega
theorem first_le (es : List En) (a b : Int) : firstN es a b ≤ es.length := by
  have := (lead_spec (fun k => !isCu es a b k) es.length 0).2.1
  unfold firstN; omega
theorem place_le (es : List En) (a b : Int) : placeN es a b ≤ es.length := by
  have := (lead_spec (befB es a b) es.length 0).2.1
  unfold placeN; omega
/-- In a catalogue the place of a curve is the first place that does not come before it, or there is none. -/
theorem place_first {es : List En} {a b : Int} (hv : ∀ k, k < es.length → okAt es k = true) : firstN es a b = if atB es (placeN es a b) a b then placeN es a b else es.length := by
  obtain ⟨_, g2, g3, g4⟩ := lead_spec (befB es a b) es.length 0
  rw [Nat.zero_add] at g2 g4
  change placeN es a b ≤ _ at g2
  change ∀ j, 0 ≤ j → j < placeN es a b → _ at g3
  change placeN es a b < _ → befB es a b (placeN es a b) = false at g4
  generalize placeN es a b = p at g2 g3 g4
  have hlow : ∀ j, j < p → isCu es a b j = false := fun j hj => bef_notCu (g3 j (by omega) hj)
  unfold atB
  rcases Nat.lt_or_ge p es.length with hp | hp
  · rw [decide_eq_true hp, Bool.true_and]
    cases hc : isCu es a b p
    · rw [if_neg (by simp)]
      refine lead_eq _ _ _ (Nat.le_refl _) (fun j hj => ?_) (fun h => by omega)
      rcases Nat.lt_trichotomy j p with h | h | h
      · rw [hlow j h]; rfl
      · rw [h, hc]; rfl
      · have h1 := cat_lt hv h hj
        have h2 := g4 hp
        unfold befB at h2
        rw [decide_eq_false_iff_not, cmpC_lt] at h2
        rw [cmpC_lt] at h1
        have h3 : ¬ ((enS.get es p).a = a ∧ (enS.get es p).b = b) := fun e => by rw [isCu_iff.2 e] at hc; cases hc
        cases hj' : isCu es a b j
        · rfl
        · obtain ⟨e1, e2⟩ := isCu_iff.1 hj'
          omega
    · rw [if_pos rfl]
      exact lead_eq _ _ _ (by omega) (fun j hj => by rw [hlow j hj]; rfl) (fun _ => by rw [hc]; rfl)
  · rw [decide_eq_false (by omega), Bool.false_and, if_neg (by simp)]
    exact lead_eq _ _ _ (Nat.le_refl _) (fun j hj => by rw [hlow j (by omega)]; rfl) (fun h => by omega)
theorem first_valid {es : List En} {a b : Int} (hv : ∀ k, k < es.length → okAt es k = true) (h : firstN es a b < es.length) : curveB a b = true := by
  obtain ⟨_, g2, g3, g4⟩ := lead_spec (fun k => !isCu es a b k) es.length 0
  rw [Nat.zero_add] at g4
  have h1 := g4 h
  change (!isCu es a b (firstN es a b)) = false at h1
  obtain ⟨e1, e2⟩ := isCu_iff.1 (by simpa using h1)
  have := entB_curve (okAt_ent (hv _ h))
  rw [e1, e2] at this
  exact this

theorem findV_no {es : List En} {a b : Int} (h : ¬ firstN es a b < es.length) : findV es a b = (⟨0, 0, 0, 0, 0⟩, false) := by
  unfold findV
  rw [decide_eq_false h, Bool.and_false]; rfl
theorem findV_bad {es : List En} {a b : Int} (h : catB es = false) : findV es a b = (⟨0, 0, 0, 0, 0⟩, false) := by
  unfold findV
  rw [h, Bool.false_and]; rfl
theorem findV_yes {es : List En} {a b : Int} (h : catB es = true) (h2 : firstN es a b < es.length) : findV es a b = (enS.get es (firstN es a b), true) := by
  unfold findV
  rw [h, decide_eq_true h2]; rfl

set_option maxHeartbeats 1600000 in
theorem specFind_any (v : Value) (es : List En) (a b : Int) (w : World) (h : Rd enS w w.heap.size v es) :
    Calls Try.prog 21 #[v, .agg #[.int .i64 a, .int .i64 b]] w fun r w' => (∃ (x : En) (k : Bool), r = .returned (.tuple #[.agg #[.int .i64 x.a, .int .i64 x.b, .int .i64 x.lo, .int .i64 x.hi, .int .i64 x.to], .bool k]) ∧ findV es a b = (x, k)) ∧ Below w.heap.size w w' := by
  have hr := h
  obtain ⟨A, c, rfl, hcc, hm, hA⟩ := h
  unfold maxLen at hm
  have Hr := Lib.hid hr; clear hr
  have hbox : Blk ((w.alloc (.cells #[.int .i64 a, .int .i64 b] 34)).alloc (Obj.cells #[.int .i64 0, .int .i64 0, .int .i64 0, .int .i64 0, .int .i64 0] 36)) w.heap.size 34 #[.int .i64 a, .int .i64 b] := (Blk.new w _ _).alloc _
  have hres : Blk ((w.alloc (.cells #[.int .i64 a, .int .i64 b] 34)).alloc (Obj.cells #[.int .i64 0, .int .i64 0, .int .i64 0, .int .i64 0, .int .i64 0] 36)) (w.heap.size + 1) 36 #[.int .i64 0, .int .i64 0, .int .i64 0, .int .i64 0, .int .i64 0] := Blk.new1 w _ _ _
  have hbA : Below w.heap.size w ((w.alloc (.cells #[.int .i64 a, .int .i64 b] 34)).alloc (Obj.cells #[.int .i64 0, .int .i64 0, .int .i64 0, .int .i64 0, .int .i64 0] 36)) := by (repeat (with_reducible first | exact Below.refl _ _ | assumption | refine bal ?_ _ | refine bst ?_ (by simp <;> omega) _ | refine Below.drew ?_ | refine bthen ?_ (by assumption)))
  cases hcat : catB es
  · have Hfin := Lib.hid (findV_bad (a := a) (b := b) hcat)
    go_enter Try.func21, Try.ntmps21
    go_wp2
    refine wp_region_tame (by kernel_rfl) (by kernel_rfl) (fun T _ W hT => ?_)
    have hx := hT.cell
    repeat (go_big_quiet_step ((go_at_call 60; exact hT.call (caGood_any _ es _ (Hr.out.on (bthen hbA (hT.below _)))))))
    refine wpQuiet_nil ?_
    intro t
    clear hx
    have hres' := hres.on (hT.below t)
    have r0 : (W t).cell? ⟨w.heap.size + 1, 0, none⟩ = some (.int .i64 0) := hres'.cell 0
    have r1 : (W t).cell? ⟨w.heap.size + 1, 1, none⟩ = some (.int .i64 0) := hres'.cell 1
    have r2 : (W t).cell? ⟨w.heap.size + 1, 2, none⟩ = some (.int .i64 0) := hres'.cell 2
    have r3 : (W t).cell? ⟨w.heap.size + 1, 3, none⟩ = some (.int .i64 0) := hres'.cell 3
    have r4 : (W t).cell? ⟨w.heap.size + 1, 4, none⟩ = some (.int .i64 0) := hres'.cell 4
    have rf := hres'.frozen
    have hbz := bthen hbA (hT.below t)
    clear hbA hres hbox hT
    go_wp2
    exact bodyPost_ret (v := .tuple #[.agg #[.int .i64 0, .int .i64 0, .int .i64 0, .int .i64 0, .int .i64 0], .bool false]) (by simp [results, Try.results21, go_sem, r0, r1, r2, r3, r4]) rfl ⟨⟨⟨0, 0, 0, 0, 0⟩, false, rfl, Hfin.out⟩, by (repeat (with_reducible first | exact Below.refl _ _ | assumption | refine bal ?_ _ | refine bst ?_ (by simp <;> omega) _ | refine Below.drew ?_ | refine bthen ?_ (by assumption)))⟩
  · have hv := (catB_spec hcat).2
    have Hv := Lib.hid hv; clear hv
    have q0 : ((w.alloc (.cells #[.int .i64 a, .int .i64 b] 34)).alloc (Obj.cells #[.int .i64 0, .int .i64 0, .int .i64 0, .int .i64 0, .int .i64 0] 36)).cell? ⟨w.heap.size, 0, none⟩ = some (.int .i64 a) := hbox.cell 0
    cases hcu : curveB a b
    · have hno : ¬ firstN es a b < es.length := fun h => by rw [first_valid Hv.out h] at hcu; cases hcu
      have Hfin := Lib.hid (findV_no hno)
      clear hno q0
      go_enter Try.func21, Try.ntmps21
      go_wp2
      refine wp_region_tame (by kernel_rfl) (by kernel_rfl) (fun T _ W hT => ?_)
      have hx := hT.cell
      repeat (go_big_quiet_step (first | (go_at_call 60; exact hT.call (caGood_any _ es _ (Hr.out.on (bthen hbA (hT.below _))))) | (go_at_call 70; exact hT.call (ecGood_any _ _ _)) | (go_at_call 64; exact hT.call (caPlace_any _ es _ _ _ (Hr.out.on (bthen hbA (hT.below _)))  Hv.out (by assumption))) | (go_at_call 65; exact hT.call (caAt_any _ es _ _ _ _ (Hr.out.on (bthen hbA (hT.below _)))))))
      refine wpQuiet_nil ?_
      intro t
      clear hx
      have hres' := hres.on (hT.below t)
      have r0 : (W t).cell? ⟨w.heap.size + 1, 0, none⟩ = some (.int .i64 0) := hres'.cell 0
      have r1 : (W t).cell? ⟨w.heap.size + 1, 1, none⟩ = some (.int .i64 0) := hres'.cell 1
      have r2 : (W t).cell? ⟨w.heap.size + 1, 2, none⟩ = some (.int .i64 0) := hres'.cell 2
      have r3 : (W t).cell? ⟨w.heap.size + 1, 3, none⟩ = some (.int .i64 0) := hres'.cell 3
      have r4 : (W t).cell? ⟨w.heap.size + 1, 4, none⟩ = some (.int .i64 0) := hres'.cell 4
      have rf := hres'.frozen
      have hbz := bthen hbA (hT.below t)
      clear hbA hres hbox hT
      go_wp2
      exact bodyPost_ret (v := .tuple #[.agg #[.int .i64 0, .int .i64 0, .int .i64 0, .int .i64 0, .int .i64 0], .bool false]) (by simp [results, Try.results21, go_sem, r0, r1, r2, r3, r4]) rfl ⟨⟨⟨0, 0, 0, 0, 0⟩, false, rfl, Hfin.out⟩, by (repeat (with_reducible first | exact Below.refl _ _ | assumption | refine bal ?_ _ | refine bst ?_ (by simp <;> omega) _ | refine Below.drew ?_ | refine bthen ?_ (by assumption)))⟩
    · cases hat : atB es (placeN es a b) a b
      · have hno : ¬ firstN es a b < es.length := by rw [place_first Hv.out, hat]; simp
        have Hfin := Lib.hid (findV_no hno)
        clear hno q0
        go_enter Try.func21, Try.ntmps21
        go_wp2
        refine wp_region_tame (by kernel_rfl) (by kernel_rfl) (fun T _ W hT => ?_)
        have hx := hT.cell
        repeat (go_big_quiet_step (first | (go_at_call 60; exact hT.call (caGood_any _ es _ (Hr.out.on (bthen hbA (hT.below _))))) | (go_at_call 70; exact hT.call (ecGood_any _ _ _)) | (go_at_call 64; exact hT.call (caPlace_any _ es _ _ _ (Hr.out.on (bthen hbA (hT.below _))) Hv.out hcu)) | (go_at_call 65; exact hT.call (caAt_any _ es _ _ _ _ (Hr.out.on (bthen hbA (hT.below _)))))))
        refine wpQuiet_nil ?_
        intro t
        clear hx
        have hres' := hres.on (hT.below t)
        have r0 : (W t).cell? ⟨w.heap.size + 1, 0, none⟩ = some (.int .i64 0) := hres'.cell 0
        have r1 : (W t).cell? ⟨w.heap.size + 1, 1, none⟩ = some (.int .i64 0) := hres'.cell 1
        have r2 : (W t).cell? ⟨w.heap.size + 1, 2, none⟩ = some (.int .i64 0) := hres'.cell 2
        have r3 : (W t).cell? ⟨w.heap.size + 1, 3, none⟩ = some (.int .i64 0) := hres'.cell 3
        have r4 : (W t).cell? ⟨w.heap.size + 1, 4, none⟩ = some (.int .i64 0) := hres'.cell 4
        have rf := hres'.frozen
        have hbz := bthen hbA (hT.below t)
        clear hbA hres hbox hT
        go_wp2
        exact bodyPost_ret (v := .tuple #[.agg #[.int .i64 0, .int .i64 0, .int .i64 0, .int .i64 0, .int .i64 0], .bool false]) (by simp [results, Try.results21, go_sem, r0, r1, r2, r3, r4]) rfl ⟨⟨⟨0, 0, 0, 0, 0⟩, false, rfl, Hfin.out⟩, by (repeat (with_reducible first | exact Below.refl _ _ | assumption | refine bal ?_ _ | refine bst ?_ (by simp <;> omega) _ | refine Below.drew ?_ | refine bthen ?_ (by assumption)))⟩
      · have hfp : firstN es a b = placeN es a b := by rw [place_first Hv.out, hat]; rfl
        have hlt : placeN es a b < es.length := by
          unfold atB at hat
          simp only [Bool.and_eq_true, decide_eq_true_eq] at hat
          exact hat.1
        have hfin := findV_yes hcat (by rw [hfp]; exact hlt)
        rw [hfp] at hfin
        have Hfin := Lib.hid hfin; clear hfin hfp q0
        obtain ⟨g, off, rfl, hg, hcell⟩ := hA (by omega)
        have hcell := en_cells hcell
        obtain ⟨f0, f1, f2, f3, f4⟩ := hcell _ hlt
        clear hcell hA
        have hPl : ∃ p, placeN es a b = p := ⟨_, rfl⟩
        obtain ⟨p, hp⟩ := hPl
        rw [hp] at hlt Hfin f0 f1 f2 f3 f4
        have hat' := hat
        rw [hp] at hat'
        clear hat
        generalize enS.get es p = x at f0 f1 f2 f3 f4 Hfin
        have Hp := Lib.hid hp; clear hp
        have hi0 : (0 : Int) ≤ (p : Int) := by omega
        have hi1 : (p : Int) < (es.length : Int) := by omega
        have hpl : ∀ (w' : World), Below w.heap.size w w' → Calls Try.prog 64 #[.slice (some ⟨g, off, none⟩) es.length c, .agg #[.int .i64 a, .int .i64 b]] w' fun r w'' => r = .returned (.int .i64 p) ∧ Below w'.heap.size w' w'' := fun w' hb' => by
          have := caPlace_any _ es a b w' (Hr.out.on hb') Hv.out hcu
          rw [Hp.out] at this
          exact this
        have Hpl := Lib.hid hpl; clear hpl
        go_enter Try.func21, Try.ntmps21
        go_wp2
        refine wp_region_tame (by kernel_rfl) (by kernel_rfl) (fun T _ W hT => ?_)
        have hx := hT.cell
        repeat (go_big_quiet_step (first | (go_at_call 60; exact hT.call (caGood_any _ es _ (Hr.out.on (bthen hbA (hT.below _))))) | (go_at_call 70; exact hT.call (ecGood_any _ _ _)) | (go_at_call 64; exact hT.call (Hpl.out _ (bthen hbA (hT.below _)))) | (go_at_call 65; exact hT.call (caAt_any _ es _ _ _ _ (Hr.out.on (bthen hbA (hT.below _)))))))
        refine wpQuiet_nil ?_
        intro t
        clear hx
        have hbz := bthen hbA (hT.below t)
        replace hres := hres.on (hT.below t)
        replace hbox := hbox.on (hT.below t)
        have q0 : (W t).cell? ⟨w.heap.size, 0, none⟩ = some (.int .i64 a) := hbox.cell 0
        have q1 : (W t).cell? ⟨w.heap.size, 1, none⟩ = some (.int .i64 b) := hbox.cell 1
        clear hbA hT
        go_wp2_with fail
        refine (Hpl.out _ hbz).mono ?_; rintro e w1 ⟨rfl, hb1⟩
        rw [← (bthen hbz hb1).cell (p := ⟨_, _, _⟩) hg] at f0 f1 f2 f3 f4
        replace hres := hres.on hb1
        have r0 : w1.cell? ⟨w.heap.size + 1, 0, none⟩ = some (.int .i64 0) := hres.cell 0
        have r1 : w1.cell? ⟨w.heap.size + 1, 1, none⟩ = some (.int .i64 0) := hres.cell 1
        have r2 : w1.cell? ⟨w.heap.size + 1, 2, none⟩ = some (.int .i64 0) := hres.cell 2
        have r3 : w1.cell? ⟨w.heap.size + 1, 3, none⟩ = some (.int .i64 0) := hres.cell 3
        have r4 : w1.cell? ⟨w.heap.size + 1, 4, none⟩ = some (.int .i64 0) := hres.cell 4
        have rf := hres.frozen
        replace hbz := bthen hbz hb1
        go_wp2
        exact bodyPost_ret (v := .tuple #[.agg #[.int .i64 x.a, .int .i64 x.b, .int .i64 x.lo, .int .i64 x.hi, .int .i64 x.to], .bool true]) (by simp [results, Try.results21, go_sem, r0, r1, r2, r3, r4]) rfl ⟨⟨x, true, rfl, Hfin.out⟩, by (repeat (with_reducible first | exact Below.refl _ _ | assumption | refine bal ?_ _ | refine bst ?_ (by simp <;> omega) _ | refine Below.drew ?_ | refine bthen ?_ (by assumption)))⟩
set_option maxHeartbeats 1600000 in
theorem implFind_any (v : Value) (es : List En) (a b : Int) (w : World) (h : Rd enS w w.heap.size v es) :
    Calls Try.prog 20 #[v, .agg #[.int .i64 a, .int .i64 b]] w fun r w' => (∃ (x : En) (k : Bool), r = .returned (.tuple #[.agg #[.int .i64 x.a, .int .i64 x.b, .int .i64 x.lo, .int .i64 x.hi, .int .i64 x.to], .bool k]) ∧ findV es a b = (x, k)) ∧ Below w.heap.size w w' := by
  have hr := h
  obtain ⟨A, c, rfl, hcc, hm, hA⟩ := h
  unfold maxLen at hm
  have Hr := Lib.hid hr; clear hr
  have hres : Blk ((w.alloc (.cells #[.int .i64 a, .int .i64 b] 34)).alloc (Obj.cells #[.int .i64 0, .int .i64 0, .int .i64 0, .int .i64 0, .int .i64 0] 36)) (w.heap.size + 1) 36 #[.int .i64 0, .int .i64 0, .int .i64 0, .int .i64 0, .int .i64 0] := Blk.new1 w _ _ _
  have hbA : Below w.heap.size w ((w.alloc (.cells #[.int .i64 a, .int .i64 b] 34)).alloc (Obj.cells #[.int .i64 0, .int .i64 0, .int .i64 0, .int .i64 0, .int .i64 0] 36)) := by (repeat (with_reducible first | exact Below.refl _ _ | assumption | refine bal ?_ _ | refine bst ?_ (by simp <;> omega) _ | refine Below.drew ?_ | refine bthen ?_ (by assumption)))
  go_enter Try.func20, Try.ntmps20
  go_wp2_with fail
  refine (entryAt_any _ es a b _ (Hr.out.on hbA)).mono ?_
  rintro e w1 ⟨⟨q, k, rfl, hk, hq⟩, hb1⟩
  replace hres := hres.on hb1
  have r0 : w1.cell? ⟨w.heap.size + 1, 0, none⟩ = some (.int .i64 0) := hres.cell 0
  have r1 : w1.cell? ⟨w.heap.size + 1, 1, none⟩ = some (.int .i64 0) := hres.cell 1
  have r2 : w1.cell? ⟨w.heap.size + 1, 2, none⟩ = some (.int .i64 0) := hres.cell 2
  have r3 : w1.cell? ⟨w.heap.size + 1, 3, none⟩ = some (.int .i64 0) := hres.cell 3
  have r4 : w1.cell? ⟨w.heap.size + 1, 4, none⟩ = some (.int .i64 0) := hres.cell 4
  have rf := hres.frozen
  have hbz := bthen hbA hb1
  clear hbA hres
  cases k
  · have hfin : findV es a b = (⟨0, 0, 0, 0, 0⟩, false) := by
      unfold findV
      rw [← hk]; rfl
    have Hfin := Lib.hid hfin; clear hfin hk hq
    go_wp2
    exact bodyPost_ret (v := .tuple #[.agg #[.int .i64 0, .int .i64 0, .int .i64 0, .int .i64 0, .int .i64 0], .bool false]) (by simp [results, Try.results20, go_sem, r0, r1, r2, r3, r4]) rfl ⟨⟨⟨0, 0, 0, 0, 0⟩, false, rfl, Hfin.out⟩, by (repeat (with_reducible first | exact Below.refl _ _ | assumption | refine bal ?_ _ | refine bst ?_ (by simp <;> omega) _ | refine Below.drew ?_ | refine bthen ?_ (by assumption)))⟩
  · have hk' := hk.symm
    simp only [Bool.and_eq_true, decide_eq_true_eq] at hk'
    obtain ⟨hcat, hlt⟩ := hk'
    obtain rfl := hq hlt
    have hfin := findV_yes hcat hlt
    obtain ⟨g, off, rfl, hg, hcell⟩ := hA (by omega)
    have hcell := en_cells hcell
    obtain ⟨f0, f1, f2, f3, f4⟩ := hcell _ hlt
    rw [← hbz.cell (p := ⟨_, _, _⟩) hg] at f0 f1 f2 f3 f4
    clear hcell hA hk hq
    have hPl : ∃ p, firstN es a b = p := ⟨_, rfl⟩
    obtain ⟨p, hp⟩ := hPl
    rw [hp] at hlt hfin f0 f1 f2 f3 f4 ⊢
    clear hp
    generalize enS.get es p = x at f0 f1 f2 f3 f4 hfin
    have Hfin := Lib.hid hfin; clear hfin
    have hi0 : (0 : Int) ≤ (p : Int) := by omega
    have hi1 : (p : Int) < (es.length : Int) := by omega
    go_wp2
    exact bodyPost_ret (v := .tuple #[.agg #[.int .i64 x.a, .int .i64 x.b, .int .i64 x.lo, .int .i64 x.hi, .int .i64 x.to], .bool true]) (by simp [results, Try.results20, go_sem, r0, r1, r2, r3, r4]) rfl ⟨⟨x, true, rfl, Hfin.out⟩, by (repeat (with_reducible first | exact Below.refl _ _ | assumption | refine bal ?_ _ | refine bst ?_ (by simp <;> omega) _ | refine Below.drew ?_ | refine bthen ?_ (by assumption)))⟩
end Go.Proofs.Ytnphipfdpkgbaaa
