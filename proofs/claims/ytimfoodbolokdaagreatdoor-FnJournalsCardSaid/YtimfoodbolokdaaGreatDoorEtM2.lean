/- Own texts put together: FindEntry of the reference and of the program; Own lemmas that know no program: arguments that are ints, structs of ints, slices of structs of ints, opened to values and cells; a law's last step; What the frames of the laws share; Two entries of one curve meet: caMeet of the reference, meetEntries of the program; An entry put into a catalogue: the plain law; The walks of the laws' own helpers at one curve, entry, record, report: toX, eqX; The laws' own helpers at slices of Curve: what they compute; The laws' own helpers at slices of Entry: what they compute; slices. Conditions: those of each theorem. -/
import Derived.Test.YtimfoodbolokdaaGreatDoorEtM1
import Derived.ProofKit
import Derived.Deep.Slices
import Derived.Test.YtimfoodbolokdaaGreatDoorRows
import Derived.Deep.RegionHeld3
import Derived.Deep.DeepCutAuto
namespace Go.Proofs.YtimfoodbolokdaaGreatDoor
section
open Go Go.RowKit

theorem okAt_lt {es : List En} {k : Nat} (h : okAt es (k + 1) = true) : cmpC (enS.get es k).a (enS.get es k).b (enS.get es (k + 1)).a (enS.get es (k + 1)).b < 0 := by
  unfold okAt at h
  simp only [Bool.and_eq_true, Bool.or_eq_true, decide_eq_true_eq, Nat.add_sub_cancel] at h
  rcases h.2 with h' | h'
  · simp at h'
  · exact h'
theorem cmpC_trans {a b c d e f : Int} (h1 : cmpC a b c d < 0) (h2 : cmpC c d e f < 0) : cmpC a b e f < 0 := by
  rw [cmpC_lt] at *
  omega
/-- A catalogue is in order. -/
theorem cat_sorted {es : List En} (hv : ∀ k, k < es.length → okAt es k = true) (i : Nat) : ∀ d, i + d + 1 < es.length → cmpC (enS.get es i).a (enS.get es i).b (enS.get es (i + d + 1)).a (enS.get es (i + d + 1)).b < 0
  | 0, h => okAt_lt (hv _ h)
  | d + 1, h => cmpC_trans (cat_sorted hv i d (by omega)) (okAt_lt (hv _ h))
theorem cat_lt {es : List En} (hv : ∀ k, k < es.length → okAt es k = true) {i j : Nat} (hij : i < j) (hj : j < es.length) : cmpC (enS.get es i).a (enS.get es i).b (enS.get es j).a (enS.get es j).b < 0 := by
  have := cat_sorted hv i (j - i - 1) (by omega)
  rw [show i + (j - i - 1) + 1 = j by omega] at this
  exact this

theorem isCu_iff {es : List En} {a b : Int} {k : Nat} : isCu es a b k = true ↔ (enS.get es k).a = a ∧ (enS.get es k).b = b := by
  unfold isCu
  simp
theorem bef_notCu {es : List En} {a b : Int} {k : Nat} (h : befB es a b k = true) : isCu es a b k = false := by
  cases hc : isCu es a b k
  · rfl
  · obtain ⟨h1, h2⟩ := isCu_iff.1 hc
    unfold befB at h
    rw [decide_eq_true_eq, cmpC_lt] at h
    omega
theorem first_le (es : List En) (a b : Int) : firstN es a b ≤ es.length := by
  have := (lead_spec (fun k => !isCu es a b k) es.length 0).2.1
  unfold firstN; omega
theorem place_le (es : List En) (a b : Int) : placeN es a b ≤ es.length := by
  have := (lead_spec (befB es a b) es.length 0).2.1
  unfold placeN; omega
/-- In a catalogue the place of a curve is the first place that does not come before it, or there is none. -/
theorem place_first {es : List En} {a b : Int} (hv : ∀ k, k < es.length → okAt es k = true) : firstN es a b = if atB es (placeN es a b) a b then placeN es a b else es.length := by
  obtain ⟨_, g2, g3, g4⟩ := lead_spec (befB es a b) es.length 0
  rw [Nat.zero_add] at g2 g4
  change placeN es a b ≤ _ at g2
  change ∀ j, 0 ≤ j → j < placeN es a b → _ at g3
  change placeN es a b < _ → befB es a b (placeN es a b) = false at g4
  generalize placeN es a b = p at g2 g3 g4
  have hlow : ∀ j, j < p → isCu es a b j = false := fun j hj => bef_notCu (g3 j (by omega) hj)
  unfold atB
  rcases Nat.lt_or_ge p es.length with hp | hp
  · rw [decide_eq_true hp, Bool.true_and]
    cases hc : isCu es a b p
    · rw [if_neg (by simp)]
      refine lead_eq _ _ _ (Nat.le_refl _) (fun j hj => ?_) (fun h => by omega)
      rcases Nat.lt_trichotomy j p with h | h | h
      · rw [hlow j h]; rfl
      · rw [h, hc]; rfl
      · have h1 := cat_lt hv h hj
        have h2 := g4 hp
        unfold befB at h2
        rw [decide_eq_false_iff_not, cmpC_lt] at h2
        rw [cmpC_lt] at h1
        have h3 : ¬ ((enS.get es p).a = a ∧ (enS.get es p).b = b) := fun e => by rw [isCu_iff.2 e] at hc; cases hc
        cases hj' : isCu es a b j
        · rfl
        · obtain ⟨e1, e2⟩ := isCu_iff.1 hj'
          omega
    · rw [if_pos rfl]
      exact lead_eq _ _ _ (by omega) (fun j hj => by rw [hlow j hj]; rfl) (fun _ => by rw [hc]; rfl)
  · rw [decide_eq_false (by omega), Bool.false_and, if_neg (by simp)]
    exact lead_eq _ _ _ (Nat.le_refl _) (fun j hj => by rw [hlow j (by omega)]; rfl) (fun h => by omega)
theorem first_valid {es : List En} {a b : Int} (hv : ∀ k, k < es.length → okAt es k = true) (h : firstN es a b < es.length) : curveB a b = true := by
  obtain ⟨_, g2, g3, g4⟩ := lead_spec (fun k => !isCu es a b k) es.length 0
  rw [Nat.zero_add] at g4
  have h1 := g4 h
  change (!isCu es a b (firstN es a b)) = false at h1
  obtain ⟨e1, e2⟩ := isCu_iff.1 (by simpa using h1)
  have := entB_curve (okAt_ent (hv _ h))
  rw [e1, e2] at this
  exact this

theorem findV_no {es : List En} {a b : Int} (h : ¬ firstN es a b < es.length) : findV es a b = (⟨0, 0, 0, 0, 0⟩, false) := by
  unfold findV
  rw [decide_eq_false h, Bool.and_false]; rfl
theorem findV_bad {es : List En} {a b : Int} (h : catB es = false) : findV es a b = (⟨0, 0, 0, 0, 0⟩, false) := by
  unfold findV
  rw [h, Bool.false_and]; rfl
theorem findV_yes {es : List En} {a b : Int} (h : catB es = true) (h2 : firstN es a b < es.length) : findV es a b = (enS.get es (firstN es a b), true) := by
  unfold findV
  rw [h, decide_eq_true h2]; rfl

set_option maxHeartbeats 1600000 in
theorem specFind_any (v : Value) (es : List En) (a b : Int) (w : World) (h : Rd enS w w.heap.size v es) :
    Calls Tryz.prog 9 #[v, .agg #[.int .i64 a, .int .i64 b]] w fun r w' => (∃ (x : En) (k : Bool), r = .returned (.tuple #[.agg #[.int .i64 x.a, .int .i64 x.b, .int .i64 x.lo, .int .i64 x.hi, .int .i64 x.to], .bool k]) ∧ findV es a b = (x, k)) ∧ Below w.heap.size w w' := by
  have hr := h
  obtain ⟨A, c, rfl, hcc, hm, hA⟩ := h
  unfold maxLen at hm
  have Hr := Lib.hid hr; clear hr
  have hbox : Blk ((w.alloc (.cells #[.int .i64 a, .int .i64 b] 25)).alloc (Obj.cells #[.int .i64 0, .int .i64 0, .int .i64 0, .int .i64 0, .int .i64 0] 29)) w.heap.size 25 #[.int .i64 a, .int .i64 b] := (Blk.new w _ _).alloc _
  have hres : Blk ((w.alloc (.cells #[.int .i64 a, .int .i64 b] 25)).alloc (Obj.cells #[.int .i64 0, .int .i64 0, .int .i64 0, .int .i64 0, .int .i64 0] 29)) (w.heap.size + 1) 29 #[.int .i64 0, .int .i64 0, .int .i64 0, .int .i64 0, .int .i64 0] := Blk.new1 w _ _ _
  have hbA : Below w.heap.size w ((w.alloc (.cells #[.int .i64 a, .int .i64 b] 25)).alloc (Obj.cells #[.int .i64 0, .int .i64 0, .int .i64 0, .int .i64 0, .int .i64 0] 29)) := by (repeat (with_reducible first | exact Below.refl _ _ | assumption | refine bal ?_ _ | refine bst ?_ (by simp <;> omega) _ | refine Below.drew ?_ | refine bthen ?_ (by assumption)))
  cases hcat : catB es
  · have Hfin := Lib.hid (findV_bad (a := a) (b := b) hcat)
    go_enter Tryz.func9, Tryz.ntmps9
    go_wp2
    refine wp_region_tame (by kernel_rfl) (by kernel_rfl) (fun T _ W hT => ?_)
    have hx := hT.cell
    repeat (go_big_quiet_step ((go_at_call 85; exact hT.call (caGood_any _ es _ (Hr.out.on (bthen hbA (hT.below _)))))))
    refine wpQuiet_nil ?_
    intro t
    clear hx
    have hres' := hres.on (hT.below t)
    have r0 : (W t).cell? ⟨w.heap.size + 1, 0, none⟩ = some (.int .i64 0) := hres'.cell 0
    have r1 : (W t).cell? ⟨w.heap.size + 1, 1, none⟩ = some (.int .i64 0) := hres'.cell 1
    have r2 : (W t).cell? ⟨w.heap.size + 1, 2, none⟩ = some (.int .i64 0) := hres'.cell 2
    have r3 : (W t).cell? ⟨w.heap.size + 1, 3, none⟩ = some (.int .i64 0) := hres'.cell 3
    have r4 : (W t).cell? ⟨w.heap.size + 1, 4, none⟩ = some (.int .i64 0) := hres'.cell 4
    have rf := hres'.frozen
    have hbz := bthen hbA (hT.below t)
    clear hbA hres hbox hT
    go_wp2
    exact bodyPost_ret (v := .tuple #[.agg #[.int .i64 0, .int .i64 0, .int .i64 0, .int .i64 0, .int .i64 0], .bool false]) (by simp [results, Tryz.results9, go_sem, r0, r1, r2, r3, r4]) rfl ⟨⟨⟨0, 0, 0, 0, 0⟩, false, rfl, Hfin.out⟩, by (repeat (with_reducible first | exact Below.refl _ _ | assumption | refine bal ?_ _ | refine bst ?_ (by simp <;> omega) _ | refine Below.drew ?_ | refine bthen ?_ (by assumption)))⟩
  · have hv := (catB_spec hcat).2
    have Hv := Lib.hid hv; clear hv
    have q0 : ((w.alloc (.cells #[.int .i64 a, .int .i64 b] 25)).alloc (Obj.cells #[.int .i64 0, .int .i64 0, .int .i64 0, .int .i64 0, .int .i64 0] 29)).cell? ⟨w.heap.size, 0, none⟩ = some (.int .i64 a) := hbox.cell 0
    cases hcu : curveB a b
    · have hno : ¬ firstN es a b < es.length := fun h => by rw [first_valid Hv.out h] at hcu; cases hcu
      have Hfin := Lib.hid (findV_no hno)
      clear hno q0
      go_enter Tryz.func9, Tryz.ntmps9
      go_wp2
      refine wp_region_tame (by kernel_rfl) (by kernel_rfl) (fun T _ W hT => ?_)
      have hx := hT.cell
      repeat (go_big_quiet_step (first | (go_at_call 85; exact hT.call (caGood_any _ es _ (Hr.out.on (bthen hbA (hT.below _))))) | (go_at_call 86; exact hT.call (ecGood_any _ _ _)) | (go_at_call 88; exact hT.call (caPlace_any _ es _ _ _ (Hr.out.on (bthen hbA (hT.below _)))  Hv.out (by assumption))) | (go_at_call 87; exact hT.call (caAt_any _ es _ _ _ _ (Hr.out.on (bthen hbA (hT.below _)))))))
      refine wpQuiet_nil ?_
      intro t
      clear hx
      have hres' := hres.on (hT.below t)
      have r0 : (W t).cell? ⟨w.heap.size + 1, 0, none⟩ = some (.int .i64 0) := hres'.cell 0
      have r1 : (W t).cell? ⟨w.heap.size + 1, 1, none⟩ = some (.int .i64 0) := hres'.cell 1
      have r2 : (W t).cell? ⟨w.heap.size + 1, 2, none⟩ = some (.int .i64 0) := hres'.cell 2
      have r3 : (W t).cell? ⟨w.heap.size + 1, 3, none⟩ = some (.int .i64 0) := hres'.cell 3
      have r4 : (W t).cell? ⟨w.heap.size + 1, 4, none⟩ = some (.int .i64 0) := hres'.cell 4
      have rf := hres'.frozen
      have hbz := bthen hbA (hT.below t)
      clear hbA hres hbox hT
      go_wp2
      exact bodyPost_ret (v := .tuple #[.agg #[.int .i64 0, .int .i64 0, .int .i64 0, .int .i64 0, .int .i64 0], .bool false]) (by simp [results, Tryz.results9, go_sem, r0, r1, r2, r3, r4]) rfl ⟨⟨⟨0, 0, 0, 0, 0⟩, false, rfl, Hfin.out⟩, by (repeat (with_reducible first | exact Below.refl _ _ | assumption | refine bal ?_ _ | refine bst ?_ (by simp <;> omega) _ | refine Below.drew ?_ | refine bthen ?_ (by assumption)))⟩
    · cases hat : atB es (placeN es a b) a b
      · have hno : ¬ firstN es a b < es.length := by rw [place_first Hv.out, hat]; simp
        have Hfin := Lib.hid (findV_no hno)
        clear hno q0
        go_enter Tryz.func9, Tryz.ntmps9
        go_wp2
        refine wp_region_tame (by kernel_rfl) (by kernel_rfl) (fun T _ W hT => ?_)
        have hx := hT.cell
        repeat (go_big_quiet_step (first | (go_at_call 85; exact hT.call (caGood_any _ es _ (Hr.out.on (bthen hbA (hT.below _))))) | (go_at_call 86; exact hT.call (ecGood_any _ _ _)) | (go_at_call 88; exact hT.call (caPlace_any _ es _ _ _ (Hr.out.on (bthen hbA (hT.below _))) Hv.out hcu)) | (go_at_call 87; exact hT.call (caAt_any _ es _ _ _ _ (Hr.out.on (bthen hbA (hT.below _)))))))
        refine wpQuiet_nil ?_
        intro t
        clear hx
        have hres' := hres.on (hT.below t)
        have r0 : (W t).cell? ⟨w.heap.size + 1, 0, none⟩ = some (.int .i64 0) := hres'.cell 0
        have r1 : (W t).cell? ⟨w.heap.size + 1, 1, none⟩ = some (.int .i64 0) := hres'.cell 1
        have r2 : (W t).cell? ⟨w.heap.size + 1, 2, none⟩ = some (.int .i64 0) := hres'.cell 2
        have r3 : (W t).cell? ⟨w.heap.size + 1, 3, none⟩ = some (.int .i64 0) := hres'.cell 3
        have r4 : (W t).cell? ⟨w.heap.size + 1, 4, none⟩ = some (.int .i64 0) := hres'.cell 4
        have rf := hres'.frozen
        have hbz := bthen hbA (hT.below t)
        clear hbA hres hbox hT
        go_wp2
        exact bodyPost_ret (v := .tuple #[.agg #[.int .i64 0, .int .i64 0, .int .i64 0, .int .i64 0, .int .i64 0], .bool false]) (by simp [results, Tryz.results9, go_sem, r0, r1, r2, r3, r4]) rfl ⟨⟨⟨0, 0, 0, 0, 0⟩, false, rfl, Hfin.out⟩, by (repeat (with_reducible first | exact Below.refl _ _ | assumption | refine bal ?_ _ | refine bst ?_ (by simp <;> omega) _ | refine Below.drew ?_ | refine bthen ?_ (by assumption)))⟩
      · have hfp : firstN es a b = placeN es a b := by rw [place_first Hv.out, hat]; rfl
        have hlt : placeN es a b < es.length := by
          unfold atB at hat
          simp only [Bool.and_eq_true, decide_eq_true_eq] at hat
          exact hat.1
        have hfin := findV_yes hcat (by rw [hfp]; exact hlt)
        rw [hfp] at hfin
        have Hfin := Lib.hid hfin; clear hfin hfp q0
        obtain ⟨g, off, rfl, hg, hcell⟩ := hA (by omega)
        have hcell := en_cells hcell
        obtain ⟨f0, f1, f2, f3, f4⟩ := hcell _ hlt
        clear hcell hA
        have hPl : ∃ p, placeN es a b = p := ⟨_, rfl⟩
        obtain ⟨p, hp⟩ := hPl
        rw [hp] at hlt Hfin f0 f1 f2 f3 f4
        have hat' := hat
        rw [hp] at hat'
        clear hat
        generalize enS.get es p = x at f0 f1 f2 f3 f4 Hfin
        have Hp := Lib.hid hp; clear hp
        have hi0 : (0 : Int) ≤ (p : Int) := by omega
        have hi1 : (p : Int) < (es.length : Int) := by omega
        have hpl : ∀ (w' : World), Below w.heap.size w w' → Calls Tryz.prog 88 #[.slice (some ⟨g, off, none⟩) es.length c, .agg #[.int .i64 a, .int .i64 b]] w' fun r w'' => r = .returned (.int .i64 p) ∧ Below w'.heap.size w' w'' := fun w' hb' => by
          have := caPlace_any _ es a b w' (Hr.out.on hb') Hv.out hcu
          rw [Hp.out] at this
          exact this
        have Hpl := Lib.hid hpl; clear hpl
        go_enter Tryz.func9, Tryz.ntmps9
        go_wp2
        refine wp_region_tame (by kernel_rfl) (by kernel_rfl) (fun T _ W hT => ?_)
        have hx := hT.cell
        repeat (go_big_quiet_step (first | (go_at_call 85; exact hT.call (caGood_any _ es _ (Hr.out.on (bthen hbA (hT.below _))))) | (go_at_call 86; exact hT.call (ecGood_any _ _ _)) | (go_at_call 88; exact hT.call (Hpl.out _ (bthen hbA (hT.below _)))) | (go_at_call 87; exact hT.call (caAt_any _ es _ _ _ _ (Hr.out.on (bthen hbA (hT.below _)))))))
        refine wpQuiet_nil ?_
        intro t
        clear hx
        have hbz := bthen hbA (hT.below t)
        replace hres := hres.on (hT.below t)
        replace hbox := hbox.on (hT.below t)
        have q0 : (W t).cell? ⟨w.heap.size, 0, none⟩ = some (.int .i64 a) := hbox.cell 0
        have q1 : (W t).cell? ⟨w.heap.size, 1, none⟩ = some (.int .i64 b) := hbox.cell 1
        clear hbA hT
        go_wp2_with fail
        refine (Hpl.out _ hbz).mono ?_; rintro e w1 ⟨rfl, hb1⟩
        rw [← (bthen hbz hb1).cell (p := ⟨_, _, _⟩) hg] at f0 f1 f2 f3 f4
        replace hres := hres.on hb1
        have r0 : w1.cell? ⟨w.heap.size + 1, 0, none⟩ = some (.int .i64 0) := hres.cell 0
        have r1 : w1.cell? ⟨w.heap.size + 1, 1, none⟩ = some (.int .i64 0) := hres.cell 1
        have r2 : w1.cell? ⟨w.heap.size + 1, 2, none⟩ = some (.int .i64 0) := hres.cell 2
        have r3 : w1.cell? ⟨w.heap.size + 1, 3, none⟩ = some (.int .i64 0) := hres.cell 3
        have r4 : w1.cell? ⟨w.heap.size + 1, 4, none⟩ = some (.int .i64 0) := hres.cell 4
        have rf := hres.frozen
        replace hbz := bthen hbz hb1
        go_wp2
        exact bodyPost_ret (v := .tuple #[.agg #[.int .i64 x.a, .int .i64 x.b, .int .i64 x.lo, .int .i64 x.hi, .int .i64 x.to], .bool true]) (by simp [results, Tryz.results9, go_sem, r0, r1, r2, r3, r4]) rfl ⟨⟨x, true, rfl, Hfin.out⟩, by (repeat (with_reducible first | exact Below.refl _ _ | assumption | refine bal ?_ _ | refine bst ?_ (by simp <;> omega) _ | refine Below.drew ?_ | refine bthen ?_ (by assumption)))⟩
set_option maxHeartbeats 1600000 in
theorem implFind_any (v : Value) (es : List En) (a b : Int) (w : World) (h : Rd enS w w.heap.size v es) :
    Calls Tryz.prog 8 #[v, .agg #[.int .i64 a, .int .i64 b]] w fun r w' => (∃ (x : En) (k : Bool), r = .returned (.tuple #[.agg #[.int .i64 x.a, .int .i64 x.b, .int .i64 x.lo, .int .i64 x.hi, .int .i64 x.to], .bool k]) ∧ findV es a b = (x, k)) ∧ Below w.heap.size w w' := by
  have hr := h
  obtain ⟨A, c, rfl, hcc, hm, hA⟩ := h
  unfold maxLen at hm
  have Hr := Lib.hid hr; clear hr
  have hres : Blk ((w.alloc (.cells #[.int .i64 a, .int .i64 b] 25)).alloc (Obj.cells #[.int .i64 0, .int .i64 0, .int .i64 0, .int .i64 0, .int .i64 0] 29)) (w.heap.size + 1) 29 #[.int .i64 0, .int .i64 0, .int .i64 0, .int .i64 0, .int .i64 0] := Blk.new1 w _ _ _
  have hbA : Below w.heap.size w ((w.alloc (.cells #[.int .i64 a, .int .i64 b] 25)).alloc (Obj.cells #[.int .i64 0, .int .i64 0, .int .i64 0, .int .i64 0, .int .i64 0] 29)) := by (repeat (with_reducible first | exact Below.refl _ _ | assumption | refine bal ?_ _ | refine bst ?_ (by simp <;> omega) _ | refine Below.drew ?_ | refine bthen ?_ (by assumption)))
  go_enter Tryz.func8, Tryz.ntmps8
  go_wp2_with fail
  refine (entryAt_any _ es a b _ (Hr.out.on hbA)).mono ?_
  rintro e w1 ⟨⟨q, k, rfl, hk, hq⟩, hb1⟩
  replace hres := hres.on hb1
  have r0 : w1.cell? ⟨w.heap.size + 1, 0, none⟩ = some (.int .i64 0) := hres.cell 0
  have r1 : w1.cell? ⟨w.heap.size + 1, 1, none⟩ = some (.int .i64 0) := hres.cell 1
  have r2 : w1.cell? ⟨w.heap.size + 1, 2, none⟩ = some (.int .i64 0) := hres.cell 2
  have r3 : w1.cell? ⟨w.heap.size + 1, 3, none⟩ = some (.int .i64 0) := hres.cell 3
  have r4 : w1.cell? ⟨w.heap.size + 1, 4, none⟩ = some (.int .i64 0) := hres.cell 4
  have rf := hres.frozen
  have hbz := bthen hbA hb1
  clear hbA hres
  cases k
  · have hfin : findV es a b = (⟨0, 0, 0, 0, 0⟩, false) := by
      unfold findV
      rw [← hk]; rfl
    have Hfin := Lib.hid hfin; clear hfin hk hq
    go_wp2
    exact bodyPost_ret (v := .tuple #[.agg #[.int .i64 0, .int .i64 0, .int .i64 0, .int .i64 0, .int .i64 0], .bool false]) (by simp [results, Tryz.results8, go_sem, r0, r1, r2, r3, r4]) rfl ⟨⟨⟨0, 0, 0, 0, 0⟩, false, rfl, Hfin.out⟩, by (repeat (with_reducible first | exact Below.refl _ _ | assumption | refine bal ?_ _ | refine bst ?_ (by simp <;> omega) _ | refine Below.drew ?_ | refine bthen ?_ (by assumption)))⟩
  · have hk' := hk.symm
    simp only [Bool.and_eq_true, decide_eq_true_eq] at hk'
    obtain ⟨hcat, hlt⟩ := hk'
    obtain rfl := hq hlt
    have hfin := findV_yes hcat hlt
    obtain ⟨g, off, rfl, hg, hcell⟩ := hA (by omega)
    have hcell := en_cells hcell
    obtain ⟨f0, f1, f2, f3, f4⟩ := hcell _ hlt
    rw [← hbz.cell (p := ⟨_, _, _⟩) hg] at f0 f1 f2 f3 f4
    clear hcell hA hk hq
    have hPl : ∃ p, firstN es a b = p := ⟨_, rfl⟩
    obtain ⟨p, hp⟩ := hPl
    rw [hp] at hlt hfin f0 f1 f2 f3 f4 ⊢
    clear hp
    generalize enS.get es p = x at f0 f1 f2 f3 f4 hfin
    have Hfin := Lib.hid hfin; clear hfin
    have hi0 : (0 : Int) ≤ (p : Int) := by omega
    have hi1 : (p : Int) < (es.length : Int) := by omega
    go_wp2
    exact bodyPost_ret (v := .tuple #[.agg #[.int .i64 x.a, .int .i64 x.b, .int .i64 x.lo, .int .i64 x.hi, .int .i64 x.to], .bool true]) (by simp [results, Tryz.results8, go_sem, r0, r1, r2, r3, r4]) rfl ⟨⟨x, true, rfl, Hfin.out⟩, by (repeat (with_reducible first | exact Below.refl _ _ | assumption | refine bal ?_ _ | refine bst ?_ (by simp <;> omega) _ | refine Below.drew ?_ | refine bthen ?_ (by assumption)))⟩
end
section
open Go Go.RowKit Go.ChangeShapes Go.WideShapes Go.Deep

/-- A type all of whose cells are of type int64 (an int, or a struct of such). -/
def intsB (P : Program) : Nat → TypeId → Bool
  | 0, _ => false
  | n + 1, t => match P.underlying t with
    | some (.int k) => k == .i64
    | some (.struct fs) => fs.toList.all (fun f => intsB P n f.type) && (fs.toList.flatMap (fun f => List.range' f.offset (P.cellsOf f.type)) == List.range (P.cellsOf t))
    | _ => false

section
variable {H : Type} {enc : TypeId × Value → H} {P : Program} {w : World} {base : Nat} {spare : Nat → Bool} {held : Bool}

theorem ints_of_trod : ∀ (n : Nat) (t : TypeId) (fuel : Nat) (cs : List Value) (x : DataW H × List MemPlace), intsB P n t = true → DataW.trod enc P w base spare held fuel t cs = some x →
    ∀ c ∈ cs, ∃ m, c = .int .i64 m ∧ (Lit.int .i64 m).wf = true := by
  intro n
  induction n with
  | zero => intro t fuel cs x h; simp [intsB] at h
  | succ n ih =>
    intro t fuel cs x h ht c hc
    unfold intsB at h
    split at h
    · rename_i k hk
      obtain rfl : k = .i64 := by simpa using h
      obtain ⟨fuel, rfl⟩ : ∃ f, fuel = f + 1 := by cases fuel with
        | zero => simp [DataW.trod] at ht
        | succ f => exact ⟨f, rfl⟩
      unfold DataW.trod at ht
      rw [hk] at ht
      split at ht <;> simp_all
    · rename_i fs hk
      simp only [Bool.and_eq_true, beq_iff_eq] at h
      obtain ⟨xs, n', hn', hx, hlen, hxl, hf⟩ := DataW.trod_struct hk ht
      obtain ⟨j, hj, rfl⟩ := List.mem_iff_getElem.1 hc
      have hmem : j ∈ fs.toList.flatMap (fun f => List.range' f.offset (P.cellsOf f.type)) := by
        rw [h.2]; exact List.mem_range.2 (by omega)
      obtain ⟨f, hfm, hjr⟩ := List.mem_flatMap.1 hmem
      obtain ⟨i, hi, hfi⟩ := List.mem_iff_getElem.1 hfm
      have hfs : fs[i]? = some f := by
        have : fs.toList[i]? = some f := by rw [List.getElem?_eq_getElem hi, hfi]
        simpa using this
      have h1 := hf i f hfs
      have hil : i < xs.length := by rw [hxl]; simpa using hi
      rw [List.getElem?_eq_getElem hil] at h1
      refine ih f.type n' _ _ (by have := List.all_eq_true.1 h.1 f hfm; exact this) h1 _ ?_
      obtain ⟨hlo, hhi⟩ := List.mem_range'_1.1 hjr
      rw [List.mem_iff_getElem?]
      refine ⟨j - f.offset, ?_⟩
      rw [List.getElem?_take_of_lt (by omega), List.getElem?_drop]
      have : f.offset + (j - f.offset) = j := by omega
      rw [this, List.getElem?_eq_getElem hj]
    · cases h

/-- A struct of ints by value. -/
theorem open_ints_agg {r : Reach} {b0 : Nat} {t : TypeId} {fs : Array Field} {v : Value} {d : DataW H} {p : List MemPlace} (hs : P.underlying t = some (.struct fs)) (k : Nat) (hi : intsB P k t = true)
    (hv : Value.okWide P w r b0 t v) (h : DataW.Trod enc P w base spare held t v d p) :
    ∃ ns : List Int, ns.length = P.cellsOf t ∧ v = .agg (ns.map (Value.int .i64)).toArray ∧ ∀ n ∈ ns, (Lit.int .i64 n).wf = true := by
  obtain ⟨cs, rfl, hsz⟩ := okWide_struct hs hv
  obtain ⟨fuel, hf⟩ := h
  have hall := ints_of_trod k t fuel _ _ hi hf
  have : ∀ l : List Value, (∀ c ∈ l, ∃ m, c = .int .i64 m ∧ (Lit.int .i64 m).wf = true) → ∃ ns : List Int, l = ns.map (Value.int .i64) ∧ ∀ n ∈ ns, (Lit.int .i64 n).wf = true := by
    intro l
    induction l with
    | nil => exact fun _ => ⟨[], rfl, by simp⟩
    | cons c l ih =>
      intro hl
      obtain ⟨m, rfl, hm⟩ := hl c (by simp)
      obtain ⟨ns, rfl, hns⟩ := ih (fun c hc => hl c (by simp [hc]))
      exact ⟨m :: ns, rfl, by simp [hm]; exact hns⟩
  obtain ⟨ns, hns, hwf⟩ := this cs.toList hall
  refine ⟨ns, ?_, ?_, hwf⟩
  · have : cs.toList.length = ns.length := by rw [hns]; simp
    simp at this
    omega
  · rw [← hns]

theorem choose_list {E : Type} (S : Shape E) (p : Nat → E → Prop) : ∀ n : Nat, (∀ i, i < n → ∃ e, p i e) → ∃ es : List E, es.length = n ∧ ∀ i, i < n → p i (S.get es i)
  | 0, _ => ⟨[], rfl, fun i hi => absurd hi (by omega)⟩
  | n + 1, h => by
    obtain ⟨es, hl, hes⟩ := choose_list S p n (fun i hi => h i (by omega))
    obtain ⟨e, he⟩ := h n (by omega)
    refine ⟨es ++ [e], by simp [hl], fun i hi => ?_⟩
    rcases Nat.lt_or_ge i n with h1 | h1
    · have := hes i h1
      unfold Shape.get at this ⊢
      rw [List.getD_eq_getElem?_getD, List.getElem?_append_left (by omega), ← List.getD_eq_getElem?_getD]
      exact this
    · obtain rfl : i = n := by omega
      unfold Shape.get
      rw [List.getD_eq_getElem?_getD, List.getElem?_append_right (by omega), hl]
      simpa using he

/-- A slice of structs of ints. -/
theorem open_ints_slice {E : Type} (S : Shape E) (mk : (Nat → Int) → E) (hmk : ∀ c j, j < S.size → S.cell (mk c) j = .int .i64 (c j)) {r : Reach} {b0 : Nat} {t e : TypeId} {v : Value} {d : DataW H} {p : List MemPlace}
    (ht : P.underlying t = some (.slice e)) (hpos : 0 < S.size) (hsz : P.cellsOf e = S.size) (k : Nat) (hi : intsB P k e = true)
    (hv : Value.okWide P w r b0 t v) (h : DataW.Trod enc P w base spare held t v d p) :
    ∃ es : List E, Rd S w w.heap.size v es := by
  obtain ⟨A, len, cap, rfl⟩ := okWide_slice ht hv
  obtain ⟨fuel, hf⟩ := h
  rcases open_slice ht hf with ⟨hcs, _⟩ | ⟨a, len', cap', m, n, D, Pl, hcs, hb, hl, hm, hmm, hx, hcell⟩
  · obtain ⟨rfl, rfl, rfl⟩ : A = none ∧ len = 0 ∧ cap = 0 := by simpa [Value.cells] using hcs
    exact ⟨[], Rd.nil _ _⟩
  · obtain ⟨rfl, rfl, rfl⟩ : A = some a ∧ len = len' ∧ cap = cap' := by simpa [Value.cells] using hcs
    have hlm : len ≤ m := by rw [hmm]; split <;> omega
    have key : ∀ i, i < len → ∃ e : E, ∀ j, j < S.size → w.cell? ((a.add (i * S.size)).add j) = some (S.cell e j) := by
      intro i hil
      obtain ⟨cs', hc, ht'⟩ := hcell i (by omega)
      rw [hsz] at hc
      obtain ⟨_, hcl, hat⟩ := World.cells?_some hc
      have hall := ints_of_trod k e n _ _ hi ht'
      refine ⟨mk (fun j => match cs'[j]? with | some (.int _ q) => q | _ => 0), fun j hj => ?_⟩
      rw [hat j hj, hmk _ j hj]
      have hjl : j < cs'.length := by omega
      rw [List.getElem?_eq_getElem hjl]
      obtain ⟨q, hq, _⟩ := hall cs'[j] (List.getElem_mem hjl)
      rw [hq]
    obtain ⟨es, hlen, hes⟩ := choose_list S (fun i e => ∀ j, j < S.size → w.cell? ((a.add (i * S.size)).add j) = some (S.cell e j)) len key
    subst hlen
    refine ⟨es, some a, cap, rfl, hl, hm, fun h0 => ?_⟩
    have h00 := hes 0 h0 0 hpos
    obtain ⟨g, off, spot⟩ := a
    have hspot : spot = none := by
      have := h00
      simp only [Nat.zero_mul] at this
      simpa [Addr.add] using World.cell?_spot this
    subst hspot
    have hadd : ∀ x y : Nat, ((⟨g, off, none⟩ : Addr).add x).add y = ⟨g, off + x + y, none⟩ := by
      intro x y
      unfold Addr.add
      by_cases hx : x = 0 <;> by_cases hy : y = 0 <;> simp [hx, hy]
    refine ⟨g, off, rfl, ?_, fun q hq j hj => ?_⟩
    · rw [hadd] at h00
      exact World.block_lt_of_cell? w _ h00
    · have := hes q hq j hj
      rw [hadd] at this
      exact this

/-- A law's last step: of what was there nothing has turned. -/
theorem post_below {f : Func} {s : ChangeSpec} {W W' : World} {args : Array Value} {v : Value} {ds : List (DataW H)} {before pa : List MemPlace}
    (hW : DataW.Whole enc P f.params.toList s.vars false W args.toList ds [] before)
    (hres : DataW.TrodAll enc P W' W.heap.size (fun _ => false) false f.resultTypes.toList (v.resultList f.resultTypes.size) (s.fn H (ds ++ [])).results [])
    (hargs : DataW.TrodAll enc P W' 0 (fun b => decide (b < W.heap.size)) true f.params.toList args.toList (s.fn H (ds ++ [])).args pa)
    (hvars : DataW.TrodVars enc P W' (fun b => decide (b < W.heap.size)) s.vars (s.fn H (ds ++ [])).vars [])
    (hps : before = pa) (hb : Below W.heap.size W W') :
    s.post enc P f false true false false W args v W' := by
  have hlt : ∀ p ∈ before, p.block < W.heap.size := fun p hp => hW.lt p hp
  refine ⟨ds, [], before, [], pa, [], hW, hres, hargs, hvars, World.keptBut_mono (fun p hp => ⟨hp, ?_⟩) (hb.frame (· ∈ before)), fun h => by cases h⟩
  rw [hps] at hp
  exact Or.inr (by simpa using hp)

theorem list2 {l : List Int} (h : l.length = 2) : ∃ a b, l = [a, b] := by
  match l, h with
  | [a, b], _ => exact ⟨a, b, rfl⟩
theorem list3 {l : List Int} (h : l.length = 3) : ∃ a b c, l = [a, b, c] := by
  match l, h with
  | [a, b, c], _ => exact ⟨a, b, c, rfl⟩
theorem list4 {l : List Int} (h : l.length = 4) : ∃ a b c d, l = [a, b, c, d] := by
  match l, h with
  | [a, b, c, d], _ => exact ⟨a, b, c, d, rfl⟩
theorem list5 {l : List Int} (h : l.length = 5) : ∃ a b c d e, l = [a, b, c, d, e] := by
  match l, h with
  | [a, b, c, d, e], _ => exact ⟨a, b, c, d, e, rfl⟩
theorem list7 {l : List Int} (h : l.length = 7) : ∃ a b c d e f g, l = [a, b, c, d, e, f, g] := by
  match l, h with
  | [a, b, c, d, e, f, g], _ => exact ⟨a, b, c, d, e, f, g, rfl⟩
end
end
section
open Go Go.RowKit Go.ChangeShapes Go.WideShapes
theorem own_knob : ownKnob Tryz.prog.godebug = none := by kernel_rfl
theorem laid_out : laidOutB Tryz.prog = true := by kernel_rfl
theorem bounds_i64 {n : Int} (h : (Lit.int .i64 n).wf = true) : -9223372036854775808 ≤ n ∧ n ≤ 9223372036854775807 := by
  simp [Lit.wf, IntKind.min, IntKind.max, IntKind.signed, IntKind.bits] at h
  omega
def cuMk (c : Nat → Int) : Cu := ⟨c 0, c 1⟩
def enMk (c : Nat → Int) : En := ⟨c 0, c 1, c 2, c 3, c 4⟩
def rpMk (c : Nat → Int) : Rp := ⟨c 0, c 1, c 2, c 3, c 4, c 5, c 6⟩
def ptMk (c : Nat → Int) : Pt := ⟨c 0, c 1, c 2⟩
theorem ptMk_cell (c : Nat → Int) (j : Nat) (hj : j < ptS.size) : ptS.cell (ptMk c) j = .int .i64 (c j) := by
  match j, hj with
  | 0, _ => rfl
  | 1, _ => rfl
  | 2, _ => rfl
theorem cuMk_cell (c : Nat → Int) (j : Nat) (hj : j < cuS.size) : cuS.cell (cuMk c) j = .int .i64 (c j) := by
  match j, hj with
  | 0, _ => rfl
  | 1, _ => rfl
theorem enMk_cell (c : Nat → Int) (j : Nat) (hj : j < enS.size) : enS.cell (enMk c) j = .int .i64 (c j) := by
  match j, hj with
  | 0, _ => rfl
  | 1, _ => rfl
  | 2, _ => rfl
  | 3, _ => rfl
  | 4, _ => rfl
theorem rpMk_cell (c : Nat → Int) (j : Nat) (hj : j < rpS.size) : rpS.cell (rpMk c) j = .int .i64 (c j) := by
  match j, hj with
  | 0, _ => rfl
  | 1, _ => rfl
  | 2, _ => rfl
  | 3, _ => rfl
  | 4, _ => rfl
  | 5, _ => rfl
  | 6, _ => rfl
theorem farC {w : World} {g o b j : Nat} {v : Value} (h : b ≠ g) : (w.setCell ⟨g, o, none⟩ v).cell? ⟨b, j, none⟩ = w.cell? ⟨b, j, none⟩ :=
  World.cell?_setCell_other _ _ _ _ (by intro e; injection e with e1; exact h e1.symm)

theorem new_cell {w : World} {G : Nat} {cs : Array Value} {T : TypeId} {j : Nat} {v : Value} (hG : w.heap.size = G) (hv : cs[j]? = some v) : (w.alloc (.cells cs T)).cell? ⟨G, j, none⟩ = some v := by
  subst hG
  rw [← hv]; exact (Blk.new w T cs).cell j
theorem new_frozen {w : World} {G : Nat} {cs : Array Value} {T : TypeId} {j : Nat} (hG : w.heap.size = G) : (w.alloc (.cells cs T)).frozen? ⟨G, j, none⟩ = false := by
  subst hG
  exact (Blk.new w T cs).frozen j

theorem bfar5 {w : World} {b g : Nat} {T : TypeId} {cs : Array Value} {v0 v1 v2 v3 v4 : Value} (h : Blk w b T cs) (hg : b ≠ g) :
    Blk (((((w.setCell ⟨g, 0, none⟩ v0).setCell ⟨g, 1, none⟩ v1).setCell ⟨g, 2, none⟩ v2).setCell ⟨g, 3, none⟩ v3).setCell ⟨g, 4, none⟩ v4) b T cs :=
  ((((h.far (p := ⟨g, 0, none⟩) hg _).far (p := ⟨g, 1, none⟩) hg _).far (p := ⟨g, 2, none⟩) hg _).far (p := ⟨g, 3, none⟩) hg _).far (p := ⟨g, 4, none⟩) hg _

theorem own_apart {u v : Value} (H : ∀ k, v.ownBlock = some k → u.ownBlock = some k → False) : v.ownBlock = none ∨ v.ownBlock ≠ u.ownBlock := by
  cases h : v.ownBlock with
  | none => exact .inl rfl
  | some k => exact .inr (fun e => H k h e.symm)
end
section
open Go Go.RowKit

def mostI (x y : Int) : Int := if y < x then x else y
def leastI (x y : Int) : Int := if x < y then x else y
def meetE (x y : En) : En := ⟨x.a, x.b, mostI x.lo y.lo, leastI x.hi y.hi, mostI x.to y.to⟩
def tornB (x y : En) : Bool := x.to != 0 && (y.to != 0 && x.to != y.to)
def okMeet (x y : En) : Bool := !tornB x y && decide (mostI x.lo y.lo ≤ leastI x.hi y.hi)

theorem l1Most_any (x y : Int) (w : World) : Calls Tryz.prog 201 #[.int .i64 x, .int .i64 y] w fun e w' => e = .returned (.int .i64 (mostI x y)) ∧ w = w' := by
  by_cases h : y < x
  · have hd : decide (y < x) = true := decide_eq_true h
    have hv : mostI x y = x := if_pos h
    rw [hv]
    go_enter Tryz.func201, Tryz.ntmps201
    go_wp2
    go_ret
    exact ⟨rfl, rfl⟩
  · have hd : decide (y < x) = false := decide_eq_false h
    have hv : mostI x y = y := if_neg h
    rw [hv]
    go_enter Tryz.func201, Tryz.ntmps201
    go_wp2
    go_ret
    exact ⟨rfl, rfl⟩
theorem l1Least_any (x y : Int) (w : World) : Calls Tryz.prog 202 #[.int .i64 x, .int .i64 y] w fun e w' => e = .returned (.int .i64 (leastI x y)) ∧ w = w' := by
  by_cases h : x < y
  · have hd : decide (x < y) = true := decide_eq_true h
    have hv : leastI x y = x := if_pos h
    rw [hv]
    go_enter Tryz.func202, Tryz.ntmps202
    go_wp2
    go_ret
    exact ⟨rfl, rfl⟩
  · have hd : decide (x < y) = false := decide_eq_false h
    have hv : leastI x y = y := if_neg h
    rw [hv]
    go_enter Tryz.func202, Tryz.ntmps202
    go_wp2
    go_ret
    exact ⟨rfl, rfl⟩

set_option maxHeartbeats 4000000 in
theorem caMeet_any (x y : En) (w : World) (hx : 0 ≤ x.to) (hy : 0 ≤ y.to) :
    Calls Tryz.prog 198 #[.agg #[.int .i64 x.a, .int .i64 x.b, .int .i64 x.lo, .int .i64 x.hi, .int .i64 x.to], .agg #[.int .i64 y.a, .int .i64 y.b, .int .i64 y.lo, .int .i64 y.hi, .int .i64 y.to]] w fun r w' =>
      (∃ m : En, r = .returned (.tuple #[.agg #[.int .i64 m.a, .int .i64 m.b, .int .i64 m.lo, .int .i64 m.hi, .int .i64 m.to], .bool (okMeet x y)]) ∧ (okMeet x y = true → m = meetE x y)) ∧ Below w.heap.size w w' := by
  obtain ⟨X, hX⟩ : ∃ X, X = ((w.alloc (Obj.cells #[.int .i64 x.a, .int .i64 x.b, .int .i64 x.lo, .int .i64 x.hi, .int .i64 x.to] 29)).alloc (Obj.cells #[.int .i64 y.a, .int .i64 y.b, .int .i64 y.lo, .int .i64 y.hi, .int .i64 y.to] 29)).alloc (Obj.cells #[.int .i64 0, .int .i64 0, .int .i64 0, .int .i64 0, .int .i64 0] 29) := ⟨_, rfl⟩
  have hbX : Below w.heap.size w X := by rw [hX]; exact bal (bal (bal (Below.refl _ _) _) _) _
  have hX1 : Blk X w.heap.size 29 #[.int .i64 x.a, .int .i64 x.b, .int .i64 x.lo, .int .i64 x.hi, .int .i64 x.to] := by rw [hX]; exact ((Blk.new w _ _).alloc _).alloc _
  have hX2 : Blk X (w.heap.size + 1) 29 #[.int .i64 y.a, .int .i64 y.b, .int .i64 y.lo, .int .i64 y.hi, .int .i64 y.to] := by rw [hX]; exact (Blk.new1 w _ _ _).alloc _
  have hX3 : Blk X (w.heap.size + 2) 29 #[.int .i64 0, .int .i64 0, .int .i64 0, .int .i64 0, .int .i64 0] := by rw [hX]; have := Blk.new ((w.alloc (Obj.cells #[.int .i64 x.a, .int .i64 x.b, .int .i64 x.lo, .int .i64 x.hi, .int .i64 x.to] 29)).alloc (Obj.cells #[.int .i64 y.a, .int .i64 y.b, .int .i64 y.lo, .int .i64 y.hi, .int .i64 y.to] 29)) 29 #[.int .i64 0, .int .i64 0, .int .i64 0, .int .i64 0, .int .i64 0]; rw [World.size_alloc, World.size_alloc] at this; exact this
  have hXs : X.heap.size = w.heap.size + 3 := by rw [hX]; simp
  go_enter Tryz.func198, Tryz.ntmps198
  go_wp2_with fail
  rw [← hX]
  clear hX
  have hnew : ∀ cs, Blk (X.alloc (.cells cs 29)) (w.heap.size + 3) 29 cs := fun cs => by have := Blk.new X 29 cs; rw [hXs] at this; exact this
  have HS : Hid (∀ w', Below X.heap.size X w' → (w'.cell? ⟨w.heap.size, 0, none⟩ = some (.int .i64 x.a) ∧ w'.cell? ⟨w.heap.size, 1, none⟩ = some (.int .i64 x.b) ∧ w'.cell? ⟨w.heap.size, 2, none⟩ = some (.int .i64 x.lo) ∧ w'.cell? ⟨w.heap.size, 3, none⟩ = some (.int .i64 x.hi) ∧ w'.cell? ⟨w.heap.size, 4, none⟩ = some (.int .i64 x.to) ∧ w'.cell? ⟨w.heap.size + 1, 0, none⟩ = some (.int .i64 y.a) ∧ w'.cell? ⟨w.heap.size + 1, 1, none⟩ = some (.int .i64 y.b) ∧ w'.cell? ⟨w.heap.size + 1, 2, none⟩ = some (.int .i64 y.lo) ∧ w'.cell? ⟨w.heap.size + 1, 3, none⟩ = some (.int .i64 y.hi) ∧ w'.cell? ⟨w.heap.size + 1, 4, none⟩ = some (.int .i64 y.to) ∧ Below X.heap.size X w')) := Lib.hid (fun w' hw => ⟨(hw.cell (p := ⟨w.heap.size, 0, none⟩) hX1.lt).trans (hX1.cell 0), (hw.cell (p := ⟨w.heap.size, 1, none⟩) hX1.lt).trans (hX1.cell 1), (hw.cell (p := ⟨w.heap.size, 2, none⟩) hX1.lt).trans (hX1.cell 2), (hw.cell (p := ⟨w.heap.size, 3, none⟩) hX1.lt).trans (hX1.cell 3), (hw.cell (p := ⟨w.heap.size, 4, none⟩) hX1.lt).trans (hX1.cell 4), (hw.cell (p := ⟨w.heap.size + 1, 0, none⟩) hX2.lt).trans (hX2.cell 0), (hw.cell (p := ⟨w.heap.size + 1, 1, none⟩) hX2.lt).trans (hX2.cell 1), (hw.cell (p := ⟨w.heap.size + 1, 2, none⟩) hX2.lt).trans (hX2.cell 2), (hw.cell (p := ⟨w.heap.size + 1, 3, none⟩) hX2.lt).trans (hX2.cell 3), (hw.cell (p := ⟨w.heap.size + 1, 4, none⟩) hX2.lt).trans (hX2.cell 4), hw⟩)
  go_cut [6] (fun p wx => p = .pointer (some ⟨w.heap.size + 3, 0, none⟩) ∧ Blk wx (w.heap.size + 3) 29 #[.int .i64 (meetE x y).a, .int .i64 (meetE x y).b, .int .i64 (meetE x y).lo, .int .i64 (meetE x y).hi, .int .i64 (meetE x y).to] ∧ Below X.heap.size X wx)
  case first =>
    go_region_held3 (fun w' => w'.cell? ⟨w.heap.size, 0, none⟩ = some (.int .i64 x.a) ∧ w'.cell? ⟨w.heap.size, 1, none⟩ = some (.int .i64 x.b) ∧ w'.cell? ⟨w.heap.size, 2, none⟩ = some (.int .i64 x.lo) ∧ w'.cell? ⟨w.heap.size, 3, none⟩ = some (.int .i64 x.hi) ∧ w'.cell? ⟨w.heap.size, 4, none⟩ = some (.int .i64 x.to) ∧ w'.cell? ⟨w.heap.size + 1, 0, none⟩ = some (.int .i64 y.a) ∧ w'.cell? ⟨w.heap.size + 1, 1, none⟩ = some (.int .i64 y.b) ∧ w'.cell? ⟨w.heap.size + 1, 2, none⟩ = some (.int .i64 y.lo) ∧ w'.cell? ⟨w.heap.size + 1, 3, none⟩ = some (.int .i64 y.hi) ∧ w'.cell? ⟨w.heap.size + 1, 4, none⟩ = some (.int .i64 y.to) ∧ Below X.heap.size X w')
      ((go_split_ands; refine HS.out _ ?_; repeat (first | (with_reducible assumption) | (with_reducible exact Below.refl _ _) | (with_reducible refine Below.drew ?_) | (with_reducible refine bal ?_ _) | (with_reducible refine bst ?_ (by simp) _))))
      ((first
        | (go_at_call 201; refine (l1Most_any _ _ _).mono ?_; rintro e w' ⟨rfl, rfl⟩)
        | (go_at_call 202; refine (l1Least_any _ _ _).mono ?_; rintro e w' ⟨rfl, rfl⟩)))
    all_goals
      go_wp2_with fail
      go_meet
      exact ⟨rfl, by first | exact hnew _ | exact (hnew _).drew | exact Blk.set5 (hnew _) | exact Blk.set5 (Blk.drew (hnew _)), by repeat (with_reducible first | exact Below.refl _ _ | refine Below.drew ?_ | refine bal ?_ _ | refine bst ?_ (by simp [hXs]) _)⟩
  obtain ⟨rfl, hBm, hbc⟩ := hcut
  clear HS hnew
  have hB1 := hX1.on hbc
  have hB2 := hX2.on hbc
  have hB3 := hX3.on hbc
  have HbC := Lib.hid (bthen hbX hbc)
  clear hX1 hX2 hX3 hbX hXs
  have p0 := hB1.cell 0
  have p1 := hB1.cell 1
  have p2 := hB1.cell 2
  have p3 := hB1.cell 3
  have p4 := hB1.cell 4
  have q0 := hB2.cell 0
  have q1 := hB2.cell 1
  have q2 := hB2.cell 2
  have q3 := hB2.cell 3
  have q4 := hB2.cell 4
  have r0 := hB3.cell 0
  have r1 := hB3.cell 1
  have r2 := hB3.cell 2
  have r3 := hB3.cell 3
  have r4 := hB3.cell 4
  have t0 := hBm.cell 0
  have t1 := hBm.cell 1
  have t2 := hBm.cell 2
  have t3 := hBm.cell 3
  have t4 := hBm.cell 4
  have l1 := hB1.lt
  have l2 := hB2.lt
  have l3 := hB3.lt
  have l4 := hBm.lt
  have z0 := hB3.frozen 0
  have z1 := hB3.frozen 1
  have z2 := hB3.frozen 2
  have z3 := hB3.frozen 3
  have z4 := hB3.frozen 4
  have hok : okMeet x y = (!tornB x y && decide ((meetE x y).lo ≤ (meetE x y).hi)) := rfl
  generalize hm : meetE x y = m at *
  have Hm := Lib.hid hm; clear hm
  clear hB1 hB2 hB3 hBm hbc
  by_cases h1 : m.hi < m.lo
  · have Hno := Lib.hid (show okMeet x y = false by rw [hok, decide_eq_false (by omega), Bool.and_false])
    clear hok
    have hd : decide (m.hi < m.lo) = true := decide_eq_true h1
    go_wp2
    exact bodyPost_ret (v := .tuple #[.agg #[.int .i64 0, .int .i64 0, .int .i64 0, .int .i64 0, .int .i64 0], .bool false]) (by simp [results, Tryz.results198, go_sem, r0, r1, r2, r3, r4]) rfl ⟨⟨⟨0, 0, 0, 0, 0⟩, by rw [Hno.out], fun h => by rw [Hno.out] at h; cases h⟩, by repeat (with_reducible first | exact Below.refl _ _ | exact HbC.out | (refine bst ?_ (by first | omega | (simp; done) | (simp; omega)) _))⟩
  · have hd : decide (m.hi < m.lo) = false := decide_eq_false h1
    rw [decide_eq_true (show m.lo ≤ m.hi by omega), Bool.and_true] at hok
    by_cases h2 : 0 < x.to
    · have hd2 : decide (0 < x.to) = true := decide_eq_true h2
      by_cases h3 : 0 < y.to
      · have hd3 : decide (0 < y.to) = true := decide_eq_true h3
        by_cases h4 : x.to = y.to
        · have Hyes := Lib.hid (show okMeet x y = true by rw [hok]; simp [tornB, h4])
          clear hok
          have hd4 : (x.to != y.to) = false := by simp [h4]
          go_wp2
          exact bodyPost_ret (v := .tuple #[.agg #[.int .i64 m.a, .int .i64 m.b, .int .i64 m.lo, .int .i64 m.hi, .int .i64 m.to], .bool true]) (by simp [results, Tryz.results198, go_sem, r0, r1, r2, r3, r4]) rfl ⟨⟨m, by rw [Hyes.out], fun _ => Hm.out.symm⟩, by repeat (with_reducible first | exact Below.refl _ _ | exact HbC.out | (refine bst ?_ (by first | omega | (simp; done) | (simp; omega)) _))⟩
        · have Hno := Lib.hid (show okMeet x y = false by rw [hok]; simp [tornB, h4]; omega)
          clear hok
          have hd4 : (x.to != y.to) = true := by simp [h4]
          go_wp2
          exact bodyPost_ret (v := .tuple #[.agg #[.int .i64 0, .int .i64 0, .int .i64 0, .int .i64 0, .int .i64 0], .bool false]) (by simp [results, Tryz.results198, go_sem, r0, r1, r2, r3, r4]) rfl ⟨⟨⟨0, 0, 0, 0, 0⟩, by rw [Hno.out], fun h => by rw [Hno.out] at h; cases h⟩, by repeat (with_reducible first | exact Below.refl _ _ | exact HbC.out | (refine bst ?_ (by first | omega | (simp; done) | (simp; omega)) _))⟩
      · have Hyes := Lib.hid (show okMeet x y = true by rw [hok]; simp [tornB, show y.to = 0 by omega])
        clear hok
        have hd3 : decide (0 < y.to) = false := decide_eq_false h3
        go_wp2
        exact bodyPost_ret (v := .tuple #[.agg #[.int .i64 m.a, .int .i64 m.b, .int .i64 m.lo, .int .i64 m.hi, .int .i64 m.to], .bool true]) (by simp [results, Tryz.results198, go_sem, r0, r1, r2, r3, r4]) rfl ⟨⟨m, by rw [Hyes.out], fun _ => Hm.out.symm⟩, by repeat (with_reducible first | exact Below.refl _ _ | exact HbC.out | (refine bst ?_ (by first | omega | (simp; done) | (simp; omega)) _))⟩
    · have Hyes := Lib.hid (show okMeet x y = true by rw [hok]; simp [tornB, show x.to = 0 by omega])
      clear hok
      have hd2 : decide (0 < x.to) = false := decide_eq_false h2
      go_wp2
      exact bodyPost_ret (v := .tuple #[.agg #[.int .i64 m.a, .int .i64 m.b, .int .i64 m.lo, .int .i64 m.hi, .int .i64 m.to], .bool true]) (by simp [results, Tryz.results198, go_sem, r0, r1, r2, r3, r4]) rfl ⟨⟨m, by rw [Hyes.out], fun _ => Hm.out.symm⟩, by repeat (with_reducible first | exact Below.refl _ _ | exact HbC.out | (refine bst ?_ (by first | omega | (simp; done) | (simp; omega)) _))⟩
end
section
open Go Go.RowKit

def cmpE (x y : En) : Int := cmpC x.a x.b y.a y.b
def entE (y : En) : Bool := entB y.a y.b y.lo y.hi y.to
def swapE (es : List En) (k : Nat) (m : En) : List En := es.take k ++ m :: es.drop (k + 1)
/-- The catalogue with an entry in its place, or met. -/
def tightO (es : List En) (y : En) : Option (List En) :=
  if atB es (placeN es y.a y.b) y.a y.b then if okMeet (enS.get es (placeN es y.a y.b)) y then some (swapE es (placeN es y.a y.b) (meetE (enS.get es (placeN es y.a y.b)) y)) else none
  else some (ins es (placeN es y.a y.b) y)
def foldO (es : List En) (bs : List En) : Option (List En) := bs.foldl (fun o y => o.bind (fun z => tightO z y)) (some es)
def okCat (es : List En) : Prop := ∀ k, k < es.length → okAt es k = true

theorem okAtE (es : List En) (k : Nat) : okAt es k = (entE (enS.get es k) && (k == 0 || decide (cmpE (enS.get es (k - 1)) (enS.get es k) < 0))) := rfl
theorem getE_ins (es : List En) (k : Nat) (y : En) (hk : k ≤ es.length) (j : Nat) : enS.get (ins es k y) j = if j < k then enS.get es j else if j = k then y else enS.get es (j - 1) := by
  unfold ins Shape.get
  rw [List.getD_eq_getElem?_getD, List.getD_eq_getElem?_getD, List.getD_eq_getElem?_getD]
  by_cases h1 : j < k
  · rw [if_pos h1, List.getElem?_append_left (by rw [List.length_take]; omega), List.getElem?_take, if_pos h1]
  · rw [if_neg h1, List.getElem?_append_right (by rw [List.length_take]; omega), List.length_take, Nat.min_eq_left hk]
    by_cases h2 : j = k
    · subst h2; rw [if_pos rfl, Nat.sub_self]; rfl
    · rw [if_neg h2]
      obtain ⟨d, hd⟩ : ∃ d, j - k = d + 1 := ⟨j - k - 1, by omega⟩
      rw [hd, List.getElem?_cons_succ, List.getElem?_drop, show k + d = j - 1 by omega]
theorem swapE_set (es : List En) (k : Nat) (m : En) (hk : k < es.length) : swapE es k m = es.set k m := by
  unfold swapE
  rw [List.set_eq_take_append_cons_drop, if_pos hk]
theorem length_swapE (es : List En) (k : Nat) (m : En) (hk : k < es.length) : (swapE es k m).length = es.length := by rw [swapE_set es k m hk, List.length_set]
theorem getE_swap (es : List En) (k : Nat) (m : En) (hk : k < es.length) (j : Nat) : enS.get (swapE es k m) j = if j = k then m else enS.get es j := by
  rw [swapE_set es k m hk]
  unfold Shape.get
  rw [List.getD_eq_getElem?_getD, List.getD_eq_getElem?_getD, List.getElem?_set]
  by_cases h : k = j
  · subst h; rw [if_pos rfl, if_pos hk, if_pos rfl]; rfl
  · rw [if_neg h, if_neg (fun e => h e.symm)]
theorem cmpE_trans {x y z : En} (h1 : cmpE x y < 0) (h2 : cmpE y z < 0) : cmpE x z < 0 := by
  unfold cmpE at *
  rw [cmpC_lt] at *
  omega
theorem cmpE_neg {x y : En} (h1 : ¬ cmpE x y < 0) (h2 : ¬ (x.a = y.a ∧ x.b = y.b)) : cmpE y x < 0 := by
  unfold cmpE at *
  rw [cmpC_lt] at *
  omega
theorem catE_lt {es : List En} (hv : okCat es) {i j : Nat} (hij : i < j) (hj : j < es.length) : cmpE (enS.get es i) (enS.get es j) < 0 := cat_lt hv hij hj
theorem okE_ent {es : List En} {k : Nat} (h : okAt es k = true) : entE (enS.get es k) = true := okAt_ent h
theorem placeN_spec (es : List En) (y : En) : placeN es y.a y.b ≤ es.length ∧ (∀ j, j < placeN es y.a y.b → cmpE (enS.get es j) y < 0) ∧ (placeN es y.a y.b < es.length → ¬ cmpE (enS.get es (placeN es y.a y.b)) y < 0) := by
  obtain ⟨h1, h2, h3, h4⟩ := lead_spec (befB es y.a y.b) es.length 0
  refine ⟨by unfold placeN; omega, fun j hj => by simpa [cmpE, befB] using h3 j (Nat.zero_le _) hj, fun h => ?_⟩
  have := h4 (by unfold placeN at h; omega)
  simpa [placeN, cmpE, befB] using this
theorem meet_ent {x y : En} (hx : entE x = true) (hy : entE y = true) (hok : okMeet x y = true) : entE (meetE x y) = true := by
  have h1 := entB_bd hx
  have h2 := entB_bd hy
  unfold okMeet at hok
  simp only [Bool.and_eq_true, decide_eq_true_eq] at hok
  obtain ⟨-, h3⟩ := hok
  unfold entE entB
  rw [Bool.and_eq_true]
  refine ⟨entB_curve hx, ?_⟩
  rw [decide_eq_true_eq]
  simp only [meetE]
  unfold mostI leastI at *
  split at h3 <;> split at h3 <;> (split <;> omega)
theorem atB_spec {es : List En} {k : Nat} {a b : Int} (h : atB es k a b = true) : k < es.length ∧ (enS.get es k).a = a ∧ (enS.get es k).b = b := by
  unfold atB isCu at h
  simpa using h
theorem tight_ok {es : List En} {y : En} (hv : okCat es) (hy : entE y = true) {z : List En} (h : tightO es y = some z) : okCat z := by
  obtain ⟨hk, hlow, hhi⟩ := placeN_spec es y
  unfold tightO at h
  generalize placeN es y.a y.b = k at *
  split at h
  · rename_i hat
    obtain ⟨hlt, ha, hb⟩ := atB_spec hat
    split at h
    · rename_i hok
      cases h
      have key : ∀ x : En, (cmpE x (meetE (enS.get es k) y) < 0 ↔ cmpE x (enS.get es k) < 0) ∧ (cmpE (meetE (enS.get es k) y) x < 0 ↔ cmpE (enS.get es k) x < 0) := fun x => ⟨Iff.rfl, Iff.rfl⟩
      have hme := meet_ent (okE_ent (hv k hlt)) hy hok
      generalize meetE (enS.get es k) y = m at *
      intro j hj
      rw [length_swapE _ _ _ hlt] at hj
      rw [okAtE, getE_swap _ _ _ hlt, getE_swap _ _ _ hlt]
      by_cases h1 : j = k
      · subst h1
        rw [if_pos rfl, hme, Bool.true_and]
        by_cases h2 : j = 0
        · simp [h2]
        · rw [if_neg (by omega), decide_eq_true (((key _).1).2 (catE_lt hv (by omega) hlt)), Bool.or_true]
      · rw [if_neg h1, okE_ent (hv j hj), Bool.true_and]
        by_cases h2 : j = 0
        · simp [h2]
        · by_cases h3 : j - 1 = k
          · rw [if_pos h3, decide_eq_true (((key _).2).2 (catE_lt hv (by omega) hj)), Bool.or_true]
          · rw [if_neg h3, decide_eq_true (catE_lt hv (by omega) hj), Bool.or_true]
    · cases h
  · rename_i hat
    cases h
    intro j hj
    rw [length_ins] at hj
    rw [okAtE, getE_ins _ _ _ hk, getE_ins _ _ _ hk]
    by_cases h1 : j < k
    · rw [if_pos h1, if_pos (by omega)]
      have := hv j (by omega)
      rwa [okAtE] at this
    · rw [if_neg h1]
      by_cases h2 : j = k
      · subst h2
        rw [if_pos rfl, hy, Bool.true_and]
        by_cases h3 : j = 0
        · simp [h3]
        · rw [if_pos (by omega), decide_eq_true (hlow (j - 1) (by omega)), Bool.or_true]
      · rw [if_neg h2, if_neg (by omega), okE_ent (hv (j - 1) (by omega)), Bool.true_and]
        by_cases h3 : j - 1 = k
        · rw [if_pos h3, h3]
          have h4 : k < es.length := by omega
          have h6 : ¬ ((enS.get es k).a = y.a ∧ (enS.get es k).b = y.b) := fun e => hat (by unfold atB isCu; simp [h4, e.1, e.2])
          rw [decide_eq_true (cmpE_neg (hhi h4) h6), Bool.or_true]
        · rw [if_neg h3]
          have := catE_lt hv (show j - 1 - 1 < j - 1 by omega) (by omega)
          rw [decide_eq_true this, Bool.or_true]
theorem tight_len {es : List En} {y : En} {z : List En} (h : tightO es y = some z) : z.length ≤ es.length + 1 := by
  unfold tightO at h
  split at h
  · rename_i hat
    split at h
    · cases h; rw [length_swapE _ _ _ (atB_spec hat).1]; omega
    · cases h
  · cases h; rw [length_ins]; omega
theorem foldO_zero (es bs : List En) : foldO es (bs.take 0) = some es := by simp [foldO]
theorem foldO_succ (es : List En) {bs : List En} {k : Nat} (hk : k < bs.length) : foldO es (bs.take (k + 1)) = (foldO es (bs.take k)).bind (fun z => tightO z (enS.get bs k)) := by
  have : bs.take (k + 1) = bs.take k ++ [enS.get bs k] := by
    rw [List.take_add_one, List.getElem?_eq_getElem hk]
    simp [Shape.get, List.getD_eq_getElem?_getD, List.getElem?_eq_getElem hk]
  unfold foldO
  rw [this, List.foldl_append]
  rfl
theorem foldO_none (es : List En) : ∀ bs : List En, bs.foldl (fun o y => o.bind (fun z => tightO z y)) (none : Option (List En)) = none
  | [] => rfl
  | _ :: bs => foldO_none es bs
theorem foldO_stop {es bs : List En} {k : Nat} (h : foldO es (bs.take k) = none) : foldO es bs = none := by
  have : bs = bs.take k ++ bs.drop k := (List.take_append_drop k bs).symm
  rw [this]
  unfold foldO at h ⊢
  rw [List.foldl_append, h]
  exact foldO_none es _
def mergeV (xs bs : List En) : List En × Bool := match foldO xs bs with
  | some z => if z.length ≤ 12 then (z, true) else ([], false)
  | none => ([], false)
def mergeG (xs bs : List En) : List En × Bool := if catB xs && catB bs then mergeV xs bs else ([], false)
theorem mergeV_len {xs bs : List En} (y : List En) (b : Bool) (h : mergeV xs bs = (y, b)) : y.length ≤ 12 := by
  unfold mergeV at h
  split at h
  · split at h
    · obtain ⟨rfl, -⟩ := Prod.mk.inj h; assumption
    · obtain ⟨rfl, -⟩ := Prod.mk.inj h; simp
  · obtain ⟨rfl, -⟩ := Prod.mk.inj h; simp
theorem mergeG_len {xs bs : List En} (y : List En) (b : Bool) (h : mergeG xs bs = (y, b)) : y.length ≤ 12 := by
  unfold mergeG at h
  split at h
  · exact mergeV_len y b h
  · obtain ⟨rfl, -⟩ := Prod.mk.inj h; simp
def tightG (xs : List En) (y : En) : List En × Bool := if catB xs && entE y then mergeV xs [y] else ([], false)
theorem tightG_len {xs : List En} {e : En} (y : List En) (b : Bool) (h : tightG xs e = (y, b)) : y.length ≤ 12 := by
  unfold tightG at h
  split at h
  · exact mergeV_len y b h
  · obtain ⟨rfl, -⟩ := Prod.mk.inj h; simp
theorem mergeV_one (xs : List En) (y : En) : mergeV xs [y] = match tightO xs y with
  | some z => if z.length ≤ 12 then (z, true) else ([], false)
  | none => ([], false) := by
  unfold mergeV foldO
  simp
end
section
open Go Go.RowKit

end
section
open Go Go.RowKit

end
section
open Go Go.RowKit

end
section
open Go Go.RowKit

theorem own_en {w : World} {B g n cap : Nat} {ys : List En} (h : w.ownsRow B 29 5 (.slice (some ⟨g, 0, none⟩) n cap) n (enS.flat ys)) (hl : ys.length = n) {k : Nat} (hk : k < n) :
    w.cell? ⟨g, k * 5, none⟩ = some (.int .i64 (enS.get ys k).a) ∧ w.cell? ⟨g, k * 5 + 1, none⟩ = some (.int .i64 (enS.get ys k).b) ∧ w.cell? ⟨g, k * 5 + 2, none⟩ = some (.int .i64 (enS.get ys k).lo) ∧ w.cell? ⟨g, k * 5 + 3, none⟩ = some (.int .i64 (enS.get ys k).hi) ∧ w.cell? ⟨g, k * 5 + 4, none⟩ = some (.int .i64 (enS.get ys k).to) := by
  subst hl
  have key : ∀ r, r < 5 → w.cell? ⟨g, k * 5 + r, none⟩ = some (enS.cell (enS.get ys k) r) := fun r hr => by
    rw [h.cellAt (k * 5 + r) (by omega)]
    exact Shape.flat_at (S := enS) ys k r hk hr
  exact ⟨key 0 (by omega), key 1 (by omega), key 2 (by omega), key 3 (by omega), key 4 (by omega)⟩
theorem get_dropEn {ys es : List En} {j : Nat} (h : ys.drop j = es.drop j) : enS.get ys j = enS.get es j := by
  have h1 : (ys.drop j)[0]? = (es.drop j)[0]? := by rw [h]
  rw [List.getElem?_drop, List.getElem?_drop, Nat.add_zero] at h1
  simp [Shape.get, List.getD_eq_getElem?_getD, h1]
theorem putEn (w : World) (g o : Nat) (x : En) : w.setCells g o (enS.cells x) = (((((w.setCell ⟨g, o, none⟩ (.int .i64 x.a)).setCell ⟨g, o + 1, none⟩ (.int .i64 x.b)).setCell ⟨g, o + 2, none⟩ (.int .i64 x.lo)).setCell ⟨g, o + 3, none⟩ (.int .i64 x.hi)).setCell ⟨g, o + 4, none⟩ (.int .i64 x.to)) := rfl
theorem infoEn2 : (Tryz.prog.info? 29).map (fun i => (i.zero, i.size, i.bytes)) = some (some (.agg #[.int .i64 0, .int .i64 0, .int .i64 0, .int .i64 0, .int .i64 0]), 5, 40) := by kernel_rfl
theorem en_one (es : List En) : ∀ u ∈ enS.flat es, u.oneCell' = true := by
  intro u hu
  unfold Shape.flat at hu
  rw [List.mem_flatMap] at hu
  obtain ⟨x, -, hx⟩ := hu
  unfold Shape.cells at hx
  rw [List.mem_map] at hx
  obtain ⟨j, -, rfl⟩ := hx
  simp only [enS]
  split <;> rfl
theorem en_flat_cells {w : World} {hi c : Nat} {a : Addr} {es : List En} (h : Rd enS w hi (.slice (some a) es.length c) es) :
    ∀ j u, (enS.flat es)[j]? = some u → w.cell? (a.add j) = some u := by
  intro j u hj
  have hl : j < (enS.flat es).length := (List.getElem?_eq_some_iff.1 hj).1
  rw [Shape.length_flat] at hl
  change j < es.length * 5 at hl
  obtain ⟨A, c', hv, -, -, hA⟩ := h
  obtain ⟨g, off, rfl, -, hc⟩ := hA (by omega)
  cases hv
  have h1 : j / 5 < es.length := by omega
  have h2 : j % 5 < 5 := by omega
  have h3 := Shape.flat_at (S := enS) es (j / 5) (j % 5) h1 h2
  have h4 := hc (j / 5) h1 (j % 5) h2
  change (enS.flat es)[j / 5 * 5 + j % 5]? = _ at h3
  change w.cell? ⟨g, off + j / 5 * 5 + j % 5, none⟩ = _ at h4
  rw [show j / 5 * 5 + j % 5 = j by omega] at h3
  rw [show off + j / 5 * 5 + j % 5 = off + j by omega] at h4
  rw [hj] at h3
  rw [h3]
  by_cases h0 : j = 0
  · subst h0; simpa [Addr.add] using h4
  · simpa [Addr.add, h0] using h4
theorem oneEn_cells {w : World} {b : Nat} {x : En} (h : Blk w b 29 #[.int .i64 x.a, .int .i64 x.b, .int .i64 x.lo, .int .i64 x.hi, .int .i64 x.to]) : ∀ j u, (enS.flat [x])[j]? = some u → w.cell? ((⟨b, 0, none⟩ : Addr).add j) = some u := by
  intro j u hj
  have hj2 : ((#[.int .i64 x.a, .int .i64 x.b, .int .i64 x.lo, .int .i64 x.hi, .int .i64 x.to] : Array Value).toList)[j]? = some u := hj
  rw [Array.getElem?_toList] at hj2
  rw [← hj2, ← h.cell j]
  unfold Addr.add
  by_cases h0 : j = 0 <;> simp [h0]

set_option maxRecDepth 8000 in
set_option maxHeartbeats 1600000 in
theorem cloneEn_any (v : Value) (es : List En) (w : World) (h : Rd enS w w.heap.size v es) (hlen : es.length ≤ 1048576) :
    Calls Tryz.prog 90 #[v] w fun e w' => ∃ v', e = .returned v' ∧ w'.ownsRow w.heap.size 29 5 v' es.length (enS.flat es) ∧ Below w.heap.size w w' := by
  obtain ⟨i0, hi, hz0, hz1, hz2⟩ := info_parts infoEn2
  have hr := h
  obtain ⟨A, c, rfl, -, -, hA⟩ := h
  cases A with
  | none =>
    obtain rfl : es = [] := by
      rcases Nat.eq_zero_or_pos es.length with h0 | h0
      · exact List.eq_nil_of_length_eq_zero h0
      · obtain ⟨g, off, h1, -⟩ := hA h0
        cases h1
    clear hA hr
    have hql : ∀ W, (binOp .eql 23 (.slice none 0 c) (.slice none 0 0)).run Tryz.prog W = .ok (.bool true) W := fun W => by first | rfl | kernel_rfl | simp [go_sem, binOp]
    show Calls _ _ #[.slice none 0 c] _ _
    go_enter Tryz.func90, Tryz.ntmps90
    go_wp2
    go_ret
    exact ⟨_, rfl, ⟨rfl, Or.inl ⟨rfl, rfl⟩⟩, Below.refl _ _⟩
  | some a =>
    have hql : ∀ W, (binOp .eql 23 (.slice (some a) es.length c) (.slice none 0 0)).run Tryz.prog W = .ok (.bool false) W := fun W => by first | rfl | kernel_rfl | simp [go_sem, binOp]
    have hcells := en_flat_cells hr
    have Hlt : Hid (∀ (j : Nat) (u : Value), (enS.flat es)[j]? = some u → (a.add j).block < w.heap.size) := Lib.hid (fun j u hj => World.block_lt_of_cell? w _ (hcells j u hj))
    have Hc := Lib.hid hcells
    clear hcells hA hr
    go_enter Tryz.func90, Tryz.ntmps90
    have hown0 := Lib.hid (World.ownsRow_lit (base := w.heap.size) (e := 29) (size := 5) w #[] 0 (Nat.le_refl _) (by unfold maxLen; omega) rfl)
    go_wp2_with (at_builtin; refine wpList_append_own _ rfl _ _ 23 rfl w.heap.size 29 i0 (.agg #[.int .i64 0, .int .i64 0, .int .i64 0, .int .i64 0, .int .i64 0]) 5 40 Tryz.underlying23 hi hz0 hz1 hz2 rfl (by decide) _ _ _ rfl hown0.out a es.length c (enS.flat es) rfl (Shape.length_flat es) ?c1 (en_one es) ?c3 ?c4 (by simp) ?_)
    case c1 =>
      intro j u hj
      rw [World.cell?_alloc_lt _ _ _ (Hlt.out j u hj)]
      exact Hc.out j u hj
    case c3 => unfold maxLen; omega
    case c4 => omega
    intro v' w3 hown' hgrow _
    have hbn : Below w.heap.size w w3 := Below.grown (bal (Below.refl _ _) _) hgrow (by simp) (fun j hj => (hown0.out.lt j hj).1)
    have Hown' := Lib.hid hown'
    clear hown' hgrow
    go_wp2
    go_ret
    exact ⟨_, rfl, by have := Hown'.out; simpa using this, hbn⟩
end
end Go.Proofs.YtimfoodbolokdaaGreatDoor
