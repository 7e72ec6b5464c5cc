/- Own texts put together: The least group with some classes: what both sides build; Classes and their products: the walks of both sides; The least group with some classes: the walks of both sides; Is a list a group, and its rank: the walks of both sides. Conditions: those of each theorem. -/
import Derived.Test.YthdfpfhkmfmnbaaGreatRcM12
import Derived.Lib.ItoaNum
namespace Go.Proofs.YthdfpfhkmfmnbaaGreat
section
open Go Go.RowKit Go.Lib

/-- Is a number a class? -/
def clB (d : Int) : Bool := (decide (-1000000 ≤ d ∧ d ≤ 1000000) && decide (d ≠ 0)) && decide (clV d = d)
theorem clB_bd {d : Int} (h : clB d = true) : d ≠ 0 ∧ -1000000 ≤ d ∧ d ≤ 1000000 := by
  unfold clB at h
  rw [Bool.and_eq_true, Bool.and_eq_true, decide_eq_true_eq, decide_eq_true_eq] at h
  exact ⟨h.1.2, h.1.1⟩
def pdL (d : Int) (Y : List Int) : List Int := Y.map (pdV d)
structure GG (Y : List Int) : Prop where
  nd : Y.Nodup
  sq : ∀ x ∈ Y, Sqf x
  one : (1 : Int) ∈ Y
  cl : ∀ x ∈ Y, ∀ y ∈ Y, pdV x y ∈ Y
theorem GG.start : GG [1] := by
  refine ⟨by decide, fun x hx => ?_, by simp, fun x hx y hy => ?_⟩
  · rw [List.mem_singleton.1 hx]; exact sqf_one
  · rw [List.mem_singleton.1 hx, List.mem_singleton.1 hy, pd_one sqf_one]; exact List.mem_singleton.2 rfl
theorem mem_pdL {d x : Int} {Y : List Int} : x ∈ pdL d Y ↔ ∃ y ∈ Y, x = pdV d y := by
  unfold pdL
  rw [List.mem_map]
  exact ⟨fun ⟨y, h1, h2⟩ => ⟨y, h1, h2.symm⟩, fun ⟨y, h1, h2⟩ => ⟨y, h1, h2.symm⟩⟩
theorem GG.step {d : Int} {Y : List Int} (hd : Sqf d) (h : GG Y) (hn : d ∉ Y) : GG (Y ++ pdL d Y) := by
  have key : ∀ y ∈ Y, pdV d y ∉ Y := by
    intro y hy hin
    have h1 := h.cl _ hin _ hy
    rw [pd_comm (pd_sqf hd (h.sq y hy)) (h.sq y hy), pd_comm hd (h.sq y hy), pd_inv (h.sq y hy) hd] at h1
    exact hn h1
  refine ⟨?_, ?_, List.mem_append.2 (.inl h.one), ?_⟩
  · rw [List.nodup_append]
    refine ⟨h.nd, ?_, fun x hx y hy => ?_⟩
    · unfold pdL
      rw [List.nodup_iff_pairwise_ne, List.pairwise_map]
      refine (List.Pairwise.imp_of_mem ?_ (List.nodup_iff_pairwise_ne.1 h.nd))
      intro x y hx hy hne e
      apply hne
      rw [← pd_inv hd (h.sq x hx), e, pd_inv hd (h.sq y hy)]
    · rintro rfl
      obtain ⟨z, hz, rfl⟩ := mem_pdL.1 hy
      exact key z hz hx
  · intro x hx
    rcases List.mem_append.1 hx with hx | hx
    · exact h.sq x hx
    · obtain ⟨z, hz, rfl⟩ := mem_pdL.1 hx
      exact pd_sqf hd (h.sq z hz)
  · intro x hx y hy
    rcases List.mem_append.1 hx with hx | hx <;> rcases List.mem_append.1 hy with hy | hy
    · exact List.mem_append.2 (.inl (h.cl x hx y hy))
    · obtain ⟨z, hz, rfl⟩ := mem_pdL.1 hy
      rw [pd_shift hd (h.sq x hx) (h.sq z hz)]
      exact List.mem_append.2 (.inr (mem_pdL.2 ⟨_, h.cl x hx z hz, rfl⟩))
    · obtain ⟨z, hz, rfl⟩ := mem_pdL.1 hx
      rw [pd_comm (pd_sqf hd (h.sq z hz)) (h.sq y hy), pd_shift hd (h.sq y hy) (h.sq z hz)]
      exact List.mem_append.2 (.inr (mem_pdL.2 ⟨_, h.cl y hy z hz, rfl⟩))
    · obtain ⟨z, hz, rfl⟩ := mem_pdL.1 hx
      obtain ⟨u, hu, rfl⟩ := mem_pdL.1 hy
      rw [pd_both hd (h.sq z hz) (h.sq u hu)]
      exact List.mem_append.2 (.inl (h.cl z hz u hu))
/-- The reference's group. -/
def gpS : List Int → List Int → Option (List Int)
  | [], X => some X
  | d :: l, X => if hasI X d = true then gpS l X else if X.all (fun e => clB (pdV d e)) = true then (if 64 < (putL X (pdL d X)).length then none else gpS l (putL X (pdL d X))) else none
/-- The program's group, unsorted. -/
def gpI : List Int → List Int → Option (List Int)
  | [], Y => some Y
  | d :: l, Y => if hasI Y d = true then gpI l Y else if Y.all (fun e => clB (pdV d e)) = true then (if 64 < Y.length + Y.length then none else gpI l (Y ++ pdL d Y)) else none
theorem has_iff {X : List Int} {d : Int} : hasI X d = true ↔ d ∈ X := by unfold hasI; exact decide_eq_true_iff
theorem gp_eq : ∀ {l X Y : List Int}, (∀ d ∈ l, Sqf d) → Inc X → GG Y → (∀ x, x ∈ X ↔ x ∈ Y) → gpS l X = (gpI l Y).map srI ∧ ∀ Z, gpI l Y = some Z → GG Z ∧ (∀ d ∈ l, d ∈ Z) ∧ ∀ x ∈ Y, x ∈ Z
  | [], X, Y, _, hX, hY, h => by
    unfold gpS gpI
    refine ⟨?_, fun Z hZ => ?_⟩
    · rw [Option.map_some, inc_eq hX (srI_inc hY.nd) (fun x => by rw [h, mem_srI])]
    · obtain rfl := Option.some.inj hZ
      exact ⟨hY, by simp, fun x hx => hx⟩
  | d :: l, X, Y, hl, hX, hY, h => by
    have hd := hl d (List.mem_cons_self ..)
    have hl' : ∀ x ∈ l, Sqf x := fun x hx => hl x (List.mem_cons_of_mem _ hx)
    have hh : hasI X d = hasI Y d := by unfold hasI; exact decide_eq_decide.2 (h d)
    unfold gpS gpI
    rw [hh]
    by_cases h1 : hasI Y d = true
    · rw [if_pos h1, if_pos h1]
      obtain ⟨e1, e2⟩ := gp_eq hl' hX hY h
      refine ⟨e1, fun Z hZ => ?_⟩
      obtain ⟨g1, g2, g3⟩ := e2 Z hZ
      refine ⟨g1, fun x hx => ?_, g3⟩
      rcases List.mem_cons.1 hx with rfl | hx
      · exact g3 x (has_iff.1 h1)
      · exact g2 x hx
    · rw [if_neg h1, if_neg h1]
      have hall : X.all (fun e => clB (pdV d e)) = Y.all (fun e => clB (pdV d e)) := by
        rw [Bool.eq_iff_iff, List.all_eq_true, List.all_eq_true]
        exact ⟨fun k x hx => k x ((h x).2 hx), fun k x hx => k x ((h x).1 hx)⟩
      rw [hall]
      by_cases h2 : Y.all (fun e => clB (pdV d e)) = true
      · rw [if_pos h2, if_pos h2]
        have hstep := hY.step hd (fun e => h1 (has_iff.2 e))
        have hinc : Inc (putL X (pdL d X)) := putL_inc hX
        have hmem : ∀ x, x ∈ putL X (pdL d X) ↔ x ∈ Y ++ pdL d Y := by
          intro x
          rw [mem_putL, List.mem_append, h, mem_pdL, mem_pdL]
          exact or_congr Iff.rfl ⟨fun ⟨y, a, b⟩ => ⟨y, (h y).1 a, b⟩, fun ⟨y, a, b⟩ => ⟨y, (h y).2 a, b⟩⟩
        have hlen : (putL X (pdL d X)).length = Y.length + Y.length := by
          have a1 := len_sub hinc.nodup (fun x hx => (hmem x).1 hx)
          have a2 := len_sub hstep.nd (fun x hx => (hmem x).2 hx)
          rw [List.length_append] at a1 a2
          unfold pdL at a1 a2
          rw [List.length_map] at a1 a2
          unfold pdL; omega
        rw [hlen]
        by_cases h3 : 64 < Y.length + Y.length
        · rw [if_pos h3, if_pos h3]
          exact ⟨rfl, fun Z hZ => by cases hZ⟩
        · rw [if_neg h3, if_neg h3]
          obtain ⟨e1, e2⟩ := gp_eq hl' hinc hstep hmem
          refine ⟨e1, fun Z hZ => ?_⟩
          obtain ⟨g1, g2, g3⟩ := e2 Z hZ
          refine ⟨g1, fun x hx => ?_, fun x hx => g3 x (List.mem_append.2 (.inl hx))⟩
          rcases List.mem_cons.1 hx with rfl | hx
          · refine g3 x (List.mem_append.2 (.inr (mem_pdL.2 ⟨1, hY.one, (pd_one hd).symm⟩)))
          · exact g2 x hx
      · rw [if_neg h2, if_neg h2]
        exact ⟨rfl, fun Z hZ => by cases hZ⟩
/-- The group of a list. -/
def gpV (l : List Int) : Option (List Int) := gpS l [1]
theorem gp_both {l : List Int} (hl : ∀ d ∈ l, Sqf d) : gpV l = (gpI l [1]).map srI := (gp_eq hl (List.pairwise_singleton _ _) GG.start (fun _ => Iff.rfl)).1
theorem gpI_len : ∀ {l Y Z : List Int}, Y.length ≤ 64 → gpI l Y = some Z → Z.length ≤ 64
  | [], Y, Z, hY, h => by
    obtain rfl := Option.some.inj h
    exact hY
  | d :: l, Y, Z, hY, h => by
    unfold gpI at h
    split at h
    · exact gpI_len hY h
    · split at h
      · split at h
        · cases h
        · rename_i h3
          exact gpI_len (by unfold pdL; rw [List.length_append, List.length_map]; omega) h
      · cases h
theorem gpI_sub {S : Int → Prop} (hS : ∀ x y, S x → S y → S (pdV x y)) : ∀ {l Y Z : List Int}, (∀ d ∈ l, S d) → (∀ y ∈ Y, S y) → gpI l Y = some Z → ∀ z ∈ Z, S z
  | [], Y, Z, _, hY, h => by
    obtain rfl := Option.some.inj h
    exact hY
  | d :: l, Y, Z, hl, hY, h => by
    have hl' : ∀ x ∈ l, S x := fun x hx => hl x (List.mem_cons_of_mem _ hx)
    unfold gpI at h
    split at h
    · exact gpI_sub hS hl' hY h
    · split at h
      · split at h
        · cases h
        · refine gpI_sub hS hl' (fun y hy => ?_) h
          rcases List.mem_append.1 hy with hy | hy
          · exact hY y hy
          · obtain ⟨z, hz, rfl⟩ := mem_pdL.1 hy
            exact hS _ _ (hl d (List.mem_cons_self ..)) (hY z hz)
      · cases h
structure GpG (l X : List Int) : Prop where
  inc : Inc X
  one : (1 : Int) ∈ X
  all : ∀ d ∈ l, d ∈ X
  len : X.length ≤ 64
  sub : ∀ S : Int → Prop, (∀ x y, S x → S y → S (pdV x y)) → (∀ d ∈ l, S d) → S 1 → ∀ z ∈ X, S z
theorem gp_good {l X : List Int} (hl : ∀ d ∈ l, Sqf d) (h : gpV l = some X) : GpG l X := by
  rw [gp_both hl, Option.map_eq_some_iff] at h
  obtain ⟨Z, hZ, rfl⟩ := h
  obtain ⟨g1, g2, g3⟩ := (gp_eq (X := [1]) hl (List.pairwise_singleton _ _) GG.start (fun _ => Iff.rfl)).2 Z hZ
  refine ⟨srI_inc g1.nd, mem_srI.2 g1.one, fun d hd => mem_srI.2 (g2 d hd), ?_, fun S h1 h2 h3 z hz => ?_⟩
  · rw [length_srI]; exact gpI_len (by decide) hZ
  · exact gpI_sub h1 h2 (fun y hy => by rw [List.mem_singleton.1 hy]; exact h3) hZ z (mem_srI.1 hz)
/-! ### Is a list a group; its rank -/
def grB (l : List Int) : Bool := (decide (1 ≤ l.length ∧ l.length ≤ 64) && hasI l 1) && ((l.all clB && decide (l.Pairwise (· < ·))) && l.all (fun d => l.all (fun e => hasI l (pdV d e))))
def lgV : Nat → Nat
  | 0 => 0
  | n + 1 => if n = 0 then 0 else 1 + lgV ((n + 1) / 2)
decreasing_by omega
/-- The rank of a group, if the list is one. -/
def rkV (l : List Int) : Int × Bool := if grB l = true then ((lgV l.length : Nat), true) else (0, false)
structure GrG (l : List Int) : Prop where
  len : 1 ≤ l.length ∧ l.length ≤ 64
  one : (1 : Int) ∈ l
  cls : ∀ d ∈ l, clB d = true
  inc : Inc l
  cl : ∀ d ∈ l, ∀ e ∈ l, pdV d e ∈ l
theorem gr_iff {l : List Int} : grB l = true ↔ GrG l := by
  unfold grB
  rw [Bool.and_eq_true, Bool.and_eq_true, Bool.and_eq_true, Bool.and_eq_true, decide_eq_true_eq, decide_eq_true_eq, has_iff, List.all_eq_true, List.all_eq_true]
  constructor
  · rintro ⟨⟨h1, h2⟩, ⟨h3, h4⟩, h5⟩
    exact ⟨h1, h2, h3, h4, fun d hd e he => has_iff.1 (List.all_eq_true.1 (h5 d hd) e he)⟩
  · rintro ⟨h1, h2, h3, h4, h5⟩
    exact ⟨⟨h1, h2⟩, ⟨h3, h4⟩, fun d hd => List.all_eq_true.2 (fun e he => has_iff.2 (h5 d hd e he))⟩
theorem lg_step {n : Nat} (h : 2 ≤ n) : lgV n = 1 + lgV (n / 2) := by
  obtain ⟨m, rfl⟩ : ∃ m, n = m + 1 := ⟨n - 1, by omega⟩
  rw [lgV, if_neg (by omega)]
theorem lg_one : lgV 1 = 0 := by rw [lgV, if_pos rfl]
theorem lg_zero : lgV 0 = 0 := by rw [lgV]
theorem lg_mono : ∀ (n m : Nat), n ≤ m → lgV n ≤ lgV m := by
  intro n
  induction n using Nat.strongRecOn with
  | ind n ih =>
    intro m h
    rcases Nat.lt_or_ge n 2 with h1 | h1
    · rcases (show n = 0 ∨ n = 1 by omega) with rfl | rfl
      · rw [lg_zero]; omega
      · rw [lg_one]; omega
    · rw [lg_step h1, lg_step (show 2 ≤ m by omega)]
      have := ih (n / 2) (by omega) (m / 2) (by omega)
      omega
theorem lg_64 {n : Nat} (h : n ≤ 64) : lgV n ≤ 6 := by
  have := lg_mono n 64 h
  have e : lgV 64 = 6 := by simp [lg_step, lg_one]
  omega
end
section
open Go Go.RowKit Go.Lib

theorem cl_in {d : Int} : insB d (-1000000) 1000000 = decide (-1000000 ≤ d ∧ d ≤ 1000000) := by
  unfold insB
  rw [Bool.eq_iff_iff]
theorem cl_out {d : Int} (h : ¬ (-1000000 ≤ d ∧ d ≤ 1000000)) : clB d = false := by unfold clB; rw [decide_eq_false h]; rfl
theorem cl_zero {d : Int} (h : d = 0) : clB d = false := by unfold clB; rw [decide_eq_false (p := d ≠ 0) (by omega)]; simp
theorem cl_at {d : Int} (h : -1000000 ≤ d ∧ d ≤ 1000000) (h0 : d ≠ 0) : clB d = decide (clV d = d) := by unfold clB; rw [decide_eq_true h, decide_eq_true h0]; rfl
set_option linter.unusedSimpArgs false in
set_option maxRecDepth 8000 in
set_option maxHeartbeats 800000 in
theorem dsClass_any (d : Int) (w : World) :
    Calls Tryz.prog 88 #[.int .i64 d] w fun e w' => e = .returned (.bool (clB d)) ∧ Below w.heap.size w w' := by
  by_cases h : -1000000 ≤ d ∧ d ≤ 1000000
  · have Hin := Lib.hid (fun w9 => l1In_lit (n := d) (lo := -1000000) (hi := 1000000) (k := true) (by rw [cl_in, decide_eq_true h]) w9)
    by_cases h0 : d = 0
    · have Hv := Lib.hid (cl_zero h0)
      generalize clB d = B at *
      subst h0
      clear h
      go_enter Tryz.func88, Tryz.ntmps88
      go_wp2_with (go_at_call 40; refine (Hin.out _).mono ?_; rintro e w1 ⟨rfl, hb1⟩)
      go_ret
      exact ⟨by rw [Hv.out] <;> rfl, hb1⟩
    · have Hv := Lib.hid (cl_at h h0)
      have Hc := Lib.hid (fun w9 => tcClass_any d w9 h0 (by omega))
      generalize clB d = B at *
      generalize clV d = C at *
      have hd : decide (d = 0) = false := decide_eq_false h0
      have hdn : (d != 0) = true := by simp [h0]
      clear h
      go_enter Tryz.func88, Tryz.ntmps88
      go_wp2_with (first | (go_at_call 40; refine (Hin.out _).mono ?_; rintro e w1 ⟨rfl, hb1⟩) | (go_at_call 60; refine (Hc.out _).mono ?_; rintro e w2 ⟨rfl, hb2⟩))
      go_ret
      exact ⟨by rw [Hv.out] <;> rfl, hb1.trans (hb2.mono hb1.size)⟩
  · have Hin := Lib.hid (fun w9 => l1In_lit (n := d) (lo := -1000000) (hi := 1000000) (k := false) (by rw [cl_in, decide_eq_false h]) w9)
    have Hv := Lib.hid (cl_out h)
    generalize clB d = B at *
    clear h
    go_enter Tryz.func88, Tryz.ntmps88
    go_wp2_with (go_at_call 40; refine (Hin.out _).mono ?_; rintro e w1 ⟨rfl, hb1⟩)
    go_ret
    exact ⟨by rw [Hv.out] <;> rfl, hb1⟩
set_option linter.unusedSimpArgs false in
set_option maxRecDepth 8000 in
set_option maxHeartbeats 800000 in
theorem isClass_any (d : Int) (w : World) :
    Calls Tryz.prog 103 #[.int .i64 d] w fun e w' => e = .returned (.bool (clB d)) ∧ Below w.heap.size w w' := by
  by_cases h0 : d = 0
  · have Hv := Lib.hid (cl_zero h0)
    generalize clB d = B at *
    subst h0
    go_enter Tryz.func103, Tryz.ntmps103
    go_wp2_with fail
    go_ret
    exact ⟨by rw [Hv.out] <;> rfl, Below.refl _ _⟩
  · have hd : decide (d = 0) = false := decide_eq_false h0
    have hdn : (d != 0) = true := by simp [h0]
    by_cases h : -1000000 ≤ d ∧ d ≤ 1000000
    · have Hin := Lib.hid (fun w9 => inside_lit (n := d) (lo := -1000000) (hi := 1000000) (k := true) (by rw [cl_in, decide_eq_true h]) w9)
      have Hv := Lib.hid (cl_at h h0)
      have Hc := Lib.hid (fun w9 => squarefree_any d w9 h0 (by omega))
      generalize clB d = B at *
      generalize clV d = C at *
      clear h
      go_enter Tryz.func103, Tryz.ntmps103
      go_wp2_with (first | (go_at_call 23; refine (Hin.out _).mono ?_; rintro e w1 ⟨rfl, hb1⟩) | (go_at_call 53; refine (Hc.out _).mono ?_; rintro e w2 ⟨rfl, hb2⟩))
      go_ret
      exact ⟨by rw [Hv.out] <;> rfl, hb1.trans (hb2.mono hb1.size)⟩
    · have Hin := Lib.hid (fun w9 => inside_lit (n := d) (lo := -1000000) (hi := 1000000) (k := false) (by rw [cl_in, decide_eq_false h]) w9)
      have Hv := Lib.hid (cl_out h)
      generalize clB d = B at *
      clear h
      go_enter Tryz.func103, Tryz.ntmps103
      go_wp2_with (go_at_call 23; refine (Hin.out _).mono ?_; rintro e w1 ⟨rfl, hb1⟩)
      go_ret
      exact ⟨by rw [Hv.out] <;> rfl, hb1⟩
structure PdB (d e : Int) : Prop where
  g0 : 0 < gcdI d e
  d1 : -1000000 ≤ d.tdiv (gcdI d e)
  d2 : d.tdiv (gcdI d e) ≤ 1000000
  e1 : -1000000 ≤ e.tdiv (gcdI d e)
  e2 : e.tdiv (gcdI d e) ≤ 1000000
  p1 : -1000000000000 ≤ pdV d e
  p2 : pdV d e ≤ 1000000000000
theorem pd_b {d e : Int} (hd0 : d ≠ 0) (hd : -1000000 ≤ d ∧ d ≤ 1000000) (he : -1000000 ≤ e ∧ e ≤ 1000000) : PdB d e := by
  have h := (pd_s (e := e) hd0).g0
  obtain ⟨a1, a2⟩ := tdiv_bd (g := gcdI d e) hd.1 hd.2
  obtain ⟨b1, b2⟩ := tdiv_bd (g := gcdI d e) he.1 he.2
  have c : (d.tdiv (gcdI d e) * e.tdiv (gcdI d e)).natAbs ≤ 1000000 * 1000000 := by
    rw [Int.natAbs_mul]
    exact Nat.mul_le_mul (by omega) (by omega)
  exact ⟨h, a1, a2, b1, b2, by unfold pdV; omega, by unfold pdV; omega⟩
set_option linter.unusedSimpArgs false in
set_option maxRecDepth 8000 in
set_option maxHeartbeats 800000 in
theorem dsProduct_any (d e : Int) (w : World) (hd0 : d ≠ 0) (hd : -1000000 ≤ d ∧ d ≤ 1000000) (he : -1000000 ≤ e ∧ e ≤ 1000000) :
    Calls Tryz.prog 87 #[.int .i64 d, .int .i64 e] w fun r w' => r = .returned (.int .i64 (pdV d e)) ∧ Below w.heap.size w w' := by
  obtain ⟨g0, d1, d2, e1, e2, p1, p2⟩ := pd_b hd0 hd he
  have Ha1 := Lib.hid (fun w9 => l1AbsB_any d w9 (by omega))
  have Ha2 := Lib.hid (fun w9 => l1AbsB_any e w9 (by omega))
  have hg9 : gcdI (max d (-d)) (max e (-e)) = gcdI d e := by unfold gcdI; rw [show (max d (-d)).natAbs = d.natAbs by omega, show (max e (-e)).natAbs = e.natAbs by omega]
  have Hg := Lib.hid (show ∀ w9, Calls Tryz.prog 109 #[.int .i64 (max d (-d)), .int .i64 (max e (-e))] w9 fun r w' => r = .returned (.int .i64 (gcdI d e)) ∧ w9 = w' from fun w9 => by have h := bgCommonB_any (max d (-d)) (max e (-e)) w9 (by omega) (by omega); rw [hg9] at h; exact h)
  clear hg9
  have Hv := Lib.hid (show d.tdiv (gcdI d e) * e.tdiv (gcdI d e) = pdV d e from rfl)
  generalize pdV d e = V at *
  generalize gcdI d e = G at *
  have hz : G ≠ 0 := by omega
  generalize hx : d.tdiv G = X at *
  generalize hy : e.tdiv G = Y at *
  generalize max d (-d) = D at *
  generalize max e (-e) = E at *
  have m1 : X * Y = V := Hv.out
  go_enter Tryz.func87, Tryz.ntmps87
  go_wp2_with (first | (go_at_call 92; refine (Ha1.out _).mono ?_; rintro r w1 ⟨rfl, rfl⟩) | (go_at_call 92; refine (Ha2.out _).mono ?_; rintro r w1 ⟨rfl, rfl⟩) | (go_at_call 109; refine (Hg.out _).mono ?_; rintro r w2 ⟨rfl, rfl⟩))
  refine wp_region_tame (by kernel_rfl) (by kernel_rfl) (fun T _ W hT => ?_)
  have hx9 := hT.cell
  repeat (go_big_quiet_step (fail))
  refine wpQuiet_nil ?_
  intro tt
  clear hx9
  have hb1 := hT.below tt
  generalize W tt = w3 at hb1 ⊢
  clear hT
  go_wp2
  go_ret
  exact ⟨rfl, hb1⟩
set_option linter.unusedSimpArgs false in
set_option maxRecDepth 8000 in
set_option maxHeartbeats 800000 in
theorem productClass_any (d e : Int) (w : World) (hd0 : d ≠ 0) (hd : -1000000 ≤ d ∧ d ≤ 1000000) (he : -1000000 ≤ e ∧ e ≤ 1000000) :
    Calls Tryz.prog 76 #[.int .i64 d, .int .i64 e] w fun r w' => r = .returned (.tuple #[.int .i64 (if clB (pdV d e) = true then pdV d e else 0), .bool (clB (pdV d e))]) ∧ Below w.heap.size w w' := by
  obtain ⟨g0, d1, d2, e1, e2, p1, p2⟩ := pd_b hd0 hd he
  have Hg := Lib.hid (fun w9 => gcdB_any d e w9 (by omega) (by omega))
  have Hcl := Lib.hid (fun w9 => isClass_any (pdV d e) w9)
  have Hv := Lib.hid (show d.tdiv (gcdI d e) * e.tdiv (gcdI d e) = pdV d e from rfl)
  generalize pdV d e = V at *
  generalize clB V = B at *
  generalize gcdI d e = G at *
  have hz : G ≠ 0 := by omega
  generalize hx : d.tdiv G = X at *
  generalize hy : e.tdiv G = Y at *
  have m1 : X * Y = V := Hv.out
  cases B
  · go_enter Tryz.func76, Tryz.ntmps76
    go_wp2_with (go_at_call 102; refine (Hg.out _).mono ?_; rintro r w2 ⟨rfl, hb2⟩)
    refine wp_region_tame (by kernel_rfl) (by kernel_rfl) (fun T _ W hT => ?_)
    have hx9 := hT.cell
    repeat (go_big_quiet_step (fail))
    refine wpQuiet_nil ?_
    intro tt
    clear hx9
    have hb1 := hT.below tt
    generalize W tt = w3 at hb1 ⊢
    clear hT
    go_wp2_with (go_at_call 103; refine (Hcl.out _).mono ?_; rintro r w4 ⟨rfl, hb4⟩)
    exact bodyPost_ret (v := .tuple #[.int .i64 0, .bool false]) (by simp [results, Tryz.results76, go_sem]) rfl ⟨by simp, (hb2.trans (hb1.mono hb2.size)).trans (hb4.mono (Nat.le_trans hb2.size hb1.size))⟩
  · go_enter Tryz.func76, Tryz.ntmps76
    go_wp2_with (go_at_call 102; refine (Hg.out _).mono ?_; rintro r w2 ⟨rfl, hb2⟩)
    refine wp_region_tame (by kernel_rfl) (by kernel_rfl) (fun T _ W hT => ?_)
    have hx9 := hT.cell
    repeat (go_big_quiet_step (fail))
    refine wpQuiet_nil ?_
    intro tt
    clear hx9
    have hb1 := hT.below tt
    generalize W tt = w3 at hb1 ⊢
    clear hT
    go_wp2_with (go_at_call 103; refine (Hcl.out _).mono ?_; rintro r w4 ⟨rfl, hb4⟩)
    exact bodyPost_ret (v := .tuple #[.int .i64 V, .bool true]) (by simp [results, Tryz.results76, go_sem]) rfl ⟨by simp, (hb2.trans (hb1.mono hb2.size)).trans (hb4.mono (Nat.le_trans hb2.size hb1.size))⟩
end
section
open Go Go.RowKit Go.Lib

/-- The group, or nothing. -/
def gpR : Option (List Int) → List Int × Bool
  | some X => (X, true)
  | none => ([], false)
theorem gs_in {d : Int} {l X : List Int} (h : hasI X d = true) : gpS (d :: l) X = gpS l X := by rw [gpS, if_pos h]
theorem gs_bad {d e : Int} {l X : List Int} (h : hasI X d = false) (he : e ∈ X) (hb : clB (pdV d e) = false) : gpS (d :: l) X = none := by
  rw [gpS, if_neg (by rw [h]; decide), if_neg]
  intro h1
  have := List.all_eq_true.1 h1 e he
  rw [hb] at this; exact absurd this (by decide)
theorem gs_far {d : Int} {l X : List Int} (h : hasI X d = false) (hl : 64 < (putL X (pdL d X)).length) : gpS (d :: l) X = none := by
  rw [gpS, if_neg (by rw [h]; decide)]
  split
  · first | rw [if_pos hl] | rfl
  · rfl
theorem gs_go {d : Int} {l X : List Int} (h : hasI X d = false) (ha : ∀ e ∈ X, clB (pdV d e) = true) (hl : ¬ 64 < (putL X (pdL d X)).length) : gpS (d :: l) X = gpS l (putL X (pdL d X)) := by
  rw [gpS, if_neg (by rw [h]; decide), if_pos (List.all_eq_true.2 ha), if_neg hl]
theorem gi_in {d : Int} {l X : List Int} (h : hasI X d = true) : gpI (d :: l) X = gpI l X := by rw [gpI, if_pos h]
theorem gi_bad {d e : Int} {l X : List Int} (h : hasI X d = false) (he : e ∈ X) (hb : clB (pdV d e) = false) : gpI (d :: l) X = none := by
  rw [gpI, if_neg (by rw [h]; decide), if_neg]
  intro h1
  have := List.all_eq_true.1 h1 e he
  rw [hb] at this; exact absurd this (by decide)
theorem gi_far {d : Int} {l X : List Int} (h : hasI X d = false) (hl : 64 < X.length + X.length) : gpI (d :: l) X = none := by
  rw [gpI, if_neg (by rw [h]; decide)]
  split
  · first | rw [if_pos hl] | rfl
  · rfl
theorem gi_go {d : Int} {l X : List Int} (h : hasI X d = false) (ha : ∀ e ∈ X, clB (pdV d e) = true) (hl : ¬ 64 < X.length + X.length) : gpI (d :: l) X = gpI l (X ++ pdL d X) := by
  rw [gpI, if_neg (by rw [h]; decide), if_pos (List.all_eq_true.2 ha), if_neg hl]
theorem length_pdL (d : Int) (X : List Int) : (pdL d X).length = X.length := by unfold pdL; rw [List.length_map]
theorem pdL_app {d : Int} {X : List Int} {j : Nat} (h : j < X.length) : (pdL d X).take (j + 1) = (pdL d X).take j ++ [pdV d X[j]] := by
  have h1 : j < (pdL d X).length := by rw [length_pdL]; exact h
  rw [List.take_succ_eq_append_getElem h1]
  simp [pdL]
theorem pdL_put {d : Int} {X : List Int} {j : Nat} (h : j < X.length) : putL X ((pdL d X).take (j + 1)) = putI (pdV d X[j]) (putL X ((pdL d X).take j)) := by rw [pdL_app h, putL_snoc]
theorem cl_one : clB 1 = true := by
  unfold clB clV
  rw [show facF 2 (1 : Int).natAbs = [] by unfold facF; simp]
  decide
theorem rd_one (w : World) (x : Int) : Rd inS (w.alloc (Obj.cells #[.int .i64 x] 3)) (w.alloc (Obj.cells #[.int .i64 x] 3)).heap.size (.slice (some ⟨w.heap.size, 0, none⟩) 1 1) [x] := by
  refine Rd.of_own (base := w.heap.size) (e := 3) (S := inS) ?_ rfl
  exact (show (w.alloc (Obj.cells #[.int .i64 x] 3)).ownsRow w.heap.size 3 1 (.slice (some ⟨w.heap.size, 0, none⟩) 1 1) 1 [Value.int .i64 x] from World.ownsRow_lit w #[.int .i64 x] 1 (by simp) (by unfold maxLen; omega) (by simp))
theorem pd_cl {d : Int} {X : List Int} (ha : ∀ e ∈ X, clB (pdV d e) = true) : ∀ x ∈ pdL d X, clB x = true := fun x hx => by
  obtain ⟨y, hy, rfl⟩ := mem_pdL.1 hx
  exact ha y hy
set_option linter.unusedSimpArgs false in
set_option linter.unusedVariables false in
set_option maxRecDepth 8000 in
set_option maxHeartbeats 8000000 in
theorem dsGroup_any (A : Option Addr) (c : Nat) (l : List Int) (w : World) (h : Rd inS w w.heap.size (.slice A l.length c) l) (hlen : l.length ≤ 1000000000) (hl : ∀ d ∈ l, d ≠ 0 ∧ -1000000 ≤ d ∧ d ≤ 1000000) :
    Calls Tryz.prog 59 #[.slice A l.length c] w fun e w' => LsR (gpR (gpV l)) e w' ∧ Below w.heap.size w w' := by
  have Hl := Lib.hid hl
  have HG0 := Lib.hid (show gpS (l.drop 0) [1] = gpV l by rw [List.drop_zero]; rfl)
  have HX0 := Lib.hid (rd_one w 1)
  have Hb0 := Lib.hid (show Below w.heap.size w (w.alloc (Obj.cells #[.int .i64 1] 3)) from bal (Below.refl _ _) _)
  have Hr0 := Lib.hid (show Rd inS (w.alloc (Obj.cells #[.int .i64 1] 3)) (w.alloc (Obj.cells #[.int .i64 1] 3)).heap.size (.slice A l.length c) l from h.on (bal (Below.refl _ _) _))
  clear h hl
  generalize gpV l = V at *
  go_enter Tryz.func59, Tryz.ntmps59
  go_wp2
  go_loopw [4, 14] (fun o i wr => ∃ (k : Nat) (X : List Int) (A1 : Option Addr) (c1 : Nat), k ≤ l.length ∧ i = .int .i64 (k : Int) ∧ o = .slice A1 X.length c1 ∧ Hid (gpS (l.drop k) X = V) ∧ Hid (0 < X.length ∧ X.length ≤ 64 ∧ ∀ x ∈ X, clB x = true) ∧ Hid (Rd inS wr wr.heap.size (.slice A1 X.length c1) X) ∧ Hid (Rd inS wr wr.heap.size (.slice A l.length c) l) ∧ Hid (Below w.heap.size w wr)) (fun _ i _ => l.length - (intOf i).toNat)
  case atStart => exact ⟨0, [1], _, _, Nat.zero_le _, rfl, rfl, HG0, Lib.hid ⟨by decide, by decide, fun x hx => by rw [List.mem_singleton.1 hx]; exact cl_one⟩, HX0, Hr0, Hb0⟩
  case round =>
    obtain ⟨k, X, A1, c1, hk, rfl, rfl, HG, HX, Hrx, Hrl, Hb⟩ := hrel
    clear HG0 HX0 Hr0 Hb0
    obtain ⟨hx0, hx64, hxc⟩ := HX.out
    have HXc := Lib.hid hxc; clear hxc HX
    by_cases hlt : k < l.length
    · obtain ⟨-, -, -, -, hC⟩ := rd_cells Hrl.out
      obtain ⟨g2, off2, hA2, hg2⟩ := rd_addr Hrl.out (by omega)
      have hc1 := hC g2 off2 hA2 k hlt
      clear hC
      cases hA2
      rw [show l.getD k 0 = l[k] by simp [hlt]] at hc1
      have hd : decide ((k : Int) < (l.length : Int)) = true := decide_eq_true (by omega)
      have hdn : decide (k < l.length) = true := decide_eq_true hlt
      have hk0 : (0 : Int) ≤ (k : Int) := by omega
      have hk1 : (k : Int) < (l.length : Int) := by omega
      have HGd := Lib.hid (show gpS (l[k] :: l.drop (k + 1)) X = V by rw [← List.drop_eq_getElem_cons hlt]; exact HG.out)
      have Hdb := Lib.hid (Hl.out _ (List.getElem_mem hlt))
      clear HG
      generalize l[k] = d at *
      obtain ⟨b, hb⟩ : ∃ b, hasI X d = b := ⟨_, rfl⟩
      have Hhas := Lib.hid hb
      have h9 := l1HasI_any A1 c1 X d wr.heap.size wr Hrx.out (by omega)
      rw [hb] at h9
      have Hh := Lib.hid h9
      clear h9 hb
      cases b
      · go_wp2_with fail
        refine Hh.out.mono ?_; rintro e w4 ⟨rfl, hb4⟩
        have Hrx4 := Lib.hid (Hrx.out.on hb4); have Hrl4 := Lib.hid (Hrl.out.on hb4); have Hb4 := Lib.hid (bthen Hb.out hb4)
        clear hb4 hc1 hg2 Hrx Hrl Hb Hh
        have Ho := Lib.hid (l1OwnI_any A1 c1 X w4 Hrx4.out (by omega))
        go_wp2_with fail
        refine Ho.out.mono ?_; rintro e w5 ⟨⟨v5, rfl, hv5⟩, hb5⟩
        obtain ⟨A5, c5, rfl, hr5⟩ := rd_own1 hv5 rfl
        have Hr5 := Lib.hid hr5; have Hrx5 := Lib.hid (Hrx4.out.on hb5); have Hrl5 := Lib.hid (Hrl4.out.on hb5); have Hb5 := Lib.hid (bthen Hb4.out hb5)
        clear hv5 hr5 hb5 Ho Hrx4 Hrl4 Hb4
        go_wp2
        go_loopw [7, 25] (fun o i wr => ∃ (j : Nat) (Y : List Int) (A2 : Option Addr) (c2 : Nat), j ≤ X.length ∧ i = .int .i64 (j : Int) ∧ o = .slice A2 Y.length c2 ∧ Hid (Y = putL X ((pdL d X).take j)) ∧ Hid (∀ x ∈ X.take j, clB (pdV d x) = true) ∧ Hid (Rd inS wr wr.heap.size (.slice A2 Y.length c2) Y) ∧ Hid (Rd inS wr wr.heap.size (.slice A1 X.length c1) X) ∧ Hid (Rd inS wr wr.heap.size (.slice (some ⟨g2, off2, none⟩) l.length c) l) ∧ Hid (Below w.heap.size w wr)) (fun _ i _ => X.length - (intOf i).toNat)
        case atStart => exact ⟨0, X, _, _, Nat.zero_le _, rfl, rfl, Lib.hid (by rw [List.take_zero, putL_nil]), Lib.hid (fun x hx => by simp at hx), Hr5, Hrx5, Hrl5, Hb5⟩
        case round =>
          obtain ⟨j, Y, A2, c2, hj, rfl, rfl, HY, Hal, Hry, Hrx, Hrl, Hb⟩ := hrel
          clear Hr5 Hrx5 Hrl5 Hb5
          have Hyl := Lib.hid (show 0 < Y.length ∧ Y.length ≤ 128 by
            rw [HY.out]
            refine ⟨putL_pos hx0 _, ?_⟩
            have h1 := length_putL ((pdL d X).take j) X
            rw [List.length_take, length_pdL] at h1
            omega)
          by_cases hjl : j < X.length
          · obtain ⟨-, -, -, -, hC⟩ := rd_cells Hrx.out
            obtain ⟨g3, off3, hA3, hg3⟩ := rd_addr Hrx.out hx0
            have hc1 := hC g3 off3 hA3 j hjl
            clear hC
            cases hA3
            rw [show X.getD j 0 = X[j] by simp [hjl]] at hc1
            have hd2 : decide ((j : Int) < (X.length : Int)) = true := decide_eq_true (by omega)
            have hd2n : decide (j < X.length) = true := decide_eq_true hjl
            have hj0 : (0 : Int) ≤ (j : Int) := by omega
            have hj1 : (j : Int) < (X.length : Int) := by omega
            have Hmem := Lib.hid (List.getElem_mem hjl)
            have Htk := Lib.hid (List.take_succ_eq_append_getElem hjl)
            have Hpu := Lib.hid (pdL_put (d := d) hjl)
            generalize X[j] = x at *
            have Hcx := Lib.hid (clB_bd (HXc.out x Hmem.out))
            have Hpr := Lib.hid (fun w9 => dsProduct_any d x w9 Hdb.out.1 Hdb.out.2 Hcx.out.2)
            have HpV := Lib.hid (fun h => gs_bad (l := l.drop (k + 1)) (d := d) (e := x) Hhas.out Hmem.out h)
            have Hcla := Lib.hid (fun w9 => dsClass_any (pdV d x) w9)
            generalize hz : pdV d x = z at *
            have Hz := Lib.hid hz; clear hz
            go_wp2_with fail
            refine (Hpr.out _).mono ?_; rintro e w6 ⟨rfl, hb6⟩
            have Hry6 := Lib.hid (Hry.out.on hb6); have Hrx6 := Lib.hid (Hrx.out.on hb6); have Hrl6 := Lib.hid (Hrl.out.on hb6); have Hb6 := Lib.hid (bthen Hb.out hb6)
            clear hb6 hc1 hg3 Hry Hrx Hrl Hb Hpr
            obtain ⟨b, hb⟩ : ∃ b, clB z = b := ⟨_, rfl⟩
            rw [hb] at Hcla HpV
            have Hcz := Lib.hid hb
            clear hb
            cases b
            · have HV := Lib.hid (show V = none by rw [← HGd.out]; exact HpV.out rfl)
              go_wp2_with fail
              refine (Hcla.out _).mono ?_; rintro e w7 ⟨rfl, hb7⟩
              go_wp2
              exact bodyPost_ret (v := .tuple #[.slice none 0 0, .bool false]) (by simp [results, Tryz.results59, go_sem]) rfl ⟨by rw [HV.out]; exact LsR.no _, bthen Hb6.out hb7⟩
            · clear HpV
              go_wp2_with fail
              refine (Hcla.out _).mono ?_; rintro e w7 ⟨rfl, hb7⟩
              have Hry7 := Lib.hid (Hry6.out.on hb7); have Hrx7 := Lib.hid (Hrx6.out.on hb7); have Hrl7 := Lib.hid (Hrl6.out.on hb7); have Hb7 := Lib.hid (bthen Hb6.out hb7)
              clear hb7 Hry6 Hrx6 Hrl6 Hb6 Hcla
              have Hpt := Lib.hid (l1PutI_any A2 c2 Y z w7 Hry7.out Hyl.out.1 (by have := Hyl.out.2; omega))
              go_wp2_with fail
              refine Hpt.out.mono ?_; rintro e w8 ⟨⟨A8, c8, rfl, hr8⟩, hb8⟩
              have Hr8 := Lib.hid hr8; have Hrx8 := Lib.hid (Hrx7.out.on hb8); have Hrl8 := Lib.hid (Hrl7.out.on hb8); have Hb8 := Lib.hid (bthen Hb7.out hb8)
              clear hr8 hb8 Hry7 Hrx7 Hrl7 Hb7 Hpt
              have Hal2 := Lib.hid (show ∀ x ∈ X.take (j + 1), clB (pdV d x) = true from fun q hq => by
                rw [Htk.out] at hq
                rcases List.mem_append.1 hq with h | h
                · exact Hal.out q h
                · rw [List.mem_singleton.1 h, Hz.out]; exact Hcz.out)
              go_wp2
              go_roundw
              case rel => exact ⟨j + 1, putI z Y, A8, c8, by omega, by go_num, rfl, Lib.hid (by rw [Hpu.out, HY.out]), Hal2, Hr8, Hrx8, Hrl8, Hb8⟩
              case measure => simp [intOf]; omega
          · obtain rfl : j = X.length := by omega
            have hd2 : decide ((X.length : Int) < (X.length : Int)) = false := decide_eq_false (by omega)
            have hd2n : decide (X.length < X.length) = false := decide_eq_false (by omega)
            have Hall := Lib.hid (show ∀ e ∈ X, clB (pdV d e) = true by have h9 := Hal.out; rwa [List.take_length] at h9)
            have HYe := Lib.hid (show Y = putL X (pdL d X) by rw [HY.out, List.take_of_length_le (by rw [length_pdL]; exact Nat.le_refl _)])
            clear Hal HY
            by_cases hfar : 64 < Y.length
            · have g1 : decide ((64 : Int) < (Y.length : Int)) = true := decide_eq_true (by omega)
              have g2 : decide (64 < Y.length) = true := decide_eq_true hfar
              have HV := Lib.hid (show V = none by rw [← HGd.out]; exact gs_far Hhas.out (by rw [← HYe.out]; exact hfar))
              go_wp2
              exact bodyPost_ret (v := .tuple #[.slice none 0 0, .bool false]) (by simp [results, Tryz.results59, go_sem]) rfl ⟨by rw [HV.out]; exact LsR.no _, Hb.out⟩
            · have g1 : decide ((64 : Int) < (Y.length : Int)) = false := decide_eq_false (by omega)
              have g2 : decide (64 < Y.length) = false := decide_eq_false hfar
              have HGn := Lib.hid (show gpS (l.drop (k + 1)) Y = V by rw [HYe.out, ← HGd.out]; exact (gs_go Hhas.out Hall.out (by rw [← HYe.out]; exact hfar)).symm)
              have HXn := Lib.hid (show 0 < Y.length ∧ Y.length ≤ 64 ∧ ∀ x ∈ Y, clB x = true from ⟨Hyl.out.1, by omega, fun x hx => by
                rw [HYe.out, mem_putL] at hx
                rcases hx with hx | hx
                · exact HXc.out x hx
                · exact pd_cl Hall.out x hx⟩)
              go_wp2
              go_roundw
              case rel => exact ⟨k + 1, Y, A2, c2, by omega, by go_num, rfl, HGn, HXn, Hry, Hrl, Hb⟩
              case measure => simp [intOf]; omega
      · have HGn := Lib.hid (show gpS (l.drop (k + 1)) X = V by rw [← HGd.out]; exact (gs_in Hhas.out).symm)
        go_wp2_with fail
        refine Hh.out.mono ?_; rintro e w4 ⟨rfl, hb4⟩
        have Hrx4 := Lib.hid (Hrx.out.on hb4); have Hrl4 := Lib.hid (Hrl.out.on hb4); have Hb4 := Lib.hid (bthen Hb.out hb4)
        clear hb4 hc1 hg2 Hrx Hrl Hb Hh
        go_wp2
        go_roundw
        case rel => exact ⟨k + 1, X, A1, c1, by omega, by go_num, rfl, HGn, Lib.hid ⟨hx0, hx64, HXc.out⟩, Hrx4, Hrl4, Hb4⟩
        case measure => simp [intOf]; omega
    · obtain rfl : k = l.length := by omega
      have hd : decide ((l.length : Int) < (l.length : Int)) = false := decide_eq_false (by omega)
      have hdn : decide (l.length < l.length) = false := decide_eq_false (by omega)
      have HV := Lib.hid (show V = some X by have h9 := HG.out; rw [List.drop_length] at h9; exact h9.symm)
      go_wp2
      exact bodyPost_ret (v := .tuple #[.slice A1 X.length c1, .bool true]) (by simp [results, Tryz.results59, go_sem]) rfl ⟨by rw [HV.out]; exact ⟨_, _, rfl, Hrx.out⟩, Hb.out⟩
set_option linter.unusedSimpArgs false in
set_option linter.unusedVariables false in
set_option maxRecDepth 8000 in
set_option maxHeartbeats 8000000 in
theorem classGroup_any (A : Option Addr) (c : Nat) (l : List Int) (w : World) (h : Rd inS w w.heap.size (.slice A l.length c) l) (hlen : l.length ≤ 1000000000) (hl : ∀ d ∈ l, d ≠ 0 ∧ -1000000 ≤ d ∧ d ≤ 1000000) (hq : ∀ d ∈ l, Sqf d) :
    Calls Tryz.prog 52 #[.slice A l.length c] w fun e w' => LsR (gpR (gpV l)) e w' ∧ Below w.heap.size w w' := by
  obtain ⟨i0, hii, hz0, hz1, hz2⟩ := info_parts infoIntC
  have Hl := Lib.hid hl
  rw [gp_both hq]
  have HG0 := Lib.hid (show gpI (l.drop 0) [1] = gpI l [1] by rw [List.drop_zero])
  have Hr0 := Lib.hid h
  clear h hl hq
  generalize gpI l [1] = V at *
  go_enter Tryz.func52, Tryz.ntmps52
  have Hb0 := Lib.hid (show Below w.heap.size w (w.alloc (Obj.cells #[.int .i64 1] 3)) from bal (Below.refl _ _) _)
  have HR0 := Lib.hid (show (w.alloc (Obj.cells #[.int .i64 1] 3)).ownsRow w.heap.size 3 1 (.slice (some ⟨w.heap.size, 0, none⟩) 1 1) 1 [Value.int .i64 1] from World.ownsRow_lit w #[.int .i64 1] 1 (by simp) (by unfold maxLen; omega) (by simp))
  go_wp2
  go_loopw [4, 14] (fun o i wr => ∃ (k : Nat) (X : List Int) (gx cx : Nat), k ≤ l.length ∧ i = .int .i64 (k : Int) ∧ o = .slice (some ⟨gx, 0, none⟩) X.length cx ∧ Hid (gpI (l.drop k) X = V) ∧ Hid (0 < X.length ∧ X.length ≤ 64 ∧ ∀ x ∈ X, clB x = true) ∧ Hid (wr.ownsRow w.heap.size 3 1 (.slice (some ⟨gx, 0, none⟩) X.length cx) X.length (X.map iv)) ∧ Hid (Below w.heap.size w wr)) (fun _ i _ => l.length - (intOf i).toNat)
  case atStart => exact ⟨0, [1], _, _, Nat.zero_le _, rfl, rfl, HG0, Lib.hid ⟨by decide, by decide, fun x hx => by rw [List.mem_singleton.1 hx]; exact cl_one⟩, HR0, Hb0⟩
  case round =>
    obtain ⟨k, X, gx, cx, hk, rfl, rfl, HG, HX, HR, Hb⟩ := hrel
    clear HG0 HR0 Hb0
    obtain ⟨hx0, hx64, hxc⟩ := HX.out
    have HXc := Lib.hid hxc; clear hxc HX
    have hk0 : (0 : Int) ≤ (k : Int) := by omega
    have Hrx := Lib.hid (show Rd inS wr wr.heap.size (.slice (some ⟨gx, 0, none⟩) X.length cx) X from by
      refine Rd.of_own (base := w.heap.size) (e := 3) (S := inS) ?_ rfl
      rw [inS_flat]; exact HR.out)
    have Hrl := Lib.hid (Hr0.out.below Hb.out)
    by_cases hlt : k < l.length
    · obtain ⟨-, -, -, -, hC⟩ := rd_cells Hrl.out
      obtain ⟨g2, off2, hA2, hg2⟩ := rd_addr Hrl.out (by omega)
      have hc1 := hC g2 off2 hA2 k hlt
      clear hC
      have hg2w : g2 < wr.heap.size := Nat.lt_of_lt_of_le hg2 Hb.out.size
      subst hA2
      rw [show l.getD k 0 = l[k] by simp [hlt]] at hc1
      have hd : decide ((k : Int) < (l.length : Int)) = true := decide_eq_true (by omega)
      have hdn : decide (k < l.length) = true := decide_eq_true hlt
      have hk1 : (k : Int) < (l.length : Int) := by omega
      have HGd := Lib.hid (show gpI (l[k] :: l.drop (k + 1)) X = V by rw [← List.drop_eq_getElem_cons hlt]; exact HG.out)
      have Hdb := Lib.hid (Hl.out _ (List.getElem_mem hlt))
      clear HG
      generalize l[k] = d at *
      obtain ⟨b, hb⟩ : ∃ b, hasI X d = b := ⟨_, rfl⟩
      have Hhas := Lib.hid hb
      have h9 := containsI_any (some ⟨gx, 0, none⟩) cx X d wr.heap.size wr Hrx.out (by omega)
      rw [hb] at h9
      have Hh := Lib.hid h9
      clear h9 hb
      cases b
      · go_wp2_with fail
        refine Hh.out.mono ?_; rintro e w3 ⟨rfl, hb3⟩
        have Hrx3 := Lib.hid (Hrx.out.on hb3); have HR3 := Lib.hid (own_below HR.out hb3); have Hb3 := Lib.hid (bthen Hb.out hb3)
        clear hb3 hc1 hg2 hg2w Hrx HR Hb Hh Hrl
        have Hcl := Lib.hid (cloneI_any (some ⟨gx, 0, none⟩) cx X w3.heap.size w3 Hrx3.out hx0 (by omega))
        have hgx3 : gx < w3.heap.size := (HR3.out.lt gx rfl).2
        go_wp2_with fail
        refine Hcl.out.mono ?_; rintro e w4 ⟨v', rfl, hv', hb4⟩
        rcases own_form1 hv' with ⟨-, h0⟩ | ⟨gc, cc, rfl⟩
        · omega
        · have hgc : w3.heap.size ≤ gc ∧ gc < w4.heap.size := hv'.lt gc rfl
          have Hgc := Lib.hid hgc.2
          have Hrc := Lib.hid (show Rd inS w4 w4.heap.size (.slice (some ⟨gc, 0, none⟩) X.length cc) X from by
            refine Rd.of_own (base := w3.heap.size) (e := 3) (S := inS) ?_ rfl
            rw [inS_flat]; exact hv')
          have Hne := Lib.hid (show gx ≠ gc by omega)
          have Hb4 := Lib.hid (bthen Hb3.out hb4); have HR4 := Lib.hid (own_below HR3.out hb4)
          clear hb4 hv' hgc hgx3 Hcl Hb3 HR3 Hrx3
          have hne0 := Hne; have hr0 := HR4; have hc0 := Hrc; have hb0 := Hb4; clear Hne HR4 Hrc Hb4
          go_wp2
          go_loopw [4, 24] (fun o i wr => ∃ (j : Nat) (Z : List Int) (gz cz : Nat), j ≤ X.length ∧ i = .int .i64 (j : Int) ∧ o = .slice (some ⟨gz, 0, none⟩) Z.length cz ∧ Hid (Z = X ++ (pdL d X).take j) ∧ Hid (X.length + j ≤ 64) ∧ Hid (∀ x ∈ X.take j, clB (pdV d x) = true) ∧ Hid (wr.ownsRow w.heap.size 3 1 (.slice (some ⟨gz, 0, none⟩) Z.length cz) Z.length (Z.map iv)) ∧ Hid (gz ≠ gc) ∧ Hid (Rd inS wr w4.heap.size (.slice (some ⟨gc, 0, none⟩) X.length cc) X) ∧ Hid (w4.heap.size ≤ wr.heap.size) ∧ Hid (Below w.heap.size w wr)) (fun _ i _ => X.length - (intOf i).toNat)
          case atStart => exact ⟨0, X, _, _, Nat.zero_le _, rfl, rfl, Lib.hid (by rw [List.take_zero, List.append_nil]), Lib.hid (by omega), Lib.hid (fun x hx => by simp at hx), hr0, hne0, hc0, Lib.hid (Nat.le_refl _), hb0⟩
          case round =>
            obtain ⟨j, Z, gz, cz, hj, rfl, rfl, HZ, Hj64, Hal, HR, Hn, Hrc, Hsz, Hb⟩ := hrel
            clear hr0 hne0 hc0 hb0
            have HZl := Lib.hid (show Z.length = X.length + j by rw [HZ.out, List.length_append, List.length_take, length_pdL]; omega)
            have hj0 : (0 : Int) ≤ (j : Int) := by omega
            by_cases hjl : j < X.length
            · obtain ⟨-, -, -, -, hC⟩ := rd_cells Hrc.out
              have hc1 := hC gc 0 rfl j hjl
              clear hC
              rw [show X.getD j 0 = X[j] by simp [hjl], Nat.zero_add] at hc1
              have hgcw : gc < wr.heap.size := by have := Hgc.out; have := Hsz.out; omega
              have hd2 : decide ((j : Int) < (X.length : Int)) = true := decide_eq_true (by omega)
              have hd2n : decide (j < X.length) = true := decide_eq_true hjl
              have hj1 : (j : Int) < (X.length : Int) := by omega
              have Hmem := Lib.hid (List.getElem_mem hjl)
              have Htk := Lib.hid (List.take_succ_eq_append_getElem hjl)
              have Hap := Lib.hid (pdL_app (d := d) hjl)
              generalize X[j] = x at *
              have Hcx := Lib.hid (clB_bd (HXc.out x Hmem.out))
              have Hpr := Lib.hid (fun w9 => productClass_any d x w9 Hdb.out.1 Hdb.out.2 Hcx.out.2)
              have HpV := Lib.hid (fun h => gi_bad (l := l.drop (k + 1)) (d := d) (e := x) Hhas.out Hmem.out h)
              generalize hz : pdV d x = z at *
              have Hz := Lib.hid hz; clear hz
              obtain ⟨b, hb⟩ : ∃ b, clB z = b := ⟨_, rfl⟩
              rw [hb] at Hpr HpV
              have Hcz := Lib.hid hb
              clear hb
              cases b
              · have HV := Lib.hid (show V = none by rw [← HGd.out]; exact HpV.out rfl)
                go_wp2_with fail
                refine (Hpr.out _).mono ?_; rintro e w7 ⟨rfl, hb7⟩
                go_wp2
                exact bodyPost_ret (v := .tuple #[.slice none 0 0, .bool false]) (by simp [results, Tryz.results52, go_sem]) rfl ⟨by rw [HV.out]; exact LsR.no _, bthen Hb.out hb7⟩
              · clear HpV
                have Hpr1 := Lib.hid (fun w9 => show Calls Tryz.prog 76 #[.int .i64 d, .int .i64 x] w9 fun r w' => r = .returned (.tuple #[.int .i64 z, .bool true]) ∧ Below w9.heap.size w9 w' from by have h := Hpr.out w9; rwa [if_pos rfl] at h)
                clear Hpr
                by_cases hfar : Z.length = 64
                · have g1 : ((Z.length : Int) == 64) = true := beq_iff_eq.2 (by omega)
                  have g2 : decide ((Z.length : Int) = 64) = true := decide_eq_true (by omega)
                  have g3 : decide (Z.length = 64) = true := decide_eq_true hfar
                  have g4 : (Z.length == 64) = true := beq_iff_eq.2 hfar
                  have HV := Lib.hid (show V = none by rw [← HGd.out]; exact gi_far Hhas.out (by have := HZl.out; omega))
                  go_wp2_with fail
                  refine (Hpr1.out _).mono ?_; rintro e w7 ⟨rfl, hb7⟩
                  go_wp2
                  exact bodyPost_ret (v := .tuple #[.slice none 0 0, .bool false]) (by simp [results, Tryz.results52, go_sem]) rfl ⟨by rw [HV.out]; exact LsR.no _, bthen Hb.out hb7⟩
                · have g1 : ((Z.length : Int) == 64) = false := beq_eq_false_iff_ne.2 (by omega)
                  have g2 : decide ((Z.length : Int) = 64) = false := decide_eq_false (by omega)
                  have g3 : decide (Z.length = 64) = false := decide_eq_false hfar
                  have g4 : (Z.length == 64) = false := beq_eq_false_iff_ne.2 hfar
                  have Hj2 := Lib.hid (show X.length + (j + 1) ≤ 64 by have := Hj64.out; have := HZl.out; omega)
                  have Hal2 := Lib.hid (show ∀ x ∈ X.take (j + 1), clB (pdV d x) = true from fun q hq => by
                    rw [Htk.out] at hq
                    rcases List.mem_append.1 hq with h | h
                    · exact Hal.out q h
                    · rw [List.mem_singleton.1 h, Hz.out]; exact Hcz.out)
                  go_wp2_with fail
                  refine (Hpr1.out _).mono ?_; rintro e w7 ⟨rfl, hb7⟩
                  have HR7 := Lib.hid (own_below HR.out hb7); have Hrc7 := Lib.hid (Hrc.out.below (hb7.mono Hsz.out)); have Hsz7 := Lib.hid (Nat.le_trans Hsz.out hb7.size); have Hb7 := Lib.hid (bthen Hb.out hb7)
                  clear hb7 hc1 hgcw HR Hrc Hsz Hb Hpr1
                  have hszw : w.heap.size ≤ w7.heap.size := Hb7.out.size
                  have hsz4 : w4.heap.size ≤ w7.heap.size := Hsz7.out
                  have hgc4 : gc < w4.heap.size := Hgc.out
                  go_wp2_with (at_builtin; refine wpList_append_srcB rfl _ _ 48 rfl w.heap.size 3 i0 (.int .i64 0) 1 8 Tryz.underlying48 hii hz0 hz1 hz2 rfl (by decide) _ _ _ rfl (HR7.out.alloc _) (some ⟨w7.heap.size, 0, none⟩) 1 1 [.int .i64 z] rfl rfl (fun h => by cases h) (fun a ha j u hj => by cases ha; exact cell_one_new _ _ _ j u hj) (by simp [Value.oneCell']) (by have := HZl.out; unfold maxLen; omega) (by have := HZl.out; omega) (by have := HZl.out; simp; omega) ?_)
                  intro v8 w8 hown8 hg8 hob8
                  obtain ⟨g8, c8, rfl⟩ := ownsRow_succ hown8
                  have hg8' : g8 = gz ∨ g8 = w7.heap.size + 1 := by simpa [Value.ownBlock] using hob8
                  have Hrc8 := Lib.hid (rd_grown (Hrc7.out.keep (fun p hp => World.cell?_alloc_old _ _ _ (by omega))) hg8 (by simp; omega) (fun g off h e => by cases h; simp [Value.ownBlock] at e; exact Hn.out e))
                  have Hb8 := Lib.hid (show Below w.heap.size w w8 from Below.grown (Hb7.out.alloc hszw _) hg8 (by simp; omega) (fun j hj => (HR7.out.lt j hj).1))
                  have Hown8 := Lib.hid (show w8.ownsRow w.heap.size 3 1 (.slice (some ⟨g8, 0, none⟩) (Z.length + 1) c8) (Z.length + 1) ((Z ++ [z]).map iv) by rw [List.map_append]; exact hown8)
                  have Hsz8 := Lib.hid (show w4.heap.size ≤ w8.heap.size from by have := hg8.size; simp at this; omega)
                  have Hn8 := Lib.hid (show g8 ≠ gc by rcases hg8' with h | h; rw [h]; exact Hn.out; omega)
                  clear hown8 hg8 hob8 hg8'
                  go_wp2
                  go_roundw
                  case rel => exact ⟨j + 1, Z ++ [z], g8, c8, by omega, by go_num, by rw [List.length_append]; rfl, Lib.hid (by rw [Hap.out, HZ.out, List.append_assoc]), Hj2, Hal2, by rw [List.length_append]; exact Hown8, Hn8, Hrc8, Hsz8, Hb8⟩
                  case measure => simp [intOf]; omega
            · obtain rfl : j = X.length := by omega
              have hd2 : decide ((X.length : Int) < (X.length : Int)) = false := decide_eq_false (by omega)
              have hd2n : decide (X.length < X.length) = false := decide_eq_false (by omega)
              have Hall := Lib.hid (show ∀ e ∈ X, clB (pdV d e) = true by have h9 := Hal.out; rwa [List.take_length] at h9)
              have HZe := Lib.hid (show Z = X ++ pdL d X by rw [HZ.out, List.take_of_length_le (by rw [length_pdL]; exact Nat.le_refl _)])
              have HGn := Lib.hid (show gpI (l.drop (k + 1)) Z = V by rw [HZe.out, ← HGd.out]; exact (gi_go Hhas.out Hall.out (by have := Hj64.out; omega)).symm)
              have HXn := Lib.hid (show 0 < Z.length ∧ Z.length ≤ 64 ∧ ∀ x ∈ Z, clB x = true from ⟨by have := HZl.out; omega, by have := Hj64.out; have := HZl.out; omega, fun x hx => by
                rw [HZe.out, List.mem_append] at hx
                rcases hx with hx | hx
                · exact HXc.out x hx
                · exact pd_cl Hall.out x hx⟩)
              clear Hal HZ
              go_wp2
              go_roundw
              case rel => exact ⟨k + 1, Z, gz, cz, by omega, by go_num, rfl, HGn, HXn, HR, Hb⟩
              case measure => simp [intOf]; omega
      · have HGn := Lib.hid (show gpI (l.drop (k + 1)) X = V by rw [← HGd.out]; exact (gi_in Hhas.out).symm)
        go_wp2_with fail
        refine Hh.out.mono ?_; rintro e w4 ⟨rfl, hb4⟩
        have HR4 := Lib.hid (own_below HR.out hb4); have Hb4 := Lib.hid (bthen Hb.out hb4)
        clear hb4 hc1 hg2 hg2w Hrx Hrl Hb Hh HR
        go_wp2
        go_roundw
        case rel => exact ⟨k + 1, X, gx, cx, by omega, by go_num, rfl, HGn, Lib.hid ⟨hx0, hx64, HXc.out⟩, HR4, Hb4⟩
        case measure => simp [intOf]; omega
    · obtain rfl : k = l.length := by omega
      have hd : decide ((l.length : Int) < (l.length : Int)) = false := decide_eq_false (by omega)
      have hdn : decide (l.length < l.length) = false := decide_eq_false (by omega)
      have HV := Lib.hid (show V = some X by have h9 := HG.out; rw [List.drop_length] at h9; exact h9.symm)
      have Hso := Lib.hid (sortI_any w.heap.size _ X wr HR.out (by omega))
      go_wp2_with fail
      refine Hso.out.mono ?_; rintro e w5 ⟨rfl, hr5, hg5⟩
      have Hls := Lib.hid (LsR.own (xs := srI X) (k := true) hr5 rfl)
      have Hb5 := Lib.hid (show Below w.heap.size w w5 from Below.grown Hb.out hg5 Hb.out.size (fun j hj => (HR.out.lt j hj).1))
      clear hr5 hg5
      go_wp2
      exact bodyPost_ret (v := .tuple #[.slice (some ⟨gx, 0, none⟩) X.length cx, .bool true]) (by simp [results, Tryz.results52, go_sem]) rfl ⟨by rw [HV.out]; exact Hls.out, Hb5.out⟩
end
section
open Go Go.RowKit Go.Lib

theorem inc_snoc {l : List Int} {k : Nat} (h : k < l.length) (hi : Inc (l.take k)) (hk : ∀ m (e : k = m + 1), l[m]'(by omega) < l[k]) : Inc (l.take (k + 1)) := by
  rw [List.take_succ_eq_append_getElem h]
  unfold Inc at *
  rw [List.pairwise_append]
  refine ⟨hi, List.pairwise_singleton _ _, fun a ha b hb => ?_⟩
  rw [List.mem_singleton.1 hb]
  rcases Nat.eq_zero_or_pos k with h0 | h0
  · subst h0; simp at ha
  · obtain ⟨m, rfl⟩ : ∃ m, k = m + 1 := ⟨k - 1, by omega⟩
    have h1 := hk m rfl
    obtain ⟨i, hi1, rfl⟩ := List.mem_iff_getElem.1 ha
    rw [List.length_take] at hi1
    rw [List.getElem_take]
    rcases Nat.lt_or_ge i m with h2 | h2
    · have h3 := List.pairwise_iff_getElem.1 hi i m (by rw [List.length_take]; omega) (by rw [List.length_take]; omega) h2
      rw [List.getElem_take, List.getElem_take] at h3
      omega
    · have e : i = m := by omega
      subst e; exact h1
theorem inc_at {l : List Int} {m : Nat} (h : m + 1 < l.length) (hi : Inc l) : l[m]'(by omega) < l[m + 1] := List.pairwise_iff_getElem.1 hi m (m + 1) (by omega) h (by omega)
set_option linter.unusedSimpArgs false in
set_option linter.unusedVariables false in
set_option maxRecDepth 8000 in
set_option maxHeartbeats 8000000 in
theorem dsList_any (A : Option Addr) (c : Nat) (l : List Int) (w : World) (h : Rd inS w w.heap.size (.slice A l.length c) l) (hlen : l.length ≤ 1000000000) :
    Calls Tryz.prog 114 #[.slice A l.length c, .int .i64 64] w fun e w' => e = .returned (.bool (l.all clB && insB l.length 1 64)) ∧ Below w.heap.size w w' := by
  have Hr0 := Lib.hid h
  have Hno := Lib.hid (fun (x : Int) (hx : x ∈ l) (hc : clB x = false) => show (l.all clB && insB l.length 1 64) = false by
    cases hh : l.all clB
    · rfl
    · have := List.all_eq_true.1 hh x hx
      rw [hc] at this; exact absurd this (by decide))
  have Hyes := Lib.hid (fun (hh : ∀ x ∈ l, clB x = true) => show (l.all clB && insB l.length 1 64) = insB l.length 1 64 by rw [List.all_eq_true.2 hh, Bool.true_and])
  clear h
  generalize (l.all clB && insB l.length 1 64) = R at *
  go_enter Tryz.func114, Tryz.ntmps114
  go_wp2
  go_loopw [9] (fun i wr => ∃ k : Nat, k ≤ l.length ∧ i = .int .i64 (k : Int) ∧ Hid (∀ x ∈ l.take k, clB x = true) ∧ Hid (Below w.heap.size w wr)) (fun i _ => l.length - (intOf i).toNat)
  case atStart => exact ⟨0, Nat.zero_le _, rfl, Lib.hid (fun x hx => by simp at hx), Lib.hid (Below.refl _ _)⟩
  case round =>
    obtain ⟨k, hk, rfl, Hal, Hb⟩ := hrel
    have hk0 : (0 : Int) ≤ (k : Int) := by omega
    have Hrl := Lib.hid (Hr0.out.below Hb.out)
    by_cases hlt : k < l.length
    · obtain ⟨-, -, -, -, hC⟩ := rd_cells Hrl.out
      obtain ⟨g2, off2, hA2, hg2⟩ := rd_addr Hrl.out (by omega)
      have hc1 := hC g2 off2 hA2 k hlt
      clear hC
      have hg2w : g2 < wr.heap.size := Nat.lt_of_lt_of_le hg2 Hb.out.size
      subst hA2
      rw [show l.getD k 0 = l[k] by simp [hlt]] at hc1
      have hd : decide ((k : Int) < (l.length : Int)) = true := decide_eq_true (by omega)
      have hdn : decide (k < l.length) = true := decide_eq_true hlt
      have hk1 : (k : Int) < (l.length : Int) := by omega
      have Hmem := Lib.hid (List.getElem_mem hlt)
      have Htk := Lib.hid (List.take_succ_eq_append_getElem hlt)
      generalize l[k] = d at *
      have Hcl := Lib.hid (fun w9 => dsClass_any d w9)
      obtain ⟨b, hb⟩ : ∃ b, clB d = b := ⟨_, rfl⟩
      rw [hb] at Hcl
      have Hcd := Lib.hid hb
      clear hb
      cases b
      · have HV := Lib.hid (Hno.out d Hmem.out Hcd.out)
        go_wp2_with fail
        refine (Hcl.out _).mono ?_; rintro e w7 ⟨rfl, hb7⟩
        go_wp2
        go_ret
        exact ⟨by rw [HV.out] <;> rfl, bthen Hb.out hb7⟩
      · go_wp2_with fail
        refine (Hcl.out _).mono ?_; rintro e w7 ⟨rfl, hb7⟩
        have Hb7 := Lib.hid (bthen Hb.out hb7)
        have Hal2 := Lib.hid (show ∀ x ∈ l.take (k + 1), clB x = true from fun q hq => by
          rw [Htk.out] at hq
          rcases List.mem_append.1 hq with h | h
          · exact Hal.out q h
          · rw [List.mem_singleton.1 h]; exact Hcd.out)
        clear hb7 hc1 hg2 hg2w
        go_wp2
        go_roundw
        case rel => exact ⟨k + 1, by omega, by go_num, Hal2, Hb7⟩
        case measure => simp [intOf]; omega
    · obtain rfl : k = l.length := by omega
      have hd : decide ((l.length : Int) < (l.length : Int)) = false := decide_eq_false (by omega)
      have hdn : decide (l.length < l.length) = false := decide_eq_false (by omega)
      have HV := Lib.hid (Hyes.out (fun x hx => Hal.out x (by rw [List.take_length]; exact hx)))
      have Hin := Lib.hid (fun w9 => l1In_lit (n := (l.length : Int)) (lo := 1) (hi := 64) (k := insB l.length 1 64) rfl w9)
      go_wp2_with (go_at_call 40; refine (Hin.out _).mono ?_; rintro e w8 ⟨rfl, hb8⟩)
      go_ret
      exact ⟨by rw [HV.out] <;> rfl, bthen Hb.out hb8⟩
set_option linter.unusedSimpArgs false in
set_option linter.unusedVariables false in
set_option maxRecDepth 8000 in
set_option maxHeartbeats 8000000 in
theorem l1RisingC_any (A : Option Addr) (c : Nat) (l : List Int) (w : World) (h : Rd inS w w.heap.size (.slice A l.length c) l) (hlen : l.length ≤ 1000000000) (hl : ∀ x ∈ l, -1000000 ≤ x ∧ x ≤ 1000000) :
    Calls Tryz.prog 115 #[.slice A l.length c, .int .i64 (-1000000), .int .i64 1000000] w fun e w' => e = .returned (.bool (decide (l.Pairwise (· < ·)))) ∧ Below w.heap.size w w' := by
  have Hr0 := Lib.hid h
  have Hl := Lib.hid hl
  have Hno := Lib.hid (fun (m : Nat) (hm : m + 1 < l.length) (hc : l[m + 1] ≤ l[m]'(by omega)) => show decide (l.Pairwise (· < ·)) = false from decide_eq_false (fun hi => by have := inc_at hm hi; omega))
  have Hyes := Lib.hid (fun (hh : Inc l) => show decide (l.Pairwise (· < ·)) = true from decide_eq_true hh)
  clear h hl
  generalize decide (l.Pairwise (· < ·)) = R at *
  go_enter Tryz.func115, Tryz.ntmps115
  go_wp2
  go_loopw [11] (fun i wr => ∃ k : Nat, k ≤ l.length ∧ i = .int .i64 (k : Int) ∧ Hid (Inc (l.take k)) ∧ Hid (Below w.heap.size w wr)) (fun i _ => l.length - (intOf i).toNat)
  case atStart => exact ⟨0, Nat.zero_le _, rfl, Lib.hid (by rw [List.take_zero]; exact List.Pairwise.nil), Lib.hid (Below.refl _ _)⟩
  case round =>
    obtain ⟨k, hk, rfl, Hal, Hb⟩ := hrel
    have hk0 : (0 : Int) ≤ (k : Int) := by omega
    have Hrl := Lib.hid (Hr0.out.below Hb.out)
    by_cases hlt : k < l.length
    · obtain ⟨-, -, -, -, hC⟩ := rd_cells Hrl.out
      obtain ⟨g2, off2, hA2, hg2⟩ := rd_addr Hrl.out (by omega)
      have hCC := fun j hj => hC g2 off2 hA2 j hj
      clear hC
      have hg2w : g2 < wr.heap.size := Nat.lt_of_lt_of_le hg2 Hb.out.size
      subst hA2
      have Hlk := Lib.hid (Hl.out _ (List.getElem_mem hlt))
      have Hin := Lib.hid (fun w9 => l1In_lit (n := l[k]) (lo := -1000000) (hi := 1000000) (k := true) (by rw [cl_in, decide_eq_true Hlk.out]) w9)
      have hd : decide ((k : Int) < (l.length : Int)) = true := decide_eq_true (by omega)
      have hdn : decide (k < l.length) = true := decide_eq_true hlt
      have hk1 : (k : Int) < (l.length : Int) := by omega
      rcases Nat.eq_zero_or_pos k with h0 | h0
      · have hc1 := hCC k hlt
        rw [show l.getD k 0 = l[k] by simp [hlt]] at hc1
        have Hn := Lib.hid (inc_snoc hlt Hal.out (fun m e => absurd e (by omega)))
        have g0 : decide ((0 : Int) < (k : Int)) = false := decide_eq_false (by omega)
        have g0n : decide (0 < k) = false := decide_eq_false (by omega)
        clear hCC h0
        generalize l[k] = d at *
        go_wp2_with (go_at_call 40; refine (Hin.out _).mono ?_; rintro e w8 ⟨rfl, hb8⟩)
        have Hb8 := Lib.hid (bthen Hb.out hb8)
        go_roundw
        case rel => exact ⟨k + 1, by omega, by go_num, Hn, Hb8⟩
        case measure => simp [intOf]; omega
      · obtain ⟨m, hm⟩ : ∃ m, k = m + 1 := ⟨k - 1, by omega⟩
        have hml : m < l.length := by omega
        have hc1 := hCC k hlt
        have hc0 := hCC m hml
        rw [show l.getD k 0 = l[k] by simp [hlt]] at hc1
        rw [show l.getD m 0 = l[m] by simp [hml]] at hc0
        have Hv := Lib.hid (show l[k] ≤ l[m] → R = false from fun hx => Hno.out m (by omega) (by simpa only [hm] using hx))
        have Hne := Lib.hid (show l[m] < l[k] → Inc (l.take (k + 1)) from fun hx => inc_snoc hlt Hal.out (fun m' e => by (obtain rfl : m = m' := by omega); exact hx))
        clear hCC Hal
        have hkm : (k : Int) - 1 = (m : Int) := by omega
        clear hm
        have hm0 : (0 : Int) ≤ (m : Int) := by omega
        have hm1 : (m : Int) < (l.length : Int) := by omega
        have hg0 : decide ((0 : Int) < (k : Int)) = true := decide_eq_true (by omega)
        have hg0n : decide (0 < k) = true := decide_eq_true h0
        generalize l[m] = y at *
        generalize l[k] = d at *
        by_cases hyd : d ≤ y
        · have g1 : decide (d ≤ y) = true := decide_eq_true hyd
          have HV := Lib.hid (Hv.out hyd)
          go_wp2_with (go_at_call 40; refine (Hin.out _).mono ?_; rintro e w8 ⟨rfl, hb8⟩; have hc8 := (hb8.cell (p := ⟨g2, off2 + m, none⟩) hg2w).trans hc0)
          go_ret
          exact ⟨by rw [HV.out] <;> rfl, bthen Hb.out hb8⟩
        · have g1 : decide (d ≤ y) = false := decide_eq_false hyd
          have HV := Lib.hid (Hne.out (by omega))
          go_wp2_with (go_at_call 40; refine (Hin.out _).mono ?_; rintro e w8 ⟨rfl, hb8⟩; have hc8 := (hb8.cell (p := ⟨g2, off2 + m, none⟩) hg2w).trans hc0)
          have Hb8 := Lib.hid (bthen Hb.out hb8)
          go_roundw
          case rel => exact ⟨k + 1, by omega, by go_num, HV, Hb8⟩
          case measure => simp [intOf]; omega
    · obtain rfl : k = l.length := by omega
      have hd : decide ((l.length : Int) < (l.length : Int)) = false := decide_eq_false (by omega)
      have hdn : decide (l.length < l.length) = false := decide_eq_false (by omega)
      have HV := Lib.hid (Hyes.out (by have h9 := Hal.out; rwa [List.take_length] at h9))
      go_wp2
      go_ret
      exact ⟨by rw [HV.out] <;> rfl, Hb.out⟩
end
end Go.Proofs.YthdfpfhkmfmnbaaGreat
