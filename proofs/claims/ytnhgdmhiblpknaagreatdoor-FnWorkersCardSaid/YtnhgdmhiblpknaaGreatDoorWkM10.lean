/- Own texts put together: CrashTask and StepTask of both: the walks; Plain laws of the ranges of a task: which lists are some of them; up to where all is done; The laws' own helpers at slices of ints; The laws' own helpers at slices of slices of ints. Conditions: those of each theorem. -/
import Derived.Test.YtnhgdmhiblpknaaGreatDoorWkM8
import Derived.Test.YtnhgdmhiblpknaaGreatDoorWkM1
import Derived.Test.YtnhgdmhiblpknaaGreatDoorRows
import Derived.Test.YtnhgdmhiblpknaaGreatDoorWkM7
namespace Go.Proofs.YtnhgdmhiblpknaaGreatDoor
section
open Go Go.RowKit

def zeroT : Int × Int × Int × Int × Int × List Pt × Bool := (0, 0, 0, 0, 0, [], false)
/-- A result that is a task and a bool. -/
def TkRet (V : Int × Int × Int × Int × Int × List Pt × Bool) (base : Nat) (r : Ending) (w' : World) : Prop :=
  ∃ (A B M D T : Int) (L : List Pt) (k : Bool) (v' : Value), r = .returned (.tuple #[.agg #[.int .i64 A, .int .i64 B, .int .i64 M, .int .i64 D, .int .i64 T, v'], .bool k]) ∧ V = (A, B, M, D, T, L, k) ∧ w'.ownsRow base 117 3 v' L.length (ptS.flat L)
theorem TkRet.zero {V : Int × Int × Int × Int × Int × List Pt × Bool} {base : Nat} {w' : World} (h : V = zeroT) : TkRet V base (.returned (.tuple #[.agg #[.int .i64 0, .int .i64 0, .int .i64 0, .int .i64 0, .int .i64 0, .slice none 0 0], .bool false])) w' :=
  ⟨0, 0, 0, 0, 0, [], false, _, rfl, h, rfl, Or.inl ⟨rfl, rfl⟩⟩
theorem TkRet.mk {V : Int × Int × Int × Int × Int × List Pt × Bool} {base a1 : Nat} {a b m d n : Int} {A : Option Addr} {c : Nat} {w' : World} (h : V = (a, b, m, d, n, hitsZ a b m 0 n, true)) (ho : w'.ownsRow a1 117 3 (.slice A (hitsZ a b m 0 n).length c) (hitsZ a b m 0 n).length (ptS.flat (hitsZ a b m 0 n))) (hb : base ≤ a1) :
    TkRet V base (.returned (.tuple #[.agg #[.int .i64 a, .int .i64 b, .int .i64 m, .int .i64 d, .int .i64 n, .slice A (hitsZ a b m 0 n).length c], .bool true])) w' :=
  ⟨a, b, m, d, n, _, true, _, rfl, h, own_mono ho hb⟩
def stepV (a b m d t : Int) (fs : List Pt) (n : Int) : Int × Int × Int × Int × Int × List Pt × Bool := if tkG a b m d t fs && insB n 0 5000 then (a, b, m, d, min (t + n) (totI m d), hitsZ a b m 0 (min (t + n) (totI m d)), true) else zeroT
def crashV (a b m d t : Int) (fs : List Pt) (e : Int) : Int × Int × Int × Int × Int × List Pt × Bool := if tkG a b m d t fs && insB e 1 5000 then (a, b, m, d, t - t % e, hitsZ a b m 0 (t - t % e), true) else zeroT

theorem hitsZ_len2 {a b m d t : Int} {fs : List Pt} {n : Int} (h : tkG a b m d t fs = true) (hn : n ≤ totI m d) : (hitsZ a b m 0 n).length ≤ 4010 := by
  have h1 := hitsZ_len a b m 0 n
  have h2 := (tkG_spec h).2.2.2
  omega
theorem stepV_len {a b m d t : Int} {fs : List Pt} {n A B M D T : Int} {L : List Pt} {k : Bool} (h : stepV a b m d t fs n = (A, B, M, D, T, L, k)) : L.length ≤ 4010 := by
  unfold stepV at h
  by_cases hg : (tkG a b m d t fs && insB n 0 5000) = true
  · rw [if_pos hg] at h
    simp only [Bool.and_eq_true] at hg
    simp only [Prod.mk.injEq] at h
    rw [← h.2.2.2.2.2.1]
    exact hitsZ_len2 hg.1 (by omega)
  · rw [if_neg hg] at h
    unfold zeroT at h
    simp only [Prod.mk.injEq] at h
    rw [← h.2.2.2.2.2.1]; simp
theorem crashV_len {a b m d t : Int} {fs : List Pt} {n A B M D T : Int} {L : List Pt} {k : Bool} (h : crashV a b m d t fs n = (A, B, M, D, T, L, k)) : L.length ≤ 4010 := by
  unfold crashV at h
  by_cases hg : (tkG a b m d t fs && insB n 1 5000) = true
  · rw [if_pos hg] at h
    simp only [Bool.and_eq_true] at hg
    simp only [Prod.mk.injEq] at h
    rw [← h.2.2.2.2.2.1]
    have h1 := (tkG_spec hg.1).2.1
    have h2 := insB_true hg.2
    exact hitsZ_len2 hg.1 (by have := Int.emod_nonneg t (show n ≠ 0 by omega); omega)
  · rw [if_neg hg] at h
    unfold zeroT at h
    simp only [Prod.mk.injEq] at h
    rw [← h.2.2.2.2.2.1]; simp
theorem runV_len (a b m d t : Int) (fs : List Pt) (f l : Int) : (runV a b m d t fs f l).1.length ≤ 4010 := by
  unfold runV
  split
  · rename_i hg
    simp only [Bool.and_eq_true, decide_eq_true_eq] at hg
    have h1 := hitsZ_len a b m f l
    have h2 := insB_true hg.2.1
    have h3 := (tkG_spec hg.1).2.2.2
    show (hitsZ a b m f l).length ≤ 4010
    omega
  · simp
end
section
open Go Go.RowKit

abbrev LI := List Int
/-! ### Counting -/
def sumNJ (l : List Nat) : Nat := l.sum
theorem sumNJ_add {E : Type} (f g : E → Nat) : ∀ l : List E, (l.map (fun x => f x + g x)).sum = (l.map f).sum + (l.map g).sum
  | [] => rfl
  | x :: l => by
    have ih := sumNJ_add f g l
    simp only [List.map_cons, List.sum_cons]
    omega
theorem sum_ite (x : LI) : ∀ A : List LI, (A.map (fun r => if x = r then 1 else 0)).sum = A.count x
  | [] => rfl
  | r :: A => by
    have ih := sum_ite x A
    rw [List.map_cons, List.sum_cons, ih, List.count_cons]
    by_cases h : x = r
    · subst h; simp; omega
    · rw [if_neg h, if_neg (by intro e; exact h (beq_iff_eq.1 e).symm)]; omega
theorem count_swap : ∀ (R A : List LI), (A.map (fun r => R.count r)).sum = (R.map (fun x => A.count x)).sum
  | [], A => by
    simp only [List.count_nil, List.map_nil, List.sum_nil]
    induction A with
    | nil => rfl
    | cons a A ih => rw [List.map_cons, List.sum_cons, ih]; rfl
  | x :: R, A => by
    have ih := count_swap R A
    rw [List.map_cons, List.sum_cons, ← ih, ← sum_ite x A]
    have h : (A.map (fun r => (x :: R).count r)) = A.map (fun r => R.count r + (if x = r then 1 else 0)) := by
      apply List.map_congr_left
      intro r _
      rw [List.count_cons]
      by_cases h : x = r
      · subst h; simp
      · rw [if_neg h, if_neg (by intro e; exact h (beq_iff_eq.1 e))]
    rw [h, sumNJ_add]
    omega
theorem sum_le_len {E : Type} (f : E → Nat) : ∀ l : List E, (∀ x ∈ l, f x ≤ 1) → (l.map f).sum ≤ l.length
  | [], _ => Nat.le_refl _
  | x :: l, h => by
    have ih := sum_le_len f l (fun y hy => h y (by simp [hy]))
    have := h x (by simp)
    simp only [List.map_cons, List.sum_cons, List.length_cons]
    omega
theorem sum_eq_len {E : Type} (f : E → Nat) : ∀ l : List E, (∀ x ∈ l, f x ≤ 1) → ((l.map f).sum = l.length ↔ ∀ x ∈ l, f x = 1)
  | [], _ => by simp
  | x :: l, h => by
    have h2 : ∀ y ∈ l, f y ≤ 1 := fun y hy => h y (by simp [hy])
    have ih := sum_eq_len f l h2
    have hl := sum_le_len f l h2
    have hx := h x (by simp)
    simp only [List.map_cons, List.sum_cons, List.length_cons]
    constructor
    · intro e y hy
      rcases List.mem_cons.1 hy with rfl | hy
      · omega
      · exact (ih.1 (by omega)) y hy
    · intro hall
      have h3 := hall x (by simp)
      have h4 := ih.2 (fun y hy => hall y (by simp [hy]))
      omega
theorem not_mem_count {x : LI} {A : List LI} (h : x ∉ A) : A.count x = 0 := List.count_eq_zero.2 h
theorem mem_count {x : LI} {A : List LI} (h : x ∈ A) : 1 ≤ A.count x := List.count_pos_iff.2 h

/-! ### Which lists are some of others -/
/-- As the program sees it: each is one of them, and none before it. -/
def smB (R A : List LI) : Bool := (List.range R.length).all (fun i => decide (cat' R i ∈ A) && !decide (cat' R i ∈ R.take i))
/-- As the reference counts. -/
def skOk (R A : List LI) : Bool := A.all (fun r => decide (R.count r ≤ 1)) && decide ((A.map (fun r => R.count r)).sum = R.length)
theorem cat_get {R : List LI} {i : Nat} (h : i < R.length) : cat' R i = R[i] := by
  unfold cat'; rw [List.getD_eq_getElem?_getD, List.getElem?_eq_getElem h]; rfl
theorem smB_iff (R A : List LI) : smB R A = true ↔ ∀ i, i < R.length → cat' R i ∈ A ∧ cat' R i ∉ R.take i := by
  unfold smB
  simp only [List.all_eq_true, List.mem_range, Bool.and_eq_true, decide_eq_true_eq, Bool.not_eq_true', decide_eq_false_iff_not]
theorem skOk_iff (R A : List LI) : skOk R A = true ↔ (∀ r ∈ A, R.count r ≤ 1) ∧ (A.map (fun r => R.count r)).sum = R.length := by
  unfold skOk
  simp only [List.all_eq_true, Bool.and_eq_true, decide_eq_true_eq]
theorem count_take_one {R : List LI} (h : ∀ i, i < R.length → cat' R i ∉ R.take i) (r : LI) : ∀ k, k ≤ R.length → (R.take k).count r ≤ 1
  | 0, _ => by simp
  | k + 1, hk => by
    have ih := count_take_one h r k (by omega)
    have hk2 : k < R.length := by omega
    rw [List.take_succ_eq_append_getElem hk2, List.count_append]
    by_cases he : R[k] = r
    · have h1 := h k hk2
      rw [cat_get hk2, he] at h1
      rw [not_mem_count h1, he]
      simp
    · rw [show ([R[k]] : List LI).count r = 0 from not_mem_count (by simp; exact fun e => he e.symm)]
      exact ih
theorem sm_sk {R A : List LI} (hA : ∀ r, A.count r ≤ 1) : smB R A = skOk R A := by
  rw [Bool.eq_iff_iff, smB_iff, skOk_iff, count_swap, sum_eq_len _ _ (fun x _ => hA x)]
  constructor
  · intro h
    refine ⟨fun r _ => ?_, fun x hx => ?_⟩
    · have := count_take_one (fun i hi => (h i hi).2) r R.length (Nat.le_refl _)
      rwa [List.take_length] at this
    · obtain ⟨i, hi, rfl⟩ := List.mem_iff_getElem.1 hx
      have h1 := (h i hi).1
      rw [cat_get hi] at h1
      have := mem_count h1; have := hA R[i]; omega
  · rintro ⟨h1, h2⟩ i hi
    rw [cat_get hi]
    have h3 := h2 R[i] (List.getElem_mem hi)
    have h4 : R[i] ∈ A := List.count_pos_iff.1 (by omega)
    refine ⟨h4, fun h5 => ?_⟩
    have h6 := h1 R[i] h4
    have h7 : R.count R[i] = (R.take i).count R[i] + (R.drop i).count R[i] := by rw [← List.count_append, List.take_append_drop]
    have h8 := mem_count h5
    have h9 : 1 ≤ (R.drop i).count R[i] := mem_count (by rw [List.drop_eq_getElem_cons hi]; exact List.mem_cons_self)
    omega
theorem sm_len {R A : List LI} (hA : ∀ r, A.count r ≤ 1) (h : smB R A = true) : R.length ≤ A.length := by
  rw [sm_sk hA, skOk_iff] at h
  rw [← h.2]
  exact sum_le_len _ _ h.1

/-! ### Up to where all is done -/
def jAt (R : List LI) : List LI → Int → Int
  | [], t => t
  | r :: rs, t => if r ∈ R then jAt R rs (r.getD 1 0) else t
/-- All of the first k are there. -/
def opn (R A : List LI) (k : Nat) : Bool := (A.take k).all (fun r => decide (r ∈ R))
theorem jAt_app (R : List LI) : ∀ (A B : List LI) (t : Int), jAt R (A ++ B) t = if A.all (fun r => decide (r ∈ R)) = true then jAt R B (jAt R A t) else jAt R A t
  | [], B, t => by simp [jAt]
  | r :: A, B, t => by
    rw [List.cons_append, jAt, jAt, List.all_cons]
    by_cases h : r ∈ R
    · rw [if_pos h, if_pos h, jAt_app R A B, decide_eq_true h]; rfl
    · rw [if_neg h, if_neg h, decide_eq_false h]; rfl
theorem jAt_step {R A : List LI} {k : Nat} {t : Int} (hk : k < A.length) : jAt R (A.take (k + 1)) t = if opn R A (k + 1) = true then (cat' A k).getD 1 0 else jAt R (A.take k) t := by
  unfold opn
  rw [List.take_succ_eq_append_getElem hk, jAt_app, List.all_append, cat_get hk]
  by_cases h1 : (A.take k).all (fun r => decide (r ∈ R)) = true
  · rw [if_pos h1, h1]
    simp only [List.all_cons, List.all_nil, Bool.and_true, Bool.true_and, decide_eq_true_eq, jAt]
  · rw [if_neg h1, if_neg]
    intro h2
    exact h1 (Bool.and_eq_true _ _ ▸ h2).1
theorem opn_step {R A : List LI} {k : Nat} (hk : k < A.length) : opn R A (k + 1) = (opn R A k && decide (cat' A k ∈ R)) := by
  unfold opn
  rw [List.take_succ_eq_append_getElem hk, List.all_append, cat_get hk]
  simp
theorem jAt_stop {R A : List LI} {k : Nat} {t : Int} (hk : k < A.length) (ho : opn R A k = true) (hn : cat' A k ∉ R) : jAt R A t = jAt R (A.take k) t := by
  have h : jAt R A t = jAt R (A.take k ++ A.drop k) t := by rw [List.take_append_drop]
  have ho' : (A.take k).all (fun r => decide (r ∈ R)) = true := ho
  rw [h, List.drop_eq_getElem_cons hk, jAt_app, if_pos ho', jAt, ← cat_get hk, if_neg hn]

/-! ### The ranges of a task -/
theorem rgN_at (rest w at0 : Int) : ∀ k : Nat, (rgN rest w at0 k).2 = at0 + k * (rest / w) + min (k : Int) (rest % w) ∨ rest % w < 0
  | 0 => by
    by_cases h : rest % w < 0
    · exact .inr h
    · refine .inl ?_
      simp only [rgN]
      have : min ((0 : Nat) : Int) (rest % w) = 0 := by omega
      rw [this]; simp
  | k + 1 => by
    rcases rgN_at rest w at0 k with h | h
    · by_cases h9 : rest % w < 0
      · exact .inr h9
      refine .inl ?_
      simp only [rgN]
      rw [h]
      unfold rgC
      have e : ((k + 1 : Nat) : Int) * (rest / w) = k * (rest / w) + rest / w := by
        rw [show ((k + 1 : Nat) : Int) = (k : Int) + 1 by omega, Int.add_mul, Int.one_mul]
      rw [e]
      generalize (k : Int) * (rest / w) = P
      generalize rest / w = Q
      split <;> omega
    · exact .inr h
theorem rgN_end {rest w at0 : Int} (_hr : 0 ≤ rest) (hw : 1 ≤ w) : (rgN rest w at0 w.toNat).2 = at0 + rest := by
  have h1 := Int.emod_nonneg rest (show w ≠ 0 by omega)
  have h2 := Int.emod_lt_of_pos rest (show 0 < w by omega)
  rcases rgN_at rest w at0 w.toNat with h | h
  · rw [h, show ((w.toNat : Nat) : Int) = w by omega]
    have h3 := Int.mul_ediv_add_emod rest w
    have h4 : min w (rest % w) = rest % w := by omega
    rw [h4]; omega
  · omega
structure RgIn (at0 F : Int) (L : List LI) : Prop where
  el : ∀ r ∈ L, ∃ x y, r = [x, y] ∧ at0 ≤ x ∧ x < y ∧ y ≤ F
  cnt : ∀ r, L.count r ≤ 1
theorem rgN_in {rest w at0 : Int} (h0 : 0 ≤ rest) (hw : 1 ≤ w) : ∀ k : Nat, RgIn at0 (rgN rest w at0 k).2 (rgN rest w at0 k).1 ∧ at0 ≤ (rgN rest w at0 k).2
  | 0 => ⟨⟨by simp [rgN], by simp [rgN]⟩, by simp [rgN]⟩
  | k + 1 => by
    obtain ⟨ih, ih2⟩ := rgN_in (at0 := at0) h0 hw k
    have hq : 0 ≤ rest / w := Int.ediv_nonneg h0 (by omega)
    have hc : 0 ≤ rgC rest w k := by unfold rgC; split <;> omega
    simp only [rgN]
    refine ⟨⟨?_, ?_⟩, by omega⟩
    · intro r hr
      split at hr
      · rcases List.mem_append.1 hr with hr | hr
        · obtain ⟨x, y, e, h1, h2, h3⟩ := ih.el r hr
          exact ⟨x, y, e, h1, h2, by omega⟩
        · simp only [List.mem_singleton] at hr
          exact ⟨_, _, hr, ih2, by omega, Int.le_refl _⟩
      · obtain ⟨x, y, e, h1, h2, h3⟩ := ih.el r hr
        exact ⟨x, y, e, h1, h2, by omega⟩
    · intro r
      split
      · rw [List.count_append]
        by_cases hm : r ∈ (rgN rest w at0 k).1
        · obtain ⟨x, y, e, h1, h2, h3⟩ := ih.el r hm
          have h4 : ([[(rgN rest w at0 k).2, (rgN rest w at0 k).2 + rgC rest w k]] : List LI).count r = 0 := by
            refine not_mem_count (fun h => ?_)
            simp only [List.mem_singleton] at h
            rw [e] at h
            injection h with h5
            omega
          have := ih.cnt r
          omega
        · rw [not_mem_count hm]
          have h9 : ([[(rgN rest w at0 k).2, (rgN rest w at0 k).2 + rgC rest w k]] : List LI).count r ≤ ([[(rgN rest w at0 k).2, (rgN rest w at0 k).2 + rgC rest w k]] : List LI).length := List.count_le_length
          simpa using h9
      · exact ih.cnt r
theorem rangesL_in {m d t w : Int} (h0 : 0 ≤ totI m d - t) (hw : 1 ≤ w) : RgIn t (totI m d) (rangesL m d t w) := by
  have h1 := (rgN_in (rest := totI m d - t) (w := w) (at0 := t) h0 hw w.toNat).1
  rw [rgN_end h0 hw] at h1
  have : t + (totI m d - t) = totI m d := by omega
  rw [this] at h1
  exact h1
theorem rangesL_len8 {m d t w : Int} (hw : w ≤ 8) : (rangesL m d t w).length ≤ 8 := by
  have := rgN_len (totI m d - t) w t w.toNat
  unfold rangesL
  omega
theorem jAt_bd (R : List LI) {at0 F : Int} : ∀ (A : List LI) (t : Int), (∀ r ∈ A, ∃ x y, r = [x, y] ∧ at0 ≤ x ∧ x < y ∧ y ≤ F) → at0 ≤ t → t ≤ F → at0 ≤ jAt R A t ∧ jAt R A t ≤ F
  | [], t, _, h1, h2 => ⟨h1, h2⟩
  | r :: A, t, h, h1, h2 => by
    unfold jAt
    split
    · obtain ⟨x, y, e, k1, k2, k3⟩ := h r (by simp)
      rw [e]
      exact jAt_bd R A y (fun r hr => h r (by simp [hr])) (by omega) k3
    · exact ⟨h1, h2⟩

/-! ### What both hand back -/
def jnF (m d t : Int) (R : List LI) : Nat → Int → Option Int
  | 0, _ => none
  | f + 1, w => if smB R (rangesL m d t w) = true then some (jAt R (rangesL m d t w) t) else jnF m d t R f (w + 1)
theorem jnF_long {m d t : Int} {R : List LI} (h0 : 0 ≤ totI m d - t) (hl : 8 < R.length) : ∀ (f : Nat) (w : Int), 1 ≤ w → w + f ≤ 9 → jnF m d t R f w = none
  | 0, _, _, _ => rfl
  | f + 1, w, h1, h2 => by
    unfold jnF
    rw [if_neg, jnF_long h0 hl f (w + 1) (by omega) (by omega)]
    intro h
    have h3 := sm_len (rangesL_in h0 h1).cnt h
    have h4 := rangesL_len8 (m := m) (d := d) (t := t) (w := w) (by omega)
    omega
def joinV (a b m d t : Int) (fs : List Pt) (R : List LI) : Int × Int × Int × Int × Int × List Pt × Bool :=
  if tkG a b m d t fs = true then match jnF m d t R 8 1 with
    | some n => (a, b, m, d, n, hitsZ a b m 0 n, true)
    | none => zeroT
  else zeroT
theorem joinV_bad {a b m d t : Int} {fs : List Pt} {R : List LI} (h : tkG a b m d t fs = false) : joinV a b m d t fs R = zeroT := by unfold joinV; rw [h]; rfl
theorem joinV_none {a b m d t : Int} {fs : List Pt} {R : List LI} (h : jnF m d t R 8 1 = none) : joinV a b m d t fs R = zeroT := by unfold joinV; rw [h]; split <;> rfl
theorem joinV_some {a b m d t : Int} {fs : List Pt} {R : List LI} {n : Int} (hk : tkG a b m d t fs = true) (h : jnF m d t R 8 1 = some n) : joinV a b m d t fs R = (a, b, m, d, n, hitsZ a b m 0 n, true) := by unfold joinV; rw [if_pos hk, h]
theorem jnF_hit {m d t : Int} {R : List LI} {f : Nat} {w : Int} (h : smB R (rangesL m d t w) = true) : jnF m d t R (f + 1) w = some (jAt R (rangesL m d t w) t) := by
  conv => lhs; unfold jnF
  rw [if_pos h]
theorem jnF_miss {m d t : Int} {R : List LI} {f : Nat} {w : Int} (h : smB R (rangesL m d t w) = false) : jnF m d t R (f + 1) w = jnF m d t R f (w + 1) := by
  conv => lhs; unfold jnF
  rw [if_neg (by rw [h]; exact Bool.false_ne_true)]
end
section
open Go Go.RowKit

end
section
open Go Go.RowKit

theorem sl_cells {w : World} {g off n : Nat} {es : List Value} (h : ∀ k, k < n → ∀ j, j < slS.size → w.cell? ⟨g, off + k * slS.size + j, none⟩ = some (slS.cell (slS.get es k) j)) (k : Nat) (hk : k < n) : w.cell? ⟨g, off + k, none⟩ = some (vat es k) := by
  have := h k hk 0 (by decide)
  simp only [slS, Nat.mul_one, Nat.add_zero] at this
  exact this
end
end Go.Proofs.YtnhgdmhiblpknaaGreatDoor
