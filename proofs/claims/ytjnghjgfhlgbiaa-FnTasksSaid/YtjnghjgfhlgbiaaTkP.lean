/- Plain laws of FnTasks: steps in parts, the end, crashed tasks, candidates. Conditions: none. -/
import Derived.Test.YtjnghjgfhlgbiaaTaskC
namespace Go.Proofs.Ytjnghjgfhlgbiaa
open Go Go.RowKit

theorem tkG_parts {a b m d t : Int} {fs : List Pt} (h : tkG a b m d t fs = true) : tkB a b m d = true ∧ (0 ≤ t ∧ t ≤ totI m d) ∧ fs = hitsZ a b m 0 t := by
  unfold tkG at h
  simp only [Bool.and_eq_true, decide_eq_true_eq] at h
  exact ⟨h.1, insB_true h.2.1, h.2.2⟩
theorem tkG_at {a b m d n : Int} (h : tkB a b m d = true) (h0 : 0 ≤ n) (h1 : n ≤ totI m d) : tkG a b m d n (hitsZ a b m 0 n) = true := by
  unfold tkG
  rw [h, insB_mk h0 h1, decide_eq_true rfl]
  rfl
theorem tkB_tot {a b m d : Int} (h : tkB a b m d = true) : 0 ≤ totI m d ∧ totI m d ≤ 4010 := totI_bd (tkB_tk h).m (tkB_tk h).d
theorem step_of {a b m d t n : Int} {fs : List Pt} (h : tkG a b m d t fs = true) (h0 : 0 ≤ n) (h1 : n ≤ 5000) : stepV a b m d t fs n = (a, b, m, d, min (t + n) (totI m d), hitsZ a b m 0 (min (t + n) (totI m d)), true) := by
  unfold stepV
  rw [h, insB_mk h0 h1]
  rfl
theorem step_yes {a b m d t n A B M D T : Int} {fs Y : List Pt} (h : stepV a b m d t fs n = (A, B, M, D, T, Y, true)) : tkG a b m d t fs = true ∧ (0 ≤ n ∧ n ≤ 5000) ∧ A = a ∧ B = b ∧ M = m ∧ D = d ∧ T = min (t + n) (totI m d) ∧ Y = hitsZ a b m 0 (min (t + n) (totI m d)) := by
  have h2 := h
  unfold stepV at h2
  split at h2
  · rename_i hc
    simp only [Bool.and_eq_true] at hc
    simp only [Prod.mk.injEq] at h2
    obtain ⟨e1, e2, e3, e4, e5, e6, -⟩ := h2
    exact ⟨hc.1, insB_true hc.2, e1.symm, e2.symm, e3.symm, e4.symm, e5.symm, e6.symm⟩
  · unfold zeroT at h2
    simp at h2
/-- The task behind k further candidates is valid. -/
theorem tk_min {a b m d t k : Int} {fs : List Pt} (h : tkG a b m d t fs = true) (h0 : 0 ≤ k) : tkG a b m d (min (t + k) (totI m d)) (hitsZ a b m 0 (min (t + k) (totI m d))) = true := by
  obtain ⟨h1, h2, -⟩ := tkG_parts h
  exact tkG_at h1 (by omega) (by omega)
theorem step_two {a b m d t n k : Int} {fs : List Pt} (h : tkG a b m d t fs = true) (h0 : 0 ≤ k) (h1 : k ≤ n) (h2 : n ≤ 5000) :
    stepV a b m d (min (t + k) (totI m d)) (hitsZ a b m 0 (min (t + k) (totI m d))) (n - k) = (a, b, m, d, min (t + n) (totI m d), hitsZ a b m 0 (min (t + n) (totI m d)), true) := by
  rw [step_of (tk_min h h0) (by omega) (by omega)]
  have e : min (min (t + k) (totI m d) + (n - k)) (totI m d) = min (t + n) (totI m d) := by omega
  rw [e]
theorem step_end {a b m d t : Int} {fs : List Pt} (h : tkG a b m d t fs = true) : stepV a b m d t fs 5000 = (a, b, m, d, totI m d, hitsZ a b m 0 (totI m d), true) := by
  obtain ⟨h1, h2, -⟩ := tkG_parts h
  have h3 := tkB_tot h1
  rw [step_of h (by omega) (by omega)]
  have e : min (t + 5000) (totI m d) = totI m d := by omega
  rw [e]
theorem rest_end {a b m d : Int} (h : tkB a b m d = true) : restV a b m d (totI m d) (hitsZ a b m 0 (totI m d)) = (0, true) := by
  unfold restV
  rw [tkG_at h (tkB_tot h).1 (Int.le_refl _), Int.sub_self]
  rfl
theorem crash_law {a b m d t e A B M D T : Int} {fs Y : List Pt} (h : crashV a b m d t fs e = (A, B, M, D, T, Y, true)) :
    A = a ∧ B = b ∧ M = m ∧ D = d ∧ (1 ≤ e ∧ e ≤ 5000) ∧ (0 ≤ T ∧ T ≤ t ∧ t ≤ 4010) ∧ T % e = 0 ∧ t - T < e ∧ stepV a b m d T Y (t - T) = (a, b, m, d, t, fs, true) := by
  unfold crashV at h
  split at h
  · rename_i hc
    simp only [Bool.and_eq_true] at hc
    obtain ⟨hg, he⟩ := hc
    have he := insB_true he
    simp only [Prod.mk.injEq] at h
    obtain ⟨e1, e2, e3, e4, e5, e6, -⟩ := h
    obtain ⟨h1, h2, h3⟩ := tkG_parts hg
    have h4 := tkB_tot h1
    have p1 := Int.emod_nonneg t (show e ≠ 0 by omega)
    have p2 := Int.emod_lt_of_pos t (show 0 < e by omega)
    have p3 : t % e ≤ t := by
      have := Int.emod_add_mul_ediv t e
      have h9 : 0 ≤ t / e := Int.ediv_nonneg (by omega) (by omega)
      have := Int.mul_nonneg (show 0 ≤ e by omega) h9
      omega
    refine ⟨e1.symm, e2.symm, e3.symm, e4.symm, he, by omega, ?_, by omega, ?_⟩
    · rw [← e5, Int.sub_emod, Int.emod_emod, Int.sub_self, Int.zero_emod]
    · subst e5 e6
      rw [step_of (tkG_at h1 (by omega) (by omega)) (by omega) (by omega)]
      have e : min (t - t % e + (t - (t - t % e))) (totI m d) = t := by omega
      rw [e, ← h3]
  · unfold zeroT at h
    simp at h
theorem cand_law {a b m d t i x e : Int} {fs : List Pt} (h : candV a b m d t fs i = (x, e, true)) : (-m ≤ x ∧ x ≤ m) ∧ (1 ≤ e ∧ e ≤ d) ∧ m ≤ 200 := by
  unfold candV at h
  split at h
  · rename_i hc
    simp only [Bool.and_eq_true] at hc
    obtain ⟨hg, hi⟩ := hc
    have hi := insB_true hi
    simp only [Prod.mk.injEq] at h
    obtain ⟨e1, e2, -⟩ := h
    obtain ⟨h1, -, -⟩ := tkG_parts hg
    have hb := cand_bd (d := d) (tkB_tk h1).m hi.1 (by omega)
    have := (tkB_tk h1).m
    omega
  · simp at h
/-- All hits are those with E 1, with E 2 and so on. -/
theorem hitsN_add (a b m f : Int) (k : Nat) : ∀ j, hitsN a b m f (k + j) = hitsN a b m f k ++ hitsN a b m (f + k) j
  | 0 => by simp [hitsN]
  | j + 1 => by
    show hitsN a b m f (k + j) ++ (candO a b m (f + ((k + j : Nat) : Int))).toList = _
    rw [hitsN_add a b m f k j, List.append_assoc]
    show _ = hitsN a b m f k ++ (hitsN a b m (f + k) j ++ (candO a b m (f + (k : Int) + (j : Int))).toList)
    rw [show f + ((k + j : Nat) : Int) = f + (k : Int) + (j : Int) by omega]
end Go.Proofs.Ytjnghjgfhlgbiaa
