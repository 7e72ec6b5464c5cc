/- Plain laws of FnReportLogs: a put report, reports up to a time, reports by machines. Conditions: none. -/
import Derived.Test.YtjnghjgfhlgbiaaDoorPutL
import Derived.Test.YtjnghjgfhlgbiaaDoorBy
import Derived.Test.YtjnghjgfhlgbiaaDoorJoinL
namespace Go.Proofs.YtjnghjgfhlgbiaaDoor
open Go Go.RowKit

theorem filter_none {E : Type} {p : E → Bool} {l : List E} (h : ∀ x ∈ l, p x = false) : l.filter p = [] := by
  rw [List.filter_eq_nil_iff]
  intro x hx
  rw [h x hx]
  simp
theorem put_law {l p : List Rp} {r : Rp} (h : putV l r = (p, true)) : missV l p = ([r], true) ∧ p.length = l.length + 1 ∧ repsB p = true ∧ repR r = true := by
  unfold putV at h
  split at h
  · rename_i hc
    simp only [Bool.and_eq_true] at hc
    obtain ⟨⟨h1, h2⟩, h3⟩ := hc
    injection h with h4 _
    subst h4
    refine ⟨?_, length_putR l r, h3, h2⟩
    unfold missV
    rw [h1, h3]
    simp only [Bool.and_self, if_true]
    have hf : foundR l r = false := by
      cases hf : foundR l r
      · rfl
      · rw [twin_bad (twin_put hf)] at h3; cases h3
    have hn : hasR l r = false := by
      cases hh : hasR l r
      · rfl
      · rw [(found_mem (repsB_spec h1).2 (hasR_mem.1 hh)).1] at hf; cases hf
    have hin : ∀ x ∈ l, (!hasR l x) = false := fun x hx => by rw [hasR_mem.2 hx]; rfl
    congr 1
    unfold putR ins
    rw [List.filter_append, List.filter_cons, filter_none (fun x hx => hin x (List.mem_of_mem_take hx)), filter_none (fun x hx => hin x (List.mem_of_mem_drop hx)), hn]
    rfl
  · cases h
/-- Where later ones hold only if earlier ones do, those that hold are the beginning. -/
theorem filter_take {p : Rp → Bool} : ∀ es : List Rp, es.Pairwise (fun x y => p y = true → p x = true) → es.filter p = es.take (es.filter p).length ∧ ∀ h : (es.filter p).length < es.length, p es[(es.filter p).length] = false
  | [], _ => ⟨rfl, fun h => by simp at h⟩
  | x :: es, h => by
    obtain ⟨h1, h2⟩ := List.pairwise_cons.1 h
    obtain ⟨h3, h4⟩ := filter_take es h2
    cases hx : p x
    · have : es.filter p = [] := filter_none (fun y hy => by
        cases hy2 : p y
        · rfl
        · have := h1 y hy hy2
          rw [hx] at this; cases this)
      rw [List.filter_cons, hx]
      simp only [Bool.false_eq_true, if_false]
      rw [this]
      exact ⟨rfl, fun _ => hx⟩
    · rw [List.filter_cons, hx]
      simp only [if_true, List.length_cons, List.take_succ_cons]
      refine ⟨by rw [← h3], fun h5 => ?_⟩
      simp only [List.getElem_cons_succ]
      exact h4 (by omega)
theorem up_law {es early : List Rp} {n : Int} (h : upV es n = (early, true)) : early.length ≤ es.length ∧ early = es.take early.length ∧ (early.length < es.length → n < (rpS.get es early.length).tm) := by
  unfold upV at h
  split at h
  · rename_i hc
    simp only [Bool.and_eq_true] at hc
    obtain ⟨h1, h2⟩ := hc
    injection h with h3 _
    subst h3
    have hp : es.Pairwise (fun x y => upP n y = true → upP n x = true) := by
      rw [List.pairwise_iff_getElem]
      intro i j hi hj hij
      have := reps_lt (repsB_spec h1).2 hij hj
      have g : ∀ k (hk : k < es.length), rpS.get es k = es[k] := fun k hk => by
        unfold Shape.get
        rw [List.getD_eq_getElem?_getD, List.getElem?_eq_getElem hk]; rfl
      rw [g i hi, g j hj] at this
      unfold cmpR at this
      rw [cmpC_lt] at this
      unfold upP
      rw [decide_eq_true_eq, decide_eq_true_eq]
      omega
    obtain ⟨h4, h5⟩ := filter_take es hp
    refine ⟨List.length_filter_le _ _, h4, fun h6 => ?_⟩
    have h7 := h5 h6
    unfold upP at h7
    rw [decide_eq_false_iff_not] at h7
    unfold Shape.get
    rw [List.getD_eq_getElem?_getD, List.getElem?_eq_getElem h6]
    exact Int.not_le.1 h7
  · cases h
theorem up_reps {es early : List Rp} {n : Int} (h : upV es n = (early, true)) : repsB es = true := by
  unfold upV at h
  split at h
  · rename_i hc
    simp only [Bool.and_eq_true] at hc
    exact hc.1
  · cases h
/-- How many are of the machines up to k. -/
def cntM (es : List Rp) (k : Nat) : Nat := (es.filter (fun r => decide (r.mc ≤ (k : Int)))).length
theorem cntM_zero {es : List Rp} (h : repsB es = true) : cntM es 0 = 0 := by
  unfold cntM
  rw [filter_none (fun x hx => ?_)]
  · rfl
  · obtain ⟨i, hi, rfl⟩ := mem_get hx
    have := ((reps_bd (repsB_spec h).2) i hi).2.1
    exact decide_eq_false (by omega)
theorem filter_more (p q r : Rp → Bool) : ∀ es : List Rp, (∀ x ∈ es, p x = (q x || r x) ∧ (q x && r x) = false) → (es.filter p).length = (es.filter q).length + (es.filter r).length
  | [], _ => rfl
  | x :: es, h => by
    have ih := filter_more p q r es (fun y hy => h y (by simp [hy]))
    obtain ⟨h1, h2⟩ := h x (by simp)
    rw [List.filter_cons, List.filter_cons, List.filter_cons, h1]
    revert h2
    cases q x <;> cases r x <;> simp <;> omega
theorem cntM_succ (es : List Rp) (k : Nat) : cntM es (k + 1) = cntM es k + (es.filter (byP ((k : Int) + 1))).length := by
  unfold cntM
  refine filter_more _ _ _ es (fun x _ => ?_)
  unfold byP
  by_cases h1 : x.mc ≤ (k : Int)
  · rw [decide_eq_true h1, decide_eq_true (show x.mc ≤ ((k + 1 : Nat) : Int) by omega)]
    have : (x.mc == (k : Int) + 1) = false := beq_eq_false_iff_ne.2 (by omega)
    rw [this]
    exact ⟨rfl, rfl⟩
  · rw [decide_eq_false h1]
    by_cases h2 : x.mc = (k : Int) + 1
    · rw [h2, decide_eq_true (show (k : Int) + 1 ≤ ((k + 1 : Nat) : Int) by omega)]
      simp
    · rw [decide_eq_false (show ¬ x.mc ≤ ((k + 1 : Nat) : Int) by omega), beq_eq_false_iff_ne.2 h2]
      exact ⟨rfl, rfl⟩
theorem cntM_nine {es : List Rp} (h : repsB es = true) : cntM es 9 = es.length := by
  unfold cntM
  rw [List.filter_eq_self.2 (fun x hx => ?_)]
  obtain ⟨i, hi, rfl⟩ := mem_get hx
  have := ((reps_bd (repsB_spec h).2) i hi).2.2
  exact decide_eq_true (by omega)
theorem cntM_le (es : List Rp) (k : Nat) : cntM es k ≤ es.length := List.length_filter_le _ _
theorem by_yes {es : List Rp} (h : repsB es = true) {m : Int} (h1 : 1 ≤ m) (h9 : m ≤ 9) : byV es m = (es.filter (byP m), true) := by
  unfold byV
  rw [h, insB_mk h1 h9]
  rfl
theorem by_all {es : List Rp} {m : Int} : ∀ k, k < (es.filter (byP m)).length → (rpS.get (es.filter (byP m)) k).mc = m := by
  intro k hk
  have h := (List.mem_filter.1 (get_mem hk)).2
  generalize rpS.get (es.filter (byP m)) k = x at *
  unfold byP at h
  exact beq_iff_eq.1 h
end Go.Proofs.YtjnghjgfhlgbiaaDoor
