/- Put a report in its place: the plain law. Conditions: none. -/
import Derived.Test.YtjnghjgfhlgbiaaDoorSea
import Derived.Test.YtjnghjgfhlgbiaaDoorRow2
namespace Go.Proofs.YtjnghjgfhlgbiaaDoor
open Go Go.RowKit

def cmpR (x y : Rp) : Int := cmpC x.tm x.mc y.tm y.mc
def repR (y : Rp) : Bool := repB y.tm y.mc y.a y.b y.lo y.hi y.to
theorem okRAt_eq (es : List Rp) (k : Nat) : okRAt es k = (repR (rpS.get es k) && (k == 0 || decide (cmpR (rpS.get es (k - 1)) (rpS.get es k) < 0))) := rfl
theorem get_ins (es : List Rp) (k : Nat) (y : Rp) (hk : k ≤ es.length) (j : Nat) : rpS.get (ins es k y) j = if j < k then rpS.get es j else if j = k then y else rpS.get es (j - 1) := by
  unfold ins Shape.get
  rw [List.getD_eq_getElem?_getD, List.getD_eq_getElem?_getD, List.getD_eq_getElem?_getD]
  by_cases h1 : j < k
  · rw [if_pos h1, List.getElem?_append_left (by rw [List.length_take]; omega), List.getElem?_take, if_pos h1]
  · rw [if_neg h1, List.getElem?_append_right (by rw [List.length_take]; omega), List.length_take, Nat.min_eq_left hk]
    by_cases h2 : j = k
    · subst h2; rw [if_pos rfl, Nat.sub_self]; rfl
    · rw [if_neg h2]
      obtain ⟨d, hd⟩ : ∃ d, j - k = d + 1 := ⟨j - k - 1, by omega⟩
      rw [hd, List.getElem?_cons_succ, List.getElem?_drop, show k + d = j - 1 by omega]
theorem cmpR_neg {x y : Rp} (h1 : ¬ cmpR x y < 0) (h2 : ¬ cmpR x y = 0) : cmpR y x < 0 := by
  unfold cmpR at *
  rw [cmpC_lt] at *
  rw [cmpC_eq] at h2
  omega
theorem cmpR_zero {x y : Rp} (h : cmpR x y = 0) : x.tm = y.tm ∧ x.mc = y.mc := by
  unfold cmpR at h
  rwa [cmpC_eq] at h
theorem cmpR_zero' {x y : Rp} (h1 : x.tm = y.tm) (h2 : x.mc = y.mc) : cmpR x y = 0 := by
  unfold cmpR
  rw [cmpC_eq]
  exact ⟨h1, h2⟩
theorem cmpR_trans {x y z : Rp} (h1 : cmpR x y < 0) (h2 : cmpR y z < 0) : cmpR x z < 0 := by
  unfold cmpR at *
  rw [cmpC_lt] at *
  omega
theorem cmpR_trans_eq {x y z : Rp} (h1 : cmpR x y < 0) (h2 : cmpR y z = 0) : cmpR x z < 0 := by
  obtain ⟨h3, h4⟩ := cmpR_zero h2
  unfold cmpR at *
  rw [cmpC_lt] at *
  omega
theorem okR_rep {es : List Rp} {k : Nat} (h : okRAt es k = true) : repR (rpS.get es k) = true := by
  rw [okRAt_eq] at h
  simp only [Bool.and_eq_true] at h
  exact h.1
theorem okR_lt {es : List Rp} {k : Nat} (h : okRAt es (k + 1) = true) : cmpR (rpS.get es k) (rpS.get es (k + 1)) < 0 := by
  rw [okRAt_eq] at h
  simp only [Bool.and_eq_true, Bool.or_eq_true, decide_eq_true_eq, Nat.add_sub_cancel] at h
  rcases h.2 with h' | h'
  · simp at h'
  · exact h'
/-- The reports are in order. -/
theorem reps_sorted {es : List Rp} (hv : ∀ k, k < es.length → okRAt es k = true) (i : Nat) : ∀ d, i + d + 1 < es.length → cmpR (rpS.get es i) (rpS.get es (i + d + 1)) < 0
  | 0, h => okR_lt (hv _ h)
  | d + 1, h => cmpR_trans (reps_sorted hv i d (by omega)) (okR_lt (hv _ h))
theorem reps_lt {es : List Rp} (hv : ∀ k, k < es.length → okRAt es k = true) {i j : Nat} (hij : i < j) (hj : j < es.length) : cmpR (rpS.get es i) (rpS.get es j) < 0 := by
  obtain ⟨d, rfl⟩ : ∃ d, j = i + d + 1 := ⟨j - i - 1, by omega⟩
  exact reps_sorted hv i d hj
theorem reps_mono {es : List Rp} (hv : ∀ k, k < es.length → okRAt es k = true) (y : Rp) (i j : Nat) (hij : i ≤ j) (hj : j < es.length) (h : cmpR (rpS.get es j) y < 0) : cmpR (rpS.get es i) y < 0 := by
  rcases Nat.lt_or_ge i j with h1 | h1
  · exact cmpR_trans (reps_lt hv h1 hj) h
  · obtain rfl : i = j := by omega
    exact h
theorem placeR_spec (es : List Rp) (y : Rp) : placeR es y.tm y.mc ≤ es.length ∧ (∀ j, j < placeR es y.tm y.mc → cmpR (rpS.get es j) y < 0) ∧ (placeR es y.tm y.mc < es.length → ¬ cmpR (rpS.get es (placeR es y.tm y.mc)) y < 0) := by
  obtain ⟨h1, h2, h3, h4⟩ := lead_spec (fun k => decide (cmpC (rpS.get es k).tm (rpS.get es k).mc y.tm y.mc < 0)) es.length 0
  refine ⟨by unfold placeR; omega, fun j hj => by simpa [cmpR] using h3 j (Nat.zero_le _) hj, fun h => ?_⟩
  have := h4 (by unfold placeR at h; omega)
  simpa [placeR, cmpR] using this
/-- Was one with the same time and machine there? -/
def foundR (es : List Rp) (y : Rp) : Bool := decide (placeR es y.tm y.mc < es.length) && decide (cmpR (rpS.get es (placeR es y.tm y.mc)) y = 0)
def putR (es : List Rp) (y : Rp) : List Rp := ins es (placeR es y.tm y.mc) y
/-- A report put into an order keeps the order, if none with its time and machine was there. -/
theorem put_ok {es : List Rp} {y : Rp} (hv : ∀ k, k < es.length → okRAt es k = true) (hy : repR y = true) (hf : foundR es y = false) : ∀ j, j < (putR es y).length → okRAt (putR es y) j = true := by
  obtain ⟨hk, hlow, hhi⟩ := placeR_spec es y
  unfold foundR at hf
  unfold putR
  generalize placeR es y.tm y.mc = k at *
  intro j hj
  rw [length_ins] at hj
  rw [okRAt_eq, get_ins _ _ _ hk, get_ins _ _ _ hk]
  by_cases h1 : j < k
  · rw [if_pos h1, if_pos (by omega)]
    have := hv j (by omega)
    rwa [okRAt_eq] at this
  · rw [if_neg h1]
    by_cases h2 : j = k
    · subst h2
      rw [if_pos rfl, hy, Bool.true_and]
      by_cases h3 : j = 0
      · simp [h3]
      · rw [if_pos (by omega), decide_eq_true (hlow (j - 1) (by omega)), Bool.or_true]
    · rw [if_neg h2, if_neg (by omega), okR_rep (hv (j - 1) (by omega)), Bool.true_and]
      by_cases h3 : j - 1 = k
      · rw [if_pos h3, h3]
        have h4 : k < es.length := by omega
        have h5 := hhi h4
        have h6 : ¬ cmpR (rpS.get es k) y = 0 := fun e => by rw [decide_eq_true h4, decide_eq_true e] at hf; simp at hf
        rw [decide_eq_true (cmpR_neg h5 h6), Bool.or_true]
      · rw [if_neg h3]
        have := reps_lt hv (show j - 1 - 1 < j - 1 by omega) (by omega)
        rw [decide_eq_true this, Bool.or_true]
/-- Two places with one key: no order. -/
def twin (es : List Rp) : Prop := ∃ i j, i < j ∧ j < es.length ∧ cmpR (rpS.get es i) (rpS.get es j) = 0
theorem twin_bad {es : List Rp} (h : twin es) : repsB es = false := by
  obtain ⟨i, j, hij, hj, hc⟩ := h
  cases hg : repsB es
  · rfl
  · have := reps_lt (repsB_spec hg).2 hij hj
    omega
theorem twin_put {es : List Rp} {y : Rp} (hf : foundR es y = true) : twin (putR es y) := by
  obtain ⟨hk, -, -⟩ := placeR_spec es y
  unfold foundR at hf
  simp only [Bool.and_eq_true, decide_eq_true_eq] at hf
  unfold putR
  generalize placeR es y.tm y.mc = k at *
  obtain ⟨h1, h2⟩ := cmpR_zero hf.2
  refine ⟨k, k + 1, by omega, by rw [length_ins]; omega, ?_⟩
  rw [get_ins _ _ _ hk, get_ins _ _ _ hk, if_neg (by omega), if_pos rfl, if_neg (by omega), if_neg (by omega), Nat.add_sub_cancel]
  exact cmpR_zero' h1.symm h2.symm
theorem putR_good {es : List Rp} {y : Rp} (hg : repsB es = true) (hy : repR y = true) : repsB (putR es y) = (!foundR es y && decide (es.length < 20)) := by
  obtain ⟨hl, hv⟩ := repsB_spec hg
  cases hf : foundR es y
  · by_cases h : es.length < 20
    · rw [repsB_true (by unfold putR; rw [length_ins]; omega) (put_ok hv hy hf), decide_eq_true h]; rfl
    · rw [repsB_long (by unfold putR; rw [length_ins]; omega), decide_eq_false h]; rfl
  · rw [twin_bad (twin_put hf)]; rfl
def putV (es : List Rp) (y : Rp) : List Rp × Bool := if repsB es && repR y && repsB (putR es y) then (putR es y, true) else ([], false)
theorem putV_len {es : List Rp} {x : Rp} (y : List Rp) (b : Bool) (h : putV es x = (y, b)) : y.length ≤ 20 := by
  unfold putV at h
  split at h
  · rename_i hc
    simp only [Bool.and_eq_true] at hc
    obtain ⟨rfl, -⟩ := Prod.mk.inj h
    exact (repsB_spec hc.2).1
  · obtain ⟨rfl, -⟩ := Prod.mk.inj h; simp
theorem repR_bd {y : Rp} (h : repR y = true) : (0 ≤ y.tm ∧ y.tm ≤ 1000000) ∧ (1 ≤ y.mc ∧ y.mc ≤ 9) := repB_tbd h
theorem reps_bd {es : List Rp} (hv : ∀ k, k < es.length → okRAt es k = true) : ∀ k, k < es.length → (0 ≤ (rpS.get es k).tm ∧ (rpS.get es k).tm ≤ 1000000) ∧ (1 ≤ (rpS.get es k).mc ∧ (rpS.get es k).mc ≤ 9) := fun k hk => repR_bd (okR_rep (hv k hk))
end Go.Proofs.YtjnghjgfhlgbiaaDoor
