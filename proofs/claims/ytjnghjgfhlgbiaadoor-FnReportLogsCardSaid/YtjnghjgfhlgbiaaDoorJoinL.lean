/- Reports of two lists joined: the plain law. Conditions: none. -/
import Derived.Test.YtjnghjgfhlgbiaaDoorPutL
import Derived.Test.YtjnghjgfhlgbiaaDoorMiss
namespace Go.Proofs.YtjnghjgfhlgbiaaDoor
open Go Go.RowKit

def okReps (es : List Rp) : Prop := ∀ k, k < es.length → okRAt es k = true
/-- The reference: reports that are not among xs are put in, whatever comes of it. -/
def joinS (xs : List Rp) (bs : List Rp) : List Rp := bs.foldl (fun z r => if hasR xs r then z else putR z r) xs
/-- The program: one is put in, or it is there, or it clashes. -/
def joinStep (z : List Rp) (r : Rp) : Option (List Rp) := if foundR z r then (if rpS.get z (placeR z r.tm r.mc) = r then some z else none) else some (putR z r)
def joinI (xs : List Rp) (bs : List Rp) : Option (List Rp) := bs.foldl (fun o r => o.bind (fun z => joinStep z r)) (some xs)
def joinV (xs bs : List Rp) : List Rp × Bool := match joinI xs bs with
  | some z => if z.length ≤ 20 then (z, true) else ([], false)
  | none => ([], false)
def joinG (xs bs : List Rp) : List Rp × Bool := if repsB xs && repsB bs then joinV xs bs else ([], false)
theorem joinG_len {xs bs : List Rp} (y : List Rp) (b : Bool) (h : joinG xs bs = (y, b)) : y.length ≤ 20 := by
  unfold joinG joinV at h
  split at h
  · split at h
    · split at h
      · obtain ⟨rfl, -⟩ := Prod.mk.inj h; assumption
      · obtain ⟨rfl, -⟩ := Prod.mk.inj h; simp
    · obtain ⟨rfl, -⟩ := Prod.mk.inj h; simp
  · obtain ⟨rfl, -⟩ := Prod.mk.inj h; simp
theorem joinS_zero (xs bs : List Rp) : joinS xs (bs.take 0) = xs := by simp [joinS]
theorem joinS_succ (xs : List Rp) {bs : List Rp} {k : Nat} (hk : k < bs.length) : joinS xs (bs.take (k + 1)) = if hasR xs (rpS.get bs k) then joinS xs (bs.take k) else putR (joinS xs (bs.take k)) (rpS.get bs k) := by
  unfold joinS
  rw [rp_take hk, List.foldl_append]
  rfl
theorem joinI_zero (xs bs : List Rp) : joinI xs (bs.take 0) = some xs := by simp [joinI]
theorem joinI_succ (xs : List Rp) {bs : List Rp} {k : Nat} (hk : k < bs.length) : joinI xs (bs.take (k + 1)) = (joinI xs (bs.take k)).bind (fun z => joinStep z (rpS.get bs k)) := by
  unfold joinI
  rw [rp_take hk, List.foldl_append]
  rfl
theorem joinI_none : ∀ bs : List Rp, bs.foldl (fun o r => o.bind (fun z => joinStep z r)) (none : Option (List Rp)) = none
  | [] => rfl
  | _ :: bs => joinI_none bs
theorem joinI_stop {xs bs : List Rp} {k : Nat} (h : joinI xs (bs.take k) = none) : joinI xs bs = none := by
  have : bs = bs.take k ++ bs.drop k := (List.take_append_drop k bs).symm
  rw [this]
  unfold joinI at h ⊢
  rw [List.foldl_append, h]
  exact joinI_none _
theorem length_putR (z : List Rp) (r : Rp) : (putR z r).length = z.length + 1 := length_ins _ _ _
theorem joinS_len (xs bs : List Rp) : ∀ k, k ≤ bs.length → (joinS xs (bs.take k)).length ≤ xs.length + k
  | 0, _ => by rw [joinS_zero]; omega
  | k + 1, hk => by
    have ih := joinS_len xs bs k (by omega)
    rw [joinS_succ xs (by omega)]
    split
    · omega
    · rw [length_putR]; omega
/-- Each one of the list was of xs or of bs. -/
theorem mem_put {z : List Rp} {r y : Rp} (h : y ∈ putR z r) : y ∈ z ∨ y = r := by
  unfold putR ins at h
  rw [List.mem_append, List.mem_cons] at h
  rcases h with h | h | h
  · exact .inl (List.mem_of_mem_take h)
  · exact .inr h
  · exact .inl (List.mem_of_mem_drop h)
theorem put_mem {z : List Rp} {r y : Rp} (h : y ∈ z ∨ y = r) : y ∈ putR z r := by
  unfold putR ins
  rw [List.mem_append, List.mem_cons]
  rcases h with h | h
  · rw [← List.take_append_drop (placeR z r.tm r.mc) z, List.mem_append] at h
    rcases h with h | h
    · exact .inl h
    · exact .inr (.inr h)
  · exact .inr (.inl h)
theorem joinS_mem (xs bs : List Rp) : ∀ k, k ≤ bs.length → ∀ y, y ∈ joinS xs (bs.take k) ↔ (y ∈ xs ∨ ∃ j, j < k ∧ rpS.get bs j = y ∧ hasR xs y = false)
  | 0, _, y => by rw [joinS_zero]; constructor
                  · exact .inl
                  · rintro (h | ⟨j, hj, -⟩)
                    · exact h
                    · omega
  | k + 1, hk, y => by
    have ih := joinS_mem xs bs k (by omega) y
    rw [joinS_succ xs (by omega)]
    constructor
    · intro h
      split at h
      · rcases ih.1 h with h | ⟨j, hj, h1, h2⟩
        · exact .inl h
        · exact .inr ⟨j, by omega, h1, h2⟩
      · rename_i hn
        rcases mem_put h with h | h
        · rcases ih.1 h with h | ⟨j, hj, h1, h2⟩
          · exact .inl h
          · exact .inr ⟨j, by omega, h1, h2⟩
        · exact .inr ⟨k, by omega, h.symm, by rw [h]; simpa using hn⟩
    · intro h
      have key : (y ∈ xs ∨ ∃ j, j < k ∧ rpS.get bs j = y ∧ hasR xs y = false) ∨ (rpS.get bs k = y ∧ hasR xs y = false) := by
        rcases h with h | ⟨j, hj, h1, h2⟩
        · exact .inl (.inl h)
        · rcases Nat.lt_or_ge j k with h3 | h3
          · exact .inl (.inr ⟨j, h3, h1, h2⟩)
          · obtain rfl : j = k := by omega
            exact .inr ⟨h1, h2⟩
      split
      · rename_i hp
        rcases key with key | ⟨h1, h2⟩
        · exact ih.2 key
        · rw [h1, h2] at hp; cases hp
      · rcases key with key | ⟨h1, -⟩
        · exact put_mem (.inl (ih.2 key))
        · exact put_mem (.inr h1.symm)
theorem hasR_mem {xs : List Rp} {y : Rp} : hasR xs y = true ↔ y ∈ xs := by
  unfold hasR
  rw [List.any_eq_true]
  constructor
  · rintro ⟨z, hz, h⟩
    have : z = y := by simpa using h
    rwa [← this]
  · intro h
    exact ⟨y, h, by simp⟩
theorem placeR_of {z : List Rp} {y : Rp} (hv : okReps z) {i : Nat} (hi : i < z.length) (h : cmpR (rpS.get z i) y = 0) : placeR z y.tm y.mc = i := by
  refine lead_eq _ _ _ (by omega) (fun j hj => ?_) (fun _ => ?_)
  · exact decide_eq_true (cmpR_trans_eq (reps_lt hv hj hi) h)
  · refine decide_eq_false ?_
    change ¬ cmpR (rpS.get z i) y < 0
    omega
theorem found_mem {z : List Rp} {y : Rp} (hv : okReps z) (h : y ∈ z) : foundR z y = true ∧ rpS.get z (placeR z y.tm y.mc) = y := by
  obtain ⟨i, hi, rfl⟩ := mem_get h
  have hp := placeR_of (y := rpS.get z i) hv hi (cmpR_zero' rfl rfl)
  refine ⟨?_, by rw [hp]⟩
  unfold foundR
  rw [hp, decide_eq_true hi, cmpR_zero' rfl rfl]
  rfl
/-- As long as nothing clashes both lists are one, and it is in order. -/
theorem join_same {xs bs : List Rp} (hx : okReps xs) (hb : okReps bs) : ∀ k, k ≤ bs.length → ∀ z, joinI xs (bs.take k) = some z → z = joinS xs (bs.take k) ∧ okReps z
  | 0, _, z, h => by rw [joinI_zero] at h; cases h; exact ⟨(joinS_zero xs bs).symm, hx⟩
  | k + 1, hk, z, h => by
    rw [joinI_succ xs (by omega)] at h
    cases hz0 : joinI xs (bs.take k) with
    | none => rw [hz0] at h; cases h
    | some z0 =>
      rw [hz0] at h
      change joinStep z0 (rpS.get bs k) = some z at h
      obtain ⟨he, hv⟩ := join_same hx hb k (by omega) z0 hz0
      have hmem := joinS_mem xs bs k (by omega)
      rw [← he] at hmem
      have hyv : repR (rpS.get bs k) = true := okR_rep (hb k (by omega))
      rw [joinS_succ xs (by omega), ← he]
      have hlater : ∀ j, j < k → cmpR (rpS.get bs j) (rpS.get bs k) < 0 := fun j hj => reps_lt hb hj (by omega)
      generalize rpS.get bs k = r at *
      unfold joinStep at h
      cases hf : foundR z0 r
      · rw [hf] at h
        have hn : hasR xs r = false := by
          cases hh : hasR xs r
          · rfl
          · have := (found_mem hv ((hmem r).2 (.inl (hasR_mem.1 hh)))).1
            rw [hf] at this; cases this
        rw [hn]
        cases h
        exact ⟨rfl, put_ok hv hyv hf⟩
      · rw [hf] at h
        rw [if_pos rfl] at h
        split at h
        · rename_i hg
          cases h
          have hf2 := hf
          unfold foundR at hf2
          simp only [Bool.and_eq_true, decide_eq_true_eq] at hf2
          have hin : r ∈ z := by rw [← hg]; exact get_mem hf2.1
          rcases (hmem r).1 hin with h1 | ⟨j, hj, h1, -⟩
          · rw [hasR_mem.2 h1]
            exact ⟨rfl, hv⟩
          · have := hlater j hj
            rw [h1] at this
            have h0 : cmpR r r = 0 := cmpR_zero' rfl rfl
            omega
        · cases h
theorem twin_keep {z : List Rp} {r : Rp} (h : twin z) : twin (putR z r) := by
  obtain ⟨i, j, hij, hj, hc⟩ := h
  obtain ⟨hk, -, -⟩ := placeR_spec z r
  unfold putR
  generalize placeR z r.tm r.mc = k at *
  by_cases h1 : j < k
  · exact ⟨i, j, hij, by rw [length_ins]; omega, by rw [get_ins _ _ _ hk, get_ins _ _ _ hk, if_pos (by omega), if_pos h1]; exact hc⟩
  · by_cases h2 : i < k
    · exact ⟨i, j + 1, by omega, by rw [length_ins]; omega, by rw [get_ins _ _ _ hk, get_ins _ _ _ hk, if_pos h2, if_neg (by omega), if_neg (by omega), Nat.add_sub_cancel]; exact hc⟩
    · exact ⟨i + 1, j + 1, by omega, by rw [length_ins]; omega, by rw [get_ins _ _ _ hk, get_ins _ _ _ hk, if_neg (by omega), if_neg (by omega), if_neg (by omega), if_neg (by omega), Nat.add_sub_cancel, Nat.add_sub_cancel]; exact hc⟩
/-- Behind a clash the reference's list is never in order. -/
theorem join_twin {xs bs : List Rp} (hx : okReps xs) (hb : okReps bs) : ∀ k, k ≤ bs.length → joinI xs (bs.take k) = none → twin (joinS xs (bs.take k))
  | 0, _, h => by rw [joinI_zero] at h; cases h
  | k + 1, hk, h => by
    rw [joinI_succ xs (by omega)] at h
    rw [joinS_succ xs (by omega)]
    cases hz0 : joinI xs (bs.take k) with
    | none =>
      have ih := join_twin hx hb k (by omega) hz0
      split
      · exact ih
      · exact twin_keep ih
    | some z0 =>
      rw [hz0] at h
      change joinStep z0 (rpS.get bs k) = none at h
      obtain ⟨he, hv⟩ := join_same hx hb k (by omega) z0 hz0
      have hmem := joinS_mem xs bs k (by omega)
      rw [← he] at hmem ⊢
      generalize rpS.get bs k = r at *
      unfold joinStep at h
      cases hf : foundR z0 r
      · rw [hf] at h; cases h
      · rw [hf, if_pos rfl] at h
        split at h
        · cases h
        · rename_i hg
          have hn : hasR xs r = false := by
            cases hh : hasR xs r
            · rfl
            · exact absurd (found_mem hv ((hmem r).2 (.inl (hasR_mem.1 hh)))).2 hg
          rw [hn]
          exact twin_put hf
theorem joinG_spec {xs bs : List Rp} (hx : repsB xs = true) (hb : repsB bs = true) : joinG xs bs = if repsB (joinS xs bs) then (joinS xs bs, true) else ([], false) := by
  have hx' := (repsB_spec hx).2
  have hb' := (repsB_spec hb).2
  unfold joinG joinV
  rw [hx, hb]
  simp only [Bool.and_self, if_true]
  cases hz : joinI xs bs with
  | none =>
    have := join_twin hx' hb' bs.length (Nat.le_refl _) (by rw [List.take_length]; exact hz)
    rw [List.take_length] at this
    rw [twin_bad this]
    rfl
  | some z =>
    obtain ⟨h1, h2⟩ := join_same hx' hb' bs.length (Nat.le_refl _) z (by rw [List.take_length]; exact hz)
    rw [List.take_length] at h1
    rw [← h1]
    by_cases hl : z.length ≤ 20
    · rw [repsB_true hl h2, if_pos rfl]; simp [hl]
    · rw [repsB_long (by omega)]; simp [hl]
theorem joinS_bd {xs bs : List Rp} (hx : okReps xs) (hb : okReps bs) (k : Nat) (hk : k ≤ bs.length) : ∀ i, i < (joinS xs (bs.take k)).length → (0 ≤ (rpS.get (joinS xs (bs.take k)) i).tm ∧ (rpS.get (joinS xs (bs.take k)) i).tm ≤ 1000000) ∧ (1 ≤ (rpS.get (joinS xs (bs.take k)) i).mc ∧ (rpS.get (joinS xs (bs.take k)) i).mc ≤ 9) := by
  intro i hi
  rcases (joinS_mem xs bs k hk _).1 (get_mem hi) with h | ⟨j, hj, h, -⟩
  · obtain ⟨q, hq, h⟩ := mem_get h
    rw [← h]
    exact reps_bd hx q hq
  · rw [← h]
    exact reps_bd hb j (by omega)
end Go.Proofs.YtjnghjgfhlgbiaaDoor
