/- Plain laws of FnCatalogues: what the answers of merge, contradictions, better and find have to do with each other. Conditions: none. -/
import Derived.Test.YtnphipfdpkgbaaaCtP
import Derived.Test.YtnphipfdpkgbaaaFind2
namespace Go.Proofs.Ytnphipfdpkgbaaa
open Go Go.RowKit

theorem mergeV_yes {xs bs z : List En} (h : mergeV xs bs = (z, true)) : foldO xs bs = some z ∧ z.length ≤ 12 := by
  unfold mergeV at h
  cases h1 : foldO xs bs with
  | none => rw [h1] at h; cases h
  | some y =>
    rw [h1] at h
    simp only at h
    split at h
    · rename_i hl
      injection h with h2 h3
      subst h2
      exact ⟨rfl, hl⟩
    · cases h
theorem mergeG_yes {xs bs z : List En} (h : mergeG xs bs = (z, true)) : catB xs = true ∧ catB bs = true ∧ foldO xs bs = some z ∧ z.length ≤ 12 := by
  unfold mergeG at h
  split at h
  · rename_i hc
    rw [Bool.and_eq_true] at hc
    exact ⟨hc.1, hc.2, mergeV_yes h⟩
  · cases h
theorem cat_good {xs : List En} (h : catB xs = true) : okCat xs := (cat_ok h).2
theorem mergeG_back {xs bs z : List En} (h : mergeG xs bs = (z, true)) : mergeG bs xs = (z, true) := by
  obtain ⟨h1, h2, h3, h4⟩ := mergeG_yes h
  unfold mergeG mergeV
  rw [h1, h2, ← merge_comm (cat_good h1) (cat_good h2), h3]
  simp only [Bool.and_self, if_true]
  rw [if_pos h4]
/-- Contradictions answers yes where both are catalogues. -/
theorem con_snd (xs bs : List En) : (conG xs bs).2 = (catB xs && catB bs) := by
  unfold conG
  cases catB xs && catB bs <;> rfl
theorem bet_snd (xs bs : List En) : (betV xs bs).2 = (catB xs && catB bs) := by
  unfold betV
  cases catB xs && catB bs <;> rfl
theorem con_yes {xs bs : List En} {z : List Cu} (h : conG xs bs = (z, true)) : catB xs = true ∧ catB bs = true := by
  have h1 := con_snd xs bs
  rw [h] at h1
  simpa using h1.symm
theorem con_bet {xs bs : List En} {z : List Cu} {o i t : Bool} (h : conG xs bs = (z, o)) (k : betV xs bs = (i, t)) : t = o := by
  have h1 := con_snd xs bs
  have h2 := bet_snd xs bs
  rw [h] at h1
  rw [k] at h2
  simp only at h1 h2
  rw [h1, h2]
theorem merge_con {xs bs z : List En} {y : List Cu} {o : Bool} (h : mergeG xs bs = (z, true)) (k : conG xs bs = (y, o)) : o = true ∧ y = [] := by
  obtain ⟨h1, h2, h3, h4⟩ := mergeG_yes h
  unfold conG at k
  rw [h1, h2, con_none (cat_good h1) (cat_good h2) h3] at k
  injection k with k1 k2
  exact ⟨k2.symm, k1.symm⟩
theorem con_back {xs bs : List En} {y y' : List Cu} {o : Bool} (h : conG xs bs = (y, true)) (k : conG bs xs = (y', o)) : o = true ∧ y' = y := by
  obtain ⟨h1, h2⟩ := con_yes h
  unfold conG at h k
  rw [h1, h2] at h k
  injection h with h3 h4
  injection k with k3 k4
  exact ⟨k4.symm, by rw [← k3, ← h3, con_comm (cat_good h1) (cat_good h2)]⟩
theorem bet_self {xs : List En} (h : catB xs = true) : betV xs xs = (true, true) :=
  betV_of h h (fun x hx => ⟨x, hx, sm.rfl' x, sayB_refl x⟩)
theorem merge_cat {xs bs z : List En} (h : mergeG xs bs = (z, true)) : catB z = true ∧ betV z xs = (true, true) ∧ betV z bs = (true, true) := by
  obtain ⟨h1, h2, h3, h4⟩ := mergeG_yes h
  obtain ⟨h5, h6⟩ := merge_better h1 h2 h3 h4
  refine ⟨h5, h6, (merge_better h2 h1 ?_ h4).2⟩
  rw [merge_comm (cat_good h2) (cat_good h1)]
  exact h3
theorem catB_one {y : En} (h : entE y = true) : catB [y] = true := by
  unfold catB
  have : okAt [y] 0 = true := by
    rw [okAtE]
    show (entE y && (0 == 0 || _)) = true
    rw [h]; rfl
  simp [this]
theorem tight_yes {xs z : List En} {y : En} (h : tightG xs y = (z, true)) : mergeG xs [y] = (z, true) ∧ entE y = true := by
  unfold tightG at h
  split at h
  · rename_i hc
    rw [Bool.and_eq_true] at hc
    refine ⟨?_, hc.2⟩
    unfold mergeG
    rw [hc.1, catB_one hc.2]
    exact h
  · cases h
/-- An entry made tighter: the result is better, and it has the entry's curve, within the entry's bounds. -/
theorem tight_law {xs z : List En} {y : En} (h : tightG xs y = (z, true)) : betV z xs = (true, true) ∧ ∃ u, findV z y.a y.b = (u, true) ∧ y.lo ≤ u.lo ∧ u.hi ≤ y.hi := by
  obtain ⟨h1, h2⟩ := tight_yes h
  obtain ⟨c1, b1, b2⟩ := merge_cat h1
  refine ⟨b1, ?_⟩
  obtain ⟨x1, x2, x3, x4⟩ := mergeG_yes h1
  obtain ⟨o1, m1⟩ := fold_mem [y] xs (cat_good x1) (fun v hv => by rw [List.mem_singleton.1 hv]; exact h2) (List.pairwise_singleton _ _) z x3
  have key : ∃ u ∈ z, sm u y ∧ y.lo ≤ u.lo ∧ u.hi ≤ y.hi := by
    by_cases hx : ∃ x ∈ xs, sm x y
    · obtain ⟨x, hx, hs⟩ := hx
      refine ⟨meetE x y, (m1 _).2 (.inr (.inl ⟨x, hx, y, by simp, hs, rfl⟩)), (meet_sm x y).trans hs, ?_, ?_⟩
      · show y.lo ≤ mostI x.lo y.lo
        unfold mostI; split <;> omega
      · show leastI x.hi y.hi ≤ y.hi
        unfold leastI; split <;> omega
    · exact ⟨y, (m1 _).2 (.inr (.inr ⟨by simp, fun x hx2 hs => hx ⟨x, hx2, hs⟩⟩)), sm.rfl' y, Int.le_refl _, Int.le_refl _⟩
  obtain ⟨u, hu, hs, hl, hh⟩ := key
  obtain ⟨f1, f2⟩ := first_of (x := y) (cat_good c1) hu hs
  refine ⟨u, ?_, hl, hh⟩
  unfold findV
  rw [c1, decide_eq_true f1, f2]
  rfl
end Go.Proofs.Ytnphipfdpkgbaaa
