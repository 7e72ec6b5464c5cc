/- An entry put into a catalogue: the plain law. Conditions: none. -/
import Derived.Test.YtnphipfdpkgbaaaMeet
import Derived.Test.YtnphipfdpkgbaaaRow2
namespace Go.Proofs.Ytnphipfdpkgbaaa
open Go Go.RowKit

def cmpE (x y : En) : Int := cmpC x.a x.b y.a y.b
def entE (y : En) : Bool := entB y.a y.b y.lo y.hi y.to
def swapE (es : List En) (k : Nat) (m : En) : List En := es.take k ++ m :: es.drop (k + 1)
/-- The catalogue with an entry in its place, or met. -/
def tightO (es : List En) (y : En) : Option (List En) :=
  if atB es (placeN es y.a y.b) y.a y.b then if okMeet (enS.get es (placeN es y.a y.b)) y then some (swapE es (placeN es y.a y.b) (meetE (enS.get es (placeN es y.a y.b)) y)) else none
  else some (ins es (placeN es y.a y.b) y)
def foldO (es : List En) (bs : List En) : Option (List En) := bs.foldl (fun o y => o.bind (fun z => tightO z y)) (some es)
def okCat (es : List En) : Prop := ∀ k, k < es.length → okAt es k = true

theorem okAtE (es : List En) (k : Nat) : okAt es k = (entE (enS.get es k) && (k == 0 || decide (cmpE (enS.get es (k - 1)) (enS.get es k) < 0))) := rfl
theorem getE_ins (es : List En) (k : Nat) (y : En) (hk : k ≤ es.length) (j : Nat) : enS.get (ins es k y) j = if j < k then enS.get es j else if j = k then y else enS.get es (j - 1) := by
  unfold ins Shape.get
  rw [List.getD_eq_getElem?_getD, List.getD_eq_getElem?_getD, List.getD_eq_getElem?_getD]
  by_cases h1 : j < k
  · rw [if_pos h1, List.getElem?_append_left (by rw [List.length_take]; omega), List.getElem?_take, if_pos h1]
  · rw [if_neg h1, List.getElem?_append_right (by rw [List.length_take]; omega), List.length_take, Nat.min_eq_left hk]
    by_cases h2 : j = k
    · subst h2; rw [if_pos rfl, Nat.sub_self]; rfl
    · rw [if_neg h2]
      obtain ⟨d, hd⟩ : ∃ d, j - k = d + 1 := ⟨j - k - 1, by omega⟩
      rw [hd, List.getElem?_cons_succ, List.getElem?_drop, show k + d = j - 1 by omega]
theorem swapE_set (es : List En) (k : Nat) (m : En) (hk : k < es.length) : swapE es k m = es.set k m := by
  unfold swapE
  rw [List.set_eq_take_append_cons_drop, if_pos hk]
theorem length_swapE (es : List En) (k : Nat) (m : En) (hk : k < es.length) : (swapE es k m).length = es.length := by rw [swapE_set es k m hk, List.length_set]
theorem getE_swap (es : List En) (k : Nat) (m : En) (hk : k < es.length) (j : Nat) : enS.get (swapE es k m) j = if j = k then m else enS.get es j := by
  rw [swapE_set es k m hk]
  unfold Shape.get
  rw [List.getD_eq_getElem?_getD, List.getD_eq_getElem?_getD, List.getElem?_set]
  by_cases h : k = j
  · subst h; rw [if_pos rfl, if_pos hk, if_pos rfl]; rfl
  · rw [if_neg h, if_neg (fun e => h e.symm)]
theorem cmpE_trans {x y z : En} (h1 : cmpE x y < 0) (h2 : cmpE y z < 0) : cmpE x z < 0 := by
  unfold cmpE at *
  rw [cmpC_lt] at *
  omega
theorem cmpE_neg {x y : En} (h1 : ¬ cmpE x y < 0) (h2 : ¬ (x.a = y.a ∧ x.b = y.b)) : cmpE y x < 0 := by
  unfold cmpE at *
  rw [cmpC_lt] at *
  omega
theorem catE_lt {es : List En} (hv : okCat es) {i j : Nat} (hij : i < j) (hj : j < es.length) : cmpE (enS.get es i) (enS.get es j) < 0 := cat_lt hv hij hj
theorem okE_ent {es : List En} {k : Nat} (h : okAt es k = true) : entE (enS.get es k) = true := okAt_ent h
theorem placeN_spec (es : List En) (y : En) : placeN es y.a y.b ≤ es.length ∧ (∀ j, j < placeN es y.a y.b → cmpE (enS.get es j) y < 0) ∧ (placeN es y.a y.b < es.length → ¬ cmpE (enS.get es (placeN es y.a y.b)) y < 0) := by
  obtain ⟨h1, h2, h3, h4⟩ := lead_spec (befB es y.a y.b) es.length 0
  refine ⟨by unfold placeN; omega, fun j hj => by simpa [cmpE, befB] using h3 j (Nat.zero_le _) hj, fun h => ?_⟩
  have := h4 (by unfold placeN at h; omega)
  simpa [placeN, cmpE, befB] using this
theorem meet_ent {x y : En} (hx : entE x = true) (hy : entE y = true) (hok : okMeet x y = true) : entE (meetE x y) = true := by
  have h1 := entB_bd hx
  have h2 := entB_bd hy
  unfold okMeet at hok
  simp only [Bool.and_eq_true, decide_eq_true_eq] at hok
  obtain ⟨-, h3⟩ := hok
  unfold entE entB
  rw [Bool.and_eq_true]
  refine ⟨entB_curve hx, ?_⟩
  rw [decide_eq_true_eq]
  simp only [meetE]
  unfold mostI leastI at *
  split at h3 <;> split at h3 <;> (split <;> omega)
theorem atB_spec {es : List En} {k : Nat} {a b : Int} (h : atB es k a b = true) : k < es.length ∧ (enS.get es k).a = a ∧ (enS.get es k).b = b := by
  unfold atB isCu at h
  simpa using h
theorem tight_ok {es : List En} {y : En} (hv : okCat es) (hy : entE y = true) {z : List En} (h : tightO es y = some z) : okCat z := by
  obtain ⟨hk, hlow, hhi⟩ := placeN_spec es y
  unfold tightO at h
  generalize placeN es y.a y.b = k at *
  split at h
  · rename_i hat
    obtain ⟨hlt, ha, hb⟩ := atB_spec hat
    split at h
    · rename_i hok
      cases h
      have key : ∀ x : En, (cmpE x (meetE (enS.get es k) y) < 0 ↔ cmpE x (enS.get es k) < 0) ∧ (cmpE (meetE (enS.get es k) y) x < 0 ↔ cmpE (enS.get es k) x < 0) := fun x => ⟨Iff.rfl, Iff.rfl⟩
      have hme := meet_ent (okE_ent (hv k hlt)) hy hok
      generalize meetE (enS.get es k) y = m at *
      intro j hj
      rw [length_swapE _ _ _ hlt] at hj
      rw [okAtE, getE_swap _ _ _ hlt, getE_swap _ _ _ hlt]
      by_cases h1 : j = k
      · subst h1
        rw [if_pos rfl, hme, Bool.true_and]
        by_cases h2 : j = 0
        · simp [h2]
        · rw [if_neg (by omega), decide_eq_true (((key _).1).2 (catE_lt hv (by omega) hlt)), Bool.or_true]
      · rw [if_neg h1, okE_ent (hv j hj), Bool.true_and]
        by_cases h2 : j = 0
        · simp [h2]
        · by_cases h3 : j - 1 = k
          · rw [if_pos h3, decide_eq_true (((key _).2).2 (catE_lt hv (by omega) hj)), Bool.or_true]
          · rw [if_neg h3, decide_eq_true (catE_lt hv (by omega) hj), Bool.or_true]
    · cases h
  · rename_i hat
    cases h
    intro j hj
    rw [length_ins] at hj
    rw [okAtE, getE_ins _ _ _ hk, getE_ins _ _ _ hk]
    by_cases h1 : j < k
    · rw [if_pos h1, if_pos (by omega)]
      have := hv j (by omega)
      rwa [okAtE] at this
    · rw [if_neg h1]
      by_cases h2 : j = k
      · subst h2
        rw [if_pos rfl, hy, Bool.true_and]
        by_cases h3 : j = 0
        · simp [h3]
        · rw [if_pos (by omega), decide_eq_true (hlow (j - 1) (by omega)), Bool.or_true]
      · rw [if_neg h2, if_neg (by omega), okE_ent (hv (j - 1) (by omega)), Bool.true_and]
        by_cases h3 : j - 1 = k
        · rw [if_pos h3, h3]
          have h4 : k < es.length := by omega
          have h6 : ¬ ((enS.get es k).a = y.a ∧ (enS.get es k).b = y.b) := fun e => hat (by unfold atB isCu; simp [h4, e.1, e.2])
          rw [decide_eq_true (cmpE_neg (hhi h4) h6), Bool.or_true]
        · rw [if_neg h3]
          have := catE_lt hv (show j - 1 - 1 < j - 1 by omega) (by omega)
          rw [decide_eq_true this, Bool.or_true]
theorem tight_len {es : List En} {y : En} {z : List En} (h : tightO es y = some z) : z.length ≤ es.length + 1 := by
  unfold tightO at h
  split at h
  · rename_i hat
    split at h
    · cases h; rw [length_swapE _ _ _ (atB_spec hat).1]; omega
    · cases h
  · cases h; rw [length_ins]; omega
theorem foldO_zero (es bs : List En) : foldO es (bs.take 0) = some es := by simp [foldO]
theorem foldO_succ (es : List En) {bs : List En} {k : Nat} (hk : k < bs.length) : foldO es (bs.take (k + 1)) = (foldO es (bs.take k)).bind (fun z => tightO z (enS.get bs k)) := by
  have : bs.take (k + 1) = bs.take k ++ [enS.get bs k] := by
    rw [List.take_add_one, List.getElem?_eq_getElem hk]
    simp [Shape.get, List.getD_eq_getElem?_getD, List.getElem?_eq_getElem hk]
  unfold foldO
  rw [this, List.foldl_append]
  rfl
theorem foldO_none (es : List En) : ∀ bs : List En, bs.foldl (fun o y => o.bind (fun z => tightO z y)) (none : Option (List En)) = none
  | [] => rfl
  | _ :: bs => foldO_none es bs
theorem foldO_stop {es bs : List En} {k : Nat} (h : foldO es (bs.take k) = none) : foldO es bs = none := by
  have : bs = bs.take k ++ bs.drop k := (List.take_append_drop k bs).symm
  rw [this]
  unfold foldO at h ⊢
  rw [List.foldl_append, h]
  exact foldO_none es _
def mergeV (xs bs : List En) : List En × Bool := match foldO xs bs with
  | some z => if z.length ≤ 12 then (z, true) else ([], false)
  | none => ([], false)
def mergeG (xs bs : List En) : List En × Bool := if catB xs && catB bs then mergeV xs bs else ([], false)
theorem mergeV_len {xs bs : List En} (y : List En) (b : Bool) (h : mergeV xs bs = (y, b)) : y.length ≤ 12 := by
  unfold mergeV at h
  split at h
  · split at h
    · obtain ⟨rfl, -⟩ := Prod.mk.inj h; assumption
    · obtain ⟨rfl, -⟩ := Prod.mk.inj h; simp
  · obtain ⟨rfl, -⟩ := Prod.mk.inj h; simp
theorem mergeG_len {xs bs : List En} (y : List En) (b : Bool) (h : mergeG xs bs = (y, b)) : y.length ≤ 12 := by
  unfold mergeG at h
  split at h
  · exact mergeV_len y b h
  · obtain ⟨rfl, -⟩ := Prod.mk.inj h; simp
def tightG (xs : List En) (y : En) : List En × Bool := if catB xs && entE y then mergeV xs [y] else ([], false)
theorem tightG_len {xs : List En} {e : En} (y : List En) (b : Bool) (h : tightG xs e = (y, b)) : y.length ≤ 12 := by
  unfold tightG at h
  split at h
  · exact mergeV_len y b h
  · obtain ⟨rfl, -⟩ := Prod.mk.inj h; simp
theorem mergeV_one (xs : List En) (y : En) : mergeV xs [y] = match tightO xs y with
  | some z => if z.length ≤ 12 then (z, true) else ([], false)
  | none => ([], false) := by
  unfold mergeV foldO
  simp
end Go.Proofs.Ytnphipfdpkgbaaa
