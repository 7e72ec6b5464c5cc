/- A catalogue out of records: the plain law. Conditions: none. -/
import Derived.Test.YtimfoodbolokdaaGreatDoorEtM2
import Derived.Test.YtimfoodbolokdaaGreatDoorBest2
import Derived.Test.YtimfoodbolokdaaGreatDoorJRecs
namespace Go.Proofs.YtimfoodbolokdaaGreatDoor
open Go Go.RowKit

def enR (r : Rc) : En := ⟨r.a, r.b, r.lo, r.hi, 0⟩
theorem enR_ent {r : Rc} (h : r.ok = true) : entE (enR r) = true := by
  unfold Rc.ok recB at h
  unfold entE entB enR
  simp only [Bool.and_eq_true, decide_eq_true_eq] at h ⊢
  exact ⟨h.1, by omega⟩
/-- Two of other curves. -/
def dst (x y : Rc) : Prop := ¬ (x.a = y.a ∧ x.b = y.b)
def dE (x y : En) : Prop := ¬ (x.a = y.a ∧ x.b = y.b)
theorem bestL_dst {all : List Rc} : ∀ (rs acc l : List Rc), acc.Pairwise dst → bestL all rs acc = some l → l.Pairwise dst
  | [], acc, l, h, e => by unfold bestL at e; cases e; exact h
  | r :: rs, acc, l, h, e => by
    unfold bestL at e
    split at e
    · exact bestL_dst rs acc l h e
    · rename_i hn
      split at e
      · refine bestL_dst rs _ l ?_ e
        rw [List.pairwise_append]
        refine ⟨h, List.pairwise_singleton _ _, fun x hx y hy => ?_⟩
        simp only [List.mem_singleton] at hy
        subst hy
        intro hh
        exact hn (List.any_eq_true.2 ⟨x, hx, decide_eq_true hh⟩)
      · cases e
theorem bestV_dst (all : List Rc) : (bestV all).1.Pairwise dst := by
  cases h : bestO all with
  | none => rw [bestV_none h]; exact List.Pairwise.nil
  | some l => rw [bestV_some h]; exact bestL_dst all [] l List.Pairwise.nil h
theorem map_dE {l : List Rc} (h : l.Pairwise dst) : (l.map enR).Pairwise dE := List.pairwise_map.2 h
theorem getE_at {es : List En} {k : Nat} (h : k < es.length) : enS.get es k = es[k] := by
  unfold Shape.get; rw [List.getD_eq_getElem?_getD, List.getElem?_eq_getElem h]; rfl
theorem getE_mem {es : List En} {k : Nat} (h : k < es.length) : enS.get es k ∈ es := by
  rw [getE_at h]; exact List.getElem_mem h
theorem tight_new {es : List En} {y : En} (h : ∀ x ∈ es, dE x y) : ∃ z, tightO es y = some z ∧ z.Perm (es ++ [y]) := by
  have hn : ¬ (atB es (placeN es y.a y.b) y.a y.b = true) := fun hh => by
    obtain ⟨h1, h2, h3⟩ := atB_spec hh
    exact h _ (getE_mem h1) ⟨h2, h3⟩
  refine ⟨ins es (placeN es y.a y.b) y, by unfold tightO; rw [if_neg hn], ?_⟩
  unfold ins
  refine List.perm_middle.trans ?_
  rw [List.take_append_drop]
  exact (List.perm_append_singleton y es).symm
theorem okCat_pair {es : List En} (h : okCat es) : es.Pairwise (fun x y => cmpE x y < 0) := by
  rw [List.pairwise_iff_getElem]
  intro i j hi hj hij
  have := catE_lt h hij hj
  rwa [getE_at hi, getE_at hj] at this
theorem pair_okCat {es : List En} (he : ∀ x ∈ es, entE x = true) (h : es.Pairwise (fun x y => cmpE x y < 0)) : okCat es := by
  intro k hk
  rw [okAtE, he _ (getE_mem hk), Bool.true_and]
  by_cases h0 : k = 0
  · subst h0; rfl
  · rw [List.pairwise_iff_getElem] at h
    have := h (k - 1) k (by omega) hk (by omega)
    rw [getE_at (show k - 1 < es.length by omega), getE_at hk, decide_eq_true this, Bool.or_true]
theorem cmpE_self (x : En) : ¬ cmpE x x < 0 := by
  unfold cmpE
  rw [cmpC_lt]
  omega
theorem okCat_eq {x y : List En} (hx : okCat x) (hy : okCat y) (h : x.Perm y) : x = y :=
  List.Perm.eq_of_pairwise (le := fun x y => cmpE x y < 0) (fun a _ _ _ h1 h2 => absurd (cmpE_trans h1 h2) (cmpE_self a)) (okCat_pair hx) (okCat_pair hy) h
/-- The catalogue that entries of other curves make up. -/
def jcZ (bs : List En) : List En := (foldO [] bs).getD []
theorem jc_fold {bs : List En} (hd : bs.Pairwise dE) (he : ∀ x ∈ bs, entE x = true) : ∀ k, k ≤ bs.length → ∃ z, foldO [] (bs.take k) = some z ∧ okCat z ∧ z.Perm (bs.take k)
  | 0, _ => ⟨[], by rw [foldO_zero], fun k hk => absurd hk (Nat.not_lt_zero _), by simp⟩
  | k + 1, h => by
    obtain ⟨z, h1, h2, h3⟩ := jc_fold hd he k (by omega)
    have hk : k < bs.length := by omega
    have hnew : ∀ x ∈ z, dE x (enS.get bs k) := fun x hx => by
      have hx2 := h3.mem_iff.1 hx
      obtain ⟨i, hi, rfl⟩ := List.getElem_of_mem hx2
      rw [List.length_take] at hi
      rw [List.getElem_take, getE_at hk]
      exact List.pairwise_iff_getElem.1 hd i k (by omega) hk (by omega)
    obtain ⟨z2, h4, h5⟩ := tight_new hnew
    refine ⟨z2, by rw [foldO_succ _ hk, h1]; exact h4, tight_ok h2 (he _ (getE_mem hk)) h4, h5.trans ?_⟩
    rw [List.take_add_one, List.getElem?_eq_getElem hk, getE_at hk]
    exact h3.append_right _
theorem jcZ_spec {bs : List En} (hd : bs.Pairwise dE) (he : ∀ x ∈ bs, entE x = true) : foldO [] bs = some (jcZ bs) ∧ okCat (jcZ bs) ∧ (jcZ bs).Perm bs := by
  obtain ⟨z, h1, h2, h3⟩ := jc_fold hd he bs.length (Nat.le_refl _)
  rw [List.take_length] at h1 h3
  unfold jcZ
  rw [h1]
  exact ⟨rfl, h2, h3⟩
/-- What is sorted is that catalogue. -/
theorem jcZ_sorted {bs d : List En} (hd : bs.Pairwise dE) (he : ∀ x ∈ bs, entE x = true) (hp : d.Perm bs) (hs : ∀ i j, i < j → (hj : j < d.length) → ¬ cmpE (enS.get d j) (enS.get d i) < 0) : d = jcZ bs := by
  obtain ⟨-, h2, h3⟩ := jcZ_spec hd he
  refine okCat_eq (pair_okCat (fun x hx => he x (hp.mem_iff.1 hx)) ?_) h2 (hp.trans h3.symm)
  have hd2 : d.Pairwise dE := hp.symm.pairwise hd (fun h1 h2 => h1 ⟨h2.1.symm, h2.2.symm⟩)
  rw [List.pairwise_iff_getElem] at hd2 ⊢
  intro i j hi hj hij
  have h1 := hs i j hij hj
  rw [getE_at hi, getE_at hj] at h1
  exact cmpE_neg h1 (fun h => hd2 i j hi hj hij ⟨h.1.symm, h.2.symm⟩)
/-- What both hand back. -/
def jcB (D P : ByteArray) : Bool := jrOk D P && (bestV (jrV D P)).2 && catB (jcZ ((bestV (jrV D P)).1.map enR))
def jcV (D P : ByteArray) : List En × Bool := if jcB D P = true then (jcZ ((bestV (jrV D P)).1.map enR), true) else ([], false)
theorem jcV_no {D P : ByteArray} (h : jcB D P = false) : jcV D P = ([], false) := by unfold jcV; rw [if_neg (by rw [h]; exact Bool.false_ne_true)]
theorem jcV_yes {D P : ByteArray} (h : jcB D P = true) : jcV D P = (jcZ ((bestV (jrV D P)).1.map enR), true) := by unfold jcV; rw [if_pos h]
theorem jcV_len (D P : ByteArray) : (jcV D P).1.length ≤ 30 := by
  cases h : jcB D P
  · rw [jcV_no h]; simp
  · rw [jcV_yes h]
    unfold jcB at h
    simp only [Bool.and_eq_true] at h
    have := (catB_spec h.2).1
    show (jcZ _).length ≤ 30
    omega
end Go.Proofs.YtimfoodbolokdaaGreatDoor
