/- Own texts put together: IsBetter of the reference and of the program; Plain laws of catalogues: what a tightened, a merged one has; which entries are torn; one is better than another; Plain laws of FnCatalogues: what the answers of merge, contradictions, better and find have to do with each other; slices; DropEntry of the reference and of the program: the walks; The laws' own helpers at slices of ints; KnownRanks of the reference and of the program. Conditions: those of each theorem. -/
import Derived.Test.YtimfoodbolokdaaGreatDoorEtM2
import Derived.Test.YtimfoodbolokdaaGreatDoorEtM4
import Derived.Test.YtimfoodbolokdaaGreatDoorEtM1
import Derived.Test.YtimfoodbolokdaaGreatDoorRows
namespace Go.Proofs.YtimfoodbolokdaaGreatDoor
section
open Go Go.RowKit

def sayB (y x : En) : Bool := !decide (y.lo < x.lo) && !decide (x.hi < y.hi) && !(!decide (x.to = 0) && !decide (y.to = x.to))
def hasB (xs : List En) (x : En) : Bool := decide (firstN xs x.a x.b < xs.length) && sayB (enS.get xs (firstN xs x.a x.b)) x
def betV (xs bs : List En) : Bool × Bool := if catB xs && catB bs then ((List.range bs.length).all (fun k => hasB xs (enS.get bs k)), true) else (false, false)
theorem betV_badA {xs bs : List En} (h : catB xs = false) : betV xs bs = (false, false) := by unfold betV; rw [h]; rfl
theorem betV_badB {xs bs : List En} (h : catB bs = false) : betV xs bs = (false, false) := by unfold betV; rw [h, Bool.and_false]; rfl
theorem betV_no {xs bs : List En} (ha : catB xs = true) (hb : catB bs = true) {k : Nat} (hk : k < bs.length) (h : hasB xs (enS.get bs k) = false) : betV xs bs = (false, true) := by
  unfold betV
  rw [ha, hb, Bool.true_and, if_pos rfl, Prod.mk.injEq]
  refine ⟨?_, rfl⟩
  rw [List.all_eq_false]
  exact ⟨k, List.mem_range.2 hk, by rw [h]; simp⟩
theorem betV_yes {xs bs : List En} (ha : catB xs = true) (hb : catB bs = true) (h : ∀ k, k < bs.length → hasB xs (enS.get bs k) = true) : betV xs bs = (true, true) := by
  unfold betV
  rw [ha, hb, Bool.true_and, if_pos rfl, Prod.mk.injEq]
  refine ⟨?_, rfl⟩
  rw [List.all_eq_true]
  exact fun k hk => h k (List.mem_range.1 hk)
theorem hasB_out {xs : List En} {x : En} (h : ¬ firstN xs x.a x.b < xs.length) : hasB xs x = false := by unfold hasB; rw [decide_eq_false h]; rfl
theorem hasB_in {xs : List En} {x : En} (h : firstN xs x.a x.b < xs.length) : hasB xs x = sayB (enS.get xs (firstN xs x.a x.b)) x := by unfold hasB; rw [decide_eq_true h]; rfl

end
section
open Go Go.RowKit

/-- Of the same curve. -/
def sm (x y : En) : Prop := x.a = y.a ∧ x.b = y.b
theorem sm.symm {x y : En} (h : sm x y) : sm y x := ⟨h.1.symm, h.2.symm⟩
theorem sm.trans {x y z : En} (h : sm x y) (k : sm y z) : sm x z := ⟨h.1.trans k.1, h.2.trans k.2⟩
theorem sm.rfl' (x : En) : sm x x := ⟨rfl, rfl⟩
theorem sort_ext {E : Type} {R : E → E → Prop} (irr : ∀ x, ¬ R x x) (tr : ∀ x y z, R x y → R y z → R x z) : ∀ l1 l2 : List E, l1.Pairwise R → l2.Pairwise R → (∀ u, u ∈ l1 ↔ u ∈ l2) → l1 = l2
  | [], [], _, _, _ => rfl
  | [], y :: _, _, _, h => by have := (h y).2 (by simp); cases this
  | x :: _, [], _, _, h => by have := (h x).1 (by simp); cases this
  | x :: l1, y :: l2, h1, h2, h => by
    obtain ⟨p1, q1⟩ := List.pairwise_cons.1 h1
    obtain ⟨p2, q2⟩ := List.pairwise_cons.1 h2
    have hxy : x = y := by
      rcases List.mem_cons.1 ((h x).1 (by simp)) with e | e
      · exact e
      · rcases List.mem_cons.1 ((h y).2 (by simp)) with e2 | e2
        · exact e2.symm
        · exact absurd (tr _ _ _ (p1 y e2) (p2 x e)) (irr x)
    subst hxy
    rw [sort_ext irr tr l1 l2 q1 q2 (fun u => ?_)]
    constructor
    · intro hu
      rcases List.mem_cons.1 ((h u).1 (List.mem_cons_of_mem _ hu)) with e | e
      · rw [e] at hu; exact absurd (p1 x hu) (irr x)
      · exact e
    · intro hu
      rcases List.mem_cons.1 ((h u).2 (List.mem_cons_of_mem _ hu)) with e | e
      · rw [e] at hu; exact absurd (p2 x hu) (irr x)
      · exact e
theorem cmpE_irr (x : En) : ¬ cmpE x x < 0 := by
  unfold cmpE
  rw [cmpC_lt]
  omega
theorem getE_is {es : List En} {k : Nat} (h : k < es.length) : enS.get es k = es[k] := by
  unfold Shape.get
  rw [List.getD_eq_getElem?_getD, List.getElem?_eq_getElem h]; rfl
theorem okCat_pw {es : List En} (h : okCat es) : es.Pairwise (fun x y => cmpE x y < 0) := by
  rw [List.pairwise_iff_getElem]
  intro i j hi hj hij
  have := catE_lt h hij hj
  rwa [getE_is hi, getE_is hj] at this
theorem okCat_mem {es : List En} (h : okCat es) {x : En} (hx : x ∈ es) : entE x = true := by
  obtain ⟨i, hi, rfl⟩ := List.mem_iff_getElem.1 hx
  have := okE_ent (h i hi)
  rwa [getE_is hi] at this
theorem sm_cmp {x y z : En} (h : sm x y) : (cmpE x z < 0 ↔ cmpE y z < 0) ∧ (cmpE z x < 0 ↔ cmpE z y < 0) := by
  unfold cmpE
  rw [h.1, h.2]
  exact ⟨Iff.rfl, Iff.rfl⟩
theorem okCat_uniq {es : List En} (h : okCat es) {x y : En} (hx : x ∈ es) (hy : y ∈ es) (hs : sm x y) : x = y := by
  obtain ⟨i, hi, rfl⟩ := List.mem_iff_getElem.1 hx
  obtain ⟨j, hj, rfl⟩ := List.mem_iff_getElem.1 hy
  rcases Nat.lt_trichotomy i j with h1 | h1 | h1
  · have := catE_lt h h1 hj
    rw [getE_is hi, getE_is hj] at this
    exact absurd ((sm_cmp hs).1.1 this) (cmpE_irr _)
  · subst h1; rfl
  · have := catE_lt h h1 hi
    rw [getE_is hi, getE_is hj] at this
    exact absurd ((sm_cmp hs).2.1 this) (cmpE_irr _)
theorem cat_ext {x y : List En} (hx : okCat x) (hy : okCat y) (h : ∀ u, u ∈ x ↔ u ∈ y) : x = y :=
  sort_ext (R := fun x y => cmpE x y < 0) cmpE_irr (fun _ _ _ h1 h2 => cmpE_trans h1 h2) x y (okCat_pw hx) (okCat_pw hy) h
/-- Where the entry of a curve is, if there is one. -/
theorem at_place {es : List En} (h : okCat es) (y : En) : (∃ x ∈ es, sm x y) ↔ atB es (placeN es y.a y.b) y.a y.b = true := by
  constructor
  · rintro ⟨x, hx, hs⟩
    obtain ⟨i, hi, rfl⟩ := List.mem_iff_getElem.1 hx
    obtain ⟨h1, h2, h3⟩ := placeN_spec es y
    have hk : placeN es y.a y.b = i := by
      rcases Nat.lt_trichotomy (placeN es y.a y.b) i with h4 | h4 | h4
      · have h5 := catE_lt h h4 hi
        rw [getE_is hi] at h5
        exact absurd ((sm_cmp hs).2.1 h5) (h3 (by omega))
      · exact h4
      · have h5 := h2 i h4
        rw [getE_is hi] at h5
        exact absurd ((sm_cmp hs).1.1 h5) (cmpE_irr _)
    rw [hk]
    unfold atB isCu
    rw [getE_is hi, decide_eq_true hi, hs.1, hs.2]
    simp
  · intro h1
    obtain ⟨h2, h3, h4⟩ := atB_spec h1
    exact ⟨enS.get es (placeN es y.a y.b), by rw [getE_is h2]; exact List.getElem_mem h2, h3, h4⟩
theorem at_get {es : List En} (h : okCat es) {x y : En} (hx : x ∈ es) (hs : sm x y) : enS.get es (placeN es y.a y.b) = x := by
  have h1 := (at_place h y).1 ⟨x, hx, hs⟩
  obtain ⟨h2, h3, h4⟩ := atB_spec h1
  exact okCat_uniq h (by rw [getE_is h2]; exact List.getElem_mem h2) hx (sm.trans ⟨h3, h4⟩ hs.symm)
theorem meet_sm (x y : En) : sm (meetE x y) x := ⟨rfl, rfl⟩
/-- What a catalogue with one more entry has. -/
theorem tight_mem {es : List En} {y : En} (h : okCat es) {z : List En} (hz : tightO es y = some z) (u : En) :
    u ∈ z ↔ (u ∈ es ∧ ¬ sm u y) ∨ (∃ x ∈ es, sm x y ∧ u = meetE x y) ∨ ((∀ x ∈ es, ¬ sm x y) ∧ u = y) := by
  unfold tightO at hz
  by_cases hat : atB es (placeN es y.a y.b) y.a y.b = true
  · obtain ⟨hlt, ha, hb⟩ := atB_spec hat
    rw [if_pos hat] at hz
    split at hz
    · rename_i hok
      cases hz
      have hsm : sm (enS.get es (placeN es y.a y.b)) y := ⟨ha, hb⟩
      have hin : enS.get es (placeN es y.a y.b) ∈ es := by rw [getE_is hlt]; exact List.getElem_mem hlt
      have hget := getE_is hlt
      generalize placeN es y.a y.b = k at *
      rw [swapE_set _ _ _ hlt]
      constructor
      · intro hu
        obtain ⟨j, hj, rfl⟩ := List.mem_iff_getElem.1 hu
        rw [List.length_set] at hj
        by_cases hjk : k = j
        · subst hjk
          rw [List.getElem_set_self]
          exact .inr (.inl ⟨_, hin, hsm, rfl⟩)
        · rw [List.getElem_set_ne hjk]
          refine .inl ⟨List.getElem_mem hj, fun hs => ?_⟩
          have h5 := okCat_uniq h hin (List.getElem_mem hj) (hsm.trans hs.symm)
          rw [hget] at h5
          rcases Nat.lt_trichotomy k j with h6 | h6 | h6
          · have := catE_lt h h6 hj
            rw [getE_is hlt, getE_is hj, h5] at this
            exact cmpE_irr _ this
          · exact hjk h6
          · have := catE_lt h h6 hlt
            rw [getE_is hlt, getE_is hj, h5] at this
            exact cmpE_irr _ this
      · rintro (⟨hu, hns⟩ | ⟨x, hx, hs, rfl⟩ | ⟨hno, -⟩)
        · obtain ⟨j, hj, rfl⟩ := List.mem_iff_getElem.1 hu
          have hjk : k ≠ j := by
            intro e
            subst e
            rw [← hget] at hns
            exact hns hsm
          rw [List.mem_iff_getElem]
          exact ⟨j, by rw [List.length_set]; exact hj, by rw [List.getElem_set_ne hjk]⟩
        · have : x = enS.get es k := okCat_uniq h hx hin (hs.trans hsm.symm)
          rw [this, List.mem_iff_getElem]
          exact ⟨k, by rw [List.length_set]; exact hlt, by rw [List.getElem_set_self]⟩
        · exact absurd hsm (hno _ hin)
    · cases hz
  · rw [if_neg hat] at hz
    cases hz
    have hno : ∀ x ∈ es, ¬ sm x y := fun x hx hs => hat ((at_place h y).1 ⟨x, hx, hs⟩)
    unfold ins
    constructor
    · intro hu
      rcases List.mem_append.1 hu with h1 | h1
      · have := List.mem_of_mem_take h1
        exact .inl ⟨this, hno u this⟩
      · rcases List.mem_cons.1 h1 with h2 | h2
        · exact .inr (.inr ⟨hno, h2⟩)
        · have := List.mem_of_mem_drop h2
          exact .inl ⟨this, hno u this⟩
    · rintro (⟨hu, -⟩ | ⟨x, hx, hs, -⟩ | ⟨-, rfl⟩)
      · rw [← List.take_append_drop (placeN es y.a y.b) es] at hu
        rcases List.mem_append.1 hu with h1 | h1
        · exact List.mem_append_left _ h1
        · exact List.mem_append_right _ (List.mem_cons_of_mem _ h1)
      · exact absurd hs (hno x hx)
      · exact List.mem_append_right _ (by simp)
theorem tight_none {es : List En} {y : En} (h : okCat es) : tightO es y = none ↔ ∃ x ∈ es, sm x y ∧ okMeet x y = false := by
  unfold tightO
  by_cases hat : atB es (placeN es y.a y.b) y.a y.b = true
  · rw [if_pos hat]
    obtain ⟨hlt, ha, hb⟩ := atB_spec hat
    have hin : enS.get es (placeN es y.a y.b) ∈ es := by rw [getE_is hlt]; exact List.getElem_mem hlt
    constructor
    · intro h1
      split at h1
      · cases h1
      · rename_i hok
        exact ⟨_, hin, ⟨ha, hb⟩, by simpa using hok⟩
    · rintro ⟨x, hx, hs, hok⟩
      rw [at_get h hx hs, hok]
      rfl
  · rw [if_neg hat]
    constructor
    · intro h1; cases h1
    · rintro ⟨x, hx, hs, -⟩
      exact absurd ((at_place h y).1 ⟨x, hx, hs⟩) hat
theorem foldO_cons (es : List En) (y : En) (bs : List En) : foldO es (y :: bs) = (tightO es y).bind (fun z => foldO z bs) := by
  unfold foldO
  rw [List.foldl_cons]
  show bs.foldl _ (tightO es y) = _
  cases tightO es y with
  | none => exact foldO_none es bs
  | some z => rfl
def nsm (x y : En) : Prop := ¬ sm x y
/-- What two merged catalogues have. -/
theorem fold_mem : ∀ (bs es : List En), okCat es → (∀ y ∈ bs, entE y = true) → bs.Pairwise nsm → ∀ z, foldO es bs = some z →
    okCat z ∧ ∀ u, u ∈ z ↔ (u ∈ es ∧ ∀ y ∈ bs, ¬ sm u y) ∨ (∃ x ∈ es, ∃ y ∈ bs, sm x y ∧ u = meetE x y) ∨ (u ∈ bs ∧ ∀ x ∈ es, ¬ sm x u)
  | [], es, he, _, _, z, hz => by
    have : foldO es [] = some es := rfl
    rw [this] at hz
    cases hz
    exact ⟨he, fun u => by simp⟩
  | y :: bs, es, he, hb, hp, z, hz => by
    obtain ⟨p1, p2⟩ := List.pairwise_cons.1 hp
    rw [foldO_cons] at hz
    cases h1 : tightO es y with
    | none => rw [h1] at hz; cases hz
    | some z1 =>
      rw [h1] at hz
      have ho1 := tight_ok he (hb y (by simp)) h1
      have hm1 := tight_mem he h1
      obtain ⟨ho2, hm2⟩ := fold_mem bs z1 ho1 (fun x hx => hb x (by simp [hx])) p2 z hz
      refine ⟨ho2, fun u => ?_⟩
      rw [hm2]
      constructor
      · rintro (⟨hu, hn⟩ | ⟨x, hx, v, hv, hs, rfl⟩ | ⟨hu, hn⟩)
        · rcases (hm1 u).1 hu with ⟨h2, h3⟩ | ⟨x, h2, h3, rfl⟩ | ⟨h2, rfl⟩
          · exact .inl ⟨h2, fun v hv => by rcases List.mem_cons.1 hv with rfl | hv; exact h3; exact hn v hv⟩
          · exact .inr (.inl ⟨x, h2, y, by simp, h3, rfl⟩)
          · exact .inr (.inr ⟨by simp, fun x hx hs => h2 x hx hs⟩)
        · rcases (hm1 x).1 hx with ⟨h2, h3⟩ | ⟨x0, h2, h3, rfl⟩ | ⟨h2, rfl⟩
          · exact .inr (.inl ⟨x, h2, v, by simp [hv], hs, rfl⟩)
          · exact absurd ((h3.symm.trans (meet_sm x0 y).symm).trans hs) (p1 v hv)
          · exact absurd hs (p1 v hv)
        · refine .inr (.inr ⟨by simp [hu], fun x hx hs => ?_⟩)
          by_cases hxy : sm x y
          · exact p1 u hu (hxy.symm.trans hs)
          · exact hn x ((hm1 x).2 (.inl ⟨hx, hxy⟩)) hs
      · rintro (⟨hu, hn⟩ | ⟨x, hx, v, hv, hs, rfl⟩ | ⟨hu, hn⟩)
        · exact .inl ⟨(hm1 u).2 (.inl ⟨hu, hn y (by simp)⟩), fun v hv => hn v (by simp [hv])⟩
        · rcases List.mem_cons.1 hv with rfl | hv
          · exact .inl ⟨(hm1 _).2 (.inr (.inl ⟨x, hx, hs, rfl⟩)), fun w hw hs2 => p1 w hw (hs.symm.trans ((meet_sm x v).symm.trans hs2))⟩
          · refine .inr (.inl ⟨x, (hm1 x).2 (.inl ⟨hx, fun hxy => p1 v hv (hxy.symm.trans hs)⟩), v, hv, hs, rfl⟩)
        · rcases List.mem_cons.1 hu with rfl | hu2
          · exact .inl ⟨(hm1 u).2 (.inr (.inr ⟨hn, rfl⟩)), fun v hv hs => p1 v hv hs⟩
          · refine .inr (.inr ⟨hu2, fun x hx hs => ?_⟩)
            rcases (hm1 x).1 hx with ⟨h2, h3⟩ | ⟨x0, h2, h3, rfl⟩ | ⟨h2, rfl⟩
            · exact hn x h2 hs
            · exact p1 u hu2 ((h3.symm.trans (meet_sm x0 y).symm).trans hs)
            · exact p1 u hu2 hs
theorem fold_none : ∀ (bs es : List En), okCat es → (∀ y ∈ bs, entE y = true) → bs.Pairwise nsm → (foldO es bs = none ↔ ∃ x ∈ es, ∃ y ∈ bs, sm x y ∧ okMeet x y = false)
  | [], es, _, _, _ => by
    have : foldO es [] = some es := rfl
    rw [this]
    constructor
    · intro h; cases h
    · rintro ⟨_, _, _, h, _⟩; cases h
  | y :: bs, es, he, hb, hp => by
    obtain ⟨p1, p2⟩ := List.pairwise_cons.1 hp
    rw [foldO_cons]
    cases h1 : tightO es y with
    | none =>
      obtain ⟨x, hx, hs, hk⟩ := (tight_none he).1 h1
      exact ⟨fun _ => ⟨x, hx, y, by simp, hs, hk⟩, fun _ => rfl⟩
    | some z1 =>
      have ho1 := tight_ok he (hb y (by simp)) h1
      have hm1 := tight_mem he h1
      have ih := fold_none bs z1 ho1 (fun x hx => hb x (by simp [hx])) p2
      show foldO z1 bs = none ↔ _
      rw [ih]
      have hny : ∀ x ∈ es, sm x y → okMeet x y = true := fun x hx hs => by
        cases hk : okMeet x y with
        | true => rfl
        | false => rw [(tight_none he).2 ⟨x, hx, hs, hk⟩] at h1; cases h1
      constructor
      · rintro ⟨x, hx, v, hv, hs, hk⟩
        rcases (hm1 x).1 hx with ⟨h2, h3⟩ | ⟨x0, h2, h3, rfl⟩ | ⟨h2, rfl⟩
        · exact ⟨x, h2, v, by simp [hv], hs, hk⟩
        · exact absurd ((h3.symm.trans (meet_sm x0 y).symm).trans hs) (p1 v hv)
        · exact absurd hs (p1 v hv)
      · rintro ⟨x, hx, v, hv, hs, hk⟩
        rcases List.mem_cons.1 hv with rfl | hv
        · rw [hny x hx hs] at hk; cases hk
        · exact ⟨x, (hm1 x).2 (.inl ⟨hx, fun hxy => p1 v hv (hxy.symm.trans hs)⟩), v, hv, hs, hk⟩
theorem mostI_comm (x y : Int) : mostI x y = mostI y x := by unfold mostI; split <;> split <;> omega
theorem leastI_comm (x y : Int) : leastI x y = leastI y x := by unfold leastI; split <;> split <;> omega
theorem meet_comm {x y : En} (h : sm x y) : meetE x y = meetE y x := by
  unfold meetE
  rw [h.1, h.2, mostI_comm x.lo, leastI_comm x.hi, mostI_comm x.to]
theorem okMeet_comm (x y : En) : okMeet x y = okMeet y x := by
  unfold okMeet tornB
  rw [mostI_comm x.lo, leastI_comm x.hi]
  congr 1
  congr 1
  cases h1 : x.to != 0 <;> cases h2 : y.to != 0 <;> simp [bne_comm]
theorem okCat_nsm {es : List En} (h : okCat es) : es.Pairwise nsm :=
  (okCat_pw h).imp (fun {_ y} hlt hs => cmpE_irr y ((sm_cmp hs).1.1 hlt))
theorem merge_comm {xs bs : List En} (hx : okCat xs) (hb : okCat bs) : foldO xs bs = foldO bs xs := by
  have ex : ∀ y ∈ xs, entE y = true := fun y hy => okCat_mem hx hy
  have eb : ∀ y ∈ bs, entE y = true := fun y hy => okCat_mem hb hy
  have n1 := fold_none bs xs hx eb (okCat_nsm hb)
  have n2 := fold_none xs bs hb ex (okCat_nsm hx)
  cases h1 : foldO xs bs with
  | none =>
    obtain ⟨x, h2, y, h3, hs, hk⟩ := n1.1 h1
    exact (n2.2 ⟨y, h3, x, h2, hs.symm, by rw [okMeet_comm]; exact hk⟩).symm
  | some z1 =>
    cases h2 : foldO bs xs with
    | none =>
      obtain ⟨y, h3, x, h4, hs, hk⟩ := n2.1 h2
      rw [n1.2 ⟨x, h4, y, h3, hs.symm, by rw [okMeet_comm]; exact hk⟩] at h1
      cases h1
    | some z2 =>
      obtain ⟨o1, m1⟩ := fold_mem bs xs hx eb (okCat_nsm hb) z1 h1
      obtain ⟨o2, m2⟩ := fold_mem xs bs hb ex (okCat_nsm hx) z2 h2
      rw [cat_ext o1 o2 (fun u => ?_)]
      rw [m1, m2]
      constructor
      · rintro (⟨a1, a2⟩ | ⟨x, a1, y, a2, hs, rfl⟩ | ⟨a1, a2⟩)
        · exact .inr (.inr ⟨a1, fun x hx2 hs => a2 x hx2 hs.symm⟩)
        · exact .inr (.inl ⟨y, a2, x, a1, hs.symm, meet_comm hs⟩)
        · exact .inl ⟨a1, fun x hx2 hs => a2 x hx2 hs.symm⟩
      · rintro (⟨a1, a2⟩ | ⟨x, a1, y, a2, hs, rfl⟩ | ⟨a1, a2⟩)
        · exact .inr (.inr ⟨a1, fun x hx2 hs => a2 x hx2 hs.symm⟩)
        · exact .inr (.inl ⟨y, a2, x, a1, hs.symm, meet_comm hs⟩)
        · exact .inl ⟨a1, fun x hx2 hs => a2 x hx2 hs.symm⟩

/-! ### Better -/
theorem first_of {es : List En} (h : okCat es) {u x : En} (hu : u ∈ es) (hs : sm u x) : firstN es x.a x.b < es.length ∧ enS.get es (firstN es x.a x.b) = u := by
  obtain ⟨h1, h2, h3, h4⟩ := lead_spec (fun k => !isCu es x.a x.b k) es.length 0
  obtain ⟨i, hi, rfl⟩ := List.mem_iff_getElem.1 hu
  have hlt : firstN es x.a x.b < es.length := by
    rcases Nat.lt_or_ge (firstN es x.a x.b) es.length with h5 | h5
    · exact h5
    · have h6 := h3 i (Nat.zero_le _) (by unfold firstN at h5; omega)
      have h7 : isCu es x.a x.b i = true := by unfold isCu; rw [getE_is hi, hs.1, hs.2]; simp
      rw [h7] at h6; cases h6
  refine ⟨hlt, ?_⟩
  have h5 := h4 (by unfold firstN at hlt; omega)
  have h6 : isCu es x.a x.b (firstN es x.a x.b) = true := by unfold firstN; simpa using h5
  obtain ⟨h7, h8⟩ := isCu_iff.1 h6
  exact okCat_uniq h (by rw [getE_is hlt]; exact List.getElem_mem hlt) (List.getElem_mem hi) (sm.trans ⟨h7, h8⟩ hs.symm)
theorem hasB_of {es : List En} (h : okCat es) {u x : En} (hu : u ∈ es) (hs : sm u x) (hb : sayB u x = true) : hasB es x = true := by
  obtain ⟨h1, h2⟩ := first_of h hu hs
  unfold hasB
  rw [h2, hb, decide_eq_true h1]; rfl
theorem betV_of {xs bs : List En} (hx : catB xs = true) (hb : catB bs = true) (h : ∀ x ∈ bs, ∃ u ∈ xs, sm u x ∧ sayB u x = true) : betV xs bs = (true, true) := by
  refine betV_yes hx hb (fun k hk => ?_)
  obtain ⟨u, hu, hs, hy⟩ := h (enS.get bs k) (by rw [getE_is hk]; exact List.getElem_mem hk)
  exact hasB_of (cat_ok hx).2 hu hs hy
theorem sayB_refl (x : En) : sayB x x = true := by unfold sayB; simp
theorem to_nonneg {x : En} (h : entE x = true) : 0 ≤ x.to := by
  unfold entE entB at h
  simp only [Bool.and_eq_true, decide_eq_true_eq] at h
  omega
theorem sayB_meet {x y : En} (hx : entE x = true) (hy : entE y = true) (hok : okMeet x y = true) : sayB (meetE x y) x = true := by
  have h1 := to_nonneg hx
  have h2 := to_nonneg hy
  unfold okMeet tornB at hok
  simp only [Bool.and_eq_true, Bool.not_eq_true', decide_eq_true_eq] at hok
  obtain ⟨h3, -⟩ := hok
  unfold sayB meetE
  simp only [Bool.and_eq_true, Bool.not_eq_true', decide_eq_false_iff_not, Bool.and_eq_false_iff, Bool.not_eq_false', decide_eq_true_eq]
  refine ⟨⟨?_, ?_⟩, ?_⟩
  · unfold mostI; split <;> omega
  · unfold leastI; split <;> omega
  · by_cases h4 : x.to = 0
    · exact .inl h4
    · refine .inr ?_
      by_cases h5 : y.to = 0
      · unfold mostI; split <;> omega
      · have h6 : x.to = y.to := by
          by_cases h7 : x.to = y.to
          · exact h7
          · have a1 : (x.to != 0) = true := by simp [h4]
            have a2 : (y.to != 0) = true := by simp [h5]
            have a3 : (x.to != y.to) = true := by simp [h7]
            rw [a1, a2, a3] at h3; cases h3
        unfold mostI; split <;> omega
/-- A merged catalogue is at least as good as the first one. -/
theorem merge_better {xs bs z : List En} (hx : catB xs = true) (hb : catB bs = true) (hz : foldO xs bs = some z) (hl : z.length ≤ 12) : catB z = true ∧ betV z xs = (true, true) := by
  obtain ⟨-, hx2⟩ := cat_ok hx
  obtain ⟨-, hb2⟩ := cat_ok hb
  have eb : ∀ y ∈ bs, entE y = true := fun y hy => okCat_mem hb2 hy
  obtain ⟨o1, m1⟩ := fold_mem bs xs hx2 eb (okCat_nsm hb2) z hz
  have hcz : catB z = true := by
    unfold catB
    rw [decide_eq_true hl, Bool.true_and, List.all_eq_true]
    intro k hk
    exact o1 k (List.mem_range.1 hk)
  refine ⟨hcz, betV_of hcz hx (fun x hxx => ?_)⟩
  by_cases h : ∃ y ∈ bs, sm x y
  · obtain ⟨y, hy, hs⟩ := h
    refine ⟨meetE x y, (m1 _).2 (.inr (.inl ⟨x, hxx, y, hy, hs, rfl⟩)), meet_sm x y, sayB_meet (okCat_mem hx2 hxx) (eb y hy) ?_⟩
    cases hk : okMeet x y with
    | true => rfl
    | false => rw [(fold_none bs xs hx2 eb (okCat_nsm hb2)).2 ⟨x, hxx, y, hy, hs, hk⟩] at hz; cases hz
  · exact ⟨x, (m1 x).2 (.inl ⟨hxx, fun y hy hs => h ⟨y, hy, hs⟩⟩), sm.rfl' x, sayB_refl x⟩

/-! ### Contradictions -/
theorem torn_iff {bs : List En} (hb : okCat bs) (e : En) : tornE bs e = true ↔ ∃ y ∈ bs, sm y e ∧ okMeet e y = false := by
  unfold tornE
  rw [Bool.and_eq_true]
  constructor
  · rintro ⟨h1, h2⟩
    obtain ⟨h3, h4, h5⟩ := atB_spec h1
    exact ⟨_, by rw [getE_is h3]; exact List.getElem_mem h3, ⟨h4, h5⟩, by simpa using h2⟩
  · rintro ⟨y, hy, hs, hk⟩
    exact ⟨(at_place hb e).1 ⟨y, hy, hs⟩, by rw [at_get hb hy hs, hk]; rfl⟩
def ltCu (x y : Cu) : Prop := cmpC x.a x.b y.a y.b < 0
theorem conF_mem {bs xs : List En} (hb : okCat bs) (c : Cu) : c ∈ conF bs xs ↔ ∃ e ∈ xs, ∃ y ∈ bs, sm y e ∧ okMeet e y = false ∧ c = ⟨e.a, e.b⟩ := by
  unfold conF
  rw [List.mem_map]
  constructor
  · rintro ⟨e, he, rfl⟩
    obtain ⟨h1, h2⟩ := List.mem_filter.1 he
    obtain ⟨y, hy, hs, hk⟩ := (torn_iff hb e).1 h2
    exact ⟨e, h1, y, hy, hs, hk, rfl⟩
  · rintro ⟨e, h1, y, hy, hs, hk, rfl⟩
    exact ⟨e, List.mem_filter.2 ⟨h1, (torn_iff hb e).2 ⟨y, hy, hs, hk⟩⟩, rfl⟩
theorem conF_pw {bs xs : List En} (hx : okCat xs) : (conF bs xs).Pairwise ltCu := by
  unfold conF
  rw [List.pairwise_map]
  exact ((okCat_pw hx).filter _).imp (fun h => h)
theorem con_comm {xs bs : List En} (hx : okCat xs) (hb : okCat bs) : conF bs xs = conF xs bs := by
  refine sort_ext (R := ltCu) (fun x h => ?_) (fun x y z h1 h2 => ?_) _ _ (conF_pw hx) (conF_pw hb) (fun c => ?_)
  · unfold ltCu at h; rw [cmpC_lt] at h; omega
  · exact cmpC_trans h1 h2
  · rw [conF_mem hb, conF_mem hx]
    constructor
    · rintro ⟨e, h1, y, hy, hs, hk, rfl⟩
      exact ⟨y, hy, e, h1, hs.symm, by rw [okMeet_comm]; exact hk, by rw [hs.1, hs.2]⟩
    · rintro ⟨e, h1, y, hy, hs, hk, rfl⟩
      exact ⟨y, hy, e, h1, hs.symm, by rw [okMeet_comm]; exact hk, by rw [hs.1, hs.2]⟩
theorem con_none {xs bs z : List En} (hx : okCat xs) (hb : okCat bs) (hz : foldO xs bs = some z) : conF bs xs = [] := by
  cases h : conF bs xs with
  | nil => rfl
  | cons c l =>
    have hc : c ∈ conF bs xs := by rw [h]; simp
    obtain ⟨e, h1, y, hy, hs, hk, -⟩ := (conF_mem hb c).1 hc
    rw [(fold_none bs xs hx (fun y hy => okCat_mem hb hy) (okCat_nsm hb)).2 ⟨e, h1, y, hy, hs.symm, hk⟩] at hz
    cases hz
end
section
open Go Go.RowKit

theorem mergeV_yes {xs bs z : List En} (h : mergeV xs bs = (z, true)) : foldO xs bs = some z ∧ z.length ≤ 12 := by
  unfold mergeV at h
  cases h1 : foldO xs bs with
  | none => rw [h1] at h; cases h
  | some y =>
    rw [h1] at h
    simp only at h
    split at h
    · rename_i hl
      injection h with h2 h3
      subst h2
      exact ⟨rfl, hl⟩
    · cases h
theorem mergeG_yes {xs bs z : List En} (h : mergeG xs bs = (z, true)) : catB xs = true ∧ catB bs = true ∧ foldO xs bs = some z ∧ z.length ≤ 12 := by
  unfold mergeG at h
  split at h
  · rename_i hc
    rw [Bool.and_eq_true] at hc
    exact ⟨hc.1, hc.2, mergeV_yes h⟩
  · cases h
theorem cat_good {xs : List En} (h : catB xs = true) : okCat xs := (cat_ok h).2
theorem mergeG_back {xs bs z : List En} (h : mergeG xs bs = (z, true)) : mergeG bs xs = (z, true) := by
  obtain ⟨h1, h2, h3, h4⟩ := mergeG_yes h
  unfold mergeG mergeV
  rw [h1, h2, ← merge_comm (cat_good h1) (cat_good h2), h3]
  simp only [Bool.and_self, if_true]
  rw [if_pos h4]
/-- Contradictions answers yes where both are catalogues. -/
theorem con_snd (xs bs : List En) : (conG xs bs).2 = (catB xs && catB bs) := by
  unfold conG
  cases catB xs && catB bs <;> rfl
theorem bet_snd (xs bs : List En) : (betV xs bs).2 = (catB xs && catB bs) := by
  unfold betV
  cases catB xs && catB bs <;> rfl
theorem con_yes {xs bs : List En} {z : List Cu} (h : conG xs bs = (z, true)) : catB xs = true ∧ catB bs = true := by
  have h1 := con_snd xs bs
  rw [h] at h1
  simpa using h1.symm
theorem con_bet {xs bs : List En} {z : List Cu} {o i t : Bool} (h : conG xs bs = (z, o)) (k : betV xs bs = (i, t)) : t = o := by
  have h1 := con_snd xs bs
  have h2 := bet_snd xs bs
  rw [h] at h1
  rw [k] at h2
  simp only at h1 h2
  rw [h1, h2]
theorem merge_con {xs bs z : List En} {y : List Cu} {o : Bool} (h : mergeG xs bs = (z, true)) (k : conG xs bs = (y, o)) : o = true ∧ y = [] := by
  obtain ⟨h1, h2, h3, h4⟩ := mergeG_yes h
  unfold conG at k
  rw [h1, h2, con_none (cat_good h1) (cat_good h2) h3] at k
  injection k with k1 k2
  exact ⟨k2.symm, k1.symm⟩
theorem con_back {xs bs : List En} {y y' : List Cu} {o : Bool} (h : conG xs bs = (y, true)) (k : conG bs xs = (y', o)) : o = true ∧ y' = y := by
  obtain ⟨h1, h2⟩ := con_yes h
  unfold conG at h k
  rw [h1, h2] at h k
  injection h with h3 h4
  injection k with k3 k4
  exact ⟨k4.symm, by rw [← k3, ← h3, con_comm (cat_good h1) (cat_good h2)]⟩
theorem bet_self {xs : List En} (h : catB xs = true) : betV xs xs = (true, true) :=
  betV_of h h (fun x hx => ⟨x, hx, sm.rfl' x, sayB_refl x⟩)
theorem merge_cat {xs bs z : List En} (h : mergeG xs bs = (z, true)) : catB z = true ∧ betV z xs = (true, true) ∧ betV z bs = (true, true) := by
  obtain ⟨h1, h2, h3, h4⟩ := mergeG_yes h
  obtain ⟨h5, h6⟩ := merge_better h1 h2 h3 h4
  refine ⟨h5, h6, (merge_better h2 h1 ?_ h4).2⟩
  rw [merge_comm (cat_good h2) (cat_good h1)]
  exact h3
theorem catB_one {y : En} (h : entE y = true) : catB [y] = true := by
  unfold catB
  have : okAt [y] 0 = true := by
    rw [okAtE]
    show (entE y && (0 == 0 || _)) = true
    rw [h]; rfl
  simp [this]
theorem tight_yes {xs z : List En} {y : En} (h : tightG xs y = (z, true)) : mergeG xs [y] = (z, true) ∧ entE y = true := by
  unfold tightG at h
  split at h
  · rename_i hc
    rw [Bool.and_eq_true] at hc
    refine ⟨?_, hc.2⟩
    unfold mergeG
    rw [hc.1, catB_one hc.2]
    exact h
  · cases h
/-- An entry made tighter: the result is better, and it has the entry's curve, within the entry's bounds. -/
theorem tight_law {xs z : List En} {y : En} (h : tightG xs y = (z, true)) : betV z xs = (true, true) ∧ ∃ u, findV z y.a y.b = (u, true) ∧ y.lo ≤ u.lo ∧ u.hi ≤ y.hi := by
  obtain ⟨h1, h2⟩ := tight_yes h
  obtain ⟨c1, b1, b2⟩ := merge_cat h1
  refine ⟨b1, ?_⟩
  obtain ⟨x1, x2, x3, x4⟩ := mergeG_yes h1
  obtain ⟨o1, m1⟩ := fold_mem [y] xs (cat_good x1) (fun v hv => by rw [List.mem_singleton.1 hv]; exact h2) (List.pairwise_singleton _ _) z x3
  have key : ∃ u ∈ z, sm u y ∧ y.lo ≤ u.lo ∧ u.hi ≤ y.hi := by
    by_cases hx : ∃ x ∈ xs, sm x y
    · obtain ⟨x, hx, hs⟩ := hx
      refine ⟨meetE x y, (m1 _).2 (.inr (.inl ⟨x, hx, y, by simp, hs, rfl⟩)), (meet_sm x y).trans hs, ?_, ?_⟩
      · show y.lo ≤ mostI x.lo y.lo
        unfold mostI; split <;> omega
      · show leastI x.hi y.hi ≤ y.hi
        unfold leastI; split <;> omega
    · exact ⟨y, (m1 _).2 (.inr (.inr ⟨by simp, fun x hx2 hs => hx ⟨x, hx2, hs⟩⟩)), sm.rfl' y, Int.le_refl _, Int.le_refl _⟩
  obtain ⟨u, hu, hs, hl, hh⟩ := key
  obtain ⟨f1, f2⟩ := first_of (x := y) (cat_good c1) hu hs
  refine ⟨u, ?_, hl, hh⟩
  unfold findV
  rw [c1, decide_eq_true f1, f2]
  rfl
end
section
open Go Go.RowKit

def cutE (es : List En) (k : Nat) : List En := es.take k ++ es.drop (k + 1)
def dropG (es : List En) (a b : Int) : List En × Bool := if catB es && decide (firstN es a b < es.length) then (cutE es (firstN es a b), true) else ([], false)
theorem length_cutE {es : List En} {k : Nat} (hk : k < es.length) : (cutE es k).length + 1 = es.length := by
  unfold cutE
  rw [List.length_append, List.length_take, List.length_drop]
  omega
theorem dropG_len {es : List En} {a b : Int} (y : List En) (f : Bool) (h : dropG es a b = (y, f)) : y.length ≤ 12 := by
  unfold dropG at h
  split at h
  · rename_i hc
    obtain ⟨rfl, -⟩ := Prod.mk.inj h
    simp only [Bool.and_eq_true, decide_eq_true_eq] at hc
    have h1 := (catB_spec hc.1).1
    have h2 := length_cutE hc.2
    omega
  · obtain ⟨rfl, -⟩ := Prod.mk.inj h; simp
theorem dropG_bad {es : List En} {a b : Int} (h : catB es = false) : dropG es a b = ([], false) := by unfold dropG; rw [h]; rfl
theorem dropG_no {es : List En} {a b : Int} (h : ¬ firstN es a b < es.length) : dropG es a b = ([], false) := by unfold dropG; rw [decide_eq_false h, Bool.and_false]; rfl
theorem dropG_yes {es : List En} {a b : Int} (h : catB es = true) (h2 : firstN es a b < es.length) : dropG es a b = (cutE es (firstN es a b), true) := by unfold dropG; rw [h, decide_eq_true h2]; rfl

theorem step_append_runI {P : Program} {ops : Array Oper} {o : Oper} {a : Act} {w : World} {K : Act → World → Prop} {Q : Exit → Act → World → Prop} {E : Prop}
    (hg : o.guard = none) (d x : Operand) (dT sT : TypeId) (hop : o.op = Op.call { callee := Callee.builtin Builtin.append, args := #[d, x], argTypes := #[dT, sT] })
    (v u : Value) (hd : a.eval d = v) (hx : a.eval x = u) {v' : Value} {w' : World} (hr : (Builtin.append_ #[dT, sT] o.type #[v, u]).run P w = .ok v' w') (hK : K (a.put o.dst v') w') :
    if Region.wanted o (yielded ops a.tmps) = true then Oper.wp P o a w K Q else E := by
  have hw : Region.wanted o (yielded ops a.tmps) = true := by simp [Region.wanted, hg]
  rw [if_pos hw]
  unfold Oper.wp
  simp [execOp, hop, resolve, invoke, builtin, hd, hx, hr, Result.andThen]
  exact hK
theorem zeroE (w : World) : (zeroValue 29).run Tryz.prog w = .ok (.agg #[.int .i64 0, .int .i64 0, .int .i64 0, .int .i64 0, .int .i64 0]) w := by
  obtain ⟨i0, hi, hz0, hz1, hz2⟩ := info_parts infoEn2
  simp [zeroValue, typeInfo, hi, hz0]
theorem en_clear (w : World) {B g n cap i : Nat} {xs : List Value} (h : w.ownsRow B 29 5 (.slice (some ⟨g, 0, none⟩) n cap) n xs) (hi : i ≤ n) :
    ∃ l, ∀ ty c, (Builtin.clear_ #[23] ty #[.slice (some ⟨g, i * 5, none⟩) (n - i) c]).run Tryz.prog w = .ok (.tuple #[]) (w.setCells g (i * 5) l) :=
  ⟨_, fun ty c => run_clear_row (P := Tryz.prog) (z := .agg #[.int .i64 0, .int .i64 0, .int .i64 0, .int .i64 0, .int .i64 0]) Tryz.underlying23 zeroE
    (zeroCells_one (by
      intro j hj
      match j, hj with
      | 0, _ => rfl
      | 1, _ => rfl
      | 2, _ => rfl
      | 3, _ => rfl
      | 4, _ => rfl) (by decide) _)
    (by intro m; simp [Builtin.zeroCells, Value.cells]) h hi ty c⟩
theorem deleteEn_core (es : List En) (k B g cap : Nat) (w : World) (hown : w.ownsRow B 29 5 (.slice (some ⟨g, 0, none⟩) es.length cap) es.length (enS.flat es)) (hk : k < es.length) (a : Option Addr) (ha : a = some ⟨g, (k + 1) * 5, none⟩ ∨ k + 1 = es.length ∧ a = some ⟨g, 0, none⟩) (c : Nat) :
    ∃ w1, (Builtin.append_ #[23, 23] 23 #[.slice (some ⟨g, 0, none⟩) k cap, .slice a (es.length - (k + 1)) c]).run Tryz.prog w.drew = .ok (.slice (some ⟨g, 0, none⟩) (es.length - 1) cap) w1 ∧
      w1.ownsRow B 29 5 (.slice (some ⟨g, 0, none⟩) (es.length - 1) cap) (es.length - 1) (enS.flat (cutE es k)) ∧ w.drew.grownBy w1 (some g) := by
  obtain ⟨i0, hi, hz0, hz1, hz2⟩ := info_parts infoEn2
  have hcap := own_caps hown
  have hcut := own_cut hown.drew (Nat.le_of_lt hk)
  rw [show k * 5 = k * enS.size from rfl, flat_take] at hcut
  have hl : (enS.flat (es.drop (k + 1))).length = (es.length - (k + 1)) * 5 := by rw [Shape.length_flat, List.length_drop]; rfl
  have hsum : k + (es.length - (k + 1)) = es.length - 1 := by omega
  have hfl : enS.flat (cutE es k) = enS.flat (es.take k) ++ enS.flat (es.drop (k + 1)) := by unfold cutE; rw [Shape.flat_append]
  have htl : (enS.flat (es.take (k + 1))).length = (k + 1) * 5 := by rw [Shape.length_flat, List.length_take, Nat.min_eq_left (by omega)]; rfl
  rcases ha with rfl | ⟨h1, rfl⟩
  · have hsrc := own_add hown.drew (o := (k + 1) * 5) (cs := enS.flat (es.drop (k + 1))) (by
      intro j hj
      rw [flat_cut es (k + 1), List.getElem?_append_right (by omega), htl, show (k + 1) * 5 + j - (k + 1) * 5 = j by omega]) (by rw [hl, Nat.sub_mul]; omega)
    obtain ⟨w1, hr, ho, hg⟩ := run_append_fits (P := Tryz.prog) w.drew B 23 23 29 i0 5 Tryz.underlying23 hi hz1 g k cap _ hcut ⟨g, (k + 1) * 5, none⟩ (es.length - (k + 1)) c _ hl hsrc (en_one _) (by omega)
    rw [hsum] at hr ho
    rw [← hfl] at ho
    exact ⟨w1, hr, ho, hg⟩
  · have hnil : enS.flat (es.drop (k + 1)) = [] := List.eq_nil_of_length_eq_zero (by rw [hl, h1, Nat.sub_self, Nat.zero_mul])
    obtain ⟨w1, hr, ho, hg⟩ := run_append_fits (P := Tryz.prog) w.drew B 23 23 29 i0 5 Tryz.underlying23 hi hz1 g k cap _ hcut ⟨g, 0, none⟩ (es.length - (k + 1)) c (enS.flat (es.drop (k + 1))) hl (by rw [hnil]; intro j u hj; simp at hj) (en_one _) (by omega)
    rw [hsum] at hr ho
    rw [← hfl] at ho
    exact ⟨w1, hr, ho, hg⟩
set_option maxHeartbeats 4000000 in
set_option maxRecDepth 100000 in
theorem deleteEn_any (es : List En) (k B g cap : Nat) (w : World) (hown : w.ownsRow B 29 5 (.slice (some ⟨g, 0, none⟩) es.length cap) es.length (enS.flat es)) (hk : k < es.length) :
    Calls Tryz.prog 89 #[.slice (some ⟨g, 0, none⟩) es.length cap, .int .i64 k, .int .i64 ((k : Int) + 1)] w fun r w' => ∃ v', r = .returned v' ∧ w'.ownsRow B 29 5 v' (cutE es k).length (enS.flat (cutE es k)) ∧ w.grownBy w' (some g) := by
  have hcap := own_caps hown
  have Hln := Lib.hid (length_cutE hk)
  have hz2 : ¬ ((k : Int) = (k : Int) + 1) := by omega
  have hz3 : ((k : Int) == (k : Int) + 1) = false := beq_eq_false_iff_ne.2 (by omega)
  have hb0 : (0 : Int) ≤ (k : Int) := by omega
  have hb1 : (0 : Int) ≤ (k : Int) + 1 := by omega
  have hb2 : (k : Int) + 1 ≤ (es.length : Int) := by omega
  have hb3 : (k : Int) ≤ (es.length : Int) := by omega
  have hb4 : (k : Int) ≤ (cap : Int) := by omega
  have hb5 : (k : Int) + 1 ≤ (cap : Int) := by omega
  have hb6 : (es.length : Int) ≤ (cap : Int) := by omega
  have hb7 : k ≤ k + 1 := by omega
  have htn : ((k : Int) + 1).toNat = k + 1 := by omega
  have hn0 : ¬ (cap = es.length - 1) := by omega
  have hn1 : ((es.length - 1 : Nat) : Int) ≤ (es.length : Int) := by omega
  have hn2 : (0 : Int) ≤ ((es.length - 1 : Nat) : Int) := by omega
  have hn3 : es.length - (es.length - 1) = 1 := by omega
  by_cases hck : cap = k + 1
  · subst hck
    have hc1 : (k : Int) ≤ ((k + 1 : Nat) : Int) := by omega
    have hc2 : (k : Int) ≤ (k : Int) + 1 := by omega
    have hc3 : (es.length : Int) ≤ (k : Int) + 1 := by omega
    obtain ⟨w1, hr, ho, hg⟩ := deleteEn_core es k B g (k + 1) w hown hk (some ⟨g, 0, none⟩) (.inr ⟨by omega, rfl⟩) 0
    rw [show es.length - (k + 1) = 0 by omega] at hr
    have Ho := Lib.hid ho
    obtain ⟨zs, hzs, hom⟩ := own_more ho (show es.length - 1 + 1 ≤ _ by omega)
    rw [show es.length - 1 + 1 = es.length by omega] at hom
    obtain ⟨l, hcl⟩ := en_clear w1 hom (show es.length - 1 ≤ es.length by omega)
    have hlay := own_lay l w1 _ ((es.length - 1) * 5) hom
    have hct := own_cut hlay.1 (show es.length - 1 ≤ es.length by omega)
    rw [lay_take _ _ _ _ (Nat.le_refl _), List.take_append_of_le_length (by rw [ho.1]; exact Nat.le_refl _), List.take_of_length_le (by rw [ho.1]; exact Nat.le_refl _)] at hct
    have Hct := Lib.hid hct
    have Hg := Lib.hid (gthen2 (gthen2 (show w.grownBy w.drew (some g) from ⟨rfl, rfl, rfl, Nat.le_refl _, fun _ _ _ => rfl⟩) hg) hlay.2)
    have hcl2 : ∀ ty c, (Builtin.clear_ #[23] ty #[.slice (some ⟨g, (es.length - 1) * 5, none⟩) 1 c]).run Tryz.prog w1 = .ok (.tuple #[]) (w1.setCells g ((es.length - 1) * 5) l) := fun ty c => by have := hcl ty c; rwa [hn3] at this
    clear ho hom hlay hct hg hown hzs
    go_enter Tryz.func89, Tryz.ntmps89
    go_wp2
    go_region_law (refine step_append_runI rfl _ _ 23 23 rfl _ _ (by simp [Act.eval, Act.put]) (by simp [Act.eval, Act.put]) hr ?_)
    clear hr
    go_wp2
    go_ret
    exact ⟨_, rfl, by rw [show (cutE es k).length = es.length - 1 by have := Hln.out; omega]; exact Hct.out, Hg.out⟩
  · obtain ⟨w1, hr, ho, hg⟩ := deleteEn_core es k B g cap w hown hk (some ⟨g, (k + 1) * 5, none⟩) (.inl rfl) (cap - (k + 1))
    have Ho := Lib.hid ho
    obtain ⟨zs, hzs, hom⟩ := own_more ho (show es.length - 1 + 1 ≤ _ by omega)
    rw [show es.length - 1 + 1 = es.length by omega] at hom
    obtain ⟨l, hcl⟩ := en_clear w1 hom (show es.length - 1 ≤ es.length by omega)
    have hlay := own_lay l w1 _ ((es.length - 1) * 5) hom
    have hct := own_cut hlay.1 (show es.length - 1 ≤ es.length by omega)
    rw [lay_take _ _ _ _ (Nat.le_refl _), List.take_append_of_le_length (by rw [ho.1]; exact Nat.le_refl _), List.take_of_length_le (by rw [ho.1]; exact Nat.le_refl _)] at hct
    have Hct := Lib.hid hct
    have Hg := Lib.hid (gthen2 (gthen2 (show w.grownBy w.drew (some g) from ⟨rfl, rfl, rfl, Nat.le_refl _, fun _ _ _ => rfl⟩) hg) hlay.2)
    have hcl2 : ∀ ty c, (Builtin.clear_ #[23] ty #[.slice (some ⟨g, (es.length - 1) * 5, none⟩) 1 c]).run Tryz.prog w1 = .ok (.tuple #[]) (w1.setCells g ((es.length - 1) * 5) l) := fun ty c => by have := hcl ty c; rwa [hn3] at this
    clear ho hom hlay hct hg hown hzs
    go_enter Tryz.func89, Tryz.ntmps89
    go_wp2
    go_region_law (refine step_append_runI rfl _ _ 23 23 rfl _ _ (by simp [Act.eval, Act.put]) (by simp [Act.eval, Act.put]) hr ?_)
    clear hr
    go_wp2
    go_ret
    exact ⟨_, rfl, by rw [show (cutE es k).length = es.length - 1 by have := Hln.out; omega]; exact Hct.out, Hg.out⟩
end
section
open Go Go.RowKit

theorem cut_end {w : World} {B : Nat} {v : Value} {es : List En} {p : Nat} (hp : p < es.length) (h : w.ownsRow B 29 5 v (0 + p + (es.length - (p + 1))) ([] ++ enS.flat (es.take p) ++ enS.flat (es.drop (p + 1)))) :
    w.ownsRow B 29 5 v (cutE es p).length (enS.flat (cutE es p)) := by
  have e1 : (cutE es p).length = 0 + p + (es.length - (p + 1)) := by have := length_cutE hp; omega
  have e2 : enS.flat (cutE es p) = [] ++ enS.flat (es.take p) ++ enS.flat (es.drop (p + 1)) := by unfold cutE; rw [Shape.flat_append]; rfl
  rw [e1, e2]; exact h

set_option maxRecDepth 8000 in
set_option maxHeartbeats 4000000 in
theorem specDrop_any (v : Value) (es : List En) (a b : Int) (w : World) (h : Rd enS w w.heap.size v es) :
    Calls Tryz.prog 11 #[v, .agg #[.int .i64 a, .int .i64 b]] w fun r w' => (∃ (v' : Value) (z : List En) (k : Bool), r = .returned (.tuple #[v', .bool k]) ∧ dropG es a b = (z, k) ∧ w'.ownsRow w.heap.size 29 5 v' z.length (enS.flat z)) ∧ Below w.heap.size w w' := by
  obtain ⟨i0, hi, hz0, hz1, hz2⟩ := info_parts infoEn2
  have Hr := Lib.hid h
  obtain ⟨A, c, rfl, hcc, hm, hA⟩ := h
  unfold maxLen at hm
  have hbox : Blk (w.alloc (.cells #[.int .i64 a, .int .i64 b] 25)) w.heap.size 25 #[.int .i64 a, .int .i64 b] := Blk.new w _ _
  have hbA : Below w.heap.size w (w.alloc (.cells #[.int .i64 a, .int .i64 b] 25)) := bal (Below.refl _ _) _
  cases hcat : catB es
  · have Hfin := Lib.hid (dropG_bad (a := a) (b := b) hcat)
    go_enter Tryz.func11, Tryz.ntmps11
    go_wp2
    refine wp_region_tame (by kernel_rfl) (by kernel_rfl) (fun T _ W hT => ?_)
    have hx := hT.cell
    repeat (go_big_quiet_step ((go_at_call 85; exact hT.call (caGood_any _ es _ (Hr.out.on (bthen hbA (hT.below _)))))))
    refine wpQuiet_nil ?_
    intro t
    clear hx
    have hbz := bthen hbA (hT.below t)
    clear hbA hbox hT
    go_wp2
    go_ret2
    exact ⟨⟨_, [], false, rfl, Hfin.out, by simp [Shape.flat], Or.inl ⟨rfl, rfl⟩⟩, hbz⟩
  · have hv := (catB_spec hcat).2
    have hl12 := (catB_spec hcat).1
    have Hv := Lib.hid hv; clear hv
    have q0 := hbox.cell 0
    have q1 := hbox.cell 1
    cases hcu : curveB a b
    · have hno : ¬ firstN es a b < es.length := fun h => by rw [first_valid Hv.out h] at hcu; cases hcu
      have Hfin := Lib.hid (dropG_no hno)
      clear hno
      go_enter Tryz.func11, Tryz.ntmps11
      go_wp2
      refine wp_region_tame (by kernel_rfl) (by kernel_rfl) (fun T _ W hT => ?_)
      have hx := hT.cell
      repeat (go_big_quiet_step (first | (go_at_call 85; exact hT.call (caGood_any _ es _ (Hr.out.on (bthen hbA (hT.below _))))) | (go_at_call 86; exact hT.call (ecGood_any _ _ _)) | (go_at_call 88; exact hT.call (caPlace_any _ es _ _ _ (Hr.out.on (bthen hbA (hT.below _)))  Hv.out (by assumption))) | (go_at_call 87; exact hT.call (caAt_any _ es _ _ _ _ (Hr.out.on (bthen hbA (hT.below _)))))))
      refine wpQuiet_nil ?_
      intro t
      clear hx
      have hbz := bthen hbA (hT.below t)
      clear hbA hbox hT
      go_wp2
      go_ret2
      exact ⟨⟨_, [], false, rfl, Hfin.out, by simp [Shape.flat], Or.inl ⟨rfl, rfl⟩⟩, hbz⟩
    · cases hat : atB es (placeN es a b) a b
      · have hno : ¬ firstN es a b < es.length := by rw [place_first Hv.out, hat]; simp
        have Hfin := Lib.hid (dropG_no hno)
        clear hno
        go_enter Tryz.func11, Tryz.ntmps11
        go_wp2
        refine wp_region_tame (by kernel_rfl) (by kernel_rfl) (fun T _ W hT => ?_)
        have hx := hT.cell
        repeat (go_big_quiet_step (first | (go_at_call 85; exact hT.call (caGood_any _ es _ (Hr.out.on (bthen hbA (hT.below _))))) | (go_at_call 86; exact hT.call (ecGood_any _ _ _)) | (go_at_call 88; exact hT.call (caPlace_any _ es _ _ _ (Hr.out.on (bthen hbA (hT.below _)))  Hv.out hcu)) | (go_at_call 87; exact hT.call (caAt_any _ es _ _ _ _ (Hr.out.on (bthen hbA (hT.below _)))))))
        refine wpQuiet_nil ?_
        intro t
        clear hx
        have hbz := bthen hbA (hT.below t)
        clear hbA hbox hT
        go_wp2
        go_ret2
        exact ⟨⟨_, [], false, rfl, Hfin.out, by simp [Shape.flat], Or.inl ⟨rfl, rfl⟩⟩, hbz⟩
      · have hfp : firstN es a b = placeN es a b := by rw [place_first Hv.out, hat]; rfl
        have hlt : placeN es a b < es.length := (atB_spec hat).1
        have hfin := dropG_yes hcat (by rw [hfp]; exact hlt)
        rw [hfp] at hfin
        have Hfin := Lib.hid hfin; clear hfin hfp
        obtain ⟨g, off, rfl, hg, -⟩ := hA (by omega)
        clear hA
        obtain ⟨p, hp⟩ : ∃ p, placeN es a b = p := ⟨_, rfl⟩
        rw [hp] at hlt Hfin
        have hat' := hat
        rw [hp] at hat'
        clear hat
        have Hp := Lib.hid hp; clear hp
        have hpl : ∀ (w' : World), Below w.heap.size w w' → Calls Tryz.prog 88 #[.slice (some ⟨g, off, none⟩) es.length c, .agg #[.int .i64 a, .int .i64 b]] w' fun r w'' => r = .returned (.int .i64 p) ∧ Below w'.heap.size w' w'' := fun w' hb' => by
          have := caPlace_any _ es a b w' (Hr.out.on hb') Hv.out hcu
          rw [Hp.out] at this
          exact this
        have Hpl := Lib.hid hpl; clear hpl
        go_enter Tryz.func11, Tryz.ntmps11
        go_wp2
        refine wp_region_tame (by kernel_rfl) (by kernel_rfl) (fun T _ W hT => ?_)
        have hx := hT.cell
        repeat (go_big_quiet_step (first | (go_at_call 85; exact hT.call (caGood_any _ es _ (Hr.out.on (bthen hbA (hT.below _))))) | (go_at_call 86; exact hT.call (ecGood_any _ _ _)) | (go_at_call 88; exact hT.call (Hpl.out _ (bthen hbA (hT.below _)))) | (go_at_call 87; exact hT.call (caAt_any _ es _ _ _ _ (Hr.out.on (bthen hbA (hT.below _)))))))
        refine wpQuiet_nil ?_
        intro t
        clear hx
        have hbz := bthen hbA (hT.below t)
        replace hbox := hbox.on (hT.below t)
        have q0 : (W t).cell? ⟨w.heap.size, 0, none⟩ = some (.int .i64 a) := hbox.cell 0
        have q1 : (W t).cell? ⟨w.heap.size, 1, none⟩ = some (.int .i64 b) := hbox.cell 1
        clear hbA
        have t1 : (0 : Int) ≤ (p : Int) := by omega
        have t2 : (p : Int) ≤ (c : Int) := by omega
        have t3 : (p : Int) ≤ (es.length : Int) := by omega
        have t4 : (0 : Int) ≤ (p : Int) + 1 := by omega
        have t5 : (p : Int) + 1 ≤ (c : Int) := by omega
        have t6 : (p : Int) + 1 ≤ (es.length : Int) := by omega
        go_wp2_with fail
        refine (Hpl.out _ hbz).mono ?_; rintro e w1 ⟨rfl, hb1⟩
        go_wp2
        by_cases hck : c = p + 1
        · skip
          have t7 : (p : Int) ≤ (p : Int) + 1 := by omega
          have t8 : (p : Int) ≤ ((p + 1 : Nat) : Int) := by omega
          have hbox1 := hbox.on hb1
          have hbt := bthen hbz hb1
          clear hb1 hbz hbox hbox1 q0 q1
          generalize w1 = wt at hbt ⊢
          have HRt := Lib.hid (Hr.out.on hbt)
          have Hl1 : Hid ((enS.flat (es.take p)).length = p * 5) := Lib.hid (by rw [Shape.length_flat, List.length_take, Nat.min_eq_left (by omega)]; rfl)
          have Hl3 : Hid ((enS.flat (es.drop (p + 1))).length = (es.length - (p + 1)) * 5) := Lib.hid (by rw [Shape.length_flat, List.length_drop]; rfl)
          have Hs1 := Lib.hid (en_src HRt.out p)
          have hd0 : es.drop (p + 1) = [] := List.drop_eq_nil_of_le (by omega)
          have Hd0 := Lib.hid hd0; clear hd0
          have Hm1 : Hid (0 + p ≤ maxLen) := Lib.hid (by unfold maxLen; omega)
          have Hy1 : Hid ((0 + p) * 40 ≤ 140737488355328) := Lib.hid (by omega)
          have Hm3 : Hid (0 + p + (es.length - (p + 1)) ≤ maxLen) := Lib.hid (by unfold maxLen; omega)
          have Hy3 : Hid ((0 + p + (es.length - (p + 1))) * 40 ≤ 140737488355328) := Lib.hid (by omega)
          have hw1 : IntKind.i64.wrap ((p : Int) + 1) = (p : Int) + 1 := by rw [IntKind.wrap_i64]; omega
          have htn : ((p : Int) + 1).toNat = p + 1 := by omega
          go_region_held3 (fun w' => Below wt.heap.size wt w') ((repeat (first | (with_reducible assumption) | (with_reducible exact Below.refl _ _) | (with_reducible refine Below.drew ?_) | (with_reducible refine bal ?_ _)))) ((first | (refine step_append_src (by rfl) _ _ 23 (by rfl) 29 i0 (.agg #[.int .i64 0, .int .i64 0, .int .i64 0, .int .i64 0, .int .i64 0]) 5 40 Tryz.underlying23 hi hz0 hz1 hz2 rfl (by decide) wt (by (try go_split_ands); with_reducible assumption) _ 0 [] (by rfl) (by first | exact own_empty (by simp) | exact own_empty1 (by simp) | exact (own_empty (by simp)).alloc _) (some ⟨g, off, none⟩) p _ (enS.flat (es.take p)) (by rfl) Hl1.out (by intro h; cases h) (src_below (by (try go_split_ands); with_reducible assumption) Hs1.out) (en_one _) Hm1.out Hy1.out ?_; intro v1 w1 ho1 hbA1 hk1) | (refine step_append_src (by rfl) _ _ 23 (by rfl) 29 i0 (.agg #[.int .i64 0, .int .i64 0, .int .i64 0, .int .i64 0, .int .i64 0]) 5 40 Tryz.underlying23 hi hz0 hz1 hz2 rfl (by decide) wt (by (try go_split_ands); with_reducible assumption) v1 (0 + p) ([] ++ enS.flat (es.take p)) (by rfl) (by with_reducible exact ho1) (_) (es.length - (p + 1)) _ (enS.flat (es.drop (p + 1))) (by rfl) Hl3.out (by intro h; first | cases h | omega) (fun a _ j u hj => by rw [Hd0.out] at hj; simp [Shape.flat] at hj) (en_one _) Hm3.out Hy3.out ?_; intro v3 w3 ho3 hbA3 hk3)))
          all_goals
            go_wp2
            go_ret2
            exact ⟨⟨_, cutE es p, true, rfl, Hfin.out, cut_end hlt (own_mono ho3 hbt.size)⟩, bthen hbt hbA3⟩
        · skip
          have hbox1 := hbox.on hb1
          have hbt := bthen hbz hb1
          clear hb1 hbz hbox hbox1 q0 q1
          generalize w1 = wt at hbt ⊢
          have HRt := Lib.hid (Hr.out.on hbt)
          have Hl1 : Hid ((enS.flat (es.take p)).length = p * 5) := Lib.hid (by rw [Shape.length_flat, List.length_take, Nat.min_eq_left (by omega)]; rfl)
          have Hl3 : Hid ((enS.flat (es.drop (p + 1))).length = (es.length - (p + 1)) * 5) := Lib.hid (by rw [Shape.length_flat, List.length_drop]; rfl)
          have Hs1 := Lib.hid (en_src HRt.out p)
          have Hs3 := Lib.hid (en_src2 HRt.out (p + 1) hlt)
          have Hm1 : Hid (0 + p ≤ maxLen) := Lib.hid (by unfold maxLen; omega)
          have Hy1 : Hid ((0 + p) * 40 ≤ 140737488355328) := Lib.hid (by omega)
          have Hm3 : Hid (0 + p + (es.length - (p + 1)) ≤ maxLen) := Lib.hid (by unfold maxLen; omega)
          have Hy3 : Hid ((0 + p + (es.length - (p + 1))) * 40 ≤ 140737488355328) := Lib.hid (by omega)
          have hw1 : IntKind.i64.wrap ((p : Int) + 1) = (p : Int) + 1 := by rw [IntKind.wrap_i64]; omega
          have htn : ((p : Int) + 1).toNat = p + 1 := by omega
          go_region_held3 (fun w' => Below wt.heap.size wt w') ((repeat (first | (with_reducible assumption) | (with_reducible exact Below.refl _ _) | (with_reducible refine Below.drew ?_) | (with_reducible refine bal ?_ _)))) ((first | (refine step_append_src (by rfl) _ _ 23 (by rfl) 29 i0 (.agg #[.int .i64 0, .int .i64 0, .int .i64 0, .int .i64 0, .int .i64 0]) 5 40 Tryz.underlying23 hi hz0 hz1 hz2 rfl (by decide) wt (by (try go_split_ands); with_reducible assumption) _ 0 [] (by rfl) (by first | exact own_empty (by simp) | exact own_empty1 (by simp) | exact (own_empty (by simp)).alloc _) (some ⟨g, off, none⟩) p _ (enS.flat (es.take p)) (by rfl) Hl1.out (by intro h; cases h) (src_below (by (try go_split_ands); with_reducible assumption) Hs1.out) (en_one _) Hm1.out Hy1.out ?_; intro v1 w1 ho1 hbA1 hk1) | (refine step_append_src (by rfl) _ _ 23 (by rfl) 29 i0 (.agg #[.int .i64 0, .int .i64 0, .int .i64 0, .int .i64 0, .int .i64 0]) 5 40 Tryz.underlying23 hi hz0 hz1 hz2 rfl (by decide) wt (by (try go_split_ands); with_reducible assumption) v1 (0 + p) ([] ++ enS.flat (es.take p)) (by rfl) (by with_reducible exact ho1) (some ⟨g, off + (p + 1) * 5, none⟩) (es.length - (p + 1)) _ (enS.flat (es.drop (p + 1))) (by rfl) Hl3.out (by intro h; first | cases h | omega) (src_below (by (try go_split_ands); with_reducible assumption) Hs3.out) (en_one _) Hm3.out Hy3.out ?_; intro v3 w3 ho3 hbA3 hk3)))
          all_goals
            go_wp2
            go_ret2
            exact ⟨⟨_, cutE es p, true, rfl, Hfin.out, cut_end hlt (own_mono ho3 hbt.size)⟩, bthen hbt hbA3⟩

set_option maxRecDepth 8000 in
set_option maxHeartbeats 1600000 in
theorem implDrop_any (v : Value) (es : List En) (a b : Int) (w : World) (h : Rd enS w w.heap.size v es) :
    Calls Tryz.prog 10 #[v, .agg #[.int .i64 a, .int .i64 b]] w fun r w' => (∃ (v' : Value) (z : List En) (k : Bool), r = .returned (.tuple #[v', .bool k]) ∧ dropG es a b = (z, k) ∧ w'.ownsRow w.heap.size 29 5 v' z.length (enS.flat z)) ∧ Below w.heap.size w w' := by
  have Hr := Lib.hid h
  obtain ⟨A, c, rfl, hcc, hm, hA⟩ := h
  have hbA : Below w.heap.size w (w.alloc (.cells #[.int .i64 a, .int .i64 b] 25)) := bal (Below.refl _ _) _
  clear hA
  go_enter Tryz.func10, Tryz.ntmps10
  go_wp2_with fail
  refine (entryAt_any _ es a b _ (Hr.out.on hbA)).mono ?_
  rintro e w1 ⟨⟨q, k, rfl, hk, hq⟩, hb1⟩
  have hbz := bthen hbA hb1
  clear hbA hb1
  cases k
  · have hfin : dropG es a b = ([], false) := by unfold dropG; rw [← hk]; rfl
    have Hfin := Lib.hid hfin; clear hfin hk hq
    go_wp2
    go_ret2
    exact ⟨⟨_, [], false, rfl, Hfin.out, by simp [Shape.flat], Or.inl ⟨rfl, rfl⟩⟩, hbz⟩
  · have hk' := hk.symm
    simp only [Bool.and_eq_true, decide_eq_true_eq] at hk'
    obtain ⟨hcat, hlt⟩ := hk'
    obtain rfl := hq hlt
    have hl12 := (catB_spec hcat).1
    have hfin := dropG_yes hcat hlt
    clear hk hq
    obtain ⟨p, hp⟩ : ∃ p, firstN es a b = p := ⟨_, rfl⟩
    rw [hp] at hlt hfin ⊢
    clear hp
    have Hfin := Lib.hid hfin; clear hfin
    go_wp2_with fail
    refine (cloneEn_any _ es _ (Hr.out.on hbz) (by omega)).mono ?_
    rintro e w2 ⟨v2, rfl, ho2, hb2⟩
    have Ho2 := Lib.hid ho2
    obtain ⟨g, cap, rfl⟩ : ∃ g cap, v2 = .slice (some ⟨g, 0, none⟩) es.length cap := by
      rcases ho2.2 with ⟨-, h0⟩ | ⟨g, cap, cur, h1, -⟩
      · omega
      · exact ⟨g, cap, h1⟩
    clear ho2
    go_wp2_with fail
    refine (deleteEn_any es p w1.heap.size g cap _ Ho2.out hlt).mono ?_
    rintro e w3 ⟨v3, rfl, ho3, hg3⟩
    have Ho3 := Lib.hid ho3; clear ho3
    have hb3 : Below w1.heap.size w1 w3 := Below.grown hb2 hg3 hb2.size (fun j hj => by cases hj; exact (own_base Ho2.out).1)
    clear hg3
    go_wp2
    go_ret2
    exact ⟨⟨_, cutE es p, true, rfl, Hfin.out, own_mono Ho3.out hbz.size⟩, bthen hbz hb3⟩
end
section
open Go Go.RowKit

end
section
open Go Go.RowKit

def rkStep (l : List Int) (x : En) : List Int := if x.lo = x.hi then l.set x.lo.toNat (l.getD x.lo.toNat 0 + 1) else l
def rkN (es : List En) : Nat → List Int
  | 0 => List.replicate 21 0
  | k + 1 => rkStep (rkN es k) (enS.get es k)
def ranksV (es : List En) : List Int × Bool := if catB es then (rkN es es.length, true) else ([], false)
theorem flat_int : ∀ l : List Int, inS.flat l = l.map (fun x => Value.int .i64 x)
  | [] => rfl
  | x :: l => by
    have := flat_int l
    unfold Shape.flat at *
    rw [List.flatMap_cons, this]
    rfl
theorem rk_len (es : List En) : ∀ k, (rkN es k).length = 21
  | 0 => by simp [rkN]
  | k + 1 => by
    have := rk_len es k
    unfold rkN rkStep
    split
    · rw [List.length_set]; exact this
    · exact this
theorem rk_bd (es : List En) : ∀ k i, 0 ≤ (rkN es k).getD i 0 ∧ (rkN es k).getD i 0 ≤ (k : Int)
  | 0, i => by
    unfold rkN
    rw [List.getD_eq_getElem?_getD, List.getElem?_replicate]
    split <;> simp
  | k + 1, i => by
    have h0 := rk_bd es k i
    have h1 := rk_bd es k (enS.get es k).lo.toNat
    have hc : ((k + 1 : Nat) : Int) = (k : Int) + 1 := by omega
    unfold rkN rkStep
    split
    · rw [List.getD_eq_getElem?_getD, List.getElem?_set]
      split
      · split
        · simp only [Option.getD_some]; omega
        · simp; omega
      · rw [← List.getD_eq_getElem?_getD]; omega
    · omega
theorem ranksV_bad {es : List En} (h : catB es = false) : ranksV es = ([], false) := by unfold ranksV; rw [h]; rfl
theorem ranksV_ok {es : List En} (h : catB es = true) : ranksV es = (rkN es es.length, true) := by unfold ranksV; rw [h]; rfl
theorem ranksV_len {es : List En} (y : List Int) (b : Bool) (h : ranksV es = (y, b)) : y.length ≤ 21 := by
  unfold ranksV at h
  split at h
  · obtain ⟨rfl, -⟩ := Prod.mk.inj h; rw [rk_len]; exact Nat.le_refl _
  · obtain ⟨rfl, -⟩ := Prod.mk.inj h; simp
theorem infoInt2 : (Tryz.prog.info? 3).map (fun i => (i.zero, i.size, i.bytes)) = some (some (.int .i64 0), 1, 8) := by kernel_rfl
theorem rk_zero : (madeCells #[.int .i64 0] (21 * 1)).toList = (List.replicate 21 (0 : Int)).map (fun x => Value.int .i64 x) := by
  simp [madeCells, List.range, List.range.loop, Nat.mod_one]
theorem rk_mk (W : World) : (Instr.makeSlice 34 (.int .i64 21) (.int .i64 21)).run Tryz.prog W = .ok (.slice (some ⟨W.heap.size, 0, none⟩) 21 21) (W.alloc (.cells (madeCells #[.int .i64 0] (21 * 1)) 3)) := by
  obtain ⟨i0, hi, hz0, hz1, hz2⟩ := info_parts infoInt2
  have := run_make (P := Tryz.prog) W 34 3 i0 _ Tryz.underlying34 hi hz0 .i64 .i64 21 21 (by omega) (Int.le_refl _) (by rw [hz2]; omega) (by omega)
  rw [hz1] at this
  exact this
theorem rk_made (W : World) (b : Nat) (hb : b ≤ W.heap.size) : (W.alloc (.cells (madeCells #[.int .i64 0] (21 * 1)) 3)).ownsRow b 3 1 (.slice (some ⟨W.heap.size, 0, none⟩) 21 21) 21 ((List.replicate 21 (0 : Int)).map (fun x => Value.int .i64 x)) := by
  rw [← rk_zero]
  exact World.ownsRow_lit (base := b) W _ 21 hb (by unfold maxLen; omega) (size_madeCells _ _)
theorem rk_at (es : List En) (k m : Nat) (hm : m < 21) : ((rkN es k).map (fun x => Value.int .i64 x))[m]? = some (.int .i64 ((rkN es k).getD m 0)) := by
  have h := rk_len es k
  rw [List.getElem?_map, List.getD_eq_getElem?_getD, List.getElem?_eq_getElem (by omega)]
  rfl
theorem rk_next (es : List En) (k m : Nat) (h1 : (enS.get es k).lo = m) (h2 : (enS.get es k).hi = m) : ((rkN es k).map (fun x => Value.int .i64 x)).set m (.int .i64 ((rkN es k).getD m 0 + 1)) = (rkN es (k + 1)).map (fun x => Value.int .i64 x) := by
  show _ = (rkStep (rkN es k) (enS.get es k)).map _
  unfold rkStep
  rw [if_pos (h1.trans h2.symm), h1, Int.toNat_natCast, List.map_set]
theorem rk_skip (es : List En) (k : Nat) (h1 : ¬ (enS.get es k).lo = (enS.get es k).hi) : rkN es (k + 1) = rkN es k := by
  show rkStep (rkN es k) (enS.get es k) = _
  unfold rkStep
  rw [if_neg h1]

set_option maxHeartbeats 4000000 in
theorem implRanks_any (v : Value) (es : List En) (w : World) (h : Rd enS w w.heap.size v es) :
    Calls Tryz.prog 12 #[v] w fun r w' => (∃ (v' : Value) (y : List Int) (b : Bool), r = .returned (.tuple #[v', .bool b]) ∧ ranksV es = (y, b) ∧ w'.ownsRow w.heap.size 3 1 v' y.length (inS.flat y)) ∧ Below w.heap.size w w' := by
  have hr := h
  obtain ⟨A, c, rfl, hcc, hm, hA⟩ := h
  unfold maxLen at hm
  have Hr := Lib.hid hr; clear hr
  have hmk := rk_mk
  have hmade := rk_made
  generalize madeCells #[.int .i64 0] (21 * 1) = Z at hmk hmade
  have Hmade := Lib.hid hmade; clear hmade
  cases hcat : catB es
  · go_enter Tryz.func12, Tryz.ntmps12
    go_wp2_with fail
    refine (isCatalogue_any _ es _ Hr.out).mono ?_; rintro e w1 ⟨rfl, hb1⟩
    rw [hcat]
    go_wp2
    go_ret2
    exact ⟨⟨_, [], false, rfl, ranksV_bad hcat, by simp [Shape.flat], Or.inl ⟨rfl, rfl⟩⟩, hb1⟩
  · have Hfin := Lib.hid (ranksV_ok hcat)
    have Hlen := Lib.hid (catB_spec hcat).1
    have Hval := Lib.hid (catB_spec hcat).2
    rcases Nat.eq_zero_or_pos es.length with h0 | h0
    · obtain rfl : es = [] := List.eq_nil_of_length_eq_zero h0
      clear hA h0
      go_enter Tryz.func12, Tryz.ntmps12
      go_wp2_with fail
      refine (isCatalogue_any _ [] _ Hr.out).mono ?_; rintro e w1 ⟨rfl, hb1⟩
      rw [hcat]
      have Hm := Lib.hid (Hmade.out w1 w.heap.size hb1.size)
      go_wp2
      refine wp_loop_rounds 1 ?_
      rw [rounds_succ]
      go_wp2
      go_ret2
      exact ⟨⟨_, _, _, rfl, Hfin.out, by rw [rk_len, flat_int]; exact Hm.out⟩, bal hb1 _⟩
    · obtain ⟨g, off, rfl, hg, hcell⟩ := hA h0
      clear hA
      have hcell := en_cells hcell
      go_enter Tryz.func12, Tryz.ntmps12
      go_wp2_with fail
      refine (isCatalogue_any _ es _ Hr.out).mono ?_; rintro e w1 ⟨rfl, hb1⟩
      rw [hcat]
      have Hm := Lib.hid (Hmade.out w1 w.heap.size hb1.size)
      go_wp2
      clear hmk
      go_loopw [13] (fun i wr => ∃ k : Nat, k ≤ es.length ∧ i = .int .i64 k ∧ Below w.heap.size w wr ∧ wr.ownsRow w.heap.size 3 1 (.slice (some ⟨w1.heap.size, 0, none⟩) 21 21) 21 ((rkN es k).map (fun x => Value.int .i64 x))) (fun i _ => es.length - (intOf i).toNat)
      case atStart => exact ⟨0, Nat.zero_le _, rfl, bal hb1 _, Hm.out⟩
      case round =>
        obtain ⟨k, hk, rfl, hbw, hown⟩ := hrel
        have hgo := (World.ownsRow.lt hown _ rfl).2
        have hz1 := hb1.size
        by_cases hlt : k < es.length
        · obtain ⟨f0, f1, f2, f3, f4⟩ := hcell k hlt
          rw [← hbw.cell (p := ⟨_, _, _⟩) hg] at f0 f1 f2 f3 f4
          have hbd := entB_bd (okAt_ent (Hval.out k hlt))
          have Hown := Lib.hid hown
          have hgr : g < wr.heap.size := Nat.lt_of_lt_of_le hg hbw.size
          have hi0 : (0 : Int) ≤ (k : Int) := by omega
          have hi1 : (k : Int) < (es.length : Int) := by omega
          clear hcell
          by_cases hd : (enS.get es k).lo = (enS.get es k).hi
          · obtain ⟨m, hm1⟩ : ∃ m : Nat, (enS.get es k).lo = m := ⟨(enS.get es k).lo.toNat, by omega⟩
            have hm2 : (enS.get es k).hi = m := by omega
            have hm3 : m < 21 := by omega
            have Hnx := Lib.hid (rk_next es k m hm1 hm2)
            have hu := hown.cellAt m (by omega)
            rw [rk_at es k m hm3] at hu
            have hub := rk_bd es k m
            have hl12 := Hlen.out
            rw [hm1] at f2
            rw [hm2] at f3
            have hfr := hown.frozenAt m
            generalize (rkN es k).getD m 0 = u at hu hub Hnx
            clear hown hd hbd hm1 hm2
            generalize enS.get es k = x at f0 f1 f2 f3 f4
            have hj0 : (0 : Int) ≤ (m : Int) := by omega
            have hj1 : (m : Int) < 21 := by omega
            have hwu : IntKind.i64.wrap (u + 1) = u + 1 := by first | exact RowKit.wrap64_of_bounds (by omega) (by omega) | (simp [IntKind.wrap, IntKind.bits, IntKind.signed]; omega) | (unfold IntKind.wrap; simp; omega)
            go_wp2
            go_roundw
            case rel =>
              refine ⟨k + 1, by omega, by go_num, by (repeat (with_reducible first | exact Below.refl _ _ | assumption | refine bal ?_ _ | refine bst ?_ (by simp <;> omega) _ | refine Below.drew ?_ | refine bthen ?_ (by assumption))), ?_⟩
              have h1 := (Hown.out.stored m (.int .i64 (u + 1))).1
              rw [Hnx.out] at h1
              have h2 := h1.alloc (Obj.cells #[.int .i64 x.a, .int .i64 x.b, .int .i64 (m : Int), .int .i64 (m : Int), .int .i64 x.to] 29)
              simpa [hwu] using h2
            case measure => simp [intOf]; omega
          · have Hsk := Lib.hid (rk_skip es k hd)
            clear hown
            generalize enS.get es k = x at f0 f1 f2 f3 f4 hd hbd
            go_wp2
            go_roundw
            case rel =>
              refine ⟨k + 1, by omega, by go_num, by (repeat (with_reducible first | exact Below.refl _ _ | assumption | refine bal ?_ _ | refine bst ?_ (by simp <;> omega) _ | refine Below.drew ?_ | refine bthen ?_ (by assumption))), ?_⟩
              rw [Hsk.out]
              exact Hown.out.alloc _
            case measure => simp [intOf]; omega
        · have hd : decide (k < es.length) = false := decide_eq_false hlt
          obtain rfl : k = es.length := by omega
          have Hown := Lib.hid hown
          clear hcell hown
          go_wp2
          go_ret2
          exact ⟨⟨_, _, .inr ⟨rfl, Hfin.out, by rw [rk_len, flat_int]; exact Hown.out⟩⟩, hbw⟩
set_option maxHeartbeats 4000000 in
theorem specRanks_any (v : Value) (es : List En) (w : World) (h : Rd enS w w.heap.size v es) :
    Calls Tryz.prog 13 #[v] w fun r w' => (∃ (v' : Value) (y : List Int) (b : Bool), r = .returned (.tuple #[v', .bool b]) ∧ ranksV es = (y, b) ∧ w'.ownsRow w.heap.size 3 1 v' y.length (inS.flat y)) ∧ Below w.heap.size w w' := by
  have hr := h
  obtain ⟨A, c, rfl, hcc, hm, hA⟩ := h
  unfold maxLen at hm
  have Hr := Lib.hid hr; clear hr
  have hmk := rk_mk
  have hmade := rk_made
  generalize madeCells #[.int .i64 0] (21 * 1) = Z at hmk hmade
  have Hmade := Lib.hid hmade; clear hmade
  cases hcat : catB es
  · go_enter Tryz.func13, Tryz.ntmps13
    go_wp2_with fail
    refine (caGood_any _ es _ Hr.out).mono ?_; rintro e w1 ⟨rfl, hb1⟩
    rw [hcat]
    go_wp2
    go_ret2
    exact ⟨⟨_, [], false, rfl, ranksV_bad hcat, by simp [Shape.flat], Or.inl ⟨rfl, rfl⟩⟩, hb1⟩
  · have Hfin := Lib.hid (ranksV_ok hcat)
    have Hlen := Lib.hid (catB_spec hcat).1
    have Hval := Lib.hid (catB_spec hcat).2
    rcases Nat.eq_zero_or_pos es.length with h0 | h0
    · obtain rfl : es = [] := List.eq_nil_of_length_eq_zero h0
      clear hA h0
      go_enter Tryz.func13, Tryz.ntmps13
      go_wp2_with fail
      refine (caGood_any _ [] _ Hr.out).mono ?_; rintro e w1 ⟨rfl, hb1⟩
      rw [hcat]
      have Hm := Lib.hid (Hmade.out w1 w.heap.size hb1.size)
      go_wp2
      refine wp_loop_rounds 1 ?_
      rw [rounds_succ]
      go_wp2
      go_ret2
      exact ⟨⟨_, _, _, rfl, Hfin.out, by rw [rk_len, flat_int]; exact Hm.out⟩, bal hb1 _⟩
    · obtain ⟨g, off, rfl, hg, hcell⟩ := hA h0
      clear hA
      have hcell := en_cells hcell
      go_enter Tryz.func13, Tryz.ntmps13
      go_wp2_with fail
      refine (caGood_any _ es _ Hr.out).mono ?_; rintro e w1 ⟨rfl, hb1⟩
      rw [hcat]
      have Hm := Lib.hid (Hmade.out w1 w.heap.size hb1.size)
      go_wp2
      clear hmk
      go_loopw [13] (fun i wr => ∃ k : Nat, k ≤ es.length ∧ i = .int .i64 k ∧ Below w.heap.size w wr ∧ wr.ownsRow w.heap.size 3 1 (.slice (some ⟨w1.heap.size, 0, none⟩) 21 21) 21 ((rkN es k).map (fun x => Value.int .i64 x))) (fun i _ => es.length - (intOf i).toNat)
      case atStart => exact ⟨0, Nat.zero_le _, rfl, bal hb1 _, Hm.out⟩
      case round =>
        obtain ⟨k, hk, rfl, hbw, hown⟩ := hrel
        have hgo := (World.ownsRow.lt hown _ rfl).2
        have hz1 := hb1.size
        by_cases hlt : k < es.length
        · obtain ⟨f0, f1, f2, f3, f4⟩ := hcell k hlt
          rw [← hbw.cell (p := ⟨_, _, _⟩) hg] at f0 f1 f2 f3 f4
          have hbd := entB_bd (okAt_ent (Hval.out k hlt))
          have Hown := Lib.hid hown
          have hgr : g < wr.heap.size := Nat.lt_of_lt_of_le hg hbw.size
          have hi0 : (0 : Int) ≤ (k : Int) := by omega
          have hi1 : (k : Int) < (es.length : Int) := by omega
          clear hcell
          by_cases hd : (enS.get es k).lo = (enS.get es k).hi
          · obtain ⟨m, hm1⟩ : ∃ m : Nat, (enS.get es k).lo = m := ⟨(enS.get es k).lo.toNat, by omega⟩
            have hm2 : (enS.get es k).hi = m := by omega
            have hm3 : m < 21 := by omega
            have Hnx := Lib.hid (rk_next es k m hm1 hm2)
            have hu := hown.cellAt m (by omega)
            rw [rk_at es k m hm3] at hu
            have hub := rk_bd es k m
            have hl12 := Hlen.out
            rw [hm1] at f2
            rw [hm2] at f3
            have hfr := hown.frozenAt m
            generalize (rkN es k).getD m 0 = u at hu hub Hnx
            clear hown hd hbd hm1 hm2
            generalize enS.get es k = x at f0 f1 f2 f3 f4
            have hj0 : (0 : Int) ≤ (m : Int) := by omega
            have hj1 : (m : Int) < 21 := by omega
            have hwu : IntKind.i64.wrap (u + 1) = u + 1 := by first | exact RowKit.wrap64_of_bounds (by omega) (by omega) | (simp [IntKind.wrap, IntKind.bits, IntKind.signed]; omega) | (unfold IntKind.wrap; simp; omega)
            go_wp2
            go_roundw
            case rel =>
              refine ⟨k + 1, by omega, by go_num, by (repeat (with_reducible first | exact Below.refl _ _ | assumption | refine bal ?_ _ | refine bst ?_ (by simp <;> omega) _ | refine Below.drew ?_ | refine bthen ?_ (by assumption))), ?_⟩
              have h1 := (Hown.out.stored m (.int .i64 (u + 1))).1
              rw [Hnx.out] at h1
              have h2 := h1.alloc (Obj.cells #[.int .i64 x.a, .int .i64 x.b, .int .i64 (m : Int), .int .i64 (m : Int), .int .i64 x.to] 29)
              simpa [hwu] using h2
            case measure => simp [intOf]; omega
          · have Hsk := Lib.hid (rk_skip es k hd)
            clear hown
            generalize enS.get es k = x at f0 f1 f2 f3 f4 hd hbd
            go_wp2
            go_roundw
            case rel =>
              refine ⟨k + 1, by omega, by go_num, by (repeat (with_reducible first | exact Below.refl _ _ | assumption | refine bal ?_ _ | refine bst ?_ (by simp <;> omega) _ | refine Below.drew ?_ | refine bthen ?_ (by assumption))), ?_⟩
              rw [Hsk.out]
              exact Hown.out.alloc _
            case measure => simp [intOf]; omega
        · have hd : decide (k < es.length) = false := decide_eq_false hlt
          obtain rfl : k = es.length := by omega
          have Hown := Lib.hid hown
          clear hcell hown
          go_wp2
          go_ret2
          exact ⟨⟨_, _, .inr ⟨rfl, Hfin.out, by rw [rk_len, flat_int]; exact Hown.out⟩⟩, hbw⟩
end
end Go.Proofs.YtimfoodbolokdaaGreatDoor
