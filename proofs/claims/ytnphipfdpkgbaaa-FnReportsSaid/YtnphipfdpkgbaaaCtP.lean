/- Plain laws of catalogues: what a tightened, a merged one has; which entries are torn; one is better than another. Conditions: none. -/
import Derived.Test.YtnphipfdpkgbaaaMergeL
import Derived.Test.YtnphipfdpkgbaaaCon
import Derived.Test.YtnphipfdpkgbaaaBetter
namespace Go.Proofs.Ytnphipfdpkgbaaa
open Go Go.RowKit

/-- Of the same curve. -/
def sm (x y : En) : Prop := x.a = y.a ∧ x.b = y.b
theorem sm.symm {x y : En} (h : sm x y) : sm y x := ⟨h.1.symm, h.2.symm⟩
theorem sm.trans {x y z : En} (h : sm x y) (k : sm y z) : sm x z := ⟨h.1.trans k.1, h.2.trans k.2⟩
theorem sm.rfl' (x : En) : sm x x := ⟨rfl, rfl⟩
theorem sort_ext {E : Type} {R : E → E → Prop} (irr : ∀ x, ¬ R x x) (tr : ∀ x y z, R x y → R y z → R x z) : ∀ l1 l2 : List E, l1.Pairwise R → l2.Pairwise R → (∀ u, u ∈ l1 ↔ u ∈ l2) → l1 = l2
  | [], [], _, _, _ => rfl
  | [], y :: _, _, _, h => by have := (h y).2 (by simp); cases this
  | x :: _, [], _, _, h => by have := (h x).1 (by simp); cases this
  | x :: l1, y :: l2, h1, h2, h => by
    obtain ⟨p1, q1⟩ := List.pairwise_cons.1 h1
    obtain ⟨p2, q2⟩ := List.pairwise_cons.1 h2
    have hxy : x = y := by
      rcases List.mem_cons.1 ((h x).1 (by simp)) with e | e
      · exact e
      · rcases List.mem_cons.1 ((h y).2 (by simp)) with e2 | e2
        · exact e2.symm
        · exact absurd (tr _ _ _ (p1 y e2) (p2 x e)) (irr x)
    subst hxy
    rw [sort_ext irr tr l1 l2 q1 q2 (fun u => ?_)]
    constructor
    · intro hu
      rcases List.mem_cons.1 ((h u).1 (List.mem_cons_of_mem _ hu)) with e | e
      · rw [e] at hu; exact absurd (p1 x hu) (irr x)
      · exact e
    · intro hu
      rcases List.mem_cons.1 ((h u).2 (List.mem_cons_of_mem _ hu)) with e | e
      · rw [e] at hu; exact absurd (p2 x hu) (irr x)
      · exact e
theorem cmpE_irr (x : En) : ¬ cmpE x x < 0 := by
  unfold cmpE
  rw [cmpC_lt]
  omega
theorem getE_is {es : List En} {k : Nat} (h : k < es.length) : enS.get es k = es[k] := by
  unfold Shape.get
  rw [List.getD_eq_getElem?_getD, List.getElem?_eq_getElem h]; rfl
theorem okCat_pw {es : List En} (h : okCat es) : es.Pairwise (fun x y => cmpE x y < 0) := by
  rw [List.pairwise_iff_getElem]
  intro i j hi hj hij
  have := catE_lt h hij hj
  rwa [getE_is hi, getE_is hj] at this
theorem okCat_mem {es : List En} (h : okCat es) {x : En} (hx : x ∈ es) : entE x = true := by
  obtain ⟨i, hi, rfl⟩ := List.mem_iff_getElem.1 hx
  have := okE_ent (h i hi)
  rwa [getE_is hi] at this
theorem sm_cmp {x y z : En} (h : sm x y) : (cmpE x z < 0 ↔ cmpE y z < 0) ∧ (cmpE z x < 0 ↔ cmpE z y < 0) := by
  unfold cmpE
  rw [h.1, h.2]
  exact ⟨Iff.rfl, Iff.rfl⟩
theorem okCat_uniq {es : List En} (h : okCat es) {x y : En} (hx : x ∈ es) (hy : y ∈ es) (hs : sm x y) : x = y := by
  obtain ⟨i, hi, rfl⟩ := List.mem_iff_getElem.1 hx
  obtain ⟨j, hj, rfl⟩ := List.mem_iff_getElem.1 hy
  rcases Nat.lt_trichotomy i j with h1 | h1 | h1
  · have := catE_lt h h1 hj
    rw [getE_is hi, getE_is hj] at this
    exact absurd ((sm_cmp hs).1.1 this) (cmpE_irr _)
  · subst h1; rfl
  · have := catE_lt h h1 hi
    rw [getE_is hi, getE_is hj] at this
    exact absurd ((sm_cmp hs).2.1 this) (cmpE_irr _)
theorem cat_ext {x y : List En} (hx : okCat x) (hy : okCat y) (h : ∀ u, u ∈ x ↔ u ∈ y) : x = y :=
  sort_ext (R := fun x y => cmpE x y < 0) cmpE_irr (fun _ _ _ h1 h2 => cmpE_trans h1 h2) x y (okCat_pw hx) (okCat_pw hy) h
/-- Where the entry of a curve is, if there is one. -/
theorem at_place {es : List En} (h : okCat es) (y : En) : (∃ x ∈ es, sm x y) ↔ atB es (placeN es y.a y.b) y.a y.b = true := by
  constructor
  · rintro ⟨x, hx, hs⟩
    obtain ⟨i, hi, rfl⟩ := List.mem_iff_getElem.1 hx
    obtain ⟨h1, h2, h3⟩ := placeN_spec es y
    have hk : placeN es y.a y.b = i := by
      rcases Nat.lt_trichotomy (placeN es y.a y.b) i with h4 | h4 | h4
      · have h5 := catE_lt h h4 hi
        rw [getE_is hi] at h5
        exact absurd ((sm_cmp hs).2.1 h5) (h3 (by omega))
      · exact h4
      · have h5 := h2 i h4
        rw [getE_is hi] at h5
        exact absurd ((sm_cmp hs).1.1 h5) (cmpE_irr _)
    rw [hk]
    unfold atB isCu
    rw [getE_is hi, decide_eq_true hi, hs.1, hs.2]
    simp
  · intro h1
    obtain ⟨h2, h3, h4⟩ := atB_spec h1
    exact ⟨enS.get es (placeN es y.a y.b), by rw [getE_is h2]; exact List.getElem_mem h2, h3, h4⟩
theorem at_get {es : List En} (h : okCat es) {x y : En} (hx : x ∈ es) (hs : sm x y) : enS.get es (placeN es y.a y.b) = x := by
  have h1 := (at_place h y).1 ⟨x, hx, hs⟩
  obtain ⟨h2, h3, h4⟩ := atB_spec h1
  exact okCat_uniq h (by rw [getE_is h2]; exact List.getElem_mem h2) hx (sm.trans ⟨h3, h4⟩ hs.symm)
theorem meet_sm (x y : En) : sm (meetE x y) x := ⟨rfl, rfl⟩
/-- What a catalogue with one more entry has. -/
theorem tight_mem {es : List En} {y : En} (h : okCat es) {z : List En} (hz : tightO es y = some z) (u : En) :
    u ∈ z ↔ (u ∈ es ∧ ¬ sm u y) ∨ (∃ x ∈ es, sm x y ∧ u = meetE x y) ∨ ((∀ x ∈ es, ¬ sm x y) ∧ u = y) := by
  unfold tightO at hz
  by_cases hat : atB es (placeN es y.a y.b) y.a y.b = true
  · obtain ⟨hlt, ha, hb⟩ := atB_spec hat
    rw [if_pos hat] at hz
    split at hz
    · rename_i hok
      cases hz
      have hsm : sm (enS.get es (placeN es y.a y.b)) y := ⟨ha, hb⟩
      have hin : enS.get es (placeN es y.a y.b) ∈ es := by rw [getE_is hlt]; exact List.getElem_mem hlt
      have hget := getE_is hlt
      generalize placeN es y.a y.b = k at *
      rw [swapE_set _ _ _ hlt]
      constructor
      · intro hu
        obtain ⟨j, hj, rfl⟩ := List.mem_iff_getElem.1 hu
        rw [List.length_set] at hj
        by_cases hjk : k = j
        · subst hjk
          rw [List.getElem_set_self]
          exact .inr (.inl ⟨_, hin, hsm, rfl⟩)
        · rw [List.getElem_set_ne hjk]
          refine .inl ⟨List.getElem_mem hj, fun hs => ?_⟩
          have h5 := okCat_uniq h hin (List.getElem_mem hj) (hsm.trans hs.symm)
          rw [hget] at h5
          rcases Nat.lt_trichotomy k j with h6 | h6 | h6
          · have := catE_lt h h6 hj
            rw [getE_is hlt, getE_is hj, h5] at this
            exact cmpE_irr _ this
          · exact hjk h6
          · have := catE_lt h h6 hlt
            rw [getE_is hlt, getE_is hj, h5] at this
            exact cmpE_irr _ this
      · rintro (⟨hu, hns⟩ | ⟨x, hx, hs, rfl⟩ | ⟨hno, -⟩)
        · obtain ⟨j, hj, rfl⟩ := List.mem_iff_getElem.1 hu
          have hjk : k ≠ j := by
            intro e
            subst e
            rw [← hget] at hns
            exact hns hsm
          rw [List.mem_iff_getElem]
          exact ⟨j, by rw [List.length_set]; exact hj, by rw [List.getElem_set_ne hjk]⟩
        · have : x = enS.get es k := okCat_uniq h hx hin (hs.trans hsm.symm)
          rw [this, List.mem_iff_getElem]
          exact ⟨k, by rw [List.length_set]; exact hlt, by rw [List.getElem_set_self]⟩
        · exact absurd hsm (hno _ hin)
    · cases hz
  · rw [if_neg hat] at hz
    cases hz
    have hno : ∀ x ∈ es, ¬ sm x y := fun x hx hs => hat ((at_place h y).1 ⟨x, hx, hs⟩)
    unfold ins
    constructor
    · intro hu
      rcases List.mem_append.1 hu with h1 | h1
      · have := List.mem_of_mem_take h1
        exact .inl ⟨this, hno u this⟩
      · rcases List.mem_cons.1 h1 with h2 | h2
        · exact .inr (.inr ⟨hno, h2⟩)
        · have := List.mem_of_mem_drop h2
          exact .inl ⟨this, hno u this⟩
    · rintro (⟨hu, -⟩ | ⟨x, hx, hs, -⟩ | ⟨-, rfl⟩)
      · rw [← List.take_append_drop (placeN es y.a y.b) es] at hu
        rcases List.mem_append.1 hu with h1 | h1
        · exact List.mem_append_left _ h1
        · exact List.mem_append_right _ (List.mem_cons_of_mem _ h1)
      · exact absurd hs (hno x hx)
      · exact List.mem_append_right _ (by simp)
theorem tight_none {es : List En} {y : En} (h : okCat es) : tightO es y = none ↔ ∃ x ∈ es, sm x y ∧ okMeet x y = false := by
  unfold tightO
  by_cases hat : atB es (placeN es y.a y.b) y.a y.b = true
  · rw [if_pos hat]
    obtain ⟨hlt, ha, hb⟩ := atB_spec hat
    have hin : enS.get es (placeN es y.a y.b) ∈ es := by rw [getE_is hlt]; exact List.getElem_mem hlt
    constructor
    · intro h1
      split at h1
      · cases h1
      · rename_i hok
        exact ⟨_, hin, ⟨ha, hb⟩, by simpa using hok⟩
    · rintro ⟨x, hx, hs, hok⟩
      rw [at_get h hx hs, hok]
      rfl
  · rw [if_neg hat]
    constructor
    · intro h1; cases h1
    · rintro ⟨x, hx, hs, -⟩
      exact absurd ((at_place h y).1 ⟨x, hx, hs⟩) hat
theorem foldO_cons (es : List En) (y : En) (bs : List En) : foldO es (y :: bs) = (tightO es y).bind (fun z => foldO z bs) := by
  unfold foldO
  rw [List.foldl_cons]
  show bs.foldl _ (tightO es y) = _
  cases tightO es y with
  | none => exact foldO_none es bs
  | some z => rfl
def nsm (x y : En) : Prop := ¬ sm x y
/-- What two merged catalogues have. -/
theorem fold_mem : ∀ (bs es : List En), okCat es → (∀ y ∈ bs, entE y = true) → bs.Pairwise nsm → ∀ z, foldO es bs = some z →
    okCat z ∧ ∀ u, u ∈ z ↔ (u ∈ es ∧ ∀ y ∈ bs, ¬ sm u y) ∨ (∃ x ∈ es, ∃ y ∈ bs, sm x y ∧ u = meetE x y) ∨ (u ∈ bs ∧ ∀ x ∈ es, ¬ sm x u)
  | [], es, he, _, _, z, hz => by
    have : foldO es [] = some es := rfl
    rw [this] at hz
    cases hz
    exact ⟨he, fun u => by simp⟩
  | y :: bs, es, he, hb, hp, z, hz => by
    obtain ⟨p1, p2⟩ := List.pairwise_cons.1 hp
    rw [foldO_cons] at hz
    cases h1 : tightO es y with
    | none => rw [h1] at hz; cases hz
    | some z1 =>
      rw [h1] at hz
      have ho1 := tight_ok he (hb y (by simp)) h1
      have hm1 := tight_mem he h1
      obtain ⟨ho2, hm2⟩ := fold_mem bs z1 ho1 (fun x hx => hb x (by simp [hx])) p2 z hz
      refine ⟨ho2, fun u => ?_⟩
      rw [hm2]
      constructor
      · rintro (⟨hu, hn⟩ | ⟨x, hx, v, hv, hs, rfl⟩ | ⟨hu, hn⟩)
        · rcases (hm1 u).1 hu with ⟨h2, h3⟩ | ⟨x, h2, h3, rfl⟩ | ⟨h2, rfl⟩
          · exact .inl ⟨h2, fun v hv => by rcases List.mem_cons.1 hv with rfl | hv; exact h3; exact hn v hv⟩
          · exact .inr (.inl ⟨x, h2, y, by simp, h3, rfl⟩)
          · exact .inr (.inr ⟨by simp, fun x hx hs => h2 x hx hs⟩)
        · rcases (hm1 x).1 hx with ⟨h2, h3⟩ | ⟨x0, h2, h3, rfl⟩ | ⟨h2, rfl⟩
          · exact .inr (.inl ⟨x, h2, v, by simp [hv], hs, rfl⟩)
          · exact absurd ((h3.symm.trans (meet_sm x0 y).symm).trans hs) (p1 v hv)
          · exact absurd hs (p1 v hv)
        · refine .inr (.inr ⟨by simp [hu], fun x hx hs => ?_⟩)
          by_cases hxy : sm x y
          · exact p1 u hu (hxy.symm.trans hs)
          · exact hn x ((hm1 x).2 (.inl ⟨hx, hxy⟩)) hs
      · rintro (⟨hu, hn⟩ | ⟨x, hx, v, hv, hs, rfl⟩ | ⟨hu, hn⟩)
        · exact .inl ⟨(hm1 u).2 (.inl ⟨hu, hn y (by simp)⟩), fun v hv => hn v (by simp [hv])⟩
        · rcases List.mem_cons.1 hv with rfl | hv
          · exact .inl ⟨(hm1 _).2 (.inr (.inl ⟨x, hx, hs, rfl⟩)), fun w hw hs2 => p1 w hw (hs.symm.trans ((meet_sm x v).symm.trans hs2))⟩
          · refine .inr (.inl ⟨x, (hm1 x).2 (.inl ⟨hx, fun hxy => p1 v hv (hxy.symm.trans hs)⟩), v, hv, hs, rfl⟩)
        · rcases List.mem_cons.1 hu with rfl | hu2
          · exact .inl ⟨(hm1 u).2 (.inr (.inr ⟨hn, rfl⟩)), fun v hv hs => p1 v hv hs⟩
          · refine .inr (.inr ⟨hu2, fun x hx hs => ?_⟩)
            rcases (hm1 x).1 hx with ⟨h2, h3⟩ | ⟨x0, h2, h3, rfl⟩ | ⟨h2, rfl⟩
            · exact hn x h2 hs
            · exact p1 u hu2 ((h3.symm.trans (meet_sm x0 y).symm).trans hs)
            · exact p1 u hu2 hs
theorem fold_none : ∀ (bs es : List En), okCat es → (∀ y ∈ bs, entE y = true) → bs.Pairwise nsm → (foldO es bs = none ↔ ∃ x ∈ es, ∃ y ∈ bs, sm x y ∧ okMeet x y = false)
  | [], es, _, _, _ => by
    have : foldO es [] = some es := rfl
    rw [this]
    constructor
    · intro h; cases h
    · rintro ⟨_, _, _, h, _⟩; cases h
  | y :: bs, es, he, hb, hp => by
    obtain ⟨p1, p2⟩ := List.pairwise_cons.1 hp
    rw [foldO_cons]
    cases h1 : tightO es y with
    | none =>
      obtain ⟨x, hx, hs, hk⟩ := (tight_none he).1 h1
      exact ⟨fun _ => ⟨x, hx, y, by simp, hs, hk⟩, fun _ => rfl⟩
    | some z1 =>
      have ho1 := tight_ok he (hb y (by simp)) h1
      have hm1 := tight_mem he h1
      have ih := fold_none bs z1 ho1 (fun x hx => hb x (by simp [hx])) p2
      show foldO z1 bs = none ↔ _
      rw [ih]
      have hny : ∀ x ∈ es, sm x y → okMeet x y = true := fun x hx hs => by
        cases hk : okMeet x y with
        | true => rfl
        | false => rw [(tight_none he).2 ⟨x, hx, hs, hk⟩] at h1; cases h1
      constructor
      · rintro ⟨x, hx, v, hv, hs, hk⟩
        rcases (hm1 x).1 hx with ⟨h2, h3⟩ | ⟨x0, h2, h3, rfl⟩ | ⟨h2, rfl⟩
        · exact ⟨x, h2, v, by simp [hv], hs, hk⟩
        · exact absurd ((h3.symm.trans (meet_sm x0 y).symm).trans hs) (p1 v hv)
        · exact absurd hs (p1 v hv)
      · rintro ⟨x, hx, v, hv, hs, hk⟩
        rcases List.mem_cons.1 hv with rfl | hv
        · rw [hny x hx hs] at hk; cases hk
        · exact ⟨x, (hm1 x).2 (.inl ⟨hx, fun hxy => p1 v hv (hxy.symm.trans hs)⟩), v, hv, hs, hk⟩
theorem mostI_comm (x y : Int) : mostI x y = mostI y x := by unfold mostI; split <;> split <;> omega
theorem leastI_comm (x y : Int) : leastI x y = leastI y x := by unfold leastI; split <;> split <;> omega
theorem meet_comm {x y : En} (h : sm x y) : meetE x y = meetE y x := by
  unfold meetE
  rw [h.1, h.2, mostI_comm x.lo, leastI_comm x.hi, mostI_comm x.to]
theorem okMeet_comm (x y : En) : okMeet x y = okMeet y x := by
  unfold okMeet tornB
  rw [mostI_comm x.lo, leastI_comm x.hi]
  congr 1
  congr 1
  cases h1 : x.to != 0 <;> cases h2 : y.to != 0 <;> simp [bne_comm]
theorem okCat_nsm {es : List En} (h : okCat es) : es.Pairwise nsm :=
  (okCat_pw h).imp (fun {_ y} hlt hs => cmpE_irr y ((sm_cmp hs).1.1 hlt))
theorem merge_comm {xs bs : List En} (hx : okCat xs) (hb : okCat bs) : foldO xs bs = foldO bs xs := by
  have ex : ∀ y ∈ xs, entE y = true := fun y hy => okCat_mem hx hy
  have eb : ∀ y ∈ bs, entE y = true := fun y hy => okCat_mem hb hy
  have n1 := fold_none bs xs hx eb (okCat_nsm hb)
  have n2 := fold_none xs bs hb ex (okCat_nsm hx)
  cases h1 : foldO xs bs with
  | none =>
    obtain ⟨x, h2, y, h3, hs, hk⟩ := n1.1 h1
    exact (n2.2 ⟨y, h3, x, h2, hs.symm, by rw [okMeet_comm]; exact hk⟩).symm
  | some z1 =>
    cases h2 : foldO bs xs with
    | none =>
      obtain ⟨y, h3, x, h4, hs, hk⟩ := n2.1 h2
      rw [n1.2 ⟨x, h4, y, h3, hs.symm, by rw [okMeet_comm]; exact hk⟩] at h1
      cases h1
    | some z2 =>
      obtain ⟨o1, m1⟩ := fold_mem bs xs hx eb (okCat_nsm hb) z1 h1
      obtain ⟨o2, m2⟩ := fold_mem xs bs hb ex (okCat_nsm hx) z2 h2
      rw [cat_ext o1 o2 (fun u => ?_)]
      rw [m1, m2]
      constructor
      · rintro (⟨a1, a2⟩ | ⟨x, a1, y, a2, hs, rfl⟩ | ⟨a1, a2⟩)
        · exact .inr (.inr ⟨a1, fun x hx2 hs => a2 x hx2 hs.symm⟩)
        · exact .inr (.inl ⟨y, a2, x, a1, hs.symm, meet_comm hs⟩)
        · exact .inl ⟨a1, fun x hx2 hs => a2 x hx2 hs.symm⟩
      · rintro (⟨a1, a2⟩ | ⟨x, a1, y, a2, hs, rfl⟩ | ⟨a1, a2⟩)
        · exact .inr (.inr ⟨a1, fun x hx2 hs => a2 x hx2 hs.symm⟩)
        · exact .inr (.inl ⟨y, a2, x, a1, hs.symm, meet_comm hs⟩)
        · exact .inl ⟨a1, fun x hx2 hs => a2 x hx2 hs.symm⟩

/-! ### Better -/
theorem first_of {es : List En} (h : okCat es) {u x : En} (hu : u ∈ es) (hs : sm u x) : firstN es x.a x.b < es.length ∧ enS.get es (firstN es x.a x.b) = u := by
  obtain ⟨h1, h2, h3, h4⟩ := lead_spec (fun k => !isCu es x.a x.b k) es.length 0
  obtain ⟨i, hi, rfl⟩ := List.mem_iff_getElem.1 hu
  have hlt : firstN es x.a x.b < es.length := by
    rcases Nat.lt_or_ge (firstN es x.a x.b) es.length with h5 | h5
    · exact h5
    · have h6 := h3 i (Nat.zero_le _) (by unfold firstN at h5; omega)
      have h7 : isCu es x.a x.b i = true := by unfold isCu; rw [getE_is hi, hs.1, hs.2]; simp
      rw [h7] at h6; cases h6
  refine ⟨hlt, ?_⟩
  have h5 := h4 (by unfold firstN at hlt; omega)
  have h6 : isCu es x.a x.b (firstN es x.a x.b) = true := by unfold firstN; simpa using h5
  obtain ⟨h7, h8⟩ := isCu_iff.1 h6
  exact okCat_uniq h (by rw [getE_is hlt]; exact List.getElem_mem hlt) (List.getElem_mem hi) (sm.trans ⟨h7, h8⟩ hs.symm)
theorem hasB_of {es : List En} (h : okCat es) {u x : En} (hu : u ∈ es) (hs : sm u x) (hb : sayB u x = true) : hasB es x = true := by
  obtain ⟨h1, h2⟩ := first_of h hu hs
  unfold hasB
  rw [h2, hb, decide_eq_true h1]; rfl
theorem betV_of {xs bs : List En} (hx : catB xs = true) (hb : catB bs = true) (h : ∀ x ∈ bs, ∃ u ∈ xs, sm u x ∧ sayB u x = true) : betV xs bs = (true, true) := by
  refine betV_yes hx hb (fun k hk => ?_)
  obtain ⟨u, hu, hs, hy⟩ := h (enS.get bs k) (by rw [getE_is hk]; exact List.getElem_mem hk)
  exact hasB_of (cat_ok hx).2 hu hs hy
theorem sayB_refl (x : En) : sayB x x = true := by unfold sayB; simp
theorem to_nonneg {x : En} (h : entE x = true) : 0 ≤ x.to := by
  unfold entE entB at h
  simp only [Bool.and_eq_true, decide_eq_true_eq] at h
  omega
theorem sayB_meet {x y : En} (hx : entE x = true) (hy : entE y = true) (hok : okMeet x y = true) : sayB (meetE x y) x = true := by
  have h1 := to_nonneg hx
  have h2 := to_nonneg hy
  unfold okMeet tornB at hok
  simp only [Bool.and_eq_true, Bool.not_eq_true', decide_eq_true_eq] at hok
  obtain ⟨h3, -⟩ := hok
  unfold sayB meetE
  simp only [Bool.and_eq_true, Bool.not_eq_true', decide_eq_false_iff_not, Bool.and_eq_false_iff, Bool.not_eq_false', decide_eq_true_eq]
  refine ⟨⟨?_, ?_⟩, ?_⟩
  · unfold mostI; split <;> omega
  · unfold leastI; split <;> omega
  · by_cases h4 : x.to = 0
    · exact .inl h4
    · refine .inr ?_
      by_cases h5 : y.to = 0
      · unfold mostI; split <;> omega
      · have h6 : x.to = y.to := by
          by_cases h7 : x.to = y.to
          · exact h7
          · have a1 : (x.to != 0) = true := by simp [h4]
            have a2 : (y.to != 0) = true := by simp [h5]
            have a3 : (x.to != y.to) = true := by simp [h7]
            rw [a1, a2, a3] at h3; cases h3
        unfold mostI; split <;> omega
/-- A merged catalogue is at least as good as the first one. -/
theorem merge_better {xs bs z : List En} (hx : catB xs = true) (hb : catB bs = true) (hz : foldO xs bs = some z) (hl : z.length ≤ 12) : catB z = true ∧ betV z xs = (true, true) := by
  obtain ⟨-, hx2⟩ := cat_ok hx
  obtain ⟨-, hb2⟩ := cat_ok hb
  have eb : ∀ y ∈ bs, entE y = true := fun y hy => okCat_mem hb2 hy
  obtain ⟨o1, m1⟩ := fold_mem bs xs hx2 eb (okCat_nsm hb2) z hz
  have hcz : catB z = true := by
    unfold catB
    rw [decide_eq_true hl, Bool.true_and, List.all_eq_true]
    intro k hk
    exact o1 k (List.mem_range.1 hk)
  refine ⟨hcz, betV_of hcz hx (fun x hxx => ?_)⟩
  by_cases h : ∃ y ∈ bs, sm x y
  · obtain ⟨y, hy, hs⟩ := h
    refine ⟨meetE x y, (m1 _).2 (.inr (.inl ⟨x, hxx, y, hy, hs, rfl⟩)), meet_sm x y, sayB_meet (okCat_mem hx2 hxx) (eb y hy) ?_⟩
    cases hk : okMeet x y with
    | true => rfl
    | false => rw [(fold_none bs xs hx2 eb (okCat_nsm hb2)).2 ⟨x, hxx, y, hy, hs, hk⟩] at hz; cases hz
  · exact ⟨x, (m1 x).2 (.inl ⟨hxx, fun y hy hs => h ⟨y, hy, hs⟩⟩), sm.rfl' x, sayB_refl x⟩

/-! ### Contradictions -/
theorem torn_iff {bs : List En} (hb : okCat bs) (e : En) : tornE bs e = true ↔ ∃ y ∈ bs, sm y e ∧ okMeet e y = false := by
  unfold tornE
  rw [Bool.and_eq_true]
  constructor
  · rintro ⟨h1, h2⟩
    obtain ⟨h3, h4, h5⟩ := atB_spec h1
    exact ⟨_, by rw [getE_is h3]; exact List.getElem_mem h3, ⟨h4, h5⟩, by simpa using h2⟩
  · rintro ⟨y, hy, hs, hk⟩
    exact ⟨(at_place hb e).1 ⟨y, hy, hs⟩, by rw [at_get hb hy hs, hk]; rfl⟩
def ltCu (x y : Cu) : Prop := cmpC x.a x.b y.a y.b < 0
theorem conF_mem {bs xs : List En} (hb : okCat bs) (c : Cu) : c ∈ conF bs xs ↔ ∃ e ∈ xs, ∃ y ∈ bs, sm y e ∧ okMeet e y = false ∧ c = ⟨e.a, e.b⟩ := by
  unfold conF
  rw [List.mem_map]
  constructor
  · rintro ⟨e, he, rfl⟩
    obtain ⟨h1, h2⟩ := List.mem_filter.1 he
    obtain ⟨y, hy, hs, hk⟩ := (torn_iff hb e).1 h2
    exact ⟨e, h1, y, hy, hs, hk, rfl⟩
  · rintro ⟨e, h1, y, hy, hs, hk, rfl⟩
    exact ⟨e, List.mem_filter.2 ⟨h1, (torn_iff hb e).2 ⟨y, hy, hs, hk⟩⟩, rfl⟩
theorem conF_pw {bs xs : List En} (hx : okCat xs) : (conF bs xs).Pairwise ltCu := by
  unfold conF
  rw [List.pairwise_map]
  exact ((okCat_pw hx).filter _).imp (fun h => h)
theorem con_comm {xs bs : List En} (hx : okCat xs) (hb : okCat bs) : conF bs xs = conF xs bs := by
  refine sort_ext (R := ltCu) (fun x h => ?_) (fun x y z h1 h2 => ?_) _ _ (conF_pw hx) (conF_pw hb) (fun c => ?_)
  · unfold ltCu at h; rw [cmpC_lt] at h; omega
  · exact cmpC_trans h1 h2
  · rw [conF_mem hb, conF_mem hx]
    constructor
    · rintro ⟨e, h1, y, hy, hs, hk, rfl⟩
      exact ⟨y, hy, e, h1, hs.symm, by rw [okMeet_comm]; exact hk, by rw [hs.1, hs.2]⟩
    · rintro ⟨e, h1, y, hy, hs, hk, rfl⟩
      exact ⟨y, hy, e, h1, hs.symm, by rw [okMeet_comm]; exact hk, by rw [hs.1, hs.2]⟩
theorem con_none {xs bs z : List En} (hx : okCat xs) (hb : okCat bs) (hz : foldO xs bs = some z) : conF bs xs = [] := by
  cases h : conF bs xs with
  | nil => rfl
  | cons c l =>
    have hc : c ∈ conF bs xs := by rw [h]; simp
    obtain ⟨e, h1, y, hy, hs, hk, -⟩ := (conF_mem hb c).1 hc
    rw [(fold_none bs xs hx (fun y hy => okCat_mem hb hy) (okCat_nsm hb)).2 ⟨e, h1, y, hy, hs.symm, hk⟩] at hz
    cases hz
end Go.Proofs.Ytnphipfdpkgbaaa
