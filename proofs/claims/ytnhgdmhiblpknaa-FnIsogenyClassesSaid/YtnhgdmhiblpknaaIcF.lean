/- The plain law of forms grouped by isomorphism. Conditions: none. -/
import Derived.Test.YtnhgdmhiblpknaaIcP
import Derived.Test.YtnhgdmhiblpknaaNest
namespace Go.Proofs.Ytnhgdmhiblpknaa
open Go Go.RowKit

/-- The first index of a group. -/
def hdG (g : List Int) : Nat := (g.headD 0).toNat
def pG (M : List Cu) (i : Nat) (g : List Int) : Bool := decide (cuS.get M (hdG g) = cuS.get M i)
def ixG (M : List Cu) (G : List (List Int)) (i : Nat) : Nat := G.findIdx (pG M i)
def addG (M : List Cu) (G : List (List Int)) (i : Nat) : List (List Int) := if ixG M G i < G.length then G.set (ixG M G i) (cat' G (ixG M G i) ++ [(i : Int)]) else G ++ [[(i : Int)]]
def frmV (M : List Cu) : Nat → List (List Int)
  | 0 => []
  | n + 1 => addG M (frmV M n) n
/-- What holds of the groups of the first n. -/
structure Frm (M : List Cu) (n : Nat) (G : List (List Int)) : Prop where
  ne : ∀ g ∈ G, ∃ (h : Nat) (l : List Int), g = (h : Int) :: l ∧ h < n ∧ ∀ j, j < h → cuS.get M j ≠ cuS.get M h
  mem : ∀ g ∈ G, ∀ x ∈ g, ∃ j : Nat, x = (j : Int) ∧ j < n ∧ cuS.get M j = cuS.get M (hdG g)
  all : ∀ j, j < n → ∃ g ∈ G, cuS.get M (hdG g) = cuS.get M j
  tot : totL G = n
  len : G.length ≤ n
theorem hdG_cons (h : Nat) (l : List Int) : hdG ((h : Int) :: l) = h := by unfold hdG; simp
theorem hdG_app (g : List Int) (x : Int) (h : g ≠ []) : hdG (g ++ [x]) = hdG g := by
  cases g with
  | nil => exact absurd rfl h
  | cons a l => rfl
theorem totL_append {E : Type} (a b : List (List E)) : totL (a ++ b) = totL a + totL b := by unfold totL; simp
theorem totL_set {E : Type} : ∀ (G : List (List E)) (k : Nat) (g : List E), k < G.length → totL (G.set k g) + (cat' G k).length = totL G + g.length
  | [], k, g, h => by simp at h
  | a :: G, 0, g, _ => by unfold totL cat'; simp; omega
  | a :: G, k + 1, g, h => by
    have ih := totL_set G k g (by simpa using h)
    have e : cat' (a :: G) (k + 1) = cat' G k := rfl
    unfold totL at *
    rw [e]
    simp only [List.set_cons_succ, List.map_cons, List.sum_cons] at *
    omega
theorem cat_at {E : Type} {G : List (List E)} {k : Nat} (h : k < G.length) : cat' G k = G[k] := by
  unfold cat'; rw [List.getD_eq_getElem?_getD, List.getElem?_eq_getElem h]; rfl
theorem ix_at {M : List Cu} {G : List (List Int)} {i : Nat} (h : ixG M G i < G.length) : cuS.get M (hdG (cat' G (ixG M G i))) = cuS.get M i := by
  have h1 := List.findIdx_getElem (xs := G) (p := pG M i) (w := h)
  rw [cat_at h]
  unfold pG at h1
  exact of_decide_eq_true h1
theorem ix_before {M : List Cu} {G : List (List Int)} {i k : Nat} (h : k < ixG M G i) (hk : k < G.length) : cuS.get M (hdG (cat' G k)) ≠ cuS.get M i := by
  have h1 := List.not_of_lt_findIdx (xs := G) (p := pG M i) h
  rw [cat_at hk]
  unfold pG at h1
  exact of_decide_eq_false (by simpa using h1)
theorem ix_eq {M : List Cu} {G : List (List Int)} {i k : Nat} (hk : k < G.length) (he : cuS.get M (hdG (cat' G k)) = cuS.get M i) (h : ∀ j, j < k → cuS.get M (hdG (cat' G j)) ≠ cuS.get M i) : ixG M G i = k := by
  rcases Nat.lt_trichotomy (ixG M G i) k with h1 | h1 | h1
  · exact absurd (ix_at (Nat.lt_trans h1 hk)) (h _ h1)
  · exact h1
  · exact absurd he (ix_before h1 hk)
theorem ix_none {M : List Cu} {G : List (List Int)} {i : Nat} (h : ∀ j, j < G.length → cuS.get M (hdG (cat' G j)) ≠ cuS.get M i) : ixG M G i = G.length := by
  have h1 : ixG M G i ≤ G.length := List.findIdx_le_length
  rcases Nat.lt_or_ge (ixG M G i) G.length with h2 | h2
  · exact absurd (ix_at h2) (h _ h2)
  · omega
theorem Frm.step {M : List Cu} {n : Nat} {G : List (List Int)} (h : Frm M n G) : Frm M (n + 1) (addG M G n) := by
  unfold addG
  by_cases hx : ixG M G n < G.length
  · rw [if_pos hx]
    have hat := ix_at hx
    generalize ixG M G n = k at hx hat
    have hmk : cat' G k ∈ G := by rw [cat_at hx]; exact List.getElem_mem hx
    obtain ⟨h0, l0, e0, hn0, hf0⟩ := h.ne _ hmk
    have hne : cat' G k ≠ [] := by rw [e0]; simp
    refine ⟨fun g hg => ?_, fun g hg x hx2 => ?_, fun j hj => ?_, ?_, by rw [List.length_set]; have := h.len; omega⟩
    · rcases List.mem_or_eq_of_mem_set hg with hg | rfl
      · obtain ⟨a, l, e, h1, h2⟩ := h.ne g hg
        exact ⟨a, l, e, by omega, h2⟩
      · exact ⟨h0, l0 ++ [(n : Int)], by rw [e0]; rfl, by omega, hf0⟩
    · rcases List.mem_or_eq_of_mem_set hg with hg | rfl
      · obtain ⟨j, e, h1, h2⟩ := h.mem g hg x hx2
        exact ⟨j, e, by omega, h2⟩
      · rw [hdG_app _ _ hne]
        rw [List.mem_append, List.mem_singleton] at hx2
        rcases hx2 with hx2 | rfl
        · obtain ⟨j, e, h1, h2⟩ := h.mem _ hmk x hx2
          exact ⟨j, e, by omega, h2⟩
        · exact ⟨n, rfl, by omega, hat.symm⟩
    · have hnew : cat' G k ++ [(n : Int)] ∈ G.set k (cat' G k ++ [(n : Int)]) := List.mem_set hx _
      rcases Nat.lt_or_ge j n with h1 | h1
      · obtain ⟨g, hg, h2⟩ := h.all j h1
        obtain ⟨p, hp, rfl⟩ := List.getElem_of_mem hg
        by_cases hpk : p = k
        · subst hpk
          exact ⟨_, hnew, by rw [hdG_app _ _ hne, cat_at hx]; exact h2⟩
        · exact ⟨G[p], by rw [List.mem_iff_getElem]; exact ⟨p, by rw [List.length_set]; exact hp, by rw [List.getElem_set, if_neg (fun e => hpk e.symm)]⟩, h2⟩
      · obtain rfl : j = n := by omega
        exact ⟨_, hnew, by rw [hdG_app _ _ hne]; exact hat⟩
    · have := totL_set G k (cat' G k ++ [(n : Int)]) hx
      rw [List.length_append, List.length_singleton, h.tot] at this
      omega
  · rw [if_neg hx]
    have hnew : ∀ j, j < n → cuS.get M j ≠ cuS.get M n := by
      intro j hj e
      obtain ⟨g, hg, h2⟩ := h.all j hj
      obtain ⟨p, hp, rfl⟩ := List.getElem_of_mem hg
      have h3 : ixG M G n ≤ p := by
        rcases Nat.lt_or_ge p (ixG M G n) with h4 | h4
        · exact absurd (by rw [cat_at hp]; exact h2.trans e) (ix_before h4 hp)
        · exact h4
      omega
    refine ⟨fun g hg => ?_, fun g hg x hx2 => ?_, fun j hj => ?_, ?_, by rw [List.length_append, List.length_singleton]; have := h.len; omega⟩
    · rw [List.mem_append, List.mem_singleton] at hg
      rcases hg with hg | rfl
      · obtain ⟨a, l, e, h1, h2⟩ := h.ne g hg
        exact ⟨a, l, e, by omega, h2⟩
      · exact ⟨n, [], rfl, by omega, hnew⟩
    · rw [List.mem_append, List.mem_singleton] at hg
      rcases hg with hg | rfl
      · obtain ⟨j, e, h1, h2⟩ := h.mem g hg x hx2
        exact ⟨j, e, by omega, h2⟩
      · rw [List.mem_singleton] at hx2
        subst hx2
        exact ⟨n, rfl, by omega, by rw [hdG_cons]⟩
    · rcases Nat.lt_or_ge j n with h1 | h1
      · obtain ⟨g, hg, h2⟩ := h.all j h1
        exact ⟨g, List.mem_append_left _ hg, h2⟩
      · obtain rfl : j = n := by omega
        exact ⟨[(j : Int)], by simp, by rw [hdG_cons]⟩
    · rw [totL_append, h.tot]; rfl
theorem frm (M : List Cu) : ∀ n, Frm M n (frmV M n)
  | 0 => ⟨fun g hg => by simp [frmV] at hg, fun g hg => by simp [frmV] at hg, fun j hj => absurd hj (Nat.not_lt_zero _), rfl, Nat.le_refl _⟩
  | n + 1 => (frm M n).step
/-- The program's test: the first index of the model, held against the heads. -/
theorem Frm.first {M : List Cu} {n : Nat} {G : List (List Int)} (h : Frm M n G) {f : Nat} (hf : cuS.get M f = cuS.get M n) (hfirst : ∀ j, j < f → cuS.get M j ≠ cuS.get M n) {k : Nat} (hk : k < G.length) : (cuS.get M (hdG (cat' G k)) = cuS.get M n ↔ hdG (cat' G k) = f) := by
  have hmk : cat' G k ∈ G := by rw [cat_at hk]; exact List.getElem_mem hk
  obtain ⟨a, l, e, h1, h2⟩ := h.ne _ hmk
  rw [e, hdG_cons]
  constructor
  · intro h3
    rcases Nat.lt_trichotomy a f with h4 | h4 | h4
    · exact absurd h3 (hfirst a h4)
    · exact h4
    · exact absurd (hf.trans h3.symm) (h2 f h4)
  · rintro rfl; exact hf
/-- Where no group is met, the model is new. -/
theorem Frm.fresh {M : List Cu} {n : Nat} {G : List (List Int)} (h : Frm M n G) : ixG M G n < G.length ↔ ∃ j, j < n ∧ cuS.get M j = cuS.get M n := by
  constructor
  · intro hx
    have hmk : cat' G (ixG M G n) ∈ G := by rw [cat_at hx]; exact List.getElem_mem hx
    obtain ⟨a, l, e, h1, h2⟩ := h.ne _ hmk
    have := ix_at hx
    rw [e, hdG_cons] at this
    exact ⟨a, h1, this⟩
  · rintro ⟨j, hj, e⟩
    obtain ⟨g, hg, h2⟩ := h.all j hj
    obtain ⟨p, hp, rfl⟩ := List.getElem_of_mem hg
    rcases Nat.lt_or_ge p (ixG M G n) with h4 | h4
    · exact absurd (by rw [cat_at hp]; exact h2.trans e) (ix_before h4 hp)
    · omega
/-- The models of a list. -/
def mdl (L : List Cu) : List Cu := L.map (fun x => smC x.a x.b)
def okF (L : List Cu) : Bool := decide (L.length ≤ 20) && (List.range L.length).all (fun k => curveB (cuS.get L k).a (cuS.get L k).b)
def formsV (L : List Cu) : List (List Int) × Bool := if okF L then (frmV (mdl L) L.length, true) else ([], false)
theorem mdl_get {L : List Cu} {k : Nat} (h : k < L.length) : cuS.get (mdl L) k = smC (cuS.get L k).a (cuS.get L k).b := by
  unfold Shape.get mdl
  rw [List.getD_eq_getElem?_getD, List.getD_eq_getElem?_getD, List.getElem?_map, List.getElem?_eq_getElem h]
  rfl
theorem okF_long {L : List Cu} (h : 20 < L.length) : formsV L = ([], false) := by unfold formsV okF; rw [decide_eq_false (by omega)]; rfl
theorem okF_bad {L : List Cu} {k : Nat} (hk : k < L.length) (h : curveB (cuS.get L k).a (cuS.get L k).b = false) : formsV L = ([], false) := by
  unfold formsV okF
  have : (List.range L.length).all (fun k => curveB (cuS.get L k).a (cuS.get L k).b) = false := by rw [List.all_eq_false]; exact ⟨k, List.mem_range.2 hk, by simp [h]⟩
  rw [this, Bool.and_false]; rfl
theorem okF_yes {L : List Cu} (hl : L.length ≤ 20) (h : ∀ j, j < L.length → curveB (cuS.get L j).a (cuS.get L j).b = true) : formsV L = (frmV (mdl L) L.length, true) := by
  unfold formsV okF
  have : (List.range L.length).all (fun k => curveB (cuS.get L k).a (cuS.get L k).b) = true := by rw [List.all_eq_true]; exact fun k hk => h k (List.mem_range.1 hk)
  rw [this, decide_eq_true hl]; rfl
theorem okF_spec {L : List Cu} (h : okF L = true) : L.length ≤ 20 ∧ ∀ j, j < L.length → curveB (cuS.get L j).a (cuS.get L j).b = true := by
  unfold okF at h
  simp only [Bool.and_eq_true, decide_eq_true_eq, List.all_eq_true, List.mem_range] at h
  exact h
theorem totL_cells (ess : List (List Int)) : totL (cellsII ess) = totL ess := by
  unfold totL cellsII
  rw [List.map_map]
  congr 1
  apply List.map_congr_left
  intro e _
  simp
end Go.Proofs.Ytnhgdmhiblpknaa
