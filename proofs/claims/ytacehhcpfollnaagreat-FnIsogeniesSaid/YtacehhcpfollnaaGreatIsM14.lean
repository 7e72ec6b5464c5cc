/- Own texts put together: Rows of ints of a call's own, whatever the ints: kept, written, read, appended to; they are the cells of some list; The plain law of forms grouped by isomorphism; Own lemma that knows no program: a row of a slice of slices that an append grows, stored back in its place; The laws' own helpers at slices of ints; The laws' own helpers at slices of slices of ints; Forms grouped by isomorphism: the walks of both sides. Conditions: those of each theorem. -/
import Derived.Test.YtacehhcpfollnaaGreatIsM13
import Derived.Test.YtacehhcpfollnaaGreatIsM1
import Derived.Test.YtacehhcpfollnaaGreatIsM7
import Derived.Test.YtacehhcpfollnaaGreatRows
import Derived.Test.YtacehhcpfollnaaGreatIsM8
namespace Go.Proofs.YtacehhcpfollnaaGreat
section
open Go Go.RowKit

def AllI (xs : List Value) : Prop := ∀ u ∈ xs, ∃ i : Int, u = .int .i64 i
/-- A row of n elements of z ints each. -/
structure IR (w : World) (B : Nat) (t : TypeId) (z : Nat) (v : Value) (n : Nat) : Prop where
  ex : ∃ xs, w.ownsRow B t z v n xs ∧ AllI xs
theorem AllI.app {xs ys : List Value} (h : AllI xs) (k : AllI ys) : AllI (xs ++ ys) := fun u hu => (List.mem_append.1 hu).elim (h u) (k u)
theorem AllI.set {xs : List Value} (h : AllI xs) (j : Nat) (i : Int) : AllI (xs.set j (.int .i64 i)) := fun u hu => by
  rcases List.mem_or_eq_of_mem_set hu with h1 | h1
  · exact h u h1
  · exact ⟨i, h1⟩
theorem AllI.one {xs : List Value} (h : AllI xs) : ∀ u ∈ xs, u.oneCell' = true := fun u hu => by
  obtain ⟨i, rfl⟩ := h u hu
  rfl
section
variable {w w' : World} {B : Nat} {t : TypeId} {z n : Nat} {v : Value}
theorem IR.nil (w : World) (B : Nat) (t : TypeId) (z : Nat) : IR w B t z (.slice none 0 0) 0 := ⟨[], ⟨by simp, Or.inl ⟨rfl, rfl⟩⟩, by intro u hu; cases hu⟩
theorem IR.dg {g : Nat} (h : IR w B t z v n) (hd : Dg g w w') (hb : g < B) : IR w' B t z v n := let ⟨xs, h1, h2⟩ := h.ex; ⟨xs, own_dg h1 hd hb, h2⟩
theorem IR.on (h : IR w B t z v n) (hb : Below w.heap.size w w') : IR w' B t z v n := let ⟨xs, h1, h2⟩ := h.ex; ⟨xs, own_below h1 hb, h2⟩
theorem IR.alloc (h : IR w B t z v n) (o : Obj) : IR (w.alloc o) B t z v n := h.on (bal (Below.refl _ _) o)
theorem IR.mono {B' : Nat} (h : IR w B t z v n) (hb : B' ≤ B) : IR w B' t z v n := let ⟨xs, h1, h2⟩ := h.ex; ⟨xs, own_mono h1 hb, h2⟩
theorem IR.st (h : IR w B t z v n) {p : Addr} (hp : ∀ k, v.ownBlock = some k → k ≠ p.block) (u : Value) : IR (w.setCell p u) B t z v n := let ⟨xs, h1, h2⟩ := h.ex; ⟨xs, own_st h1 hp u, h2⟩
theorem IR.form (h : IR w B t z v n) : ∃ A c, v = .slice A n c ∧ n ≤ c ∧ c ≤ maxLen := by
  obtain ⟨xs, h1, -⟩ := h.ex
  rcases h1.2 with ⟨h', h0⟩ | ⟨g', cap', cur, h', hb, hg, hnc, hcm, -⟩
  · exact ⟨none, 0, by rw [h', h0], by omega, Nat.zero_le _⟩
  · exact ⟨_, _, h', hnc, hcm⟩
theorem IR.pos (h : IR w B t z v n) (h0 : 0 < n) : ∃ g c, v = .slice (some ⟨g, 0, none⟩) n c ∧ B ≤ g ∧ g < w.heap.size ∧ n ≤ c ∧ c ≤ maxLen := by
  obtain ⟨xs, h1, -⟩ := h.ex
  rcases h1.2 with ⟨h', h0'⟩ | ⟨g', cap', cur, h', hb, hg, hnc, hcm, -⟩
  · omega
  · exact ⟨_, _, h', hb, (Array.getElem?_eq_some_iff.1 hg).1, hnc, hcm⟩
theorem IR.lt (h : IR w B t z v n) : ∀ k, v.ownBlock = some k → B ≤ k ∧ k < w.heap.size := let ⟨_, h1, _⟩ := h.ex; World.ownsRow.lt h1
theorem IR.cell {g c : Nat} (h : IR w B t z (.slice (some ⟨g, 0, none⟩) n c) n) {j : Nat} (hj : j < n * z) : ∃ i : Int, w.cell? ⟨g, j, none⟩ = some (.int .i64 i) := by
  obtain ⟨xs, h1, h2⟩ := h.ex
  have hl : j < xs.length := by rw [h1.1]; exact hj
  obtain ⟨i, hi⟩ := h2 xs[j] (List.getElem_mem hl)
  exact ⟨i, by rw [h1.cellAt j hj, List.getElem?_eq_getElem hl, hi]⟩
theorem IR.frozen {g c : Nat} (h : IR w B t z (.slice (some ⟨g, 0, none⟩) n c) n) : ∀ i, w.frozen? ⟨g, i, none⟩ = false := let ⟨_, h1, _⟩ := h.ex; h1.frozenAt
theorem IR.set {g c : Nat} (h : IR w B t z (.slice (some ⟨g, 0, none⟩) n c) n) (j : Nat) (i : Int) : IR (w.setCell ⟨g, j, none⟩ (.int .i64 i)) B t z (.slice (some ⟨g, 0, none⟩) n c) n :=
  let ⟨xs, h1, h2⟩ := h.ex; ⟨xs.set j (.int .i64 i), (h1.stored j _).1, h2.set j i⟩
end
/-- Cells of ints are those of some list. -/
theorem flat_ex {E : Type} (S : Shape E) (mk : (Nat → Int) → E) (hmk : ∀ c j, j < S.size → S.cell (mk c) j = .int .i64 (c j)) : ∀ (n : Nat) (xs : List Value), xs.length = n * S.size → AllI xs → ∃ es : List E, es.length = n ∧ S.flat es = xs
  | 0, xs, hl, _ => ⟨[], rfl, by
      have : xs = [] := List.eq_nil_of_length_eq_zero (by omega)
      rw [this]; rfl⟩
  | n + 1, xs, hl, ha => by
    have hz : S.size ≤ xs.length := by rw [hl, Nat.add_mul]; omega
    obtain ⟨es, h1, h2⟩ := flat_ex S mk hmk n (xs.drop S.size) (by rw [List.length_drop, hl, Nat.add_mul]; omega) (fun u hu => ha u (List.mem_of_mem_drop hu))
    refine ⟨mk (fun j => match xs[j]? with | some (.int _ q) => q | _ => 0) :: es, by rw [List.length_cons, h1], ?_⟩
    have h3 : S.cells (mk (fun j => match xs[j]? with | some (.int _ q) => q | _ => 0)) = xs.take S.size := by
      apply List.ext_getElem
      · rw [Shape.length_cells, List.length_take]; omega
      · intro i h4 h5
        rw [Shape.length_cells] at h4
        have hi : i < xs.length := by omega
        simp only [Shape.cells, List.getElem_map, List.getElem_range, List.getElem_take]
        rw [hmk _ _ h4, List.getElem?_eq_getElem hi]
        obtain ⟨q, hq⟩ := ha xs[i] (List.getElem_mem hi)
        rw [hq]
    show S.cells _ ++ S.flat es = xs
    rw [h3, h2, List.take_append_drop]
def enMk9 (c : Nat → Int) : En := ⟨c 0, c 1, c 2, c 3, c 4⟩
theorem enMk9_cell (c : Nat → Int) (j : Nat) (hj : j < enS.size) : enS.cell (enMk9 c) j = .int .i64 (c j) := by
  match j, hj with
  | 0, _ => rfl
  | 1, _ => rfl
  | 2, _ => rfl
  | 3, _ => rfl
  | 4, _ => rfl
theorem en_allI (es : List En) : AllI (enS.flat es) := by
  intro u hu
  unfold Shape.flat at hu
  obtain ⟨x, -, hx⟩ := List.mem_flatMap.1 hu
  unfold Shape.cells at hx
  obtain ⟨j, hj, rfl⟩ := List.mem_map.1 hx
  have hj := List.mem_range.1 hj
  match j, hj with
  | 0, _ => exact ⟨_, rfl⟩
  | 1, _ => exact ⟨_, rfl⟩
  | 2, _ => exact ⟨_, rfl⟩
  | 3, _ => exact ⟨_, rfl⟩
  | 4, _ => exact ⟨_, rfl⟩
theorem IR.en {w : World} {B : Nat} {t : TypeId} {v : Value} {n : Nat} (h : IR w B t 5 v n) : ∃ es : List En, es.length = n ∧ w.ownsRow B t 5 v es.length (enS.flat es) := by
  obtain ⟨xs, h1, h2⟩ := h.ex
  obtain ⟨es, h3, h4⟩ := flat_ex enS enMk9 enMk9_cell n xs h1.1 h2
  exact ⟨es, h3, by rw [h3, h4]; exact h1⟩
theorem IR.of_en {w : World} {B : Nat} {t : TypeId} {v : Value} {es : List En} (h : w.ownsRow B t 5 v es.length (enS.flat es)) : IR w B t 5 v es.length := ⟨_, h, en_allI es⟩
end
section
open Go Go.RowKit

/-- The first index of a group. -/
def hdG (g : List Int) : Nat := (g.headD 0).toNat
def pG (M : List Cu) (i : Nat) (g : List Int) : Bool := decide (cuS.get M (hdG g) = cuS.get M i)
def ixG (M : List Cu) (G : List (List Int)) (i : Nat) : Nat := G.findIdx (pG M i)
def addG (M : List Cu) (G : List (List Int)) (i : Nat) : List (List Int) := if ixG M G i < G.length then G.set (ixG M G i) (cat' G (ixG M G i) ++ [(i : Int)]) else G ++ [[(i : Int)]]
def frmV (M : List Cu) : Nat → List (List Int)
  | 0 => []
  | n + 1 => addG M (frmV M n) n
/-- What holds of the groups of the first n. -/
structure Frm (M : List Cu) (n : Nat) (G : List (List Int)) : Prop where
  ne : ∀ g ∈ G, ∃ (h : Nat) (l : List Int), g = (h : Int) :: l ∧ h < n ∧ ∀ j, j < h → cuS.get M j ≠ cuS.get M h
  mem : ∀ g ∈ G, ∀ x ∈ g, ∃ j : Nat, x = (j : Int) ∧ j < n ∧ cuS.get M j = cuS.get M (hdG g)
  all : ∀ j, j < n → ∃ g ∈ G, cuS.get M (hdG g) = cuS.get M j
  tot : totL G = n
  len : G.length ≤ n
theorem hdG_cons (h : Nat) (l : List Int) : hdG ((h : Int) :: l) = h := by unfold hdG; simp
theorem hdG_app (g : List Int) (x : Int) (h : g ≠ []) : hdG (g ++ [x]) = hdG g := by
  cases g with
  | nil => exact absurd rfl h
  | cons a l => rfl
theorem totL_append {E : Type} (a b : List (List E)) : totL (a ++ b) = totL a + totL b := by unfold totL; simp
theorem totL_set {E : Type} : ∀ (G : List (List E)) (k : Nat) (g : List E), k < G.length → totL (G.set k g) + (cat' G k).length = totL G + g.length
  | [], k, g, h => by simp at h
  | a :: G, 0, g, _ => by unfold totL cat'; simp; omega
  | a :: G, k + 1, g, h => by
    have ih := totL_set G k g (by simpa using h)
    have e : cat' (a :: G) (k + 1) = cat' G k := rfl
    unfold totL at *
    rw [e]
    simp only [List.set_cons_succ, List.map_cons, List.sum_cons] at *
    omega
theorem cat_at {E : Type} {G : List (List E)} {k : Nat} (h : k < G.length) : cat' G k = G[k] := by
  unfold cat'; rw [List.getD_eq_getElem?_getD, List.getElem?_eq_getElem h]; rfl
theorem ix_at {M : List Cu} {G : List (List Int)} {i : Nat} (h : ixG M G i < G.length) : cuS.get M (hdG (cat' G (ixG M G i))) = cuS.get M i := by
  have h1 := List.findIdx_getElem (xs := G) (p := pG M i) (w := h)
  rw [cat_at h]
  unfold pG at h1
  exact of_decide_eq_true h1
theorem ix_before {M : List Cu} {G : List (List Int)} {i k : Nat} (h : k < ixG M G i) (hk : k < G.length) : cuS.get M (hdG (cat' G k)) ≠ cuS.get M i := by
  have h1 := List.not_of_lt_findIdx (xs := G) (p := pG M i) h
  rw [cat_at hk]
  unfold pG at h1
  exact of_decide_eq_false (by simpa using h1)
theorem ix_eq {M : List Cu} {G : List (List Int)} {i k : Nat} (hk : k < G.length) (he : cuS.get M (hdG (cat' G k)) = cuS.get M i) (h : ∀ j, j < k → cuS.get M (hdG (cat' G j)) ≠ cuS.get M i) : ixG M G i = k := by
  rcases Nat.lt_trichotomy (ixG M G i) k with h1 | h1 | h1
  · exact absurd (ix_at (Nat.lt_trans h1 hk)) (h _ h1)
  · exact h1
  · exact absurd he (ix_before h1 hk)
theorem ix_none {M : List Cu} {G : List (List Int)} {i : Nat} (h : ∀ j, j < G.length → cuS.get M (hdG (cat' G j)) ≠ cuS.get M i) : ixG M G i = G.length := by
  have h1 : ixG M G i ≤ G.length := List.findIdx_le_length
  rcases Nat.lt_or_ge (ixG M G i) G.length with h2 | h2
  · exact absurd (ix_at h2) (h _ h2)
  · omega
theorem Frm.step {M : List Cu} {n : Nat} {G : List (List Int)} (h : Frm M n G) : Frm M (n + 1) (addG M G n) := by
  unfold addG
  by_cases hx : ixG M G n < G.length
  · rw [if_pos hx]
    have hat := ix_at hx
    generalize ixG M G n = k at hx hat
    have hmk : cat' G k ∈ G := by rw [cat_at hx]; exact List.getElem_mem hx
    obtain ⟨h0, l0, e0, hn0, hf0⟩ := h.ne _ hmk
    have hne : cat' G k ≠ [] := by rw [e0]; simp
    refine ⟨fun g hg => ?_, fun g hg x hx2 => ?_, fun j hj => ?_, ?_, by rw [List.length_set]; have := h.len; omega⟩
    · rcases List.mem_or_eq_of_mem_set hg with hg | rfl
      · obtain ⟨a, l, e, h1, h2⟩ := h.ne g hg
        exact ⟨a, l, e, by omega, h2⟩
      · exact ⟨h0, l0 ++ [(n : Int)], by rw [e0]; rfl, by omega, hf0⟩
    · rcases List.mem_or_eq_of_mem_set hg with hg | rfl
      · obtain ⟨j, e, h1, h2⟩ := h.mem g hg x hx2
        exact ⟨j, e, by omega, h2⟩
      · rw [hdG_app _ _ hne]
        rw [List.mem_append, List.mem_singleton] at hx2
        rcases hx2 with hx2 | rfl
        · obtain ⟨j, e, h1, h2⟩ := h.mem _ hmk x hx2
          exact ⟨j, e, by omega, h2⟩
        · exact ⟨n, rfl, by omega, hat.symm⟩
    · have hnew : cat' G k ++ [(n : Int)] ∈ G.set k (cat' G k ++ [(n : Int)]) := List.mem_set hx _
      rcases Nat.lt_or_ge j n with h1 | h1
      · obtain ⟨g, hg, h2⟩ := h.all j h1
        obtain ⟨p, hp, rfl⟩ := List.getElem_of_mem hg
        by_cases hpk : p = k
        · subst hpk
          exact ⟨_, hnew, by rw [hdG_app _ _ hne, cat_at hx]; exact h2⟩
        · exact ⟨G[p], by rw [List.mem_iff_getElem]; exact ⟨p, by rw [List.length_set]; exact hp, by rw [List.getElem_set, if_neg (fun e => hpk e.symm)]⟩, h2⟩
      · obtain rfl : j = n := by omega
        exact ⟨_, hnew, by rw [hdG_app _ _ hne]; exact hat⟩
    · have := totL_set G k (cat' G k ++ [(n : Int)]) hx
      rw [List.length_append, List.length_singleton, h.tot] at this
      omega
  · rw [if_neg hx]
    have hnew : ∀ j, j < n → cuS.get M j ≠ cuS.get M n := by
      intro j hj e
      obtain ⟨g, hg, h2⟩ := h.all j hj
      obtain ⟨p, hp, rfl⟩ := List.getElem_of_mem hg
      have h3 : ixG M G n ≤ p := by
        rcases Nat.lt_or_ge p (ixG M G n) with h4 | h4
        · exact absurd (by rw [cat_at hp]; exact h2.trans e) (ix_before h4 hp)
        · exact h4
      omega
    refine ⟨fun g hg => ?_, fun g hg x hx2 => ?_, fun j hj => ?_, ?_, by rw [List.length_append, List.length_singleton]; have := h.len; omega⟩
    · rw [List.mem_append, List.mem_singleton] at hg
      rcases hg with hg | rfl
      · obtain ⟨a, l, e, h1, h2⟩ := h.ne g hg
        exact ⟨a, l, e, by omega, h2⟩
      · exact ⟨n, [], rfl, by omega, hnew⟩
    · rw [List.mem_append, List.mem_singleton] at hg
      rcases hg with hg | rfl
      · obtain ⟨j, e, h1, h2⟩ := h.mem g hg x hx2
        exact ⟨j, e, by omega, h2⟩
      · rw [List.mem_singleton] at hx2
        subst hx2
        exact ⟨n, rfl, by omega, by rw [hdG_cons]⟩
    · rcases Nat.lt_or_ge j n with h1 | h1
      · obtain ⟨g, hg, h2⟩ := h.all j h1
        exact ⟨g, List.mem_append_left _ hg, h2⟩
      · obtain rfl : j = n := by omega
        exact ⟨[(j : Int)], by simp, by rw [hdG_cons]⟩
    · rw [totL_append, h.tot]; rfl
theorem frm (M : List Cu) : ∀ n, Frm M n (frmV M n)
  | 0 => ⟨fun g hg => by simp [frmV] at hg, fun g hg => by simp [frmV] at hg, fun j hj => absurd hj (Nat.not_lt_zero _), rfl, Nat.le_refl _⟩
  | n + 1 => (frm M n).step
/-- The program's test: the first index of the model, held against the heads. -/
theorem Frm.first {M : List Cu} {n : Nat} {G : List (List Int)} (h : Frm M n G) {f : Nat} (hf : cuS.get M f = cuS.get M n) (hfirst : ∀ j, j < f → cuS.get M j ≠ cuS.get M n) {k : Nat} (hk : k < G.length) : (cuS.get M (hdG (cat' G k)) = cuS.get M n ↔ hdG (cat' G k) = f) := by
  have hmk : cat' G k ∈ G := by rw [cat_at hk]; exact List.getElem_mem hk
  obtain ⟨a, l, e, h1, h2⟩ := h.ne _ hmk
  rw [e, hdG_cons]
  constructor
  · intro h3
    rcases Nat.lt_trichotomy a f with h4 | h4 | h4
    · exact absurd h3 (hfirst a h4)
    · exact h4
    · exact absurd (hf.trans h3.symm) (h2 f h4)
  · rintro rfl; exact hf
/-- Where no group is met, the model is new. -/
theorem Frm.fresh {M : List Cu} {n : Nat} {G : List (List Int)} (h : Frm M n G) : ixG M G n < G.length ↔ ∃ j, j < n ∧ cuS.get M j = cuS.get M n := by
  constructor
  · intro hx
    have hmk : cat' G (ixG M G n) ∈ G := by rw [cat_at hx]; exact List.getElem_mem hx
    obtain ⟨a, l, e, h1, h2⟩ := h.ne _ hmk
    have := ix_at hx
    rw [e, hdG_cons] at this
    exact ⟨a, h1, this⟩
  · rintro ⟨j, hj, e⟩
    obtain ⟨g, hg, h2⟩ := h.all j hj
    obtain ⟨p, hp, rfl⟩ := List.getElem_of_mem hg
    rcases Nat.lt_or_ge p (ixG M G n) with h4 | h4
    · exact absurd (by rw [cat_at hp]; exact h2.trans e) (ix_before h4 hp)
    · omega
/-- The models of a list. -/
def mdl (L : List Cu) : List Cu := L.map (fun x => smC x.a x.b)
def okF (L : List Cu) : Bool := decide (L.length ≤ 20) && (List.range L.length).all (fun k => curveB (cuS.get L k).a (cuS.get L k).b)
def formsV (L : List Cu) : List (List Int) × Bool := if okF L then (frmV (mdl L) L.length, true) else ([], false)
theorem mdl_get {L : List Cu} {k : Nat} (h : k < L.length) : cuS.get (mdl L) k = smC (cuS.get L k).a (cuS.get L k).b := by
  unfold Shape.get mdl
  rw [List.getD_eq_getElem?_getD, List.getD_eq_getElem?_getD, List.getElem?_map, List.getElem?_eq_getElem h]
  rfl
theorem okF_long {L : List Cu} (h : 20 < L.length) : formsV L = ([], false) := by unfold formsV okF; rw [decide_eq_false (by omega)]; rfl
theorem okF_bad {L : List Cu} {k : Nat} (hk : k < L.length) (h : curveB (cuS.get L k).a (cuS.get L k).b = false) : formsV L = ([], false) := by
  unfold formsV okF
  have : (List.range L.length).all (fun k => curveB (cuS.get L k).a (cuS.get L k).b) = false := by rw [List.all_eq_false]; exact ⟨k, List.mem_range.2 hk, by simp [h]⟩
  rw [this, Bool.and_false]; rfl
theorem okF_yes {L : List Cu} (hl : L.length ≤ 20) (h : ∀ j, j < L.length → curveB (cuS.get L j).a (cuS.get L j).b = true) : formsV L = (frmV (mdl L) L.length, true) := by
  unfold formsV okF
  have : (List.range L.length).all (fun k => curveB (cuS.get L k).a (cuS.get L k).b) = true := by rw [List.all_eq_true]; exact fun k hk => h k (List.mem_range.1 hk)
  rw [this, decide_eq_true hl]; rfl
theorem okF_spec {L : List Cu} (h : okF L = true) : L.length ≤ 20 ∧ ∀ j, j < L.length → curveB (cuS.get L j).a (cuS.get L j).b = true := by
  unfold okF at h
  simp only [Bool.and_eq_true, decide_eq_true_eq, List.all_eq_true, List.mem_range] at h
  exact h
theorem totL_cells (ess : List (List Int)) : totL (cellsII ess) = totL ess := by
  unfold totL cellsII
  rw [List.map_map]
  congr 1
  apply List.map_congr_left
  intro e _
  simp
end
section
open Go Go.RowKit

theorem vat_setv_ne {vs : List Value} {j i : Nat} {u : Value} (h : i ≠ j) : vat (vs.set j u) i = vat vs i := by
  unfold vat; rw [List.getD_eq_getElem?_getD, List.getD_eq_getElem?_getD, List.getElem?_set_ne (fun e => h e.symm)]
theorem vat_setv_eq {vs : List Value} {j : Nat} {u : Value} (h : j < vs.length) : vat (vs.set j u) j = u := by
  unfold vat; rw [List.getD_eq_getElem?_getD, List.getElem?_set_self h]; rfl
theorem NOwn.grow {w w1 : World} {te ti : TypeId} {base hi g0 cap : Nat} {vs : List Value} {css : List (List Value)} (h : NOwn w te ti base hi (.slice (some ⟨g0, 0, none⟩) css.length cap) vs css) {j : Nat} (hj : j < css.length) {u : Value} {c : List Value}
    (hrow : w1.ownsRow base ti 1 u c.length c) (hg : w.grownBy w1 (vat vs j).ownBlock) (hat : u.ownBlock = (vat vs j).ownBlock ∨ u.ownBlock = some w.heap.size) (hhi : hi ≤ w.heap.size) :
    NOwn (w1.setCell ⟨g0, j, none⟩ u) te ti base (w1.setCell ⟨g0, j, none⟩ u).heap.size (.slice (some ⟨g0, 0, none⟩) (css.set j c).length cap) (vs.set j u) (css.set j c) ∧ w.grownBy w1 (vat vs j).ownBlock ∧ w1.grownBy (w1.setCell ⟨g0, j, none⟩ u) (some g0) := by
  have hl : (css.set j c).length = css.length := List.length_set
  have hob : (Value.slice (some ⟨g0, 0, none⟩) css.length cap).ownBlock = some g0 := rfl
  have hg0 : g0 < hi := h.vhi g0 hob
  have hv1 : vs.length = css.length := h.len
  have hout1 := World.ownsRow.kept h.out hg (own_ne (fun g h1 h2 => h.top j g hj h2 h1))
  have hst := hout1.stored j u
  have hu : ∀ g, u.ownBlock = some g → g ≠ g0 ∧ (∀ i, i < css.length → i ≠ j → (vat vs i).ownBlock ≠ some g) := by
    intro g hgu
    rcases hat with h1 | h1
    · rw [h1] at hgu
      exact ⟨fun e => h.top j g hj hgu (by rw [e]; exact hob), fun i hi2 hne h2 => h.apart i j g hi2 hj hne h2 hgu⟩
    · rw [h1] at hgu
      cases hgu
      refine ⟨by omega, fun i hi2 _ h2 => ?_⟩
      have := h.ihi i _ hi2 h2
      omega
  have hsz : (w1.setCell ⟨g0, j, none⟩ u).heap.size = w1.heap.size := World.size_setCell ..
  have hvat : ∀ i, i < css.length → (i = j ∧ vat (vs.set j u) i = u) ∨ (i ≠ j ∧ vat (vs.set j u) i = vat vs i) := by
    intro i hi2
    by_cases hij : i = j
    · subst hij; exact .inl ⟨rfl, vat_setv_eq (by omega)⟩
    · exact .inr ⟨hij, vat_setv_ne hij⟩
  refine ⟨⟨by rw [List.length_set, List.length_set]; exact hv1, by rw [hl]; exact hst.1, ?_, ?_, ?_, ?_, ?_⟩, hg, hst.2⟩
  · intro i hi2
    rw [hl] at hi2
    rcases hvat i hi2 with ⟨hij, e⟩ | ⟨hij, e⟩
    · subst hij
      rw [e, vat_set_eq hj]
      exact World.ownsRow.kept hrow hst.2 (by
        cases hb : u.ownBlock with
        | none => exact .inl rfl
        | some k => exact .inr (fun e2 => (hu k hb).1 (by cases e2; rfl)))
    · rw [e, vat_set_ne hij]
      have hk1 := World.ownsRow.kept (h.row i hi2) hg (own_ne (fun g h1 h2 => h.apart i j g hi2 hj hij h1 h2))
      exact World.ownsRow.kept hk1 hst.2 (by
        cases hb : (vat vs i).ownBlock with
        | none => exact .inl rfl
        | some k => exact .inr (fun e2 => h.top i k hi2 hb (by cases e2; exact hob)))
  · intro i k g hi2 hk2 hne h1 h2
    rw [hl] at hi2 hk2
    rcases hvat i hi2 with ⟨hij, e⟩ | ⟨hij, e⟩ <;> rcases hvat k hk2 with ⟨hkj, e2⟩ | ⟨hkj, e2⟩
    · exact hne (hij.trans hkj.symm)
    · rw [e] at h1; rw [e2] at h2; exact (hu g h1).2 k hk2 hkj h2
    · rw [e] at h1; rw [e2] at h2; exact (hu g h2).2 i hi2 hij h1
    · rw [e] at h1; rw [e2] at h2; exact h.apart i k g hi2 hk2 hne h1 h2
  · intro i g hi2 h1 h2
    rw [hl] at hi2
    have e3 : g = g0 := by
      have : (Value.slice (some ⟨g0, 0, none⟩) (css.set j c).length cap).ownBlock = some g0 := rfl
      rw [this] at h2; cases h2; rfl
    rcases hvat i hi2 with ⟨hij, e⟩ | ⟨hij, e⟩
    · rw [e] at h1; exact (hu g h1).1 e3
    · rw [e] at h1; exact h.top i g hi2 h1 (by rw [e3]; exact hob)
  · intro g h2
    have : (Value.slice (some ⟨g0, 0, none⟩) (css.set j c).length cap).ownBlock = some g0 := rfl
    rw [this] at h2; cases h2
    rw [hsz]
    have := hg.size
    omega
  · intro i g hi2 h1
    rw [hl] at hi2
    rw [hsz]
    rcases hvat i hi2 with ⟨hij, e⟩ | ⟨hij, e⟩
    · rw [e] at h1; exact (hrow.lt g h1).2
    · rw [e] at h1; have := h.ihi i g hi2 h1; have := hg.size; omega
end
section
open Go Go.RowKit

end
section
open Go Go.RowKit

theorem sl_cells {w : World} {g off n : Nat} {es : List Value} (h : ∀ k, k < n → ∀ j, j < slS.size → w.cell? ⟨g, off + k * slS.size + j, none⟩ = some (slS.cell (slS.get es k) j)) (k : Nat) (hk : k < n) : w.cell? ⟨g, off + k, none⟩ = some (vat es k) := by
  have := h k hk 0 (by decide)
  simp only [slS, Nat.mul_one, Nat.add_zero] at this
  exact this
end
section
open Go Go.RowKit

def qG (f : Int) (g : List Int) : Bool := g.isEmpty || g.headD 0 == f
def fxG (G : List (List Int)) (f : Int) : Int := if G.findIdx (qG f) < G.length then (G.findIdx (qG f) : Int) else -1
theorem fxG_at {G : List (List Int)} {f : Int} {k : Nat} (hk : k < G.length) (hq : qG f (cat' G k) = true) (h : ∀ j, j < k → qG f (cat' G j) = false) : fxG G f = k := by
  have e : G.findIdx (qG f) = k := by
    rcases Nat.lt_trichotomy (G.findIdx (qG f)) k with h1 | h1 | h1
    · have h2 := List.findIdx_getElem (xs := G) (p := qG f) (w := Nat.lt_trans h1 hk)
      have h3 := h _ h1
      rw [cat_at (Nat.lt_trans h1 hk)] at h3
      rw [h2] at h3; cases h3
    · exact h1
    · have h2 := List.not_of_lt_findIdx (xs := G) (p := qG f) h1
      rw [cat_at hk] at hq
      rw [hq] at h2; cases h2
  unfold fxG
  rw [e, if_pos hk]
theorem fxG_no {G : List (List Int)} {f : Int} (h : ∀ j, j < G.length → qG f (cat' G j) = false) : fxG G f = -1 := by
  unfold fxG
  rw [if_neg]
  intro h1
  have h2 := List.findIdx_getElem (xs := G) (p := qG f) (w := h1)
  have h3 := h _ h1
  rw [cat_at h1] at h3
  rw [h2] at h3; cases h3
theorem NOwn.growN {w w1 : World} {te ti : TypeId} {base hi g0 cap n : Nat} {vs : List Value} {css : List (List Value)} (hn : n = css.length) (h : NOwn w te ti base hi (.slice (some ⟨g0, 0, none⟩) n cap) vs css) {j : Nat} (hj : j < css.length) {u : Value} {c : List Value}
    (hrow : w1.ownsRow base ti 1 u c.length c) (hg : w.grownBy w1 (vat vs j).ownBlock) (hat : u.ownBlock = (vat vs j).ownBlock ∨ u.ownBlock = some w.heap.size) (hhi : hi ≤ w.heap.size) :
    NOwn (w1.setCell ⟨g0, j, none⟩ u) te ti base (w1.setCell ⟨g0, j, none⟩ u).heap.size (.slice (some ⟨g0, 0, none⟩) n cap) (vs.set j u) (css.set j c) := by
  subst hn
  have h1 := (h.grow hj hrow hg hat hhi).1
  rw [List.length_set] at h1
  exact h1
theorem own_slI {w : World} {b : Nat} {t : TypeId} {A : Option Addr} {n c : Nat} {vs : List Value} (h : w.ownsRow b t 1 (.slice A n c) n vs) (hn : n = vs.length) (k : Nat) (hk : k < n) :
    ∃ g, A = some ⟨g, 0, none⟩ ∧ b ≤ g ∧ g < w.heap.size ∧ w.cell? ⟨g, k, none⟩ = some (vat vs k) ∧ w.frozen? ⟨g, k, none⟩ = false := by
  rcases h.2 with ⟨h', h0⟩ | ⟨g, cap, cur, h', h1, h2, h3, h4, h5, h6⟩
  · omega
  · cases h'
    refine ⟨g, rfl, h1, (Array.getElem?_eq_some_iff.1 h2).1, ?_, h.frozenAt _⟩
    have hcell := h.cellAt k (by omega)
    rw [hcell]
    unfold vat
    rw [List.getD_eq_getElem?_getD, List.getElem?_eq_getElem (by omega)]
    rfl
theorem cells_set (G : List (List Int)) (j : Nat) (g : List Int) : cellsII (G.set j g) = (cellsII G).set j (g.map (Value.int .i64)) := by unfold cellsII; rw [List.map_set]
theorem cells_snoc (G : List (List Int)) (g : List Int) : cellsII (G ++ [g]) = cellsII G ++ [g.map (Value.int .i64)] := by unfold cellsII; rw [List.map_append]; rfl
theorem set_last (G : List (List Int)) (g : List Int) : (G ++ [[]]).set G.length g = G ++ [g] := by rw [List.set_append_right _ _ (Nat.le_refl _)]; simp
theorem cat_last (G : List (List Int)) : cat' (G ++ [[]]) G.length = [] := by unfold cat'; rw [List.getD_eq_getElem?_getD, List.getElem?_append_right (Nat.le_refl _)]; simp
theorem mdl_take {L : List Cu} {k : Nat} (h : k < L.length) : (mdl L).take (k + 1) = (mdl L).take k ++ [smC (cuS.get L k).a (cuS.get L k).b] := by
  have hk : k < (mdl L).length := by unfold mdl; rw [List.length_map]; exact h
  rw [List.take_succ_eq_append_getElem hk, ← mdl_get h, getCu hk]
theorem mdl_len (L : List Cu) : (mdl L).length = L.length := List.length_map ..
/-- Where a model is met first. -/
theorem atC_first {M : List Cu} {k : Nat} (hk : k < M.length) : ∃ f : Nat, atC M (cuS.get M k) = (f : Int) ∧ f ≤ k ∧ cuS.get M f = cuS.get M k ∧ ∀ j, j < f → cuS.get M j ≠ cuS.get M k := by
  have hm : cuS.get M k ∈ M := by rw [getCu hk]; exact List.getElem_mem hk
  have hlt := List.idxOf_lt_length_iff.2 hm
  have hg := List.getElem_idxOf hlt
  have hbef : ∀ j, j < M.idxOf (cuS.get M k) → cuS.get M j ≠ cuS.get M k := by
    intro j hj e
    have h2 := List.not_of_lt_findIdx (p := (· == cuS.get M k)) (xs := M) (i := j) hj
    rw [← getCu (Nat.lt_trans hj hlt), e] at h2
    simp at h2
  refine ⟨M.idxOf (cuS.get M k), by unfold atC; rw [if_pos hm], ?_, by rw [getCu hlt]; exact hg, hbef⟩
  rcases Nat.lt_or_ge k (M.idxOf (cuS.get M k)) with h1 | h1
  · exact absurd rfl (hbef k h1)
  · exact h1
/-- A group that is not empty: the closure asks for its head. -/
theorem Frm.qG {M : List Cu} {n : Nat} {G : List (List Int)} (h : Frm M n G) {k f : Nat} (hk : k < G.length) : qG (f : Int) (cat' G k) = decide (hdG (cat' G k) = f) := by
  have hmk : cat' G k ∈ G := by rw [cat_at hk]; exact List.getElem_mem hk
  obtain ⟨a, l, e, h1, h2⟩ := h.ne _ hmk
  rw [e, hdG_cons]
  unfold Proofs.YtacehhcpfollnaaGreat.qG
  simp only [List.isEmpty_cons, Bool.false_or, List.headD_cons]
  rw [Bool.eq_iff_iff]
  simp only [beq_iff_eq, decide_eq_true_eq]
  omega
end
end Go.Proofs.YtacehhcpfollnaaGreat
