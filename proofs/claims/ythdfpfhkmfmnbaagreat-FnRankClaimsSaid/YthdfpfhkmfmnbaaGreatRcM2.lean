/- Own texts put together: Own lemmas that know no program: a slice of slices of the call's own, and one that reads as a list of lists; Own lemmas that know no program: copies into a row of the call's own; an element put into a list; Own lemmas that know no program: appends inside a region that draws its order; Small facts that the descent's texts share; Sorting and compacting an own row of ints, cloning, asking for a member: the shelf's contracts in own words; Strictly increasing lists of ints: sorted and compacted ones, one put in; a list is told by its members; Own lemma that knows no program: an append onto a row of the call's own, whatever the other slice. Conditions: those of each theorem. -/
import Derived.Test.YthdfpfhkmfmnbaaGreatRcM1
import Derived.Shelf.Spec.SlicesInsert
import Derived.Lib.AppendZerosOnto
import Derived.Lib.Overlaps
import Derived.Deep.RegionLaw
import Derived.Deep.RegionHeld3
import Derived.Maps.AppendAt
import Derived.IntWalk
import Derived.Deep.DeepCutAuto
import Derived.RegionTactic
import Derived.BigRegion
import Derived.Test.YthdfpfhkmfmnbaaGreatShelf
import Derived.Sort.Grow
namespace Go.Proofs.YthdfpfhkmfmnbaaGreat
section
open Go Go.RowKit

def slS : Shape Value := ⟨1, fun v _ => v, .slice none 0 0⟩
theorem slS_flat : ∀ vs : List Value, slS.flat vs = vs
  | [] => rfl
  | v :: vs => by
    have ih := slS_flat vs
    simp only [Shape.flat, List.flatMap_cons] at ih ⊢
    rw [ih]; rfl
theorem inS_flat : ∀ es : List Int, inS.flat es = es.map (Value.int .i64)
  | [] => rfl
  | e :: es => by
    have ih := inS_flat es
    simp only [Shape.flat, List.flatMap_cons] at ih ⊢
    rw [ih]; rfl

/-- The k-th of a list of values, of a list of lists. -/
def vat (vs : List Value) (k : Nat) : Value := vs.getD k (.slice none 0 0)
def cat' {E : Type} (css : List (List E)) (k : Nat) : List E := css.getD k []
theorem vat_app_lt {vs ws : List Value} {k : Nat} (h : k < vs.length) : vat (vs ++ ws) k = vat vs k := by
  unfold vat; rw [List.getD_eq_getElem?_getD, List.getD_eq_getElem?_getD, List.getElem?_append_left h]
theorem vat_app_eq {vs : List Value} {u : Value} {k : Nat} (h : k = vs.length) : vat (vs ++ [u]) k = u := by
  subst h; unfold vat; rw [List.getD_eq_getElem?_getD, List.getElem?_append_right (Nat.le_refl _)]; simp
theorem cat_app_lt {E : Type} {vs ws : List (List E)} {k : Nat} (h : k < vs.length) : cat' (vs ++ ws) k = cat' vs k := by
  unfold cat'; rw [List.getD_eq_getElem?_getD, List.getD_eq_getElem?_getD, List.getElem?_append_left h]
theorem cat_app_eq {E : Type} {vs : List (List E)} {u : List E} {k : Nat} (h : k = vs.length) : cat' (vs ++ [u]) k = u := by
  subst h; unfold cat'; rw [List.getD_eq_getElem?_getD, List.getElem?_append_right (Nat.le_refl _)]; simp

/-- A slice of slices that the call made: te is the slices' type, ti their elements'; all its blocks lie from base on and below hi, and no two of them are one. -/
structure NOwn (w : World) (te ti : TypeId) (base hi : Nat) (v : Value) (vs : List Value) (css : List (List Value)) : Prop where
  len : vs.length = css.length
  out : w.ownsRow base te 1 v css.length vs
  row : ∀ i, i < css.length → w.ownsRow base ti 1 (vat vs i) (cat' css i).length (cat' css i)
  apart : ∀ i j g, i < css.length → j < css.length → i ≠ j → (vat vs i).ownBlock = some g → (vat vs j).ownBlock = some g → False
  top : ∀ i g, i < css.length → (vat vs i).ownBlock = some g → v.ownBlock = some g → False
  vhi : ∀ g, v.ownBlock = some g → g < hi
  ihi : ∀ i g, i < css.length → (vat vs i).ownBlock = some g → g < hi

theorem own_ne {u v : Value} (H : ∀ k, v.ownBlock = some k → u.ownBlock = some k → False) : v.ownBlock = none ∨ v.ownBlock ≠ u.ownBlock := by
  cases h : v.ownBlock with
  | none => exact .inl rfl
  | some k => exact .inr (fun e => H k h e.symm)
section
variable {w w' : World} {te ti : TypeId} {base hi : Nat} {v : Value} {vs : List Value} {css : List (List Value)}
theorem NOwn.nil (w : World) (te ti : TypeId) (base hi : Nat) : NOwn w te ti base hi (.slice none 0 0) [] [] where
  len := rfl
  out := ⟨rfl, Or.inl ⟨rfl, rfl⟩⟩
  row i h := absurd h (by simp)
  apart i j g h := absurd h (by simp)
  top i g h := absurd h (by simp)
  vhi g h := absurd h (by simp [Value.ownBlock])
  ihi i g h := absurd h (by simp)
theorem NOwn.on (h : NOwn w te ti base hi v vs css) (hb : Below w.heap.size w w') : NOwn w' te ti base hi v vs css :=
  ⟨h.len, own_below h.out hb, fun i hi => own_below (h.row i hi) hb, h.apart, h.top, h.vhi, h.ihi⟩
theorem NOwn.more {hi' : Nat} (h : NOwn w te ti base hi v vs css) (hh : hi ≤ hi') : NOwn w te ti base hi' v vs css :=
  ⟨h.len, h.out, h.row, h.apart, h.top, fun g hg => Nat.lt_of_lt_of_le (h.vhi g hg) hh, fun i g hi hg => Nat.lt_of_lt_of_le (h.ihi i g hi hg) hh⟩
theorem NOwn.less {base' : Nat} (h : NOwn w te ti base hi v vs css) (hh : base' ≤ base) : NOwn w te ti base' hi v vs css :=
  ⟨h.len, own_mono h.out hh, fun i hi => own_mono (h.row i hi) hh, h.apart, h.top, h.vhi, h.ihi⟩
/-- Behind a change of one block that is none of its own. -/
theorem NOwn.kept {row : Option Nat} (h : NOwn w te ti base hi v vs css) (hg : w.grownBy w' row) (hr : ∀ g, row = some g → g < base ∨ hi ≤ g) : NOwn w' te ti base hi v vs css := by
  have key : ∀ u : Value, (∀ g, u.ownBlock = some g → base ≤ g ∧ g < hi) → u.ownBlock = none ∨ u.ownBlock ≠ row := by
    intro u hu
    cases hub : u.ownBlock with
    | none => exact .inl rfl
    | some k =>
      refine .inr (fun e => ?_)
      have h1 := hu k hub
      have h2 := hr k e.symm
      omega
  exact ⟨h.len, World.ownsRow.kept h.out hg (key v (fun g hb => ⟨(h.out.lt g hb).1, h.vhi g hb⟩)), fun i hi2 => World.ownsRow.kept (h.row i hi2) hg (key _ (fun g hb => ⟨((h.row i hi2).lt g hb).1, h.ihi i g hi2 hb⟩)), h.apart, h.top, h.vhi, h.ihi⟩
/-- One slice more, behind the append of it: 'u' lies in a block of its own. -/
theorem NOwn.snoc {v' u : Value} {c : List Value} {w0 : World} (h : NOwn w0 te ti base hi v vs css) (hg : w0.grownBy w' v.ownBlock) (hout : w'.ownsRow base te 1 v' (css.length + 1) (vs ++ [u])) (hat : v'.ownBlock = v.ownBlock ∨ v'.ownBlock = some w0.heap.size)
    (hu : w0.ownsRow base ti 1 u c.length c) (hu1 : ∀ g, u.ownBlock = some g → hi ≤ g ∧ g < w0.heap.size) (hhi : hi ≤ w0.heap.size) : NOwn w' te ti base w'.heap.size v' (vs ++ [u]) (css ++ [c]) := by
  have hvb : ∀ g, v'.ownBlock = some g → (v.ownBlock = some g) ∨ g = w0.heap.size := by
    intro g hgv
    rcases hat with h1 | h1
    · exact .inl (h1 ▸ hgv)
    · rw [h1] at hgv; injection hgv with hgv; exact .inr hgv.symm
  have hin : ∀ i, i < css.length → vat (vs ++ [u]) i = vat vs i := fun i hi2 => vat_app_lt (by rw [h.len]; exact hi2)
  have hlast : vat (vs ++ [u]) css.length = u := vat_app_eq h.len.symm
  have hlt : ∀ i g, i < css.length + 1 → (vat (vs ++ [u]) i).ownBlock = some g → (i < css.length ∧ (vat vs i).ownBlock = some g) ∨ (i = css.length ∧ u.ownBlock = some g) := by
    intro i g hi2 hb
    rcases Nat.lt_or_ge i css.length with h1 | h1
    · rw [hin i h1] at hb; exact .inl ⟨h1, hb⟩
    · obtain rfl : i = css.length := by omega
      rw [hlast] at hb; exact .inr ⟨rfl, hb⟩
  refine ⟨by rw [List.length_append, List.length_append, h.len]; rfl, by rw [List.length_append]; exact hout, ?_, ?_, ?_, ?_, ?_⟩
  · intro i hi2
    rw [List.length_append, List.length_singleton] at hi2
    rcases Nat.lt_or_ge i css.length with h1 | h1
    · rw [hin i h1, cat_app_lt h1]
      refine World.ownsRow.kept (h.row i h1) hg (own_ne (fun g hb hr => ?_))
      exact h.top i g h1 hb hr
    · obtain rfl : i = css.length := by omega
      rw [hlast, cat_app_eq rfl]
      refine World.ownsRow.kept hu hg (own_ne (fun g hb hr => ?_))
      have h2 := h.vhi g hr
      have h3 := (hu1 g hb).1
      omega
  · intro i j g hi2 hj2 hne h1 h2
    rw [List.length_append, List.length_singleton] at hi2 hj2
    rcases hlt i g hi2 h1 with ⟨a1, a2⟩ | ⟨a1, a2⟩ <;> rcases hlt j g hj2 h2 with ⟨b1, b2⟩ | ⟨b1, b2⟩
    · exact h.apart i j g a1 b1 hne a2 b2
    · have := h.ihi i g a1 a2; have := (hu1 g b2).1; omega
    · have := h.ihi j g b1 b2; have := (hu1 g a2).1; omega
    · omega
  · intro i g hi2 h1 h2
    rw [List.length_append, List.length_singleton] at hi2
    rcases hlt i g hi2 h1 with ⟨a1, a2⟩ | ⟨a1, a2⟩ <;> rcases hvb g h2 with b | b
    · exact h.top i g a1 a2 b
    · have := h.ihi i g a1 a2; omega
    · have := h.vhi g b; have := (hu1 g a2).1; omega
    · have := (hu1 g a2).2; omega
  · intro g h1
    exact (hout.lt g h1).2
  · intro i g hi2 h1
    rw [List.length_append, List.length_singleton] at hi2
    have hs := hg.size
    rcases hlt i g hi2 h1 with ⟨a1, a2⟩ | ⟨a1, a2⟩
    · have := h.ihi i g a1 a2; omega
    · have := (hu1 g a2).2; omega
end

/-- The slice value v reads, in the world w, as a list of lists of ints. -/
def NRd (w : World) (hi : Nat) (v : Value) (ess : List (List Int)) : Prop :=
  ∃ vs : List Value, vs.length = ess.length ∧ Rd slS w hi v vs ∧ ∀ i, i < ess.length → Rd inS w hi (vat vs i) (cat' ess i)
theorem NRd.on {w w' : World} {v : Value} {ess : List (List Int)} (h : NRd w w.heap.size v ess) (hb : Below w.heap.size w w') : NRd w' w'.heap.size v ess := by
  obtain ⟨vs, h1, h2, h3⟩ := h
  exact ⟨vs, h1, h2.on hb, fun i hi => (h3 i hi).on hb⟩
def cellsII (ess : List (List Int)) : List (List Value) := ess.map (fun es => es.map (Value.int .i64))
theorem cat_cellsII {ess : List (List Int)} {i : Nat} (h : i < ess.length) : cat' (cellsII ess) i = (cat' ess i).map (Value.int .i64) := by
  unfold cat' cellsII
  rw [List.getD_eq_getElem?_getD, List.getD_eq_getElem?_getD, List.getElem?_map, List.getElem?_eq_getElem h]; rfl
theorem NRd.of_own {w : World} {te ti : TypeId} {base hi : Nat} {v : Value} {vs : List Value} {ess : List (List Int)} (h : NOwn w te ti base hi v vs (cellsII ess)) : NRd w w.heap.size v ess := by
  have hl : (cellsII ess).length = ess.length := by simp [cellsII]
  refine ⟨vs, by rw [h.len, hl], Rd.of_own (S := slS) (n := (cellsII ess).length) (by rw [slS_flat]; exact h.out) h.len.symm, fun i hi2 => ?_⟩
  have h1 := h.row i (by rw [hl]; exact hi2)
  rw [cat_cellsII hi2] at h1
  exact Rd.of_own (S := inS) (n := ((cat' ess i).map (Value.int .i64)).length) (by rw [inS_flat]; exact h1) (by simp)

/-! ### Changes within a stretch of blocks -/
structure Mid (base hi : Nat) (w w' : World) : Prop where
  os : w'.os = w.os
  tape : w'.tape = w.tape
  output : w'.output = w.output
  size : w.heap.size ≤ w'.heap.size
  block : ∀ i, i < w.heap.size → (i < base ∨ hi ≤ i) → w'.heap[i]? = w.heap[i]?
section
variable {w w1 w2 : World} {base hi : Nat}
theorem Mid.refl (w : World) : Mid base hi w w := ⟨rfl, rfl, rfl, Nat.le_refl _, fun _ _ _ => rfl⟩
theorem Mid.trans (h : Mid base hi w w1) (k : Mid base hi w1 w2) : Mid base hi w w2 :=
  ⟨k.os.trans h.os, k.tape.trans h.tape, k.output.trans h.output, Nat.le_trans h.size k.size, fun i h1 h2 => (k.block i (Nat.lt_of_lt_of_le h1 h.size) h2).trans (h.block i h1 h2)⟩
theorem Mid.of_grown {row : Option Nat} (h : w.grownBy w1 row) (hr : ∀ g, row = some g → base ≤ g ∧ g < hi) : Mid base hi w w1 :=
  ⟨h.os, h.tape, h.output, h.size, fun i h1 h2 => h.block i h1 (fun e => by have := hr i e.symm; omega)⟩
theorem Mid.of_below (h : Below w.heap.size w w1) : Mid base hi w w1 := ⟨h.os, h.tape, h.output, h.size, fun i h1 _ => h.block i h1⟩
theorem Mid.below (h : Mid base hi w w1) {B : Nat} (hB : B ≤ base) (hs : base ≤ w.heap.size) : Below B w w1 := ⟨h.os, h.tape, h.output, h.size, fun i hi2 => h.block i (by omega) (.inl (by omega))⟩
/-- A row that lies without the stretch. -/
theorem Mid.own {b : Nat} {e : TypeId} {size : Nat} {v : Value} {n : Nat} {xs : List Value} (h : Mid base hi w w1) (ho : w.ownsRow b e size v n xs) (hr : ∀ g, v.ownBlock = some g → g < base ∨ hi ≤ g) : w1.ownsRow b e size v n xs := by
  refine ⟨ho.1, ?_⟩
  rcases ho.2 with h1 | ⟨g, cap, cur, h1, h2, h3, h4⟩
  · exact .inl h1
  · refine .inr ⟨g, cap, cur, h1, h2, ?_, h4⟩
    rw [h.block g (Array.getElem?_eq_some_iff.1 h3).1 (hr g (by rw [h1]; rfl))]
    exact h3
theorem Mid.blk {g : Nat} {t : TypeId} {cs : Array Value} (h : Mid base hi w w1) (hb : Blk w g t cs) (hr : g < base ∨ hi ≤ g) : Blk w1 g t cs := (h.block g hb.lt hr).trans hb
theorem Mid.nown {te ti : TypeId} {b2 hi2 : Nat} {v : Value} {vs : List Value} {css : List (List Value)} (h : Mid base hi w w1) (ho : NOwn w te ti b2 hi2 v vs css) (hr : hi2 ≤ base ∨ hi ≤ b2) : NOwn w1 te ti b2 hi2 v vs css :=
  ⟨ho.len, h.own ho.out (fun g hg => by have := ho.vhi g hg; have := (ho.out.lt g hg).1; omega), fun i hi3 => h.own (ho.row i hi3) (fun g hg => by have := ho.ihi i g hi3 hg; have := ((ho.row i hi3).lt g hg).1; omega), ho.apart, ho.top, ho.vhi, ho.ihi⟩
end

theorem vat_set_ne {E : Type} {css : List (List E)} {j i : Nat} {c : List E} (h : i ≠ j) : cat' (css.set j c) i = cat' css i := by
  unfold cat'
  rw [List.getD_eq_getElem?_getD, List.getD_eq_getElem?_getD, List.getElem?_set_ne (fun e => h e.symm)]
theorem vat_set_eq {E : Type} {css : List (List E)} {j : Nat} {c : List E} (h : j < css.length) : cat' (css.set j c) j = c := by
  unfold cat'
  rw [List.getD_eq_getElem?_getD, List.getElem?_set_self h]; rfl
/-- One row is written anew. -/
theorem NOwn.put {w w' : World} {te ti : TypeId} {base hi : Nat} {v : Value} {vs : List Value} {css : List (List Value)} (h : NOwn w te ti base hi v vs css) {j : Nat} (hj : j < css.length) {c : List Value} (hrow : w'.ownsRow base ti 1 (vat vs j) c.length c) (hg : w.grownBy w' (vat vs j).ownBlock) :
    NOwn w' te ti base hi v vs (css.set j c) := by
  have hl : (css.set j c).length = css.length := List.length_set
  refine ⟨by rw [hl, h.len], by rw [hl]; exact World.ownsRow.kept h.out hg (own_ne (fun g h1 h2 => h.top j g hj h2 h1)), ?_, ?_, ?_, h.vhi, ?_⟩
  · intro i hi2
    rw [hl] at hi2
    by_cases hij : i = j
    · subst hij
      rw [vat_set_eq hj]
      exact hrow
    · rw [vat_set_ne hij]
      exact World.ownsRow.kept (h.row i hi2) hg (own_ne (fun g h1 h2 => h.apart i j g hi2 hj hij h1 h2))
  · intro i k g hi2 hk2; rw [hl] at hi2 hk2; exact h.apart i k g hi2 hk2
  · intro i g hi2; rw [hl] at hi2; exact h.top i g hi2
  · intro i g hi2; rw [hl] at hi2; exact h.ihi i g hi2

/-! ### Marks in a slice of slices -/
def totL {E : Type} (css : List (List E)) : Nat := (css.map List.length).sum
def mkII (k0 : Int) : List (List Value) → List (List Value)
  | [] => []
  | c :: cs => marks k0 c.length :: mkII (k0 + c.length) cs
theorem length_mkII : ∀ (css : List (List Value)) (k0 : Int), (mkII k0 css).length = css.length
  | [], _ => rfl
  | c :: cs, k0 => by simp [mkII, length_mkII cs]
theorem totL_take_succ {E : Type} {css : List (List E)} {j : Nat} (h : j < css.length) : totL (css.take (j + 1)) = totL (css.take j) + (cat' css j).length := by
  unfold totL cat'
  rw [List.take_succ_eq_append_getElem h, List.map_append, List.sum_append, List.getD_eq_getElem?_getD, List.getElem?_eq_getElem h]
  simp
theorem totL_take_le {E : Type} (css : List (List E)) (j : Nat) : totL (css.take j) ≤ totL css := by
  have h : totL css = totL (css.take j) + totL (css.drop j) := by
    unfold totL
    rw [← List.sum_append, ← List.map_append, List.take_append_drop]
  omega
theorem cat_len_le {E : Type} (css : List (List E)) {j : Nat} (h : j < css.length) : (cat' css j).length ≤ totL css := by
  have h1 := totL_take_succ h
  have h2 := totL_take_le css (j + 1)
  omega
/-- The first j rows are marked. -/
theorem mkII_step : ∀ (css : List (List Value)) (k0 : Int) (j : Nat), j < css.length → (mkII k0 (css.take j) ++ css.drop j).set j (marks (k0 + totL (css.take j)) (cat' css j).length) = mkII k0 (css.take (j + 1)) ++ css.drop (j + 1)
  | [], _, _, h => by simp at h
  | c :: cs, k0, 0, _ => by simp [mkII, totL, cat']
  | c :: cs, k0, j + 1, h => by
    have ih := mkII_step cs (k0 + c.length) j (by simpa using h)
    have e : cat' (c :: cs) (j + 1) = cat' cs j := by simp [cat']
    have e2 : k0 + (totL ((c :: cs).take (j + 1)) : Int) = (k0 + c.length) + totL (cs.take j) := by
      simp only [totL, List.take_succ_cons, List.map_cons, List.sum_cons]
      omega
    rw [e, e2]
    simp only [List.take_succ_cons, mkII, List.cons_append, List.drop_succ_cons, List.set_cons_succ]
    rw [ih]
theorem mkII_cat : ∀ (css : List (List Value)) (k0 : Int) (j : Nat), j < css.length → cat' (mkII k0 css) j = marks (k0 + totL (css.take j)) (cat' css j).length
  | [], _, _, h => by simp at h
  | c :: cs, k0, 0, _ => by simp [mkII, totL, cat']
  | c :: cs, k0, j + 1, h => by
    have ih := mkII_cat cs (k0 + c.length) j (by simpa using h)
    have e : cat' (c :: cs) (j + 1) = cat' cs j := by simp [cat']
    have e3 : cat' (mkII k0 (c :: cs)) (j + 1) = cat' (mkII (k0 + c.length) cs) j := by simp [cat', mkII]
    have e2 : k0 + (totL ((c :: cs).take (j + 1)) : Int) = (k0 + c.length) + totL (cs.take j) := by
      simp only [totL, List.take_succ_cons, List.map_cons, List.sum_cons]
      omega
    rw [e, e2, e3, ih]
end
section
open Go Go.RowKit

def ins {E : Type} (es : List E) (k : Nat) (u : E) : List E := es.take k ++ u :: es.drop k
theorem length_ins {E : Type} (es : List E) (k : Nat) (u : E) : (ins es k u).length = es.length + 1 := by
  unfold ins
  rw [List.length_append, List.length_cons, List.length_take, List.length_drop]
  omega
theorem ins_end {E : Type} (es : List E) (u : E) : ins es es.length u = es ++ [u] := by simp [ins]
section
variable {E : Type} {S : Shape E}
theorem flat_cons (y : E) (ys : List E) : S.flat (y :: ys) = S.cells y ++ S.flat ys := by simp [Shape.flat]
theorem flat_ins (es : List E) (k : Nat) (u : E) : S.flat (ins es k u) = S.flat (es.take k) ++ (S.cells u ++ S.flat (es.drop k)) := by
  unfold ins
  rw [Shape.flat_append, flat_cons]
theorem flat_cut (es : List E) (k : Nat) : S.flat es = S.flat (es.take k) ++ S.flat (es.drop k) := by
  rw [← Shape.flat_append, List.take_append_drop]
end
theorem lay_mid {u D X : List Value} (h : X.length = u.length + D.length) : lay X u.length D = X.take u.length ++ D := by
  have h1 := lay_over D (X.take u.length) (X.drop u.length) [] (by rw [List.length_drop]; omega)
  rw [List.append_nil, List.append_nil, List.take_append_drop, List.length_take, Nat.min_eq_left (by omega)] at h1
  exact h1
theorem lay_shift {A D Z u : List Value} (hz : Z.length = u.length) : lay (lay (A ++ (D ++ Z)) (A.length + u.length) D) A.length u = A ++ (u ++ D) := by
  rw [lay_right D A (D ++ Z) (A.length + u.length) (by omega), show A.length + u.length - A.length = u.length by omega, lay_mid (u := u) (D := D) (X := D ++ Z) (by rw [List.length_append]; omega)]
  exact lay_over u A ((D ++ Z).take u.length) D (by rw [List.length_take, List.length_append]; omega)
theorem lay_shift2 {A D R u : List Value} (h : R.length = u.length + D.length) : lay (lay (A ++ R) A.length u) (A.length + u.length) D = A ++ (u ++ D) := by
  have h1 := lay_over u A (R.take u.length) (R.drop u.length) (by rw [List.length_take]; omega)
  rw [List.take_append_drop] at h1
  rw [h1, lay_right D A (u ++ R.drop u.length) (A.length + u.length) (by omega), show A.length + u.length - A.length = u.length by omega, lay_mid (u := u) (D := D) (X := u ++ R.drop u.length) (by rw [List.length_append, List.length_drop]; omega)]
  rw [List.take_left]

section
variable {P : Program}
theorem run_copy_k (w : World) (dT sT ty elem : TypeId) (b o dLen dCap : Nat) (a : Addr) (sLen sCap size : Nat) (cs : List Value)
    (hu : P.underlying dT = some (.slice elem)) (hs : (P.info? elem).map (·.size) = some size) (hn : cs.length = Nat.min sLen dLen * size)
    (hsrc : ∀ j v, cs[j]? = some v → w.cell? (a.add j) = some v) (hc : ∀ j, j < cs.length → (w.cell? ⟨b, o + j, none⟩).isSome = true) (hf : ∀ j, j < cs.length → w.frozen? ⟨b, o + j, none⟩ = false) (h1 : ∀ v ∈ cs, v.oneCell' = true) :
    (Builtin.copy_ #[dT, sT] ty #[.slice (some ⟨b, o, none⟩) dLen dCap, .slice (some a) sLen sCap]).run P w = .ok (goInt (Nat.min sLen dLen)) (w.setCells b o cs) := by
  have hst := run_storeCells_cells (P := P) b o cs 0 w (by simpa using hc) (by simpa using hf) h1
  have hl := run_firstCells_some (P := P) w size (Nat.min sLen dLen) a sLen sCap cs hn hsrc
  simp only [Nat.add_zero] at hst
  cases hq : P.info? elem with
  | none => simp [hq] at hs
  | some i =>
    have hi : i.size = size := by simpa [hq] using hs
    subst hi
    simp [Builtin.copy_, run_underlying hu, Builtin.lenOf, sizeOf, typeInfo, hq, hl, hst]
variable {w : World} {base : Nat} {e : TypeId} {size g n cap : Nat} {xs : List Value}
/-- A copy into a row of the call's own. -/
theorem run_copy_own {t : TypeId} (hu : P.underlying t = some (.slice e)) (hs : (P.info? e).map (·.size) = some size) (h : w.ownsRow base e size (.slice (some ⟨g, 0, none⟩) n cap) n xs)
    {a : Addr} {cs : List Value} {o dLen sLen : Nat} (hn : cs.length = Nat.min sLen dLen * size) (hfit : o + cs.length ≤ n * size) (hsrc : ∀ j v, cs[j]? = some v → w.cell? (a.add j) = some v) (h1 : ∀ v ∈ cs, v.oneCell' = true) (ty : TypeId) (dCap sCap : Nat) :
    (Builtin.copy_ #[t, t] ty #[.slice (some ⟨g, o, none⟩) dLen dCap, .slice (some a) sLen sCap]).run P w = .ok (goInt (Nat.min sLen dLen)) (w.setCells g o cs) :=
  run_copy_k w t t ty e g o dLen dCap a sLen sCap size cs hu hs hn hsrc
    (fun j hj => by
      have hlt : o + j < xs.length := by rw [h.1]; omega
      rw [h.cellAt (o + j) (by omega), List.getElem?_eq_getElem hlt]; rfl)
    (fun j _ => h.frozenAt _) h1
theorem own_more (h : w.ownsRow base e size (.slice (some ⟨g, 0, none⟩) n cap) n xs) (hc : n + 1 ≤ cap) : ∃ zs, zs.length = size ∧ w.ownsRow base e size (.slice (some ⟨g, 0, none⟩) (n + 1) cap) (n + 1) (xs ++ zs) := by
  rcases h.2 with ⟨h', _⟩ | ⟨g', cap', cur, h', hb, hg, hnc, hcm, hcs, htake⟩
  · simp at h'
  · simp only [Value.slice.injEq, Option.some.injEq, Addr.mk.injEq, and_true, true_and] at h'
    obtain ⟨rfl, rfl⟩ := h'
    have hm : (n + 1) * size ≤ cap * size := Nat.mul_le_mul_right _ hc
    have he : (n + 1) * size = n * size + size := by rw [Nat.add_mul, Nat.one_mul]
    have hsz : (cur.toList.take ((n + 1) * size)).length = (n + 1) * size := by rw [List.length_take, Array.length_toList, hcs]; omega
    refine ⟨(cur.toList.take ((n + 1) * size)).drop (n * size), by rw [List.length_drop, hsz]; omega, ?_, .inr ⟨g, cap, cur, rfl, hb, hg, hc, hcm, hcs, ?_⟩⟩
    · rw [List.length_append, h.1, List.length_drop, hsz]; omega
    · have : xs = (cur.toList.take ((n + 1) * size)).take (n * size) := by rw [List.take_take, Nat.min_eq_left (by omega), htake]
      rw [this, List.take_append_drop]
theorem own_new {cur : Array Value} (hb : base ≤ w.heap.size) (hn : n ≤ cap) (hc : cap ≤ maxLen) (hs : cur.size = cap * size) : (w.alloc (.cells cur e)).ownsRow base e size (.slice (some ⟨w.heap.size, 0, none⟩) n cap) n (cur.toList.take (n * size)) := by
  have hm : n * size ≤ cap * size := Nat.mul_le_mul_right _ hn
  exact ⟨by rw [List.length_take, Array.length_toList, hs]; omega, .inr ⟨w.heap.size, cap, cur, rfl, hb, heap_alloc_new w _, hn, hc, hs, rfl⟩⟩
theorem own_shape (h : w.ownsRow base e size (.slice (some ⟨g, 0, none⟩) n cap) n xs) : w.shape? g = some (e, cap * size) := by
  rcases h.2 with ⟨h', _⟩ | ⟨g', cap', cur, h', hb, hg, hnc, hcm, hcs, htake⟩
  · simp at h'
  · simp only [Value.slice.injEq, Option.some.injEq, Addr.mk.injEq, and_true, true_and] at h'
    obtain ⟨rfl, rfl⟩ := h'
    simp [World.shape?, hg, hcs]
theorem own_caps (h : w.ownsRow base e size (.slice (some ⟨g, 0, none⟩) n cap) n xs) : n ≤ cap ∧ cap ≤ 9223372036854775807 := by
  rcases h.2 with ⟨h', _⟩ | ⟨g', cap', cur, h', hb, hg, hnc, hcm, hcs, htake⟩
  · simp at h'
  · simp only [Value.slice.injEq, Option.some.injEq, Addr.mk.injEq, and_true, true_and] at h'
    obtain ⟨rfl, rfl⟩ := h'
    exact ⟨hnc, by unfold maxLen at hcm; omega⟩
theorem blk_shape {cs : Array Value} {b : Nat} {t : TypeId} (h : Blk w b t cs) : w.shape? b = some (t, cs.size) := by
  unfold Blk at h
  simp [World.shape?, h]
theorem own_add (h : w.ownsRow base e size (.slice (some ⟨g, 0, none⟩) n cap) n xs) {o : Nat} {cs : List Value} (hx : ∀ j, j < cs.length → xs[o + j]? = cs[j]?) (hfit : o + cs.length ≤ n * size) : ∀ j v, cs[j]? = some v → w.cell? ((⟨g, o, none⟩ : Addr).add j) = some v := by
  intro j v hj
  have hl := (List.getElem?_eq_some_iff.1 hj).1
  rw [Addr.add_lit, h.cellAt (o + j) (by omega), hx j hl, hj]
end
end
section
open Go Go.RowKit

section
variable {P : Program}
theorem run_append_src (w : World) (base : Nat) (t ty e : TypeId) (i : TypeInfo) (z : Value) (size bytes : Nat) (ht : P.underlying t = some (.slice e)) (hi : P.info? e = some i) (hz : i.zero = some z)
    (hsize : i.size = size) (hby : i.bytes = bytes) (hzs : z.cells.size = size) (hsz : 0 < size)
    (v : Value) (n : Nat) (xs : List Value) (hown : w.ownsRow base e size v n xs)
    (A : Option Addr) (m c : Nat) (news : List Value) (hl : news.length = m * size) (hA : A = none → m = 0) (hnews : ∀ a, A = some a → ∀ j u, news[j]? = some u → w.cell? (a.add j) = some u) (h1 : ∀ u ∈ news, u.oneCell' = true)
    (h63 : n + m ≤ maxLen) (hbytes : (n + m) * bytes ≤ 140737488355328) (hbase : base ≤ w.heap.size) :
    ∃ v' w', (Builtin.append_ #[t, t] ty #[v, .slice A m c]).run P w = .ok v' w' ∧ w'.ownsRow base e size v' (n + m) (xs ++ news) ∧ w.grownBy w' v.ownBlock ∧ (v'.ownBlock = v.ownBlock ∨ v'.ownBlock = some w.heap.size) := by
  cases A with
  | none =>
    obtain rfl := hA rfl
    obtain rfl : news = [] := List.eq_nil_of_length_eq_zero (by simpa using hl)
    refine ⟨v, w, ?_, by simpa using hown, grefl _ _, .inl rfl⟩
    rcases hown.2 with ⟨rfl, rfl⟩ | ⟨g, cap, cur, rfl, _, _, hnc, _⟩
    · simp [Builtin.append_, run_underlying ht, sizeOf, typeInfo, hi, Builtin.lenOf, Builtin.firstCells]
    · simp [Builtin.append_, run_underlying ht, sizeOf, typeInfo, hi, Builtin.lenOf, Builtin.firstCells, hnc, storeCells]
  | some a =>
    obtain ⟨v', w', h2, h3, h4, -, h5⟩ := run_append_own_at w base t ty e i z size bytes ht hi hz hsize hby hzs hsz v n xs hown a m c news hl (hnews a rfl) h1 h63 hbytes hbase
    exact ⟨v', w', h2, h3, h4, h5⟩
/-- An append at a step of a region that draws its order: the row is the call's own, above all that was there in w0. -/
theorem step_append_src {ops : Array Oper} {o : Oper} {a : Act} {w : World} {K : Act → World → Prop} {Q : Exit → Act → World → Prop} {E : Prop} (hgd : o.guard = none) (s x : Operand) (t : TypeId)
    (ho : o.op = .call { callee := .builtin .append, args := #[s, x], argTypes := #[t, t] })
    (e : TypeId) (i : TypeInfo) (z : Value) (size bytes : Nat) (ht : P.underlying t = some (.slice e)) (hi : P.info? e = some i) (hz : i.zero = some z)
    (hsize : i.size = size) (hby : i.bytes = bytes) (hzs : z.cells.size = size) (hsz : 0 < size) (w0 : World) (hb : Below w0.heap.size w0 w)
    (v : Value) (n : Nat) (xs : List Value) (hs : a.eval s = v) (hown : w.ownsRow w0.heap.size e size v n xs)
    (A : Option Addr) (m c : Nat) (news : List Value) (hx : a.eval x = .slice A m c) (hl : news.length = m * size) (hA : A = none → m = 0) (hnews : ∀ a, A = some a → ∀ j u, news[j]? = some u → w.cell? (a.add j) = some u) (h1 : ∀ u ∈ news, u.oneCell' = true)
    (h63 : n + m ≤ maxLen) (hbytes : (n + m) * bytes ≤ 140737488355328)
    (h : ∀ v' w', w'.ownsRow w0.heap.size e size v' (n + m) (xs ++ news) → Below w0.heap.size w0 w' → (∀ b t cs, Blk w b t cs → v.ownBlock ≠ some b → Blk w' b t cs) → K (a.put o.dst v') w') :
    if Region.wanted o (yielded ops a.tmps) = true then Oper.wp P o a w K Q else E := by
  have hw : Region.wanted o (yielded ops a.tmps) = true := by simp [Region.wanted, hgd]
  rw [if_pos hw]
  obtain ⟨v', w', hr, h2, h3, -⟩ := run_append_src (P := P) w w0.heap.size t o.type e i z size bytes ht hi hz hsize hby hzs hsz v n xs hown A m c news hl hA hnews h1 h63 hbytes hb.size
  unfold Oper.wp execOp
  simp only [ho, resolve, invoke, builtin, Sem.run_bind, Sem.run_pure, Result.andThen_ok, List.map_toArray, List.map_cons, List.map_nil, hs, hx, hr]
  exact h v' w' h2 (Below.grown hb h3 hb.size (fun k hk => (hown.lt k hk).1)) (fun b t cs hB hne => (h3.block b hB.lt (fun e => hne e.symm)).trans hB)
end
theorem src_below {w0 w : World} {A : Option Addr} {news : List Value} (hb : Below w0.heap.size w0 w) (h : ∀ a, A = some a → ∀ j u, news[j]? = some u → w0.cell? (a.add j) = some u) : ∀ a, A = some a → ∀ j u, news[j]? = some u → w.cell? (a.add j) = some u := by
  intro a ha j u hj
  have := h a ha j u hj
  rw [hb.cell (World.block_lt_of_cell? w0 _ this)]
  exact this
theorem own_empty {X w0 : World} {e : TypeId} {size : Nat} (h : w0.heap.size ≤ X.heap.size) : (X.alloc (.cells #[] e)).ownsRow w0.heap.size e size (.slice (some ⟨X.heap.size, 0, none⟩) 0 0) 0 [] :=
  World.ownsRow_lit X #[] 0 h (by unfold maxLen; omega) (by simp)
theorem own_empty1 {X w0 : World} {o : Obj} {e : TypeId} {size : Nat} (h : w0.heap.size ≤ X.heap.size) : ((X.alloc o).alloc (.cells #[] e)).ownsRow w0.heap.size e size (.slice (some ⟨X.heap.size + 1, 0, none⟩) 0 0) 0 [] := by
  have := own_empty (X := X.alloc o) (w0 := w0) (e := e) (size := size) (by simp; omega)
  rw [World.size_alloc] at this
  exact this
theorem lit_src {w : World} {b : Nat} {news : List Value} (h : ∀ j u, news[j]? = some u → w.cell? ((⟨b, 0, none⟩ : Addr).add j) = some u) : ∀ a, some (⟨b, 0, none⟩ : Addr) = some a → ∀ j u, news[j]? = some u → w.cell? (a.add j) = some u := by
  intro a ha
  cases ha
  exact h
theorem ob_ne {v : Value} {x n c b : Nat} (hv : v = .slice (some ⟨x, 0, none⟩) n c) (h : x ≠ b) : v.ownBlock ≠ some b := by
  subst hv
  simpa [Value.ownBlock] using h
end
section
open Go Go.RowKit
theorem infoIntC : (Tryz.prog.info? 3).map (fun i => (i.zero, i.size, i.bytes)) = some (some (.int .i64 0), 1, 8) := by kernel_rfl
theorem infoSlI : (Tryz.prog.info? 48).map (fun i => (i.zero, i.size, i.bytes)) = some (some (.slice none 0 0), 1, 24) := by kernel_rfl
theorem lenII (ess : List (List Int)) : (cellsII ess).length = ess.length := by simp [cellsII]
theorem own_formI {w : World} {b : Nat} {t : TypeId} {z : Nat} {v : Value} {n : Nat} {xs : List Value} (h : w.ownsRow b t z v n xs) : ∃ A c, v = .slice A n c := by
  rcases h.2 with ⟨h', h0⟩ | ⟨g', cap', cur, h', _⟩
  · exact ⟨none, 0, by rw [h', h0]⟩
  · exact ⟨_, _, h'⟩
/-- The k-th cell of an own row of ints. -/
theorem own_intI {w : World} {b : Nat} {t : TypeId} {A : Option Addr} {n c : Nat} {xs : List Int} (h : w.ownsRow b t 1 (.slice A n c) n (xs.map (Value.int .i64))) (hn : n = xs.length) (k : Nat) (hk : k < n) :
    ∃ g, A = some ⟨g, 0, none⟩ ∧ g < w.heap.size ∧ w.cell? ⟨g, k, none⟩ = some (.int .i64 (xs[k]'(hn ▸ hk))) := by
  rcases h.2 with ⟨h', h0⟩ | ⟨g, cap, cur, h', h1, h2, h3, h4, h5, h6⟩
  · omega
  · cases h'
    refine ⟨g, rfl, (Array.getElem?_eq_some_iff.1 h2).1, ?_⟩
    have hcell := h.cellAt k (by omega)
    rw [hcell, List.getElem?_map, List.getElem?_eq_getElem (hn ▸ hk)]
    rfl
theorem inside_lit {n lo hi : Int} {k : Bool} (h : insB n lo hi = k) (w : World) : Calls Tryz.prog 23 #[.int .i64 n, .int .i64 lo, .int .i64 hi] w fun e w' => e = .returned (.bool k) ∧ Below w.heap.size w w' := by
  refine (inside_any n lo hi w).mono ?_
  rintro e w1 ⟨rfl, rfl⟩
  exact ⟨by rw [h], Below.refl _ _⟩
theorem l1In_lit {n lo hi : Int} {k : Bool} (h : insB n lo hi = k) (w : World) : Calls Tryz.prog 40 #[.int .i64 n, .int .i64 lo, .int .i64 hi] w fun e w' => e = .returned (.bool k) ∧ Below w.heap.size w w' := by
  refine (l1In_any n lo hi w).mono ?_
  rintro e w1 ⟨rfl, rfl⟩
  exact ⟨by rw [h], Below.refl _ _⟩
theorem tdiv_bd {a g : Int} {B : Int} (h1 : -B ≤ a) (h2 : a ≤ B) : -B ≤ a.tdiv g ∧ a.tdiv g ≤ B := by
  have h := Int.natAbs_tdiv_le_natAbs a g
  omega
end
section
open Go Go.RowKit Go.Sort Go.Lib

def iv : Int → Value := Value.int .i64
def srI (xs : List Int) : List Int := xs.mergeSort fun x y => decide (x ≤ y)
theorem length_srI (xs : List Int) : (srI xs).length = xs.length := List.length_mergeSort ..
section
variable {w : World} {base g n c : Nat} {d d' : List Int} {cur : Array Value}
theorem own_iv (h : w.ownsRow base 3 1 (.slice (some ⟨g, 0, none⟩) n c) n (d.map iv)) : ∃ cur, base ≤ g ∧ w.heap[g]? = some (.cells cur 3 (0, 0)) ∧ n ≤ c ∧ c ≤ maxLen ∧ cur.size = c ∧ cur.toList.take n = d.map iv := by
  obtain ⟨-, ⟨h', -⟩ | ⟨g', cap', cur, h', hb, hg, hc, hm, hs, ht⟩⟩ := h
  · cases h'
  · cases h'
    rw [Nat.mul_one] at hs ht
    exact ⟨cur, hb, hg, hc, hm, hs, ht⟩
theorem own_holdsI (h : w.ownsRow base 3 1 (.slice (some ⟨g, 0, none⟩) n c) n (d.map iv)) (hn : n = d.length) : Holds (Value.int .i64) w g 0 d.toArray := by
  obtain ⟨cur, -, hg, -, -, -, ht⟩ := own_iv h
  intro j hj
  have hj' : j < d.length := by simpa using hj
  have hB : Blk w g 3 cur := hg
  refine ⟨?_, hB.frozen _⟩
  rw [Nat.zero_add, hB.cell j]
  have h1 : (cur.toList.take n)[j]? = (d.map iv)[j]? := by rw [ht]
  rw [List.getElem?_take, if_pos (by omega), List.getElem?_map, List.getElem?_eq_getElem hj'] at h1
  rw [Array.getElem?_toList] at h1
  rw [h1]
  simp [iv, hj']
theorem heap_putI (hg : w.heap[g]? = some (.cells cur 3 (0, 0))) (m : Nat) (os : Array Obj) : (grow (putRow (Value.int .i64) (Sort.ahead w m) g 0 d.toArray) os).heap[g]? = some (.cells (putCells (Value.int .i64) 0 d.toArray cur) 3 (0, 0)) := by
  have hlt : g < w.heap.size := (Array.getElem?_eq_some_iff.1 hg).1
  show ((w.heap.modify g (onCells (putCells (Value.int .i64) 0 d.toArray))) ++ os)[g]? = _
  rw [Array.getElem?_append_left (by rw [Array.size_modify]; exact hlt), Array.getElem?_modify, if_pos rfl, hg]
  rfl
theorem put_own (h : w.ownsRow base 3 1 (.slice (some ⟨g, 0, none⟩) n c) n (d.map iv)) (hn : n = d'.length) (m : Nat) (os : Array Obj) :
    (grow (putRow (Value.int .i64) (Sort.ahead w m) g 0 d'.toArray) os).ownsRow base 3 1 (.slice (some ⟨g, 0, none⟩) n c) n (d'.map iv) ∧ w.grownBy (grow (putRow (Value.int .i64) (Sort.ahead w m) g 0 d'.toArray) os) (some g) := by
  obtain ⟨cur, hb, hg, hc, hm, hs, -⟩ := own_iv h
  refine ⟨⟨by rw [List.length_map, hn, Nat.mul_one], Or.inr ⟨g, c, _, rfl, hb, heap_putI hg m os, hc, hm, by rw [Nat.mul_one, ← hs]; simp [putCells], ?_⟩⟩, rfl, rfl, rfl, ?_, ?_⟩
  · apply List.ext_getElem?
    intro i
    rw [List.getElem?_take, Nat.mul_one]
    by_cases hi : i < n
    · rw [if_pos hi, Array.getElem?_toList, List.getElem?_map, List.getElem?_eq_getElem (by omega)]
      have hic : i < cur.size := by rw [hs]; omega
      unfold putCells
      rw [Array.getElem?_mapIdx, Array.getElem?_eq_getElem hic, Option.map_some, if_pos ⟨Nat.zero_le _, by simp; omega⟩]
      have hid : i < d'.length := by omega
      simp [iv, hid]
    · rw [if_neg hi, List.getElem?_eq_none (by rw [List.length_map]; omega)]
  · show w.heap.size ≤ ((w.heap.modify g _) ++ os).size
    rw [Array.size_append, Array.size_modify]
    omega
  · intro k hk hne
    show ((w.heap.modify g _) ++ os)[k]? = _
    rw [Array.getElem?_append_left (by rw [Array.size_modify]; exact hk), Array.getElem?_modify, if_neg (fun e => hne (by rw [e]))]
end
theorem own_form1 {w : World} {base : Nat} {v : Value} {n : Nat} {xs : List Value} (h : w.ownsRow base 3 1 v n xs) : (v = .slice none 0 0 ∧ n = 0) ∨ ∃ g c, v = .slice (some ⟨g, 0, none⟩) n c := by
  rcases h.2 with h | ⟨g, c, _, h, _⟩
  · exact Or.inl h
  · exact Or.inr ⟨g, c, h⟩
/-- slices.Sort on a row of the call's own. -/
theorem sortI_any (base : Nat) (v : Value) (xs : List Int) (w : World) (ho : w.ownsRow base 3 1 v xs.length (xs.map iv)) (hlen : xs.length ≤ 1000000000) :
    Calls Tryz.prog 77 #[v] w fun e w' => e = .returned (.tuple #[]) ∧ w'.ownsRow base 3 1 v (srI xs).length ((srI xs).map iv) ∧ w.grownBy w' v.ownBlock := by
  rcases own_form1 ho with ⟨rfl, h0⟩ | ⟨g, c, rfl⟩
  · obtain rfl := List.eq_nil_of_length_eq_zero h0
    refine (Tryz.slices_Sort_int_none none 0 w).mono ?_
    rintro e w' ⟨rfl, rfl⟩
    exact ⟨rfl, by simpa [srI] using ho, grefl _ _⟩
  · have hlt : g < w.heap.size := (ho.lt g rfl).2
    refine (Tryz.slices_Sort_int g 0 c xs w (own_holdsI ho rfl) hlt (by omega)).mono ?_
    rintro e w' ⟨rfl, n, os, rfl⟩
    have h9 := put_own (d' := srI xs) ho (length_srI xs).symm n os
    refine ⟨rfl, ?_, h9.2⟩
    rw [length_srI]; exact h9.1
theorem grow_none (w : World) : grow w #[] = w := grow_empty w
/-- slices.Compact on a row of the call's own that is not nil. -/
theorem compactI_any (base g c : Nat) (xs : List Int) (w : World) (ho : w.ownsRow base 3 1 (.slice (some ⟨g, 0, none⟩) xs.length c) xs.length (xs.map iv)) (hlen : xs.length ≤ 1000000000) :
    Calls Tryz.prog 118 #[.slice (some ⟨g, 0, none⟩) xs.length c] w fun e w' => e = .returned (.slice (some ⟨g, 0, none⟩) (compact xs).length c) ∧ w'.ownsRow base 3 1 (.slice (some ⟨g, 0, none⟩) (compact xs).length c) (compact xs).length ((compact xs).map iv) ∧ w.grownBy w' (some g) := by
  obtain ⟨cur, -, -, hc, -, -, -⟩ := own_iv ho
  refine (Tryz.slices_Compact_int g 0 c xs w (own_holdsI ho rfl) (by omega) hc).mono ?_
  rintro e w' ⟨rfl, q, rfl⟩
  have hl := compact_length_le xs
  have h9 := put_own (d' := compact xs ++ List.replicate (xs.length - (compact xs).length) 0) ho (by rw [List.length_append, List.length_replicate]; omega) q #[]
  rw [grow_empty] at h9
  refine ⟨rfl, ?_, h9.2⟩
  have h8 := own_cut h9.1 hl
  rwa [Nat.mul_one, List.map_append, List.take_append_of_le_length (by rw [List.length_map]; exact Nat.le_refl _), List.take_of_length_le (by rw [List.length_map]; exact Nat.le_refl _)] at h8
theorem rd_cells {w : World} {hi : Nat} {A : Option Addr} {n c : Nat} {xs : List Int} (h : Rd inS w hi (.slice A n c) xs) : n = xs.length ∧ c ≤ maxLen ∧ xs.length ≤ c ∧ (A = none → xs = []) ∧ ∀ b off, A = some ⟨b, off, none⟩ → ∀ j, j < xs.length → w.cell? ⟨b, off + j, none⟩ = some (.int .i64 (xs.getD j 0)) := by
  obtain ⟨A', c', hv, hc, hm, hA⟩ := h
  obtain ⟨rfl, rfl, rfl⟩ : A = A' ∧ n = xs.length ∧ c = c' := by simpa using hv
  refine ⟨rfl, hm, hc, fun h => ?_, fun b off hA' j hj => ?_⟩
  · cases xs with
    | nil => rfl
    | cons x l =>
      obtain ⟨g, off, h1, -⟩ := hA (by simp)
      rw [h] at h1; cases h1
  · obtain ⟨g, off', h1, -, h2⟩ := hA (by omega)
    rw [hA'] at h1
    obtain ⟨rfl, rfl⟩ : b = g ∧ off = off' := by simpa using h1
    have := h2 j hj 0 (by decide)
    change w.cell? ⟨b, off + j * 1 + 0, none⟩ = _ at this
    rw [Nat.mul_one, Nat.add_zero] at this
    rw [this]; rfl
theorem rd_addr {w : World} {hi : Nat} {A : Option Addr} {n c : Nat} {xs : List Int} (h : Rd inS w hi (.slice A n c) xs) (h0 : 0 < xs.length) : ∃ g off, A = some ⟨g, off, none⟩ ∧ g < hi := by
  obtain ⟨A', c', hv, hc, hm, hA⟩ := h
  obtain ⟨rfl, rfl, rfl⟩ : A = A' ∧ n = xs.length ∧ c = c' := by simpa using hv
  obtain ⟨g, off, h1, h2, -⟩ := hA h0
  exact ⟨g, off, h1, h2⟩
/-- Is x a member? -/
def hasI (xs : List Int) (x : Int) : Bool := decide (x ∈ xs)
theorem has_contains (xs : List Int) (x : Int) : xs.contains x = hasI xs x := by unfold hasI; rw [Bool.eq_iff_iff, List.contains_iff_mem, decide_eq_true_eq]
theorem containsI_any (A : Option Addr) (c : Nat) (xs : List Int) (x : Int) (hi : Nat) (w : World) (h : Rd inS w hi (.slice A xs.length c) xs) (hlen : xs.length ≤ 1000000000) :
    Calls Tryz.prog 29 #[.slice A xs.length c, .int .i64 x] w fun e w' => e = .returned (.bool (hasI xs x)) ∧ Below w.heap.size w w' := by
  obtain ⟨-, -, -, hN, hC⟩ := rd_cells h
  cases xs with
  | nil =>
    refine (Tryz.slices_Contains_int_empty A c x w).mono ?_
    rintro e w' ⟨rfl, rfl⟩
    exact ⟨rfl, Below.refl _ _⟩
  | cons y l =>
    obtain ⟨g, off, rfl, -⟩ := rd_addr h (by simp)
    refine (Tryz.slices_Contains_int g off _ c (y :: l) x w (Nat.le_refl _) (by omega) (hC g off rfl)).mono ?_
    rintro e w' ⟨rfl, rfl⟩
    exact ⟨by rw [List.take_length, has_contains], Below.refl _ _⟩
theorem cloneI_any (A : Option Addr) (c : Nat) (xs : List Int) (hi : Nat) (w : World) (h : Rd inS w hi (.slice A xs.length c) xs) (h0 : 0 < xs.length) (hlen : xs.length ≤ 1000000000) :
    Calls Tryz.prog 75 #[.slice A xs.length c] w fun e w' => ∃ v', e = .returned v' ∧ w'.ownsRow w.heap.size 3 1 v' xs.length (xs.map iv) ∧ Below w.heap.size w w' := by
  obtain ⟨-, -, -, hN, hC⟩ := rd_cells h
  obtain ⟨g, off, rfl, -⟩ := rd_addr h h0
  refine (Tryz.slices_Clone_int g off _ c xs w (Nat.le_refl _) (by omega) (hC g off rfl)).mono ?_
  rintro e w' ⟨v', rfl, h1, -, h2⟩
  rw [List.take_length] at h1
  exact ⟨v', rfl, h1, h2⟩
end
section
open Go Go.RowKit Go.Lib

def Inc (l : List Int) : Prop := l.Pairwise (· < ·)
theorem inc_eq : ∀ {l m : List Int}, Inc l → Inc m → (∀ x, x ∈ l ↔ x ∈ m) → l = m
  | [], [], _, _, _ => rfl
  | [], y :: m, _, _, h => absurd ((h y).2 (List.mem_cons_self ..)) (by simp)
  | x :: l, [], _, _, h => absurd ((h x).1 (List.mem_cons_self ..)) (by simp)
  | x :: l, y :: m, h1, h2, h => by
    have a1 := List.pairwise_cons.1 h1
    have a2 := List.pairwise_cons.1 h2
    have hxy : x = y := by
      rcases List.mem_cons.1 ((h x).1 (List.mem_cons_self ..)) with e | e
      · exact e
      · rcases List.mem_cons.1 ((h y).2 (List.mem_cons_self ..)) with e' | e'
        · exact e'.symm
        · have := a2.1 x e; have := a1.1 y e'; omega
    subst hxy
    congr 1
    refine inc_eq a1.2 a2.2 (fun z => ?_)
    constructor
    · intro hz
      rcases List.mem_cons.1 ((h z).1 (List.mem_cons_of_mem _ hz)) with e | e
      · have := a1.1 z hz; omega
      · exact e
    · intro hz
      rcases List.mem_cons.1 ((h z).2 (List.mem_cons_of_mem _ hz)) with e | e
      · have := a2.1 z hz; omega
      · exact e
theorem Inc.nodup {l : List Int} (h : Inc l) : l.Nodup := List.Pairwise.imp (fun h e => by omega) h
theorem Inc.inj {l : List Int} (h : Inc l) {i j : Nat} (hi : i < l.length) (hj : j < l.length) (e : l[i] = l[j]) : i = j := by
  rcases Nat.lt_trichotomy i j with h1 | h1 | h1
  · have := List.pairwise_iff_getElem.1 h i j hi hj h1; omega
  · exact h1
  · have := List.pairwise_iff_getElem.1 h j i hj hi h1; omega
/-- A list without doubles whose members are all in m is no longer than m. -/
theorem len_sub : ∀ {l m : List Int}, l.Nodup → (∀ x ∈ l, x ∈ m) → l.length ≤ m.length
  | [], _, _, _ => Nat.zero_le _
  | x :: l, m, hn, h => by
    have h1 := List.nodup_cons.1 hn
    have hx := h x (List.mem_cons_self ..)
    have h2 := len_sub (l := l) (m := m.erase x) h1.2 (fun y hy => by
      have hne : y ≠ x := by rintro rfl; exact h1.1 hy
      exact (List.mem_erase_of_ne hne).2 (h y (List.mem_cons_of_mem _ hy)))
    rw [List.length_erase_of_mem hx] at h2
    have h3 := List.length_pos_of_mem hx
    rw [List.length_cons]; omega
/-- .. and if it is as long, the members of m are all in it. -/
theorem mem_of_len : ∀ {l m : List Int}, l.Nodup → (∀ x ∈ l, x ∈ m) → m.length ≤ l.length → ∀ y ∈ m, y ∈ l := by
  intro l m hn h hl y hy
  rcases Classical.em (y ∈ l) with h1 | h1
  · exact h1
  · have h2 := len_sub (l := y :: l) (m := m) (List.nodup_cons.2 ⟨h1, hn⟩) (fun z hz => by
      rcases List.mem_cons.1 hz with rfl | hz
      · exact hy
      · exact h z hz)
    rw [List.length_cons] at h2; omega
theorem mem_srI {xs : List Int} {x : Int} : x ∈ srI xs ↔ x ∈ xs := by unfold srI; rw [List.mem_mergeSort]
theorem srI_le (xs : List Int) : (srI xs).Pairwise (fun x y => x ≤ y) := by
  unfold srI
  have := List.pairwise_mergeSort (le := fun x y : Int => decide (x ≤ y)) (fun a b c h1 h2 => decide_eq_true (by have := of_decide_eq_true h1; have := of_decide_eq_true h2; omega)) (fun a b => by
    rw [Bool.or_eq_true, decide_eq_true_eq, decide_eq_true_eq]; omega) xs
  exact this.imp (fun h => of_decide_eq_true h)
theorem srI_inc {xs : List Int} (h : xs.Nodup) : Inc (srI xs) := by
  have h1 := srI_le xs
  have h2 : (srI xs).Nodup := (List.mergeSort_perm xs _).nodup_iff.2 h
  exact List.Pairwise.imp₂ (fun _ _ h3 h4 => by omega) h1 h2
/-- Compacting a sorted list. -/
theorem compact_inc {d : List Int} (hs : d.Pairwise (fun x y => x ≤ y)) : Inc (compact d) ∧ ∀ x, x ∈ compact d ↔ x ∈ d := by
  have hle : ∀ i j, i ≤ j → j < d.length → d.toArray[i]! ≤ d.toArray[j]! := by
    intro i j hij hj
    rcases Nat.lt_or_eq_of_le hij with h | h
    · have := List.pairwise_iff_getElem.1 hs i j (by omega) hj h
      rw [getElem!_pos _ i (by simp; omega), getElem!_pos _ j (by simpa using hj)]
      simpa using this
    · subst h; exact Int.le_refl _
  have key : ∀ m, 1 ≤ m → m ≤ d.length → Inc (compactUpTo d.toArray m) ∧ (∀ x, x ∈ compactUpTo d.toArray m ↔ ∃ i, i < m ∧ x = d.toArray[i]!) := by
    intro m h1
    induction m with
    | zero => omega
    | succ m ih =>
      intro h2
      rw [compactUpTo_succ]
      rcases Nat.eq_zero_or_pos m with h0 | h0
      · subst h0
        rw [if_pos (keeps_lt_one _ 0 (by omega))]
        refine ⟨by simp [Inc, compactUpTo], fun x => ?_⟩
        constructor
        · intro h; exact ⟨0, by omega, by simpa [compactUpTo] using h⟩
        · rintro ⟨i, hi, rfl⟩
          obtain rfl : i = 0 := by omega
          simp [compactUpTo]
      · obtain ⟨i1, i2⟩ := ih h0 (by omega)
        by_cases hk : d.toArray[m]! = d.toArray[m - 1]!
        · rw [if_neg (by rw [keeps_neg h0 hk]; decide), List.append_nil]
          refine ⟨i1, fun x => ?_⟩
          rw [i2]
          constructor
          · rintro ⟨i, hi, rfl⟩; exact ⟨i, by omega, rfl⟩
          · rintro ⟨i, hi, rfl⟩
            rcases Nat.lt_or_ge i m with h | h
            · exact ⟨i, h, rfl⟩
            · obtain rfl : i = m := by omega
              exact ⟨i - 1, by omega, hk⟩
        · rw [if_pos (keeps_pos hk)]
          have hlt : ∀ i, i < m → d.toArray[i]! < d.toArray[m]! := by
            intro i hi
            have a1 := hle i (m - 1) (by omega) (by omega)
            have a2 := hle (m - 1) m (by omega) (by omega)
            omega
          refine ⟨?_, fun x => ?_⟩
          · unfold Inc
            rw [List.pairwise_append]
            refine ⟨i1, List.pairwise_singleton _ _, fun x hx y hy => ?_⟩
            obtain ⟨i, hi, rfl⟩ := (i2 x).1 hx
            rw [List.mem_singleton.1 hy]
            exact hlt i hi
          · rw [List.mem_append, List.mem_singleton, i2]
            constructor
            · rintro (⟨i, hi, rfl⟩ | rfl)
              · exact ⟨i, by omega, rfl⟩
              · exact ⟨m, by omega, rfl⟩
            · rintro ⟨i, hi, rfl⟩
              rcases Nat.lt_or_ge i m with h | h
              · exact .inl ⟨i, h, rfl⟩
              · obtain rfl : i = m := by omega
                exact .inr rfl
  unfold compact
  rcases Nat.eq_zero_or_pos d.length with h0 | h0
  · obtain rfl := List.eq_nil_of_length_eq_zero h0
    exact ⟨by simp [Inc, compactUpTo], by simp [compactUpTo]⟩
  · obtain ⟨k1, k2⟩ := key d.length h0 (Nat.le_refl _)
    refine ⟨k1, fun x => ?_⟩
    rw [k2, List.mem_iff_getElem]
    constructor
    · rintro ⟨i, hi, rfl⟩; exact ⟨i, hi, by rw [getElem!_pos _ i (by simpa using hi)]; simp⟩
    · rintro ⟨i, hi, rfl⟩; exact ⟨i, hi, by rw [getElem!_pos _ i (by simpa using hi)]; simp⟩
theorem compact_ne {d : List Int} (hs : d.Pairwise (fun x y => x ≤ y)) (h : d ≠ []) : 0 < (compact d).length := by
  obtain ⟨x, hx⟩ := List.exists_mem_of_ne_nil d h
  exact List.length_pos_of_mem (((compact_inc hs).2 x).2 hx)
/-- A number put into an increasing list, unless it is there. -/
def putI (n : Int) : List Int → List Int
  | [] => [n]
  | x :: l => if x < n then x :: putI n l else if x = n then x :: l else n :: x :: l
theorem putI_at (n : Int) : ∀ (k : Nat) (l : List Int), k ≤ l.length → (∀ j (h : j < l.length), j < k → l[j] < n) → putI n l = l.take k ++ putI n (l.drop k)
  | 0, l, _, _ => rfl
  | k + 1, [], h, _ => by simp at h
  | k + 1, x :: l, h, hj => by
    have h0 : x < n := hj 0 (by simp) (by omega)
    rw [List.take_succ_cons, List.drop_succ_cons, putI, if_pos h0, List.cons_append]
    congr 1
    exact putI_at n k l (by simpa using h) (fun j h1 h2 => hj (j + 1) (by simpa using h1) (by omega))
theorem mem_putI {n x : Int} : ∀ {l : List Int}, x ∈ putI n l ↔ x = n ∨ x ∈ l
  | [] => by simp [putI]
  | y :: l => by
    unfold putI
    split
    · rw [List.mem_cons, mem_putI, List.mem_cons]
      constructor
      · rintro (h | h | h)
        · exact .inr (.inl h)
        · exact .inl h
        · exact .inr (.inr h)
      · rintro (h | h | h)
        · exact .inr (.inl h)
        · exact .inl h
        · exact .inr (.inr h)
    · split
      · rename_i h
        subst h
        constructor
        · exact .inr
        · rintro (h | h)
          · rw [h]; exact List.mem_cons_self ..
          · exact h
      · rw [List.mem_cons]
theorem putI_inc {n : Int} : ∀ {l : List Int}, Inc l → Inc (putI n l)
  | [], _ => List.pairwise_singleton _ _
  | y :: l, h => by
    have h1 := List.pairwise_cons.1 h
    unfold putI
    split
    · rename_i hy
      refine List.pairwise_cons.2 ⟨fun z hz => ?_, putI_inc h1.2⟩
      rcases mem_putI.1 hz with rfl | hz
      · exact hy
      · exact h1.1 z hz
    · split
      · exact h
      · rename_i ha hb
        refine List.pairwise_cons.2 ⟨fun z hz => ?_, h⟩
        rcases List.mem_cons.1 hz with rfl | hz
        · omega
        · have := h1.1 z hz; omega
theorem length_putI (n : Int) : ∀ (l : List Int), (putI n l).length ≤ l.length + 1
  | [] => by simp [putI]
  | y :: l => by
    unfold putI
    have := length_putI n l
    split
    · simp only [List.length_cons]; omega
    · split <;> simp
theorem putI_ne (n : Int) (l : List Int) : 0 < (putI n l).length := List.length_pos_of_mem (mem_putI.2 (.inl rfl))
end
section
open Go Go.RowKit
theorem wpList_append_src {P : Program} {w : World} {ops : Array Oper} {rest : List Oper} {o : Oper} {a : Act} {Q : Exit → Act → World → Prop} (hgd : o.guard = none) (s x : Operand) (t : TypeId)
    (ho : o.op = .call { callee := .builtin .append, args := #[s, x], argTypes := #[t, t] })
    (base : Nat) (e : TypeId) (i : TypeInfo) (z : Value) (size bytes : Nat) (ht : P.underlying t = some (.slice e)) (hi : P.info? e = some i) (hz : i.zero = some z)
    (hsize : i.size = size) (hby : i.bytes = bytes) (hzs : z.cells.size = size) (hsz : 0 < size)
    (v : Value) (n : Nat) (xs : List Value) (hs : a.eval s = v) (hown : w.ownsRow base e size v n xs)
    (A : Option Addr) (m c : Nat) (news : List Value) (hx : a.eval x = .slice A m c) (hl : news.length = m * size) (hA : A = none → m = 0) (hnews : ∀ a, A = some a → ∀ j u, news[j]? = some u → w.cell? (a.add j) = some u) (h1 : ∀ u ∈ news, u.oneCell' = true)
    (h63 : n + m ≤ maxLen) (hbytes : (n + m) * bytes ≤ 140737488355328) (hbase : base ≤ w.heap.size)
    (h : ∀ v' w', w'.ownsRow base e size v' (n + m) (xs ++ news) → w.grownBy w' v.ownBlock → wpList P ops Q rest (a.put o.dst v') w') : wpList P ops Q (o :: rest) a w := by
  obtain ⟨v', w', hr, h2, h3, -⟩ := run_append_src (P := P) w base t o.type e i z size bytes ht hi hz hsize hby hzs hsz v n xs hown A m c news hl hA hnews h1 h63 hbytes hbase
  refine wpList_plain hgd fun K hK => ?_
  unfold Oper.wp execOp
  simp only [ho, resolve, invoke, builtin, Sem.run_bind, Sem.run_pure, Result.andThen_ok, List.map_toArray, List.map_cons, List.map_nil, hs, hx, hr]
  exact hK _ _ (h v' w' h2 h3)
end
end Go.Proofs.YthdfpfhkmfmnbaaGreat
