/- Own texts put together: Own lemmas that know no program: a slice of slices of the call's own, and one that reads as a list of lists; The pairs of a list of curves that are neighbours: the walks of both sides; The search over neighbours: the walks of both sides. Conditions: those of each theorem. -/
import Derived.Test.YtacehhcpfollnaaGreatIsM3
import Derived.Test.YtacehhcpfollnaaGreatIsM1
import Derived.Test.YtacehhcpfollnaaGreatIsM6
import Derived.Test.YtacehhcpfollnaaGreatIsM4
namespace Go.Proofs.YtacehhcpfollnaaGreat
section
open Go Go.RowKit

def slS : Shape Value := ⟨1, fun v _ => v, .slice none 0 0⟩
theorem slS_flat : ∀ vs : List Value, slS.flat vs = vs
  | [] => rfl
  | v :: vs => by
    have ih := slS_flat vs
    simp only [Shape.flat, List.flatMap_cons] at ih ⊢
    rw [ih]; rfl
theorem inS_flat : ∀ es : List Int, inS.flat es = es.map (Value.int .i64)
  | [] => rfl
  | e :: es => by
    have ih := inS_flat es
    simp only [Shape.flat, List.flatMap_cons] at ih ⊢
    rw [ih]; rfl

/-- The k-th of a list of values, of a list of lists. -/
def vat (vs : List Value) (k : Nat) : Value := vs.getD k (.slice none 0 0)
def cat' {E : Type} (css : List (List E)) (k : Nat) : List E := css.getD k []
theorem vat_app_lt {vs ws : List Value} {k : Nat} (h : k < vs.length) : vat (vs ++ ws) k = vat vs k := by
  unfold vat; rw [List.getD_eq_getElem?_getD, List.getD_eq_getElem?_getD, List.getElem?_append_left h]
theorem vat_app_eq {vs : List Value} {u : Value} {k : Nat} (h : k = vs.length) : vat (vs ++ [u]) k = u := by
  subst h; unfold vat; rw [List.getD_eq_getElem?_getD, List.getElem?_append_right (Nat.le_refl _)]; simp
theorem cat_app_lt {E : Type} {vs ws : List (List E)} {k : Nat} (h : k < vs.length) : cat' (vs ++ ws) k = cat' vs k := by
  unfold cat'; rw [List.getD_eq_getElem?_getD, List.getD_eq_getElem?_getD, List.getElem?_append_left h]
theorem cat_app_eq {E : Type} {vs : List (List E)} {u : List E} {k : Nat} (h : k = vs.length) : cat' (vs ++ [u]) k = u := by
  subst h; unfold cat'; rw [List.getD_eq_getElem?_getD, List.getElem?_append_right (Nat.le_refl _)]; simp

/-- A slice of slices that the call made: te is the slices' type, ti their elements'; all its blocks lie from base on and below hi, and no two of them are one. -/
structure NOwn (w : World) (te ti : TypeId) (base hi : Nat) (v : Value) (vs : List Value) (css : List (List Value)) : Prop where
  len : vs.length = css.length
  out : w.ownsRow base te 1 v css.length vs
  row : ∀ i, i < css.length → w.ownsRow base ti 1 (vat vs i) (cat' css i).length (cat' css i)
  apart : ∀ i j g, i < css.length → j < css.length → i ≠ j → (vat vs i).ownBlock = some g → (vat vs j).ownBlock = some g → False
  top : ∀ i g, i < css.length → (vat vs i).ownBlock = some g → v.ownBlock = some g → False
  vhi : ∀ g, v.ownBlock = some g → g < hi
  ihi : ∀ i g, i < css.length → (vat vs i).ownBlock = some g → g < hi

theorem own_ne {u v : Value} (H : ∀ k, v.ownBlock = some k → u.ownBlock = some k → False) : v.ownBlock = none ∨ v.ownBlock ≠ u.ownBlock := by
  cases h : v.ownBlock with
  | none => exact .inl rfl
  | some k => exact .inr (fun e => H k h e.symm)
section
variable {w w' : World} {te ti : TypeId} {base hi : Nat} {v : Value} {vs : List Value} {css : List (List Value)}
theorem NOwn.nil (w : World) (te ti : TypeId) (base hi : Nat) : NOwn w te ti base hi (.slice none 0 0) [] [] where
  len := rfl
  out := ⟨rfl, Or.inl ⟨rfl, rfl⟩⟩
  row i h := absurd h (by simp)
  apart i j g h := absurd h (by simp)
  top i g h := absurd h (by simp)
  vhi g h := absurd h (by simp [Value.ownBlock])
  ihi i g h := absurd h (by simp)
theorem NOwn.on (h : NOwn w te ti base hi v vs css) (hb : Below w.heap.size w w') : NOwn w' te ti base hi v vs css :=
  ⟨h.len, own_below h.out hb, fun i hi => own_below (h.row i hi) hb, h.apart, h.top, h.vhi, h.ihi⟩
theorem NOwn.more {hi' : Nat} (h : NOwn w te ti base hi v vs css) (hh : hi ≤ hi') : NOwn w te ti base hi' v vs css :=
  ⟨h.len, h.out, h.row, h.apart, h.top, fun g hg => Nat.lt_of_lt_of_le (h.vhi g hg) hh, fun i g hi hg => Nat.lt_of_lt_of_le (h.ihi i g hi hg) hh⟩
theorem NOwn.less {base' : Nat} (h : NOwn w te ti base hi v vs css) (hh : base' ≤ base) : NOwn w te ti base' hi v vs css :=
  ⟨h.len, own_mono h.out hh, fun i hi => own_mono (h.row i hi) hh, h.apart, h.top, h.vhi, h.ihi⟩
/-- Behind a change of one block that is none of its own. -/
theorem NOwn.kept {row : Option Nat} (h : NOwn w te ti base hi v vs css) (hg : w.grownBy w' row) (hr : ∀ g, row = some g → g < base ∨ hi ≤ g) : NOwn w' te ti base hi v vs css := by
  have key : ∀ u : Value, (∀ g, u.ownBlock = some g → base ≤ g ∧ g < hi) → u.ownBlock = none ∨ u.ownBlock ≠ row := by
    intro u hu
    cases hub : u.ownBlock with
    | none => exact .inl rfl
    | some k =>
      refine .inr (fun e => ?_)
      have h1 := hu k hub
      have h2 := hr k e.symm
      omega
  exact ⟨h.len, World.ownsRow.kept h.out hg (key v (fun g hb => ⟨(h.out.lt g hb).1, h.vhi g hb⟩)), fun i hi2 => World.ownsRow.kept (h.row i hi2) hg (key _ (fun g hb => ⟨((h.row i hi2).lt g hb).1, h.ihi i g hi2 hb⟩)), h.apart, h.top, h.vhi, h.ihi⟩
/-- One slice more, behind the append of it: 'u' lies in a block of its own. -/
theorem NOwn.snoc {v' u : Value} {c : List Value} {w0 : World} (h : NOwn w0 te ti base hi v vs css) (hg : w0.grownBy w' v.ownBlock) (hout : w'.ownsRow base te 1 v' (css.length + 1) (vs ++ [u])) (hat : v'.ownBlock = v.ownBlock ∨ v'.ownBlock = some w0.heap.size)
    (hu : w0.ownsRow base ti 1 u c.length c) (hu1 : ∀ g, u.ownBlock = some g → hi ≤ g ∧ g < w0.heap.size) (hhi : hi ≤ w0.heap.size) : NOwn w' te ti base w'.heap.size v' (vs ++ [u]) (css ++ [c]) := by
  have hvb : ∀ g, v'.ownBlock = some g → (v.ownBlock = some g) ∨ g = w0.heap.size := by
    intro g hgv
    rcases hat with h1 | h1
    · exact .inl (h1 ▸ hgv)
    · rw [h1] at hgv; injection hgv with hgv; exact .inr hgv.symm
  have hin : ∀ i, i < css.length → vat (vs ++ [u]) i = vat vs i := fun i hi2 => vat_app_lt (by rw [h.len]; exact hi2)
  have hlast : vat (vs ++ [u]) css.length = u := vat_app_eq h.len.symm
  have hlt : ∀ i g, i < css.length + 1 → (vat (vs ++ [u]) i).ownBlock = some g → (i < css.length ∧ (vat vs i).ownBlock = some g) ∨ (i = css.length ∧ u.ownBlock = some g) := by
    intro i g hi2 hb
    rcases Nat.lt_or_ge i css.length with h1 | h1
    · rw [hin i h1] at hb; exact .inl ⟨h1, hb⟩
    · obtain rfl : i = css.length := by omega
      rw [hlast] at hb; exact .inr ⟨rfl, hb⟩
  refine ⟨by rw [List.length_append, List.length_append, h.len]; rfl, by rw [List.length_append]; exact hout, ?_, ?_, ?_, ?_, ?_⟩
  · intro i hi2
    rw [List.length_append, List.length_singleton] at hi2
    rcases Nat.lt_or_ge i css.length with h1 | h1
    · rw [hin i h1, cat_app_lt h1]
      refine World.ownsRow.kept (h.row i h1) hg (own_ne (fun g hb hr => ?_))
      exact h.top i g h1 hb hr
    · obtain rfl : i = css.length := by omega
      rw [hlast, cat_app_eq rfl]
      refine World.ownsRow.kept hu hg (own_ne (fun g hb hr => ?_))
      have h2 := h.vhi g hr
      have h3 := (hu1 g hb).1
      omega
  · intro i j g hi2 hj2 hne h1 h2
    rw [List.length_append, List.length_singleton] at hi2 hj2
    rcases hlt i g hi2 h1 with ⟨a1, a2⟩ | ⟨a1, a2⟩ <;> rcases hlt j g hj2 h2 with ⟨b1, b2⟩ | ⟨b1, b2⟩
    · exact h.apart i j g a1 b1 hne a2 b2
    · have := h.ihi i g a1 a2; have := (hu1 g b2).1; omega
    · have := h.ihi j g b1 b2; have := (hu1 g a2).1; omega
    · omega
  · intro i g hi2 h1 h2
    rw [List.length_append, List.length_singleton] at hi2
    rcases hlt i g hi2 h1 with ⟨a1, a2⟩ | ⟨a1, a2⟩ <;> rcases hvb g h2 with b | b
    · exact h.top i g a1 a2 b
    · have := h.ihi i g a1 a2; omega
    · have := h.vhi g b; have := (hu1 g a2).1; omega
    · have := (hu1 g a2).2; omega
  · intro g h1
    exact (hout.lt g h1).2
  · intro i g hi2 h1
    rw [List.length_append, List.length_singleton] at hi2
    have hs := hg.size
    rcases hlt i g hi2 h1 with ⟨a1, a2⟩ | ⟨a1, a2⟩
    · have := h.ihi i g a1 a2; omega
    · have := (hu1 g a2).2; omega
end

/-- The slice value v reads, in the world w, as a list of lists of ints. -/
def NRd (w : World) (hi : Nat) (v : Value) (ess : List (List Int)) : Prop :=
  ∃ vs : List Value, vs.length = ess.length ∧ Rd slS w hi v vs ∧ ∀ i, i < ess.length → Rd inS w hi (vat vs i) (cat' ess i)
theorem NRd.on {w w' : World} {v : Value} {ess : List (List Int)} (h : NRd w w.heap.size v ess) (hb : Below w.heap.size w w') : NRd w' w'.heap.size v ess := by
  obtain ⟨vs, h1, h2, h3⟩ := h
  exact ⟨vs, h1, h2.on hb, fun i hi => (h3 i hi).on hb⟩
def cellsII (ess : List (List Int)) : List (List Value) := ess.map (fun es => es.map (Value.int .i64))
theorem cat_cellsII {ess : List (List Int)} {i : Nat} (h : i < ess.length) : cat' (cellsII ess) i = (cat' ess i).map (Value.int .i64) := by
  unfold cat' cellsII
  rw [List.getD_eq_getElem?_getD, List.getD_eq_getElem?_getD, List.getElem?_map, List.getElem?_eq_getElem h]; rfl
theorem NRd.of_own {w : World} {te ti : TypeId} {base hi : Nat} {v : Value} {vs : List Value} {ess : List (List Int)} (h : NOwn w te ti base hi v vs (cellsII ess)) : NRd w w.heap.size v ess := by
  have hl : (cellsII ess).length = ess.length := by simp [cellsII]
  refine ⟨vs, by rw [h.len, hl], Rd.of_own (S := slS) (n := (cellsII ess).length) (by rw [slS_flat]; exact h.out) h.len.symm, fun i hi2 => ?_⟩
  have h1 := h.row i (by rw [hl]; exact hi2)
  rw [cat_cellsII hi2] at h1
  exact Rd.of_own (S := inS) (n := ((cat' ess i).map (Value.int .i64)).length) (by rw [inS_flat]; exact h1) (by simp)

/-! ### Changes within a stretch of blocks -/
structure Mid (base hi : Nat) (w w' : World) : Prop where
  os : w'.os = w.os
  tape : w'.tape = w.tape
  output : w'.output = w.output
  size : w.heap.size ≤ w'.heap.size
  block : ∀ i, i < w.heap.size → (i < base ∨ hi ≤ i) → w'.heap[i]? = w.heap[i]?
section
variable {w w1 w2 : World} {base hi : Nat}
theorem Mid.refl (w : World) : Mid base hi w w := ⟨rfl, rfl, rfl, Nat.le_refl _, fun _ _ _ => rfl⟩
theorem Mid.trans (h : Mid base hi w w1) (k : Mid base hi w1 w2) : Mid base hi w w2 :=
  ⟨k.os.trans h.os, k.tape.trans h.tape, k.output.trans h.output, Nat.le_trans h.size k.size, fun i h1 h2 => (k.block i (Nat.lt_of_lt_of_le h1 h.size) h2).trans (h.block i h1 h2)⟩
theorem Mid.of_grown {row : Option Nat} (h : w.grownBy w1 row) (hr : ∀ g, row = some g → base ≤ g ∧ g < hi) : Mid base hi w w1 :=
  ⟨h.os, h.tape, h.output, h.size, fun i h1 h2 => h.block i h1 (fun e => by have := hr i e.symm; omega)⟩
theorem Mid.of_below (h : Below w.heap.size w w1) : Mid base hi w w1 := ⟨h.os, h.tape, h.output, h.size, fun i h1 _ => h.block i h1⟩
theorem Mid.below (h : Mid base hi w w1) {B : Nat} (hB : B ≤ base) (hs : base ≤ w.heap.size) : Below B w w1 := ⟨h.os, h.tape, h.output, h.size, fun i hi2 => h.block i (by omega) (.inl (by omega))⟩
/-- A row that lies without the stretch. -/
theorem Mid.own {b : Nat} {e : TypeId} {size : Nat} {v : Value} {n : Nat} {xs : List Value} (h : Mid base hi w w1) (ho : w.ownsRow b e size v n xs) (hr : ∀ g, v.ownBlock = some g → g < base ∨ hi ≤ g) : w1.ownsRow b e size v n xs := by
  refine ⟨ho.1, ?_⟩
  rcases ho.2 with h1 | ⟨g, cap, cur, h1, h2, h3, h4⟩
  · exact .inl h1
  · refine .inr ⟨g, cap, cur, h1, h2, ?_, h4⟩
    rw [h.block g (Array.getElem?_eq_some_iff.1 h3).1 (hr g (by rw [h1]; rfl))]
    exact h3
theorem Mid.blk {g : Nat} {t : TypeId} {cs : Array Value} (h : Mid base hi w w1) (hb : Blk w g t cs) (hr : g < base ∨ hi ≤ g) : Blk w1 g t cs := (h.block g hb.lt hr).trans hb
theorem Mid.nown {te ti : TypeId} {b2 hi2 : Nat} {v : Value} {vs : List Value} {css : List (List Value)} (h : Mid base hi w w1) (ho : NOwn w te ti b2 hi2 v vs css) (hr : hi2 ≤ base ∨ hi ≤ b2) : NOwn w1 te ti b2 hi2 v vs css :=
  ⟨ho.len, h.own ho.out (fun g hg => by have := ho.vhi g hg; have := (ho.out.lt g hg).1; omega), fun i hi3 => h.own (ho.row i hi3) (fun g hg => by have := ho.ihi i g hi3 hg; have := ((ho.row i hi3).lt g hg).1; omega), ho.apart, ho.top, ho.vhi, ho.ihi⟩
end

theorem vat_set_ne {E : Type} {css : List (List E)} {j i : Nat} {c : List E} (h : i ≠ j) : cat' (css.set j c) i = cat' css i := by
  unfold cat'
  rw [List.getD_eq_getElem?_getD, List.getD_eq_getElem?_getD, List.getElem?_set_ne (fun e => h e.symm)]
theorem vat_set_eq {E : Type} {css : List (List E)} {j : Nat} {c : List E} (h : j < css.length) : cat' (css.set j c) j = c := by
  unfold cat'
  rw [List.getD_eq_getElem?_getD, List.getElem?_set_self h]; rfl
/-- One row is written anew. -/
theorem NOwn.put {w w' : World} {te ti : TypeId} {base hi : Nat} {v : Value} {vs : List Value} {css : List (List Value)} (h : NOwn w te ti base hi v vs css) {j : Nat} (hj : j < css.length) {c : List Value} (hrow : w'.ownsRow base ti 1 (vat vs j) c.length c) (hg : w.grownBy w' (vat vs j).ownBlock) :
    NOwn w' te ti base hi v vs (css.set j c) := by
  have hl : (css.set j c).length = css.length := List.length_set
  refine ⟨by rw [hl, h.len], by rw [hl]; exact World.ownsRow.kept h.out hg (own_ne (fun g h1 h2 => h.top j g hj h2 h1)), ?_, ?_, ?_, h.vhi, ?_⟩
  · intro i hi2
    rw [hl] at hi2
    by_cases hij : i = j
    · subst hij
      rw [vat_set_eq hj]
      exact hrow
    · rw [vat_set_ne hij]
      exact World.ownsRow.kept (h.row i hi2) hg (own_ne (fun g h1 h2 => h.apart i j g hi2 hj hij h1 h2))
  · intro i k g hi2 hk2; rw [hl] at hi2 hk2; exact h.apart i k g hi2 hk2
  · intro i g hi2; rw [hl] at hi2; exact h.top i g hi2
  · intro i g hi2; rw [hl] at hi2; exact h.ihi i g hi2

/-! ### Marks in a slice of slices -/
def totL {E : Type} (css : List (List E)) : Nat := (css.map List.length).sum
def mkII (k0 : Int) : List (List Value) → List (List Value)
  | [] => []
  | c :: cs => marks k0 c.length :: mkII (k0 + c.length) cs
theorem length_mkII : ∀ (css : List (List Value)) (k0 : Int), (mkII k0 css).length = css.length
  | [], _ => rfl
  | c :: cs, k0 => by simp [mkII, length_mkII cs]
theorem totL_take_succ {E : Type} {css : List (List E)} {j : Nat} (h : j < css.length) : totL (css.take (j + 1)) = totL (css.take j) + (cat' css j).length := by
  unfold totL cat'
  rw [List.take_succ_eq_append_getElem h, List.map_append, List.sum_append, List.getD_eq_getElem?_getD, List.getElem?_eq_getElem h]
  simp
theorem totL_take_le {E : Type} (css : List (List E)) (j : Nat) : totL (css.take j) ≤ totL css := by
  have h : totL css = totL (css.take j) + totL (css.drop j) := by
    unfold totL
    rw [← List.sum_append, ← List.map_append, List.take_append_drop]
  omega
theorem cat_len_le {E : Type} (css : List (List E)) {j : Nat} (h : j < css.length) : (cat' css j).length ≤ totL css := by
  have h1 := totL_take_succ h
  have h2 := totL_take_le css (j + 1)
  omega
/-- The first j rows are marked. -/
theorem mkII_step : ∀ (css : List (List Value)) (k0 : Int) (j : Nat), j < css.length → (mkII k0 (css.take j) ++ css.drop j).set j (marks (k0 + totL (css.take j)) (cat' css j).length) = mkII k0 (css.take (j + 1)) ++ css.drop (j + 1)
  | [], _, _, h => by simp at h
  | c :: cs, k0, 0, _ => by simp [mkII, totL, cat']
  | c :: cs, k0, j + 1, h => by
    have ih := mkII_step cs (k0 + c.length) j (by simpa using h)
    have e : cat' (c :: cs) (j + 1) = cat' cs j := by simp [cat']
    have e2 : k0 + (totL ((c :: cs).take (j + 1)) : Int) = (k0 + c.length) + totL (cs.take j) := by
      simp only [totL, List.take_succ_cons, List.map_cons, List.sum_cons]
      omega
    rw [e, e2]
    simp only [List.take_succ_cons, mkII, List.cons_append, List.drop_succ_cons, List.set_cons_succ]
    rw [ih]
theorem mkII_cat : ∀ (css : List (List Value)) (k0 : Int) (j : Nat), j < css.length → cat' (mkII k0 css) j = marks (k0 + totL (css.take j)) (cat' css j).length
  | [], _, _, h => by simp at h
  | c :: cs, k0, 0, _ => by simp [mkII, totL, cat']
  | c :: cs, k0, j + 1, h => by
    have ih := mkII_cat cs (k0 + c.length) j (by simpa using h)
    have e : cat' (c :: cs) (j + 1) = cat' cs j := by simp [cat']
    have e3 : cat' (mkII k0 (c :: cs)) (j + 1) = cat' (mkII (k0 + c.length) cs) j := by simp [cat', mkII]
    have e2 : k0 + (totL ((c :: cs).take (j + 1)) : Int) = (k0 + c.length) + totL (cs.take j) := by
      simp only [totL, List.take_succ_cons, List.map_cons, List.sum_cons]
      omega
    rw [e, e2, e3, ih]
end
section
open Go Go.RowKit

theorem infoSlI : (Tryz.prog.info? 38).map (fun i => (i.zero, i.size, i.bytes)) = some (some (.slice none 0 0), 1, 24) := by kernel_rfl
def NRetI (base : Nat) (V : List (List Int) × Bool) (r : Ending) (w' : World) : Prop := ∃ v' vs, r = .returned (.tuple #[v', .bool V.2]) ∧ NOwn w' 38 3 base w'.heap.size v' vs (cellsII V.1)
theorem lenII (ess : List (List Int)) : (cellsII ess).length = ess.length := by simp [cellsII]
theorem edges_no {L : List Cu} (h : edB L = false) : edgesV L = ([], false) := by unfold edgesV; rw [h]; rfl
theorem edges_yes {L : List Cu} (h : edB L = true) : edgesV L = (edTo L L.length, true) := by unfold edgesV; rw [h]; rfl
theorem edB_long {L : List Cu} (h : 8 < L.length) : edB L = false := by unfold edB; rw [decide_eq_false (by omega), Bool.false_and]
theorem edB_ok {L : List Cu} {k : Nat} (hk : k < L.length) (h : edOk L k = false) : edB L = false := by
  unfold edB
  have : (List.range L.length).all (edOk L) = false := by rw [List.all_eq_false]; exact ⟨k, List.mem_range.2 hk, by simp [h]⟩
  rw [this, Bool.false_and, Bool.and_false]
theorem edB_al {L : List Cu} {k : Nat} (hk : k < L.length) (h : (alC (cuS.get L k)).2 = false) : edB L = false := by
  unfold edB
  have : (List.range L.length).all (fun k => (alC (cuS.get L k)).2) = false := by rw [List.all_eq_false]; exact ⟨k, List.mem_range.2 hk, by simp [h]⟩
  rw [this, Bool.and_false, Bool.and_false]
theorem edB_yes {L : List Cu} (hl : L.length ≤ 8) (h1 : ∀ j, j < L.length → edOk L j = true) (h2 : ∀ j, j < L.length → (alC (cuS.get L j)).2 = true) : edB L = true := by
  unfold edB
  have e1 : (List.range L.length).all (edOk L) = true := by rw [List.all_eq_true]; exact fun k hk => h1 k (List.mem_range.1 hk)
  have e2 : (List.range L.length).all (fun k => (alC (cuS.get L k)).2) = true := by rw [List.all_eq_true]; exact fun k hk => h2 k (List.mem_range.1 hk)
  rw [e1, e2, decide_eq_true hl]; rfl
theorem edOk_parts (L : List Cu) (k : Nat) : edOk L k = (curveB (cuS.get L k).a (cuS.get L k).b && ((k == 0 || decide (cmpC (cuS.get L (k - 1)).a (cuS.get L (k - 1)).b (cuS.get L k).a (cuS.get L k).b < 0)) && decide (smU (cuS.get L k).a (cuS.get L k).b = 1))) := rfl
theorem edOk_cv {L : List Cu} {k : Nat} (h : edOk L k = true) : curveB (cuS.get L k).a (cuS.get L k).b = true := by
  rw [edOk_parts] at h
  simp only [Bool.and_eq_true] at h
  exact h.1
/-- A model that is its own smallest one. -/
theorem sm_self {a b : Int} (h : curveB a b = true) : ((smC a b).a == a && (smC a b).b == b) = decide (smU a b = 1) := by
  by_cases h1 : smU a b = 1
  · have e4 : p4 1 = 1 := rfl
    have e6 : p6 1 = 1 := rfl
    rw [decide_eq_true h1]
    unfold smC
    rw [h1, e4, e6]
    simp
  · rw [decide_eq_false h1]
    have hu := smU_bd a b
    have hd := smU_dv a b
    unfold dvU at hd
    rw [decide_eq_true_eq] at hd
    have hc : 2 ≤ smU a b ∧ ¬ (a = 0 ∧ b = 0) ∧ p4 (smU a b) ∣ a ∧ p6 (smU a b) ∣ b := ⟨by omega, curveB_nz h, hd.1, hd.2⟩
    have hlt := red_dec hc
    unfold smC
    rw [Bool.eq_false_iff]
    intro hh
    simp only [Bool.and_eq_true, beq_iff_eq] at hh
    rw [hh.1, hh.2] at hlt
    omega
theorem own_apartI {u v : Value} (H : ∀ k, v.ownBlock = some k → u.ownBlock = some k → False) : v.ownBlock = none ∨ v.ownBlock ≠ u.ownBlock := own_ne H
theorem cvI_lit {a b : Int} {q : Bool} (h : curveB a b = q) (w : World) : Calls Tryz.prog 44 #[.agg #[.int .i64 a, .int .i64 b]] w fun e w' => e = .returned (.bool q) ∧ Below w.heap.size w w' := by subst h; exact isCurve_any a b w
theorem cvS_lit {a b : Int} {q : Bool} (h : curveB a b = q) (w : World) : Calls Tryz.prog 51 #[.agg #[.int .i64 a, .int .i64 b]] w fun e w' => e = .returned (.bool q) ∧ Below w.heap.size w w' := by subst h; exact ecGood_any a b w
theorem cmpI_lit {a b c d : Int} {q : Int} (h : cmpC a b c d = q) (w : World) : Calls Tryz.prog 110 #[.agg #[.int .i64 a, .int .i64 b], .agg #[.int .i64 c, .int .i64 d]] w fun e w' => e = .returned (.int .i64 q) ∧ Below w.heap.size w w' := by subst h; exact compareCurves_any a b c d w
theorem befS_lit {a b c d : Int} {q : Int} (h : cmpC a b c d = q) (w : World) : Calls Tryz.prog 161 #[.agg #[.int .i64 a, .int .i64 b], .agg #[.int .i64 c, .int .i64 d]] w fun e w' => e = .returned (.bool (decide (q < 0))) ∧ Below w.heap.size w w' := by subst h; exact icBefore_any a b c d w
end
section
open Go Go.RowKit

def fsT (T : List (Cu × Int)) : List Cu := T.map Prod.fst
def snT (T : List (Cu × Int)) : List Value := T.map (fun q => Value.int .i64 q.2)
theorem fsT_len (T : List (Cu × Int)) : (fsT T).length = T.length := List.length_map ..
theorem snT_len (T : List (Cu × Int)) : (snT T).length = T.length := List.length_map ..
theorem snT_cell {w : World} {b : Nat} {t : TypeId} {A : Option Addr} {n c : Nat} {T : List (Cu × Int)} (h : w.ownsRow b t 1 (.slice A n c) n (snT T)) (hn : n = T.length) (k : Nat) (hk : k < T.length) :
    ∃ g, A = some ⟨g, 0, none⟩ ∧ g < w.heap.size ∧ w.cell? ⟨g, k, none⟩ = some (.int .i64 T[k].2) := by
  rcases h.2 with ⟨h', h0⟩ | ⟨g, cap, cur, h', h1, h2, h3, h4, h5, h6⟩
  · omega
  · cases h'
    refine ⟨g, rfl, (Array.getElem?_eq_some_iff.1 h2).1, ?_⟩
    have hcell := h.cellAt k (by omega)
    rw [hcell]
    unfold snT
    rw [List.getElem?_map, List.getElem?_eq_getElem hk]
    rfl
theorem fsT_cell {w : World} {b : Nat} {t : TypeId} {A : Option Addr} {n c : Nat} {T : List (Cu × Int)} (h : w.ownsRow b t 2 (.slice A n c) n (cuS.flat (fsT T))) (hn : n = T.length) (k : Nat) (hk : k < T.length) :
    ∃ g, A = some ⟨g, 0, none⟩ ∧ g < w.heap.size ∧ w.cell? ⟨g, k * 2, none⟩ = some (.int .i64 T[k].1.a) ∧ w.cell? ⟨g, k * 2 + 1, none⟩ = some (.int .i64 T[k].1.b) := by
  have hr := Rd.of_own (S := cuS) h (by rw [fsT_len]; exact hn)
  obtain ⟨A', c', hv, hc1, hc2, hA⟩ := hr
  rcases h.2 with ⟨h', h0⟩ | ⟨g, cap, cur, h', h1, h2, h3, h4, h5, h6⟩
  · omega
  · cases h'
    refine ⟨g, rfl, (Array.getElem?_eq_some_iff.1 h2).1, ?_⟩
    obtain ⟨g', off, hA', hg', hcell⟩ := hA (by rw [fsT_len]; omega)
    cases hv
    simp only [Option.some.injEq, Addr.mk.injEq, and_true] at hA'
    obtain ⟨rfl, rfl⟩ := hA'
    obtain ⟨f0, f1⟩ := cu_cells hcell k (by rw [fsT_len]; exact hk)
    have e : cuS.get (fsT T) k = T[k].1 := by
      rw [getCu (by rw [fsT_len]; exact hk)]
      unfold fsT
      rw [List.getElem_map]
    rw [e, Nat.zero_add] at f0 f1
    exact ⟨f0, f1⟩
/-- What the search hands back. -/
def ClsR (B : Nat) (o : Option (List (Cu × Int))) (r : Ending) (w' : World) : Prop := match o with
  | none => r = .returned (.tuple #[.slice none 0 0, .slice none 0 0, .bool false])
  | some T => ∃ v u : Value, r = .returned (.tuple #[v, u, .bool true]) ∧ w'.ownsRow B 25 2 v T.length (cuS.flat (fsT T)) ∧ w'.ownsRow B 3 1 u T.length (snT T)
theorem addT_in (s : Int) (T : List (Cu × Int)) (l : List Cu) (k : Nat) (hk : k < T.length) : ∃ h : k < (addT s l T).length, (addT s l T)[k] = T[k] := by
  obtain ⟨R, hR⟩ := addT_grow s l T
  refine ⟨by rw [hR, List.length_append]; omega, ?_⟩
  have : (addT s l T)[k]? = T[k]? := by rw [hR, List.getElem?_append_left hk]
  rw [List.getElem?_eq_getElem (by rw [hR, List.length_append]; omega), List.getElem?_eq_getElem hk] at this
  exact Option.some.inj this
theorem addT_len (s : Int) : ∀ (l : List Cu) (T : List (Cu × Int)), (addT s l T).length ≤ T.length + l.length
  | [], T => by simp [addT]
  | d :: l, T => by
    unfold addT
    split
    · have := addT_len s l T; simp; omega
    · have := addT_len s l (T ++ [(d, s)]); simp at *; omega
theorem addT_bd {s : Int} {n : Int} : ∀ (l : List Cu) (T : List (Cu × Int)), (∀ q ∈ T, 0 ≤ q.2 ∧ q.2 ≤ n) → 0 ≤ s → s ≤ n → ∀ q ∈ addT s l T, 0 ≤ q.2 ∧ q.2 ≤ n
  | [], T, h, _, _ => by unfold addT; exact h
  | d :: l, T, h, h1, h2 => by
    unfold addT
    split
    · exact addT_bd l T h h1 h2
    · refine addT_bd l _ (fun q hq => ?_) h1 h2
      rw [List.mem_append, List.mem_singleton] at hq
      rcases hq with hq | rfl
      · exact h q hq
      · exact ⟨h1, h2⟩
theorem addT_take {s : Int} {l : List Cu} {T : List (Cu × Int)} {j : Nat} (hj : j < l.length) : addT s (l.take (j + 1)) T = if cuS.get l j ∈ fsT (addT s (l.take j) T) then addT s (l.take j) T else addT s (l.take j) T ++ [(cuS.get l j, s)] := by
  rw [List.take_succ_eq_append_getElem hj, addT_snoc, getCu hj]; rfl
end
end Go.Proofs.YtacehhcpfollnaaGreat
