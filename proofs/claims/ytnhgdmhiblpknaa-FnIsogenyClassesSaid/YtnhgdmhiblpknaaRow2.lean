/- Own lemmas that know no program: copies into a row of the call's own; an element put into a list. Conditions: none. -/
import Derived.Test.YtnhgdmhiblpknaaRow
import Derived.Shelf.Spec.SlicesInsert
import Derived.Lib.AppendZerosOnto
import Derived.Lib.Overlaps
import Derived.Deep.RegionLaw
namespace Go.Proofs.Ytnhgdmhiblpknaa
open Go Go.RowKit

def ins {E : Type} (es : List E) (k : Nat) (u : E) : List E := es.take k ++ u :: es.drop k
theorem length_ins {E : Type} (es : List E) (k : Nat) (u : E) : (ins es k u).length = es.length + 1 := by
  unfold ins
  rw [List.length_append, List.length_cons, List.length_take, List.length_drop]
  omega
theorem ins_end {E : Type} (es : List E) (u : E) : ins es es.length u = es ++ [u] := by simp [ins]
section
variable {E : Type} {S : Shape E}
theorem flat_cons (y : E) (ys : List E) : S.flat (y :: ys) = S.cells y ++ S.flat ys := by simp [Shape.flat]
theorem flat_ins (es : List E) (k : Nat) (u : E) : S.flat (ins es k u) = S.flat (es.take k) ++ (S.cells u ++ S.flat (es.drop k)) := by
  unfold ins
  rw [Shape.flat_append, flat_cons]
theorem flat_cut (es : List E) (k : Nat) : S.flat es = S.flat (es.take k) ++ S.flat (es.drop k) := by
  rw [← Shape.flat_append, List.take_append_drop]
end
theorem lay_mid {u D X : List Value} (h : X.length = u.length + D.length) : lay X u.length D = X.take u.length ++ D := by
  have h1 := lay_over D (X.take u.length) (X.drop u.length) [] (by rw [List.length_drop]; omega)
  rw [List.append_nil, List.append_nil, List.take_append_drop, List.length_take, Nat.min_eq_left (by omega)] at h1
  exact h1
theorem lay_shift {A D Z u : List Value} (hz : Z.length = u.length) : lay (lay (A ++ (D ++ Z)) (A.length + u.length) D) A.length u = A ++ (u ++ D) := by
  rw [lay_right D A (D ++ Z) (A.length + u.length) (by omega), show A.length + u.length - A.length = u.length by omega, lay_mid (u := u) (D := D) (X := D ++ Z) (by rw [List.length_append]; omega)]
  exact lay_over u A ((D ++ Z).take u.length) D (by rw [List.length_take, List.length_append]; omega)
theorem lay_shift2 {A D R u : List Value} (h : R.length = u.length + D.length) : lay (lay (A ++ R) A.length u) (A.length + u.length) D = A ++ (u ++ D) := by
  have h1 := lay_over u A (R.take u.length) (R.drop u.length) (by rw [List.length_take]; omega)
  rw [List.take_append_drop] at h1
  rw [h1, lay_right D A (u ++ R.drop u.length) (A.length + u.length) (by omega), show A.length + u.length - A.length = u.length by omega, lay_mid (u := u) (D := D) (X := u ++ R.drop u.length) (by rw [List.length_append, List.length_drop]; omega)]
  rw [List.take_left]

section
variable {P : Program}
theorem run_copy_k (w : World) (dT sT ty elem : TypeId) (b o dLen dCap : Nat) (a : Addr) (sLen sCap size : Nat) (cs : List Value)
    (hu : P.underlying dT = some (.slice elem)) (hs : (P.info? elem).map (·.size) = some size) (hn : cs.length = Nat.min sLen dLen * size)
    (hsrc : ∀ j v, cs[j]? = some v → w.cell? (a.add j) = some v) (hc : ∀ j, j < cs.length → (w.cell? ⟨b, o + j, none⟩).isSome = true) (hf : ∀ j, j < cs.length → w.frozen? ⟨b, o + j, none⟩ = false) (h1 : ∀ v ∈ cs, v.oneCell' = true) :
    (Builtin.copy_ #[dT, sT] ty #[.slice (some ⟨b, o, none⟩) dLen dCap, .slice (some a) sLen sCap]).run P w = .ok (goInt (Nat.min sLen dLen)) (w.setCells b o cs) := by
  have hst := run_storeCells_cells (P := P) b o cs 0 w (by simpa using hc) (by simpa using hf) h1
  have hl := run_firstCells_some (P := P) w size (Nat.min sLen dLen) a sLen sCap cs hn hsrc
  simp only [Nat.add_zero] at hst
  cases hq : P.info? elem with
  | none => simp [hq] at hs
  | some i =>
    have hi : i.size = size := by simpa [hq] using hs
    subst hi
    simp [Builtin.copy_, run_underlying hu, Builtin.lenOf, sizeOf, typeInfo, hq, hl, hst]
variable {w : World} {base : Nat} {e : TypeId} {size g n cap : Nat} {xs : List Value}
/-- A copy into a row of the call's own. -/
theorem run_copy_own {t : TypeId} (hu : P.underlying t = some (.slice e)) (hs : (P.info? e).map (·.size) = some size) (h : w.ownsRow base e size (.slice (some ⟨g, 0, none⟩) n cap) n xs)
    {a : Addr} {cs : List Value} {o dLen sLen : Nat} (hn : cs.length = Nat.min sLen dLen * size) (hfit : o + cs.length ≤ n * size) (hsrc : ∀ j v, cs[j]? = some v → w.cell? (a.add j) = some v) (h1 : ∀ v ∈ cs, v.oneCell' = true) (ty : TypeId) (dCap sCap : Nat) :
    (Builtin.copy_ #[t, t] ty #[.slice (some ⟨g, o, none⟩) dLen dCap, .slice (some a) sLen sCap]).run P w = .ok (goInt (Nat.min sLen dLen)) (w.setCells g o cs) :=
  run_copy_k w t t ty e g o dLen dCap a sLen sCap size cs hu hs hn hsrc
    (fun j hj => by
      have hlt : o + j < xs.length := by rw [h.1]; omega
      rw [h.cellAt (o + j) (by omega), List.getElem?_eq_getElem hlt]; rfl)
    (fun j _ => h.frozenAt _) h1
theorem own_more (h : w.ownsRow base e size (.slice (some ⟨g, 0, none⟩) n cap) n xs) (hc : n + 1 ≤ cap) : ∃ zs, zs.length = size ∧ w.ownsRow base e size (.slice (some ⟨g, 0, none⟩) (n + 1) cap) (n + 1) (xs ++ zs) := by
  rcases h.2 with ⟨h', _⟩ | ⟨g', cap', cur, h', hb, hg, hnc, hcm, hcs, htake⟩
  · simp at h'
  · simp only [Value.slice.injEq, Option.some.injEq, Addr.mk.injEq, and_true, true_and] at h'
    obtain ⟨rfl, rfl⟩ := h'
    have hm : (n + 1) * size ≤ cap * size := Nat.mul_le_mul_right _ hc
    have he : (n + 1) * size = n * size + size := by rw [Nat.add_mul, Nat.one_mul]
    have hsz : (cur.toList.take ((n + 1) * size)).length = (n + 1) * size := by rw [List.length_take, Array.length_toList, hcs]; omega
    refine ⟨(cur.toList.take ((n + 1) * size)).drop (n * size), by rw [List.length_drop, hsz]; omega, ?_, .inr ⟨g, cap, cur, rfl, hb, hg, hc, hcm, hcs, ?_⟩⟩
    · rw [List.length_append, h.1, List.length_drop, hsz]; omega
    · have : xs = (cur.toList.take ((n + 1) * size)).take (n * size) := by rw [List.take_take, Nat.min_eq_left (by omega), htake]
      rw [this, List.take_append_drop]
theorem own_new {cur : Array Value} (hb : base ≤ w.heap.size) (hn : n ≤ cap) (hc : cap ≤ maxLen) (hs : cur.size = cap * size) : (w.alloc (.cells cur e)).ownsRow base e size (.slice (some ⟨w.heap.size, 0, none⟩) n cap) n (cur.toList.take (n * size)) := by
  have hm : n * size ≤ cap * size := Nat.mul_le_mul_right _ hn
  exact ⟨by rw [List.length_take, Array.length_toList, hs]; omega, .inr ⟨w.heap.size, cap, cur, rfl, hb, heap_alloc_new w _, hn, hc, hs, rfl⟩⟩
theorem own_shape (h : w.ownsRow base e size (.slice (some ⟨g, 0, none⟩) n cap) n xs) : w.shape? g = some (e, cap * size) := by
  rcases h.2 with ⟨h', _⟩ | ⟨g', cap', cur, h', hb, hg, hnc, hcm, hcs, htake⟩
  · simp at h'
  · simp only [Value.slice.injEq, Option.some.injEq, Addr.mk.injEq, and_true, true_and] at h'
    obtain ⟨rfl, rfl⟩ := h'
    simp [World.shape?, hg, hcs]
theorem own_caps (h : w.ownsRow base e size (.slice (some ⟨g, 0, none⟩) n cap) n xs) : n ≤ cap ∧ cap ≤ 9223372036854775807 := by
  rcases h.2 with ⟨h', _⟩ | ⟨g', cap', cur, h', hb, hg, hnc, hcm, hcs, htake⟩
  · simp at h'
  · simp only [Value.slice.injEq, Option.some.injEq, Addr.mk.injEq, and_true, true_and] at h'
    obtain ⟨rfl, rfl⟩ := h'
    exact ⟨hnc, by unfold maxLen at hcm; omega⟩
theorem blk_shape {cs : Array Value} {b : Nat} {t : TypeId} (h : Blk w b t cs) : w.shape? b = some (t, cs.size) := by
  unfold Blk at h
  simp [World.shape?, h]
theorem own_add (h : w.ownsRow base e size (.slice (some ⟨g, 0, none⟩) n cap) n xs) {o : Nat} {cs : List Value} (hx : ∀ j, j < cs.length → xs[o + j]? = cs[j]?) (hfit : o + cs.length ≤ n * size) : ∀ j v, cs[j]? = some v → w.cell? ((⟨g, o, none⟩ : Addr).add j) = some v := by
  intro j v hj
  have hl := (List.getElem?_eq_some_iff.1 hj).1
  rw [Addr.add_lit, h.cellAt (o + j) (by omega), hx j hl, hj]
end
end Go.Proofs.Ytnhgdmhiblpknaa
