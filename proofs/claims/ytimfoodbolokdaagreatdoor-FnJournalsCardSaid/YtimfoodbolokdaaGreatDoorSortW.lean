/- A row of entries as the shelf's sort sees it: the cells held, and an own row behind. Conditions: none. -/
import Derived.Test.YtimfoodbolokdaaGreatDoorSortC
import Derived.Test.YtimfoodbolokdaaGreatDoorJcL
import Derived.Shelf.GgSortFunc.InsertionK
namespace Go.Proofs.YtimfoodbolokdaaGreatDoor
open Go Go.RowKit Go.Sort Go.Shelf

instance : Inhabited En := ⟨⟨0, 0, 0, 0, 0⟩⟩
def encE (x : En) : List Value := [.int .i64 x.a, .int .i64 x.b, .int .i64 x.lo, .int .i64 x.hi, .int .i64 x.to]
theorem encE_len (x : En) : (encE x).length = 5 := rfl
theorem encE_cell (x : En) (j : Nat) (hj : j < 5) : (encE x)[j]! = enS.cell x j := by
  match j, hj with
  | 0, _ => rfl
  | 1, _ => rfl
  | 2, _ => rfl
  | 3, _ => rfl
  | 4, _ => rfl
theorem getE_bang (d : List En) (k : Nat) (h : k < d.length) : d.toArray[k]! = enS.get d k := by
  rw [getE_at h, getElem!_pos d.toArray k (by simpa using h)]
  simp
theorem flatK_flat (d : List En) (j : Nat) (h : j < d.length * 5) : some (flatK encE 5 d.toArray)[j]! = (enS.flat d)[j]? := by
  have hk : j / 5 < d.length := by omega
  have hm : j % 5 < 5 := Nat.mod_lt _ (by decide)
  rw [get_flatK encE 5 d.toArray j (by simpa using h), getE_bang d _ hk, encE_cell _ _ hm]
  have := enS.flat_at d (j / 5) (j % 5) hk hm
  rw [← this]
  congr 1
  show j / 5 * 5 + j % 5 = j
  omega
section
variable {w : World} {base g n c : Nat} {d d' : List En} {cur : Array Value}
theorem own_cur (h : w.ownsRow base 29 5 (.slice (some ⟨g, 0, none⟩) n c) n (enS.flat d)) : ∃ cur, base ≤ g ∧ w.heap[g]? = some (.cells cur 29 (0, 0)) ∧ n ≤ c ∧ c ≤ maxLen ∧ cur.size = c * 5 ∧ cur.toList.take (n * 5) = enS.flat d := by
  obtain ⟨-, ⟨h', -⟩ | ⟨g', cap', cur, h', hb, hg, hc, hm, hs, ht⟩⟩ := h
  · cases h'
  · cases h'
    exact ⟨cur, hb, hg, hc, hm, hs, ht⟩
theorem own_holdsK (h : w.ownsRow base 29 5 (.slice (some ⟨g, 0, none⟩) n c) n (enS.flat d)) (hn : n = d.length) : HoldsK encE 5 w g 0 d.toArray := by
  obtain ⟨cur, -, hg, -, -, -, ht⟩ := own_cur h
  intro j hj
  have hj' : j < d.length * 5 := by simpa using hj
  have hB : Blk w g 29 cur := hg
  refine ⟨?_, hB.frozen _⟩
  rw [Nat.zero_add, hB.cell j]
  show cur[j]? = some (flatK encE 5 d.toArray)[j]!
  rw [flatK_flat d j hj', ← ht, List.getElem?_take, if_pos (by omega)]
  simp
theorem heap_sortK (hg : w.heap[g]? = some (.cells cur 29 (0, 0))) (m : Nat) (os : Array Obj) : (sortWorldK encE 5 w g 0 m d.toArray os).heap[g]? = some (.cells (putCells id 0 (flatK encE 5 d.toArray) cur) 29 (0, 0)) := by
  have hlt : g < w.heap.size := (Array.getElem?_eq_some_iff.1 hg).1
  show ((w.heap.modify g (onCells (putCells id 0 (flatK encE 5 d.toArray)))) ++ os)[g]? = _
  rw [Array.getElem?_append_left (by rw [Array.size_modify]; exact hlt), Array.getElem?_modify, if_pos rfl, hg]
  rfl
theorem own_behind (h : w.ownsRow base 29 5 (.slice (some ⟨g, 0, none⟩) n c) n (enS.flat d)) (hn : n = d'.length) (m : Nat) (os : Array Obj) :
    (sortWorldK encE 5 w g 0 m d'.toArray os).ownsRow base 29 5 (.slice (some ⟨g, 0, none⟩) n c) n (enS.flat d') ∧ Below base w (sortWorldK encE 5 w g 0 m d'.toArray os) := by
  obtain ⟨cur, hb, hg, hc, hm, hs, -⟩ := own_cur h
  have hfl : (enS.flat d').length = d'.length * 5 := Shape.length_flat d'
  refine ⟨⟨by rw [hfl, hn], Or.inr ⟨g, c, _, rfl, hb, heap_sortK hg m os, hc, hm, by rw [← hs]; simp [putCells], ?_⟩⟩, rfl, rfl, rfl, ?_, ?_⟩
  · apply List.ext_getElem?
    intro i
    rw [List.getElem?_take]
    by_cases hi : i < n * 5
    · rw [if_pos hi, ← flatK_flat d' i (by omega), Array.getElem?_toList]
      have hic : i < cur.size := by rw [hs]; omega
      unfold putCells
      rw [Array.getElem?_mapIdx, Array.getElem?_eq_getElem hic, Option.map_some, if_pos ⟨Nat.zero_le _, by rw [size_flatK]; simp; omega⟩]
      rfl
    · rw [if_neg hi, List.getElem?_eq_none (by omega)]
  · show w.heap.size ≤ ((w.heap.modify g _) ++ os).size
    rw [Array.size_append, Array.size_modify]
    omega
  · intro k hk
    show ((w.heap.modify g _) ++ os)[k]? = _
    have hlt : g < w.heap.size := (Array.getElem?_eq_some_iff.1 hg).1
    rw [Array.getElem?_append_left (by rw [Array.size_modify]; omega), Array.getElem?_modify, if_neg (by omega)]
end
end Go.Proofs.YtimfoodbolokdaaGreatDoor
