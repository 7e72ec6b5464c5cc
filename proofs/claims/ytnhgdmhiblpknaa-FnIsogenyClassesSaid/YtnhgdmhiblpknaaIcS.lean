/- The sort of a row of curves. Conditions: none but the length. Printed by gen_ics.py. -/
import Derived.Test.YtnhgdmhiblpknaaIcU
import Derived.Test.YtnhgdmhiblpknaaShelfS
import Derived.Sort.Grow
import Derived.Deep.RegionHeld3
import Derived.Shelf.GgSortFunc.InsertionK
namespace Go.Proofs.Ytnhgdmhiblpknaa
section
open Go Go.RowKit Go.Sort

/-- Draws and new blocks, nothing else. -/
def GrI (w w' : World) : Prop := ∃ (q : Nat) (os : Array Obj), w' = grow (w.drewN q) os
theorem GrI.refl (w : World) : GrI w w := ⟨0, #[], by rw [grow_empty]; rfl⟩
theorem GrI.drew {w w' : World} (h : GrI w w') : GrI w w'.drew := by
  obtain ⟨q, os, rfl⟩ := h
  exact ⟨q + 1, os, rfl⟩
theorem GrI.alloc {w w' : World} (h : GrI w w') (o : Obj) : GrI w (w'.alloc o) := by
  obtain ⟨q, os, rfl⟩ := h
  exact ⟨q, os ++ #[o], by rw [alloc_eq_grow, grow_grow]⟩
theorem GrI.trans {w w1 w2 : World} (h : GrI w w1) (k : GrI w1 w2) : GrI w w2 := by
  obtain ⟨q, os, rfl⟩ := h
  obtain ⟨p, ot, rfl⟩ := k
  refine ⟨q + p, os ++ ot, ?_⟩
  rw [← grow_grow]
  unfold grow World.drewN
  simp only [Nat.add_assoc]
set_option maxHeartbeats 800000 in
theorem compareCurves_grI (a b c d : Int) (w : World) :
    Calls Try.prog 37 #[.agg #[.int .i64 a, .int .i64 b], .agg #[.int .i64 c, .int .i64 d]] w fun e w' => e = .returned (.int .i64 (cmpC a b c d)) ∧ GrI w w' := by
  go_enter Try.func37, Try.ntmps37
  go_wp2
  go_region_held3 (fun w' => w'.cell? ⟨w.heap.size, 0, none⟩ = some (.int .i64 a) ∧ w'.cell? ⟨w.heap.size, 1, none⟩ = some (.int .i64 b) ∧ w'.cell? ⟨w.heap.size + 1, 0, none⟩ = some (.int .i64 c) ∧ w'.cell? ⟨w.heap.size + 1, 1, none⟩ = some (.int .i64 d)) (simp [go_sem, World.cell?_alloc_past])
    (first
      | (go_at_call 69; refine (cmpCompare_any _ _ _).mono ?_; rintro e w' ⟨rfl, rfl⟩)
      | (go_at_call 68; refine (cmpOr_two _ _ (cmpI a c) (cmpI b d) _ ?_ ?_).mono ?_; (simp [go_sem]); (simp [go_sem]); rintro e w' ⟨rfl, rfl⟩))
  all_goals go_wp2
  all_goals go_ret
  all_goals exact ⟨by rw [← or2_cmp]; rfl, by repeat (with_reducible first | exact GrI.refl _ | refine GrI.drew ?_ | refine GrI.alloc ?_ _)⟩
end
section
open Go Go.RowKit Go.Sort Go.Shelf

instance : Inhabited Cu := ⟨⟨0, 0⟩⟩
def encEI (x : Cu) : List Value := [.int .i64 x.a, .int .i64 x.b]
theorem encE_lenI (x : Cu) : (encEI x).length = 2 := rfl
theorem encE_cellI (x : Cu) (j : Nat) (hj : j < 2) : (encEI x)[j]! = cuS.cell x j := by
  match j, hj with
  | 0, _ => rfl
  | 1, _ => rfl
theorem getCu_bang (d : List Cu) (k : Nat) (h : k < d.length) : d.toArray[k]! = cuS.get d k := by
  rw [getCu h, getElem!_pos d.toArray k (by simpa using h)]
  simp
theorem flatK_flatI (d : List Cu) (j : Nat) (h : j < d.length * 2) : some (flatK encEI 2 d.toArray)[j]! = (cuS.flat d)[j]? := by
  have hk : j / 2 < d.length := by omega
  have hm : j % 2 < 2 := Nat.mod_lt _ (by decide)
  rw [get_flatK encEI 2 d.toArray j (by simpa using h), getCu_bang d _ hk, encE_cellI _ _ hm]
  have := cuS.flat_at d (j / 2) (j % 2) hk hm
  rw [← this]
  congr 1
  show j / 2 * 2 + j % 2 = j
  omega
section
variable {w : World} {base g n c : Nat} {d d' : List Cu} {cur : Array Value}
theorem own_curI (h : w.ownsRow base 37 2 (.slice (some ⟨g, 0, none⟩) n c) n (cuS.flat d)) : ∃ cur, base ≤ g ∧ w.heap[g]? = some (.cells cur 37 (0, 0)) ∧ n ≤ c ∧ c ≤ maxLen ∧ cur.size = c * 2 ∧ cur.toList.take (n * 2) = cuS.flat d := by
  obtain ⟨-, ⟨h', -⟩ | ⟨g', cap', cur, h', hb, hg, hc, hm, hs, ht⟩⟩ := h
  · cases h'
  · cases h'
    exact ⟨cur, hb, hg, hc, hm, hs, ht⟩
theorem own_holdsKI (h : w.ownsRow base 37 2 (.slice (some ⟨g, 0, none⟩) n c) n (cuS.flat d)) (hn : n = d.length) : HoldsK encEI 2 w g 0 d.toArray := by
  obtain ⟨cur, -, hg, -, -, -, ht⟩ := own_curI h
  intro j hj
  have hj' : j < d.length * 2 := by simpa using hj
  have hB : Blk w g 37 cur := hg
  refine ⟨?_, hB.frozen _⟩
  rw [Nat.zero_add, hB.cell j]
  show cur[j]? = some (flatK encEI 2 d.toArray)[j]!
  rw [flatK_flatI d j hj', ← ht, List.getElem?_take, if_pos (by omega)]
  simp
theorem heap_sortKI (hg : w.heap[g]? = some (.cells cur 37 (0, 0))) (m : Nat) (os : Array Obj) : (sortWorldK encEI 2 w g 0 m d.toArray os).heap[g]? = some (.cells (putCells id 0 (flatK encEI 2 d.toArray) cur) 37 (0, 0)) := by
  have hlt : g < w.heap.size := (Array.getElem?_eq_some_iff.1 hg).1
  show ((w.heap.modify g (onCells (putCells id 0 (flatK encEI 2 d.toArray)))) ++ os)[g]? = _
  rw [Array.getElem?_append_left (by rw [Array.size_modify]; exact hlt), Array.getElem?_modify, if_pos rfl, hg]
  rfl
theorem own_behindI (h : w.ownsRow base 37 2 (.slice (some ⟨g, 0, none⟩) n c) n (cuS.flat d)) (hn : n = d'.length) (m : Nat) (os : Array Obj) :
    (sortWorldK encEI 2 w g 0 m d'.toArray os).ownsRow base 37 2 (.slice (some ⟨g, 0, none⟩) n c) n (cuS.flat d') ∧ Below base w (sortWorldK encEI 2 w g 0 m d'.toArray os) := by
  obtain ⟨cur, hb, hg, hc, hm, hs, -⟩ := own_curI h
  have hfl : (cuS.flat d').length = d'.length * 2 := Shape.length_flat d'
  refine ⟨⟨by rw [hfl, hn], Or.inr ⟨g, c, _, rfl, hb, heap_sortKI hg m os, hc, hm, by rw [← hs]; simp [putCells], ?_⟩⟩, rfl, rfl, rfl, ?_, ?_⟩
  · apply List.ext_getElem?
    intro i
    rw [List.getElem?_take]
    by_cases hi : i < n * 2
    · rw [if_pos hi, ← flatK_flatI d' i (by omega), Array.getElem?_toList]
      have hic : i < cur.size := by rw [hs]; omega
      unfold putCells
      rw [Array.getElem?_mapIdx, Array.getElem?_eq_getElem hic, Option.map_some, if_pos ⟨Nat.zero_le _, by rw [size_flatK]; simp; omega⟩]
      rfl
    · rw [if_neg hi, List.getElem?_eq_none (by omega)]
  · show w.heap.size ≤ ((w.heap.modify g _) ++ os).size
    rw [Array.size_append, Array.size_modify]
    omega
  · intro k hk
    show ((w.heap.modify g _) ++ os)[k]? = _
    have hlt : g < w.heap.size := (Array.getElem?_eq_some_iff.1 hg).1
    rw [Array.getElem?_append_left (by rw [Array.size_modify]; omega), Array.getElem?_modify, if_neg (by omega)]
end

def cmpCu (x y : Cu) : Int := cmpC x.a x.b y.a y.b
theorem ltEI (x y : Cu) : ltOf cmpCu x y = decide (cmpCu x y < 0) := rfl
theorem swoEI : SWO (ltOf cmpCu) where
  irrefl x := by rw [ltEI]; exact decide_eq_false (ltC_irr x)
  trans x y z h1 h2 := by
    rw [ltEI] at *
    exact decide_eq_true (ltC_trans (of_decide_eq_true h1) (of_decide_eq_true h2))
  ntrans x y z h1 h2 := by
    rw [ltEI] at *
    have h1 := of_decide_eq_false h1
    have h2 := of_decide_eq_false h2
    refine decide_eq_false (fun h => ?_)
    unfold cmpCu at *
    rw [cmpC_lt] at *
    omega
theorem cmpLaysEI (g n : Nat) (w : World) : CmpLays Try.prog 37 #[] encEI 2 cmpCu g 0 n w := fun _ _ _ _ x y =>
  (compareCurves_grI x.a x.b y.a y.b _).mono fun _ _ ⟨he, q, os', hq⟩ => ⟨he, q, os', hq⟩
theorem closEI : ∀ args w, (callFunc 37 args).run Try.prog w = .ok (.enter 37 args) w := enters_of Try.func37 (by kernel_rfl) rfl
theorem insNoneI (fv : Value) (w : World) : Calls Try.prog 84 #[.slice none 0 0, .int .i64 0, .int .i64 0, fv] w fun e w' => e = .returned (.tuple #[]) ∧ w' = w := by
  go_enter Try.func84, Try.ntmps84
  go_wp2
  refine wp_loop_rounds 1 ?_
  rw [rounds_succ]
  go_wp2
  go_end0
  exact ⟨rfl, rfl⟩
theorem pdqNoneI (lim : Int) (fv : Value) (w : World) : Calls Try.prog 73 #[.slice none 0 0, .int .i64 0, .int .i64 0, .int .i64 lim, fv] w fun e w' => e = .returned (.tuple #[]) ∧ w' = w := by
  go_enter Try.func73, Try.ntmps73
  go_wp2
  refine wp_loop_rounds 1 ?_
  rw [rounds_succ]
  go_wp2_with (go_at_call 84; refine (insNoneI _ _).mono ?_; rintro e w' ⟨rfl, rfl⟩)
  (try simp only [Exit.inBlock, Exit.then]); refine bodyPost_ret (results_none rfl _ _ _) rfl ?_
  exact ⟨rfl, rfl⟩
theorem sortNoneI (fv : Value) (w : World) : Calls Try.prog 47 #[.slice none 0 0, fv] w fun e w' => e = .returned (.tuple #[]) ∧ w' = w := by
  have hl : Calls Try.prog 74 #[.int .u64 0] w fun e w' => e = .returned (.int .i64 0) ∧ w' = w := Any.bits_Len (SlLaysF0.n15.bits (P := Try.prog) (ρ := Try.sortEn_ren) { Try.sortEn with }) 0 w (by omega) (by omega)
  go_enter Try.func47, Try.ntmps47
  go_wp2_with (first | (go_at_call 74; refine hl.mono ?_; rintro e w' ⟨rfl, rfl⟩) | (go_at_call 73; refine (pdqNoneI _ _ _).mono ?_; rintro e w' ⟨rfl, rfl⟩))
  go_end0
  exact ⟨rfl, rfl⟩
theorem sortCu_any (base : Nat) (v : Value) (xs : List Cu) (w : World) (ho : w.ownsRow base 37 2 v xs.length (cuS.flat xs)) (hlen : xs.length ≤ 1000000) :
    Calls Try.prog 47 #[v, .func (.func 37) #[] #[]] w fun e w' => e = .returned (.tuple #[]) ∧ ∃ d : List Cu, d.Perm xs ∧ (∀ i j, i < j → j < d.length → ¬ cmpCu (cuS.get d j) (cuS.get d i) < 0) ∧ w'.ownsRow base 37 2 v d.length (cuS.flat d) ∧ Below base w w' := by
  have hform : (v = .slice none 0 0 ∧ xs.length = 0) ∨ ∃ g c, v = .slice (some ⟨g, 0, none⟩) xs.length c := by
    rcases ho.2 with h | ⟨g, c, _, h, _⟩
    · exact Or.inl h
    · exact Or.inr ⟨g, c, h⟩
  rcases hform with ⟨rfl, h0⟩ | ⟨g, c, rfl⟩
  · obtain rfl := List.eq_nil_of_length_eq_zero h0
    have hcon := sortNoneI (.func (.func 37) #[] #[]) w
    refine hcon.mono fun e w' ⟨he, hw⟩ => ?_
    subst hw
    exact ⟨he, [], List.Perm.refl _, fun i j _ hj => absurd hj (Nat.not_lt_zero _), ho, Below.refl _ _⟩
  · obtain ⟨cur, hb, hg, -⟩ := own_curI ho
    have hlt : g < w.heap.size := (Array.getElem?_eq_some_iff.1 hg).1
    have hcon := AnyQ.slices_SortFunc Try.sortEn 2 (fun _ => by kernel_rfl) (fun _ => by kernel_rfl) encEI encE_lenI (fun x u hu => by simp [encEI] at hu; rcases hu with rfl | rfl <;> rfl) cmpCu swoEI 37 #[] g 0 c xs.toArray w closEI (cmpLaysEI g xs.toArray.size w) (own_holdsKI ho rfl) hlt (by simp; omega)
    change Calls Try.prog 47 _ _ _ at hcon
    rw [List.size_toArray] at hcon
    refine hcon.mono fun e w' ⟨he, d', n, os, hp, hs, hw⟩ => ?_
    subst hw
    obtain ⟨hsz, -, hpm⟩ := hp
    have hsz' : d'.toList.length = xs.length := by simpa using hsz
    have hpl : d'.toList.Perm xs := by
      have h2 : d'.extract 0 xs.length = d' := by rw [← hsz']; simp
      rw [h2] at hpm
      simpa using hpm
    have hd : d' = d'.toList.toArray := by simp
    obtain ⟨h3, h4⟩ := own_behindI (d' := d'.toList) ho hsz'.symm n os
    refine ⟨he, d'.toList, hpl, fun i j hij hj h => ?_, ?_, ?_⟩
    · have h5 := hs i j (Nat.zero_le _) hij (by omega)
      rw [ltEI] at h5
      rw [hd, getCu_bang _ j hj, getCu_bang _ i (by omega)] at h5
      exact of_decide_eq_false h5 h
    · rw [hsz', ← hd] at *; exact h3
    · rw [← hd] at h4; exact h4
end
end Go.Proofs.Ytnhgdmhiblpknaa
