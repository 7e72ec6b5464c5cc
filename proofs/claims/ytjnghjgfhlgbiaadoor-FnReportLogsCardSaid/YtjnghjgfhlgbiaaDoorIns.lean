/- slices.Insert of one report. Conditions: none. -/
import Derived.Test.YtjnghjgfhlgbiaaDoorClone
import Derived.Test.YtjnghjgfhlgbiaaDoorRow2
namespace Go.Proofs.YtjnghjgfhlgbiaaDoor
open Go Go.RowKit

theorem sizeRp : (Tryd.prog.info? 30).map (·.size) = some 7 := by kernel_rfl
theorem sizeOfRp (w : World) : (sizeOf 30).run Tryd.prog w = .ok 7 w := by
  obtain ⟨i0, hi, hz0, hz1, hz2⟩ := info_parts infoRp2
  simp [sizeOf, typeInfo, hi, hz1]
theorem zeroBRp : ((.agg #[.int .i64 0, .int .i64 0, .int .i64 0, .int .i64 0, .int .i64 0, .int .i64 0, .int .i64 0] : Value).cells).size = 7 := rfl
theorem zsizeRp (m : Nat) : (Builtin.zeroCells ((.agg #[.int .i64 0, .int .i64 0, .int .i64 0, .int .i64 0, .int .i64 0, .int .i64 0, .int .i64 0] : Value).cells) m).size = m * 7 := by simp [Builtin.zeroCells, Value.cells]

set_option maxHeartbeats 1600000 in
set_option maxRecDepth 100000 in
/-- At the end: append. -/
theorem insRp_end (v : Value) (es : List Rp) (u : Rp) (vb B : Nat) (w : World) (hown : w.ownsRow B 30 7 v es.length (rpS.flat es)) (hlen : es.length ≤ 1048576) (hblk : Blk w vb 30 #[.int .i64 u.tm, .int .i64 u.mc, .int .i64 u.a, .int .i64 u.b, .int .i64 u.lo, .int .i64 u.hi, .int .i64 u.to]) (hB : B ≤ w.heap.size) :
    Calls Tryd.prog 31 #[v, .int .i64 es.length, .slice (some ⟨vb, 0, none⟩) 1 1] w fun r w' => ∃ v', r = .returned v' ∧ w'.ownsRow B 30 7 v' (ins es es.length u).length (rpS.flat (ins es es.length u)) ∧ w.grownBy w' v.ownBlock := by
  obtain ⟨i0, hi, hz0, hz1, hz2⟩ := info_parts infoRp2
  have Hown := Lib.hid hown
  have Hblk := Lib.hid hblk; clear hblk
  have hl : (ins es es.length u).length = es.length + 1 := length_ins es _ u
  have hf : rpS.flat (ins es es.length u) = rpS.flat es ++ rpS.flat [u] := by rw [ins_end, Shape.flat_append]
  rw [hl, hf]
  clear hl hf
  have hv : (v = .slice none 0 0 ∧ es = []) ∨ ∃ g cap, v = .slice (some ⟨g, 0, none⟩) es.length cap ∧ es.length ≤ cap ∧ cap ≤ 9223372036854775807 := by
    rcases hown.2 with ⟨h1, h2⟩ | ⟨g, cap, cur, rfl, -⟩
    · exact .inl ⟨h1, List.eq_nil_of_length_eq_zero h2⟩
    · exact .inr ⟨g, cap, rfl, own_caps hown⟩
  clear hown
  rcases hv with ⟨rfl, rfl⟩ | ⟨g, cap, rfl, hc1, hc2⟩
  · go_enter Tryd.func31, Tryd.ntmps31
    go_wp2_with (at_builtin; refine wpList_append_own _ rfl _ _ 24 rfl B 30 i0 (.agg #[.int .i64 0, .int .i64 0, .int .i64 0, .int .i64 0, .int .i64 0, .int .i64 0, .int .i64 0]) 7 56 Tryd.underlying24 hi hz0 hz1 hz2 rfl (by decide) _ _ _ rfl Hown.out ⟨vb, 0, none⟩ 1 1 (rpS.flat [u]) rfl rfl ?c1 (rp_one _) ?c3 ?c4 ?c5 ?_)
    case c1 => exact oneRp_cells Hblk.out
    case c3 => unfold maxLen; simp
    case c4 => simp
    case c5 => exact hB
    intro v' w3 hown' hgrow _
    have Hown' := Lib.hid hown'
    have Hg := Lib.hid hgrow
    clear hown' hgrow
    go_wp2
    go_ret
    exact ⟨_, rfl, Hown'.out, Hg.out⟩
  · go_enter Tryd.func31, Tryd.ntmps31
    go_wp2_with (at_builtin; refine wpList_append_own _ rfl _ _ 24 rfl B 30 i0 (.agg #[.int .i64 0, .int .i64 0, .int .i64 0, .int .i64 0, .int .i64 0, .int .i64 0, .int .i64 0]) 7 56 Tryd.underlying24 hi hz0 hz1 hz2 rfl (by decide) _ _ _ rfl Hown.out ⟨vb, 0, none⟩ 1 1 (rpS.flat [u]) rfl rfl ?c1 (rp_one _) ?c3 ?c4 ?c5 ?_)
    all_goals first
      | (case c1 => exact oneRp_cells Hblk.out)
      | (case c3 => unfold maxLen; omega)
      | (case c4 => omega)
      | (case c5 => exact hB)
      | skip
    all_goals
      intro v' w3 hown' hgrow _
      have Hown' := Lib.hid hown'
      have Hg := Lib.hid hgrow
      clear hown' hgrow
      go_wp2
      go_ret
      exact ⟨_, rfl, Hown'.out, Hg.out⟩

set_option maxHeartbeats 4000000 in
set_option maxRecDepth 100000 in
/-- In the midst, with room. -/
theorem insRp_room (es : List Rp) (k : Nat) (u : Rp) (vb B g cap : Nat) (w : World) (hown : w.ownsRow B 30 7 (.slice (some ⟨g, 0, none⟩) es.length cap) es.length (rpS.flat es)) (hk : k < es.length) (hblk : Blk w vb 30 #[.int .i64 u.tm, .int .i64 u.mc, .int .i64 u.a, .int .i64 u.b, .int .i64 u.lo, .int .i64 u.hi, .int .i64 u.to]) (hvb : vb ≠ g) (hroom : es.length + 1 ≤ cap) :
    Calls Tryd.prog 31 #[.slice (some ⟨g, 0, none⟩) es.length cap, .int .i64 k, .slice (some ⟨vb, 0, none⟩) 1 1] w fun r w' => ∃ v', r = .returned v' ∧ w'.ownsRow B 30 7 v' (ins es k u).length (rpS.flat (ins es k u)) ∧ w.grownBy w' (some g) := by
  have hcap := (own_caps hown).2
  have hfl : (rpS.flat es).length = es.length * 7 := Shape.length_flat es
  obtain ⟨zs, hzs, hown1⟩ := own_more hown hroom
  have hdl : (rpS.flat (es.drop k)).length = (es.length - k) * 7 := by rw [Shape.length_flat, List.length_drop]; rfl
  have htl : (rpS.flat (es.take k)).length = k * 7 := by rw [Shape.length_flat, List.length_take, Nat.min_eq_left (by omega)]; rfl
  have hul : (rpS.cells u).length = 7 := Shape.length_cells u
  have hzl : zs.length = (rpS.cells u).length := by rw [hzs, hul]
  have hov : ∀ lb cb, (callFunc 55 #[.slice (some ⟨vb, 0, none⟩) 1 1, .slice (some ⟨g, (k + 1) * 7, none⟩) lb cb]).run Tryd.prog w = .ok (.value (.bool false)) w := fun lb cb => by
    rw [run_callFunc_extern Tryd.func55 (by kernel_rfl) (by kernel_rfl) (by kernel_rfl) (e := Extern.SlicesOverlaps.overlaps #[24, 24] #[4]) (by kernel_rfl),
      Lib.run_overlaps_apart w 24 4 30 Tryd.underlying24 7 sizeOfRp ⟨vb, 0, none⟩ ⟨g, (k + 1) * 7, none⟩ 1 1 lb cb hvb _ _ _ _ (blk_shape hblk) (own_shape hown) (by omega) (hblk.frozen _) (hblk.frozen _)]
    rfl
  have hfl2 : rpS.flat es ++ zs = rpS.flat (es.take k) ++ (rpS.flat (es.drop k) ++ zs) := by rw [flat_cut es k, List.append_assoc]
  have hcp1 : ∀ ty dc sc, (Builtin.copy_ #[24, 24] ty #[.slice (some ⟨g, (k + 1) * 7, none⟩) (es.length - k) dc, .slice (some ⟨g, k * 7, none⟩) (es.length + 1 - k) sc]).run Tryd.prog w.drew = .ok (goInt (Nat.min (es.length + 1 - k) (es.length - k))) (w.drew.setCells g ((k + 1) * 7) (rpS.flat (es.drop k))) := fun ty dc sc =>
    run_copy_own (w := w.drew) Tryd.underlying24 sizeRp hown1.drew (by rw [hdl, show Nat.min (es.length + 1 - k) (es.length - k) = es.length - k from Nat.min_eq_right (by omega)]) (by rw [hdl, Nat.sub_mul]; omega)
      (own_add hown1.drew (by
        intro j hj
        rw [hfl2, List.getElem?_append_right (by omega), htl, show k * 7 + j - k * 7 = j by omega, List.getElem?_append_left hj]) (by rw [hdl, Nat.sub_mul]; omega)) (rp_one _) ty dc sc
  obtain ⟨W1, hW1⟩ : ∃ W1, W1 = w.drew.setCells g ((k + 1) * 7) (rpS.flat (es.drop k)) := ⟨_, rfl⟩
  have hl1 := own_lay (rpS.flat (es.drop k)) _ _ ((k + 1) * 7) hown1.drew
  rw [← hW1] at hl1 hcp1
  have hblk1 : Blk W1 vb 30 #[.int .i64 u.tm, .int .i64 u.mc, .int .i64 u.a, .int .i64 u.b, .int .i64 u.lo, .int .i64 u.hi, .int .i64 u.to] := (hl1.2.block vb hblk.lt (by simp [hvb])).trans hblk
  have hcp2 : ∀ ty dc, (Builtin.copy_ #[24, 24] ty #[.slice (some ⟨g, k * 7, none⟩) (es.length + 1 - k) dc, .slice (some ⟨vb, 0, none⟩) 1 1]).run Tryd.prog W1 = .ok (goInt (Nat.min 1 (es.length + 1 - k))) (W1.setCells g (k * 7) (rpS.flat [u])) := fun ty dc =>
    run_copy_own (w := W1) Tryd.underlying24 sizeRp hl1.1 (by rw [show Nat.min 1 (es.length + 1 - k) = 1 from Nat.min_eq_left (by omega)]; rfl) (by show k * 7 + 7 ≤ _; omega) (oneRp_cells hblk1) (rp_one _) ty dc 1
  have hl2 := own_lay (rpS.flat [u]) _ _ (k * 7) hl1.1
  have hfu : rpS.flat [u] = rpS.cells u := by simp [Shape.flat]
  have hfin : lay (lay (rpS.flat es ++ zs) ((k + 1) * 7) (rpS.flat (es.drop k))) (k * 7) (rpS.flat [u]) = rpS.flat (ins es k u) := by
    rw [flat_ins, hfu, hfl2]
    have := lay_shift (A := rpS.flat (es.take k)) (D := rpS.flat (es.drop k)) (Z := zs) (u := rpS.cells u) hzl
    rw [htl, hul] at this
    rw [show (k + 1) * 7 = k * 7 + 7 by omega]
    exact this
  rw [hfin] at hl2
  have Hl2 := Lib.hid hl2.1
  have Hg2 := Lib.hid (gthen2 (gthen2 (show w.grownBy w.drew (some g) from ⟨rfl, rfl, rfl, Nat.le_refl _, fun _ _ _ => rfl⟩) hl1.2) hl2.2)
  have Hln := Lib.hid (length_ins es k u)
  have hz2 : ¬ ((k : Int) = (es.length : Int)) := by omega
  have hw1 : IntKind.i64.wrap ((k : Int) + 1) = (k : Int) + 1 := by rw [IntKind.wrap_i64]; omega
  have hw2 : IntKind.i64.wrap ((es.length : Int) + 1) = (es.length : Int) + 1 := by rw [IntKind.wrap_i64]; omega
  have hb1 : (0 : Int) ≤ (k : Int) + 1 := by omega
  have hin : k ≤ es.length := by omega
  have htn : ((k : Int) + 1).toNat = k + 1 := by omega
  have hb2 : ¬ (cap = k + 1) := by omega
  have hb3 : (k : Int) ≤ (es.length : Int) + 1 := by omega
  have hb4 : ¬ (cap = k) := by omega
  clear hown hown1 hblk hblk1 hl1 hl2 hW1 hfin hfl hfl2 hdl htl hul hzl hzs hfu
  go_enter Tryd.func31, Tryd.ntmps31
  go_wp2_with (simp only [hov])
  go_region_law (refine step_copy_runI rfl _ _ 24 24 rfl _ _ (by simp [Act.eval, Act.put]) (by simp [Act.eval, Act.put]) (hcp1 _ _ _) ?_)
  go_wp2_with (at_builtin; refine wpList_copy_runI _ rfl _ _ 24 24 rfl _ _ rfl rfl (hcp2 _ _) ?_)
  go_ret
  exact ⟨_, rfl, by rw [Hln.out]; exact Hl2.out, Hg2.out⟩
set_option maxHeartbeats 4000000 in
set_option maxRecDepth 100000 in
/-- In the midst, without room. -/
theorem insRp_grow (es : List Rp) (k : Nat) (u : Rp) (vb B g cap : Nat) (w : World) (hown : w.ownsRow B 30 7 (.slice (some ⟨g, 0, none⟩) es.length cap) es.length (rpS.flat es)) (hlen : es.length ≤ 1048576) (hk : k < es.length) (hblk : Blk w vb 30 #[.int .i64 u.tm, .int .i64 u.mc, .int .i64 u.a, .int .i64 u.b, .int .i64 u.lo, .int .i64 u.hi, .int .i64 u.to]) (hB : B ≤ w.heap.size) (hroom : cap < es.length + 1) :
    Calls Tryd.prog 31 #[.slice (some ⟨g, 0, none⟩) es.length cap, .int .i64 k, .slice (some ⟨vb, 0, none⟩) 1 1] w fun r w' => ∃ v', r = .returned v' ∧ w'.ownsRow B 30 7 v' (ins es k u).length (rpS.flat (ins es k u)) ∧ w.grownBy w' (some g) := by
  obtain ⟨i0, hi, hz0, hz1, hz2⟩ := info_parts infoRp2
  have hcap := own_caps hown
  have hdl : (rpS.flat (es.drop k)).length = (es.length - k) * 7 := by rw [Shape.length_flat, List.length_drop]; rfl
  have htl : (rpS.flat (es.take k)).length = k * 7 := by rw [Shape.length_flat, List.length_take, Nat.min_eq_left (by omega)]; rfl
  have hul : (rpS.cells u).length = 7 := Shape.length_cells u
  have hfu : rpS.flat [u] = rpS.cells u := by simp [Shape.flat]
  have hg := (own_base hown).2
  have hkk : (es.length : Int) + 1 - (k : Int) = ((es.length + 1 - k : Nat) : Int) := by omega
  have hik : k + (es.length + 1 - k) = es.length + 1 := by omega
  have hold : (Builtin.firstCells i0.size k (.slice (some ⟨g, 0, none⟩) k cap)).run Tryd.prog w.drew = .ok (rpS.flat (es.take k)).toArray w.drew := by
    rw [hz1]
    exact run_firstCells_some w.drew 7 k ⟨g, 0, none⟩ k cap (rpS.flat (es.take k)) htl (own_add hown.drew (by
      intro j hj
      rw [Nat.zero_add, flat_cut es k, List.getElem?_append_left hj]) (by rw [htl]; omega))
  have hrz : ∀ ty, (Builtin.append_ #[24, 3] ty #[.slice (some ⟨g, 0, none⟩) k cap, .int .i64 ((es.length : Int) + 1 - (k : Int))]).run Tryd.prog w =
      .ok (.slice (some ⟨w.heap.size, 0, none⟩) (es.length + 1) (grownCap w (es.length + 1) cap 30)) (w.drew.alloc (.cells ((rpS.flat (es.take k)).toArray ++ Builtin.zeroCells (.agg #[.int .i64 0, .int .i64 0, .int .i64 0, .int .i64 0, .int .i64 0, .int .i64 0, .int .i64 0] : Value).cells (es.length + 1 - k) ++ Builtin.zeroCells (.agg #[.int .i64 0, .int .i64 0, .int .i64 0, .int .i64 0, .int .i64 0, .int .i64 0, .int .i64 0] : Value).cells (grownCap w (es.length + 1) cap 30 - (es.length + 1))) 30)) := fun ty => by
    have h := Lib.run_append_grow_zeros w 24 3 ty 30 i0 _ .i64 .i64 Tryd.underlying24 Tryd.underlying3 hi hz0 (some ⟨g, 0, none⟩) k cap (rpS.flat (es.take k)) hold (es.length + 1 - k) (by omega) (by omega) (by omega) (by omega) (by rw [hz2]; omega) (by rw [hz2, hik]; exact growslice_fits hroom (by omega))
    rw [hik] at h
    rw [hkk]
    exact h
  have hGn : es.length + 1 ≤ grownCap w (es.length + 1) cap 30 := grownCap_ge w _ _ _
  have hGm := grownCap_le_maxLen w (es.length + 1) cap 30 (by unfold maxLen; omega)
  generalize grownCap w (es.length + 1) cap 30 = G at hrz hGn hGm
  obtain ⟨ROW, hROW⟩ : ∃ ROW : Array Value, ROW = (rpS.flat (es.take k)).toArray ++ Builtin.zeroCells (.agg #[.int .i64 0, .int .i64 0, .int .i64 0, .int .i64 0, .int .i64 0, .int .i64 0, .int .i64 0] : Value).cells (es.length + 1 - k) ++ Builtin.zeroCells (.agg #[.int .i64 0, .int .i64 0, .int .i64 0, .int .i64 0, .int .i64 0, .int .i64 0, .int .i64 0] : Value).cells (G - (es.length + 1)) := ⟨_, rfl⟩
  rw [← hROW] at hrz
  have hRs : ROW.size = G * 7 := by
    rw [hROW, Array.size_append, Array.size_append, zsizeRp, zsizeRp, List.size_toArray, htl, Nat.sub_mul, Nat.sub_mul]
    omega
  have hRt : (ROW.toList.take ((es.length + 1) * 7)).take (k * 7) = rpS.flat (es.take k) := by
    rw [List.take_take, Nat.min_eq_left (by omega), hROW]
    simp only [Array.toList_append, List.append_assoc]
    rw [← htl]
    exact List.take_left
  have hGm2 : G ≤ 9223372036854775807 := by unfold maxLen at hGm; omega
  have hownN := own_new (w := w.drew) (e := 30) (size := 7) (cap := G) (cur := ROW) (base := B) (n := es.length + 1) hB hGn hGm hRs
  obtain ⟨Y, hY⟩ : ∃ Y, Y = ROW.toList.take ((es.length + 1) * 7) := ⟨_, rfl⟩
  rw [← hY] at hRt hownN
  have hYl : Y.length = (es.length + 1) * 7 := hownN.1
  have hYs : Y = rpS.flat (es.take k) ++ Y.drop (k * 7) := by rw [← hRt, List.take_append_drop]
  obtain ⟨W1, hW1⟩ : ∃ W1, W1 = w.drew.alloc (.cells ROW 30) := ⟨_, rfl⟩
  have hgN : w.grownBy W1 (some g) := by rw [hW1]; exact gthen2 (show w.grownBy w.drew (some g) from ⟨rfl, rfl, rfl, Nat.le_refl _, fun _ _ _ => rfl⟩) (World.grownBy_alloc _ _ _)
  have hblk1 : Blk W1 vb 30 #[.int .i64 u.tm, .int .i64 u.mc, .int .i64 u.a, .int .i64 u.b, .int .i64 u.lo, .int .i64 u.hi, .int .i64 u.to] := by rw [hW1]; exact Blk.alloc (w := w.drew) hblk _
  have hown1 : W1.ownsRow B 30 7 (.slice (some ⟨g, 0, none⟩) es.length cap) es.length (rpS.flat es) := by rw [hW1]; exact hown.drew.alloc _
  have hne : g ≠ w.heap.size := by omega
  have hnv : vb ≠ w.heap.size := by have := hblk.lt; omega
  rw [← hW1] at hrz
  replace hownN : W1.ownsRow B 30 7 (.slice (some ⟨w.heap.size, 0, none⟩) (es.length + 1) G) (es.length + 1) Y := by rw [hW1]; exact hownN
  have hcpA : ∀ ty dc, (Builtin.copy_ #[24, 24] ty #[.slice (some ⟨w.heap.size, k * 7, none⟩) (es.length + 1 - k) dc, .slice (some ⟨vb, 0, none⟩) 1 1]).run Tryd.prog W1 = .ok (goInt (Nat.min 1 (es.length + 1 - k))) (W1.setCells w.heap.size (k * 7) (rpS.flat [u])) := fun ty dc =>
    run_copy_own (w := W1) Tryd.underlying24 sizeRp hownN (by rw [show Nat.min 1 (es.length + 1 - k) = 1 from Nat.min_eq_left (by omega)]; rfl) (by show k * 7 + 7 ≤ _; omega) (oneRp_cells hblk1) (rp_one _) ty dc 1
  have hl1 := own_lay (rpS.flat [u]) _ _ (k * 7) hownN
  obtain ⟨W2, hW2⟩ : ∃ W2, W2 = W1.setCells w.heap.size (k * 7) (rpS.flat [u]) := ⟨_, rfl⟩
  rw [← hW2] at hcpA hl1
  have hown2 : W2.ownsRow B 30 7 (.slice (some ⟨g, 0, none⟩) es.length cap) es.length (rpS.flat es) := hown1.kept hl1.2 (.inr (by simp [Value.ownBlock, hne]))
  have hcpB : ∀ ty dc sc, (Builtin.copy_ #[24, 24] ty #[.slice (some ⟨w.heap.size, (k + 1) * 7, none⟩) (es.length - k) dc, .slice (some ⟨g, k * 7, none⟩) (es.length - k) sc]).run Tryd.prog W2.drew = .ok (goInt (Nat.min (es.length - k) (es.length - k))) (W2.drew.setCells w.heap.size ((k + 1) * 7) (rpS.flat (es.drop k))) := fun ty dc sc =>
    run_copy_own (w := W2.drew) Tryd.underlying24 sizeRp hl1.1.drew (by rw [hdl, show Nat.min (es.length - k) (es.length - k) = es.length - k from Nat.min_self _]) (by rw [hdl, Nat.sub_mul]; omega)
      (own_add hown2.drew (by
        intro j hj
        rw [flat_cut es k, List.getElem?_append_right (by omega), htl, show k * 7 + j - k * 7 = j by omega]) (by rw [hdl, Nat.sub_mul]; omega)) (rp_one _) ty dc sc
  have hl2 := own_lay (rpS.flat (es.drop k)) _ _ ((k + 1) * 7) hl1.1.drew
  have hfin : lay (lay Y (k * 7) (rpS.flat [u])) ((k + 1) * 7) (rpS.flat (es.drop k)) = rpS.flat (ins es k u) := by
    rw [flat_ins, hfu, hYs]
    have := lay_shift2 (A := rpS.flat (es.take k)) (D := rpS.flat (es.drop k)) (R := Y.drop (k * 7)) (u := rpS.cells u) (by rw [List.length_drop, hYl, hul, hdl, Nat.sub_mul]; omega)
    rw [htl, hul] at this
    rw [show (k + 1) * 7 = k * 7 + 7 by omega]
    exact this
  rw [hfin] at hl2
  have hmv : ∀ W' : World, W1.grownBy W' (some w.heap.size) → w.grownBy W' (some g) := fun W' h =>
    ⟨h.os.trans hgN.os, h.tape.trans hgN.tape, h.output.trans hgN.output, Nat.le_trans hgN.size h.size, fun i hi' hne' => (h.block i (Nat.lt_of_lt_of_le hi' hgN.size) (by intro e; injection e with e; omega)).trans (hgN.block i hi' hne')⟩
  have Hl2 := Lib.hid hl2.1
  have Hg2 := Lib.hid (hmv _ (gthen2 (gthen2 hl1.2 (show W2.grownBy W2.drew (some w.heap.size) from ⟨rfl, rfl, rfl, Nat.le_refl _, fun _ _ _ => rfl⟩)) hl2.2))
  have Hln := Lib.hid (length_ins es k u)
  have hz2' : ¬ ((k : Int) = (es.length : Int)) := by omega
  have hz3 : (cap : Int) < (es.length : Int) + 1 := by omega
  have hw1 : IntKind.i64.wrap ((k : Int) + 1) = (k : Int) + 1 := by rw [IntKind.wrap_i64]; omega
  have hw2 : IntKind.i64.wrap ((es.length : Int) + 1) = (es.length : Int) + 1 := by rw [IntKind.wrap_i64]; omega
  have hb1 : (0 : Int) ≤ (k : Int) + 1 := by omega
  have hin : k ≤ es.length := by omega
  have htn : ((k : Int) + 1).toNat = k + 1 := by omega
  have hGi : ¬ (G = k) := by omega
  have hGim : ¬ (G = k + 1) := by omega
  have hci : ¬ (cap = k) := by omega
  have hb3 : (k : Int) ≤ (es.length : Int) + 1 := by omega
  clear hown hblk hblk1 hl1 hl2 hW1 hW2 hfin hdl htl hul hfu hownN hown1 hown2 hY hYl hYs hRt hROW hRs hold hmv hgN hkk hik
  go_enter Tryd.func31, Tryd.ntmps31
  go_wp2_with (at_builtin; first | (refine Lib.wpList_append_run _ rfl _ _ _ _ rfl _ _ rfl rfl _ _ (hrz _) ?_) | (refine wpList_copy_runI _ rfl _ _ 24 24 rfl _ _ rfl rfl (hcpA _ _) ?_))
  go_region_law (refine step_copy_runI rfl _ _ 24 24 rfl _ _ (by simp [Act.eval, Act.put]) (by simp [Act.eval, Act.put]) (hcpB _ _ _) ?_)
  go_wp2
  go_ret
  exact ⟨_, rfl, by rw [Hln.out]; exact Hl2.out, Hg2.out⟩

/-- slices.Insert of one element into a row of the call's own. -/
theorem insRp_any (v : Value) (es : List Rp) (k : Nat) (u : Rp) (vb B : Nat) (w : World) (hown : w.ownsRow B 30 7 v es.length (rpS.flat es)) (hlen : es.length ≤ 1048576) (hk : k ≤ es.length) (hblk : Blk w vb 30 #[.int .i64 u.tm, .int .i64 u.mc, .int .i64 u.a, .int .i64 u.b, .int .i64 u.lo, .int .i64 u.hi, .int .i64 u.to]) (hvb : v.ownBlock ≠ some vb) (hB : B ≤ w.heap.size) :
    Calls Tryd.prog 31 #[v, .int .i64 k, .slice (some ⟨vb, 0, none⟩) 1 1] w fun r w' => ∃ v', r = .returned v' ∧ w'.ownsRow B 30 7 v' (ins es k u).length (rpS.flat (ins es k u)) ∧ w.grownBy w' v.ownBlock := by
  rcases Nat.lt_or_ge k es.length with h | h
  · obtain ⟨g, cap, rfl⟩ : ∃ g cap, v = .slice (some ⟨g, 0, none⟩) es.length cap := by
      rcases hown.2 with ⟨-, h0⟩ | ⟨g, cap, cur, h1, -⟩
      · omega
      · exact ⟨g, cap, h1⟩
    have hob : (Value.slice (some ⟨g, 0, none⟩) es.length cap).ownBlock = some g := rfl
    rw [hob] at hvb ⊢
    rcases Nat.lt_or_ge cap (es.length + 1) with hc | hc
    · exact insRp_grow es k u vb B g cap w hown hlen h hblk hB hc
    · exact insRp_room es k u vb B g cap w hown h hblk (fun e => hvb (by rw [e])) hc
  · obtain rfl : k = es.length := by omega
    exact insRp_end v es u vb B w hown hlen hblk hB
end Go.Proofs.YtjnghjgfhlgbiaaDoor
