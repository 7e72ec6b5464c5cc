/- slices.Clone of reports; a row of reports of the call's own. Conditions: none. -/
import Derived.Test.YtjnghjgfhlgbiaaDoorSReport
import Derived.Test.YtjnghjgfhlgbiaaDoorFrame
import Derived.Test.YtjnghjgfhlgbiaaDoorRow
namespace Go.Proofs.YtjnghjgfhlgbiaaDoor
open Go Go.RowKit

theorem own_rp {w : World} {B g n cap : Nat} {ys : List Rp} (h : w.ownsRow B 30 7 (.slice (some ⟨g, 0, none⟩) n cap) n (rpS.flat ys)) (hl : ys.length = n) {k : Nat} (hk : k < n) :
    w.cell? ⟨g, k * 7, none⟩ = some (.int .i64 (rpS.get ys k).tm) ∧ w.cell? ⟨g, k * 7 + 1, none⟩ = some (.int .i64 (rpS.get ys k).mc) ∧ w.cell? ⟨g, k * 7 + 2, none⟩ = some (.int .i64 (rpS.get ys k).a) ∧ w.cell? ⟨g, k * 7 + 3, none⟩ = some (.int .i64 (rpS.get ys k).b) ∧ w.cell? ⟨g, k * 7 + 4, none⟩ = some (.int .i64 (rpS.get ys k).lo) ∧ w.cell? ⟨g, k * 7 + 5, none⟩ = some (.int .i64 (rpS.get ys k).hi) ∧ w.cell? ⟨g, k * 7 + 6, none⟩ = some (.int .i64 (rpS.get ys k).to) := by
  subst hl
  have key : ∀ r, r < 7 → w.cell? ⟨g, k * 7 + r, none⟩ = some (rpS.cell (rpS.get ys k) r) := fun r hr => by
    rw [h.cellAt (k * 7 + r) (by omega)]
    exact Shape.flat_at (S := rpS) ys k r hk hr
  exact ⟨key 0 (by omega), key 1 (by omega), key 2 (by omega), key 3 (by omega), key 4 (by omega), key 5 (by omega), key 6 (by omega)⟩
theorem get_dropRp {ys es : List Rp} {j : Nat} (h : ys.drop j = es.drop j) : rpS.get ys j = rpS.get es j := by
  have h1 : (ys.drop j)[0]? = (es.drop j)[0]? := by rw [h]
  rw [List.getElem?_drop, List.getElem?_drop, Nat.add_zero] at h1
  simp [Shape.get, List.getD_eq_getElem?_getD, h1]
theorem putRp (w : World) (g o : Nat) (x : Rp) : w.setCells g o (rpS.cells x) = (((((((w.setCell ⟨g, o, none⟩ (.int .i64 x.tm)).setCell ⟨g, o + 1, none⟩ (.int .i64 x.mc)).setCell ⟨g, o + 2, none⟩ (.int .i64 x.a)).setCell ⟨g, o + 3, none⟩ (.int .i64 x.b)).setCell ⟨g, o + 4, none⟩ (.int .i64 x.lo)).setCell ⟨g, o + 5, none⟩ (.int .i64 x.hi)).setCell ⟨g, o + 6, none⟩ (.int .i64 x.to)) := rfl
theorem infoRp2 : (Tryd.prog.info? 30).map (fun i => (i.zero, i.size, i.bytes)) = some (some (.agg #[.int .i64 0, .int .i64 0, .int .i64 0, .int .i64 0, .int .i64 0, .int .i64 0, .int .i64 0]), 7, 56) := by kernel_rfl
theorem rp_one (es : List Rp) : ∀ u ∈ rpS.flat es, u.oneCell' = true := by
  intro u hu
  unfold Shape.flat at hu
  rw [List.mem_flatMap] at hu
  obtain ⟨x, -, hx⟩ := hu
  unfold Shape.cells at hx
  rw [List.mem_map] at hx
  obtain ⟨j, -, rfl⟩ := hx
  simp only [rpS]
  split <;> rfl
theorem rp_flat_cells {w : World} {hi c : Nat} {a : Addr} {es : List Rp} (h : Rd rpS w hi (.slice (some a) es.length c) es) :
    ∀ j u, (rpS.flat es)[j]? = some u → w.cell? (a.add j) = some u := by
  intro j u hj
  have hl : j < (rpS.flat es).length := (List.getElem?_eq_some_iff.1 hj).1
  rw [Shape.length_flat] at hl
  change j < es.length * 7 at hl
  obtain ⟨A, c', hv, -, -, hA⟩ := h
  obtain ⟨g, off, rfl, -, hc⟩ := hA (by omega)
  cases hv
  have h1 : j / 7 < es.length := by omega
  have h2 : j % 7 < 7 := by omega
  have h3 := Shape.flat_at (S := rpS) es (j / 7) (j % 7) h1 h2
  have h4 := hc (j / 7) h1 (j % 7) h2
  change (rpS.flat es)[j / 7 * 7 + j % 7]? = _ at h3
  change w.cell? ⟨g, off + j / 7 * 7 + j % 7, none⟩ = _ at h4
  rw [show j / 7 * 7 + j % 7 = j by omega] at h3
  rw [show off + j / 7 * 7 + j % 7 = off + j by omega] at h4
  rw [hj] at h3
  rw [h3]
  by_cases h0 : j = 0
  · subst h0; simpa [Addr.add] using h4
  · simpa [Addr.add, h0] using h4
theorem oneRp_cells {w : World} {b : Nat} {x : Rp} (h : Blk w b 30 #[.int .i64 x.tm, .int .i64 x.mc, .int .i64 x.a, .int .i64 x.b, .int .i64 x.lo, .int .i64 x.hi, .int .i64 x.to]) : ∀ j u, (rpS.flat [x])[j]? = some u → w.cell? ((⟨b, 0, none⟩ : Addr).add j) = some u := by
  intro j u hj
  have hj2 : ((#[.int .i64 x.tm, .int .i64 x.mc, .int .i64 x.a, .int .i64 x.b, .int .i64 x.lo, .int .i64 x.hi, .int .i64 x.to] : Array Value).toList)[j]? = some u := hj
  rw [Array.getElem?_toList] at hj2
  rw [← hj2, ← h.cell j]
  unfold Addr.add
  by_cases h0 : j = 0 <;> simp [h0]

set_option maxRecDepth 8000 in
set_option maxHeartbeats 1600000 in
theorem cloneRp_any (v : Value) (es : List Rp) (w : World) (h : Rd rpS w w.heap.size v es) (hlen : es.length ≤ 1048576) :
    Calls Tryd.prog 32 #[v] w fun e w' => ∃ v', e = .returned v' ∧ w'.ownsRow w.heap.size 30 7 v' es.length (rpS.flat es) ∧ Below w.heap.size w w' := by
  obtain ⟨i0, hi, hz0, hz1, hz2⟩ := info_parts infoRp2
  have hr := h
  obtain ⟨A, c, rfl, -, -, hA⟩ := h
  cases A with
  | none =>
    obtain rfl : es = [] := by
      rcases Nat.eq_zero_or_pos es.length with h0 | h0
      · exact List.eq_nil_of_length_eq_zero h0
      · obtain ⟨g, off, h1, -⟩ := hA h0
        cases h1
    clear hA hr
    have hql : ∀ W, (binOp .eql 24 (.slice none 0 c) (.slice none 0 0)).run Tryd.prog W = .ok (.bool true) W := fun W => by first | rfl | kernel_rfl | simp [go_sem, binOp]
    show Calls _ _ #[.slice none 0 c] _ _
    go_enter Tryd.func32, Tryd.ntmps32
    go_wp2
    go_ret
    exact ⟨_, rfl, ⟨rfl, Or.inl ⟨rfl, rfl⟩⟩, Below.refl _ _⟩
  | some a =>
    have hql : ∀ W, (binOp .eql 24 (.slice (some a) es.length c) (.slice none 0 0)).run Tryd.prog W = .ok (.bool false) W := fun W => by first | rfl | kernel_rfl | simp [go_sem, binOp]
    have hcells := rp_flat_cells hr
    have Hlt : Hid (∀ (j : Nat) (u : Value), (rpS.flat es)[j]? = some u → (a.add j).block < w.heap.size) := Lib.hid (fun j u hj => World.block_lt_of_cell? w _ (hcells j u hj))
    have Hc := Lib.hid hcells
    clear hcells hA hr
    go_enter Tryd.func32, Tryd.ntmps32
    have hown0 := Lib.hid (World.ownsRow_lit (base := w.heap.size) (e := 30) (size := 7) w #[] 0 (Nat.le_refl _) (by unfold maxLen; omega) rfl)
    go_wp2_with (at_builtin; refine wpList_append_own _ rfl _ _ 24 rfl w.heap.size 30 i0 (.agg #[.int .i64 0, .int .i64 0, .int .i64 0, .int .i64 0, .int .i64 0, .int .i64 0, .int .i64 0]) 7 56 Tryd.underlying24 hi hz0 hz1 hz2 rfl (by decide) _ _ _ rfl hown0.out a es.length c (rpS.flat es) rfl (Shape.length_flat es) ?c1 (rp_one es) ?c3 ?c4 (by simp) ?_)
    case c1 =>
      intro j u hj
      rw [World.cell?_alloc_lt _ _ _ (Hlt.out j u hj)]
      exact Hc.out j u hj
    case c3 => unfold maxLen; omega
    case c4 => omega
    intro v' w3 hown' hgrow _
    have hbn : Below w.heap.size w w3 := Below.grown (bal (Below.refl _ _) _) hgrow (by simp) (fun j hj => (hown0.out.lt j hj).1)
    have Hown' := Lib.hid hown'
    clear hown' hgrow
    go_wp2
    go_ret
    exact ⟨_, rfl, by have := Hown'.out; simpa using this, hbn⟩
end Go.Proofs.YtjnghjgfhlgbiaaDoor
