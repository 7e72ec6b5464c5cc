/- The laws' own helpers at slices of slices of ints as arguments: copied, measured; such an argument opened. Conditions: lengths of at most 1048576. -/
import Derived.Test.YticbmpjdcanjkaaJnE
import Derived.Test.YticbmpjdcanjkaaOpenT
namespace Go.Proofs.Yticbmpjdcanjkaa
open Go Go.RowKit Go.ChangeShapes Go.WideShapes Go.Deep

theorem vatv_set_ne {vs : List Value} {j i : Nat} {u : Value} (h : i ≠ j) : vat (vs.set j u) i = vat vs i := by
  unfold vat
  rw [List.getD_eq_getElem?_getD, List.getD_eq_getElem?_getD, List.getElem?_set_ne (fun e => h e.symm)]
theorem vatv_set_eq {vs : List Value} {j : Nat} {u : Value} (h : j < vs.length) : vat (vs.set j u) j = u := by
  unfold vat
  rw [List.getD_eq_getElem?_getD, List.getElem?_set_self h]; rfl
/-- A row of its own is laid into one cell. -/
theorem NOwn.outer {w : World} {te ti : TypeId} {base hi g cap j n : Nat} {vs : List Value} {css : List (List Value)} {u : Value} {c : List Value} (h : NOwn w te ti base hi (.slice (some ⟨g, 0, none⟩) n cap) vs css) (hn : n = css.length) (hj : j < css.length)
    (hu : w.ownsRow base ti 1 u c.length c) (hu1 : ∀ k, u.ownBlock = some k → hi ≤ k ∧ k < w.heap.size) (hhi : hi ≤ w.heap.size) :
    NOwn (w.setCell ⟨g, j, none⟩ u) te ti base w.heap.size (.slice (some ⟨g, 0, none⟩) n cap) (vs.set j u) (css.set j c) := by
  subst hn
  have hl : (css.set j c).length = css.length := List.length_set
  have hvl : vs.length = css.length := h.len
  obtain ⟨h1, h2⟩ := h.out.stored j u
  have hgt : ∀ i k, i < css.length → (vat vs i).ownBlock = some k → k ≠ g := fun i k hi2 hk e => h.top i k hi2 hk (by rw [e]; rfl)
  have hgv : g < hi := h.vhi g rfl
  have key : ∀ x : Value, (∀ k, x.ownBlock = some k → k ≠ g) → x.ownBlock = none ∨ x.ownBlock ≠ some g := by
    intro x hx
    cases hub : x.ownBlock with
    | none => exact .inl rfl
    | some k => exact .inr (fun e => hx k hub (by injection e))
  have hin : ∀ i k, i < css.length → (vat (vs.set j u) i).ownBlock = some k → (i ≠ j ∧ (vat vs i).ownBlock = some k) ∨ (i = j ∧ u.ownBlock = some k) := by
    intro i k hi2 hk
    by_cases hij : i = j
    · subst hij; rw [vatv_set_eq (by omega)] at hk; exact .inr ⟨rfl, hk⟩
    · rw [vatv_set_ne hij] at hk; exact .inl ⟨hij, hk⟩
  refine ⟨by rw [List.length_set, hl, hvl], by rw [hl]; exact h1, ?_, ?_, ?_, ?_, ?_⟩
  · intro i hi2
    rw [hl] at hi2
    by_cases hij : i = j
    · subst hij
      rw [vatv_set_eq (by omega), vat_set_eq hi2]
      exact World.ownsRow.kept hu h2 (key _ (fun k hk => by have := (hu1 k hk).1; omega))
    · rw [vatv_set_ne hij, vat_set_ne hij]
      exact World.ownsRow.kept (h.row i hi2) h2 (key _ (fun k hk => hgt i k hi2 hk))
  · intro a b k ha hb hne h3 h4
    rw [hl] at ha hb
    rcases hin a k ha h3 with ⟨a1, a2⟩ | ⟨a1, a2⟩ <;> rcases hin b k hb h4 with ⟨b1, b2⟩ | ⟨b1, b2⟩
    · exact h.apart a b k ha hb hne a2 b2
    · have := h.ihi a k ha a2; have := (hu1 k b2).1; omega
    · have := h.ihi b k hb b2; have := (hu1 k a2).1; omega
    · omega
  · intro i k hi2 h3 h4
    rw [hl] at hi2
    have h4 : g = k := by simpa [Value.ownBlock] using h4
    rcases hin i k hi2 h3 with ⟨a1, a2⟩ | ⟨a1, a2⟩
    · exact hgt i k hi2 a2 h4.symm
    · have := (hu1 k a2).1; omega
  · intro k hk
    have hk : g = k := by simpa [Value.ownBlock] using hk
    omega
  · intro i k hi2 h3
    rw [hl] at hi2
    rcases hin i k hi2 h3 with ⟨a1, a2⟩ | ⟨a1, a2⟩
    · have := h.ihi i k hi2 a2; omega
    · exact (hu1 k a2).2
theorem inS_get8 {es : List Int} {k : Nat} (h : k < es.length) : inS.get es k = es[k] := by
  unfold Shape.get; rw [List.getD_eq_getElem?_getD, List.getElem?_eq_getElem h]; rfl
theorem infoI8 : (Try.prog.info? 3).map (fun i => (i.zero, i.size, i.bytes)) = some (some (.int .i64 0), 1, 8) := by kernel_rfl
theorem infoS8 : (Try.prog.info? 44).map (fun i => (i.zero, i.size, i.bytes)) = some (some (.slice none 0 0), 1, 24) := by kernel_rfl
set_option maxHeartbeats 1000000 in
theorem toIntS_any (v : Value) (es : List Int) (w : World) (hv : Rd inS w w.heap.size v es) (hlen : es.length ≤ 1048576) :
    Calls Try.prog 22 #[v] w fun e w' => (∃ v', e = .returned v' ∧ w'.ownsRow w.heap.size 3 1 v' es.length (es.map (Value.int .i64))) ∧ Below w.heap.size w w' := by
  obtain ⟨i0, hi, hz0, hz1, hz2⟩ := info_parts infoI8
  obtain ⟨A, c, rfl, hc, hm, hA⟩ := hv
  unfold maxLen at hm
  have hmk : ∀ W : World, (Instr.makeSlice 44 (.int .i64 (es.length : Int)) (.int .i64 (es.length : Int))).run Try.prog W = .ok (.slice (some ⟨W.heap.size, 0, none⟩) es.length es.length) (W.alloc (.cells (madeCells #[.int .i64 0] (es.length * 1)) 3)) := by
    intro W
    have := run_make (P := Try.prog) W 44 3 i0 _ Try.underlying44 hi hz0 .i64 .i64 es.length es.length (by omega) (Int.le_refl _) (by rw [hz2]; omega) (by omega)
    rw [hz1, Int.toNat_natCast] at this
    exact this
  have hmade : ∀ W : World, W.heap.size = w.heap.size → (W.alloc (.cells (madeCells #[.int .i64 0] (es.length * 1)) 3)).ownsRow w.heap.size 3 1 (.slice (some ⟨w.heap.size, 0, none⟩) es.length es.length) es.length (madeCells #[.int .i64 0] (es.length * 1)).toList := by
    intro W hW
    rw [← hW]
    exact World.ownsRow_lit (base := W.heap.size) W _ es.length (Nat.le_refl _) (by unfold maxLen; omega) (size_madeCells _ _)
  have hZ : (madeCells #[.int .i64 0] (es.length * 1)).toList.length = es.length := by rw [Array.length_toList, size_madeCells, Nat.mul_one]
  generalize madeCells #[.int .i64 0] (es.length * 1) = Z at hmk hmade hZ
  have hF : (es.map (Value.int .i64)).length = es.length := by simp
  rcases Nat.eq_zero_or_pos es.length with h0 | h0
  · obtain rfl : es = [] := List.eq_nil_of_length_eq_zero h0
    have hmk0 := fun W => hmk W
    simp at hmk0
    go_enter Try.func22, Try.ntmps22
    go_wp2
    refine wp_loop_rounds 1 ?_
    rw [rounds_succ]
    go_wp2
    go_ret
    exact ⟨⟨_, rfl, by
      obtain rfl : Z = #[] := by simpa using hZ
      simpa using hmade w rfl⟩, by (repeat (with_reducible first | exact Below.refl _ _ | assumption | refine bal ?_ _ | refine bst ?_ (by simp <;> omega) _ | refine Below.drew ?_ | refine bthen ?_ (by assumption)))⟩
  · obtain ⟨g, off, rfl, hg, hcell⟩ := hA h0
    clear hA
    have hcell := in_cells hcell
    have hgne : g < w.heap.size + 1 := Nat.lt_succ_of_lt hg
    go_enter Try.func22, Try.ntmps22
    go_wp2
    clear hmk
    have Hmade := Lib.hid (hmade w rfl); clear hmade
    have HZ := Lib.hid hZ; clear hZ
    have HF := Lib.hid hF; clear hF
    go_loopw [4] (fun i wr => ∃ k : Nat, k ≤ es.length ∧ i = .int .i64 k ∧ Below w.heap.size w wr ∧ Hid (wr.ownsRow w.heap.size 3 1 (.slice (some ⟨w.heap.size, 0, none⟩) es.length es.length) es.length (mix (es.map (Value.int .i64)) Z.toList k))) (fun i _ => es.length - (intOf i).toNat)
    case atStart => exact ⟨0, Nat.zero_le _, rfl, bal (Below.refl _ _) _, Lib.hid (by rw [mix_zero]; exact Hmade.out)⟩
    case round =>
      obtain ⟨k, hk, rfl, hb, Hown⟩ := hrel
      by_cases hlt : k < es.length
      · have f0 := hcell k hlt
        rw [← hb.cell (p := ⟨_, _, _⟩) hg] at f0
        have hgr : g < wr.heap.size := Nat.lt_of_lt_of_le hg hb.size
        obtain ⟨x, hx⟩ : ∃ e, inS.get es k = e := ⟨_, rfl⟩
        rw [hx] at f0
        have Hx := Lib.hid hx; clear hx
        clear hcell
        have hfr := Hown.out.frozenAt
        obtain ⟨u0, hu0⟩ := own_cell Hown.out k (by omega)
        have hi0 : (0 : Int) ≤ (k : Int) := by omega
        have hi1 : (k : Int) < (es.length : Int) := by omega
        have hwl := (Hown.out.lt w.heap.size rfl).2
        go_wp2
        go_roundw
        case rel =>
          refine ⟨k + 1, by omega, by go_num, bst hb (Nat.le_refl _) _, Lib.hid ?_⟩
          have hl : Z.toList.length = (es.map (Value.int .i64)).length := by rw [HZ.out, HF.out]
          have hat : (es.map (Value.int .i64))[k]? = some (.int .i64 x) := by
            rw [List.getElem?_map, List.getElem?_eq_getElem hlt, ← Hx.out, inS_get8 hlt]; rfl
          have h_1 := (Hown.out.stored k (.int .i64 x)).1
          rw [mix_set hl hat] at h_1
          exact h_1
        case measure => simp [intOf]; omega
      · have hke : k = es.length := by omega
        have Hke := Lib.hid hke; clear hke
        go_wp2
        go_ret
        refine ⟨⟨_, rfl, ?_⟩, hb⟩
        have := Hown.out
        rw [Hke.out, ← HF.out, mix_all _ _ (by rw [HZ.out, HF.out])] at this
        rw [HF.out] at this
        exact this
set_option maxHeartbeats 400000 in
theorem szIntS_any (A : Option Addr) (n c : Nat) (left : Int) (w : World) (hn : n ≤ 9223372036854775807) (h0 : 0 ≤ left) (h1 : left ≤ 1048576) :
    Calls Try.prog 16 #[.slice A n c, .int .i64 left] w fun e w' => e = .returned (.int .i64 (szI left n)) ∧ w = w' := by
  unfold szI
  by_cases hs : left - (n : Int) < 0
  · rw [if_pos hs]
    go_enter Try.func16, Try.ntmps16
    go_wp2
    go_ret
    exact ⟨rfl, rfl⟩
  · rw [if_neg hs]
    go_enter Try.func16, Try.ntmps16
    go_wp2
    go_ret
    exact ⟨rfl, rfl⟩
/-- What is left behind a slice of slices. -/
def szII (left : Int) (n tot : Nat) : Int := if left - (n : Int) - (tot : Int) < 0 then -1 else left - n - tot
set_option maxRecDepth 8000 in
set_option maxHeartbeats 2000000 in
theorem szIntSS_any (v : Value) (ess : List (List Int)) (left : Int) (w : World) (hv : NRd w w.heap.size v ess) (h0 : 0 ≤ left) (h1 : left ≤ 1048576) :
    Calls Try.prog 5 #[v, .int .i64 left] w fun e w' => e = .returned (.int .i64 (szII left ess.length (totL ess))) ∧ Below w.heap.size w w' := by
  obtain ⟨vs, hvl, hv, hvi⟩ := hv
  obtain ⟨A, c, rfl, hc, hm, hA⟩ := hv
  rw [hvl] at hA hc ⊢
  unfold maxLen at hm
  have Hvi := Lib.hid hvi; clear hvi hvl
  by_cases hs : left - (ess.length : Int) < 0
  · have Hv := Lib.hid (show szII left ess.length (totL ess) = -1 by unfold szII; rw [if_pos (by omega)])
    rw [Hv.out]
    clear hA
    go_enter Try.func5, Try.ntmps5
    go_wp2
    go_ret
    exact ⟨rfl, Below.refl _ _⟩
  · rcases Nat.eq_zero_or_pos ess.length with hz | hz
    · obtain rfl : ess = [] := List.eq_nil_of_length_eq_zero hz
      clear hA
      have Hv := Lib.hid (show szII left ([] : List (List Int)).length (totL ([] : List (List Int))) = left by unfold szII; simp [totL]; omega)
      rw [Hv.out]
      go_enter Try.func5, Try.ntmps5
      go_wp2
      refine wp_loop_rounds 1 ?_
      rw [rounds_succ]
      go_wp2
      go_ret
      exact ⟨ret_int (by simp), Below.refl _ _⟩
    · obtain ⟨g, off, rfl, hg, hcell⟩ := hA hz
      clear hA
      have hcell := sl_cells hcell
      go_enter Try.func5, Try.ntmps5
      go_wp2
      go_loop [5, 1] (fun i q => ∃ k : Nat, k ≤ ess.length ∧ i = .int .i64 k ∧ q = .int .i64 (left - (ess.length : Int) - (totL (ess.take k) : Int)) ∧ 0 ≤ left - (ess.length : Int) - (totL (ess.take k) : Int)) (fun i _ => ess.length - (intOf i).toNat)
      case atStart => exact ⟨0, Nat.zero_le _, rfl, by simp [totL], by simp [totL]; omega⟩
      case round =>
        obtain ⟨k, hk, rfl, rfl, hq0⟩ := hrel
        by_cases hlt : k < ess.length
        · have f0 := hcell k hlt
          obtain ⟨A1, c1, hx, hl1⟩ := rd_form2 (Hvi.out k hlt)
          rw [hx] at f0
          clear hcell hx
          have Ht1 := Lib.hid (totL_take_succ hlt)
          have Ht2 := Lib.hid (totL_take_le ess (k + 1))
          have hi0 : (0 : Int) ≤ (k : Int) := by omega
          have hi1 : (k : Int) < (ess.length : Int) := by omega
          generalize (cat' ess k).length = n at f0 Ht1 hl1
          obtain ⟨Q, hQ⟩ : ∃ Q : Int, left - (ess.length : Int) - (totL (ess.take k) : Int) = Q := ⟨_, rfl⟩
          rw [hQ] at hq0 ⊢
          have hQu : Q ≤ 1048576 := by omega
          have HQ := Lib.hid hQ; clear hQ
          go_wp2_with fail
          refine (szIntS_any A1 n c1 Q _ (by omega) (by omega) (by omega)).mono ?_; rintro e w1 ⟨rfl, rfl⟩
          by_cases hneg : Q - (n : Int) < 0
          · have Hv := Lib.hid (show szII left ess.length (totL ess) = -1 by
              unfold szII
              have := HQ.out; have := Ht1.out; have := Ht2.out
              rw [if_pos (by omega)])
            rw [szI_neg (by omega)]
            clear hneg
            go_wp2
            go_ret
            exact ⟨ret_int Hv.out.symm, Below.refl _ _⟩
          · rw [szI_pos (by omega)]
            have hq2 : (0 : Int) ≤ Q - (n : Int) := by omega
            have Hn := Lib.hid (show left - (ess.length : Int) - (totL (ess.take (k + 1)) : Int) = Q - (n : Int) by have := HQ.out; have := Ht1.out; omega)
            clear hneg
            go_wp2
            go_round
            case rel => exact ⟨k + 1, by omega, by go_num, by rw [Hn.out], by rw [Hn.out]; exact hq2⟩
            case measure => simp [intOf]; omega
        · obtain rfl : k = ess.length := by omega
          rw [List.take_length] at hq0 ⊢
          have Hv := Lib.hid (show szII left ess.length (totL ess) = left - (ess.length : Int) - (totL ess : Int) by unfold szII; rw [if_neg (by omega)])
          go_wp2
          go_ret
          exact ⟨ret_int Hv.out.symm, Below.refl _ _⟩
theorem rep_cat {E : Type} {a : List (List E)} {k n : Nat} (ha : a.length = k) (hn : k < n) (c : List E) : (a ++ List.replicate (n - k) []).set k c = (a ++ [c]) ++ List.replicate (n - (k + 1)) [] := by
  rw [List.set_append_right _ _ (by omega), ha, Nat.sub_self]
  obtain ⟨q, hq⟩ : ∃ q, n - k = q + 1 := ⟨n - k - 1, by omega⟩
  rw [hq, show n - (k + 1) = q by omega, List.replicate_succ, List.set_cons_zero]
  simp
set_option maxRecDepth 8000 in
set_option maxHeartbeats 2000000 in
theorem toIntSS_any (v : Value) (ess : List (List Int)) (w : World) (hv : NRd w w.heap.size v ess) (hlen : ess.length ≤ 1048576) (htot : totL ess ≤ 1048576) :
    Calls Try.prog 8 #[v] w fun e w' => (∃ v' vs, e = .returned v' ∧ NOwn w' 44 3 w.heap.size w'.heap.size v' vs (cellsII ess)) ∧ Below w.heap.size w w' := by
  obtain ⟨i0, hi, hz0, hz1, hz2⟩ := info_parts infoS8
  obtain ⟨vs0, hvl, hv, hvi⟩ := hv
  obtain ⟨A, c, rfl, hc, hm, hA⟩ := hv
  rw [hvl] at hA hc ⊢
  unfold maxLen at hm
  have Hvi := Lib.hid hvi; clear hvi hvl
  have hmk : ∀ W : World, (Instr.makeSlice 27 (.int .i64 (ess.length : Int)) (.int .i64 (ess.length : Int))).run Try.prog W = .ok (.slice (some ⟨W.heap.size, 0, none⟩) ess.length ess.length) (W.alloc (.cells (madeCells #[.slice none 0 0] (ess.length * 1)) 44)) := by
    intro W
    have := run_make (P := Try.prog) W 27 44 i0 _ Try.underlying27 hi hz0 .i64 .i64 ess.length ess.length (by omega) (Int.le_refl _) (by rw [hz2]; omega) (by omega)
    rw [hz1, Int.toNat_natCast] at this
    exact this
  have hmc : (madeCells #[.slice none 0 0] (ess.length * 1)).toList = List.replicate ess.length (Value.slice none 0 0) := by
    apply List.ext_getElem
    · rw [Array.length_toList, size_madeCells, List.length_replicate, Nat.mul_one]
    · intro i h1 h2
      rw [List.getElem_replicate, Array.getElem_toList]
      simp [madeCells, Nat.mod_one]
  have hmade : (w.alloc (.cells (madeCells #[.slice none 0 0] (ess.length * 1)) 44)).ownsRow w.heap.size 44 1 (.slice (some ⟨w.heap.size, 0, none⟩) ess.length ess.length) ess.length (List.replicate ess.length (Value.slice none 0 0)) := by
    rw [← hmc]
    exact World.ownsRow_lit (base := w.heap.size) w _ ess.length (Nat.le_refl _) (by unfold maxLen; omega) (size_madeCells _ _)
  have hn0 : NOwn (w.alloc (.cells (madeCells #[.slice none 0 0] (ess.length * 1)) 44)) 44 3 w.heap.size (w.heap.size + 1) (.slice (some ⟨w.heap.size, 0, none⟩) ess.length ess.length) (List.replicate ess.length (Value.slice none 0 0)) (List.replicate ess.length []) := by
    have hv0 : ∀ i, vat (List.replicate ess.length (Value.slice none 0 0)) i = .slice none 0 0 := by
      intro i
      unfold vat
      rw [List.getD_eq_getElem?_getD, List.getElem?_replicate]
      split <;> rfl
    have hc0 : ∀ i, cat' (List.replicate ess.length ([] : List Value)) i = [] := by
      intro i
      unfold cat'
      rw [List.getD_eq_getElem?_getD, List.getElem?_replicate]
      split <;> rfl
    refine ⟨by simp, by rw [List.length_replicate]; exact hmade, ?_, ?_, ?_, ?_, ?_⟩
    · intro i _; rw [hv0, hc0]; exact ⟨rfl, Or.inl ⟨rfl, rfl⟩⟩
    · intro i j g _ _ _ h _; rw [hv0] at h; cases h
    · intro i g _ h _; rw [hv0] at h; cases h
    · intro g h; have h : w.heap.size = g := by simpa [Value.ownBlock] using h
      omega
    · intro i g _ h; rw [hv0] at h; cases h
  generalize madeCells #[.slice none 0 0] (ess.length * 1) = Z at hmk hmade hn0 hmc
  clear hmade hmc
  rcases Nat.eq_zero_or_pos ess.length with h0 | h0
  · obtain rfl : ess = [] := List.eq_nil_of_length_eq_zero h0
    have hmk0 := fun W => hmk W
    simp at hmk0
    clear hA
    have Hn := Lib.hid hn0; clear hn0
    go_enter Try.func8, Try.ntmps8
    go_wp2
    refine wp_loop_rounds 1 ?_
    rw [rounds_succ]
    go_wp2
    go_ret
    exact ⟨⟨_, _, rfl, by have := Hn.out; rw [World.size_alloc]; exact this⟩, by (repeat (with_reducible first | exact Below.refl _ _ | assumption | refine bal ?_ _ | refine bst ?_ (by simp <;> omega) _ | refine Below.drew ?_ | refine bthen ?_ (by assumption)))⟩
  · obtain ⟨g, off, rfl, hg, hcell⟩ := hA h0
    clear hA
    have hcell := sl_cells hcell
    have Hn := Lib.hid hn0; clear hn0
    have hgne : g < w.heap.size + 1 := Nat.lt_succ_of_lt hg
    go_enter Try.func8, Try.ntmps8
    go_wp2
    clear hmk
    go_loopw [4] (fun i wr => ∃ (k : Nat) (vs : List Value), k ≤ ess.length ∧ i = .int .i64 k ∧ Below w.heap.size w wr ∧ Hid (NOwn wr 44 3 w.heap.size wr.heap.size (.slice (some ⟨w.heap.size, 0, none⟩) ess.length ess.length) vs ((cellsII ess).take k ++ List.replicate (ess.length - k) []))) (fun i _ => ess.length - (intOf i).toNat)
    case atStart => exact ⟨0, _, Nat.zero_le _, rfl, bal (Below.refl _ _) _, Lib.hid (by have := Hn.out; simp only [List.take_zero, List.nil_append, Nat.sub_zero]; rw [World.size_alloc]; exact this)⟩
    case round =>
      obtain ⟨k, vs, hk, rfl, hb, HN⟩ := hrel
      have hcl : ((cellsII ess).take k ++ List.replicate (ess.length - k) ([] : List Value)).length = ess.length := by
        rw [List.length_append, List.length_take, List.length_replicate]; unfold cellsII; rw [List.length_map]; omega
      by_cases hlt : k < ess.length
      · have f0 := hcell k hlt
        rw [← hb.cell (p := ⟨_, _, _⟩) hg] at f0
        have hgr : g < wr.heap.size := Nat.lt_of_lt_of_le hg hb.size
        have Hr := Lib.hid ((Hvi.out k hlt).on hb)
        generalize vat vs0 k = x at f0 Hr
        clear hcell
        have Hle : Hid ((cat' ess k).length ≤ 1048576) := Lib.hid (by
          have h1 := totL_take_succ hlt; have h2 := totL_take_le ess (k + 1); omega)
        have hi0 : (0 : Int) ≤ (k : Int) := by omega
        have hi1 : (k : Int) < (ess.length : Int) := by omega
        have Hcl := Lib.hid hcl; clear hcl
        go_wp2_with fail
        refine (toIntS_any _ _ _ Hr.out Hle.out).mono ?_; rintro e w1 ⟨⟨u, rfl, hu⟩, hb1⟩
        obtain ⟨Au, cu, rfl⟩ : ∃ A c, u = .slice A (cat' ess k).length c := by
          rcases hu.2 with ⟨h', h0⟩ | ⟨g', cap', cur, h', _⟩
          · exact ⟨none, 0, by rw [h', h0]⟩
          · exact ⟨_, _, h'⟩
        have HN1 := Lib.hid (HN.out.on hb1)
        have hout := HN1.out.out
        rw [Hcl.out] at hout
        have hfr := hout.frozenAt
        obtain ⟨u0, hu0⟩ := own_cell hout k (by omega)
        have hwl := (hout.lt w.heap.size rfl).2
        have Hb1 := Lib.hid (bthen hb hb1)
        have Hsz := Lib.hid hb1.size
        have Hwr := Lib.hid hb.size
        have Hu := Lib.hid hu; clear hu hb1 hout f0
        go_wp2
        go_roundw
        case rel =>
          refine ⟨k + 1, vs.set k (.slice Au (cat' ess k).length cu), by omega, by go_num, bst Hb1.out (Nat.le_refl _) _, Lib.hid ?_⟩
          have h2 := HN1.out.outer Hcl.out.symm (j := k) (u := .slice Au (cat' ess k).length cu) (c := (cat' ess k).map (Value.int .i64)) (by rw [Hcl.out]; exact hlt) (by rw [List.length_map]; exact own_mono Hu.out Hwr.out) (fun q hq => Hu.out.lt q hq) Hsz.out
          rw [rep_cat (by rw [List.length_take]; unfold cellsII; rw [List.length_map]; omega) hlt] at h2
          have h3 : (cellsII ess).take (k + 1) = (cellsII ess).take k ++ [(cat' ess k).map (Value.int .i64)] := by
            rw [List.take_succ_eq_append_getElem (by unfold cellsII; rw [List.length_map]; exact hlt)]
            congr 2
            unfold cellsII cat'
            rw [List.getElem_map, List.getD_eq_getElem?_getD, List.getElem?_eq_getElem hlt]; rfl
          rw [h3, World.size_setCell]
          exact h2
        case measure => simp [intOf]; omega
      · obtain rfl : k = ess.length := by omega
        have HF := Lib.hid (show NOwn wr 44 3 w.heap.size wr.heap.size (.slice (some ⟨w.heap.size, 0, none⟩) ess.length ess.length) vs (cellsII ess) by
          have := HN.out
          rw [Nat.sub_self, List.replicate_zero, List.append_nil, List.take_of_length_le (by unfold cellsII; rw [List.length_map]; exact Nat.le_refl _)] at this
          exact this)
        go_wp2
        go_ret
        exact ⟨⟨_, vs, rfl, HF.out⟩, hb⟩
section
variable {H : Type} {enc : TypeId × Value → H} {P : Program} {w : World} {base : Nat} {spare : Nat → Bool} {held : Bool}
def pairS : Shape (Value × List Int) := ⟨0, fun _ _ => .slice none 0 0, (.slice none 0 0, [])⟩
/-- A slice of slices of ints among the arguments. -/
theorem open_ints2 {r : Reach} {b0 : Nat} {t ti e : TypeId} {v : Value} {d : DataW H} {p : List MemPlace} (ht : P.underlying t = some (.slice ti)) (hti : P.underlying ti = some (.slice e)) (hc1 : P.cellsOf ti = 1) (hc2 : P.cellsOf e = 1) (hi : intsB P 5 e = true)
    (hv : Value.okWide P w r b0 t v) (h : DataW.Trod enc P w base spare held t v d p) : ∃ ess : List (List Int), NRd w w.heap.size v ess := by
  obtain ⟨A, len, cap, rfl⟩ := okWide_slice ht hv
  obtain ⟨fuel, hf⟩ := h
  rcases open_slice ht hf with ⟨hcs, _⟩ | ⟨a, len', cap', m, n, D, Pl, hcs, hb, hl, hm, hmm, hx, hcell⟩
  · obtain ⟨rfl, rfl, rfl⟩ : A = none ∧ len = 0 ∧ cap = 0 := by simpa [Value.cells] using hcs
    exact ⟨[], [], rfl, Rd.nil _ _, fun i hi => absurd hi (by simp)⟩
  · obtain ⟨rfl, rfl, rfl⟩ : A = some a ∧ len = len' ∧ cap = cap' := by simpa [Value.cells] using hcs
    have hlm : len ≤ m := by rw [hmm]; split <;> omega
    have hmk : ∀ (c : Nat → Int) j, j < inS.size → inS.cell ((fun c : Nat → Int => c 0) c) j = .int .i64 (c j) := by
      intro c j hj
      have hj0 : j = 0 := by simp [inS] at hj; exact hj
      subst hj0
      rfl
    have key : ∀ i, i < len → ∃ q : Value × List Int, w.cell? ((a.add (i * 1)).add 0) = some q.1 ∧ Rd inS w w.heap.size q.1 q.2 := by
      intro i hil
      obtain ⟨cs', hc, ht'⟩ := hcell i (by omega)
      rw [hc1] at hc
      obtain ⟨_, hcl, hat⟩ := World.cells?_some hc
      obtain ⟨u, es, hu, hrd⟩ := open_ints_cells inS (fun c => c 0) hmk hti (by decide) hc2 5 hi ht'
      subst hu
      exact ⟨(u, es), by rw [hat 0 (by decide)]; rfl, hrd⟩
    obtain ⟨qs, hlen, hqs⟩ := choose_list pairS (fun i q => w.cell? ((a.add (i * 1)).add 0) = some q.1 ∧ Rd inS w w.heap.size q.1 q.2) len key
    subst hlen
    have hget : ∀ i, i < qs.length → vat (qs.map Prod.fst) i = (pairS.get qs i).1 ∧ cat' (qs.map Prod.snd) i = (pairS.get qs i).2 := by
      intro i hi2
      unfold vat cat' Shape.get
      rw [List.getD_eq_getElem?_getD, List.getD_eq_getElem?_getD, List.getD_eq_getElem?_getD, List.getElem?_map, List.getElem?_map, List.getElem?_eq_getElem hi2]
      exact ⟨rfl, rfl⟩
    refine ⟨qs.map Prod.snd, qs.map Prod.fst, by simp, ⟨some a, cap, by simp, by simpa using hl, hm, fun h0 => ?_⟩, fun i hi2 => ?_⟩
    · rw [List.length_map] at h0 ⊢
      have h00 := (hqs 0 h0).1
      obtain ⟨g, off, spot⟩ := a
      have hspot : spot = none := by
        have := h00
        simp only [Nat.zero_mul] at this
        simpa [Addr.add] using World.cell?_spot this
      subst hspot
      have hadd : ∀ x y : Nat, ((⟨g, off, none⟩ : Addr).add x).add y = ⟨g, off + x + y, none⟩ := by
        intro x y
        unfold Addr.add
        by_cases hx : x = 0 <;> by_cases hy : y = 0 <;> simp [hx, hy]
      refine ⟨g, off, rfl, ?_, fun q hq j hj => ?_⟩
      · rw [hadd] at h00
        exact World.block_lt_of_cell? w _ h00
      · have hj0 : j = 0 := by simp [slS] at hj; exact hj
        subst hj0
        have := (hqs q hq).1
        rw [hadd] at this
        rw [show slS.size = 1 from rfl, this]
        have h9 := (hget q hq).1
        unfold vat at h9
        show _ = some (slS.get (qs.map Prod.fst) q)
        unfold Shape.get
        rw [show slS.z = .slice none 0 0 from rfl, h9]
        rfl
    · rw [List.length_map] at hi2
      rw [(hget i hi2).1, (hget i hi2).2]
      exact (hqs i hi2).2
end
end Go.Proofs.Yticbmpjdcanjkaa
