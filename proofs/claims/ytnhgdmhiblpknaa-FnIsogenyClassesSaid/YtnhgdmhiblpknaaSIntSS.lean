/- The laws' own helpers at slices of slices of ints. Conditions: lengths of at most 2097152. -/
import Derived.Test.YtnhgdmhiblpknaaSInt
import Derived.Test.YtnhgdmhiblpknaaNest
namespace Go.Proofs.Ytnhgdmhiblpknaa
open Go Go.RowKit

theorem sl_cells {w : World} {g off n : Nat} {es : List Value} (h : ∀ k, k < n → ∀ j, j < slS.size → w.cell? ⟨g, off + k * slS.size + j, none⟩ = some (slS.cell (slS.get es k) j)) (k : Nat) (hk : k < n) : w.cell? ⟨g, off + k, none⟩ = some (vat es k) := by
  have := h k hk 0 (by decide)
  simp only [slS, Nat.mul_one, Nat.add_zero] at this
  exact this
set_option maxHeartbeats 2000000 in
theorem eqIntSS_same (u v : Value) (ess : List (List Int)) (w : World) (hu : NRd w w.heap.size u ess) (hv : NRd w w.heap.size v ess) :
    Calls Try.prog 9 #[u, v] w fun e w' => e = .returned (.bool true) ∧ Below w.heap.size w w' := by
  obtain ⟨us, hul, hu, hui⟩ := hu
  obtain ⟨vs, hvl, hv, hvi⟩ := hv
  obtain ⟨A, c, rfl, hc, hm, hA⟩ := hu
  obtain ⟨A', c', rfl, hc', hm', hA'⟩ := hv
  rw [hul] at hA hc ⊢
  rw [hvl] at hA' hc' ⊢
  unfold maxLen at hm hm'
  have Hui := Lib.hid hui; have Hvi := Lib.hid hvi
  clear hui hvi hul hvl
  rcases Nat.eq_zero_or_pos ess.length with h0 | h0
  · have h00 := Lib.hid h0
    rw [h0]
    clear hA hA' h0 hc hc'
    go_enter Try.func9, Try.ntmps9
    go_wp2
    refine wp_loop_rounds 1 ?_
    rw [rounds_succ]
    go_wp2
    go_ret
    exact ⟨rfl, Below.refl _ _⟩
  · obtain ⟨g, off, rfl, hg, hcell⟩ := hA h0
    obtain ⟨g', off', rfl, hg', hcell'⟩ := hA' h0
    clear hA hA'
    have hcell := sl_cells hcell
    have hcell' := sl_cells hcell'
    go_enter Try.func9, Try.ntmps9
    go_wp2
    go_loopw [5] (fun i wr => ∃ k : Nat, k ≤ ess.length ∧ i = .int .i64 k ∧ Below w.heap.size w wr) (fun i _ => ess.length - (intOf i).toNat)
    case atStart => exact ⟨0, Nat.zero_le _, rfl, Below.refl _ _⟩
    case round =>
      obtain ⟨k, hk, rfl, hb⟩ := hrel
      by_cases hlt : k < ess.length
      · have f0 := hcell k hlt
        have p0 := hcell' k hlt
        rw [← hb.cell (p := ⟨_, _, _⟩) hg] at f0
        rw [← hb.cell (p := ⟨_, _, _⟩) hg'] at p0
        have hr1 := (Hui.out k hlt).on hb
        have hr2 := (Hvi.out k hlt).on hb
        obtain ⟨x, hx⟩ : ∃ e, vat us k = e := ⟨_, rfl⟩
        obtain ⟨y, hy⟩ : ∃ e, vat vs k = e := ⟨_, rfl⟩
        rw [hx] at f0 hr1
        rw [hy] at p0 hr2
        have Hr1 := Lib.hid hr1; have Hr2 := Lib.hid hr2
        have hgr : g < wr.heap.size := Nat.lt_of_lt_of_le hg hb.size
        have hgr' : g' < wr.heap.size := Nat.lt_of_lt_of_le hg' hb.size
        have hi0 : (0 : Int) ≤ (k : Int) := by omega
        have hi1 : (k : Int) < (ess.length : Int) := by omega
        clear hcell hcell' hx hy hr1 hr2
        go_wp2
        refine wp_region_tame (by kernel_rfl) (by kernel_rfl) (fun T _ W hT => ?_)
        have hq := hT.cell
        repeat (go_big_quiet_step ((go_at_call 41; exact hT.call (eqIntS_same _ _ (cat' ess k) _ (Hr1.out.on (hT.below _)) (Hr2.out.on (hT.below _))))))
        refine wpQuiet_nil ?_
        intro t
        clear hq
        go_wp2
        go_roundw
        case rel => exact ⟨k + 1, by omega, by go_num, bthen hb (hT.below t)⟩
        case measure => simp [intOf]; omega
      · go_wp2
        go_ret
        exact ⟨rfl, hb⟩
set_option maxRecDepth 8000 in
set_option maxHeartbeats 2000000 in
theorem markIntSS_any (v : Value) (vs : List Value) (css : List (List Value)) (k0 : Int) (base hi : Nat) (w : World) (ho : NOwn w 43 3 base hi v vs css) (hn : css.length ≤ 2097152) (hl : totL css ≤ 2097152) (h0 : 0 ≤ k0) (h1 : k0 ≤ 1099507433472) :
    Calls Try.prog 12 #[v, .int .i64 k0] w fun e w' => e = .returned (.int .i64 (k0 + (totL css : Int))) ∧ NOwn w' 43 3 base hi v vs (mkII k0 css) ∧ Mid base hi w w' := by
  rcases Nat.eq_zero_or_pos css.length with hz | hz
  · have hcs : css = [] := List.eq_nil_of_length_eq_zero hz
    subst hcs
    have hv : ∃ A c, v = .slice A 0 c := by
      rcases ho.out.2 with ⟨rfl, _⟩ | ⟨g, cap, cur, rfl, _⟩
      · exact ⟨_, _, rfl⟩
      · exact ⟨_, _, rfl⟩
    obtain ⟨A, c, rfl⟩ := hv
    have Ho := Lib.hid ho; clear ho
    go_enter Try.func12, Try.ntmps12
    go_wp2
    refine wp_loop_rounds 1 ?_
    rw [rounds_succ]
    go_wp2
    go_ret
    exact ⟨ret_int (by simp [totL]), Ho.out, Mid.refl _⟩
  · obtain ⟨g, cap, rfl, hb, hlt⟩ := ho.out.form hz
    have Ho := Lib.hid ho; clear ho
    have Hl := Lib.hid hl; clear hl
    go_enter Try.func12, Try.ntmps12
    go_wp2
    go_loopw [1, 5] (fun q t wr => ∃ i : Nat, i ≤ css.length ∧ q = .int .i64 (k0 + (totL (css.take i) : Int)) ∧ t = .int .i64 i ∧ Hid (NOwn wr 43 3 base hi (.slice (some ⟨g, 0, none⟩) css.length cap) vs (mkII k0 (css.take i) ++ css.drop i)) ∧ Mid base hi w wr) (fun _ t _ => css.length - (intOf t).toNat)
    case atStart => exact ⟨0, Nat.zero_le _, by simp [totL], rfl, Lib.hid (by simpa [mkII] using Ho.out), Mid.refl _⟩
    case round =>
      obtain ⟨i, hi2, rfl, rfl, Hw, hm⟩ := hrel
      have hlen : (mkII k0 (css.take i) ++ css.drop i).length = css.length := by rw [List.length_append, length_mkII, List.length_take, List.length_drop]; omega
      by_cases hit : i < css.length
      · have hcat : cat' (mkII k0 (css.take i) ++ css.drop i) i = cat' css i := by
          have hl2 : (mkII k0 (css.take i)).length = i := by rw [length_mkII, List.length_take]; omega
          unfold cat'
          rw [List.getD_eq_getElem?_getD, List.getD_eq_getElem?_getD, List.getElem?_append_right (by omega), hl2, Nat.sub_self, List.getElem?_drop, Nat.add_zero]
        have hrow := Hw.out.row i (by rw [hlen]; exact hit)
        rw [hcat] at hrow
        have hcl := cat_len_le css hit
        have ht1 := totL_take_le css i
        have ht2 := totL_take_succ hit
        have hc0 : wr.cell? ⟨g, i, none⟩ = some (vat vs i) := by
          have ho2 := Hw.out.out
          rw [hlen] at ho2
          rw [ho2.cellAt i (by omega)]
          have hvl : vs.length = css.length := Ho.out.len
          unfold vat
          rw [List.getD_eq_getElem?_getD, List.getElem?_eq_getElem (by omega)]; rfl
        have hgl : g < wr.heap.size := Nat.lt_of_lt_of_le hlt hm.size
        have Hmk := Lib.hid (markIntS_any (vat vs i) (cat' css i).length (cat' css i) (k0 + (totL (css.take i) : Int)) base wr hrow (by have := Hl.out; omega) (by omega) (by have := Hl.out; omega))
        have Hput := Lib.hid (fun w' h1 h2 => Hw.out.put (w' := w') (j := i) (by rw [hlen]; exact hit) (c := marks (k0 + totL (css.take i)) (cat' css i).length) h1 h2)
        have Hst := Lib.hid (mkII_step css k0 i hit)
        have Hihi := Lib.hid (fun gg hgg => (⟨(hrow.lt gg hgg).1, Hw.out.ihi i gg (by rw [hlen]; exact hit) hgg⟩ : base ≤ gg ∧ gg < hi))
        have i0 : (0 : Int) ≤ (i : Int) := by omega
        have i1 : (i : Int) < (css.length : Int) := by omega
        generalize vat vs i = u at hc0 Hmk Hput Hihi
        obtain ⟨L, hL⟩ : ∃ L, (cat' css i).length = L := ⟨_, rfl⟩
        rw [hL] at Hmk Hput Hst hcl ht2
        obtain ⟨K, hK⟩ : ∃ K : Int, k0 + (totL (css.take i) : Int) = K := ⟨_, rfl⟩
        rw [hK] at Hmk Hput Hst ⊢
        have Hnew := Lib.hid (show k0 + (totL (css.take (i + 1)) : Int) = K + ((L * 1 : Nat) : Int) by omega)
        clear hrow hcat hL hK ht1 ht2
        go_wp2_with fail
        refine Hmk.out.mono ?_
        rintro e w2 ⟨rfl, ho2, hg2⟩
        have Ho2 := Lib.hid (Hput.out w2 (by rw [length_marks]; rw [Nat.mul_one] at ho2; exact ho2) hg2)
        have hm2 := hm.trans (Mid.of_grown hg2 Hihi.out)
        clear ho2 hg2 hc0
        go_wp2
        go_roundw
        case rel => exact ⟨i + 1, by omega, by rw [Hnew.out]; (try rw [Nat.mul_one]), by go_num, Lib.hid (by have := Ho2.out; rw [Hst.out] at this; exact this), hm2⟩
        case measure => simp [intOf]; omega
      · obtain rfl : i = css.length := by omega
        go_wp2
        go_ret
        exact ⟨ret_int (by simp), by have := Hw.out; rw [List.take_length, List.drop_length, List.append_nil] at this; exact this, hm⟩
set_option maxRecDepth 8000 in
set_option maxHeartbeats 2000000 in
theorem heldIntSS_any (v : Value) (vs : List Value) (css : List (List Value)) (k0 : Int) (base hi : Nat) (w : World) (ho : NOwn w 43 3 base hi v vs (mkII k0 css)) (hn : css.length ≤ 2097152) (hl : totL css ≤ 2097152) (h0 : 0 ≤ k0) (h1 : k0 ≤ 1099507433472) :
    Calls Try.prog 13 #[v, .int .i64 k0] w fun e w' => e = .returned (.int .i64 (k0 + (totL css : Int))) ∧ w = w' := by
  have hlm := length_mkII css k0
  rcases Nat.eq_zero_or_pos css.length with hz | hz
  · have hcs : css = [] := List.eq_nil_of_length_eq_zero hz
    subst hcs
    have hv : ∃ A c, v = .slice A 0 c := by
      rcases ho.out.2 with ⟨rfl, _⟩ | ⟨g, cap, cur, rfl, _⟩
      · exact ⟨_, _, rfl⟩
      · exact ⟨_, _, rfl⟩
    obtain ⟨A, c, rfl⟩ := hv
    clear ho hlm
    go_enter Try.func13, Try.ntmps13
    go_wp2
    refine wp_loop_rounds 1 ?_
    rw [rounds_succ]
    go_wp2
    go_ret
    exact ⟨ret_int (by simp [totL]), rfl⟩
  · obtain ⟨g, cap, rfl, hb, hlt⟩ := ho.out.form (by rw [hlm]; exact hz)
    rw [hlm]
    have Ho := Lib.hid ho; clear ho
    have Hl := Lib.hid hl; clear hl
    have Hlm := Lib.hid hlm; clear hlm
    go_enter Try.func13, Try.ntmps13
    go_wp2
    go_loop [1, 5] (fun q t => ∃ i : Nat, i ≤ css.length ∧ q = .int .i64 (k0 + (totL (css.take i) : Int)) ∧ t = .int .i64 i) (fun _ t => css.length - (intOf t).toNat)
    case atStart => exact ⟨0, Nat.zero_le _, by simp [totL], rfl⟩
    case round =>
      obtain ⟨i, hi2, rfl, rfl⟩ := hrel
      by_cases hit : i < css.length
      · have hrow := Ho.out.row i (by rw [Hlm.out]; exact hit)
        rw [mkII_cat css k0 i hit, length_marks] at hrow
        have hcl := cat_len_le css hit
        have ht1 := totL_take_le css i
        have ht2 := totL_take_succ hit
        have hc0 : w.cell? ⟨g, i, none⟩ = some (vat vs i) := by
          have ho2 := Ho.out.out
          rw [Hlm.out] at ho2
          rw [ho2.cellAt i (by omega)]
          have hvl : vs.length = css.length := Ho.out.len.trans Hlm.out
          unfold vat
          rw [List.getD_eq_getElem?_getD, List.getElem?_eq_getElem (by omega)]; rfl
        have Hmk := Lib.hid (heldIntS_any (vat vs i) (cat' css i).length (k0 + (totL (css.take i) : Int)) base w (by rw [Nat.mul_one]; exact hrow) (by have := Hl.out; omega) (by omega) (by have := Hl.out; omega))
        have i0 : (0 : Int) ≤ (i : Int) := by omega
        have i1 : (i : Int) < (css.length : Int) := by omega
        generalize vat vs i = u at hc0 Hmk
        obtain ⟨L, hL⟩ : ∃ L, (cat' css i).length = L := ⟨_, rfl⟩
        rw [hL] at Hmk hcl ht2
        obtain ⟨K, hK⟩ : ∃ K : Int, k0 + (totL (css.take i) : Int) = K := ⟨_, rfl⟩
        rw [hK] at Hmk ⊢
        have hK0 : 0 ≤ K := by omega
        have Hnew := Lib.hid (show k0 + (totL (css.take (i + 1)) : Int) = K + ((L * 1 : Nat) : Int) by omega)
        clear hrow hL hK ht1 ht2
        have hq : (0 : Int) ≤ ((L * 1 : Nat) : Int) := by omega
        generalize ((L * 1 : Nat) : Int) = Q at Hmk Hnew hq
        have hKQ : 0 ≤ K + Q := by omega
        go_wp2_with fail
        refine Hmk.out.mono ?_
        rintro e w2 ⟨rfl, rfl⟩
        clear hc0
        go_wp2
        go_round
        case rel => exact ⟨i + 1, by omega, by rw [Hnew.out]; (try rw [Nat.mul_one]), by go_num⟩
        case measure => simp [intOf]; omega
      · obtain rfl : i = css.length := by omega
        go_wp2
        go_ret
        exact ⟨ret_int (by simp), rfl⟩
end Go.Proofs.Ytnhgdmhiblpknaa
