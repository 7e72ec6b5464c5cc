/- DropEntry of the reference and of the program: the walks. Conditions: none. -/
import Derived.Test.YtemdhofkhppefaaDelE
namespace Go.Proofs.Ytemdhofkhppefaa
open Go Go.RowKit

theorem cut_end {w : World} {B : Nat} {v : Value} {es : List En} {p : Nat} (hp : p < es.length) (h : w.ownsRow B 53 5 v (0 + p + (es.length - (p + 1))) ([] ++ enS.flat (es.take p) ++ enS.flat (es.drop (p + 1)))) :
    w.ownsRow B 53 5 v (cutE es p).length (enS.flat (cutE es p)) := by
  have e1 : (cutE es p).length = 0 + p + (es.length - (p + 1)) := by have := length_cutE hp; omega
  have e2 : enS.flat (cutE es p) = [] ++ enS.flat (es.take p) ++ enS.flat (es.drop (p + 1)) := by unfold cutE; rw [Shape.flat_append]; rfl
  rw [e1, e2]; exact h

set_option maxRecDepth 8000 in
set_option maxHeartbeats 4000000 in
theorem specDrop_any (v : Value) (es : List En) (a b : Int) (w : World) (h : Rd enS w w.heap.size v es) :
    Calls Try.prog 20 #[v, .agg #[.int .i64 a, .int .i64 b]] w fun r w' => (∃ (v' : Value) (z : List En) (k : Bool), r = .returned (.tuple #[v', .bool k]) ∧ dropG es a b = (z, k) ∧ w'.ownsRow w.heap.size 53 5 v' z.length (enS.flat z)) ∧ Below w.heap.size w w' := by
  obtain ⟨i0, hi, hz0, hz1, hz2⟩ := info_parts infoEn2
  have Hr := Lib.hid h
  obtain ⟨A, c, rfl, hcc, hm, hA⟩ := h
  unfold maxLen at hm
  have hbox : Blk (w.alloc (.cells #[.int .i64 a, .int .i64 b] 41)) w.heap.size 41 #[.int .i64 a, .int .i64 b] := Blk.new w _ _
  have hbA : Below w.heap.size w (w.alloc (.cells #[.int .i64 a, .int .i64 b] 41)) := bal (Below.refl _ _) _
  cases hcat : catB es
  · have Hfin := Lib.hid (dropG_bad (a := a) (b := b) hcat)
    go_enter Try.func20, Try.ntmps20
    go_wp2
    refine wp_region_tame (by kernel_rfl) (by kernel_rfl) (fun T _ W hT => ?_)
    have hx := hT.cell
    repeat (go_big_quiet_step ((go_at_call 34; exact hT.call (caGood_any _ es _ (Hr.out.on (bthen hbA (hT.below _)))))))
    refine wpQuiet_nil ?_
    intro t
    clear hx
    have hbz := bthen hbA (hT.below t)
    clear hbA hbox hT
    go_wp2
    go_ret2
    exact ⟨⟨_, [], false, rfl, Hfin.out, by simp [Shape.flat], Or.inl ⟨rfl, rfl⟩⟩, hbz⟩
  · have hv := (catB_spec hcat).2
    have hl12 := (catB_spec hcat).1
    have Hv := Lib.hid hv; clear hv
    have q0 := hbox.cell 0
    have q1 := hbox.cell 1
    cases hcu : curveB a b
    · have hno : ¬ firstN es a b < es.length := fun h => by rw [first_valid Hv.out h] at hcu; cases hcu
      have Hfin := Lib.hid (dropG_no hno)
      clear hno
      go_enter Try.func20, Try.ntmps20
      go_wp2
      refine wp_region_tame (by kernel_rfl) (by kernel_rfl) (fun T _ W hT => ?_)
      have hx := hT.cell
      repeat (go_big_quiet_step (first | (go_at_call 34; exact hT.call (caGood_any _ es _ (Hr.out.on (bthen hbA (hT.below _))))) | (go_at_call 40; exact hT.call (ecGood_any _ _ _)) | (go_at_call 35; exact hT.call (caPlace_any _ es _ _ _ (Hr.out.on (bthen hbA (hT.below _)))  Hv.out (by assumption))) | (go_at_call 36; exact hT.call (caAt_any _ es _ _ _ _ (Hr.out.on (bthen hbA (hT.below _)))))))
      refine wpQuiet_nil ?_
      intro t
      clear hx
      have hbz := bthen hbA (hT.below t)
      clear hbA hbox hT
      go_wp2
      go_ret2
      exact ⟨⟨_, [], false, rfl, Hfin.out, by simp [Shape.flat], Or.inl ⟨rfl, rfl⟩⟩, hbz⟩
    · cases hat : atB es (placeN es a b) a b
      · have hno : ¬ firstN es a b < es.length := by rw [place_first Hv.out, hat]; simp
        have Hfin := Lib.hid (dropG_no hno)
        clear hno
        go_enter Try.func20, Try.ntmps20
        go_wp2
        refine wp_region_tame (by kernel_rfl) (by kernel_rfl) (fun T _ W hT => ?_)
        have hx := hT.cell
        repeat (go_big_quiet_step (first | (go_at_call 34; exact hT.call (caGood_any _ es _ (Hr.out.on (bthen hbA (hT.below _))))) | (go_at_call 40; exact hT.call (ecGood_any _ _ _)) | (go_at_call 35; exact hT.call (caPlace_any _ es _ _ _ (Hr.out.on (bthen hbA (hT.below _)))  Hv.out hcu)) | (go_at_call 36; exact hT.call (caAt_any _ es _ _ _ _ (Hr.out.on (bthen hbA (hT.below _)))))))
        refine wpQuiet_nil ?_
        intro t
        clear hx
        have hbz := bthen hbA (hT.below t)
        clear hbA hbox hT
        go_wp2
        go_ret2
        exact ⟨⟨_, [], false, rfl, Hfin.out, by simp [Shape.flat], Or.inl ⟨rfl, rfl⟩⟩, hbz⟩
      · have hfp : firstN es a b = placeN es a b := by rw [place_first Hv.out, hat]; rfl
        have hlt : placeN es a b < es.length := (atB_spec hat).1
        have hfin := dropG_yes hcat (by rw [hfp]; exact hlt)
        rw [hfp] at hfin
        have Hfin := Lib.hid hfin; clear hfin hfp
        obtain ⟨g, off, rfl, hg, -⟩ := hA (by omega)
        clear hA
        obtain ⟨p, hp⟩ : ∃ p, placeN es a b = p := ⟨_, rfl⟩
        rw [hp] at hlt Hfin
        have hat' := hat
        rw [hp] at hat'
        clear hat
        have Hp := Lib.hid hp; clear hp
        have hpl : ∀ (w' : World), Below w.heap.size w w' → Calls Try.prog 35 #[.slice (some ⟨g, off, none⟩) es.length c, .agg #[.int .i64 a, .int .i64 b]] w' fun r w'' => r = .returned (.int .i64 p) ∧ Below w'.heap.size w' w'' := fun w' hb' => by
          have := caPlace_any _ es a b w' (Hr.out.on hb') Hv.out hcu
          rw [Hp.out] at this
          exact this
        have Hpl := Lib.hid hpl; clear hpl
        go_enter Try.func20, Try.ntmps20
        go_wp2
        refine wp_region_tame (by kernel_rfl) (by kernel_rfl) (fun T _ W hT => ?_)
        have hx := hT.cell
        repeat (go_big_quiet_step (first | (go_at_call 34; exact hT.call (caGood_any _ es _ (Hr.out.on (bthen hbA (hT.below _))))) | (go_at_call 40; exact hT.call (ecGood_any _ _ _)) | (go_at_call 35; exact hT.call (Hpl.out _ (bthen hbA (hT.below _)))) | (go_at_call 36; exact hT.call (caAt_any _ es _ _ _ _ (Hr.out.on (bthen hbA (hT.below _)))))))
        refine wpQuiet_nil ?_
        intro t
        clear hx
        have hbz := bthen hbA (hT.below t)
        replace hbox := hbox.on (hT.below t)
        have q0 : (W t).cell? ⟨w.heap.size, 0, none⟩ = some (.int .i64 a) := hbox.cell 0
        have q1 : (W t).cell? ⟨w.heap.size, 1, none⟩ = some (.int .i64 b) := hbox.cell 1
        clear hbA
        have t1 : (0 : Int) ≤ (p : Int) := by omega
        have t2 : (p : Int) ≤ (c : Int) := by omega
        have t3 : (p : Int) ≤ (es.length : Int) := by omega
        have t4 : (0 : Int) ≤ (p : Int) + 1 := by omega
        have t5 : (p : Int) + 1 ≤ (c : Int) := by omega
        have t6 : (p : Int) + 1 ≤ (es.length : Int) := by omega
        go_wp2_with fail
        refine (Hpl.out _ hbz).mono ?_; rintro e w1 ⟨rfl, hb1⟩
        go_wp2
        by_cases hck : c = p + 1
        · skip
          have t7 : (p : Int) ≤ (p : Int) + 1 := by omega
          have t8 : (p : Int) ≤ ((p + 1 : Nat) : Int) := by omega
          have hbox1 := hbox.on hb1
          have hbt := bthen hbz hb1
          clear hb1 hbz hbox hbox1 q0 q1
          generalize w1 = wt at hbt ⊢
          have HRt := Lib.hid (Hr.out.on hbt)
          have Hl1 : Hid ((enS.flat (es.take p)).length = p * 5) := Lib.hid (by rw [Shape.length_flat, List.length_take, Nat.min_eq_left (by omega)]; rfl)
          have Hl3 : Hid ((enS.flat (es.drop (p + 1))).length = (es.length - (p + 1)) * 5) := Lib.hid (by rw [Shape.length_flat, List.length_drop]; rfl)
          have Hs1 := Lib.hid (en_src HRt.out p)
          have hd0 : es.drop (p + 1) = [] := List.drop_eq_nil_of_le (by omega)
          have Hd0 := Lib.hid hd0; clear hd0
          have Hm1 : Hid (0 + p ≤ maxLen) := Lib.hid (by unfold maxLen; omega)
          have Hy1 : Hid ((0 + p) * 40 ≤ 140737488355328) := Lib.hid (by omega)
          have Hm3 : Hid (0 + p + (es.length - (p + 1)) ≤ maxLen) := Lib.hid (by unfold maxLen; omega)
          have Hy3 : Hid ((0 + p + (es.length - (p + 1))) * 40 ≤ 140737488355328) := Lib.hid (by omega)
          have hw1 : IntKind.i64.wrap ((p : Int) + 1) = (p : Int) + 1 := by rw [IntKind.wrap_i64]; omega
          have htn : ((p : Int) + 1).toNat = p + 1 := by omega
          go_region_held3 (fun w' => Below wt.heap.size wt w') ((repeat (first | (with_reducible assumption) | (with_reducible exact Below.refl _ _) | (with_reducible refine Below.drew ?_) | (with_reducible refine bal ?_ _)))) ((first | (refine step_append_src (by rfl) _ _ 26 (by rfl) 53 i0 (.agg #[.int .i64 0, .int .i64 0, .int .i64 0, .int .i64 0, .int .i64 0]) 5 40 Try.underlying26 hi hz0 hz1 hz2 rfl (by decide) wt (by (try go_split_ands); with_reducible assumption) _ 0 [] (by rfl) (by first | exact own_empty (by simp) | exact own_empty1 (by simp) | exact (own_empty (by simp)).alloc _) (some ⟨g, off, none⟩) p _ (enS.flat (es.take p)) (by rfl) Hl1.out (by intro h; cases h) (src_below (by (try go_split_ands); with_reducible assumption) Hs1.out) (en_one _) Hm1.out Hy1.out ?_; intro v1 w1 ho1 hbA1 hk1) | (refine step_append_src (by rfl) _ _ 26 (by rfl) 53 i0 (.agg #[.int .i64 0, .int .i64 0, .int .i64 0, .int .i64 0, .int .i64 0]) 5 40 Try.underlying26 hi hz0 hz1 hz2 rfl (by decide) wt (by (try go_split_ands); with_reducible assumption) v1 (0 + p) ([] ++ enS.flat (es.take p)) (by rfl) (by with_reducible exact ho1) (_) (es.length - (p + 1)) _ (enS.flat (es.drop (p + 1))) (by rfl) Hl3.out (by intro h; first | cases h | omega) (fun a _ j u hj => by rw [Hd0.out] at hj; simp [Shape.flat] at hj) (en_one _) Hm3.out Hy3.out ?_; intro v3 w3 ho3 hbA3 hk3)))
          all_goals
            go_wp2
            go_ret2
            exact ⟨⟨_, cutE es p, true, rfl, Hfin.out, cut_end hlt (own_mono ho3 hbt.size)⟩, bthen hbt hbA3⟩
        · skip
          have hbox1 := hbox.on hb1
          have hbt := bthen hbz hb1
          clear hb1 hbz hbox hbox1 q0 q1
          generalize w1 = wt at hbt ⊢
          have HRt := Lib.hid (Hr.out.on hbt)
          have Hl1 : Hid ((enS.flat (es.take p)).length = p * 5) := Lib.hid (by rw [Shape.length_flat, List.length_take, Nat.min_eq_left (by omega)]; rfl)
          have Hl3 : Hid ((enS.flat (es.drop (p + 1))).length = (es.length - (p + 1)) * 5) := Lib.hid (by rw [Shape.length_flat, List.length_drop]; rfl)
          have Hs1 := Lib.hid (en_src HRt.out p)
          have Hs3 := Lib.hid (en_src2 HRt.out (p + 1) hlt)
          have Hm1 : Hid (0 + p ≤ maxLen) := Lib.hid (by unfold maxLen; omega)
          have Hy1 : Hid ((0 + p) * 40 ≤ 140737488355328) := Lib.hid (by omega)
          have Hm3 : Hid (0 + p + (es.length - (p + 1)) ≤ maxLen) := Lib.hid (by unfold maxLen; omega)
          have Hy3 : Hid ((0 + p + (es.length - (p + 1))) * 40 ≤ 140737488355328) := Lib.hid (by omega)
          have hw1 : IntKind.i64.wrap ((p : Int) + 1) = (p : Int) + 1 := by rw [IntKind.wrap_i64]; omega
          have htn : ((p : Int) + 1).toNat = p + 1 := by omega
          go_region_held3 (fun w' => Below wt.heap.size wt w') ((repeat (first | (with_reducible assumption) | (with_reducible exact Below.refl _ _) | (with_reducible refine Below.drew ?_) | (with_reducible refine bal ?_ _)))) ((first | (refine step_append_src (by rfl) _ _ 26 (by rfl) 53 i0 (.agg #[.int .i64 0, .int .i64 0, .int .i64 0, .int .i64 0, .int .i64 0]) 5 40 Try.underlying26 hi hz0 hz1 hz2 rfl (by decide) wt (by (try go_split_ands); with_reducible assumption) _ 0 [] (by rfl) (by first | exact own_empty (by simp) | exact own_empty1 (by simp) | exact (own_empty (by simp)).alloc _) (some ⟨g, off, none⟩) p _ (enS.flat (es.take p)) (by rfl) Hl1.out (by intro h; cases h) (src_below (by (try go_split_ands); with_reducible assumption) Hs1.out) (en_one _) Hm1.out Hy1.out ?_; intro v1 w1 ho1 hbA1 hk1) | (refine step_append_src (by rfl) _ _ 26 (by rfl) 53 i0 (.agg #[.int .i64 0, .int .i64 0, .int .i64 0, .int .i64 0, .int .i64 0]) 5 40 Try.underlying26 hi hz0 hz1 hz2 rfl (by decide) wt (by (try go_split_ands); with_reducible assumption) v1 (0 + p) ([] ++ enS.flat (es.take p)) (by rfl) (by with_reducible exact ho1) (some ⟨g, off + (p + 1) * 5, none⟩) (es.length - (p + 1)) _ (enS.flat (es.drop (p + 1))) (by rfl) Hl3.out (by intro h; first | cases h | omega) (src_below (by (try go_split_ands); with_reducible assumption) Hs3.out) (en_one _) Hm3.out Hy3.out ?_; intro v3 w3 ho3 hbA3 hk3)))
          all_goals
            go_wp2
            go_ret2
            exact ⟨⟨_, cutE es p, true, rfl, Hfin.out, cut_end hlt (own_mono ho3 hbt.size)⟩, bthen hbt hbA3⟩

set_option maxRecDepth 8000 in
set_option maxHeartbeats 1600000 in
theorem implDrop_any (v : Value) (es : List En) (a b : Int) (w : World) (h : Rd enS w w.heap.size v es) :
    Calls Try.prog 22 #[v, .agg #[.int .i64 a, .int .i64 b]] w fun r w' => (∃ (v' : Value) (z : List En) (k : Bool), r = .returned (.tuple #[v', .bool k]) ∧ dropG es a b = (z, k) ∧ w'.ownsRow w.heap.size 53 5 v' z.length (enS.flat z)) ∧ Below w.heap.size w w' := by
  have Hr := Lib.hid h
  obtain ⟨A, c, rfl, hcc, hm, hA⟩ := h
  have hbA : Below w.heap.size w (w.alloc (.cells #[.int .i64 a, .int .i64 b] 41)) := bal (Below.refl _ _) _
  clear hA
  go_enter Try.func22, Try.ntmps22
  go_wp2_with fail
  refine (entryAt_any _ es a b _ (Hr.out.on hbA)).mono ?_
  rintro e w1 ⟨⟨q, k, rfl, hk, hq⟩, hb1⟩
  have hbz := bthen hbA hb1
  clear hbA hb1
  cases k
  · have hfin : dropG es a b = ([], false) := by unfold dropG; rw [← hk]; rfl
    have Hfin := Lib.hid hfin; clear hfin hk hq
    go_wp2
    go_ret2
    exact ⟨⟨_, [], false, rfl, Hfin.out, by simp [Shape.flat], Or.inl ⟨rfl, rfl⟩⟩, hbz⟩
  · have hk' := hk.symm
    simp only [Bool.and_eq_true, decide_eq_true_eq] at hk'
    obtain ⟨hcat, hlt⟩ := hk'
    obtain rfl := hq hlt
    have hl12 := (catB_spec hcat).1
    have hfin := dropG_yes hcat hlt
    clear hk hq
    obtain ⟨p, hp⟩ : ∃ p, firstN es a b = p := ⟨_, rfl⟩
    rw [hp] at hlt hfin ⊢
    clear hp
    have Hfin := Lib.hid hfin; clear hfin
    go_wp2_with fail
    refine (cloneEn_any _ es _ (Hr.out.on hbz) (by omega)).mono ?_
    rintro e w2 ⟨v2, rfl, ho2, hb2⟩
    have Ho2 := Lib.hid ho2
    obtain ⟨g, cap, rfl⟩ : ∃ g cap, v2 = .slice (some ⟨g, 0, none⟩) es.length cap := by
      rcases ho2.2 with ⟨-, h0⟩ | ⟨g, cap, cur, h1, -⟩
      · omega
      · exact ⟨g, cap, h1⟩
    clear ho2
    go_wp2_with fail
    refine (deleteEn_any es p w1.heap.size g cap _ Ho2.out hlt).mono ?_
    rintro e w3 ⟨v3, rfl, ho3, hg3⟩
    have Ho3 := Lib.hid ho3; clear ho3
    have hb3 : Below w1.heap.size w1 w3 := Below.grown hb2 hg3 hb2.size (fun j hj => by cases hj; exact (own_base Ho2.out).1)
    clear hg3
    go_wp2
    go_ret2
    exact ⟨⟨_, cutE es p, true, rfl, Hfin.out, own_mono Ho3.out hbz.size⟩, bthen hbz hb3⟩
end Go.Proofs.Ytemdhofkhppefaa
