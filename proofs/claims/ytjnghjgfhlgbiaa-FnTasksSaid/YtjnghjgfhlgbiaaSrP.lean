/- SearchPoints of the program and of the reference, where a task's bounds hold: all hits of the task. Conditions: those of each theorem. Printed by gen_srp.py. -/
import Derived.Test.YtjnghjgfhlgbiaaHits
import Derived.Test.YtjnghjgfhlgbiaaTaskG
import Derived.Test.YtjnghjgfhlgbiaaTkP
import Derived.Test.YtjnghjgfhlgbiaaApp2
namespace Go.Proofs.Ytjnghjgfhlgbiaa
open Go Go.RowKit

theorem row_cand {m e k F : Int} (hF : F = (e - 1) * (2 * m + 1)) (h1 : F ≤ k) (h2 : k < F + (2 * m + 1)) : cxI m k = k - F - m ∧ ceI m k = e := by
  have hk : k = (k - F) + (2 * m + 1) * (e - 1) := by rw [Int.mul_comm, ← hF]; omega
  have h3 : k % (2 * m + 1) = k - F := by
    rw [hk, Int.add_mul_emod_self_left]
    have : (k - F + (2 * m + 1) * (e - 1)) - F = k - F := by omega
    rw [this]
    exact Int.emod_eq_of_lt (by omega) (by omega)
  have h4 : k / (2 * m + 1) = e - 1 := by
    rw [hk, Int.add_mul_ediv_left _ _ (by omega), Int.ediv_eq_zero_of_lt (by omega) (by omega)]
    omega
  unfold cxI ceI
  rw [h3, h4]
  constructor <;> omega
structure RowB (m d e F : Int) : Prop where
  bm : 0 ≤ m ∧ m ≤ 200
  be : 1 ≤ e ∧ e ≤ 10
  eq : F = (e - 1) * (2 * m + 1)
  lo : 0 ≤ F
  hi : F + (2 * m + 1) ≤ totI m d
theorem RowB.mk' {a b m d e F : Int} (ht : TkB a b m d) (h1 : 1 ≤ e) (h2 : e ≤ d) (hF : F = (e - 1) * (2 * m + 1)) : RowB m d e F := by
  have hm := ht.m
  have hd := ht.d
  refine ⟨hm, ⟨h1, by omega⟩, hF, ?_, ?_⟩
  · rw [hF]; exact Int.mul_nonneg (by omega) (by omega)
  · unfold totI
    have h3 := Int.mul_nonneg (show 0 ≤ d - e by omega) (show 0 ≤ 2 * m + 1 by omega)
    have h4 : F + (2 * m + 1) = e * (2 * m + 1) := by rw [hF, Int.sub_mul]; omega
    rw [h4]
    rw [Int.sub_mul] at h3
    omega

set_option maxRecDepth 8000 in
set_option maxHeartbeats 8000000 in
theorem pointsWithE_any (a b m d e F : Int) (w : World) (ht : TkB a b m d) (hr : RowB m d e F) :
    Calls Try.prog 49 #[.agg #[.int .i64 a, .int .i64 b], .int .i64 e, .int .i64 m] w fun r w' => (∃ v', r = .returned v' ∧ w'.ownsRow w.heap.size 62 3 v' (hitsZ a b m F (F + (2 * m + 1))).length (ptS.flat (hitsZ a b m F (F + (2 * m + 1))))) ∧ Below w.heap.size w w' := by
  obtain ⟨i0, hi, hz0, hz1, hz2⟩ := info_parts infoPt2
  have Ht := Lib.hid ht; clear ht
  have Hr := Lib.hid hr
  obtain ⟨⟨m0, m1⟩, ⟨e0, e1⟩, -, F0, F1⟩ := hr
  have F2 : F + (2 * m + 1) ≤ 4010 := by have := totI_bd Ht.out.m Ht.out.d; omega
  have HbA := Lib.hid (show Below w.heap.size w (w.alloc (Obj.cells #[.int .i64 a, .int .i64 b] 25)) from bal (Below.refl _ _) _)
  have HB := Lib.hid (Blk.new w 25 #[.int .i64 a, .int .i64 b])
  have Hsz := Lib.hid (World.size_alloc w (Obj.cells #[.int .i64 a, .int .i64 b] 25))
  have HrA := Lib.hid (Below.refl (w.heap.size + 1) (w.alloc (Obj.cells #[.int .i64 a, .int .i64 b] 25)))
  have Hl := Lib.hid F1; clear F1
  obtain ⟨l, hl⟩ : ∃ l, F + (2 * m + 1) = l := ⟨_, rfl⟩
  rw [hl] at F2 Hl
  have hl2 := Lib.hid hl
  rw [hl]
  clear hl
  go_enter Try.func49, Try.ntmps49
  go_wp2
  generalize w.alloc (Obj.cells #[.int .i64 a, .int .i64 b] 25) = W at HbA HB Hsz HrA
  go_loopw [7, 8] (fun o i wr => ∃ k : Int, F ≤ k ∧ k ≤ l ∧ i = .int .i64 (k - F - m) ∧ Below (w.heap.size + 1) W wr ∧ wr.ownsRow (w.heap.size + 1) 62 3 o (hitsZ a b m F k).length (ptS.flat (hitsZ a b m F k))) (fun _ i _ => (l - F - m - intOf i).toNat)
  case atStart => exact ⟨F, Int.le_refl _, by have := hl2.out; omega, by first | rfl | (congr 1; omega), HrA.out, by rw [hitsZ_self]; exact ⟨rfl, Or.inl ⟨rfl, rfl⟩⟩⟩
  case round =>
    obtain ⟨k, hfk, hkl, rfl, hb, hown⟩ := hrel
    have Hown := Lib.hid hown; clear hown
    have hll := hl2.out
    by_cases hlt : k < l
    · have hlen : (hitsZ a b m F k).length ≤ 4010 := by have := hitsZ_len a b m F k; omega
      have hcv := Ht.out.cv (show 0 ≤ k by omega) (show k < totI m d by have := Hl.out; omega)
      have hsucc := hitsZ_succ (a := a) (b := b) (m := m) hfk
      have hcand : candO a b m k = ptO a b (cxI m k) (ceI m k) := rfl
      rw [hcand] at hsucc
      obtain ⟨c1, c2⟩ := row_cand Hr.out.eq hfk (show k < F + (2 * m + 1) by omega)
      rw [c1, c2] at hsucc hcv
      clear c1 c2 hcand
      have hle : k - F - m ≤ m := by omega
      obtain ⟨x, hx⟩ : ∃ x, k - F - m = x := ⟨_, rfl⟩
      rw [hx] at hsucc hcv hle ⊢
      have x1 : -200 ≤ x := by omega
      have x2 : x ≤ 200 := by omega
      have hx2 := Lib.hid hx; clear hx
      have Hsucc := Lib.hid hsucc; clear hsucc
      have hB := HB.out.below (B := w.heap.size + 1) hb (Nat.lt_succ_self _)
      have q0 := hB.cell 0
      have q1 := hB.cell 1
      have ql := hB.lt
      simp at q0 q1
      clear hB
      have Hval := Lib.hid (fun w => curveValue_any a b x e w hcv)
      have Hroot := Lib.hid (fun w => exactRoot_any (cvI a b x e) w (cv_small hcv))
      have Hgcd := Lib.hid (fun w => gcd_any x e w (by omega) (by omega))
      clear hcv q0 q1 ql
      go_wp2_with fail
      refine (Hgcd.out _).mono ?_
      rintro r w3 ⟨rfl, hb3⟩
      have hb03 : Below (w.heap.size + 1) W w3 := hb.trans (hb3.mono (by have := hb.size; have := Hsz.out; omega))
      have Hown3 := Lib.hid (own_below Hown.out hb3)
      have hB := HB.out.below (B := w.heap.size + 1) hb03 (Nat.lt_succ_self _)
      have q0 := hB.cell 0
      have q1 := hB.cell 1
      have ql := hB.lt
      simp at q0 q1
      have Hb03 := Lib.hid hb03; clear hb03 hb3 hb hB
      by_cases hg1 : gcdI x e = 1
      · have hne : (gcdI x e != 1) = false := by simp [hg1]
        go_wp2_with fail
        refine (Hval.out _).mono ?_
        rintro r w4 ⟨rfl, hb4⟩
        have Hown4 := Lib.hid (own_below Hown3.out hb4)
        have Hb04 := Lib.hid (Hb03.out.trans (hb4.mono (by have := Hb03.out.size; have := Hsz.out; omega)))
        clear hb4 q0 q1 ql
        go_wp2_with fail
        refine (Hroot.out _).mono ?_
        rintro r w5 ⟨rfl, rfl⟩
        cases hk : rootK (cvI a b x e)
        · have Hn := Lib.hid (show hitsZ a b m F (k + 1) = hitsZ a b m F k by rw [Hsucc.out, ptO, if_neg (by simp [hk])]; simp)
          clear hk
          go_wp2
          go_roundw
          case rel => exact ⟨k + 1, by omega, by omega, by have := hx2.out; first | (congr 1; omega) | go_num, Hb04.out, by rw [Hn.out]; exact Hown4.out⟩
          case measure => have := hx2.out; simp [intOf]; omega
        · have Hn := Lib.hid (show hitsZ a b m F (k + 1) = hitsZ a b m F k ++ [⟨x, rootV (cvI a b x e), e⟩] by rw [Hsucc.out, ptO, if_pos ⟨hg1, hk⟩]; rfl)
          clear hk hg1
          generalize rootV (cvI a b x e) = y at Hn
          go_wp2_with (at_builtin; refine wpList_append_own _ rfl _ _ 26 rfl (w.heap.size + 1) 62 i0 (.agg #[.int .i64 0, .int .i64 0, .int .i64 0]) 3 24 Try.underlying26 hi hz0 hz1 hz2 rfl (by decide) _ _ _ rfl (Hown4.out.alloc _) ⟨w4.heap.size, 0, none⟩ 1 1 (ptS.flat [⟨x, y, e⟩]) rfl rfl ?c1 (pt_one _) ?c3 ?c4 ?c5 ?_)
          case c1 => exact onePt_cells (Blk.new _ _ _)
          case c3 => unfold maxLen; omega
          case c4 => omega
          case c5 => have := Hb04.out.size; have := Hsz.out; simp; omega
          intro v6 w6 hown6 hgrow _
          have Hb06 := Lib.hid (Below.grown (Hb04.out.alloc (by have := Hb04.out.size; have := Hsz.out; omega) _) hgrow (by have := Hb04.out.size; have := Hsz.out; simp; omega) (fun j hj => (Hown4.out.lt j hj).1))
          have Hown6 := Lib.hid (show w6.ownsRow (w.heap.size + 1) 62 3 v6 (hitsZ a b m F (k + 1)).length (ptS.flat (hitsZ a b m F (k + 1))) by rw [Hn.out, Shape.flat_append, List.length_append]; exact hown6)
          clear hown6 hgrow
          go_wp2
          go_roundw
          case rel => exact ⟨k + 1, by omega, by omega, by have := hx2.out; first | (congr 1; omega) | go_num, Hb06.out, Hown6.out⟩
          case measure => have := hx2.out; simp [intOf]; omega
      · have hne : (gcdI x e != 1) = true := by simp [hg1]
        have Hn := Lib.hid (show hitsZ a b m F (k + 1) = hitsZ a b m F k by rw [Hsucc.out, ptO, if_neg (fun h => hg1 h.1)]; simp)
        clear hg1
        go_wp2
        go_roundw
        case rel => exact ⟨k + 1, by omega, by omega, by have := hx2.out; first | (congr 1; omega) | go_num, Hb03.out, by rw [Hn.out]; exact Hown3.out⟩
        case measure => have := hx2.out; simp [intOf]; omega
    · have Hend := Lib.hid (show hitsZ a b m F k = hitsZ a b m F l by rw [show k = l by omega])
      have hle : ¬ (k - F - m ≤ m) := by omega
      go_wp2
      go_ret
      exact ⟨⟨_, rfl, by rw [← Hend.out]; exact own_mono Hown.out (Nat.le_succ _)⟩, HbA.out.trans (hb.mono (Nat.le_succ _))⟩

set_option maxRecDepth 8000 in
set_option maxHeartbeats 8000000 in
theorem seWith_any (a b m d e F : Int) (w : World) (ht : TkB a b m d) (hr : RowB m d e F) :
    Calls Try.prog 52 #[.agg #[.int .i64 a, .int .i64 b], .int .i64 e, .int .i64 m] w fun r w' => (∃ v', r = .returned v' ∧ w'.ownsRow w.heap.size 62 3 v' (hitsZ a b m F (F + (2 * m + 1))).length (ptS.flat (hitsZ a b m F (F + (2 * m + 1))))) ∧ Below w.heap.size w w' := by
  obtain ⟨i0, hi, hz0, hz1, hz2⟩ := info_parts infoPt2
  have Ht := Lib.hid ht; clear ht
  have Hr := Lib.hid hr
  obtain ⟨⟨m0, m1⟩, ⟨e0, e1⟩, -, F0, F1⟩ := hr
  have F2 : F + (2 * m + 1) ≤ 4010 := by have := totI_bd Ht.out.m Ht.out.d; omega
  have HbA := Lib.hid (show Below w.heap.size w (w.alloc (Obj.cells #[.int .i64 a, .int .i64 b] 25)) from bal (Below.refl _ _) _)
  have HB := Lib.hid (Blk.new w 25 #[.int .i64 a, .int .i64 b])
  have Hsz := Lib.hid (World.size_alloc w (Obj.cells #[.int .i64 a, .int .i64 b] 25))
  have HrA := Lib.hid (Below.refl (w.heap.size + 1) (w.alloc (Obj.cells #[.int .i64 a, .int .i64 b] 25)))
  have Hl := Lib.hid F1; clear F1
  obtain ⟨l, hl⟩ : ∃ l, F + (2 * m + 1) = l := ⟨_, rfl⟩
  rw [hl] at F2 Hl
  have hl2 := Lib.hid hl
  rw [hl]
  clear hl
  go_enter Try.func52, Try.ntmps52
  go_wp2
  generalize w.alloc (Obj.cells #[.int .i64 a, .int .i64 b] 25) = W at HbA HB Hsz HrA
  go_loopw [7, 8] (fun o i wr => ∃ k : Int, F ≤ k ∧ k ≤ l ∧ i = .int .i64 (k - F - m) ∧ Below (w.heap.size + 1) W wr ∧ wr.ownsRow (w.heap.size + 1) 62 3 o (hitsZ a b m F k).length (ptS.flat (hitsZ a b m F k))) (fun _ i _ => (l - F - m - intOf i).toNat)
  case atStart => exact ⟨F, Int.le_refl _, by have := hl2.out; omega, by first | rfl | (congr 1; omega), HrA.out, by rw [hitsZ_self]; exact ⟨rfl, Or.inl ⟨rfl, rfl⟩⟩⟩
  case round =>
    obtain ⟨k, hfk, hkl, rfl, hb, hown⟩ := hrel
    have Hown := Lib.hid hown; clear hown
    have hll := hl2.out
    by_cases hlt : k < l
    · have hlen : (hitsZ a b m F k).length ≤ 4010 := by have := hitsZ_len a b m F k; omega
      have hcv := Ht.out.cv (show 0 ≤ k by omega) (show k < totI m d by have := Hl.out; omega)
      have hsucc := hitsZ_succ (a := a) (b := b) (m := m) hfk
      have hcand : candO a b m k = ptO a b (cxI m k) (ceI m k) := rfl
      rw [hcand] at hsucc
      obtain ⟨c1, c2⟩ := row_cand Hr.out.eq hfk (show k < F + (2 * m + 1) by omega)
      rw [c1, c2] at hsucc hcv
      clear c1 c2 hcand
      have hle : k - F - m ≤ m := by omega
      obtain ⟨x, hx⟩ : ∃ x, k - F - m = x := ⟨_, rfl⟩
      rw [hx] at hsucc hcv hle ⊢
      have x1 : -200 ≤ x := by omega
      have x2 : x ≤ 200 := by omega
      have hx2 := Lib.hid hx; clear hx
      have Hsucc := Lib.hid hsucc; clear hsucc
      have hB := HB.out.below (B := w.heap.size + 1) hb (Nat.lt_succ_self _)
      have q0 := hB.cell 0
      have q1 := hB.cell 1
      have ql := hB.lt
      simp at q0 q1
      clear hB
      have Hpt := Lib.hid (fun w => sePoint_any a b x e w hcv)
      clear hcv
      go_wp2_with fail
      refine (Hpt.out _).mono ?_
      rintro r w3 ⟨hr, hb3⟩
      have Hb3 := Lib.hid (hb.trans (hb3.mono (by have := hb.size; have := Hsz.out; omega)))
      have Hown3 := Lib.hid (own_below Hown.out hb3)
      clear hb3 hb q0 q1 ql
      cases ho : ptO a b x e with
      | none =>
        have hr2 : r = .returned (.tuple #[.agg #[.int .i64 0, .int .i64 0, .int .i64 0], .bool false]) := by rw [ho] at hr; exact hr
        subst hr2
        clear hr
        have Hn := Lib.hid (show hitsZ a b m F (k + 1) = hitsZ a b m F k by rw [Hsucc.out, ho]; simp)
        clear ho
        go_wp2
        go_roundw
        case rel => exact ⟨k + 1, by omega, by omega, by have := hx2.out; first | (congr 1; omega) | go_num, Hb3.out.alloc (by have := Hb3.out.size; have := Hsz.out; omega) _, by rw [Hn.out]; exact Hown3.out.alloc _⟩
        case measure => have := hx2.out; simp [intOf]; omega
      | some p =>
        have hr2 : r = .returned (.tuple #[.agg #[.int .i64 p.x, .int .i64 p.y, .int .i64 p.e], .bool true]) := by rw [ho] at hr; exact hr
        subst hr2
        clear hr
        have Hn := Lib.hid (show hitsZ a b m F (k + 1) = hitsZ a b m F k ++ [p] by rw [Hsucc.out, ho]; rfl)
        clear ho
        go_wp2_with (at_builtin; refine wpList_append_own _ rfl _ _ 26 rfl (w.heap.size + 1) 62 i0 (.agg #[.int .i64 0, .int .i64 0, .int .i64 0]) 3 24 Try.underlying26 hi hz0 hz1 hz2 rfl (by decide) _ _ _ rfl ((Hown3.out.alloc _).alloc _) ⟨w3.heap.size + 1, 0, none⟩ 1 1 (ptS.flat [p]) rfl rfl ?c1 (pt_one _) ?c3 ?c4 ?c5 ?_)
        case c1 => exact onePt_cells (Blk.new1 _ _ _ _)
        case c3 => unfold maxLen; omega
        case c4 => omega
        case c5 => have := Hb3.out.size; have := Hsz.out; simp; omega
        intro v6 w6 hown6 hgrow _
        have Hb06 := Lib.hid (Below.grown ((Hb3.out.alloc (by have := Hb3.out.size; have := Hsz.out; omega) _).alloc (by have := Hb3.out.size; have := Hsz.out; simp; omega) _) hgrow (by have := Hb3.out.size; have := Hsz.out; simp; omega) (fun j hj => (Hown3.out.lt j hj).1))
        have Hown6 := Lib.hid (show w6.ownsRow (w.heap.size + 1) 62 3 v6 (hitsZ a b m F (k + 1)).length (ptS.flat (hitsZ a b m F (k + 1))) by rw [Hn.out, Shape.flat_append, List.length_append]; exact hown6)
        clear hown6 hgrow
        go_wp2
        go_roundw
        case rel => exact ⟨k + 1, by omega, by omega, by have := hx2.out; first | (congr 1; omega) | go_num, Hb06.out, Hown6.out⟩
        case measure => have := hx2.out; simp [intOf]; omega
    · have Hend := Lib.hid (show hitsZ a b m F k = hitsZ a b m F l by rw [show k = l by omega])
      have hle : ¬ (k - F - m ≤ m) := by omega
      go_wp2
      go_ret
      exact ⟨⟨_, rfl, by rw [← Hend.out]; exact own_mono Hown.out (Nat.le_succ _)⟩, HbA.out.trans (hb.mono (Nat.le_succ _))⟩

theorem hitsZ_app {a b m F L : Int} (h0 : 0 ≤ F) (h1 : F ≤ L) : hitsZ a b m 0 F ++ hitsZ a b m F L = hitsZ a b m 0 L := by
  unfold hitsZ
  have e : (L - 0).toNat = (F - 0).toNat + (L - F).toNat := by omega
  rw [e, hitsN_add]
  have e2 : (0 : Int) + ((F - 0).toNat : Int) = F := by omega
  rw [e2]
theorem own_src {w : World} {base : Nat} {t : TypeId} {size n c : Nat} {A : Option Addr} {xs : List Value} (h : w.ownsRow base t size (.slice A n c) n xs) :
    (A = none → n = 0) ∧ ∀ a, A = some a → ∀ j u, xs[j]? = some u → w.cell? (a.add j) = some u := by
  have h1 := h
  rcases h.2 with ⟨h', h0⟩ | ⟨g', cap', cur, h', -⟩
  · injection h' with h2 h3
    exact ⟨fun _ => h3, fun a ha => by rw [h2] at ha; cases ha⟩
  · injection h' with h2 h3
    subst h2
    refine ⟨fun e => (by cases e), fun a ha j u hu => ?_⟩
    injection ha with ha
    subst ha
    have hj : j < xs.length := (List.getElem?_eq_some_iff.1 hu).1
    have h7 := h1.cellAt j (by rw [← h1.1]; exact hj)
    rw [hu] at h7
    by_cases h8 : j = 0
    · subst h8; simpa [Addr.add] using h7
    · simpa [Addr.add, h8] using h7
theorem pt_ones (es : List Pt) : ∀ u ∈ ptS.flat es, u.oneCell' = true := by
  intro u hu
  unfold Shape.flat at hu
  obtain ⟨p, -, hp⟩ := List.mem_flatMap.1 hu
  rw [show ptS.cells p = [.int .i64 p.x, .int .i64 p.y, .int .i64 p.e] by simp [Shape.cells, ptS, List.range_succ]] at hp
  simp only [List.mem_cons, List.not_mem_nil, or_false] at hp
  rcases hp with rfl | rfl | rfl <;> rfl
theorem own_formS {w : World} {b : Nat} {t : TypeId} {z : Nat} {v : Value} {n : Nat} {xs : List Value} (h : w.ownsRow b t z v n xs) : ∃ A c, v = .slice A n c := by
  rcases h.2 with ⟨h', h0⟩ | ⟨g', cap', cur, h', _⟩
  · exact ⟨none, 0, by rw [h', h0]⟩
  · exact ⟨_, _, h'⟩

set_option maxRecDepth 8000 in
set_option maxHeartbeats 8000000 in
theorem searchPoints_any (a b m d : Int) (w : World) (ht : TkB a b m d) :
    Calls Try.prog 34 #[.agg #[.int .i64 a, .int .i64 b], .int .i64 m, .int .i64 d] w fun r w' => (∃ v', r = .returned v' ∧ w'.ownsRow w.heap.size 62 3 v' (hitsZ a b m 0 (totI m d)).length (ptS.flat (hitsZ a b m 0 (totI m d)))) ∧ Below w.heap.size w w' := by
  obtain ⟨i0, hi, hz0, hz1, hz2⟩ := info_parts infoPt2
  have Ht := Lib.hid ht; clear ht
  have HbA := Lib.hid (show Below w.heap.size w (w.alloc (Obj.cells #[.int .i64 a, .int .i64 b] 25)) from bal (Below.refl _ _) _)
  have HB := Lib.hid (Blk.new w 25 #[.int .i64 a, .int .i64 b])
  have Hsz := Lib.hid (World.size_alloc w (Obj.cells #[.int .i64 a, .int .i64 b] 25))
  have HrA := Lib.hid (Below.refl (w.heap.size + 1) (w.alloc (Obj.cells #[.int .i64 a, .int .i64 b] 25)))
  obtain ⟨d0, d1⟩ := Ht.out.d
  have Htot := Lib.hid (totI_bd Ht.out.m Ht.out.d)
  go_enter Try.func34, Try.ntmps34
  go_wp2
  generalize w.alloc (Obj.cells #[.int .i64 a, .int .i64 b] 25) = W at HbA HB Hsz HrA
  go_loopw [7, 8] (fun o i wr => ∃ e F : Int, 1 ≤ e ∧ e ≤ d + 1 ∧ Hid (F = (e - 1) * (2 * m + 1)) ∧ i = .int .i64 e ∧ Below (w.heap.size + 1) W wr ∧ wr.ownsRow (w.heap.size + 1) 62 3 o (hitsZ a b m 0 F).length (ptS.flat (hitsZ a b m 0 F))) (fun _ i _ => (d + 1 - intOf i).toNat)
  case atStart => exact ⟨1, 0, by omega, by omega, Lib.hid (by omega), rfl, HrA.out, by rw [hitsZ_self]; exact ⟨rfl, Or.inl ⟨rfl, rfl⟩⟩⟩
  case round =>
    obtain ⟨e, F, he1, he2, HF, rfl, hb, hown⟩ := hrel
    have Hown := Lib.hid hown; clear hown
    by_cases hlt : e ≤ d
    · have Hrb := Lib.hid (RowB.mk' Ht.out he1 hlt HF.out)
      have hF0 := Hrb.out.lo
      have hF1 : F + (2 * m + 1) ≤ 4010 := by have := Hrb.out.hi; have := Htot.out; omega
      have hlen : (hitsZ a b m 0 F).length ≤ 4010 := by have := hitsZ_len a b m 0 F; have := Ht.out.m; omega
      have hlen2 : (hitsZ a b m F (F + (2 * m + 1))).length ≤ 4010 := by have := hitsZ_len a b m F (F + (2 * m + 1)); omega
      have hB := HB.out.below (B := w.heap.size + 1) hb (Nat.lt_succ_self _)
      have q0 := hB.cell 0
      have q1 := hB.cell 1
      have ql := hB.lt
      simp at q0 q1
      clear hB
      go_wp2_with fail
      refine (pointsWithE_any a b m d e F _ Ht.out Hrb.out).mono ?_
      rintro r w3 ⟨⟨v2, rfl, ho2⟩, hb3⟩
      have Hb3 := Lib.hid (hb.trans (hb3.mono (by have := hb.size; have := Hsz.out; omega)))
      have Hown3 := Lib.hid (own_below Hown.out hb3)
      have Happ := Lib.hid (hitsZ_app (a := a) (b := b) (m := m) hF0 (show F ≤ F + (2 * m + 1) by have := Ht.out.m; omega))
      have HF2 := Lib.hid (show F + (2 * m + 1) = (e + 1 - 1) * (2 * m + 1) by rw [HF.out, show e + 1 - 1 = (e - 1) + 1 by omega, Int.add_mul, Int.one_mul])
      obtain ⟨A2, c2, rfl⟩ := own_formS ho2
      obtain ⟨hs1, hs2⟩ := own_src ho2
      have Hs1 := Lib.hid hs1; have Hs2 := Lib.hid hs2
      have Hfl := Lib.hid ho2.1
      clear hs1 hs2 ho2 hb3 hb q0 q1 ql
      generalize F + (2 * m + 1) = L at Happ HF2 Hs1 Hs2 Hfl hlen2 hF1 ⊢
      generalize hitsZ a b m F L = ns at Happ Hs1 Hs2 Hfl hlen2 ⊢
      go_wp2_with (at_builtin; refine wpList_append_src rfl _ _ 26 rfl (w.heap.size + 1) 62 i0 (.agg #[.int .i64 0, .int .i64 0, .int .i64 0]) 3 24 Try.underlying26 hi hz0 hz1 hz2 rfl (by decide) _ _ _ rfl Hown3.out A2 ns.length c2 (ptS.flat ns) rfl ?c0 ?c1 ?c2 (pt_ones _) ?c3 ?c4 ?c5 ?_)
      case c0 => exact Hfl.out
      case c1 => exact Hs1.out
      case c2 => exact Hs2.out
      case c3 => unfold maxLen; omega
      case c4 => omega
      case c5 => have := Hb3.out.size; have := Hsz.out; omega
      intro v6 w6 hown6 hgrow
      have Hb06 := Lib.hid (Below.grown Hb3.out hgrow (by have := Hb3.out.size; have := Hsz.out; omega) (fun j hj => (Hown3.out.lt j hj).1))
      have Hown6 := Lib.hid (show w6.ownsRow (w.heap.size + 1) 62 3 v6 (hitsZ a b m 0 L).length (ptS.flat (hitsZ a b m 0 L)) by rw [← Happ.out, Shape.flat_append, List.length_append]; exact hown6)
      clear hown6 hgrow
      go_wp2
      go_roundw
      case rel => exact ⟨e + 1, L, by omega, by omega, HF2, rfl, Hb06.out, Hown6.out⟩
      case measure => simp [intOf]; omega
    · have Hend := Lib.hid (show F = totI m d by rw [HF.out, show e = d + 1 by omega]; unfold totI; rw [show d + 1 - 1 = d by omega])
      go_wp2
      go_ret
      exact ⟨⟨_, rfl, by rw [← Hend.out]; exact own_mono Hown.out (Nat.le_succ _)⟩, HbA.out.trans (hb.mono (Nat.le_succ _))⟩

set_option maxRecDepth 8000 in
set_option maxHeartbeats 8000000 in
theorem seFind_any (a b m d : Int) (w : World) (ht : TkB a b m d) :
    Calls Try.prog 36 #[.agg #[.int .i64 a, .int .i64 b], .int .i64 m, .int .i64 d] w fun r w' => (∃ v', r = .returned v' ∧ w'.ownsRow w.heap.size 62 3 v' (hitsZ a b m 0 (totI m d)).length (ptS.flat (hitsZ a b m 0 (totI m d)))) ∧ Below w.heap.size w w' := by
  obtain ⟨i0, hi, hz0, hz1, hz2⟩ := info_parts infoPt2
  have Ht := Lib.hid ht; clear ht
  have HbA := Lib.hid (show Below w.heap.size w (w.alloc (Obj.cells #[.int .i64 a, .int .i64 b] 25)) from bal (Below.refl _ _) _)
  have HB := Lib.hid (Blk.new w 25 #[.int .i64 a, .int .i64 b])
  have Hsz := Lib.hid (World.size_alloc w (Obj.cells #[.int .i64 a, .int .i64 b] 25))
  have HrA := Lib.hid (Below.refl (w.heap.size + 1) (w.alloc (Obj.cells #[.int .i64 a, .int .i64 b] 25)))
  obtain ⟨d0, d1⟩ := Ht.out.d
  have Htot := Lib.hid (totI_bd Ht.out.m Ht.out.d)
  go_enter Try.func36, Try.ntmps36
  go_wp2
  generalize w.alloc (Obj.cells #[.int .i64 a, .int .i64 b] 25) = W at HbA HB Hsz HrA
  go_loopw [7, 8] (fun o i wr => ∃ e F : Int, 1 ≤ e ∧ e ≤ d + 1 ∧ Hid (F = (e - 1) * (2 * m + 1)) ∧ i = .int .i64 e ∧ Below (w.heap.size + 1) W wr ∧ wr.ownsRow (w.heap.size + 1) 62 3 o (hitsZ a b m 0 F).length (ptS.flat (hitsZ a b m 0 F))) (fun _ i _ => (d + 1 - intOf i).toNat)
  case atStart => exact ⟨1, 0, by omega, by omega, Lib.hid (by omega), rfl, HrA.out, by rw [hitsZ_self]; exact ⟨rfl, Or.inl ⟨rfl, rfl⟩⟩⟩
  case round =>
    obtain ⟨e, F, he1, he2, HF, rfl, hb, hown⟩ := hrel
    have Hown := Lib.hid hown; clear hown
    by_cases hlt : e ≤ d
    · have Hrb := Lib.hid (RowB.mk' Ht.out he1 hlt HF.out)
      have hF0 := Hrb.out.lo
      have hF1 : F + (2 * m + 1) ≤ 4010 := by have := Hrb.out.hi; have := Htot.out; omega
      have hlen : (hitsZ a b m 0 F).length ≤ 4010 := by have := hitsZ_len a b m 0 F; have := Ht.out.m; omega
      have hlen2 : (hitsZ a b m F (F + (2 * m + 1))).length ≤ 4010 := by have := hitsZ_len a b m F (F + (2 * m + 1)); omega
      have hB := HB.out.below (B := w.heap.size + 1) hb (Nat.lt_succ_self _)
      have q0 := hB.cell 0
      have q1 := hB.cell 1
      have ql := hB.lt
      simp at q0 q1
      clear hB
      go_wp2_with fail
      refine (seWith_any a b m d e F _ Ht.out Hrb.out).mono ?_
      rintro r w3 ⟨⟨v2, rfl, ho2⟩, hb3⟩
      have Hb3 := Lib.hid (hb.trans (hb3.mono (by have := hb.size; have := Hsz.out; omega)))
      have Hown3 := Lib.hid (own_below Hown.out hb3)
      have Happ := Lib.hid (hitsZ_app (a := a) (b := b) (m := m) hF0 (show F ≤ F + (2 * m + 1) by have := Ht.out.m; omega))
      have HF2 := Lib.hid (show F + (2 * m + 1) = (e + 1 - 1) * (2 * m + 1) by rw [HF.out, show e + 1 - 1 = (e - 1) + 1 by omega, Int.add_mul, Int.one_mul])
      obtain ⟨A2, c2, rfl⟩ := own_formS ho2
      obtain ⟨hs1, hs2⟩ := own_src ho2
      have Hs1 := Lib.hid hs1; have Hs2 := Lib.hid hs2
      have Hfl := Lib.hid ho2.1
      clear hs1 hs2 ho2 hb3 hb q0 q1 ql
      generalize F + (2 * m + 1) = L at Happ HF2 Hs1 Hs2 Hfl hlen2 hF1 ⊢
      generalize hitsZ a b m F L = ns at Happ Hs1 Hs2 Hfl hlen2 ⊢
      go_wp2_with (at_builtin; refine wpList_append_src rfl _ _ 26 rfl (w.heap.size + 1) 62 i0 (.agg #[.int .i64 0, .int .i64 0, .int .i64 0]) 3 24 Try.underlying26 hi hz0 hz1 hz2 rfl (by decide) _ _ _ rfl Hown3.out A2 ns.length c2 (ptS.flat ns) rfl ?c0 ?c1 ?c2 (pt_ones _) ?c3 ?c4 ?c5 ?_)
      case c0 => exact Hfl.out
      case c1 => exact Hs1.out
      case c2 => exact Hs2.out
      case c3 => unfold maxLen; omega
      case c4 => omega
      case c5 => have := Hb3.out.size; have := Hsz.out; omega
      intro v6 w6 hown6 hgrow
      have Hb06 := Lib.hid (Below.grown Hb3.out hgrow (by have := Hb3.out.size; have := Hsz.out; omega) (fun j hj => (Hown3.out.lt j hj).1))
      have Hown6 := Lib.hid (show w6.ownsRow (w.heap.size + 1) 62 3 v6 (hitsZ a b m 0 L).length (ptS.flat (hitsZ a b m 0 L)) by rw [← Happ.out, Shape.flat_append, List.length_append]; exact hown6)
      clear hown6 hgrow
      go_wp2
      go_roundw
      case rel => exact ⟨e + 1, L, by omega, by omega, HF2, rfl, Hb06.out, Hown6.out⟩
      case measure => simp [intOf]; omega
    · have Hend := Lib.hid (show F = totI m d by rw [HF.out, show e = d + 1 by omega]; unfold totI; rw [show d + 1 - 1 = d by omega])
      go_wp2
      go_ret
      exact ⟨⟨_, rfl, by rw [← Hend.out]; exact own_mono Hown.out (Nat.le_succ _)⟩, HbA.out.trans (hb.mono (Nat.le_succ _))⟩

theorem seE_any (d : Int) (w : World) (h : insB d 1 20 = true) : Calls Try.prog 51 #[.int .i64 d] w fun r w' => r = .returned (.bool true) ∧ Below w.heap.size w w' := by
  go_enter Try.func51, Try.ntmps51
  go_wp2_with fail
  refine (l1In_any _ _ _ _).mono ?_; rintro e w2 ⟨rfl, rfl⟩
  rw [h]
  go_wp2
  go_ret
  exact ⟨rfl, Below.refl _ _⟩

theorem searchFits_any (a b m d : Int) (w : World) (ht : tkB a b m d = true) :
    Calls Try.prog 33 #[.agg #[.int .i64 a, .int .i64 b], .int .i64 m, .int .i64 d] w fun r w' => r = .returned (.bool true) ∧ Below w.heap.size w w' := by
  have h0 := tkB_tk ht
  have h1 : curveB a b = true := by unfold tkB at ht; simp only [Bool.and_eq_true] at ht; exact ht.1
  have h2 : insB m (-10000) 10000 = true := insB_mk (by have := h0.m; omega) (by have := h0.m; omega)
  have h3 : insB d 1 20 = true := insB_mk (by have := h0.d; omega) (by have := h0.d; omega)
  clear ht h0
  have hbA := bal (Below.refl w.heap.size w) (Obj.cells #[.int .i64 a, .int .i64 b] 25)
  go_enter Try.func33, Try.ntmps33
  go_wp2_with fail
  refine (isCurve_any a b _).mono ?_; rintro e w1 ⟨rfl, hb1⟩
  replace hb1 := bthen hbA hb1
  rw [h1]
  go_wp2_with fail
  refine (inside_any _ _ _ _).mono ?_; rintro e w2 ⟨rfl, rfl⟩
  rw [h2]
  go_wp2_with fail
  refine (inside_any _ _ _ _).mono ?_; rintro e w3 ⟨rfl, rfl⟩
  rw [h3]
  go_wp2
  go_ret
  exact ⟨rfl, hb1⟩

theorem seAsked_any (a b m d : Int) (w : World) (ht : tkB a b m d = true) :
    Calls Try.prog 35 #[.agg #[.int .i64 a, .int .i64 b], .int .i64 m, .int .i64 d] w fun r w' => r = .returned (.bool true) ∧ Below w.heap.size w w' := by
  have h0 := tkB_tk ht
  have h1 : curveB a b = true := by unfold tkB at ht; simp only [Bool.and_eq_true] at ht; exact ht.1
  have h2 : insB m (-10000) 10000 = true := insB_mk (by have := h0.m; omega) (by have := h0.m; omega)
  have h3 : insB d 1 20 = true := insB_mk (by have := h0.d; omega) (by have := h0.d; omega)
  clear ht h0
  have hbA := bal (Below.refl w.heap.size w) (Obj.cells #[.int .i64 a, .int .i64 b] 25)
  go_enter Try.func35, Try.ntmps35
  go_wp2_with fail
  refine (ecGood_any a b _).mono ?_; rintro e w1 ⟨rfl, hb1⟩
  replace hb1 := bthen hbA hb1
  rw [h1]
  go_wp2_with fail
  refine (l1In_any _ _ _ _).mono ?_; rintro e w2 ⟨rfl, rfl⟩
  rw [h2]
  go_wp2_with fail
  refine (seE_any d _ h3).mono ?_; rintro e w3 ⟨rfl, hb3⟩
  replace hb1 := bthen hb1 hb3
  go_wp2
  go_ret
  exact ⟨rfl, hb1⟩

set_option maxHeartbeats 1600000 in
theorem implSearch_any (a b m d : Int) (w : World) (ht : tkB a b m d = true) :
    Calls Try.prog 12 #[.agg #[.int .i64 a, .int .i64 b], .int .i64 m, .int .i64 d] w fun r w' => (∃ v', r = .returned (.tuple #[v', .bool true]) ∧ w'.ownsRow w.heap.size 62 3 v' (hitsZ a b m 0 (totI m d)).length (ptS.flat (hitsZ a b m 0 (totI m d)))) ∧ Below w.heap.size w w' := by
  have h0 := tkB_tk ht
  have hm : ¬ (m < 0) := by have := h0.m; omega
  have Ht := Lib.hid ht; have H0 := Lib.hid h0; clear ht h0
  have HB := Lib.hid (Blk.new w 25 #[.int .i64 a, .int .i64 b])
  have hbA := bal (Below.refl w.heap.size w) (Obj.cells #[.int .i64 a, .int .i64 b] 25)
  go_enter Try.func12, Try.ntmps12
  go_wp2_with fail
  refine (searchFits_any a b m d _ Ht.out).mono ?_; rintro e w1 ⟨rfl, hb1⟩
  have hB1 := HB.out.on hb1
  have q0 := hB1.cell 0
  have q1 := hB1.cell 1
  have ql := hB1.lt
  simp at q0 q1
  have Hb1 := Lib.hid (bthen hbA hb1)
  clear hB1 hb1 hbA
  go_wp2_with fail
  refine (searchPoints_any a b m d _ H0.out).mono ?_; rintro e w2 ⟨⟨v2, rfl, ho2⟩, hb2⟩
  have Ho2 := Lib.hid (own_mono ho2 Hb1.out.size)
  have Hb2 := Lib.hid (bthen Hb1.out hb2)
  clear ho2 hb2 q0 q1 ql
  go_wp2
  go_ret2
  exact ⟨⟨_, rfl, Ho2.out⟩, Hb2.out⟩

set_option maxHeartbeats 1600000 in
theorem specSearch_any (a b m d : Int) (w : World) (ht : tkB a b m d = true) :
    Calls Try.prog 13 #[.agg #[.int .i64 a, .int .i64 b], .int .i64 m, .int .i64 d] w fun r w' => (∃ v', r = .returned (.tuple #[v', .bool true]) ∧ w'.ownsRow w.heap.size 62 3 v' (hitsZ a b m 0 (totI m d)).length (ptS.flat (hitsZ a b m 0 (totI m d)))) ∧ Below w.heap.size w w' := by
  have h0 := tkB_tk ht
  have hm : ¬ (m < 0) := by have := h0.m; omega
  have Ht := Lib.hid ht; have H0 := Lib.hid h0; clear ht h0
  have HB := Lib.hid (Blk.new w 25 #[.int .i64 a, .int .i64 b])
  have hbA := bal (Below.refl w.heap.size w) (Obj.cells #[.int .i64 a, .int .i64 b] 25)
  go_enter Try.func13, Try.ntmps13
  go_wp2_with fail
  refine (seAsked_any a b m d _ Ht.out).mono ?_; rintro e w1 ⟨rfl, hb1⟩
  have hB1 := HB.out.on hb1
  have q0 := hB1.cell 0
  have q1 := hB1.cell 1
  have ql := hB1.lt
  simp at q0 q1
  have Hb1 := Lib.hid (bthen hbA hb1)
  clear hB1 hb1 hbA
  go_wp2_with fail
  refine (seFind_any a b m d _ H0.out).mono ?_; rintro e w2 ⟨⟨v2, rfl, ho2⟩, hb2⟩
  have Ho2 := Lib.hid (own_mono ho2 Hb1.out.size)
  have Hb2 := Lib.hid (bthen Hb1.out hb2)
  clear ho2 hb2 q0 q1 ql
  go_wp2
  go_ret2
  exact ⟨⟨_, rfl, Ho2.out⟩, Hb2.out⟩

end Go.Proofs.Ytjnghjgfhlgbiaa
