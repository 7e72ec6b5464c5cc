/- The walks: the candidates of a task; the points at some candidates, in the program (hits) and in the reference (skRun). Conditions: bounds of a task. -/
import Derived.Test.YtjnghjgfhlgbiaaCand
import Derived.Test.YtjnghjgfhlgbiaaSPoint
namespace Go.Proofs.Ytjnghjgfhlgbiaa
open Go Go.RowKit

/-! ### Candidates -/
def cxI (m i : Int) : Int := i % (2 * m + 1) - m
def ceI (m i : Int) : Int := 1 + i / (2 * m + 1)
/-- The bounds of a task. -/
structure TkB (a b m d : Int) : Prop where
  a : -1000 ≤ a ∧ a ≤ 1000
  b : -10000 ≤ b ∧ b ≤ 10000
  m : 0 ≤ m ∧ m ≤ 200
  d : 1 ≤ d ∧ d ≤ 10
/-- How many candidates a task has. -/
def totI (m d : Int) : Int := d * (2 * m + 1)
theorem totI_bd {m d : Int} (hm : 0 ≤ m ∧ m ≤ 200) (hd : 1 ≤ d ∧ d ≤ 10) : 0 ≤ totI m d ∧ totI m d ≤ 4010 := by
  have h1 := mul_sb (u := d) (U := 10) (v := 2 * m + 1) (V := 401) (by omega) (by omega) (by omega) (by omega)
  have h2 := Int.mul_nonneg (show 0 ≤ d by omega) (show 0 ≤ 2 * m + 1 by omega)
  unfold totI
  omega
theorem cand_bd {m d i : Int} (hm : 0 ≤ m ∧ m ≤ 200) (h0 : 0 ≤ i) (h1 : i < totI m d) : -200 ≤ cxI m i ∧ cxI m i ≤ 200 ∧ 1 ≤ ceI m i ∧ ceI m i ≤ d ∧ -m ≤ cxI m i ∧ cxI m i ≤ m := by
  have p1 := Int.emod_nonneg i (show (2 * m + 1) ≠ 0 by omega)
  have p2 := Int.emod_lt_of_pos i (show 0 < 2 * m + 1 by omega)
  have p3 : i / (2 * m + 1) < d := Int.ediv_lt_of_lt_mul (by omega) h1
  have p4 : 0 ≤ i / (2 * m + 1) := Int.ediv_nonneg h0 (by omega)
  unfold cxI ceI
  omega
/-- The point at a candidate. -/
def candO (a b m i : Int) : Option Pt := ptO a b (cxI m i) (ceI m i)
def hitsN (a b m f : Int) : Nat → List Pt
  | 0 => []
  | k + 1 => hitsN a b m f k ++ (candO a b m (f + k)).toList
/-- The points at the candidates from f on, up to the one before i. -/
def hitsZ (a b m f i : Int) : List Pt := hitsN a b m f (i - f).toNat
theorem hitsZ_self (a b m f : Int) : hitsZ a b m f f = [] := by unfold hitsZ; rw [Int.sub_self]; rfl
theorem hitsZ_none {a b m f i : Int} (h : i ≤ f) : hitsZ a b m f i = [] := by unfold hitsZ; rw [show (i - f).toNat = 0 by omega]; rfl
theorem hitsZ_succ {a b m f i : Int} (h : f ≤ i) : hitsZ a b m f (i + 1) = hitsZ a b m f i ++ (candO a b m i).toList := by
  unfold hitsZ
  rw [show (i + 1 - f).toNat = (i - f).toNat + 1 by omega]
  show hitsN a b m f (i - f).toNat ++ _ = _
  rw [show f + ((i - f).toNat : Int) = i by omega]
theorem hitsN_len (a b m f : Int) : ∀ k, (hitsN a b m f k).length ≤ k
  | 0 => Nat.le_refl _
  | k + 1 => by
    have := hitsN_len a b m f k
    have h2 : (candO a b m (f + k)).toList.length ≤ 1 := by cases candO a b m (f + k) <;> simp
    simp only [hitsN, List.length_append]
    omega
theorem hitsZ_len (a b m f i : Int) : (hitsZ a b m f i).length ≤ (i - f).toNat := hitsN_len a b m f _

theorem pt3 (p : Pt) : ptS.flat [p] = [.int .i64 p.x, .int .i64 p.y, .int .i64 p.e] := by simp [Shape.flat, Shape.cells, ptS, List.range_succ]
theorem pt_one (p : Pt) : ∀ u ∈ ptS.flat [p], u.oneCell' = true := by
  intro u hu; rw [pt3] at hu; simp at hu; rcases hu with rfl | rfl | rfl <;> rfl
theorem onePt_cells {w : World} {g : Nat} {t : TypeId} {p : Pt} (h : Blk w g t #[.int .i64 p.x, .int .i64 p.y, .int .i64 p.e]) : ∀ j u, (ptS.flat [p])[j]? = some u → w.cell? ((⟨g, 0, none⟩ : Addr).add j) = some u := by
  intro j u hj
  rw [pt3] at hj
  rw [Addr.add_lit, Nat.zero_add, h.cell]
  match j, hj with
  | 0, hj => simpa using hj
  | 1, hj => simpa using hj
  | 2, hj => simpa using hj

set_option maxHeartbeats 1600000 in
theorem candidate_any (g : Nat) (a b m d t i : Int) (v : Value) (w : World) (h : Blk w g 28 #[.int .i64 a, .int .i64 b, .int .i64 m, .int .i64 d, .int .i64 t, v]) (hm : 0 ≤ m ∧ m ≤ 200) (hi : 0 ≤ i ∧ i ≤ 1000000) :
    Calls Try.prog 39 #[.pointer (some ⟨g, 0, none⟩), .int .i64 i] w fun r w' => r = .returned (.tuple #[.int .i64 (cxI m i), .int .i64 (ceI m i)]) ∧ Below w.heap.size w w' := by
  have q2 := h.cell 2
  simp at q2
  have hl := h.lt
  obtain ⟨m1, m2⟩ := hm
  obtain ⟨i1, i2⟩ := hi
  have p1 := Int.emod_nonneg i (show (2 * m + 1) ≠ 0 by omega)
  have p2 := Int.emod_lt_of_pos i (show 0 < 2 * m + 1 by omega)
  have p3 := Int.ediv_le_self (2 * m + 1) i1
  have p4 : 0 ≤ i / (2 * m + 1) := Int.ediv_nonneg i1 (by omega)
  clear h
  go_enter Try.func39, Try.ntmps39
  go_wp2
  refine wp_region_tame (by kernel_rfl) (by kernel_rfl) (fun T _ W hT => ?_)
  have hx := hT.cell
  repeat (go_big_quiet_step (fail))
  refine wpQuiet_nil ?_
  intro t
  clear hx
  go_wp2
  go_ret2
  exact ⟨rfl, hT.below t⟩
set_option maxHeartbeats 1600000 in
theorem skCandidate_any (a b m d t i : Int) (v : Value) (w : World) (hm : 0 ≤ m ∧ m ≤ 200) (hi : 0 ≤ i ∧ i ≤ 1000000) :
    Calls Try.prog 41 #[.agg #[.int .i64 a, .int .i64 b, .int .i64 m, .int .i64 d, .int .i64 t, v], .int .i64 i] w fun r w' => r = .returned (.tuple #[.int .i64 (cxI m i), .int .i64 (ceI m i)]) ∧ Below w.heap.size w w' := by
  obtain ⟨m1, m2⟩ := hm
  obtain ⟨i1, i2⟩ := hi
  have p1 := Int.emod_nonneg i (show (2 * m + 1) ≠ 0 by omega)
  have p2 := Int.emod_lt_of_pos i (show 0 < 2 * m + 1 by omega)
  have p3 := Int.ediv_le_self (2 * m + 1) i1
  have p4 : 0 ≤ i / (2 * m + 1) := Int.ediv_nonneg i1 (by omega)
  have HbA := Lib.hid (show Below w.heap.size w (w.alloc (Obj.cells #[.int .i64 a, .int .i64 b, .int .i64 m, .int .i64 d, .int .i64 t, v] 28)) from bal (Below.refl _ _) _)
  have q2 := (Blk.new w 28 #[.int .i64 a, .int .i64 b, .int .i64 m, .int .i64 d, .int .i64 t, v]).cell 2
  go_enter Try.func41, Try.ntmps41
  go_wp2
  refine wp_region_tame (by kernel_rfl) (by kernel_rfl) (fun T _ W hT => ?_)
  have hx := hT.cell
  repeat (go_big_quiet_step (fail))
  refine wpQuiet_nil ?_
  intro t
  clear hx
  go_wp2
  go_ret2
  exact ⟨rfl, bthen HbA.out (hT.below t)⟩

theorem infoPt2 : (Try.prog.info? 62).map (fun i => (i.zero, i.size, i.bytes)) = some (some (.agg #[.int .i64 0, .int .i64 0, .int .i64 0]), 3, 24) := by kernel_rfl
theorem TkB.cv {a b m d i : Int} (h : TkB a b m d) (h0 : 0 ≤ i) (h1 : i < totI m d) : CvB a b (cxI m i) (ceI m i) := by
  obtain ⟨p1, p2, p3, p4, -, -⟩ := cand_bd h.m h0 h1
  have := h.d
  exact ⟨h.a, h.b, by omega, by omega⟩

set_option maxRecDepth 8000 in
set_option maxHeartbeats 8000000 in
theorem hits_any (g : Nat) (a b m d t f l : Int) (v : Value) (w : World) (h : Blk w g 28 #[.int .i64 a, .int .i64 b, .int .i64 m, .int .i64 d, .int .i64 t, v]) (ht : TkB a b m d) (hf : 0 ≤ f) (hl : l ≤ totI m d) :
    Calls Try.prog 46 #[.pointer (some ⟨g, 0, none⟩), .int .i64 f, .int .i64 l] w fun r w' => (∃ v', r = .returned v' ∧ w'.ownsRow w.heap.size 62 3 v' (hitsZ a b m f l).length (ptS.flat (hitsZ a b m f l))) ∧ Below w.heap.size w w' := by
  obtain ⟨i0, hi, hz0, hz1, hz2⟩ := info_parts infoPt2
  have Hb := Lib.hid h; clear h
  have Ht := Lib.hid ht; clear ht
  have Hl := Lib.hid hl; clear hl
  have Htot := Lib.hid (totI_bd Ht.out.m Ht.out.d)
  go_enter Try.func46, Try.ntmps46
  go_wp2
  go_loopw [7, 8] (fun o i wr => ∃ k : Int, f ≤ k ∧ (k ≤ l ∨ k = f) ∧ i = .int .i64 k ∧ Below w.heap.size w wr ∧ wr.ownsRow w.heap.size 62 3 o (hitsZ a b m f k).length (ptS.flat (hitsZ a b m f k))) (fun _ i _ => (l - intOf i).toNat)
  case atStart => exact ⟨f, Int.le_refl _, .inr rfl, rfl, Below.refl _ _, by rw [hitsZ_self]; exact ⟨rfl, Or.inl ⟨rfl, rfl⟩⟩⟩
  case round =>
    obtain ⟨k, hfk, hkl, rfl, hb, hown⟩ := hrel
    have Hown := Lib.hid hown; clear hown
    by_cases hlt : k < l
    · have hk0 : 0 ≤ k := by omega
      have hk1 : k ≤ 4010 := by have := Hl.out; have := Htot.out; omega
      have hlen : (hitsZ a b m f k).length ≤ 4010 := by have := hitsZ_len a b m f k; omega
      have hcv := Ht.out.cv hk0 (show k < totI m d by have := Hl.out; omega)
      obtain ⟨x1, x2, e1, e2, -, -⟩ := cand_bd Ht.out.m hk0 (show k < totI m d by have := Hl.out; omega)
      have hsucc := hitsZ_succ (a := a) (b := b) (m := m) hfk
      have hcand : candO a b m k = ptO a b (cxI m k) (ceI m k) := rfl
      rw [hcand] at hsucc
      have Hcand := Lib.hid (fun w' hw => candidate_any g a b m d t k v w' hw Ht.out.m (by omega))
      have he2 : ceI m k ≤ 10 := by have := Ht.out.d; omega
      generalize cxI m k = x at hcv x1 x2 hsucc Hcand
      generalize ceI m k = e at hcv e1 e2 he2 hsucc Hcand
      have Hval := Lib.hid (fun w => curveValue_any a b x e w hcv)
      have Hroot := Lib.hid (fun w => exactRoot_any (cvI a b x e) w (cv_small hcv))
      have Hgcd := Lib.hid (fun w => gcd_any x e w (by omega) (by omega))
      have Hsucc := Lib.hid hsucc
      clear hcv hsucc hcand e2
      go_wp2_with fail
      refine (Hcand.out _ (Hb.out.below hb (Hb.out.lt))).mono ?_
      rintro r w2 ⟨rfl, hb2⟩
      have hb02 := bthen hb hb2
      go_wp2_with fail
      refine (Hgcd.out _).mono ?_
      rintro r w3 ⟨rfl, hb3⟩
      have hb03 := bthen hb02 hb3
      have Hown3 := Lib.hid (own_below Hown.out (bthen hb2 hb3))
      have hB3 := Hb.out.below hb03 Hb.out.lt
      have q0 := hB3.cell 0
      have q1 := hB3.cell 1
      have ql := hB3.lt
      clear hB3
      simp at q0 q1
      have Hb03 := Lib.hid hb03; clear hb02 hb03 hb2 hb3 hb
      by_cases hg1 : gcdI x e = 1
      · have hne : (gcdI x e != 1) = false := by simp [hg1]
        go_wp2_with fail
        refine (Hval.out _).mono ?_
        rintro r w4 ⟨rfl, hb4⟩
        have Hown4 := Lib.hid (own_below Hown3.out hb4)
        have Hb04 := Lib.hid (bthen Hb03.out hb4)
        clear hb4
        go_wp2_with fail
        refine (Hroot.out _).mono ?_
        rintro r w5 ⟨rfl, rfl⟩
        cases hk : rootK (cvI a b x e)
        · have Hn := Lib.hid (show hitsZ a b m f (k + 1) = hitsZ a b m f k by rw [Hsucc.out, ptO, if_neg (by simp [hk])]; simp)
          clear hk
          go_wp2
          go_roundw
          case rel => exact ⟨k + 1, by omega, by omega, rfl, Hb04.out, by rw [Hn.out]; exact Hown4.out⟩
          case measure => simp [intOf]; omega
        · have Hn := Lib.hid (show hitsZ a b m f (k + 1) = hitsZ a b m f k ++ [⟨x, rootV (cvI a b x e), e⟩] by rw [Hsucc.out, ptO, if_pos ⟨hg1, hk⟩]; rfl)
          clear hk hg1
          generalize rootV (cvI a b x e) = y at Hn
          go_wp2_with (at_builtin; refine wpList_append_own _ rfl _ _ 26 rfl w.heap.size 62 i0 (.agg #[.int .i64 0, .int .i64 0, .int .i64 0]) 3 24 Try.underlying26 hi hz0 hz1 hz2 rfl (by decide) _ _ _ rfl (Hown4.out.alloc _) ⟨w4.heap.size, 0, none⟩ 1 1 (ptS.flat [⟨x, y, e⟩]) rfl rfl ?c1 (pt_one _) ?c3 ?c4 ?c5 ?_)
          case c1 => exact onePt_cells (Blk.new _ _ _)
          case c3 => unfold maxLen; omega
          case c4 => omega
          case c5 => have := Hb04.out.size; simp; omega
          intro v6 w6 hown6 hgrow _
          have Hb06 := Lib.hid (Below.grown (bal Hb04.out _) hgrow (by have := Hb04.out.size; simp; omega) (fun j hj => (Hown4.out.lt j hj).1))
          have Hown6 := Lib.hid (show w6.ownsRow w.heap.size 62 3 v6 (hitsZ a b m f (k + 1)).length (ptS.flat (hitsZ a b m f (k + 1))) by rw [Hn.out, Shape.flat_append, List.length_append]; exact hown6)
          clear hown6 hgrow
          go_wp2
          go_roundw
          case rel => exact ⟨k + 1, by omega, by omega, rfl, Hb06.out, Hown6.out⟩
          case measure => simp [intOf]; omega
      · have hne : (gcdI x e != 1) = true := by simp [hg1]
        have Hn := Lib.hid (show hitsZ a b m f (k + 1) = hitsZ a b m f k by rw [Hsucc.out, ptO, if_neg (fun h => hg1 h.1)]; simp)
        clear hg1
        go_wp2
        go_roundw
        case rel => exact ⟨k + 1, by omega, by omega, rfl, Hb03.out, by rw [Hn.out]; exact Hown3.out⟩
        case measure => simp [intOf]; omega
    · have Hend := Lib.hid (show hitsZ a b m f k = hitsZ a b m f l by
        rcases hkl with h | h
        · rw [show k = l by omega]
        · rw [hitsZ_none (show k ≤ f by omega), hitsZ_none (show l ≤ f by omega)])
      go_wp2
      go_ret
      exact ⟨⟨_, rfl, by rw [← Hend.out]; exact Hown.out⟩, hb⟩
set_option maxRecDepth 8000 in
set_option maxHeartbeats 8000000 in
theorem skRun_any (a b m d t f l : Int) (v : Value) (w : World) (ht : TkB a b m d) (hf : 0 ≤ f) (hl : l ≤ totI m d) :
    Calls Try.prog 48 #[.agg #[.int .i64 a, .int .i64 b, .int .i64 m, .int .i64 d, .int .i64 t, v], .int .i64 f, .int .i64 l] w fun r w' => (∃ v', r = .returned v' ∧ w'.ownsRow w.heap.size 62 3 v' (hitsZ a b m f l).length (ptS.flat (hitsZ a b m f l))) ∧ Below w.heap.size w w' := by
  obtain ⟨i0, hi, hz0, hz1, hz2⟩ := info_parts infoPt2
  have Ht := Lib.hid ht; clear ht
  have Hl := Lib.hid hl; clear hl
  have Htot := Lib.hid (totI_bd Ht.out.m Ht.out.d)
  have HbA := Lib.hid (show Below w.heap.size w (w.alloc (Obj.cells #[.int .i64 a, .int .i64 b, .int .i64 m, .int .i64 d, .int .i64 t, v] 28)) from bal (Below.refl _ _) _)
  have HB := Lib.hid (Blk.new w 28 #[.int .i64 a, .int .i64 b, .int .i64 m, .int .i64 d, .int .i64 t, v])
  have Hsz := Lib.hid (World.size_alloc w (Obj.cells #[.int .i64 a, .int .i64 b, .int .i64 m, .int .i64 d, .int .i64 t, v] 28))
  have HrA := Lib.hid (Below.refl (w.heap.size + 1) (w.alloc (Obj.cells #[.int .i64 a, .int .i64 b, .int .i64 m, .int .i64 d, .int .i64 t, v] 28)))
  go_enter Try.func48, Try.ntmps48
  go_wp2
  generalize w.alloc (Obj.cells #[.int .i64 a, .int .i64 b, .int .i64 m, .int .i64 d, .int .i64 t, v] 28) = W at HbA HB Hsz HrA
  go_loopw [7, 8] (fun o i wr => ∃ k : Int, f ≤ k ∧ (k ≤ l ∨ k = f) ∧ i = .int .i64 k ∧ Below (w.heap.size + 1) W wr ∧ wr.ownsRow (w.heap.size + 1) 62 3 o (hitsZ a b m f k).length (ptS.flat (hitsZ a b m f k))) (fun _ i _ => (l - intOf i).toNat)
  case atStart => exact ⟨f, Int.le_refl _, .inr rfl, rfl, HrA.out, by rw [hitsZ_self]; exact ⟨rfl, Or.inl ⟨rfl, rfl⟩⟩⟩
  case round =>
    obtain ⟨k, hfk, hkl, rfl, hb, hown⟩ := hrel
    have Hown := Lib.hid hown; clear hown
    by_cases hlt : k < l
    · have hk0 : 0 ≤ k := by omega
      have hk1 : k ≤ 4010 := by have := Hl.out; have := Htot.out; omega
      have hlen : (hitsZ a b m f k).length ≤ 4010 := by have := hitsZ_len a b m f k; omega
      have hcv := Ht.out.cv hk0 (show k < totI m d by have := Hl.out; omega)
      have hsucc := hitsZ_succ (a := a) (b := b) (m := m) hfk
      have hcand : candO a b m k = ptO a b (cxI m k) (ceI m k) := rfl
      rw [hcand] at hsucc
      have Hcand := Lib.hid (fun w' => skCandidate_any a b m d t k v w' Ht.out.m (by omega))
      generalize cxI m k = x at hcv hsucc Hcand
      generalize ceI m k = e at hcv hsucc Hcand
      have Hpt := Lib.hid (fun w => sePoint_any a b x e w hcv)
      have Hsucc := Lib.hid hsucc
      clear hcv hsucc hcand
      have hB := HB.out.below (B := w.heap.size + 1) hb (Nat.lt_succ_self _)
      have q0 := hB.cell 0
      have q1 := hB.cell 1
      have q2 := hB.cell 2
      have q3 := hB.cell 3
      have q4 := hB.cell 4
      have q5 := hB.cell 5
      have ql := hB.lt
      simp at q0 q1 q2 q3 q4 q5
      clear hB
      go_wp2_with fail
      refine (Hcand.out _).mono ?_
      rintro r w2 ⟨rfl, hb2⟩
      clear q0 q1 q2 q3 q4 q5
      have hb02 : Below (w.heap.size + 1) W w2 := hb.trans (hb2.mono (by have := hb.size; have := Hsz.out; omega))
      have Hown2 := Lib.hid (own_below Hown.out hb2)
      have hB := HB.out.below (B := w.heap.size + 1) hb02 (Nat.lt_succ_self _)
      have q0 := hB.cell 0
      have q1 := hB.cell 1
      have ql := hB.lt
      simp at q0 q1
      clear hB hb2 hb
      go_wp2_with fail
      refine (Hpt.out _).mono ?_
      rintro r w3 ⟨hr, hb3⟩
      have Hb3 := Lib.hid (hb02.trans (hb3.mono (by have := hb02.size; have := Hsz.out; omega)))
      have Hown3 := Lib.hid (own_below Hown2.out hb3)
      clear hb3 hb02 q0 q1 ql
      cases ho : ptO a b x e with
      | none =>
        have hr2 : r = .returned (.tuple #[.agg #[.int .i64 0, .int .i64 0, .int .i64 0], .bool false]) := by rw [ho] at hr; exact hr
        subst hr2
        clear hr
        have Hn := Lib.hid (show hitsZ a b m f (k + 1) = hitsZ a b m f k by rw [Hsucc.out, ho]; simp)
        clear ho
        go_wp2
        go_roundw
        case rel => exact ⟨k + 1, by omega, by omega, rfl, Hb3.out.alloc (by have := Hb3.out.size; have := Hsz.out; omega) _, by rw [Hn.out]; exact Hown3.out.alloc _⟩
        case measure => simp [intOf]; omega
      | some p =>
        have hr2 : r = .returned (.tuple #[.agg #[.int .i64 p.x, .int .i64 p.y, .int .i64 p.e], .bool true]) := by rw [ho] at hr; exact hr
        subst hr2
        clear hr
        have Hn := Lib.hid (show hitsZ a b m f (k + 1) = hitsZ a b m f k ++ [p] by rw [Hsucc.out, ho]; rfl)
        clear ho
        go_wp2_with (at_builtin; refine wpList_append_own _ rfl _ _ 26 rfl (w.heap.size + 1) 62 i0 (.agg #[.int .i64 0, .int .i64 0, .int .i64 0]) 3 24 Try.underlying26 hi hz0 hz1 hz2 rfl (by decide) _ _ _ rfl ((Hown3.out.alloc _).alloc _) ⟨w3.heap.size + 1, 0, none⟩ 1 1 (ptS.flat [p]) rfl rfl ?c1 (pt_one _) ?c3 ?c4 ?c5 ?_)
        case c1 => exact onePt_cells (Blk.new1 _ _ _ _)
        case c3 => unfold maxLen; omega
        case c4 => omega
        case c5 => have := Hb3.out.size; have := Hsz.out; simp; omega
        intro v6 w6 hown6 hgrow _
        have Hb06 := Lib.hid (Below.grown ((Hb3.out.alloc (by have := Hb3.out.size; have := Hsz.out; omega) _).alloc (by have := Hb3.out.size; have := Hsz.out; simp; omega) _) hgrow (by have := Hb3.out.size; have := Hsz.out; simp; omega) (fun j hj => (Hown3.out.lt j hj).1))
        have Hown6 := Lib.hid (show w6.ownsRow (w.heap.size + 1) 62 3 v6 (hitsZ a b m f (k + 1)).length (ptS.flat (hitsZ a b m f (k + 1))) by rw [Hn.out, Shape.flat_append, List.length_append]; exact hown6)
        clear hown6 hgrow
        go_wp2
        go_roundw
        case rel => exact ⟨k + 1, by omega, by omega, rfl, Hb06.out, Hown6.out⟩
        case measure => simp [intOf]; omega
    · have Hend := Lib.hid (show hitsZ a b m f k = hitsZ a b m f l by
        rcases hkl with h | h
        · rw [show k = l by omega]
        · rw [hitsZ_none (show k ≤ f by omega), hitsZ_none (show l ≤ f by omega)])
      go_wp2
      go_ret
      exact ⟨⟨_, rfl, by rw [← Hend.out]; exact own_mono Hown.out (Nat.le_succ _)⟩, HbA.out.trans (hb.mono (Nat.le_succ _))⟩
end Go.Proofs.Ytjnghjgfhlgbiaa
