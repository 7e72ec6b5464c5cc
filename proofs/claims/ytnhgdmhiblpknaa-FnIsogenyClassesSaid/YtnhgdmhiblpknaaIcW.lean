/- Compact, Index, Contains at curves; all neighbours of a curve: the program's twoNeighbours. Conditions: those of each theorem. Printed by gen_icw.py. -/
import Derived.Test.YtnhgdmhiblpknaaIcC
import Derived.Test.YtnhgdmhiblpknaaIcV
namespace Go.Proofs.Ytnhgdmhiblpknaa
open Go Go.RowKit

set_option maxHeartbeats 800000 in
theorem compact_one (v : Value) (n c : Nat) (A : Option Addr) (w : World) (hv : v = .slice A n c) (hn : n < 2) : Calls Try.prog 72 #[v] w fun e w' => e = .returned v ∧ w' = w := by
  subst hv
  have hd : decide ((n : Int) < 2) = true := decide_eq_true (by omega)
  go_enter Try.func72, Try.ntmps72
  go_wp2
  go_ret
  exact ⟨rfl, rfl⟩
theorem compactCu_any (B : Nat) (v : Value) (xs : List Cu) (w : World) (ho : w.ownsRow B 37 2 v xs.length (cuS.flat xs)) (h3 : xs.length ≤ 3) :
    Calls Try.prog 72 #[v] w fun e w' => (∃ v' : Value, e = .returned v' ∧ w'.ownsRow B 37 2 v' (cptC xs).length (cuS.flat (cptC xs))) ∧ Below B w w' := by
  obtain ⟨A, c, rfl⟩ := own_formI ho
  match xs, h3, ho with
  | [], _, ho => exact (compact_one _ 0 c A w rfl (by omega)).mono (fun e w' ⟨he, hw⟩ => by subst hw; exact ⟨⟨_, he, ho⟩, Below.refl _ _⟩)
  | [x], _, ho => exact (compact_one _ 1 c A w rfl (by omega)).mono (fun e w' ⟨he, hw⟩ => by subst hw; exact ⟨⟨_, he, ho⟩, Below.refl _ _⟩)
  | [x, y], _, ho =>
    rcases ho.2 with ⟨_, h0⟩ | ⟨g, cap, cur, hv, h1, h2, h3, h4, h5, h6⟩
    · simp at h0
    · cases hv
      exact compact2 B g _ x y w ho h3 h4
  | [x, y, z], _, ho =>
    rcases ho.2 with ⟨_, h0⟩ | ⟨g, cap, cur, hv, h1, h2, h3, h4, h5, h6⟩
    · simp at h0
    · cases hv
      exact compact3 B g _ x y z w ho h3 h4
set_option maxHeartbeats 3200000 in
theorem indexCu_any (v : Value) (L : List Cu) (c : Cu) (w : World) (h : Rd cuS w w.heap.size v L) :
    Calls Try.prog 50 #[v, .agg #[.int .i64 c.a, .int .i64 c.b]] w fun r w' => r = .returned (.int .i64 (atC L c)) ∧ Below w.heap.size w w' := by
  obtain ⟨A, cap, rfl, hcc, hm, hA⟩ := h
  unfold maxLen at hm
  have HbA := Lib.hid (show Below w.heap.size w (w.alloc (Obj.cells #[.int .i64 c.a, .int .i64 c.b] 37)) from bal (Below.refl _ _) _)
  have HB := Lib.hid (Blk.new w 37 #[.int .i64 c.a, .int .i64 c.b])
  have hql := eqlCuI
  go_enter Try.func50, Try.ntmps50
  go_wp2
  go_loopw [8] (fun i wr => ∃ k : Nat, k ≤ L.length ∧ i = .int .i64 k ∧ Hid (∀ j, j < k → cuS.get L j ≠ c) ∧ Hid (Below w.heap.size w wr) ∧ Hid (Blk wr w.heap.size 37 #[.int .i64 c.a, .int .i64 c.b])) (fun i _ => L.length - (intOf i).toNat)
  case atStart => exact ⟨0, Nat.zero_le _, rfl, Lib.hid (fun j hj => absurd hj (Nat.not_lt_zero _)), HbA, HB⟩
  case round =>
    obtain ⟨k, hk, rfl, Hno, Hb, HBr⟩ := hrel
    have q0 : wr.cell? ⟨w.heap.size, 0, none⟩ = some (.int .i64 c.a) := HBr.out.cell 0
    have q1 : wr.cell? ⟨w.heap.size, 1, none⟩ = some (.int .i64 c.b) := HBr.out.cell 1
    have ql := HBr.out.lt
    by_cases hlt : k < L.length
    · obtain ⟨g, off, rfl, hg, hcell⟩ := hA (by omega)
      obtain ⟨f0, f1⟩ := cu_cells hcell k hlt
      clear hcell hA
      rw [← Hb.out.cell (p := ⟨_, _, _⟩) hg] at f0 f1
      have hgr : g < wr.heap.size := Nat.lt_of_lt_of_le hg Hb.out.size
      have hi0 : (0 : Int) ≤ (k : Int) := by omega
      have hi1 : (k : Int) < (L.length : Int) := by omega
      have hyes := Lib.hid (fun he => atC_yes (c := c) hlt he Hno.out)
      have hstep := Lib.hid (fun hne => all_lt_succ (p := fun j => cuS.get L j ≠ c) Hno.out hne)
      generalize cuS.get L k = x at f0 f1 hyes hstep
      have hcu := cu_eq (x := c) (y := x)
      by_cases he : x = c
      · have hd : (c.a == x.a && c.b == x.b) = true := by rw [hcu]; exact decide_eq_true he.symm
        have Hfin := Lib.hid (hyes.out he)
        clear hcu he hyes hstep
        go_wp2
        refine wp_region_tame (by kernel_rfl) (by kernel_rfl) (fun T _ W hT => ?_)
        have hxx := hT.cell
        repeat (go_big_quiet_step (fail))
        refine wpQuiet_nil ?_
        intro t
        clear hxx
        go_wp2
        go_ret
        exact ⟨by rw [Hfin.out]; rfl, bthen Hb.out (hT.below t)⟩
      · have hd : (c.a == x.a && c.b == x.b) = false := by rw [hcu]; exact decide_eq_false (fun h => he h.symm)
        have Hst := Lib.hid (hstep.out he)
        clear hcu he hyes hstep
        go_wp2
        refine wp_region_tame (by kernel_rfl) (by kernel_rfl) (fun T _ W hT => ?_)
        have hxx := hT.cell
        repeat (go_big_quiet_step (fail))
        refine wpQuiet_nil ?_
        intro t
        clear hxx
        go_wp2
        go_roundw
        case rel => exact ⟨k + 1, by omega, by go_num, Hst, Lib.hid (bthen Hb.out (hT.below t)), Lib.hid (HBr.out.on (hT.below t))⟩
        case measure => simp [intOf]; omega
    · have Hfin := Lib.hid (atC_no (L := L) (c := c) (fun j hj => Hno.out j (by omega)))
      go_wp2
      go_ret
      exact ⟨by rw [Hfin.out]; rfl, Hb.out⟩
set_option maxHeartbeats 800000 in
theorem containsCu_any (v : Value) (L : List Cu) (c : Cu) (w : World) (h : Rd cuS w w.heap.size v L) :
    Calls Try.prog 40 #[v, .agg #[.int .i64 c.a, .int .i64 c.b]] w fun r w' => r = .returned (.bool (decide (c ∈ L))) ∧ Below w.heap.size w w' := by
  have HbA := Lib.hid (show Below w.heap.size w (w.alloc (Obj.cells #[.int .i64 c.a, .int .i64 c.b] 37)) from bal (Below.refl _ _) _)
  have Hr := Lib.hid (h.on HbA.out); clear h
  go_enter Try.func40, Try.ntmps40
  go_wp2_with fail
  refine (indexCu_any v L c _ Hr.out).mono ?_
  rintro e w1 ⟨rfl, hb1⟩
  have Hp := Lib.hid (atC_pos (L := L) (c := c))
  go_wp2
  go_ret
  exact ⟨by rw [← Hp.out]; rfl, bthen HbA.out hb1⟩
theorem flat_one (d : Cu) : cuS.flat [d] = [.int .i64 d.a, .int .i64 d.b] := rfl
set_option maxRecDepth 8000 in
set_option maxHeartbeats 8000000 in
theorem twoNb_any (a b : Int) (w : World) (hc : curveB a b = true) :
    Calls Try.prog 39 #[.agg #[.int .i64 a, .int .i64 b]] w fun r w' => (∃ v : Value, r = .returned (.tuple #[v, .bool (allV a b).2]) ∧ w'.ownsRow w.heap.size 37 2 v (allV a b).1.length (cuS.flat (allV a b).1)) ∧ Below w.heap.size w w' := by
  obtain ⟨i0, hi, hz0, hz1, hz2⟩ := info_parts infoCuI
  have Hc := Lib.hid hc; clear hc
  have HbA := Lib.hid (show Below w.heap.size w (w.alloc (Obj.cells #[.int .i64 a, .int .i64 b] 37)) from bal (Below.refl _ _) _)
  have HB := Lib.hid (Blk.new w 37 #[.int .i64 a, .int .i64 b])
  go_enter Try.func39, Try.ntmps39
  go_wp2_with fail
  refine (orderTwo_any a b _ Hc.out).mono ?_
  rintro e W ⟨⟨v, rfl, hrow⟩, hb1⟩
  have HbW := Lib.hid (bthen HbA.out hb1)
  have HBW := Lib.hid (HB.out.on hb1)
  clear hb1
  have Hyes := Lib.hid (fun l h => allV_yes (a := a) (b := b) (l := l) h)
  have Hno := Lib.hid (fun h => allV_no (a := a) (b := b) h)
  have Hbd := Lib.hid (fun e (he : e ∈ rootsV a b) => root_bd he)
  have Hev := Lib.hid (fun e (he : e ∈ rootsV a b) => root_ev he)
  have hrl := roots_three a b
  generalize rootsV a b = rs at hrow Hyes Hno Hbd Hev hrl
  obtain ⟨A, c, rfl⟩ := own_formI hrow
  have Hrow := Lib.hid hrow; clear hrow
  go_wp2
  go_loopw [18, 6] (fun i o wr => ∃ (k : Nat) (l : List Cu), k ≤ rs.length ∧ i = .int .i64 k ∧ Hid (nbsF a b (rs.take k) = some l) ∧ Hid (wr.ownsRow W.heap.size 37 2 o l.length (cuS.flat l)) ∧ Hid (Below W.heap.size W wr)) (fun i _ _ => rs.length - (intOf i).toNat)
  case atStart => exact ⟨0, [], Nat.zero_le _, rfl, Lib.hid rfl, Lib.hid ⟨rfl, Or.inl ⟨rfl, rfl⟩⟩, Lib.hid (Below.refl _ _)⟩
  case round =>
    obtain ⟨k, l, hk, rfl, Hl, Hown, Hb⟩ := hrel
    have HBr := Lib.hid (HBW.out.on Hb.out)
    have q0 : wr.cell? ⟨w.heap.size, 0, none⟩ = some (.int .i64 a) := HBr.out.cell 0
    have q1 : wr.cell? ⟨w.heap.size, 1, none⟩ = some (.int .i64 b) := HBr.out.cell 1
    have ql := HBr.out.lt
    have hll : l.length = k := by
      have h2 := nbsF_len Hl.out
      rw [List.length_take] at h2
      omega
    have Hll := Lib.hid hll; clear hll
    by_cases hlt : k < rs.length
    · obtain ⟨g, rfl, hg, f0⟩ := own_intI Hrow.out rfl k hlt
      rw [← Hb.out.cell (p := ⟨_, _, _⟩) hg] at f0
      have hgr : g < wr.heap.size := Nat.lt_of_lt_of_le hg Hb.out.size
      have hi0 : (0 : Int) ≤ (k : Int) := by omega
      have hi1 : (k : Int) < (rs.length : Int) := by omega
      have Htk := Lib.hid (nbsF_take (a := a) (b := b) hlt)
      have Hbad := Lib.hid (nbsF_no (a := a) (b := b) hlt)
      have Hb1 := Lib.hid (Hbd.out _ (List.getElem_mem hlt))
      have He1 := Lib.hid (Hev.out _ (List.getElem_mem hlt))
      generalize rs[k] = e at f0 Htk Hbad Hb1 He1
      go_wp2_with fail
      refine (nbI_any a b e _ Hc.out He1.out Hb1.out).mono ?_
      rintro r w3 ⟨hr, hb3⟩
      have Hb3 := Lib.hid (bthen Hb.out hb3)
      have Hown3 := Lib.hid (own_below Hown.out hb3)
      have HB3 := Lib.hid (HBr.out.on hb3)
      clear hb3 q0 q1 ql f0 hgr
      cases hn : nbV a b e with
      | none =>
        rw [hn] at hr
        have hr2 : r = .returned (.tuple #[.agg #[.int .i64 0, .int .i64 0], .bool false]) := hr
        subst hr2
        have Hfin := Lib.hid (Hno.out (Hbad.out hn))
        clear hr hn
        go_wp2
        go_ret2
        exact ⟨⟨_, by rw [Hfin.out]; rfl, by rw [Hfin.out]; exact ⟨rfl, Or.inl ⟨rfl, rfl⟩⟩⟩, bthen HbW.out (bal Hb3.out _)⟩
      | some d =>
        rw [hn] at hr
        have hr2 : r = .returned (.tuple #[.agg #[.int .i64 d.a, .int .i64 d.b], .bool true]) := hr
        subst hr2
        have Hn := Lib.hid (show nbsF a b (rs.take (k + 1)) = some (l ++ [d]) by rw [Htk.out, Hl.out, hn])
        clear hr hn
        have Hb4 := Lib.hid (bal (bal Hb3.out (Obj.cells #[.int .i64 d.a, .int .i64 d.b] 37)) (Obj.cells #[.int .i64 d.a, .int .i64 d.b] 37))
        have hl3 : l.length ≤ 3 := by have := Hll.out; omega
        go_wp2_with (at_builtin; refine wpList_append_own _ rfl _ _ 27 rfl W.heap.size 37 i0 (.agg #[.int .i64 0, .int .i64 0]) 2 16 Try.underlying27 hi hz0 hz1 hz2 rfl (by decide) _ _ _ rfl ((Hown3.out.alloc _).alloc _) ⟨w3.heap.size + 1, 0, none⟩ 1 1 (cuS.flat [d]) rfl rfl ?c1 (cui_one _) ?c3 ?c4 ?c5 ?_)
        case c1 => exact oneCuI_cells (Blk.new1 _ _ _ _)
        case c3 => unfold maxLen; omega
        case c4 => omega
        case c5 => have := Hb3.out.size; simp; omega
        intro v6 w6 hown6 hgrow _
        have Hb6 := Lib.hid (Below.grown Hb4.out hgrow (by have := Hb3.out.size; simp; omega) (fun j hj => (Hown3.out.lt j hj).1))
        have Hown6 := Lib.hid (show w6.ownsRow W.heap.size 37 2 v6 (l ++ [d]).length (cuS.flat (l ++ [d])) by rw [List.length_append, Shape.flat_append]; exact hown6)
        clear hown6 hgrow
        go_wp2
        go_roundw
        case rel => exact ⟨k + 1, l ++ [d], by omega, by go_num, Hn, Hown6, Hb6⟩
        case measure => simp [intOf]; omega
    · obtain rfl : k = rs.length := by omega
      have Hfin := Lib.hid (Hyes.out l (by have := Hl.out; rwa [List.take_length] at this))
      have hl3 : l.length ≤ 3 := by have := Hll.out; omega
      clear q0 q1 ql
      obtain ⟨A9, c9, hv9⟩ := own_formI Hown.out
      subst hv9
      go_wp2_with fail
      refine (sortCu_any W.heap.size _ l _ Hown.out (by omega)).mono ?_
      rintro e w5 ⟨rfl, d, hperm, hsrt, hown5, hb5⟩
      have hd3 : d.length ≤ 3 := by rw [hperm.length_eq]; exact hl3
      have Hset := Lib.hid (show cptC d = setC l from cpt_set hperm (List.pairwise_iff_getElem.2 (fun i j hi hj hij h => hsrt i j hij hj (by rw [getCu hi, getCu hj]; exact h))))
      have Hb5 := Lib.hid (Hb.out.trans hb5)
      have Hown5 := Lib.hid hown5; clear hown5 hb5 hsrt hperm hl3
      go_wp2_with fail
      refine (compactCu_any W.heap.size _ d _ Hown5.out hd3).mono ?_
      rintro e w6 ⟨⟨v6, rfl, hown6⟩, hb6⟩
      have Hb6 := Lib.hid (Hb5.out.trans hb6)
      rw [Hset.out] at hown6
      have Hown6 := Lib.hid hown6; clear hown6 hb6
      go_wp2
      go_ret2
      exact ⟨⟨_, by rw [Hfin.out]; rfl, by rw [Hfin.out]; exact own_mono Hown6.out HbW.out.size⟩, bthen HbW.out Hb6.out⟩
end Go.Proofs.Ytnhgdmhiblpknaa
