/- slices.Compact at a row of at most three curves; slices.Index and Contains at curves. Conditions: the length. Printed by gen_icc.py. -/
import Derived.Test.YtnhgdmhiblpknaaIcS
namespace Go.Proofs.Ytnhgdmhiblpknaa
open Go Go.RowKit

theorem roots_lt (a b lo : Int) (n : Nat) : (rootsF a b lo n).Pairwise (· < ·) := by
  unfold rootsF
  refine List.Pairwise.filter _ ?_
  rw [List.pairwise_map]
  exact List.pairwise_lt_range.imp (fun h => by omega)
theorem roots_pair {a b x y : Int} (hx : evZ a b x = 0) (hy : evZ a b y = 0) (h : x ≠ y) : x * x + x * y + y * y + a = 0 := by
  unfold evZ at hx hy
  have h1 : (x - y) * (x * x + x * y + y * y + a) = 0 := by grind
  exact (Int.mul_eq_zero.1 h1).resolve_left (by omega)
theorem roots_sum {a b x y z : Int} (hx : evZ a b x = 0) (hy : evZ a b y = 0) (hz : evZ a b z = 0) (h1 : x ≠ y) (h2 : x ≠ z) (h3 : y ≠ z) : x + y + z = 0 := by
  have e1 := roots_pair hx hy h1
  have e2 := roots_pair hx hz h2
  have h : (y - z) * (x + y + z) = 0 := by grind
  exact (Int.mul_eq_zero.1 h).resolve_left (by omega)
/-- A cubic has at most three roots. -/
theorem roots_three (a b : Int) : (rootsV a b).length ≤ 3 := by
  rcases Nat.lt_or_ge 3 (rootsV a b).length with h | h
  · exfalso
    have hp := List.pairwise_iff_getElem.1 (roots_lt a b (-100) 201)
    have hv : ∀ k (hk : k < (rootsV a b).length), evZ a b (rootsV a b)[k] = 0 := fun k hk => root_ev (List.getElem_mem hk)
    have p01 := hp 0 1 (by show 0 < (rootsV a b).length; omega) (by show 1 < (rootsV a b).length; omega) (by omega)
    have p12 := hp 1 2 (by show 1 < (rootsV a b).length; omega) (by show 2 < (rootsV a b).length; omega) (by omega)
    have p23 := hp 2 3 (by show 2 < (rootsV a b).length; omega) (by show 3 < (rootsV a b).length; omega) (by omega)
    change (rootsV a b)[0] < (rootsV a b)[1] at p01
    change (rootsV a b)[1] < (rootsV a b)[2] at p12
    change (rootsV a b)[2] < (rootsV a b)[3] at p23
    have s1 := roots_sum (hv 0 (by omega)) (hv 1 (by omega)) (hv 2 (by omega)) (by omega) (by omega) (by omega)
    have s2 := roots_sum (hv 0 (by omega)) (hv 1 (by omega)) (hv 3 (by omega)) (by omega) (by omega) (by omega)
    omega
  · exact h
theorem zero_cuI (w : World) : (zeroValue 37).run Try.prog w = .ok (.agg #[.int .i64 0, .int .i64 0]) w := by
  obtain ⟨i0, hi, hz0, hz1, hz2⟩ := info_parts infoCuI
  simp [zeroValue, typeInfo, hi, hz0]
theorem cu_clear (w : World) {B g n cap : Nat} {xs : List Value} (i p m : Nat) (hp : p = i * 2) (hm : m = n - i) (h : w.ownsRow B 37 2 (.slice (some ⟨g, 0, none⟩) n cap) n xs) (hi : i ≤ n) :
    ∃ l, (∀ ty c, (Builtin.clear_ #[27] ty #[.slice (some ⟨g, p, none⟩) m c]).run Try.prog w = .ok (.tuple #[]) (w.setCells g p l)) ∧
      (w.setCells g p l).ownsRow B 37 2 (.slice (some ⟨g, 0, none⟩) i cap) i (xs.take p) ∧ Below B w (w.setCells g p l) := by
  subst hp; subst hm
  refine ⟨_, fun ty c => run_clear_row (P := Try.prog) (z := .agg #[.int .i64 0, .int .i64 0]) Try.underlying27 zero_cuI
    (zeroCells_one (by
      intro j hj
      match j, hj with
      | 0, _ => rfl
      | 1, _ => rfl) (by decide) _)
    (by intro m; simp [Builtin.zeroCells, Value.cells]) h hi ty c, ?_, ?_⟩
  · have hlay := own_lay (Builtin.zeroCells (Value.agg #[.int .i64 0, .int .i64 0]).cells (n - i)).toList w _ (i * 2) h
    have hcut := own_cut hlay.1 hi
    rw [lay_take _ _ _ _ (Nat.le_refl _)] at hcut
    exact hcut
  · have hlay := own_lay (Builtin.zeroCells (Value.agg #[.int .i64 0, .int .i64 0]).cells (n - i)).toList w _ (i * 2) h
    exact ⟨hlay.2.os, hlay.2.tape, hlay.2.output, hlay.2.size, fun k hk => hlay.2.block k (Nat.lt_of_lt_of_le hk (Nat.le_trans (own_base h).1 (Nat.le_of_lt (own_base h).2))) (fun e => by cases e; exact absurd (own_base h).1 (by omega))⟩
/-- Two stores into an own row. -/
theorem own_two {w : World} {B g n cap o : Nat} {xs : List Value} {u v : Value} (h : w.ownsRow B 37 2 (.slice (some ⟨g, 0, none⟩) n cap) n xs) :
    ((w.setCell ⟨g, o, none⟩ u).setCell ⟨g, o + 1, none⟩ v).ownsRow B 37 2 (.slice (some ⟨g, 0, none⟩) n cap) n ((xs.set o u).set (o + 1) v) ∧ Below B w ((w.setCell ⟨g, o, none⟩ u).setCell ⟨g, o + 1, none⟩ v) := by
  have h1 := h.stored o u
  have h2 := h1.1.stored (o + 1) v
  have hg := gthen2 h1.2 h2.2
  exact ⟨h2.1, hg.os, hg.tape, hg.output, hg.size, fun k hk => hg.block k (Nat.lt_of_lt_of_le hk (Nat.le_trans (own_base h).1 (Nat.le_of_lt (own_base h).2))) (fun e => by cases e; exact absurd (own_base h).1 (by omega))⟩
theorem Below.thenB {B : Nat} {w w1 w2 : World} (h : Below B w w1) (hB : B ≤ w.heap.size) (k : Below w1.heap.size w1 w2) : Below B w w2 := h.trans (k.mono (Nat.le_trans hB h.size))
theorem neqCuI (x y a b : Int) (W : World) : (binOp .neq 37 (.agg #[.int .i64 x, .int .i64 y]) (.agg #[.int .i64 a, .int .i64 b])).run Try.prog W = .ok (.bool (!(x == a && y == b))) W := by
  by_cases h1 : x = a <;> by_cases h2 : y = b <;> simp [go_sem, h1, h2]
set_option maxRecDepth 8000 in
set_option maxHeartbeats 8000000 in
theorem compact2 (B g c : Nat) (x y : Cu) (w : World) (ho : w.ownsRow B 37 2 (.slice (some ⟨g, 0, none⟩) 2 c) 2 (cuS.flat [x, y])) (hcc : 2 ≤ c) (hcm : c ≤ maxLen) :
    Calls Try.prog 72 #[.slice (some ⟨g, 0, none⟩) 2 c] w fun e w' => (∃ v' : Value, e = .returned v' ∧ w'.ownsRow B 37 2 v' (cptC [x, y]).length (cuS.flat (cptC [x, y]))) ∧ Below B w w' := by
  have hql := eqlCuI
  have hqn := neqCuI
  unfold maxLen at hcm
  have hcap : 2 ≤ c := hcc
  have HcB := Lib.hid (own_base ho)
  have Ho := Lib.hid ho; clear ho
  go_enter Try.func72, Try.ntmps72
  go_wp2
  go_loopw [3] (fun i wr => ∃ k : Nat, (k = 1 ∨ k = 2 ∧ y ≠ x) ∧ i = .int .i64 k ∧ Hid (wr.ownsRow B 37 2 (.slice (some ⟨g, 0, none⟩) 2 c) 2 (cuS.flat [x, y])) ∧ Hid (Below B w wr)) (fun i _ => 4 - (intOf i).toNat)
  case atStart => exact ⟨1, .inl rfl, rfl, Ho, Lib.hid (Below.refl _ _)⟩
  case round =>
    obtain ⟨k, hk, rfl, Hown, Hb⟩ := hrel
    rcases hk with rfl | ⟨rfl, n1⟩
    · have f0 := Hown.out.cellAt 0 (by omega)
      have f1 := Hown.out.cellAt 1 (by omega)
      have f2 := Hown.out.cellAt 2 (by omega)
      have f3 := Hown.out.cellAt 3 (by omega)
      simp [Shape.flat, Shape.cells, cuS, List.range_succ] at f0 f1 f2 f3
      have hgr := (own_base Hown.out).2
      by_cases he : y = x
      · have hd : (y.a == x.a && y.b == x.b) = true := by rw [cu_eq]; exact decide_eq_true he
        have Hey := Lib.hid he; clear he
        go_wp2
        refine wp_region_tame (by kernel_rfl) (by kernel_rfl) (fun T _ W hT => ?_)
        have hxx := hT.cell
        repeat (go_big_quiet_step (fail))
        refine wpQuiet_nil ?_
        intro t
        clear hxx
        have Hown2 := Lib.hid (own_below Hown.out (hT.below t))
        have Hb2 := Lib.hid (Below.thenB Hb.out (Nat.le_trans HcB.out.1 (Nat.le_of_lt HcB.out.2)) (hT.below t))
        clear f0 f1 f2 f3 hgr hd
        generalize W t = wt at Hown2 Hb2 ⊢
        clear hT
        obtain ⟨lc, hcl, hcown, hcb⟩ := cu_clear wt 1 2 1 rfl rfl Hown2.out (by omega)
        have Hfin := Lib.hid (show cptC [x, y] = [x] by have he := Hey.out; subst he; simp [cptC])
        have Hco := Lib.hid (show (wt.setCells g 2 lc).ownsRow B 37 2 (.slice (some ⟨g, 0, none⟩) 1 c) 1 (cuS.flat [x]) from hcown)
        have Hcb := Lib.hid (Hb2.out.trans hcb)
        clear hcown hcb
        go_wp2
        refine wp_loop_rounds 1 ?_
        rw [rounds_succ]
        go_wp2
        go_ret
        exact ⟨⟨_, rfl, by rw [Hfin.out]; exact Hco.out⟩, Hcb.out⟩
      · have hd : (y.a == x.a && y.b == x.b) = false := by rw [cu_eq]; exact decide_eq_false he
        have Hne := Lib.hid he; clear he
        go_wp2
        refine wp_region_tame (by kernel_rfl) (by kernel_rfl) (fun T _ W hT => ?_)
        have hxx := hT.cell
        repeat (go_big_quiet_step (fail))
        refine wpQuiet_nil ?_
        intro t
        clear hxx
        go_wp2
        go_roundw
        case rel => exact ⟨2, .inr (⟨rfl, Hne.out⟩), by go_num, Lib.hid (own_below Hown.out (hT.below t)), Lib.hid (Below.thenB Hb.out (Nat.le_trans HcB.out.1 (Nat.le_of_lt HcB.out.2)) (hT.below t))⟩
        case measure => simp [intOf]
    · have Hfin := Lib.hid (show cptC [x, y] = [x, y] by simp [cptC, Ne.symm n1])
      go_wp2
      go_ret
      exact ⟨⟨_, rfl, by rw [Hfin.out]; exact Hown.out⟩, Hb.out⟩
set_option maxRecDepth 8000 in
set_option maxHeartbeats 8000000 in
theorem compact3 (B g c : Nat) (x y z : Cu) (w : World) (ho : w.ownsRow B 37 2 (.slice (some ⟨g, 0, none⟩) 3 c) 3 (cuS.flat [x, y, z])) (hcc : 3 ≤ c) (hcm : c ≤ maxLen) :
    Calls Try.prog 72 #[.slice (some ⟨g, 0, none⟩) 3 c] w fun e w' => (∃ v' : Value, e = .returned v' ∧ w'.ownsRow B 37 2 v' (cptC [x, y, z]).length (cuS.flat (cptC [x, y, z]))) ∧ Below B w w' := by
  have hql := eqlCuI
  have hqn := neqCuI
  unfold maxLen at hcm
  have hcap : 3 ≤ c := hcc
  have HcB := Lib.hid (own_base ho)
  have Ho := Lib.hid ho; clear ho
  go_enter Try.func72, Try.ntmps72
  go_wp2
  go_loopw [3] (fun i wr => ∃ k : Nat, (k = 1 ∨ k = 2 ∧ y ≠ x ∨ k = 3 ∧ y ≠ x ∧ z ≠ y) ∧ i = .int .i64 k ∧ Hid (wr.ownsRow B 37 2 (.slice (some ⟨g, 0, none⟩) 3 c) 3 (cuS.flat [x, y, z])) ∧ Hid (Below B w wr)) (fun i _ => 4 - (intOf i).toNat)
  case atStart => exact ⟨1, .inl rfl, rfl, Ho, Lib.hid (Below.refl _ _)⟩
  case round =>
    obtain ⟨k, hk, rfl, Hown, Hb⟩ := hrel
    rcases hk with rfl | ⟨rfl, n1⟩ | ⟨rfl, n1, n2⟩
    · have f0 := Hown.out.cellAt 0 (by omega)
      have f1 := Hown.out.cellAt 1 (by omega)
      have f2 := Hown.out.cellAt 2 (by omega)
      have f3 := Hown.out.cellAt 3 (by omega)
      have f4 := Hown.out.cellAt 4 (by omega)
      have f5 := Hown.out.cellAt 5 (by omega)
      simp [Shape.flat, Shape.cells, cuS, List.range_succ] at f0 f1 f2 f3 f4 f5
      have hgr := (own_base Hown.out).2
      by_cases he : y = x
      · have hd : (y.a == x.a && y.b == x.b) = true := by rw [cu_eq]; exact decide_eq_true he
        have Hey := Lib.hid he; clear he
        go_wp2
        refine wp_region_tame (by kernel_rfl) (by kernel_rfl) (fun T _ W hT => ?_)
        have hxx := hT.cell
        repeat (go_big_quiet_step (fail))
        refine wpQuiet_nil ?_
        intro t
        clear hxx
        have Hown2 := Lib.hid (own_below Hown.out (hT.below t))
        have Hb2 := Lib.hid (Below.thenB Hb.out (Nat.le_trans HcB.out.1 (Nat.le_of_lt HcB.out.2)) (hT.below t))
        clear f0 f1 f2 f3 f4 f5 hgr hd
        generalize W t = wt at Hown2 Hb2 ⊢
        clear hT
        have hoff : ∃ j : Nat, j = 1 := ⟨1, rfl⟩
        go_wp2
        go_loopw [5, 3] (fun i2 i wi => ∃ k2 k : Nat, i2 = .int .i64 k2 ∧ i = .int .i64 k ∧ ((k2 = 1 ∧ k = 1 ∧ Hid (wi.ownsRow B 37 2 (.slice (some ⟨g, 0, none⟩) 3 c) 3 (cuS.flat [x, y, z]))) ∨ (k2 = 2 ∧ k = 1 ∧ Hid (z = y) ∧ Hid (wi.ownsRow B 37 2 (.slice (some ⟨g, 0, none⟩) 3 c) 3 (cuS.flat [x, y, z]))) ∨ (k2 = 2 ∧ k = 2 ∧ Hid (z ≠ y) ∧ Hid (wi.ownsRow B 37 2 (.slice (some ⟨g, 0, none⟩) 3 c) 3 (cuS.flat [x, z, z])))) ∧ Hid (Below B w wi)) (fun i2 _ _ => 4 - (intOf i2).toNat)
        case atStart => exact ⟨1, 1, rfl, rfl, .inl ⟨rfl, rfl, Hown2⟩, Hb2⟩
        case round =>
          obtain ⟨k2, k, rfl, rfl, hk2, Hbi⟩ := hrel
          rcases hk2 with ⟨rfl, rfl, Hoi⟩ | ⟨rfl, rfl, Hzy, Hoi⟩ | ⟨rfl, rfl, Hzy, Hoi⟩
          · have f0 := Hoi.out.cellAt 0 (by omega)
            have f1 := Hoi.out.cellAt 1 (by omega)
            have f2 := Hoi.out.cellAt 2 (by omega)
            have f3 := Hoi.out.cellAt 3 (by omega)
            have f4 := Hoi.out.cellAt 4 (by omega)
            have f5 := Hoi.out.cellAt 5 (by omega)
            simp [Shape.flat, Shape.cells, cuS, List.range_succ] at f0 f1 f2 f3 f4 f5
            have hgr := (own_base Hoi.out).2
            have z0 := Hoi.out.frozenAt 2
            have z1 := Hoi.out.frozenAt 3
            by_cases hz : z = y
            · have hd : (z.a == y.a && z.b == y.b) = true := by rw [cu_eq]; exact decide_eq_true hz
              have Hz := Lib.hid hz; clear hz
              go_wp2
              refine wp_region_tame (by kernel_rfl) (by kernel_rfl) (fun T _ W hT => ?_)
              have hxx := hT.cell
              repeat (go_big_quiet_step (fail))
              refine wpQuiet_nil ?_
              intro t
              clear hxx
              go_wp2
              go_roundw
              case rel => exact ⟨2, 1, by go_num, by go_num, .inr (.inl ⟨rfl, rfl, Hz, Lib.hid (own_below Hoi.out (hT.below t))⟩), Lib.hid (Below.thenB Hbi.out (Nat.le_trans HcB.out.1 (Nat.le_of_lt HcB.out.2)) (hT.below t))⟩
              case measure => simp [intOf]
            · have hd : (z.a == y.a && z.b == y.b) = false := by rw [cu_eq]; exact decide_eq_false hz
              have Hz := Lib.hid hz; clear hz
              go_wp2
              refine wp_region_tame (by kernel_rfl) (by kernel_rfl) (fun T _ W hT => ?_)
              have hxx := hT.cell
              repeat (go_big_quiet_step (fail))
              refine wpQuiet_nil ?_
              intro t
              clear hxx
              have Hoi2 := Lib.hid (own_below Hoi.out (hT.below t))
              have Hbi2 := Lib.hid (Below.thenB Hbi.out (Nat.le_trans HcB.out.1 (Nat.le_of_lt HcB.out.2)) (hT.below t))
              clear f0 f1 f2 f3 f4 f5 hgr z0 z1
              generalize W t = wu at Hoi2 Hbi2 ⊢
              clear hT
              have f0 := Hoi2.out.cellAt 0 (by omega)
              have f1 := Hoi2.out.cellAt 1 (by omega)
              have f2 := Hoi2.out.cellAt 2 (by omega)
              have f3 := Hoi2.out.cellAt 3 (by omega)
              have f4 := Hoi2.out.cellAt 4 (by omega)
              have f5 := Hoi2.out.cellAt 5 (by omega)
              simp [Shape.flat, Shape.cells, cuS, List.range_succ] at f0 f1 f2 f3 f4 f5
              have hgr := (own_base Hoi2.out).2
              have z0 := Hoi2.out.frozenAt 2
              have z1 := Hoi2.out.frozenAt 3
              have H2 := Lib.hid (own_two (o := 2) (u := .int .i64 z.a) (v := .int .i64 z.b) Hoi2.out)
              go_wp2
              go_roundw
              case rel => exact ⟨2, 2, by go_num, by go_num, .inr (.inr ⟨rfl, rfl, Hz, Lib.hid H2.out.1⟩), Lib.hid (Hbi2.out.trans H2.out.2)⟩
              case measure => simp [intOf]
          · obtain ⟨lc, hcl, hcown, hcb⟩ := cu_clear wr 1 2 2 rfl rfl Hoi.out (by omega)
            have Hfin := Lib.hid (show cptC [x, y, z] = [x] by have he := Hey.out; have hzy := Hzy.out; subst he; subst hzy; simp [cptC])
            have Hco := Lib.hid (show (wr.setCells g 2 lc).ownsRow B 37 2 (.slice (some ⟨g, 0, none⟩) 1 c) 1 (cuS.flat [x]) from hcown)
            have Hcb := Lib.hid (Hbi.out.trans hcb)
            clear hcown hcb
            go_wp2
            go_ret
            exact ⟨⟨_, rfl, by rw [Hfin.out]; exact Hco.out⟩, Hcb.out⟩
          · obtain ⟨lc, hcl, hcown, hcb⟩ := cu_clear wr 2 4 1 rfl rfl Hoi.out (by omega)
            have Hfin := Lib.hid (show cptC [x, y, z] = [x, z] by have he := Hey.out; have hzy := Hzy.out; subst he; simp [cptC, Ne.symm hzy])
            have Hco := Lib.hid (show (wr.setCells g 4 lc).ownsRow B 37 2 (.slice (some ⟨g, 0, none⟩) 2 c) 2 (cuS.flat [x, z]) from hcown)
            have Hcb := Lib.hid (Hbi.out.trans hcb)
            clear hcown hcb
            go_wp2
            go_ret
            exact ⟨⟨_, rfl, by rw [Hfin.out]; exact Hco.out⟩, Hcb.out⟩
      · have hd : (y.a == x.a && y.b == x.b) = false := by rw [cu_eq]; exact decide_eq_false he
        have Hne := Lib.hid he; clear he
        go_wp2
        refine wp_region_tame (by kernel_rfl) (by kernel_rfl) (fun T _ W hT => ?_)
        have hxx := hT.cell
        repeat (go_big_quiet_step (fail))
        refine wpQuiet_nil ?_
        intro t
        clear hxx
        go_wp2
        go_roundw
        case rel => exact ⟨2, .inr (.inl ⟨rfl, Hne.out⟩), by go_num, Lib.hid (own_below Hown.out (hT.below t)), Lib.hid (Below.thenB Hb.out (Nat.le_trans HcB.out.1 (Nat.le_of_lt HcB.out.2)) (hT.below t))⟩
        case measure => simp [intOf]
    · have f0 := Hown.out.cellAt 0 (by omega)
      have f1 := Hown.out.cellAt 1 (by omega)
      have f2 := Hown.out.cellAt 2 (by omega)
      have f3 := Hown.out.cellAt 3 (by omega)
      have f4 := Hown.out.cellAt 4 (by omega)
      have f5 := Hown.out.cellAt 5 (by omega)
      simp [Shape.flat, Shape.cells, cuS, List.range_succ] at f0 f1 f2 f3 f4 f5
      have hgr := (own_base Hown.out).2
      by_cases he : z = y
      · have hd : (z.a == y.a && z.b == y.b) = true := by rw [cu_eq]; exact decide_eq_true he
        have Hey := Lib.hid he; clear he
        go_wp2
        refine wp_region_tame (by kernel_rfl) (by kernel_rfl) (fun T _ W hT => ?_)
        have hxx := hT.cell
        repeat (go_big_quiet_step (fail))
        refine wpQuiet_nil ?_
        intro t
        clear hxx
        have Hown2 := Lib.hid (own_below Hown.out (hT.below t))
        have Hb2 := Lib.hid (Below.thenB Hb.out (Nat.le_trans HcB.out.1 (Nat.le_of_lt HcB.out.2)) (hT.below t))
        clear f0 f1 f2 f3 f4 f5 hgr hd
        generalize W t = wt at Hown2 Hb2 ⊢
        clear hT
        obtain ⟨lc, hcl, hcown, hcb⟩ := cu_clear wt 2 4 1 rfl rfl Hown2.out (by omega)
        have Hfin := Lib.hid (show cptC [x, y, z] = [x, y] by have he := Hey.out; subst he; simp [cptC, Ne.symm n1])
        have Hco := Lib.hid (show (wt.setCells g 4 lc).ownsRow B 37 2 (.slice (some ⟨g, 0, none⟩) 2 c) 2 (cuS.flat [x, y]) from hcown)
        have Hcb := Lib.hid (Hb2.out.trans hcb)
        clear hcown hcb
        go_wp2
        refine wp_loop_rounds 1 ?_
        rw [rounds_succ]
        go_wp2
        go_ret
        exact ⟨⟨_, rfl, by rw [Hfin.out]; exact Hco.out⟩, Hcb.out⟩
      · have hd : (z.a == y.a && z.b == y.b) = false := by rw [cu_eq]; exact decide_eq_false he
        have Hne := Lib.hid he; clear he
        go_wp2
        refine wp_region_tame (by kernel_rfl) (by kernel_rfl) (fun T _ W hT => ?_)
        have hxx := hT.cell
        repeat (go_big_quiet_step (fail))
        refine wpQuiet_nil ?_
        intro t
        clear hxx
        go_wp2
        go_roundw
        case rel => exact ⟨3, .inr (.inr (⟨rfl, n1, Hne.out⟩)), by go_num, Lib.hid (own_below Hown.out (hT.below t)), Lib.hid (Below.thenB Hb.out (Nat.le_trans HcB.out.1 (Nat.le_of_lt HcB.out.2)) (hT.below t))⟩
        case measure => simp [intOf]
    · have Hfin := Lib.hid (show cptC [x, y, z] = [x, y, z] by simp [cptC, Ne.symm n1, Ne.symm n2])
      go_wp2
      go_ret
      exact ⟨⟨_, rfl, by rw [Hfin.out]; exact Hown.out⟩, Hb.out⟩
end Go.Proofs.Ytnhgdmhiblpknaa
