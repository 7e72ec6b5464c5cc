/- Own texts put together: Roots, smallest models, neighbours: the walks of both sides; Neighbours by isogenies: the walks of both sides; Own lemmas that know no program: copies into a row of the call's own; an element put into a list; The order of curves and places in lists of curves: the walks; Own lemmas that know no program: appends inside a region that draws its order. Conditions: those of each theorem. -/
import Derived.Test.YtacehhcpfollnaaGreatIsM1
import Derived.Test.YtacehhcpfollnaaGreatIsM3
import Derived.IntWalk
import Derived.Deep.RegionHeld3
import Derived.RegionTactic
import Derived.BigRegion
import Derived.Maps.AppendAt
import Derived.Shelf.Spec.SlicesInsert
import Derived.Lib.AppendZerosOnto
import Derived.Lib.Overlaps
import Derived.Deep.RegionLaw
import Derived.Deep.QuietTactic
import Derived.BigQuiet
namespace Go.Proofs.YtacehhcpfollnaaGreat
section
open Go Go.RowKit

theorem infoIntC : (Tryz.prog.info? 3).map (fun i => (i.zero, i.size, i.bytes)) = some (some (.int .i64 0), 1, 8) := by kernel_rfl
theorem ev_bds {a x : Int} (h1 : -1000 ≤ a) (h2 : a ≤ 1000) (h5 : -200 ≤ x) (h6 : x ≤ 200) :
    (-40000 ≤ x * x ∧ x * x ≤ 40000) ∧ (-8000000 ≤ x * x * x ∧ x * x * x ≤ 8000000) ∧ (-200000 ≤ a * x ∧ a * x ≤ 200000) := by
  have e1 := mul_bd x x 200 200 h5 h6 h5 h6
  have e2 := mul_bd (x * x) x 40000 200 (by omega) (by omega) h5 h6
  have e3 := mul_bd a x 1000 200 h1 h2 h5 h6
  refine ⟨⟨by omega, by omega⟩, ⟨by omega, by omega⟩, by omega, by omega⟩
set_option maxHeartbeats 400000 in
theorem ecValue_any (a b x : Int) (w : World) (h1 : -1000 ≤ a) (h2 : a ≤ 1000) (h3 : -10000 ≤ b) (h4 : b ≤ 10000) (h5 : -200 ≤ x) (h6 : x ≤ 200) :
    Calls Tryz.prog 156 #[.agg #[.int .i64 a, .int .i64 b], .int .i64 x] w fun e w' => e = .returned (.int .i64 (evZ a b x)) ∧ Below w.heap.size w w' := by
  obtain ⟨⟨k11, k12⟩, ⟨k21, k22⟩, k31, k32⟩ := ev_bds h1 h2 h5 h6
  go_enter Tryz.func156, Tryz.ntmps156
  go_wp2
  go_ret
  exact ⟨rfl, (Below.refl _ _).alloc (Nat.le_refl _) _⟩
set_option maxRecDepth 4000 in
set_option maxHeartbeats 4000000 in
theorem ecRoots_any (a b : Int) (w : World) (hc : curveB a b = true) :
    Calls Tryz.prog 104 #[.agg #[.int .i64 a, .int .i64 b]] w fun e w' => (∃ v, e = .returned v ∧ w'.ownsRow w.heap.size 3 1 v (rootsV a b).length ((rootsV a b).map (Value.int .i64))) ∧ Below w.heap.size w w' := by
  obtain ⟨i0, hi, hz0, hz1, hz2⟩ := info_parts infoIntC
  obtain ⟨⟨a1, a2⟩, b1, b2⟩ := curveB_bd hc
  clear hc
  have HbA := Lib.hid (show Below w.heap.size w (w.alloc (Obj.cells #[.int .i64 a, .int .i64 b] 25)) from bal (Below.refl _ _) _)
  have HB := Lib.hid (Blk.new w 25 #[.int .i64 a, .int .i64 b])
  go_enter Tryz.func104, Tryz.ntmps104
  go_wp2
  generalize w.alloc (Obj.cells #[.int .i64 a, .int .i64 b] 25) = W at HbA HB ⊢
  go_loopw [3, 4] (fun o i wr => ∃ k : Nat, k ≤ 201 ∧ i = .int .i64 (-100 + (k : Int)) ∧ Below W.heap.size W wr ∧ Hid (wr.ownsRow W.heap.size 3 1 o (rootsF a b (-100) k).length ((rootsF a b (-100) k).map (Value.int .i64)))) (fun _ i _ => (101 - intOf i).toNat)
  case atStart => exact ⟨0, by omega, rfl, Below.refl _ _, Lib.hid ⟨rfl, Or.inl ⟨rfl, rfl⟩⟩⟩
  case round =>
    obtain ⟨k, hk, rfl, hb, Hown⟩ := hrel
    have hB := HB.out.on hb
    by_cases hlt : k < 201
    · have hn := rootsF_len a b (-100) k
      have hyes := Lib.hid (rootsF_yes (a := a) (b := b) (lo := -100) (n := k))
      have hno := Lib.hid (rootsF_no (a := a) (b := b) (lo := -100) (n := k))
      obtain ⟨x, hx⟩ : ∃ x, -100 + (k : Int) = x := ⟨_, rfl⟩
      rw [hx] at hyes hno ⊢
      have hle : x ≤ 100 := by omega
      have hge : -100 ≤ x := by omega
      have Hx := Lib.hid hx; clear hx
      have q0 : wr.cell? ⟨w.heap.size, 0, none⟩ = some (.int .i64 a) := hB.cell 0
      have q1 : wr.cell? ⟨w.heap.size, 1, none⟩ = some (.int .i64 b) := hB.cell 1
      have ql := hB.lt
      clear hB
      have Hval := Lib.hid (fun w => ecValue_any a b x w a1 a2 b1 b2 (by omega) (by omega))
      go_wp2_with fail
      refine (Hval.out _).mono ?_
      rintro r w3 ⟨rfl, hb3⟩
      have Hown3 := Lib.hid (own_below Hown.out hb3)
      have Hb3 := Lib.hid (bthen hb hb3)
      clear hb hb3 q0 q1 ql Hown Hval
      by_cases he : evZ a b x = 0
      · have Hn := Lib.hid (hyes.out he)
        have hd : (evZ a b x == 0) = true := by simp [he]
        clear he
        go_wp2_with (at_builtin; refine wpList_append_own _ rfl _ _ 38 rfl W.heap.size 3 i0 (.int .i64 0) 1 8 Tryz.underlying38 hi hz0 hz1 hz2 rfl (by decide) _ _ _ rfl (Hown3.out.alloc _) ⟨w3.heap.size, 0, none⟩ 1 1 [.int .i64 x] rfl rfl ?c1 ?c2 ?c3 ?c4 ?c5 ?_)
        case c1 =>
          intro j u hj
          match j, hj with
          | 0, hj => simp at hj; subst hj; exact (Blk.new w3 _ _).cell 0
        case c2 => intro u hu; simp at hu; subst hu; rfl
        case c3 => unfold maxLen; omega
        case c4 => omega
        case c5 => have := Hb3.out.size; simp; omega
        intro v6 w6 hown6 hgrow _
        have Hb6 := Lib.hid (Below.grown (bal Hb3.out _) hgrow (by have := Hb3.out.size; simp; omega) (fun j hj => (Hown3.out.lt j hj).1))
        have Hown6 := Lib.hid (show w6.ownsRow W.heap.size 3 1 v6 (rootsF a b (-100) (k + 1)).length ((rootsF a b (-100) (k + 1)).map (Value.int .i64)) by rw [Hn.out, List.map_append, List.length_append]; exact hown6)
        clear hown6 hgrow
        go_wp2
        go_roundw
        case rel => exact ⟨k + 1, by omega, by have := Hx.out; first | (congr 1; omega) | go_num, Hb6.out, Hown6⟩
        case measure => have := Hx.out; simp [intOf]; omega
      · have Hn := Lib.hid (hno.out he)
        have hd : (evZ a b x == 0) = false := by simp [he]
        clear he
        go_wp2
        go_roundw
        case rel => exact ⟨k + 1, by omega, by have := Hx.out; first | (congr 1; omega) | go_num, Hb3.out, Lib.hid (by rw [Hn.out]; exact Hown3.out)⟩
        case measure => have := Hx.out; simp [intOf]; omega
    · have Hend := Lib.hid (show rootsF a b (-100) k = rootsV a b by rw [show k = 201 by omega]; rfl)
      have hle : ¬ (-100 + (k : Int) ≤ 100) := by omega
      go_wp2
      go_ret
      exact ⟨⟨_, rfl, by rw [← Hend.out]; exact own_mono Hown.out (Nat.le_of_lt (by have := HB.out.lt; have := HbA.out.size; omega))⟩, bthen HbA.out hb⟩
set_option maxRecDepth 4000 in
set_option maxHeartbeats 4000000 in
theorem orderTwo_any (a b : Int) (w : World) (hc : curveB a b = true) :
    Calls Tryz.prog 108 #[.agg #[.int .i64 a, .int .i64 b]] w fun e w' => (∃ v, e = .returned (.tuple #[v, .bool true]) ∧ w'.ownsRow w.heap.size 3 1 v (rootsV a b).length ((rootsV a b).map (Value.int .i64))) ∧ Below w.heap.size w w' := by
  obtain ⟨i0, hi, hz0, hz1, hz2⟩ := info_parts infoIntC
  obtain ⟨⟨a1, a2⟩, b1, b2⟩ := curveB_bd hc
  have Hc := Lib.hid hc; clear hc
  have HbA := Lib.hid (show Below w.heap.size w (w.alloc (Obj.cells #[.int .i64 a, .int .i64 b] 25)) from bal (Below.refl _ _) _)
  have HB := Lib.hid (Blk.new w 25 #[.int .i64 a, .int .i64 b])
  go_enter Tryz.func108, Tryz.ntmps108
  go_wp2_with fail
  refine (isCurve_any a b _).mono ?_
  rintro e W ⟨rfl, hb1⟩
  rw [Hc.out]
  replace HbA := Lib.hid (bthen HbA.out hb1)
  replace HB := Lib.hid (HB.out.on hb1)
  clear hb1
  go_wp2
  go_loopw [4, 5] (fun o i wr => ∃ k : Nat, k ≤ 401 ∧ i = .int .i64 (-200 + (k : Int)) ∧ Below W.heap.size W wr ∧ Hid (wr.ownsRow W.heap.size 3 1 o (rootsF a b (-200) k).length ((rootsF a b (-200) k).map (Value.int .i64)))) (fun _ i _ => (201 - intOf i).toNat)
  case atStart => exact ⟨0, by omega, rfl, Below.refl _ _, Lib.hid ⟨rfl, Or.inl ⟨rfl, rfl⟩⟩⟩
  case round =>
    obtain ⟨k, hk, rfl, hb, Hown⟩ := hrel
    have hB := HB.out.on hb
    by_cases hlt : k < 401
    · have hn := rootsF_len a b (-200) k
      have hyes := Lib.hid (rootsF_yes (a := a) (b := b) (lo := -200) (n := k))
      have hno := Lib.hid (rootsF_no (a := a) (b := b) (lo := -200) (n := k))
      obtain ⟨x, hx⟩ : ∃ x, -200 + (k : Int) = x := ⟨_, rfl⟩
      rw [hx] at hyes hno ⊢
      have hle : x ≤ 200 := by omega
      have hge : -200 ≤ x := by omega
      have Hx := Lib.hid hx; clear hx
      have q0 : wr.cell? ⟨w.heap.size, 0, none⟩ = some (.int .i64 a) := hB.cell 0
      have q1 : wr.cell? ⟨w.heap.size, 1, none⟩ = some (.int .i64 b) := hB.cell 1
      have ql := hB.lt
      clear hB
      obtain ⟨⟨k11, k12⟩, ⟨k21, k22⟩, k31, k32⟩ := ev_bds a1 a2 hge hle
      have Hown3 := Hown
      have Hb3 := Lib.hid hb
      obtain ⟨w3, hw3⟩ : ∃ w3, wr = w3 := ⟨_, rfl⟩
      by_cases he : x * x * x + a * x + b = 0
      · have Hn := Lib.hid (hyes.out he)
        have hd : (x * x * x + a * x + b == 0) = true := by simp [he]
        clear he
        subst hw3
        go_wp2_with (at_builtin; refine wpList_append_own _ rfl _ _ 38 rfl W.heap.size 3 i0 (.int .i64 0) 1 8 Tryz.underlying38 hi hz0 hz1 hz2 rfl (by decide) _ _ _ rfl (Hown3.out.alloc _) ⟨wr.heap.size, 0, none⟩ 1 1 [.int .i64 x] rfl rfl ?c1 ?c2 ?c3 ?c4 ?c5 ?_)
        case c1 =>
          intro j u hj
          match j, hj with
          | 0, hj => simp at hj; subst hj; exact (Blk.new wr _ _).cell 0
        case c2 => intro u hu; simp at hu; subst hu; rfl
        case c3 => unfold maxLen; omega
        case c4 => omega
        case c5 => have := Hb3.out.size; simp; omega
        intro v6 w6 hown6 hgrow _
        have Hb6 := Lib.hid (Below.grown (bal Hb3.out _) hgrow (by have := Hb3.out.size; simp; omega) (fun j hj => (Hown3.out.lt j hj).1))
        have Hown6 := Lib.hid (show w6.ownsRow W.heap.size 3 1 v6 (rootsF a b (-200) (k + 1)).length ((rootsF a b (-200) (k + 1)).map (Value.int .i64)) by rw [Hn.out, List.map_append, List.length_append]; exact hown6)
        clear hown6 hgrow
        go_wp2
        go_roundw
        case rel => exact ⟨k + 1, by omega, by have := Hx.out; first | (congr 1; omega) | go_num, Hb6.out, Hown6⟩
        case measure => have := Hx.out; simp [intOf]; omega
      · have Hn := Lib.hid (hno.out he)
        have hd : (x * x * x + a * x + b == 0) = false := by simp [he]
        clear he hw3
        go_wp2
        go_roundw
        case rel => exact ⟨k + 1, by omega, by have := Hx.out; first | (congr 1; omega) | go_num, Hb3.out, Lib.hid (by rw [Hn.out]; exact Hown3.out)⟩
        case measure => have := Hx.out; simp [intOf]; omega
    · have Hend := Lib.hid (show rootsF a b (-200) k = rootsV a b by rw [show k = 401 by omega]; exact roots_wide Hc.out)
      have hle : ¬ (-200 + (k : Int) ≤ 200) := by omega
      go_wp2
      go_ret2
      exact ⟨⟨_, rfl, by rw [← Hend.out]; exact own_mono Hown.out (Nat.le_of_lt (by have := HB.out.lt; have := HbA.out.size; omega))⟩, bthen HbA.out hb⟩
theorem up_bds {u : Int} (h1 : 1 ≤ u) (h2 : u ≤ 10) : (1 ≤ u * u ∧ u * u ≤ 100) ∧ (1 ≤ u * u * u ∧ u * u * u ≤ 1000) ∧ (1 ≤ u * u * u * u ∧ u * u * u * u ≤ 10000) ∧ (1 ≤ u * u * u * u * u ∧ u * u * u * u * u ≤ 100000) ∧ (1 ≤ u * u * u * u * u * u ∧ u * u * u * u * u * u ≤ 1000000) := by
  have key : ∀ {p m : Int}, 1 ≤ p → p ≤ m → 1 ≤ p * u ∧ p * u ≤ m * 10 := fun hp hm =>
    ⟨Int.mul_pos (by omega) (by omega), Int.mul_le_mul hm h2 (by omega) (by omega)⟩
  have e2 := key h1 h2
  have e3 := key e2.1 e2.2
  have e4 := key e3.1 e3.2
  have e5 := key e4.1 e4.2
  have e6 := key e5.1 e5.2
  exact ⟨by omega, by omega, by omega, by omega, by omega⟩
theorem dvd_tm {q a : Int} : q ∣ a ↔ a.tmod q = 0 := Int.dvd_iff_tmod_eq_zero
theorem dvd_td {q a : Int} (h : q ∣ a) : a.tdiv q = a / q := Int.tdiv_eq_ediv_of_dvd h
theorem dv_cases (a b u : Int) : (a.tmod (u * u * u * u) ≠ 0 ∧ dvU a b u = false) ∨ (a.tmod (u * u * u * u) = 0 ∧ b.tmod (u * u * u * u * u * u) ≠ 0 ∧ dvU a b u = false) ∨ (a.tmod (u * u * u * u) = 0 ∧ b.tmod (u * u * u * u * u * u) = 0 ∧ dvU a b u = true) := by
  have e : dvU a b u = decide (a.tmod (u * u * u * u) = 0 ∧ b.tmod (u * u * u * u * u * u) = 0) := by
    unfold dvU p4 p6
    rw [decide_eq_decide, dvd_tm, dvd_tm]
  rw [e]
  by_cases h4 : a.tmod (u * u * u * u) = 0
  · by_cases h6 : b.tmod (u * u * u * u * u * u) = 0
    · exact .inr (.inr ⟨h4, h6, by simp [h4, h6]⟩)
    · exact .inr (.inl ⟨h4, h6, by simp [h6]⟩)
  · exact .inl ⟨h4, by simp [h4]⟩
theorem dv_down {a b u : Int} (hu : ∀ v, u < v → v ≤ 10 → dvU a b v = false) (hd : dvU a b u = false) : u ≠ 1 ∧ ∀ v, u - 1 < v → v ≤ 10 → dvU a b v = false := by
  refine ⟨fun h => absurd hd (by rw [h, dvU_one]; exact fun h => Bool.noConfusion h), fun v h1 h2 => ?_⟩
  by_cases h3 : u = v
  · rw [← h3]; exact hd
  · exact hu v (by omega) h2
theorem td_abs (a q : Int) (m : Int) (h : -m ≤ a ∧ a ≤ m) : -m ≤ a.tdiv q ∧ a.tdiv q ≤ m := by
  have := Int.natAbs_tdiv_le_natAbs a q
  omega
theorem smB_yes {a b : Int} {n : Nat} (h : dvU a b ((n : Int) + 2) = true) : smB a b (n + 1) = (n : Int) + 2 := by unfold smB; rw [if_pos h]
theorem smB_no {a b : Int} {n : Nat} (h : dvU a b ((n : Int) + 2) = false) : smB a b (n + 1) = smB a b n := by
  conv => lhs; unfold smB
  rw [if_neg (by rw [h]; exact Bool.false_ne_true)]
theorem smC_sq (a b u : Int) (h : smU a b = u) : a.tdiv (u * u * (u * u)) = (smC a b).a ∧ b.tdiv (u * u * (u * u) * (u * u)) = (smC a b).b := by
  have hd := smU_dv a b
  rw [h] at hd
  unfold dvU at hd
  rw [decide_eq_true_eq] at hd
  have e4 : u * u * (u * u) = p4 u := by unfold p4; simp only [Int.mul_assoc]
  have e6 : u * u * (u * u) * (u * u) = p6 u := by unfold p6; simp only [Int.mul_assoc]
  rw [e6, e4, dvd_td hd.1, dvd_td hd.2]
  unfold smC
  rw [h]
  exact ⟨rfl, rfl⟩
set_option maxRecDepth 4000 in
set_option maxHeartbeats 4000000 in
theorem ecSmallest_any (a b : Int) (w : World) (hc : curveB a b = true) :
    Calls Tryz.prog 52 #[.agg #[.int .i64 a, .int .i64 b]] w fun e w' => e = .returned (.tuple #[.agg #[.int .i64 (smC a b).a, .int .i64 (smC a b).b], .int .i64 (smU a b)]) ∧ Below w.heap.size w w' := by
  obtain ⟨⟨a1, a2⟩, b1, b2⟩ := curveB_bd hc
  clear hc
  have HbA := Lib.hid (show Below w.heap.size w ((w.alloc (Obj.cells #[.int .i64 a, .int .i64 b] 25)).alloc (Obj.cells #[.int .i64 0, .int .i64 0] 25)) from bal (bal (Below.refl _ _) _) _)
  have HB := Lib.hid ((Blk.new w 25 #[.int .i64 a, .int .i64 b]).alloc (Obj.cells #[.int .i64 0, .int .i64 0] 25))
  have HR := Lib.hid (Blk.new1 w (Obj.cells #[.int .i64 a, .int .i64 b] 25) 25 #[.int .i64 0, .int .i64 0])
  go_enter Tryz.func52, Tryz.ntmps52
  go_wp2
  generalize (w.alloc (Obj.cells #[.int .i64 a, .int .i64 b] 25)).alloc (Obj.cells #[.int .i64 0, .int .i64 0] 25) = W at HbA HB HR ⊢
  go_loopw [5, 4] (fun i m wr => ∃ n : Nat, n ≤ 4 ∧ i = .int .i64 ((n : Int) + 2) ∧ m = .int .i64 (smB a b n) ∧ W = wr) (fun i _ _ => (10 - intOf i).toNat)
  case atStart => exact ⟨0, by omega, rfl, rfl, rfl⟩
  case round =>
    obtain ⟨n, hn, rfl, rfl, rfl⟩ := hrel
    have q0 : W.cell? ⟨w.heap.size, 0, none⟩ = some (.int .i64 a) := HB.out.cell 0
    have q1 : W.cell? ⟨w.heap.size, 1, none⟩ = some (.int .i64 b) := HB.out.cell 1
    have ql := HB.out.lt
    by_cases hlt : n < 4
    · have hyes := Lib.hid (smB_yes (a := a) (b := b) (n := n))
      have hno := Lib.hid (smB_no (a := a) (b := b) (n := n))
      obtain ⟨u, hu⟩ : ∃ u, (n : Int) + 2 = u := ⟨_, rfl⟩
      have hu1 : 1 ≤ u := by omega
      have hu2 : u ≤ 10 := by omega
      have hu3 : u ≤ 5 := by omega
      rw [hu] at hyes hno ⊢
      have Hu := Lib.hid hu; clear hu
      obtain ⟨⟨k21, k22⟩, ⟨k31, k32⟩, ⟨k41, k42⟩, ⟨k51, k52⟩, k61, k62⟩ := up_bds hu1 hu2
      have hn4 : u * u * u * u ≠ 0 := by omega
      have hn6 : u * u * u * u * u * u ≠ 0 := by omega
      rcases dv_cases a b u with ⟨h4, hd⟩ | ⟨h4, h6, hd⟩ | ⟨h4, h6, hd⟩
      · have Hn := Lib.hid (hno.out hd)
        have e4 : (a.tmod (u * u * u * u) == 0) = false := by simp [h4]
        clear hd h4 hyes hno
        go_wp2
        go_roundw
        case rel => exact ⟨n + 1, by omega, by have := Hu.out; first | (congr 1; omega) | go_num, by rw [Hn.out], trivial⟩
        case measure => have := Hu.out; simp [intOf]; omega
      · have Hn := Lib.hid (hno.out hd)
        have e4 : (a.tmod (u * u * u * u) == 0) = true := by simp [h4]
        have e6 : (b.tmod (u * u * u * u * u * u) == 0) = false := by simp [h6]
        clear hd h4 h6 hyes hno
        go_wp2
        go_roundw
        case rel => exact ⟨n + 1, by omega, by have := Hu.out; first | (congr 1; omega) | go_num, by rw [Hn.out], trivial⟩
        case measure => have := Hu.out; simp [intOf]; omega
      · have Hn := Lib.hid (hyes.out hd)
        have e4 : (a.tmod (u * u * u * u) == 0) = true := by simp [h4]
        have e6 : (b.tmod (u * u * u * u * u * u) == 0) = true := by simp [h6]
        clear hd h4 h6 hyes hno
        go_wp2
        go_roundw
        case rel => exact ⟨n + 1, by omega, by have := Hu.out; first | (congr 1; omega) | go_num, by rw [Hn.out], trivial⟩
        case measure => have := Hu.out; simp [intOf]; omega
    · obtain rfl : n = 4 := by omega
      have hsb := smB_bd a b 4
      have hall := smB_all a b
      generalize smB a b 4 = u at hsb hall ⊢
      obtain ⟨hu1, hu2⟩ := hsb
      have hu2 : u ≤ 10 := by omega
      obtain ⟨⟨k21, k22⟩, -, ⟨k41, k42⟩, -, k61, k62⟩ := up_bds hu1 hu2
      have e4 : u * u * u * u = u * u * (u * u) := Int.mul_assoc _ _ _
      have e6 : u * u * u * u * u * u = u * u * (u * u) * (u * u) := by simp only [Int.mul_assoc]
      rw [e4] at k41 k42
      rw [e6] at k61 k62
      clear e4 e6
      have hn4 : u * u * (u * u) ≠ 0 := by omega
      have hn6 : u * u * (u * u) * (u * u) ≠ 0 := by omega
      obtain ⟨v4, v6⟩ := smC_sq a b u hall.symm
      have V4 := Lib.hid v4; have V6 := Lib.hid v6; have Hsm := Lib.hid hall.symm
      clear v4 v6 hall hlt hn
      have r0 : W.cell? ⟨w.heap.size + 1, 0, none⟩ = some (.int .i64 0) := HR.out.cell 0
      have r1 : W.cell? ⟨w.heap.size + 1, 1, none⟩ = some (.int .i64 0) := HR.out.cell 1
      have rl := HR.out.lt
      have f0 := HR.out.frozen 0
      have f1 := HR.out.frozen 1
      go_wp2
      go_region
      go_wp2
      clear r0 r1 rl f0 f1
      have HR4 := HR.out.set2 (b0 := .int .i64 (smC a b).a) (b1 := .int .i64 (smC a b).b)
      have r0 := HR4.cell 0
      have r1 := HR4.cell 1
      simp at r0 r1
      rw [V4.out, V6.out]
      exact bodyPost_ret (v := .tuple #[.agg #[.int .i64 (smC a b).a, .int .i64 (smC a b).b], .int .i64 u]) (by simp [results, Tryz.results52, go_sem, r0, r1]) rfl ⟨by rw [Hsm.out], (bst (bst HbA.out (p := ⟨w.heap.size + 1, 0, none⟩) (by simp) _) (p := ⟨w.heap.size + 1, 1, none⟩) (by simp) _).drew⟩
end
section
open Go Go.RowKit

theorem red_go {r q s x y : Int} (h4 : p4 r = q) (h6 : p6 r = s) (hr : 2 ≤ r) (hz : ¬ (x = 0 ∧ y = 0)) (hx : x.tmod q = 0) (hy : y.tmod s = 0) :
    red r (x.tdiv q) (y.tdiv s) = red r x y ∧ ¬ (x.tdiv q = 0 ∧ y.tdiv s = 0) ∧ (x.tdiv q).natAbs + (y.tdiv s).natAbs < x.natAbs + y.natAbs := by
  subst h4; subst h6
  have d4 := dvd_tm.2 hx
  have d6 := dvd_tm.2 hy
  have hc : 2 ≤ r ∧ ¬ (x = 0 ∧ y = 0) ∧ p4 r ∣ x ∧ p6 r ∣ y := ⟨hr, hz, d4, d6⟩
  rw [dvd_td d4, dvd_td d6]
  exact ⟨(red_step hc).symm, div_nz hc, red_dec hc⟩
theorem red_no {r q s x y : Int} (h4 : p4 r = q) (h6 : p6 r = s) (h : x.tmod q ≠ 0 ∨ y.tmod s ≠ 0) : red r x y = (x, y) := by
  subst h4; subst h6
  refine red_end (fun hc => ?_)
  rcases h with h | h
  · exact h (dvd_tm.1 hc.2.2.1)
  · exact h (dvd_tm.1 hc.2.2.2)
def rIc : Nat → Int
  | 0 => 2
  | 1 => 3
  | _ => 5
def stI (a b e : Int) : Nat → Int × Int
  | 0 => (rawA a e, rawB a b e)
  | n + 1 => red (rIc n) (stI a b e n).1 (stI a b e n).2
theorem stI_end (a b e : Int) : stI a b e 3 = nbR a b e := rfl
def stS (a b e : Int) : Nat → Int × Int
  | 0 => (rawA a e, rawB a b e)
  | n + 1 => red ((n : Int) + 2) (stS a b e n).1 (stS a b e n).2
theorem stS_end {a b e : Int} (h : curveB a b = true) (he : evZ a b e = 0) : stS a b e 4 = nbR a b e := by
  have h4 := nbR_four h he
  show red 5 (stS a b e 3).1 (stS a b e 3).2 = nbR a b e
  have e3 : stS a b e 3 = stS a b e 2 := h4
  rw [e3]
  rfl
def cuO (a b : Int) : Option Cu := if curveB a b = true then some ⟨a, b⟩ else none
def CuR (o : Option Cu) (r : Ending) : Prop := match o with
  | some d => r = .returned (.tuple #[.agg #[.int .i64 d.a, .int .i64 d.b], .bool true])
  | none => r = .returned (.tuple #[.agg #[.int .i64 0, .int .i64 0], .bool false])
theorem CuR.yes {x y : Int} (h : curveB x y = true) : CuR (cuO x y) (.returned (.tuple #[.agg #[.int .i64 x, .int .i64 y], .bool true])) := by unfold cuO; rw [if_pos h]; rfl
theorem CuR.no {x y : Int} (h : curveB x y = false) : CuR (cuO x y) (.returned (.tuple #[.agg #[.int .i64 0, .int .i64 0], .bool false])) := by unfold cuO; rw [if_neg (by rw [h]; exact Bool.false_ne_true)]; rfl

set_option maxHeartbeats 1600000 in
theorem rawI_any (a b e : Int) (w : World) (ha : -1000 ≤ a ∧ a ≤ 1000) (hb : -10000 ≤ b ∧ b ≤ 10000) (he : -100 ≤ e ∧ e ≤ 100) :
    Calls Tryz.prog 49 #[.agg #[.int .i64 a, .int .i64 b], .int .i64 e] w fun r w' => r = .returned (.tuple #[.int .i64 (rawA a e), .int .i64 (rawB a b e)]) ∧ Below w.heap.size w w' := by
  obtain ⟨t1, t2⟩ := nbT_bd ha he
  obtain ⟨m1, m2⟩ := mul_bd (7 * e) (nbT a e) 700 31000 (by omega) (by omega) (by omega) (by omega)
  obtain ⟨n1, n2⟩ := mul_bd (3 * e) e 300 100 (by omega) (by omega) he.1 he.2
  have Hra := Lib.hid (show rawA a e = a - 5 * nbT a e from rfl)
  have Hrb := Lib.hid (show rawB a b e = b - 7 * e * nbT a e from rfl)
  have ht : 3 * e * e + a = nbT a e := rfl
  generalize nbT a e = t at t1 t2 m1 m2 ht Hra Hrb
  have hd : 3 * e * e = t - a := by omega
  obtain ⟨a1, a2⟩ := ha; obtain ⟨b1, b2⟩ := hb; obtain ⟨e1, e2⟩ := he
  have HbA := Lib.hid (show Below w.heap.size w (w.alloc (Obj.cells #[.int .i64 a, .int .i64 b] 25)) from bal (Below.refl _ _) _)
  go_enter Tryz.func49, Tryz.ntmps49
  go_wp2
  refine wp_region_tame (by kernel_rfl) (by kernel_rfl) (fun T _ W hT => ?_)
  have hx := hT.cell
  repeat (go_big_quiet_step (fail))
  refine wpQuiet_nil ?_
  intro tt
  clear hx
  go_wp2
  go_ret2
  exact ⟨by rw [Hra.out, Hrb.out]; rfl, bthen HbA.out (hT.below tt)⟩
set_option maxHeartbeats 1600000 in
theorem rawS_any (a b e : Int) (w : World) (ha : -1000 ≤ a ∧ a ≤ 1000) (hb : -10000 ≤ b ∧ b ≤ 10000) (he : -100 ≤ e ∧ e ≤ 100) :
    Calls Tryz.prog 50 #[.agg #[.int .i64 a, .int .i64 b], .int .i64 e] w fun r w' => r = .returned (.tuple #[.int .i64 (rawA a e), .int .i64 (rawB a b e)]) ∧ Below w.heap.size w w' := by
  obtain ⟨t1, t2⟩ := nbT_bd ha he
  obtain ⟨m1, m2⟩ := mul_bd (7 * e) (nbT a e) 700 31000 (by omega) (by omega) (by omega) (by omega)
  obtain ⟨n1, n2⟩ := mul_bd (3 * e) e 300 100 (by omega) (by omega) he.1 he.2
  have Hra := Lib.hid (show rawA a e = a - 5 * nbT a e from rfl)
  have Hrb := Lib.hid (show rawB a b e = b - 7 * e * nbT a e from rfl)
  have ht : 3 * e * e + a = nbT a e := rfl
  generalize nbT a e = t at t1 t2 m1 m2 ht Hra Hrb
  have hd : 3 * e * e = t - a := by omega
  obtain ⟨a1, a2⟩ := ha; obtain ⟨b1, b2⟩ := hb; obtain ⟨e1, e2⟩ := he
  have HbA := Lib.hid (show Below w.heap.size w (w.alloc (Obj.cells #[.int .i64 a, .int .i64 b] 25)) from bal (Below.refl _ _) _)
  go_enter Tryz.func50, Tryz.ntmps50
  go_wp2
  refine wp_region_tame (by kernel_rfl) (by kernel_rfl) (fun T _ W hT => ?_)
  have hx := hT.cell
  repeat (go_big_quiet_step (fail))
  refine wpQuiet_nil ?_
  intro tt
  clear hx
  go_wp2
  go_ret2
  exact ⟨by rw [Hra.out, Hrb.out]; rfl, bthen HbA.out (hT.below tt)⟩
set_option maxHeartbeats 800000 in
theorem curveRes_any (a b : Int) (w : World) :
    Calls Tryz.prog 106 #[.agg #[.int .i64 a, .int .i64 b]] w fun r w' => CuR (cuO a b) r ∧ Below w.heap.size w w' := by
  have HbA := Lib.hid (show Below w.heap.size w ((w.alloc (Obj.cells #[.int .i64 a, .int .i64 b] 25)).alloc (Obj.cells #[.int .i64 0, .int .i64 0] 25)) from bal (bal (Below.refl _ _) _) _)
  have HB := Lib.hid ((Blk.new w 25 #[.int .i64 a, .int .i64 b]).alloc (Obj.cells #[.int .i64 0, .int .i64 0] 25))
  have HR := Lib.hid (Blk.new1 w (Obj.cells #[.int .i64 a, .int .i64 b] 25) 25 #[.int .i64 0, .int .i64 0])
  go_enter Tryz.func106, Tryz.ntmps106
  go_wp2_with fail
  refine (isCurve_any a b _).mono ?_
  rintro e W ⟨rfl, hb1⟩
  have HbW := Lib.hid (bthen HbA.out hb1)
  replace HB := Lib.hid (HB.out.on hb1)
  replace HR := Lib.hid (HR.out.on hb1)
  clear hb1
  have q0 : W.cell? ⟨w.heap.size, 0, none⟩ = some (.int .i64 a) := HB.out.cell 0
  have q1 : W.cell? ⟨w.heap.size, 1, none⟩ = some (.int .i64 b) := HB.out.cell 1
  have ql := HB.out.lt
  have r0 : W.cell? ⟨w.heap.size + 1, 0, none⟩ = some (.int .i64 0) := HR.out.cell 0
  have r1 : W.cell? ⟨w.heap.size + 1, 1, none⟩ = some (.int .i64 0) := HR.out.cell 1
  have rl := HR.out.lt
  have f0 := HR.out.frozen 0
  have f1 := HR.out.frozen 1
  have hB0 := bst (bst HbW.out (p := ⟨w.heap.size + 1, 0, none⟩) (by simp) (.int .i64 0)) (p := ⟨w.heap.size + 1, 1, none⟩) (by simp) (.int .i64 0)
  have hB1 := bst (bst HbW.out (p := ⟨w.heap.size + 1, 0, none⟩) (by simp) (.int .i64 a)) (p := ⟨w.heap.size + 1, 1, none⟩) (by simp) (.int .i64 b)
  have HB0 := Lib.hid hB0; have HB1 := Lib.hid hB1; clear hB0 hB1
  cases hc : curveB a b
  · have Hn := Lib.hid (CuR.no hc)
    go_wp2
    clear r0 r1 f0 f1 rl
    have HR4 := HR.out.set2 (b0 := .int .i64 0) (b1 := .int .i64 0)
    have r0 := HR4.cell 0
    have r1 := HR4.cell 1
    simp at r0 r1
    exact bodyPost_ret (v := .tuple #[.agg #[.int .i64 0, .int .i64 0], .bool false]) (by simp [results, Tryz.results106, go_sem, r0, r1]) rfl ⟨Hn.out, HB0.out⟩
  · have Hn := Lib.hid (CuR.yes hc)
    go_wp2
    clear r0 r1 f0 f1 rl
    have HR4 := HR.out.set2 (b0 := .int .i64 a) (b1 := .int .i64 b)
    have r0 := HR4.cell 0
    have r1 := HR4.cell 1
    simp at r0 r1
    exact bodyPost_ret (v := .tuple #[.agg #[.int .i64 a, .int .i64 b], .bool true]) (by simp [results, Tryz.results106, go_sem, r0, r1]) rfl ⟨Hn.out, HB1.out⟩
set_option maxRecDepth 8000 in
set_option maxHeartbeats 16000000 in
theorem nbI_any (a b e : Int) (w : World) (hc : curveB a b = true) (hev : evZ a b e = 0) (he : -100 ≤ e ∧ e ≤ 100) :
    Calls Tryz.prog 46 #[.agg #[.int .i64 a, .int .i64 b], .int .i64 e] w fun r w' => CuR (nbV a b e) r ∧ Below w.heap.size w w' := by
  obtain ⟨ha, hb⟩ := curveB_bd hc
  have Hc := Lib.hid hc; clear hc
  have Hnz := Lib.hid (raw_nz Hc.out hev)
  have Hrb := Lib.hid (raw_bd (e := e) ha hb he)
  have HbA := Lib.hid (show Below w.heap.size w ((w.alloc (Obj.cells #[.int .i64 a, .int .i64 b] 25)).alloc (Obj.cells #[.int .i64 0, .int .i64 0] 25)) from bal (bal (Below.refl _ _) _) _)
  have HR := Lib.hid (Blk.new1 w (Obj.cells #[.int .i64 a, .int .i64 b] 25) 25 #[.int .i64 0, .int .i64 0])
  go_enter Tryz.func46, Tryz.ntmps46
  go_wp2_with fail
  refine (rawI_any a b e _ ha hb he).mono ?_
  rintro r w1 ⟨rfl, hb1⟩
  have Hb1 := Lib.hid (bthen HbA.out hb1)
  have HR1 := Lib.hid (HR.out.on hb1)
  clear hb1
  have H0 := Lib.hid (show stI a b e 0 = (rawA a e, rawB a b e) from rfl)
  have HbL := Lib.hid (bal Hb1.out (Obj.cells #[.int .i64 2, .int .i64 3, .int .i64 5] 3))
  have HL := Lib.hid (Blk.new w1 3 #[.int .i64 2, .int .i64 3, .int .i64 5])
  have HR2 := Lib.hid (HR1.out.alloc (Obj.cells #[.int .i64 2, .int .i64 3, .int .i64 5] 3))
  obtain ⟨xr, hxr⟩ : ∃ x, rawA a e = x := ⟨_, rfl⟩
  obtain ⟨yr, hyr⟩ : ∃ x, rawB a b e = x := ⟨_, rfl⟩
  rw [hxr, hyr] at Hnz Hrb H0
  rw [hxr, hyr]
  clear hxr hyr
  go_wp2
  generalize w1.alloc (Obj.cells #[.int .i64 2, .int .i64 3, .int .i64 5] 3) = W at HbL HL HR2 ⊢
  go_loopw [19, 6, 7] (fun i sa sb wr => ∃ (k : Nat) (x0 y0 : Int), k ≤ 3 ∧ i = .int .i64 k ∧ sa = .int .i64 x0 ∧ sb = .int .i64 y0 ∧ Hid (stI a b e k = (x0, y0)) ∧ ¬ (x0 = 0 ∧ y0 = 0) ∧ x0.natAbs + y0.natAbs ≤ 40000000 ∧ Hid (Below W.heap.size W wr)) (fun i _ _ _ => 3 - (intOf i).toNat)
  case atStart => exact ⟨0, xr, yr, by omega, rfl, rfl, rfl, H0, Hnz.out, by have := Hrb.out; omega, Lib.hid (Below.refl _ _)⟩
  case round =>
    obtain ⟨k, x0, y0, hk, rfl, rfl, rfl, Hst, hz0, hbd0, Hbr⟩ := hrel
    have HLr := Lib.hid (HL.out.on Hbr.out)
    have l0 : wr.cell? ⟨w1.heap.size, 0, none⟩ = some (.int .i64 2) := HLr.out.cell 0
    have l1 : wr.cell? ⟨w1.heap.size, 1, none⟩ = some (.int .i64 3) := HLr.out.cell 1
    have l2 : wr.cell? ⟨w1.heap.size, 2, none⟩ = some (.int .i64 5) := HLr.out.cell 2
    have ll := HLr.out.lt
    have hkk : k = 0 ∨ k = 1 ∨ k = 2 ∨ k = 3 := by omega
    rcases hkk with rfl | rfl | rfl | rfl
    · go_wp2
      go_loopw [6, 7] (fun sa sb wi => ∃ x y : Int, sa = .int .i64 x ∧ sb = .int .i64 y ∧ ¬ (x = 0 ∧ y = 0) ∧ x.natAbs + y.natAbs ≤ 40000000 ∧ Hid (red 2 x y = red 2 x0 y0) ∧ Below wr.heap.size wr wi) (fun sa sb _ => (intOf sa).natAbs + (intOf sb).natAbs)
      case atStart => exact ⟨x0, y0, rfl, rfl, hz0, hbd0, Lib.hid rfl, Below.refl _ _⟩
      case round =>
        obtain ⟨x, y, rfl, rfl, hz, hbd, Hred, hbi⟩ := hrel
        have hbx : -40000000 ≤ x ∧ x ≤ 40000000 := by omega
        have hby : -40000000 ≤ y ∧ y ≤ 40000000 := by omega
        obtain ⟨hx1, hx2⟩ := hbx; obtain ⟨hy1, hy2⟩ := hby
        have Hz := Lib.hid hz; clear hz
        by_cases hxz : x = 0
        · have hyn : y ≠ 0 := fun h => Hz.out ⟨hxz, h⟩
          have ey : (y != 0) = true := by simp [hyn]
          have ex : (x != 0) = false := by simp [hxz]
          have h4 : x.tmod 16 = 0 := by rw [hxz]; rfl
          clear hyn hxz
          have e4 : (x.tmod 16 == 0) = true := by simp [h4]
          by_cases h6 : y.tmod 64 = 0
          · have e6 : (y.tmod 64 == 0) = true := by simp [h6]
            have hgo := red_go (r := 2) (q := 16) (s := 64) (x := x) (y := y) rfl rfl (by omega) Hz.out h4 h6
            obtain ⟨v6, hv6⟩ : ∃ v, y.tdiv 64 = v := ⟨_, rfl⟩
            rw [hv6] at hgo
            have Hv6 := Lib.hid hv6; clear hv6
            obtain ⟨v4, hv4⟩ : ∃ v, x.tdiv 16 = v := ⟨_, rfl⟩
            rw [hv4] at hgo
            have Hv4 := Lib.hid hv4; clear hv4
            have Hgo := Lib.hid hgo; clear hgo
            go_wp2
            refine wp_region_tame (by kernel_rfl) (by kernel_rfl) (fun T _ W hT => ?_)
            have hxx := hT.cell
            repeat (go_big_quiet_step (fail))
            refine wpQuiet_nil ?_
            intro tt
            clear hxx
            go_wp2
            go_roundw
            case rel => exact ⟨v4, v6, by rw [Hv4.out], by rw [Hv6.out], Hgo.out.2.1, by have := Hgo.out.2.2; omega, Lib.hid (Hgo.out.1.trans Hred.out), (bthen hbi (hT.below tt))⟩
            case measure => have := Hgo.out.2.2; simp only [intOf, Hv6.out, Hv4.out]; omega
          · have e6 : (y.tmod 64 == 0) = false := by simp [h6]
            have Hend := Lib.hid (show red 2 x0 y0 = (x, y) by rw [← Hred.out]; exact red_no (r := 2) (q := 16) (s := 64) rfl rfl (.inr h6))
            clear h6
            go_wp2
            go_roundw
            case rel => exact ⟨1, _, y, by omega, by go_num, rfl, rfl, Lib.hid (by show red 2 (stI a b e 0).1 (stI a b e 0).2 = _; rw [Hst.out]; exact Hend.out), Hz.out, hbd, Lib.hid (bthen Hbr.out hbi)⟩
            case measure => simp [intOf]
        · have ex : (x != 0) = true := by simp [hxz]
          clear hxz
          by_cases h4 : x.tmod 16 = 0
          · have e4 : (x.tmod 16 == 0) = true := by simp [h4]
            by_cases h6 : y.tmod 64 = 0
            · have e6 : (y.tmod 64 == 0) = true := by simp [h6]
              have hgo := red_go (r := 2) (q := 16) (s := 64) (x := x) (y := y) rfl rfl (by omega) Hz.out h4 h6
              obtain ⟨v6, hv6⟩ : ∃ v, y.tdiv 64 = v := ⟨_, rfl⟩
              rw [hv6] at hgo
              have Hv6 := Lib.hid hv6; clear hv6
              obtain ⟨v4, hv4⟩ : ∃ v, x.tdiv 16 = v := ⟨_, rfl⟩
              rw [hv4] at hgo
              have Hv4 := Lib.hid hv4; clear hv4
              have Hgo := Lib.hid hgo; clear hgo
              go_wp2
              refine wp_region_tame (by kernel_rfl) (by kernel_rfl) (fun T _ W hT => ?_)
              have hxx := hT.cell
              repeat (go_big_quiet_step (fail))
              refine wpQuiet_nil ?_
              intro tt
              clear hxx
              go_wp2
              go_roundw
              case rel => exact ⟨v4, v6, by rw [Hv4.out], by rw [Hv6.out], Hgo.out.2.1, by have := Hgo.out.2.2; omega, Lib.hid (Hgo.out.1.trans Hred.out), (bthen hbi (hT.below tt))⟩
              case measure => have := Hgo.out.2.2; simp only [intOf, Hv6.out, Hv4.out]; omega
            · have e6 : (y.tmod 64 == 0) = false := by simp [h6]
              have Hend := Lib.hid (show red 2 x0 y0 = (x, y) by rw [← Hred.out]; exact red_no (r := 2) (q := 16) (s := 64) rfl rfl (.inr h6))
              clear h6
              go_wp2
              go_roundw
              case rel => exact ⟨1, _, y, by omega, by go_num, rfl, rfl, Lib.hid (by show red 2 (stI a b e 0).1 (stI a b e 0).2 = _; rw [Hst.out]; exact Hend.out), Hz.out, hbd, Lib.hid (bthen Hbr.out hbi)⟩
              case measure => simp [intOf]
          · have e4 : (x.tmod 16 == 0) = false := by simp [h4]
            have Hend := Lib.hid (show red 2 x0 y0 = (x, y) by rw [← Hred.out]; exact red_no (r := 2) (q := 16) (s := 64) rfl rfl (.inl h4))
            clear h4
            go_wp2
            go_roundw
            case rel => exact ⟨1, _, y, by omega, by go_num, rfl, rfl, Lib.hid (by show red 2 (stI a b e 0).1 (stI a b e 0).2 = _; rw [Hst.out]; exact Hend.out), Hz.out, hbd, Lib.hid (bthen Hbr.out hbi)⟩
            case measure => simp [intOf]
    · go_wp2
      go_loopw [6, 7] (fun sa sb wi => ∃ x y : Int, sa = .int .i64 x ∧ sb = .int .i64 y ∧ ¬ (x = 0 ∧ y = 0) ∧ x.natAbs + y.natAbs ≤ 40000000 ∧ Hid (red 3 x y = red 3 x0 y0) ∧ Below wr.heap.size wr wi) (fun sa sb _ => (intOf sa).natAbs + (intOf sb).natAbs)
      case atStart => exact ⟨x0, y0, rfl, rfl, hz0, hbd0, Lib.hid rfl, Below.refl _ _⟩
      case round =>
        obtain ⟨x, y, rfl, rfl, hz, hbd, Hred, hbi⟩ := hrel
        have hbx : -40000000 ≤ x ∧ x ≤ 40000000 := by omega
        have hby : -40000000 ≤ y ∧ y ≤ 40000000 := by omega
        obtain ⟨hx1, hx2⟩ := hbx; obtain ⟨hy1, hy2⟩ := hby
        have Hz := Lib.hid hz; clear hz
        by_cases hxz : x = 0
        · have hyn : y ≠ 0 := fun h => Hz.out ⟨hxz, h⟩
          have ey : (y != 0) = true := by simp [hyn]
          have ex : (x != 0) = false := by simp [hxz]
          have h4 : x.tmod 81 = 0 := by rw [hxz]; rfl
          clear hyn hxz
          have e4 : (x.tmod 81 == 0) = true := by simp [h4]
          by_cases h6 : y.tmod 729 = 0
          · have e6 : (y.tmod 729 == 0) = true := by simp [h6]
            have hgo := red_go (r := 3) (q := 81) (s := 729) (x := x) (y := y) rfl rfl (by omega) Hz.out h4 h6
            obtain ⟨v6, hv6⟩ : ∃ v, y.tdiv 729 = v := ⟨_, rfl⟩
            rw [hv6] at hgo
            have Hv6 := Lib.hid hv6; clear hv6
            obtain ⟨v4, hv4⟩ : ∃ v, x.tdiv 81 = v := ⟨_, rfl⟩
            rw [hv4] at hgo
            have Hv4 := Lib.hid hv4; clear hv4
            have Hgo := Lib.hid hgo; clear hgo
            go_wp2
            refine wp_region_tame (by kernel_rfl) (by kernel_rfl) (fun T _ W hT => ?_)
            have hxx := hT.cell
            repeat (go_big_quiet_step (fail))
            refine wpQuiet_nil ?_
            intro tt
            clear hxx
            go_wp2
            go_roundw
            case rel => exact ⟨v4, v6, by rw [Hv4.out], by rw [Hv6.out], Hgo.out.2.1, by have := Hgo.out.2.2; omega, Lib.hid (Hgo.out.1.trans Hred.out), (bthen hbi (hT.below tt))⟩
            case measure => have := Hgo.out.2.2; simp only [intOf, Hv6.out, Hv4.out]; omega
          · have e6 : (y.tmod 729 == 0) = false := by simp [h6]
            have Hend := Lib.hid (show red 3 x0 y0 = (x, y) by rw [← Hred.out]; exact red_no (r := 3) (q := 81) (s := 729) rfl rfl (.inr h6))
            clear h6
            go_wp2
            go_roundw
            case rel => exact ⟨2, _, y, by omega, by go_num, rfl, rfl, Lib.hid (by show red 3 (stI a b e 1).1 (stI a b e 1).2 = _; rw [Hst.out]; exact Hend.out), Hz.out, hbd, Lib.hid (bthen Hbr.out hbi)⟩
            case measure => simp [intOf]
        · have ex : (x != 0) = true := by simp [hxz]
          clear hxz
          by_cases h4 : x.tmod 81 = 0
          · have e4 : (x.tmod 81 == 0) = true := by simp [h4]
            by_cases h6 : y.tmod 729 = 0
            · have e6 : (y.tmod 729 == 0) = true := by simp [h6]
              have hgo := red_go (r := 3) (q := 81) (s := 729) (x := x) (y := y) rfl rfl (by omega) Hz.out h4 h6
              obtain ⟨v6, hv6⟩ : ∃ v, y.tdiv 729 = v := ⟨_, rfl⟩
              rw [hv6] at hgo
              have Hv6 := Lib.hid hv6; clear hv6
              obtain ⟨v4, hv4⟩ : ∃ v, x.tdiv 81 = v := ⟨_, rfl⟩
              rw [hv4] at hgo
              have Hv4 := Lib.hid hv4; clear hv4
              have Hgo := Lib.hid hgo; clear hgo
              go_wp2
              refine wp_region_tame (by kernel_rfl) (by kernel_rfl) (fun T _ W hT => ?_)
              have hxx := hT.cell
              repeat (go_big_quiet_step (fail))
              refine wpQuiet_nil ?_
              intro tt
              clear hxx
              go_wp2
              go_roundw
              case rel => exact ⟨v4, v6, by rw [Hv4.out], by rw [Hv6.out], Hgo.out.2.1, by have := Hgo.out.2.2; omega, Lib.hid (Hgo.out.1.trans Hred.out), (bthen hbi (hT.below tt))⟩
              case measure => have := Hgo.out.2.2; simp only [intOf, Hv6.out, Hv4.out]; omega
            · have e6 : (y.tmod 729 == 0) = false := by simp [h6]
              have Hend := Lib.hid (show red 3 x0 y0 = (x, y) by rw [← Hred.out]; exact red_no (r := 3) (q := 81) (s := 729) rfl rfl (.inr h6))
              clear h6
              go_wp2
              go_roundw
              case rel => exact ⟨2, _, y, by omega, by go_num, rfl, rfl, Lib.hid (by show red 3 (stI a b e 1).1 (stI a b e 1).2 = _; rw [Hst.out]; exact Hend.out), Hz.out, hbd, Lib.hid (bthen Hbr.out hbi)⟩
              case measure => simp [intOf]
          · have e4 : (x.tmod 81 == 0) = false := by simp [h4]
            have Hend := Lib.hid (show red 3 x0 y0 = (x, y) by rw [← Hred.out]; exact red_no (r := 3) (q := 81) (s := 729) rfl rfl (.inl h4))
            clear h4
            go_wp2
            go_roundw
            case rel => exact ⟨2, _, y, by omega, by go_num, rfl, rfl, Lib.hid (by show red 3 (stI a b e 1).1 (stI a b e 1).2 = _; rw [Hst.out]; exact Hend.out), Hz.out, hbd, Lib.hid (bthen Hbr.out hbi)⟩
            case measure => simp [intOf]
    · go_wp2
      go_loopw [6, 7] (fun sa sb wi => ∃ x y : Int, sa = .int .i64 x ∧ sb = .int .i64 y ∧ ¬ (x = 0 ∧ y = 0) ∧ x.natAbs + y.natAbs ≤ 40000000 ∧ Hid (red 5 x y = red 5 x0 y0) ∧ Below wr.heap.size wr wi) (fun sa sb _ => (intOf sa).natAbs + (intOf sb).natAbs)
      case atStart => exact ⟨x0, y0, rfl, rfl, hz0, hbd0, Lib.hid rfl, Below.refl _ _⟩
      case round =>
        obtain ⟨x, y, rfl, rfl, hz, hbd, Hred, hbi⟩ := hrel
        have hbx : -40000000 ≤ x ∧ x ≤ 40000000 := by omega
        have hby : -40000000 ≤ y ∧ y ≤ 40000000 := by omega
        obtain ⟨hx1, hx2⟩ := hbx; obtain ⟨hy1, hy2⟩ := hby
        have Hz := Lib.hid hz; clear hz
        by_cases hxz : x = 0
        · have hyn : y ≠ 0 := fun h => Hz.out ⟨hxz, h⟩
          have ey : (y != 0) = true := by simp [hyn]
          have ex : (x != 0) = false := by simp [hxz]
          have h4 : x.tmod 625 = 0 := by rw [hxz]; rfl
          clear hyn hxz
          have e4 : (x.tmod 625 == 0) = true := by simp [h4]
          by_cases h6 : y.tmod 15625 = 0
          · have e6 : (y.tmod 15625 == 0) = true := by simp [h6]
            have hgo := red_go (r := 5) (q := 625) (s := 15625) (x := x) (y := y) rfl rfl (by omega) Hz.out h4 h6
            obtain ⟨v6, hv6⟩ : ∃ v, y.tdiv 15625 = v := ⟨_, rfl⟩
            rw [hv6] at hgo
            have Hv6 := Lib.hid hv6; clear hv6
            obtain ⟨v4, hv4⟩ : ∃ v, x.tdiv 625 = v := ⟨_, rfl⟩
            rw [hv4] at hgo
            have Hv4 := Lib.hid hv4; clear hv4
            have Hgo := Lib.hid hgo; clear hgo
            go_wp2
            refine wp_region_tame (by kernel_rfl) (by kernel_rfl) (fun T _ W hT => ?_)
            have hxx := hT.cell
            repeat (go_big_quiet_step (fail))
            refine wpQuiet_nil ?_
            intro tt
            clear hxx
            go_wp2
            go_roundw
            case rel => exact ⟨v4, v6, by rw [Hv4.out], by rw [Hv6.out], Hgo.out.2.1, by have := Hgo.out.2.2; omega, Lib.hid (Hgo.out.1.trans Hred.out), (bthen hbi (hT.below tt))⟩
            case measure => have := Hgo.out.2.2; simp only [intOf, Hv6.out, Hv4.out]; omega
          · have e6 : (y.tmod 15625 == 0) = false := by simp [h6]
            have Hend := Lib.hid (show red 5 x0 y0 = (x, y) by rw [← Hred.out]; exact red_no (r := 5) (q := 625) (s := 15625) rfl rfl (.inr h6))
            clear h6
            go_wp2
            go_roundw
            case rel => exact ⟨3, _, y, by omega, by go_num, rfl, rfl, Lib.hid (by show red 5 (stI a b e 2).1 (stI a b e 2).2 = _; rw [Hst.out]; exact Hend.out), Hz.out, hbd, Lib.hid (bthen Hbr.out hbi)⟩
            case measure => simp [intOf]
        · have ex : (x != 0) = true := by simp [hxz]
          clear hxz
          by_cases h4 : x.tmod 625 = 0
          · have e4 : (x.tmod 625 == 0) = true := by simp [h4]
            by_cases h6 : y.tmod 15625 = 0
            · have e6 : (y.tmod 15625 == 0) = true := by simp [h6]
              have hgo := red_go (r := 5) (q := 625) (s := 15625) (x := x) (y := y) rfl rfl (by omega) Hz.out h4 h6
              obtain ⟨v6, hv6⟩ : ∃ v, y.tdiv 15625 = v := ⟨_, rfl⟩
              rw [hv6] at hgo
              have Hv6 := Lib.hid hv6; clear hv6
              obtain ⟨v4, hv4⟩ : ∃ v, x.tdiv 625 = v := ⟨_, rfl⟩
              rw [hv4] at hgo
              have Hv4 := Lib.hid hv4; clear hv4
              have Hgo := Lib.hid hgo; clear hgo
              go_wp2
              refine wp_region_tame (by kernel_rfl) (by kernel_rfl) (fun T _ W hT => ?_)
              have hxx := hT.cell
              repeat (go_big_quiet_step (fail))
              refine wpQuiet_nil ?_
              intro tt
              clear hxx
              go_wp2
              go_roundw
              case rel => exact ⟨v4, v6, by rw [Hv4.out], by rw [Hv6.out], Hgo.out.2.1, by have := Hgo.out.2.2; omega, Lib.hid (Hgo.out.1.trans Hred.out), (bthen hbi (hT.below tt))⟩
              case measure => have := Hgo.out.2.2; simp only [intOf, Hv6.out, Hv4.out]; omega
            · have e6 : (y.tmod 15625 == 0) = false := by simp [h6]
              have Hend := Lib.hid (show red 5 x0 y0 = (x, y) by rw [← Hred.out]; exact red_no (r := 5) (q := 625) (s := 15625) rfl rfl (.inr h6))
              clear h6
              go_wp2
              go_roundw
              case rel => exact ⟨3, _, y, by omega, by go_num, rfl, rfl, Lib.hid (by show red 5 (stI a b e 2).1 (stI a b e 2).2 = _; rw [Hst.out]; exact Hend.out), Hz.out, hbd, Lib.hid (bthen Hbr.out hbi)⟩
              case measure => simp [intOf]
          · have e4 : (x.tmod 625 == 0) = false := by simp [h4]
            have Hend := Lib.hid (show red 5 x0 y0 = (x, y) by rw [← Hred.out]; exact red_no (r := 5) (q := 625) (s := 15625) rfl rfl (.inl h4))
            clear h4
            go_wp2
            go_roundw
            case rel => exact ⟨3, _, y, by omega, by go_num, rfl, rfl, Lib.hid (by show red 5 (stI a b e 2).1 (stI a b e 2).2 = _; rw [Hst.out]; exact Hend.out), Hz.out, hbd, Lib.hid (bthen Hbr.out hbi)⟩
            case measure => simp [intOf]
    · have HRr := HR2.out.on Hbr.out
      have Hfin := Lib.hid (show nbR a b e = (x0, y0) by rw [← stI_end]; exact Hst.out)
      clear l0 l1 l2 ll hz0 Hst
      have Hbw := Lib.hid (bthen HbL.out Hbr.out)
      clear Hbr HLr
      go_wp2_with fail
      refine (curveRes_any x0 y0 _).mono ?_
      rintro r w4 ⟨hr, hb4⟩
      have HR4 := Lib.hid (HRr.on hb4)
      have Hb4 := Lib.hid (bthen Hbw.out hb4)
      clear hb4 HRr
      have r0 : w4.cell? ⟨w.heap.size + 1, 0, none⟩ = some (.int .i64 0) := HR4.out.cell 0
      have r1 : w4.cell? ⟨w.heap.size + 1, 1, none⟩ = some (.int .i64 0) := HR4.out.cell 1
      have rl := HR4.out.lt
      have f0 := HR4.out.frozen 0
      have f1 := HR4.out.frozen 1
      have Hnb := Lib.hid (show nbV a b e = cuO x0 y0 by unfold nbV cuO; rw [Hfin.out])
      have HB0 := Lib.hid (bst (bst Hb4.out (p := ⟨w.heap.size + 1, 0, none⟩) (by simp) (.int .i64 0)) (p := ⟨w.heap.size + 1, 1, none⟩) (by simp) (.int .i64 0))
      have HB1 := Lib.hid (bst (bst Hb4.out (p := ⟨w.heap.size + 1, 0, none⟩) (by simp) (.int .i64 x0)) (p := ⟨w.heap.size + 1, 1, none⟩) (by simp) (.int .i64 y0))
      cases hcv : curveB x0 y0
      · have ho : cuO x0 y0 = none := by unfold cuO; rw [if_neg (by rw [hcv]; exact Bool.false_ne_true)]
        rw [ho] at hr Hnb
        have hr2 : r = .returned (.tuple #[.agg #[.int .i64 0, .int .i64 0], .bool false]) := hr
        subst hr2
        clear hr hcv
        go_wp2
        clear r0 r1 f0 f1 rl
        have HR5 := HR4.out.set2 (b0 := .int .i64 0) (b1 := .int .i64 0)
        have r0 := HR5.cell 0
        have r1 := HR5.cell 1
        simp at r0 r1
        exact bodyPost_ret (v := .tuple #[.agg #[.int .i64 0, .int .i64 0], .bool false]) (by simp [results, Tryz.results46, go_sem, r0, r1]) rfl ⟨by rw [Hnb.out]; rfl, HB0.out⟩
      · have ho : cuO x0 y0 = some ⟨x0, y0⟩ := by unfold cuO; rw [if_pos hcv]
        rw [ho] at hr Hnb
        have hr2 : r = .returned (.tuple #[.agg #[.int .i64 x0, .int .i64 y0], .bool true]) := hr
        subst hr2
        clear hr hcv
        go_wp2
        clear r0 r1 f0 f1 rl
        have HR5 := HR4.out.set2 (b0 := .int .i64 x0) (b1 := .int .i64 y0)
        have r0 := HR5.cell 0
        have r1 := HR5.cell 1
        simp at r0 r1
        exact bodyPost_ret (v := .tuple #[.agg #[.int .i64 x0, .int .i64 y0], .bool true]) (by simp [results, Tryz.results46, go_sem, r0, r1]) rfl ⟨by rw [Hnb.out]; rfl, HB1.out⟩
set_option maxRecDepth 8000 in
set_option maxHeartbeats 16000000 in
theorem nbS_any (a b e : Int) (w : World) (hc : curveB a b = true) (hev : evZ a b e = 0) (he : -100 ≤ e ∧ e ≤ 100) :
    Calls Tryz.prog 48 #[.agg #[.int .i64 a, .int .i64 b], .int .i64 e] w fun r w' => CuR (nbV a b e) r ∧ Below w.heap.size w w' := by
  obtain ⟨ha, hb⟩ := curveB_bd hc
  have Hc := Lib.hid hc; clear hc
  have Hnz := Lib.hid (raw_nz Hc.out hev)
  have Hrb := Lib.hid (raw_bd (e := e) ha hb he)
  have Hev := Lib.hid hev; clear hev
  have HbA := Lib.hid (show Below w.heap.size w ((w.alloc (Obj.cells #[.int .i64 a, .int .i64 b] 25)).alloc (Obj.cells #[.int .i64 0, .int .i64 0] 25)) from bal (bal (Below.refl _ _) _) _)
  have HR := Lib.hid (Blk.new1 w (Obj.cells #[.int .i64 a, .int .i64 b] 25) 25 #[.int .i64 0, .int .i64 0])
  go_enter Tryz.func48, Tryz.ntmps48
  go_wp2_with fail
  refine (rawS_any a b e _ ha hb he).mono ?_
  rintro r W ⟨rfl, hb1⟩
  have HbL := Lib.hid (bthen HbA.out hb1)
  have HR2 := Lib.hid (HR.out.on hb1)
  clear hb1
  have H0 := Lib.hid (show stS a b e 0 = (rawA a e, rawB a b e) from rfl)
  obtain ⟨xr, hxr⟩ : ∃ x, rawA a e = x := ⟨_, rfl⟩
  obtain ⟨yr, hyr⟩ : ∃ x, rawB a b e = x := ⟨_, rfl⟩
  rw [hxr, hyr] at Hnz Hrb H0
  rw [hxr, hyr]
  clear hxr hyr
  go_wp2
  go_loopw [8, 6, 7] (fun i sa sb wr => ∃ (k : Nat) (x0 y0 : Int), k ≤ 4 ∧ i = .int .i64 ((k : Int) + 2) ∧ sa = .int .i64 x0 ∧ sb = .int .i64 y0 ∧ Hid (stS a b e k = (x0, y0)) ∧ ¬ (x0 = 0 ∧ y0 = 0) ∧ x0.natAbs + y0.natAbs ≤ 40000000 ∧ Hid (Below W.heap.size W wr)) (fun i _ _ _ => 10 - (intOf i).toNat)
  case atStart => exact ⟨0, xr, yr, by omega, rfl, rfl, rfl, H0, Hnz.out, by have := Hrb.out; omega, Lib.hid (Below.refl _ _)⟩
  case round =>
    obtain ⟨k, x0, y0, hk, rfl, rfl, rfl, Hst, hz0, hbd0, Hbr⟩ := hrel
    have hkk : k = 0 ∨ k = 1 ∨ k = 2 ∨ k = 3 ∨ k = 4 := by omega
    rcases hkk with rfl | rfl | rfl | rfl | rfl
    · go_wp2
      go_loopw [6, 7] (fun sa sb wi => ∃ x y : Int, sa = .int .i64 x ∧ sb = .int .i64 y ∧ ¬ (x = 0 ∧ y = 0) ∧ x.natAbs + y.natAbs ≤ 40000000 ∧ Hid (red 2 x y = red 2 x0 y0) ∧ Below wr.heap.size wr wi) (fun sa sb _ => (intOf sa).natAbs + (intOf sb).natAbs)
      case atStart => exact ⟨x0, y0, rfl, rfl, hz0, hbd0, Lib.hid rfl, Below.refl _ _⟩
      case round =>
        obtain ⟨x, y, rfl, rfl, hz, hbd, Hred, hbi⟩ := hrel
        have hbx : -40000000 ≤ x ∧ x ≤ 40000000 := by omega
        have hby : -40000000 ≤ y ∧ y ≤ 40000000 := by omega
        obtain ⟨hx1, hx2⟩ := hbx; obtain ⟨hy1, hy2⟩ := hby
        have Hz := Lib.hid hz; clear hz
        by_cases h4 : x.tmod 16 = 0
        · have e4 : (x.tmod 16 == 0) = true := by simp [h4]
          by_cases h6 : y.tmod 64 = 0
          · have e6 : (y.tmod 64 == 0) = true := by simp [h6]
            have hgo := red_go (r := 2) (q := 16) (s := 64) (x := x) (y := y) rfl rfl (by omega) Hz.out h4 h6
            obtain ⟨v6, hv6⟩ : ∃ v, y.tdiv 64 = v := ⟨_, rfl⟩
            rw [hv6] at hgo
            have Hv6 := Lib.hid hv6; clear hv6
            obtain ⟨v4, hv4⟩ : ∃ v, x.tdiv 16 = v := ⟨_, rfl⟩
            rw [hv4] at hgo
            have Hv4 := Lib.hid hv4; clear hv4
            have Hgo := Lib.hid hgo; clear hgo
            go_wp2
            go_roundw
            case rel => exact ⟨v4, v6, by rw [Hv4.out], by rw [Hv6.out], Hgo.out.2.1, by have := Hgo.out.2.2; omega, Lib.hid (Hgo.out.1.trans Hred.out), hbi⟩
            case measure => have := Hgo.out.2.2; simp only [intOf, Hv6.out, Hv4.out]; omega
          · have e6 : (y.tmod 64 == 0) = false := by simp [h6]
            have Hend := Lib.hid (show red 2 x0 y0 = (x, y) by rw [← Hred.out]; exact red_no (r := 2) (q := 16) (s := 64) rfl rfl (.inr h6))
            clear h6
            go_wp2
            go_roundw
            case rel => exact ⟨1, _, y, by omega, by go_num, rfl, rfl, Lib.hid (by show red 2 (stS a b e 0).1 (stS a b e 0).2 = _; rw [Hst.out]; exact Hend.out), Hz.out, hbd, Lib.hid (bthen Hbr.out hbi)⟩
            case measure => simp [intOf]
        · have e4 : (x.tmod 16 == 0) = false := by simp [h4]
          have Hend := Lib.hid (show red 2 x0 y0 = (x, y) by rw [← Hred.out]; exact red_no (r := 2) (q := 16) (s := 64) rfl rfl (.inl h4))
          clear h4
          go_wp2
          go_roundw
          case rel => exact ⟨1, _, y, by omega, by go_num, rfl, rfl, Lib.hid (by show red 2 (stS a b e 0).1 (stS a b e 0).2 = _; rw [Hst.out]; exact Hend.out), Hz.out, hbd, Lib.hid (bthen Hbr.out hbi)⟩
          case measure => simp [intOf]
    · go_wp2
      go_loopw [6, 7] (fun sa sb wi => ∃ x y : Int, sa = .int .i64 x ∧ sb = .int .i64 y ∧ ¬ (x = 0 ∧ y = 0) ∧ x.natAbs + y.natAbs ≤ 40000000 ∧ Hid (red 3 x y = red 3 x0 y0) ∧ Below wr.heap.size wr wi) (fun sa sb _ => (intOf sa).natAbs + (intOf sb).natAbs)
      case atStart => exact ⟨x0, y0, rfl, rfl, hz0, hbd0, Lib.hid rfl, Below.refl _ _⟩
      case round =>
        obtain ⟨x, y, rfl, rfl, hz, hbd, Hred, hbi⟩ := hrel
        have hbx : -40000000 ≤ x ∧ x ≤ 40000000 := by omega
        have hby : -40000000 ≤ y ∧ y ≤ 40000000 := by omega
        obtain ⟨hx1, hx2⟩ := hbx; obtain ⟨hy1, hy2⟩ := hby
        have Hz := Lib.hid hz; clear hz
        by_cases h4 : x.tmod 81 = 0
        · have e4 : (x.tmod 81 == 0) = true := by simp [h4]
          by_cases h6 : y.tmod 729 = 0
          · have e6 : (y.tmod 729 == 0) = true := by simp [h6]
            have hgo := red_go (r := 3) (q := 81) (s := 729) (x := x) (y := y) rfl rfl (by omega) Hz.out h4 h6
            obtain ⟨v6, hv6⟩ : ∃ v, y.tdiv 729 = v := ⟨_, rfl⟩
            rw [hv6] at hgo
            have Hv6 := Lib.hid hv6; clear hv6
            obtain ⟨v4, hv4⟩ : ∃ v, x.tdiv 81 = v := ⟨_, rfl⟩
            rw [hv4] at hgo
            have Hv4 := Lib.hid hv4; clear hv4
            have Hgo := Lib.hid hgo; clear hgo
            go_wp2
            go_roundw
            case rel => exact ⟨v4, v6, by rw [Hv4.out], by rw [Hv6.out], Hgo.out.2.1, by have := Hgo.out.2.2; omega, Lib.hid (Hgo.out.1.trans Hred.out), hbi⟩
            case measure => have := Hgo.out.2.2; simp only [intOf, Hv6.out, Hv4.out]; omega
          · have e6 : (y.tmod 729 == 0) = false := by simp [h6]
            have Hend := Lib.hid (show red 3 x0 y0 = (x, y) by rw [← Hred.out]; exact red_no (r := 3) (q := 81) (s := 729) rfl rfl (.inr h6))
            clear h6
            go_wp2
            go_roundw
            case rel => exact ⟨2, _, y, by omega, by go_num, rfl, rfl, Lib.hid (by show red 3 (stS a b e 1).1 (stS a b e 1).2 = _; rw [Hst.out]; exact Hend.out), Hz.out, hbd, Lib.hid (bthen Hbr.out hbi)⟩
            case measure => simp [intOf]
        · have e4 : (x.tmod 81 == 0) = false := by simp [h4]
          have Hend := Lib.hid (show red 3 x0 y0 = (x, y) by rw [← Hred.out]; exact red_no (r := 3) (q := 81) (s := 729) rfl rfl (.inl h4))
          clear h4
          go_wp2
          go_roundw
          case rel => exact ⟨2, _, y, by omega, by go_num, rfl, rfl, Lib.hid (by show red 3 (stS a b e 1).1 (stS a b e 1).2 = _; rw [Hst.out]; exact Hend.out), Hz.out, hbd, Lib.hid (bthen Hbr.out hbi)⟩
          case measure => simp [intOf]
    · go_wp2
      go_loopw [6, 7] (fun sa sb wi => ∃ x y : Int, sa = .int .i64 x ∧ sb = .int .i64 y ∧ ¬ (x = 0 ∧ y = 0) ∧ x.natAbs + y.natAbs ≤ 40000000 ∧ Hid (red 4 x y = red 4 x0 y0) ∧ Below wr.heap.size wr wi) (fun sa sb _ => (intOf sa).natAbs + (intOf sb).natAbs)
      case atStart => exact ⟨x0, y0, rfl, rfl, hz0, hbd0, Lib.hid rfl, Below.refl _ _⟩
      case round =>
        obtain ⟨x, y, rfl, rfl, hz, hbd, Hred, hbi⟩ := hrel
        have hbx : -40000000 ≤ x ∧ x ≤ 40000000 := by omega
        have hby : -40000000 ≤ y ∧ y ≤ 40000000 := by omega
        obtain ⟨hx1, hx2⟩ := hbx; obtain ⟨hy1, hy2⟩ := hby
        have Hz := Lib.hid hz; clear hz
        by_cases h4 : x.tmod 256 = 0
        · have e4 : (x.tmod 256 == 0) = true := by simp [h4]
          by_cases h6 : y.tmod 4096 = 0
          · have e6 : (y.tmod 4096 == 0) = true := by simp [h6]
            have hgo := red_go (r := 4) (q := 256) (s := 4096) (x := x) (y := y) rfl rfl (by omega) Hz.out h4 h6
            obtain ⟨v6, hv6⟩ : ∃ v, y.tdiv 4096 = v := ⟨_, rfl⟩
            rw [hv6] at hgo
            have Hv6 := Lib.hid hv6; clear hv6
            obtain ⟨v4, hv4⟩ : ∃ v, x.tdiv 256 = v := ⟨_, rfl⟩
            rw [hv4] at hgo
            have Hv4 := Lib.hid hv4; clear hv4
            have Hgo := Lib.hid hgo; clear hgo
            go_wp2
            go_roundw
            case rel => exact ⟨v4, v6, by rw [Hv4.out], by rw [Hv6.out], Hgo.out.2.1, by have := Hgo.out.2.2; omega, Lib.hid (Hgo.out.1.trans Hred.out), hbi⟩
            case measure => have := Hgo.out.2.2; simp only [intOf, Hv6.out, Hv4.out]; omega
          · have e6 : (y.tmod 4096 == 0) = false := by simp [h6]
            have Hend := Lib.hid (show red 4 x0 y0 = (x, y) by rw [← Hred.out]; exact red_no (r := 4) (q := 256) (s := 4096) rfl rfl (.inr h6))
            clear h6
            go_wp2
            go_roundw
            case rel => exact ⟨3, _, y, by omega, by go_num, rfl, rfl, Lib.hid (by show red 4 (stS a b e 2).1 (stS a b e 2).2 = _; rw [Hst.out]; exact Hend.out), Hz.out, hbd, Lib.hid (bthen Hbr.out hbi)⟩
            case measure => simp [intOf]
        · have e4 : (x.tmod 256 == 0) = false := by simp [h4]
          have Hend := Lib.hid (show red 4 x0 y0 = (x, y) by rw [← Hred.out]; exact red_no (r := 4) (q := 256) (s := 4096) rfl rfl (.inl h4))
          clear h4
          go_wp2
          go_roundw
          case rel => exact ⟨3, _, y, by omega, by go_num, rfl, rfl, Lib.hid (by show red 4 (stS a b e 2).1 (stS a b e 2).2 = _; rw [Hst.out]; exact Hend.out), Hz.out, hbd, Lib.hid (bthen Hbr.out hbi)⟩
          case measure => simp [intOf]
    · go_wp2
      go_loopw [6, 7] (fun sa sb wi => ∃ x y : Int, sa = .int .i64 x ∧ sb = .int .i64 y ∧ ¬ (x = 0 ∧ y = 0) ∧ x.natAbs + y.natAbs ≤ 40000000 ∧ Hid (red 5 x y = red 5 x0 y0) ∧ Below wr.heap.size wr wi) (fun sa sb _ => (intOf sa).natAbs + (intOf sb).natAbs)
      case atStart => exact ⟨x0, y0, rfl, rfl, hz0, hbd0, Lib.hid rfl, Below.refl _ _⟩
      case round =>
        obtain ⟨x, y, rfl, rfl, hz, hbd, Hred, hbi⟩ := hrel
        have hbx : -40000000 ≤ x ∧ x ≤ 40000000 := by omega
        have hby : -40000000 ≤ y ∧ y ≤ 40000000 := by omega
        obtain ⟨hx1, hx2⟩ := hbx; obtain ⟨hy1, hy2⟩ := hby
        have Hz := Lib.hid hz; clear hz
        by_cases h4 : x.tmod 625 = 0
        · have e4 : (x.tmod 625 == 0) = true := by simp [h4]
          by_cases h6 : y.tmod 15625 = 0
          · have e6 : (y.tmod 15625 == 0) = true := by simp [h6]
            have hgo := red_go (r := 5) (q := 625) (s := 15625) (x := x) (y := y) rfl rfl (by omega) Hz.out h4 h6
            obtain ⟨v6, hv6⟩ : ∃ v, y.tdiv 15625 = v := ⟨_, rfl⟩
            rw [hv6] at hgo
            have Hv6 := Lib.hid hv6; clear hv6
            obtain ⟨v4, hv4⟩ : ∃ v, x.tdiv 625 = v := ⟨_, rfl⟩
            rw [hv4] at hgo
            have Hv4 := Lib.hid hv4; clear hv4
            have Hgo := Lib.hid hgo; clear hgo
            go_wp2
            go_roundw
            case rel => exact ⟨v4, v6, by rw [Hv4.out], by rw [Hv6.out], Hgo.out.2.1, by have := Hgo.out.2.2; omega, Lib.hid (Hgo.out.1.trans Hred.out), hbi⟩
            case measure => have := Hgo.out.2.2; simp only [intOf, Hv6.out, Hv4.out]; omega
          · have e6 : (y.tmod 15625 == 0) = false := by simp [h6]
            have Hend := Lib.hid (show red 5 x0 y0 = (x, y) by rw [← Hred.out]; exact red_no (r := 5) (q := 625) (s := 15625) rfl rfl (.inr h6))
            clear h6
            go_wp2
            go_roundw
            case rel => exact ⟨4, _, y, by omega, by go_num, rfl, rfl, Lib.hid (by show red 5 (stS a b e 3).1 (stS a b e 3).2 = _; rw [Hst.out]; exact Hend.out), Hz.out, hbd, Lib.hid (bthen Hbr.out hbi)⟩
            case measure => simp [intOf]
        · have e4 : (x.tmod 625 == 0) = false := by simp [h4]
          have Hend := Lib.hid (show red 5 x0 y0 = (x, y) by rw [← Hred.out]; exact red_no (r := 5) (q := 625) (s := 15625) rfl rfl (.inl h4))
          clear h4
          go_wp2
          go_roundw
          case rel => exact ⟨4, _, y, by omega, by go_num, rfl, rfl, Lib.hid (by show red 5 (stS a b e 3).1 (stS a b e 3).2 = _; rw [Hst.out]; exact Hend.out), Hz.out, hbd, Lib.hid (bthen Hbr.out hbi)⟩
          case measure => simp [intOf]
    · have HRr := HR2.out.on Hbr.out
      have Hfin := Lib.hid (show nbR a b e = (x0, y0) by rw [← stS_end Hc.out Hev.out]; exact Hst.out)
      clear hz0 Hst
      have Hbw := Lib.hid (bal (bthen HbL.out Hbr.out) (Obj.cells #[.int .i64 x0, .int .i64 y0] 25))
      have HO := Lib.hid (Blk.new wr 25 #[.int .i64 x0, .int .i64 y0])
      have HRo := Lib.hid (HRr.alloc (Obj.cells #[.int .i64 x0, .int .i64 y0] 25))
      clear HRr Hbr
      go_wp2_with fail
      refine (ecGood_any x0 y0 _).mono ?_
      rintro r w4 ⟨rfl, hb4⟩
      have HR4 := Lib.hid (HRo.out.on hb4)
      have HO4 := Lib.hid (HO.out.on hb4)
      have Hb4 := Lib.hid (bthen Hbw.out hb4)
      clear hb4
      have r0 : w4.cell? ⟨w.heap.size + 1, 0, none⟩ = some (.int .i64 0) := HR4.out.cell 0
      have r1 : w4.cell? ⟨w.heap.size + 1, 1, none⟩ = some (.int .i64 0) := HR4.out.cell 1
      have rl := HR4.out.lt
      have f0 := HR4.out.frozen 0
      have f1 := HR4.out.frozen 1
      have o0 : w4.cell? ⟨wr.heap.size, 0, none⟩ = some (.int .i64 x0) := HO4.out.cell 0
      have o1 : w4.cell? ⟨wr.heap.size, 1, none⟩ = some (.int .i64 y0) := HO4.out.cell 1
      have ol := HO4.out.lt
      have Hnb := Lib.hid (show nbV a b e = cuO x0 y0 by unfold nbV cuO; rw [Hfin.out])
      have HB0 := Lib.hid (bst (bst Hb4.out (p := ⟨w.heap.size + 1, 0, none⟩) (by simp) (.int .i64 0)) (p := ⟨w.heap.size + 1, 1, none⟩) (by simp) (.int .i64 0))
      have HB1 := Lib.hid (bst (bst Hb4.out (p := ⟨w.heap.size + 1, 0, none⟩) (by simp) (.int .i64 x0)) (p := ⟨w.heap.size + 1, 1, none⟩) (by simp) (.int .i64 y0))
      cases hcv : curveB x0 y0
      · have Ho := Lib.hid (show cuO x0 y0 = none by unfold cuO; rw [if_neg (by rw [hcv]; exact Bool.false_ne_true)])
        clear hcv
        go_wp2
        clear r0 r1 f0 f1 rl
        have HR5 := HR4.out.set2 (b0 := .int .i64 0) (b1 := .int .i64 0)
        have r0 := HR5.cell 0
        have r1 := HR5.cell 1
        simp at r0 r1
        exact bodyPost_ret (v := .tuple #[.agg #[.int .i64 0, .int .i64 0], .bool false]) (by simp [results, Tryz.results48, go_sem, r0, r1]) rfl ⟨by rw [Hnb.out, Ho.out]; rfl, HB0.out⟩
      · have Ho := Lib.hid (show cuO x0 y0 = some ⟨x0, y0⟩ by unfold cuO; rw [if_pos hcv])
        clear hcv
        go_wp2
        clear r0 r1 f0 f1 rl
        have HR5 := HR4.out.set2 (b0 := .int .i64 x0) (b1 := .int .i64 y0)
        have r0 := HR5.cell 0
        have r1 := HR5.cell 1
        simp at r0 r1
        exact bodyPost_ret (v := .tuple #[.agg #[.int .i64 x0, .int .i64 y0], .bool true]) (by simp [results, Tryz.results48, go_sem, r0, r1]) rfl ⟨by rw [Hnb.out, Ho.out]; rfl, HB1.out⟩
end
section
open Go Go.RowKit

def ins {E : Type} (es : List E) (k : Nat) (u : E) : List E := es.take k ++ u :: es.drop k
theorem length_ins {E : Type} (es : List E) (k : Nat) (u : E) : (ins es k u).length = es.length + 1 := by
  unfold ins
  rw [List.length_append, List.length_cons, List.length_take, List.length_drop]
  omega
theorem ins_end {E : Type} (es : List E) (u : E) : ins es es.length u = es ++ [u] := by simp [ins]
section
variable {E : Type} {S : Shape E}
theorem flat_cons (y : E) (ys : List E) : S.flat (y :: ys) = S.cells y ++ S.flat ys := by simp [Shape.flat]
theorem flat_ins (es : List E) (k : Nat) (u : E) : S.flat (ins es k u) = S.flat (es.take k) ++ (S.cells u ++ S.flat (es.drop k)) := by
  unfold ins
  rw [Shape.flat_append, flat_cons]
theorem flat_cut (es : List E) (k : Nat) : S.flat es = S.flat (es.take k) ++ S.flat (es.drop k) := by
  rw [← Shape.flat_append, List.take_append_drop]
end
theorem lay_mid {u D X : List Value} (h : X.length = u.length + D.length) : lay X u.length D = X.take u.length ++ D := by
  have h1 := lay_over D (X.take u.length) (X.drop u.length) [] (by rw [List.length_drop]; omega)
  rw [List.append_nil, List.append_nil, List.take_append_drop, List.length_take, Nat.min_eq_left (by omega)] at h1
  exact h1
theorem lay_shift {A D Z u : List Value} (hz : Z.length = u.length) : lay (lay (A ++ (D ++ Z)) (A.length + u.length) D) A.length u = A ++ (u ++ D) := by
  rw [lay_right D A (D ++ Z) (A.length + u.length) (by omega), show A.length + u.length - A.length = u.length by omega, lay_mid (u := u) (D := D) (X := D ++ Z) (by rw [List.length_append]; omega)]
  exact lay_over u A ((D ++ Z).take u.length) D (by rw [List.length_take, List.length_append]; omega)
theorem lay_shift2 {A D R u : List Value} (h : R.length = u.length + D.length) : lay (lay (A ++ R) A.length u) (A.length + u.length) D = A ++ (u ++ D) := by
  have h1 := lay_over u A (R.take u.length) (R.drop u.length) (by rw [List.length_take]; omega)
  rw [List.take_append_drop] at h1
  rw [h1, lay_right D A (u ++ R.drop u.length) (A.length + u.length) (by omega), show A.length + u.length - A.length = u.length by omega, lay_mid (u := u) (D := D) (X := u ++ R.drop u.length) (by rw [List.length_append, List.length_drop]; omega)]
  rw [List.take_left]

section
variable {P : Program}
theorem run_copy_k (w : World) (dT sT ty elem : TypeId) (b o dLen dCap : Nat) (a : Addr) (sLen sCap size : Nat) (cs : List Value)
    (hu : P.underlying dT = some (.slice elem)) (hs : (P.info? elem).map (·.size) = some size) (hn : cs.length = Nat.min sLen dLen * size)
    (hsrc : ∀ j v, cs[j]? = some v → w.cell? (a.add j) = some v) (hc : ∀ j, j < cs.length → (w.cell? ⟨b, o + j, none⟩).isSome = true) (hf : ∀ j, j < cs.length → w.frozen? ⟨b, o + j, none⟩ = false) (h1 : ∀ v ∈ cs, v.oneCell' = true) :
    (Builtin.copy_ #[dT, sT] ty #[.slice (some ⟨b, o, none⟩) dLen dCap, .slice (some a) sLen sCap]).run P w = .ok (goInt (Nat.min sLen dLen)) (w.setCells b o cs) := by
  have hst := run_storeCells_cells (P := P) b o cs 0 w (by simpa using hc) (by simpa using hf) h1
  have hl := run_firstCells_some (P := P) w size (Nat.min sLen dLen) a sLen sCap cs hn hsrc
  simp only [Nat.add_zero] at hst
  cases hq : P.info? elem with
  | none => simp [hq] at hs
  | some i =>
    have hi : i.size = size := by simpa [hq] using hs
    subst hi
    simp [Builtin.copy_, run_underlying hu, Builtin.lenOf, sizeOf, typeInfo, hq, hl, hst]
variable {w : World} {base : Nat} {e : TypeId} {size g n cap : Nat} {xs : List Value}
/-- A copy into a row of the call's own. -/
theorem run_copy_own {t : TypeId} (hu : P.underlying t = some (.slice e)) (hs : (P.info? e).map (·.size) = some size) (h : w.ownsRow base e size (.slice (some ⟨g, 0, none⟩) n cap) n xs)
    {a : Addr} {cs : List Value} {o dLen sLen : Nat} (hn : cs.length = Nat.min sLen dLen * size) (hfit : o + cs.length ≤ n * size) (hsrc : ∀ j v, cs[j]? = some v → w.cell? (a.add j) = some v) (h1 : ∀ v ∈ cs, v.oneCell' = true) (ty : TypeId) (dCap sCap : Nat) :
    (Builtin.copy_ #[t, t] ty #[.slice (some ⟨g, o, none⟩) dLen dCap, .slice (some a) sLen sCap]).run P w = .ok (goInt (Nat.min sLen dLen)) (w.setCells g o cs) :=
  run_copy_k w t t ty e g o dLen dCap a sLen sCap size cs hu hs hn hsrc
    (fun j hj => by
      have hlt : o + j < xs.length := by rw [h.1]; omega
      rw [h.cellAt (o + j) (by omega), List.getElem?_eq_getElem hlt]; rfl)
    (fun j _ => h.frozenAt _) h1
theorem own_more (h : w.ownsRow base e size (.slice (some ⟨g, 0, none⟩) n cap) n xs) (hc : n + 1 ≤ cap) : ∃ zs, zs.length = size ∧ w.ownsRow base e size (.slice (some ⟨g, 0, none⟩) (n + 1) cap) (n + 1) (xs ++ zs) := by
  rcases h.2 with ⟨h', _⟩ | ⟨g', cap', cur, h', hb, hg, hnc, hcm, hcs, htake⟩
  · simp at h'
  · simp only [Value.slice.injEq, Option.some.injEq, Addr.mk.injEq, and_true, true_and] at h'
    obtain ⟨rfl, rfl⟩ := h'
    have hm : (n + 1) * size ≤ cap * size := Nat.mul_le_mul_right _ hc
    have he : (n + 1) * size = n * size + size := by rw [Nat.add_mul, Nat.one_mul]
    have hsz : (cur.toList.take ((n + 1) * size)).length = (n + 1) * size := by rw [List.length_take, Array.length_toList, hcs]; omega
    refine ⟨(cur.toList.take ((n + 1) * size)).drop (n * size), by rw [List.length_drop, hsz]; omega, ?_, .inr ⟨g, cap, cur, rfl, hb, hg, hc, hcm, hcs, ?_⟩⟩
    · rw [List.length_append, h.1, List.length_drop, hsz]; omega
    · have : xs = (cur.toList.take ((n + 1) * size)).take (n * size) := by rw [List.take_take, Nat.min_eq_left (by omega), htake]
      rw [this, List.take_append_drop]
theorem own_new {cur : Array Value} (hb : base ≤ w.heap.size) (hn : n ≤ cap) (hc : cap ≤ maxLen) (hs : cur.size = cap * size) : (w.alloc (.cells cur e)).ownsRow base e size (.slice (some ⟨w.heap.size, 0, none⟩) n cap) n (cur.toList.take (n * size)) := by
  have hm : n * size ≤ cap * size := Nat.mul_le_mul_right _ hn
  exact ⟨by rw [List.length_take, Array.length_toList, hs]; omega, .inr ⟨w.heap.size, cap, cur, rfl, hb, heap_alloc_new w _, hn, hc, hs, rfl⟩⟩
theorem own_shape (h : w.ownsRow base e size (.slice (some ⟨g, 0, none⟩) n cap) n xs) : w.shape? g = some (e, cap * size) := by
  rcases h.2 with ⟨h', _⟩ | ⟨g', cap', cur, h', hb, hg, hnc, hcm, hcs, htake⟩
  · simp at h'
  · simp only [Value.slice.injEq, Option.some.injEq, Addr.mk.injEq, and_true, true_and] at h'
    obtain ⟨rfl, rfl⟩ := h'
    simp [World.shape?, hg, hcs]
theorem own_caps (h : w.ownsRow base e size (.slice (some ⟨g, 0, none⟩) n cap) n xs) : n ≤ cap ∧ cap ≤ 9223372036854775807 := by
  rcases h.2 with ⟨h', _⟩ | ⟨g', cap', cur, h', hb, hg, hnc, hcm, hcs, htake⟩
  · simp at h'
  · simp only [Value.slice.injEq, Option.some.injEq, Addr.mk.injEq, and_true, true_and] at h'
    obtain ⟨rfl, rfl⟩ := h'
    exact ⟨hnc, by unfold maxLen at hcm; omega⟩
theorem blk_shape {cs : Array Value} {b : Nat} {t : TypeId} (h : Blk w b t cs) : w.shape? b = some (t, cs.size) := by
  unfold Blk at h
  simp [World.shape?, h]
theorem own_add (h : w.ownsRow base e size (.slice (some ⟨g, 0, none⟩) n cap) n xs) {o : Nat} {cs : List Value} (hx : ∀ j, j < cs.length → xs[o + j]? = cs[j]?) (hfit : o + cs.length ≤ n * size) : ∀ j v, cs[j]? = some v → w.cell? ((⟨g, o, none⟩ : Addr).add j) = some v := by
  intro j v hj
  have hl := (List.getElem?_eq_some_iff.1 hj).1
  rw [Addr.add_lit, h.cellAt (o + j) (by omega), hx j hl, hj]
end
end
section
open Go Go.RowKit

set_option maxHeartbeats 1600000 in
theorem icBefore_any (a b c d : Int) (w : World) :
    Calls Tryz.prog 161 #[.agg #[.int .i64 a, .int .i64 b], .agg #[.int .i64 c, .int .i64 d]] w fun e w' => e = .returned (.bool (decide (cmpC a b c d < 0))) ∧ Below w.heap.size w w' := by
  have HbA := Lib.hid (show Below w.heap.size w ((w.alloc (Obj.cells #[.int .i64 a, .int .i64 b] 25)).alloc (Obj.cells #[.int .i64 c, .int .i64 d] 25)) from bal (bal (Below.refl _ _) _) _)
  have Hc := Lib.hid (cmpC_lt a b c d)
  by_cases h1 : a < c
  · have e1 : decide (a < c) = true := decide_eq_true h1
    have Hf := Lib.hid (show decide (cmpC a b c d < 0) = true from decide_eq_true (Hc.out.2 (.inl h1)))
    clear h1
    go_enter Tryz.func161, Tryz.ntmps161
    go_wp2
    go_ret
    exact ⟨by rw [Hf.out]; rfl, HbA.out⟩
  · have e1 : decide (a < c) = false := decide_eq_false h1
    by_cases h2 : a = c
    · have e2 : (a == c) = true := by simp [h2]
      by_cases h3 : b < d
      · have e3 : decide (b < d) = true := decide_eq_true h3
        have Hf := Lib.hid (show decide (cmpC a b c d < 0) = true from decide_eq_true (Hc.out.2 (.inr ⟨h2, h3⟩)))
        clear h1 h2 h3
        go_enter Tryz.func161, Tryz.ntmps161
        go_wp2
        go_ret
        exact ⟨by rw [Hf.out]; rfl, HbA.out⟩
      · have e3 : decide (b < d) = false := decide_eq_false h3
        have Hf := Lib.hid (show decide (cmpC a b c d < 0) = false from decide_eq_false (fun h => (Hc.out.1 h).elim h1 (fun h => h3 h.2)))
        clear h1 h2 h3
        go_enter Tryz.func161, Tryz.ntmps161
        go_wp2
        go_ret
        exact ⟨by rw [Hf.out]; rfl, HbA.out⟩
    · have e2 : (a == c) = false := by simp [h2]
      have Hf := Lib.hid (show decide (cmpC a b c d < 0) = false from decide_eq_false (fun h => (Hc.out.1 h).elim h1 (fun h => h2 h.1)))
      clear h1 h2
      go_enter Tryz.func161, Tryz.ntmps161
      go_wp2
      go_ret
      exact ⟨by rw [Hf.out]; rfl, HbA.out⟩
/-- Two curves, held against each other: one Bool. -/
theorem eqlCuI (x y a b : Int) (W : World) : (binOp .eql 25 (.agg #[.int .i64 x, .int .i64 y]) (.agg #[.int .i64 a, .int .i64 b])).run Tryz.prog W = .ok (.bool (x == a && y == b)) W := by
  by_cases h1 : x = a <;> by_cases h2 : y = b <;> simp [go_sem, h1, h2]
theorem cu_eq {x y : Cu} : (x.a == y.a && x.b == y.b) = decide (x = y) := by
  rw [Bool.eq_iff_iff]
  simp only [Bool.and_eq_true, beq_iff_eq, decide_eq_true_eq]
  constructor
  · rintro ⟨h1, h2⟩; cases x; cases y; simp_all
  · rintro rfl; exact ⟨rfl, rfl⟩
/-- Where a curve stands in a list, or -1. -/
def atC (L : List Cu) (c : Cu) : Int := if c ∈ L then (L.idxOf c : Int) else -1
theorem atC_no {L : List Cu} {c : Cu} (h : ∀ j, j < L.length → cuS.get L j ≠ c) : atC L c = -1 := by
  unfold atC
  rw [if_neg]
  intro hm
  obtain ⟨j, hj, he⟩ := List.getElem_of_mem hm
  refine h j hj ?_
  unfold Shape.get; rw [List.getD_eq_getElem?_getD, List.getElem?_eq_getElem hj]; exact he
theorem getCu {L : List Cu} {k : Nat} (h : k < L.length) : cuS.get L k = L[k] := by
  unfold Shape.get; rw [List.getD_eq_getElem?_getD, List.getElem?_eq_getElem h]; rfl
theorem atC_yes {L : List Cu} {c : Cu} {k : Nat} (hk : k < L.length) (he : cuS.get L k = c) (h : ∀ j, j < k → cuS.get L j ≠ c) : atC L c = k := by
  rw [getCu hk] at he
  have hm : c ∈ L := by rw [← he]; exact List.getElem_mem hk
  unfold atC
  rw [if_pos hm]
  have hlt := List.idxOf_lt_length_iff.2 hm
  have hg := List.getElem_idxOf hlt
  rcases Nat.lt_trichotomy (L.idxOf c) k with h1 | h1 | h1
  · exact absurd (by rw [getCu hlt]; exact hg) (h _ h1)
  · rw [h1]
  · exfalso
    have h2 := List.not_of_lt_findIdx (p := (· == c)) (xs := L) (i := k) h1
    rw [he] at h2
    simp at h2
theorem atC_pos {L : List Cu} {c : Cu} : decide (atC L c ≥ 0) = decide (c ∈ L) := by
  unfold atC
  by_cases h : c ∈ L
  · rw [if_pos h, decide_eq_true h]; simp
  · rw [if_neg h, decide_eq_false h]; rfl

end
section
open Go Go.RowKit

section
variable {P : Program}
theorem run_append_src (w : World) (base : Nat) (t ty e : TypeId) (i : TypeInfo) (z : Value) (size bytes : Nat) (ht : P.underlying t = some (.slice e)) (hi : P.info? e = some i) (hz : i.zero = some z)
    (hsize : i.size = size) (hby : i.bytes = bytes) (hzs : z.cells.size = size) (hsz : 0 < size)
    (v : Value) (n : Nat) (xs : List Value) (hown : w.ownsRow base e size v n xs)
    (A : Option Addr) (m c : Nat) (news : List Value) (hl : news.length = m * size) (hA : A = none → m = 0) (hnews : ∀ a, A = some a → ∀ j u, news[j]? = some u → w.cell? (a.add j) = some u) (h1 : ∀ u ∈ news, u.oneCell' = true)
    (h63 : n + m ≤ maxLen) (hbytes : (n + m) * bytes ≤ 140737488355328) (hbase : base ≤ w.heap.size) :
    ∃ v' w', (Builtin.append_ #[t, t] ty #[v, .slice A m c]).run P w = .ok v' w' ∧ w'.ownsRow base e size v' (n + m) (xs ++ news) ∧ w.grownBy w' v.ownBlock ∧ (v'.ownBlock = v.ownBlock ∨ v'.ownBlock = some w.heap.size) := by
  cases A with
  | none =>
    obtain rfl := hA rfl
    obtain rfl : news = [] := List.eq_nil_of_length_eq_zero (by simpa using hl)
    refine ⟨v, w, ?_, by simpa using hown, grefl _ _, .inl rfl⟩
    rcases hown.2 with ⟨rfl, rfl⟩ | ⟨g, cap, cur, rfl, _, _, hnc, _⟩
    · simp [Builtin.append_, run_underlying ht, sizeOf, typeInfo, hi, Builtin.lenOf, Builtin.firstCells]
    · simp [Builtin.append_, run_underlying ht, sizeOf, typeInfo, hi, Builtin.lenOf, Builtin.firstCells, hnc, storeCells]
  | some a =>
    obtain ⟨v', w', h2, h3, h4, -, h5⟩ := run_append_own_at w base t ty e i z size bytes ht hi hz hsize hby hzs hsz v n xs hown a m c news hl (hnews a rfl) h1 h63 hbytes hbase
    exact ⟨v', w', h2, h3, h4, h5⟩
/-- An append at a step of a region that draws its order: the row is the call's own, above all that was there in w0. -/
theorem step_append_src {ops : Array Oper} {o : Oper} {a : Act} {w : World} {K : Act → World → Prop} {Q : Exit → Act → World → Prop} {E : Prop} (hgd : o.guard = none) (s x : Operand) (t : TypeId)
    (ho : o.op = .call { callee := .builtin .append, args := #[s, x], argTypes := #[t, t] })
    (e : TypeId) (i : TypeInfo) (z : Value) (size bytes : Nat) (ht : P.underlying t = some (.slice e)) (hi : P.info? e = some i) (hz : i.zero = some z)
    (hsize : i.size = size) (hby : i.bytes = bytes) (hzs : z.cells.size = size) (hsz : 0 < size) (w0 : World) (hb : Below w0.heap.size w0 w)
    (v : Value) (n : Nat) (xs : List Value) (hs : a.eval s = v) (hown : w.ownsRow w0.heap.size e size v n xs)
    (A : Option Addr) (m c : Nat) (news : List Value) (hx : a.eval x = .slice A m c) (hl : news.length = m * size) (hA : A = none → m = 0) (hnews : ∀ a, A = some a → ∀ j u, news[j]? = some u → w.cell? (a.add j) = some u) (h1 : ∀ u ∈ news, u.oneCell' = true)
    (h63 : n + m ≤ maxLen) (hbytes : (n + m) * bytes ≤ 140737488355328)
    (h : ∀ v' w', w'.ownsRow w0.heap.size e size v' (n + m) (xs ++ news) → Below w0.heap.size w0 w' → (∀ b t cs, Blk w b t cs → v.ownBlock ≠ some b → Blk w' b t cs) → K (a.put o.dst v') w') :
    if Region.wanted o (yielded ops a.tmps) = true then Oper.wp P o a w K Q else E := by
  have hw : Region.wanted o (yielded ops a.tmps) = true := by simp [Region.wanted, hgd]
  rw [if_pos hw]
  obtain ⟨v', w', hr, h2, h3, -⟩ := run_append_src (P := P) w w0.heap.size t o.type e i z size bytes ht hi hz hsize hby hzs hsz v n xs hown A m c news hl hA hnews h1 h63 hbytes hb.size
  unfold Oper.wp execOp
  simp only [ho, resolve, invoke, builtin, Sem.run_bind, Sem.run_pure, Result.andThen_ok, List.map_toArray, List.map_cons, List.map_nil, hs, hx, hr]
  exact h v' w' h2 (Below.grown hb h3 hb.size (fun k hk => (hown.lt k hk).1)) (fun b t cs hB hne => (h3.block b hB.lt (fun e => hne e.symm)).trans hB)
end
theorem src_below {w0 w : World} {A : Option Addr} {news : List Value} (hb : Below w0.heap.size w0 w) (h : ∀ a, A = some a → ∀ j u, news[j]? = some u → w0.cell? (a.add j) = some u) : ∀ a, A = some a → ∀ j u, news[j]? = some u → w.cell? (a.add j) = some u := by
  intro a ha j u hj
  have := h a ha j u hj
  rw [hb.cell (World.block_lt_of_cell? w0 _ this)]
  exact this
theorem own_empty {X w0 : World} {e : TypeId} {size : Nat} (h : w0.heap.size ≤ X.heap.size) : (X.alloc (.cells #[] e)).ownsRow w0.heap.size e size (.slice (some ⟨X.heap.size, 0, none⟩) 0 0) 0 [] :=
  World.ownsRow_lit X #[] 0 h (by unfold maxLen; omega) (by simp)
theorem own_empty1 {X w0 : World} {o : Obj} {e : TypeId} {size : Nat} (h : w0.heap.size ≤ X.heap.size) : ((X.alloc o).alloc (.cells #[] e)).ownsRow w0.heap.size e size (.slice (some ⟨X.heap.size + 1, 0, none⟩) 0 0) 0 [] := by
  have := own_empty (X := X.alloc o) (w0 := w0) (e := e) (size := size) (by simp; omega)
  rw [World.size_alloc] at this
  exact this
theorem lit_src {w : World} {b : Nat} {news : List Value} (h : ∀ j u, news[j]? = some u → w.cell? ((⟨b, 0, none⟩ : Addr).add j) = some u) : ∀ a, some (⟨b, 0, none⟩ : Addr) = some a → ∀ j u, news[j]? = some u → w.cell? (a.add j) = some u := by
  intro a ha
  cases ha
  exact h
theorem ob_ne {v : Value} {x n c b : Nat} (hv : v = .slice (some ⟨x, 0, none⟩) n c) (h : x ≠ b) : v.ownBlock ≠ some b := by
  subst hv
  simpa [Value.ownBlock] using h
end
end Go.Proofs.YtacehhcpfollnaaGreat
