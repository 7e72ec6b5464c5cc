/- Roots, smallest models, neighbours: the walks of both sides. Conditions: the curve's bounds. Printed by gen_ica.py. -/
import Derived.Test.YtnhgdmhiblpknaaIcP
import Derived.Test.YtnhgdmhiblpknaaBase2
import Derived.Test.YtnhgdmhiblpknaaRow
import Derived.IntWalk
import Derived.Deep.RegionHeld3
import Derived.RegionTactic
import Derived.BigRegion
import Derived.Maps.AppendAt
namespace Go.Proofs.Ytnhgdmhiblpknaa
open Go Go.RowKit

theorem infoIntC : (Try.prog.info? 3).map (fun i => (i.zero, i.size, i.bytes)) = some (some (.int .i64 0), 1, 8) := by kernel_rfl
theorem ev_bds {a x : Int} (h1 : -1000 ≤ a) (h2 : a ≤ 1000) (h5 : -200 ≤ x) (h6 : x ≤ 200) :
    (-40000 ≤ x * x ∧ x * x ≤ 40000) ∧ (-8000000 ≤ x * x * x ∧ x * x * x ≤ 8000000) ∧ (-200000 ≤ a * x ∧ a * x ≤ 200000) := by
  have e1 := mul_bd x x 200 200 h5 h6 h5 h6
  have e2 := mul_bd (x * x) x 40000 200 (by omega) (by omega) h5 h6
  have e3 := mul_bd a x 1000 200 h1 h2 h5 h6
  refine ⟨⟨by omega, by omega⟩, ⟨by omega, by omega⟩, by omega, by omega⟩
set_option maxHeartbeats 400000 in
theorem ecValue_any (a b x : Int) (w : World) (h1 : -1000 ≤ a) (h2 : a ≤ 1000) (h3 : -10000 ≤ b) (h4 : b ≤ 10000) (h5 : -200 ≤ x) (h6 : x ≤ 200) :
    Calls Try.prog 79 #[.agg #[.int .i64 a, .int .i64 b], .int .i64 x] w fun e w' => e = .returned (.int .i64 (evZ a b x)) ∧ Below w.heap.size w w' := by
  obtain ⟨⟨k11, k12⟩, ⟨k21, k22⟩, k31, k32⟩ := ev_bds h1 h2 h5 h6
  go_enter Try.func79, Try.ntmps79
  go_wp2
  go_ret
  exact ⟨rfl, (Below.refl _ _).alloc (Nat.le_refl _) _⟩
set_option maxRecDepth 4000 in
set_option maxHeartbeats 4000000 in
theorem ecRoots_any (a b : Int) (w : World) (hc : curveB a b = true) :
    Calls Try.prog 64 #[.agg #[.int .i64 a, .int .i64 b]] w fun e w' => (∃ v, e = .returned v ∧ w'.ownsRow w.heap.size 3 1 v (rootsV a b).length ((rootsV a b).map (Value.int .i64))) ∧ Below w.heap.size w w' := by
  obtain ⟨i0, hi, hz0, hz1, hz2⟩ := info_parts infoIntC
  obtain ⟨⟨a1, a2⟩, b1, b2⟩ := curveB_bd hc
  clear hc
  have HbA := Lib.hid (show Below w.heap.size w (w.alloc (Obj.cells #[.int .i64 a, .int .i64 b] 37)) from bal (Below.refl _ _) _)
  have HB := Lib.hid (Blk.new w 37 #[.int .i64 a, .int .i64 b])
  go_enter Try.func64, Try.ntmps64
  go_wp2
  generalize w.alloc (Obj.cells #[.int .i64 a, .int .i64 b] 37) = W at HbA HB ⊢
  go_loopw [3, 4] (fun o i wr => ∃ k : Nat, k ≤ 201 ∧ i = .int .i64 (-100 + (k : Int)) ∧ Below W.heap.size W wr ∧ Hid (wr.ownsRow W.heap.size 3 1 o (rootsF a b (-100) k).length ((rootsF a b (-100) k).map (Value.int .i64)))) (fun _ i _ => (101 - intOf i).toNat)
  case atStart => exact ⟨0, by omega, rfl, Below.refl _ _, Lib.hid ⟨rfl, Or.inl ⟨rfl, rfl⟩⟩⟩
  case round =>
    obtain ⟨k, hk, rfl, hb, Hown⟩ := hrel
    have hB := HB.out.on hb
    by_cases hlt : k < 201
    · have hn := rootsF_len a b (-100) k
      have hyes := Lib.hid (rootsF_yes (a := a) (b := b) (lo := -100) (n := k))
      have hno := Lib.hid (rootsF_no (a := a) (b := b) (lo := -100) (n := k))
      obtain ⟨x, hx⟩ : ∃ x, -100 + (k : Int) = x := ⟨_, rfl⟩
      rw [hx] at hyes hno ⊢
      have hle : x ≤ 100 := by omega
      have hge : -100 ≤ x := by omega
      have Hx := Lib.hid hx; clear hx
      have q0 : wr.cell? ⟨w.heap.size, 0, none⟩ = some (.int .i64 a) := hB.cell 0
      have q1 : wr.cell? ⟨w.heap.size, 1, none⟩ = some (.int .i64 b) := hB.cell 1
      have ql := hB.lt
      clear hB
      have Hval := Lib.hid (fun w => ecValue_any a b x w a1 a2 b1 b2 (by omega) (by omega))
      go_wp2_with fail
      refine (Hval.out _).mono ?_
      rintro r w3 ⟨rfl, hb3⟩
      have Hown3 := Lib.hid (own_below Hown.out hb3)
      have Hb3 := Lib.hid (bthen hb hb3)
      clear hb hb3 q0 q1 ql Hown Hval
      by_cases he : evZ a b x = 0
      · have Hn := Lib.hid (hyes.out he)
        have hd : (evZ a b x == 0) = true := by simp [he]
        clear he
        go_wp2_with (at_builtin; refine wpList_append_own _ rfl _ _ 43 rfl W.heap.size 3 i0 (.int .i64 0) 1 8 Try.underlying43 hi hz0 hz1 hz2 rfl (by decide) _ _ _ rfl (Hown3.out.alloc _) ⟨w3.heap.size, 0, none⟩ 1 1 [.int .i64 x] rfl rfl ?c1 ?c2 ?c3 ?c4 ?c5 ?_)
        case c1 =>
          intro j u hj
          match j, hj with
          | 0, hj => simp at hj; subst hj; exact (Blk.new w3 _ _).cell 0
        case c2 => intro u hu; simp at hu; subst hu; rfl
        case c3 => unfold maxLen; omega
        case c4 => omega
        case c5 => have := Hb3.out.size; simp; omega
        intro v6 w6 hown6 hgrow _
        have Hb6 := Lib.hid (Below.grown (bal Hb3.out _) hgrow (by have := Hb3.out.size; simp; omega) (fun j hj => (Hown3.out.lt j hj).1))
        have Hown6 := Lib.hid (show w6.ownsRow W.heap.size 3 1 v6 (rootsF a b (-100) (k + 1)).length ((rootsF a b (-100) (k + 1)).map (Value.int .i64)) by rw [Hn.out, List.map_append, List.length_append]; exact hown6)
        clear hown6 hgrow
        go_wp2
        go_roundw
        case rel => exact ⟨k + 1, by omega, by have := Hx.out; first | (congr 1; omega) | go_num, Hb6.out, Hown6⟩
        case measure => have := Hx.out; simp [intOf]; omega
      · have Hn := Lib.hid (hno.out he)
        have hd : (evZ a b x == 0) = false := by simp [he]
        clear he
        go_wp2
        go_roundw
        case rel => exact ⟨k + 1, by omega, by have := Hx.out; first | (congr 1; omega) | go_num, Hb3.out, Lib.hid (by rw [Hn.out]; exact Hown3.out)⟩
        case measure => have := Hx.out; simp [intOf]; omega
    · have Hend := Lib.hid (show rootsF a b (-100) k = rootsV a b by rw [show k = 201 by omega]; rfl)
      have hle : ¬ (-100 + (k : Int) ≤ 100) := by omega
      go_wp2
      go_ret
      exact ⟨⟨_, rfl, by rw [← Hend.out]; exact own_mono Hown.out (Nat.le_of_lt (by have := HB.out.lt; have := HbA.out.size; omega))⟩, bthen HbA.out hb⟩
set_option maxRecDepth 4000 in
set_option maxHeartbeats 4000000 in
theorem orderTwo_any (a b : Int) (w : World) (hc : curveB a b = true) :
    Calls Try.prog 70 #[.agg #[.int .i64 a, .int .i64 b]] w fun e w' => (∃ v, e = .returned (.tuple #[v, .bool true]) ∧ w'.ownsRow w.heap.size 3 1 v (rootsV a b).length ((rootsV a b).map (Value.int .i64))) ∧ Below w.heap.size w w' := by
  obtain ⟨i0, hi, hz0, hz1, hz2⟩ := info_parts infoIntC
  obtain ⟨⟨a1, a2⟩, b1, b2⟩ := curveB_bd hc
  have Hc := Lib.hid hc; clear hc
  have HbA := Lib.hid (show Below w.heap.size w (w.alloc (Obj.cells #[.int .i64 a, .int .i64 b] 37)) from bal (Below.refl _ _) _)
  have HB := Lib.hid (Blk.new w 37 #[.int .i64 a, .int .i64 b])
  go_enter Try.func70, Try.ntmps70
  go_wp2_with fail
  refine (isCurve_any a b _).mono ?_
  rintro e W ⟨rfl, hb1⟩
  rw [Hc.out]
  replace HbA := Lib.hid (bthen HbA.out hb1)
  replace HB := Lib.hid (HB.out.on hb1)
  clear hb1
  go_wp2
  go_loopw [4, 5] (fun o i wr => ∃ k : Nat, k ≤ 401 ∧ i = .int .i64 (-200 + (k : Int)) ∧ Below W.heap.size W wr ∧ Hid (wr.ownsRow W.heap.size 3 1 o (rootsF a b (-200) k).length ((rootsF a b (-200) k).map (Value.int .i64)))) (fun _ i _ => (201 - intOf i).toNat)
  case atStart => exact ⟨0, by omega, rfl, Below.refl _ _, Lib.hid ⟨rfl, Or.inl ⟨rfl, rfl⟩⟩⟩
  case round =>
    obtain ⟨k, hk, rfl, hb, Hown⟩ := hrel
    have hB := HB.out.on hb
    by_cases hlt : k < 401
    · have hn := rootsF_len a b (-200) k
      have hyes := Lib.hid (rootsF_yes (a := a) (b := b) (lo := -200) (n := k))
      have hno := Lib.hid (rootsF_no (a := a) (b := b) (lo := -200) (n := k))
      obtain ⟨x, hx⟩ : ∃ x, -200 + (k : Int) = x := ⟨_, rfl⟩
      rw [hx] at hyes hno ⊢
      have hle : x ≤ 200 := by omega
      have hge : -200 ≤ x := by omega
      have Hx := Lib.hid hx; clear hx
      have q0 : wr.cell? ⟨w.heap.size, 0, none⟩ = some (.int .i64 a) := hB.cell 0
      have q1 : wr.cell? ⟨w.heap.size, 1, none⟩ = some (.int .i64 b) := hB.cell 1
      have ql := hB.lt
      clear hB
      obtain ⟨⟨k11, k12⟩, ⟨k21, k22⟩, k31, k32⟩ := ev_bds a1 a2 hge hle
      have Hown3 := Hown
      have Hb3 := Lib.hid hb
      obtain ⟨w3, hw3⟩ : ∃ w3, wr = w3 := ⟨_, rfl⟩
      by_cases he : x * x * x + a * x + b = 0
      · have Hn := Lib.hid (hyes.out he)
        have hd : (x * x * x + a * x + b == 0) = true := by simp [he]
        clear he
        subst hw3
        go_wp2_with (at_builtin; refine wpList_append_own _ rfl _ _ 43 rfl W.heap.size 3 i0 (.int .i64 0) 1 8 Try.underlying43 hi hz0 hz1 hz2 rfl (by decide) _ _ _ rfl (Hown3.out.alloc _) ⟨wr.heap.size, 0, none⟩ 1 1 [.int .i64 x] rfl rfl ?c1 ?c2 ?c3 ?c4 ?c5 ?_)
        case c1 =>
          intro j u hj
          match j, hj with
          | 0, hj => simp at hj; subst hj; exact (Blk.new wr _ _).cell 0
        case c2 => intro u hu; simp at hu; subst hu; rfl
        case c3 => unfold maxLen; omega
        case c4 => omega
        case c5 => have := Hb3.out.size; simp; omega
        intro v6 w6 hown6 hgrow _
        have Hb6 := Lib.hid (Below.grown (bal Hb3.out _) hgrow (by have := Hb3.out.size; simp; omega) (fun j hj => (Hown3.out.lt j hj).1))
        have Hown6 := Lib.hid (show w6.ownsRow W.heap.size 3 1 v6 (rootsF a b (-200) (k + 1)).length ((rootsF a b (-200) (k + 1)).map (Value.int .i64)) by rw [Hn.out, List.map_append, List.length_append]; exact hown6)
        clear hown6 hgrow
        go_wp2
        go_roundw
        case rel => exact ⟨k + 1, by omega, by have := Hx.out; first | (congr 1; omega) | go_num, Hb6.out, Hown6⟩
        case measure => have := Hx.out; simp [intOf]; omega
      · have Hn := Lib.hid (hno.out he)
        have hd : (x * x * x + a * x + b == 0) = false := by simp [he]
        clear he hw3
        go_wp2
        go_roundw
        case rel => exact ⟨k + 1, by omega, by have := Hx.out; first | (congr 1; omega) | go_num, Hb3.out, Lib.hid (by rw [Hn.out]; exact Hown3.out)⟩
        case measure => have := Hx.out; simp [intOf]; omega
    · have Hend := Lib.hid (show rootsF a b (-200) k = rootsV a b by rw [show k = 401 by omega]; exact roots_wide Hc.out)
      have hle : ¬ (-200 + (k : Int) ≤ 200) := by omega
      go_wp2
      go_ret2
      exact ⟨⟨_, rfl, by rw [← Hend.out]; exact own_mono Hown.out (Nat.le_of_lt (by have := HB.out.lt; have := HbA.out.size; omega))⟩, bthen HbA.out hb⟩
theorem up_bds {u : Int} (h1 : 1 ≤ u) (h2 : u ≤ 10) : (1 ≤ u * u ∧ u * u ≤ 100) ∧ (1 ≤ u * u * u ∧ u * u * u ≤ 1000) ∧ (1 ≤ u * u * u * u ∧ u * u * u * u ≤ 10000) ∧ (1 ≤ u * u * u * u * u ∧ u * u * u * u * u ≤ 100000) ∧ (1 ≤ u * u * u * u * u * u ∧ u * u * u * u * u * u ≤ 1000000) := by
  have key : ∀ {p m : Int}, 1 ≤ p → p ≤ m → 1 ≤ p * u ∧ p * u ≤ m * 10 := fun hp hm =>
    ⟨Int.mul_pos (by omega) (by omega), Int.mul_le_mul hm h2 (by omega) (by omega)⟩
  have e2 := key h1 h2
  have e3 := key e2.1 e2.2
  have e4 := key e3.1 e3.2
  have e5 := key e4.1 e4.2
  have e6 := key e5.1 e5.2
  exact ⟨by omega, by omega, by omega, by omega, by omega⟩
theorem dvd_tm {q a : Int} : q ∣ a ↔ a.tmod q = 0 := Int.dvd_iff_tmod_eq_zero
theorem dvd_td {q a : Int} (h : q ∣ a) : a.tdiv q = a / q := Int.tdiv_eq_ediv_of_dvd h
theorem dv_cases (a b u : Int) : (a.tmod (u * u * u * u) ≠ 0 ∧ dvU a b u = false) ∨ (a.tmod (u * u * u * u) = 0 ∧ b.tmod (u * u * u * u * u * u) ≠ 0 ∧ dvU a b u = false) ∨ (a.tmod (u * u * u * u) = 0 ∧ b.tmod (u * u * u * u * u * u) = 0 ∧ dvU a b u = true) := by
  have e : dvU a b u = decide (a.tmod (u * u * u * u) = 0 ∧ b.tmod (u * u * u * u * u * u) = 0) := by
    unfold dvU p4 p6
    rw [decide_eq_decide, dvd_tm, dvd_tm]
  rw [e]
  by_cases h4 : a.tmod (u * u * u * u) = 0
  · by_cases h6 : b.tmod (u * u * u * u * u * u) = 0
    · exact .inr (.inr ⟨h4, h6, by simp [h4, h6]⟩)
    · exact .inr (.inl ⟨h4, h6, by simp [h6]⟩)
  · exact .inl ⟨h4, by simp [h4]⟩
theorem dv_down {a b u : Int} (hu : ∀ v, u < v → v ≤ 10 → dvU a b v = false) (hd : dvU a b u = false) : u ≠ 1 ∧ ∀ v, u - 1 < v → v ≤ 10 → dvU a b v = false := by
  refine ⟨fun h => absurd hd (by rw [h, dvU_one]; exact fun h => Bool.noConfusion h), fun v h1 h2 => ?_⟩
  by_cases h3 : u = v
  · rw [← h3]; exact hd
  · exact hu v (by omega) h2
theorem td_abs (a q : Int) (m : Int) (h : -m ≤ a ∧ a ≤ m) : -m ≤ a.tdiv q ∧ a.tdiv q ≤ m := by
  have := Int.natAbs_tdiv_le_natAbs a q
  omega
set_option maxRecDepth 4000 in
set_option maxHeartbeats 4000000 in
theorem smallest_any (a b : Int) (w : World) (hc : curveB a b = true) :
    Calls Try.prog 38 #[.agg #[.int .i64 a, .int .i64 b]] w fun e w' => e = .returned (.tuple #[.agg #[.int .i64 (smC a b).a, .int .i64 (smC a b).b], .int .i64 (smU a b)]) ∧ Below w.heap.size w w' := by
  obtain ⟨⟨a1, a2⟩, b1, b2⟩ := curveB_bd hc
  have Hc := Lib.hid hc; clear hc
  have HbA := Lib.hid (show Below w.heap.size w ((w.alloc (Obj.cells #[.int .i64 a, .int .i64 b] 37)).alloc (Obj.cells #[.int .i64 0, .int .i64 0] 37)) from bal (bal (Below.refl _ _) _) _)
  have HB := Lib.hid ((Blk.new w 37 #[.int .i64 a, .int .i64 b]).alloc (Obj.cells #[.int .i64 0, .int .i64 0] 37))
  have HR := Lib.hid (Blk.new1 w (Obj.cells #[.int .i64 a, .int .i64 b] 37) 37 #[.int .i64 0, .int .i64 0])
  go_enter Try.func38, Try.ntmps38
  go_wp2
  generalize (w.alloc (Obj.cells #[.int .i64 a, .int .i64 b] 37)).alloc (Obj.cells #[.int .i64 0, .int .i64 0] 37) = W at HbA HB HR ⊢
  go_loopw [4] (fun i wr => ∃ u : Int, 1 ≤ u ∧ u ≤ 10 ∧ i = .int .i64 u ∧ Hid (∀ v, u < v → v ≤ 10 → dvU a b v = false) ∧ W = wr) (fun i _ => (intOf i).toNat)
  case atStart => exact ⟨10, by omega, by omega, rfl, Lib.hid (fun v h1 h2 => by omega), rfl⟩
  case round =>
    obtain ⟨u, hu1, hu2, rfl, Hu, rfl⟩ := hrel
    obtain ⟨⟨k21, k22⟩, ⟨k31, k32⟩, ⟨k41, k42⟩, ⟨k51, k52⟩, k61, k62⟩ := up_bds hu1 hu2
    have hn4 : u * u * u * u ≠ 0 := by omega
    have hn6 : u * u * u * u * u * u ≠ 0 := by omega
    have q0 : W.cell? ⟨w.heap.size, 0, none⟩ = some (.int .i64 a) := HB.out.cell 0
    have q1 : W.cell? ⟨w.heap.size, 1, none⟩ = some (.int .i64 b) := HB.out.cell 1
    have ql := HB.out.lt
    have step := dv_down (a := a) (b := b) Hu.out
    rcases dv_cases a b u with ⟨h4, hd⟩ | ⟨h4, h6, hd⟩ | ⟨h4, h6, hd⟩
    · obtain ⟨hne, hst0⟩ := step hd
      have hst := Lib.hid hst0; clear hst0
      have e4 : (a.tmod (u * u * u * u) == 0) = false := by simp [h4]
      clear hd step h4
      go_wp2
      go_roundw
      case rel => exact ⟨u - 1, by omega, by omega, rfl, hst, trivial⟩
      case measure => simp [intOf]; omega
    · obtain ⟨hne, hst0⟩ := step hd
      have hst := Lib.hid hst0; clear hst0
      have e4 : (a.tmod (u * u * u * u) == 0) = true := by simp [h4]
      have e6 : (b.tmod (u * u * u * u * u * u) == 0) = false := by simp [h6]
      clear hd step h4 h6
      go_wp2
      go_roundw
      case rel => exact ⟨u - 1, by omega, by omega, rfl, hst, trivial⟩
      case measure => simp [intOf]; omega
    · have hsm := smU_max Hc.out hd hu1 Hu.out hu2
      have v4 : a.tdiv (u * u * u * u) = (smC a b).a := by unfold smC p4; rw [hsm]; exact dvd_td (dvd_tm.2 h4)
      have v6 : b.tdiv (u * u * u * u * u * u) = (smC a b).b := by unfold smC p6; rw [hsm]; exact dvd_td (dvd_tm.2 h6)
      have e4 : (a.tmod (u * u * u * u) == 0) = true := by simp [h4]
      have e6 : (b.tmod (u * u * u * u * u * u) == 0) = true := by simp [h6]
      have V4 := Lib.hid v4; have V6 := Lib.hid v6; have Hsm := Lib.hid hsm
      clear hd step h4 h6 v4 v6 hsm
      have r0 : W.cell? ⟨w.heap.size + 1, 0, none⟩ = some (.int .i64 0) := HR.out.cell 0
      have r1 : W.cell? ⟨w.heap.size + 1, 1, none⟩ = some (.int .i64 0) := HR.out.cell 1
      have rl := HR.out.lt
      have f0 := HR.out.frozen 0
      have f1 := HR.out.frozen 1
      go_wp2
      go_region
      go_wp2
      clear r0 r1 rl f0 f1
      have HR4 := HR.out.set2 (b0 := .int .i64 (smC a b).a) (b1 := .int .i64 (smC a b).b)
      have r0 := HR4.cell 0
      have r1 := HR4.cell 1
      simp at r0 r1
      rw [V4.out, V6.out]
      exact bodyPost_ret (v := .tuple #[.agg #[.int .i64 (smC a b).a, .int .i64 (smC a b).b], .int .i64 u]) (by simp [results, Try.results38, go_sem, r0, r1]) rfl ⟨by rw [Hsm.out], (bst (bst HbA.out (p := ⟨w.heap.size + 1, 0, none⟩) (by simp) _) (p := ⟨w.heap.size + 1, 1, none⟩) (by simp) _).drew⟩
theorem smB_yes {a b : Int} {n : Nat} (h : dvU a b ((n : Int) + 2) = true) : smB a b (n + 1) = (n : Int) + 2 := by unfold smB; rw [if_pos h]
theorem smB_no {a b : Int} {n : Nat} (h : dvU a b ((n : Int) + 2) = false) : smB a b (n + 1) = smB a b n := by
  conv => lhs; unfold smB
  rw [if_neg (by rw [h]; exact Bool.false_ne_true)]
theorem smC_sq (a b u : Int) (h : smU a b = u) : a.tdiv (u * u * (u * u)) = (smC a b).a ∧ b.tdiv (u * u * (u * u) * (u * u)) = (smC a b).b := by
  have hd := smU_dv a b
  rw [h] at hd
  unfold dvU at hd
  rw [decide_eq_true_eq] at hd
  have e4 : u * u * (u * u) = p4 u := by unfold p4; simp only [Int.mul_assoc]
  have e6 : u * u * (u * u) * (u * u) = p6 u := by unfold p6; simp only [Int.mul_assoc]
  rw [e6, e4, dvd_td hd.1, dvd_td hd.2]
  unfold smC
  rw [h]
  exact ⟨rfl, rfl⟩
set_option maxRecDepth 4000 in
set_option maxHeartbeats 4000000 in
theorem ecSmallest_any (a b : Int) (w : World) (hc : curveB a b = true) :
    Calls Try.prog 32 #[.agg #[.int .i64 a, .int .i64 b]] w fun e w' => e = .returned (.tuple #[.agg #[.int .i64 (smC a b).a, .int .i64 (smC a b).b], .int .i64 (smU a b)]) ∧ Below w.heap.size w w' := by
  obtain ⟨⟨a1, a2⟩, b1, b2⟩ := curveB_bd hc
  clear hc
  have HbA := Lib.hid (show Below w.heap.size w ((w.alloc (Obj.cells #[.int .i64 a, .int .i64 b] 37)).alloc (Obj.cells #[.int .i64 0, .int .i64 0] 37)) from bal (bal (Below.refl _ _) _) _)
  have HB := Lib.hid ((Blk.new w 37 #[.int .i64 a, .int .i64 b]).alloc (Obj.cells #[.int .i64 0, .int .i64 0] 37))
  have HR := Lib.hid (Blk.new1 w (Obj.cells #[.int .i64 a, .int .i64 b] 37) 37 #[.int .i64 0, .int .i64 0])
  go_enter Try.func32, Try.ntmps32
  go_wp2
  generalize (w.alloc (Obj.cells #[.int .i64 a, .int .i64 b] 37)).alloc (Obj.cells #[.int .i64 0, .int .i64 0] 37) = W at HbA HB HR ⊢
  go_loopw [5, 4] (fun i m wr => ∃ n : Nat, n ≤ 4 ∧ i = .int .i64 ((n : Int) + 2) ∧ m = .int .i64 (smB a b n) ∧ W = wr) (fun i _ _ => (10 - intOf i).toNat)
  case atStart => exact ⟨0, by omega, rfl, rfl, rfl⟩
  case round =>
    obtain ⟨n, hn, rfl, rfl, rfl⟩ := hrel
    have q0 : W.cell? ⟨w.heap.size, 0, none⟩ = some (.int .i64 a) := HB.out.cell 0
    have q1 : W.cell? ⟨w.heap.size, 1, none⟩ = some (.int .i64 b) := HB.out.cell 1
    have ql := HB.out.lt
    by_cases hlt : n < 4
    · have hyes := Lib.hid (smB_yes (a := a) (b := b) (n := n))
      have hno := Lib.hid (smB_no (a := a) (b := b) (n := n))
      obtain ⟨u, hu⟩ : ∃ u, (n : Int) + 2 = u := ⟨_, rfl⟩
      have hu1 : 1 ≤ u := by omega
      have hu2 : u ≤ 10 := by omega
      have hu3 : u ≤ 5 := by omega
      rw [hu] at hyes hno ⊢
      have Hu := Lib.hid hu; clear hu
      obtain ⟨⟨k21, k22⟩, ⟨k31, k32⟩, ⟨k41, k42⟩, ⟨k51, k52⟩, k61, k62⟩ := up_bds hu1 hu2
      have hn4 : u * u * u * u ≠ 0 := by omega
      have hn6 : u * u * u * u * u * u ≠ 0 := by omega
      rcases dv_cases a b u with ⟨h4, hd⟩ | ⟨h4, h6, hd⟩ | ⟨h4, h6, hd⟩
      · have Hn := Lib.hid (hno.out hd)
        have e4 : (a.tmod (u * u * u * u) == 0) = false := by simp [h4]
        clear hd h4 hyes hno
        go_wp2
        go_roundw
        case rel => exact ⟨n + 1, by omega, by have := Hu.out; first | (congr 1; omega) | go_num, by rw [Hn.out], trivial⟩
        case measure => have := Hu.out; simp [intOf]; omega
      · have Hn := Lib.hid (hno.out hd)
        have e4 : (a.tmod (u * u * u * u) == 0) = true := by simp [h4]
        have e6 : (b.tmod (u * u * u * u * u * u) == 0) = false := by simp [h6]
        clear hd h4 h6 hyes hno
        go_wp2
        go_roundw
        case rel => exact ⟨n + 1, by omega, by have := Hu.out; first | (congr 1; omega) | go_num, by rw [Hn.out], trivial⟩
        case measure => have := Hu.out; simp [intOf]; omega
      · have Hn := Lib.hid (hyes.out hd)
        have e4 : (a.tmod (u * u * u * u) == 0) = true := by simp [h4]
        have e6 : (b.tmod (u * u * u * u * u * u) == 0) = true := by simp [h6]
        clear hd h4 h6 hyes hno
        go_wp2
        go_roundw
        case rel => exact ⟨n + 1, by omega, by have := Hu.out; first | (congr 1; omega) | go_num, by rw [Hn.out], trivial⟩
        case measure => have := Hu.out; simp [intOf]; omega
    · obtain rfl : n = 4 := by omega
      have hsb := smB_bd a b 4
      have hall := smB_all a b
      generalize smB a b 4 = u at hsb hall ⊢
      obtain ⟨hu1, hu2⟩ := hsb
      have hu2 : u ≤ 10 := by omega
      obtain ⟨⟨k21, k22⟩, -, ⟨k41, k42⟩, -, k61, k62⟩ := up_bds hu1 hu2
      have e4 : u * u * u * u = u * u * (u * u) := Int.mul_assoc _ _ _
      have e6 : u * u * u * u * u * u = u * u * (u * u) * (u * u) := by simp only [Int.mul_assoc]
      rw [e4] at k41 k42
      rw [e6] at k61 k62
      clear e4 e6
      have hn4 : u * u * (u * u) ≠ 0 := by omega
      have hn6 : u * u * (u * u) * (u * u) ≠ 0 := by omega
      obtain ⟨v4, v6⟩ := smC_sq a b u hall.symm
      have V4 := Lib.hid v4; have V6 := Lib.hid v6; have Hsm := Lib.hid hall.symm
      clear v4 v6 hall hlt hn
      have r0 : W.cell? ⟨w.heap.size + 1, 0, none⟩ = some (.int .i64 0) := HR.out.cell 0
      have r1 : W.cell? ⟨w.heap.size + 1, 1, none⟩ = some (.int .i64 0) := HR.out.cell 1
      have rl := HR.out.lt
      have f0 := HR.out.frozen 0
      have f1 := HR.out.frozen 1
      go_wp2
      go_region
      go_wp2
      clear r0 r1 rl f0 f1
      have HR4 := HR.out.set2 (b0 := .int .i64 (smC a b).a) (b1 := .int .i64 (smC a b).b)
      have r0 := HR4.cell 0
      have r1 := HR4.cell 1
      simp at r0 r1
      rw [V4.out, V6.out]
      exact bodyPost_ret (v := .tuple #[.agg #[.int .i64 (smC a b).a, .int .i64 (smC a b).b], .int .i64 u]) (by simp [results, Try.results32, go_sem, r0, r1]) rfl ⟨by rw [Hsm.out], (bst (bst HbA.out (p := ⟨w.heap.size + 1, 0, none⟩) (by simp) _) (p := ⟨w.heap.size + 1, 1, none⟩) (by simp) _).drew⟩
end Go.Proofs.Ytnhgdmhiblpknaa
