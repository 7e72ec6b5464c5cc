/- The laws' own helpers at tasks: toTask, szTask, eqTask, markTask, heldTask. Conditions: lengths of at most 1048576. -/
import Derived.Test.YticbmpjdcanjkaaTaskC
import Derived.Test.YticbmpjdcanjkaaSCurve
import Derived.OneCell
namespace Go.Proofs.Yticbmpjdcanjkaa
open Go Go.RowKit

set_option maxHeartbeats 1600000 in
theorem szTask_any (a b m d t : Int) (A : Option Addr) (n c : Nat) (left : Int) (w : World) (hn : n ≤ 9223372036854775807) (h0 : 0 ≤ left) (h1 : left ≤ 1048576) :
    Calls Try.prog 4 #[.agg #[.int .i64 a, .int .i64 b, .int .i64 m, .int .i64 d, .int .i64 t, .slice A n c], .int .i64 left] w fun e w' => e = .returned (.int .i64 (szI left n)) ∧ Below w.heap.size w w' := by
  have HbA := Lib.hid (show Below w.heap.size w (w.alloc (Obj.cells #[.int .i64 a, .int .i64 b, .int .i64 m, .int .i64 d, .int .i64 t, .slice A n c] 26)) from bal (Below.refl _ _) _)
  have Hsz := Lib.hid (fun w => szPointS_any A n c left w hn h0 h1)
  by_cases hl : left < n
  · have hs := szI_neg hl
    rw [hs] at Hsz ⊢
    clear hs
    go_enter Try.func4, Try.ntmps4
    go_wp2_with (go_at_call 15; refine (Hsz.out _).mono ?_; rintro e w' ⟨rfl, rfl⟩)
    go_ret
    exact ⟨rfl, HbA.out⟩
  · have hs := szI_pos (left := left) (n := n) (by omega)
    rw [hs] at Hsz ⊢
    clear hs
    have hge : (0 : Int) ≤ left - n := by omega
    go_enter Try.func4, Try.ntmps4
    go_wp2_with (go_at_call 15; refine (Hsz.out _).mono ?_; rintro e w' ⟨rfl, rfl⟩)
    go_ret
    exact ⟨rfl, HbA.out⟩
set_option maxRecDepth 8000 in
set_option maxHeartbeats 4000000 in
theorem toTask_any (a b m d t : Int) (A : Option Addr) (c : Nat) (fs : List Pt) (w : World) (hv : Rd ptS w w.heap.size (.slice A fs.length c) fs) (hlen : fs.length ≤ 1048576) :
    Calls Try.prog 7 #[.agg #[.int .i64 a, .int .i64 b, .int .i64 m, .int .i64 d, .int .i64 t, .slice A fs.length c]] w fun r w' => (∃ A' c', r = .returned (.agg #[.int .i64 a, .int .i64 b, .int .i64 m, .int .i64 d, .int .i64 t, (.slice A' fs.length c')]) ∧ w'.ownsRow w.heap.size 67 3 (.slice A' fs.length c') fs.length (ptS.flat fs)) ∧ Below w.heap.size w w' := by
  have HB := Lib.hid (((Blk.new w 26 #[.int .i64 a, .int .i64 b, .int .i64 m, .int .i64 d, .int .i64 t, .slice A fs.length c]).alloc (Obj.cells #[.int .i64 0, .int .i64 0, .int .i64 0, .int .i64 0, .int .i64 0, .slice none 0 0] 33)).alloc (Obj.cells #[.int .i64 0, .int .i64 0, .int .i64 0, .int .i64 0, .int .i64 0, .slice none 0 0] 33))
  have HR := Lib.hid ((Blk.new1 w (Obj.cells #[.int .i64 a, .int .i64 b, .int .i64 m, .int .i64 d, .int .i64 t, .slice A fs.length c] 26) 33 #[.int .i64 0, .int .i64 0, .int .i64 0, .int .i64 0, .int .i64 0, .slice none 0 0]).alloc (Obj.cells #[.int .i64 0, .int .i64 0, .int .i64 0, .int .i64 0, .int .i64 0, .slice none 0 0] 33))
  have HV := Lib.hid (show Blk (((w.alloc (Obj.cells #[.int .i64 a, .int .i64 b, .int .i64 m, .int .i64 d, .int .i64 t, .slice A fs.length c] 26)).alloc (Obj.cells #[.int .i64 0, .int .i64 0, .int .i64 0, .int .i64 0, .int .i64 0, .slice none 0 0] 33)).alloc (Obj.cells #[.int .i64 0, .int .i64 0, .int .i64 0, .int .i64 0, .int .i64 0, .slice none 0 0] 33)) (w.heap.size + 1 + 1) 33 #[.int .i64 0, .int .i64 0, .int .i64 0, .int .i64 0, .int .i64 0, .slice none 0 0] from by
    have := Blk.new1 (w.alloc (Obj.cells #[.int .i64 a, .int .i64 b, .int .i64 m, .int .i64 d, .int .i64 t, .slice A fs.length c] 26)) (Obj.cells #[.int .i64 0, .int .i64 0, .int .i64 0, .int .i64 0, .int .i64 0, .slice none 0 0] 33) 33 #[.int .i64 0, .int .i64 0, .int .i64 0, .int .i64 0, .int .i64 0, .slice none 0 0]
    rw [World.size_alloc] at this
    exact this)
  have hb0 := bal (bal (bal (Below.refl w.heap.size w) (Obj.cells #[.int .i64 a, .int .i64 b, .int .i64 m, .int .i64 d, .int .i64 t, .slice A fs.length c] 26)) (Obj.cells #[.int .i64 0, .int .i64 0, .int .i64 0, .int .i64 0, .int .i64 0, .slice none 0 0] 33)) (Obj.cells #[.int .i64 0, .int .i64 0, .int .i64 0, .int .i64 0, .int .i64 0, .slice none 0 0] 33)
  have Hrd0 := Lib.hid hv
  have HbA := Lib.hid hb0; clear hb0 hv
  have Hsz := Lib.hid (show (((w.alloc (Obj.cells #[.int .i64 a, .int .i64 b, .int .i64 m, .int .i64 d, .int .i64 t, .slice A fs.length c] 26)).alloc (Obj.cells #[.int .i64 0, .int .i64 0, .int .i64 0, .int .i64 0, .int .i64 0, .slice none 0 0] 33)).alloc (Obj.cells #[.int .i64 0, .int .i64 0, .int .i64 0, .int .i64 0, .int .i64 0, .slice none 0 0] 33)).heap.size = w.heap.size + 3 by rw [World.size_alloc, World.size_alloc, World.size_alloc])
  go_enter Try.func7, Try.ntmps7
  go_wp2_with fail
  refine (toCurve_any _ _ _).mono ?_; rintro r w1 ⟨rfl, hb1⟩
  have HB1 := Lib.hid (HB.out.on hb1)
  have HR1 := Lib.hid (HR.out.on hb1)
  have HV1 := Lib.hid (HV.out.on hb1)
  have Hb1 := Lib.hid (bthen HbA.out hb1)
  have hz1 : w.heap.size + 3 ≤ w1.heap.size := by have := hb1.size; have := Hsz.out; omega
  clear hb1
  have b0 := HB1.out.cell 0
  have b1 := HB1.out.cell 1
  have b2 := HB1.out.cell 2
  have b3 := HB1.out.cell 3
  have b4 := HB1.out.cell 4
  have b5 := HB1.out.cell 5
  have bl := HB1.out.lt
  have v0 := HV1.out.cell 0
  have v1 := HV1.out.cell 1
  have v2 := HV1.out.cell 2
  have v3 := HV1.out.cell 3
  have v4 := HV1.out.cell 4
  have v5 := HV1.out.cell 5
  have vl := HV1.out.lt
  have z0 := HV1.out.frozen 0
  have z1 := HV1.out.frozen 1
  have z2 := HV1.out.frozen 2
  have z3 := HV1.out.frozen 3
  have z4 := HV1.out.frozen 4
  have z5 := HV1.out.frozen 5
  simp at b0 b1 b2 b3 b4 b5 v0 v1 v2 v3 v4 v5
  go_wp2_with fail
  clear b0 b1 b2 b3 b4 b5 bl v0 v1 v2 v3 v4 v5 vl z0 z1 z2 z3 z4 z5
  have HV2 := Lib.hid ((((HV1.out.set 0 (.int .i64 a)).set 1 (.int .i64 b)).set 2 (.int .i64 m)).set 3 (.int .i64 d) |>.set 4 (.int .i64 t))
  have HR2 := Lib.hid (((((HR1.out.far (p := ⟨w.heap.size + 1 + 1, 0, none⟩) (by simp) (.int .i64 a)).far (p := ⟨w.heap.size + 1 + 1, 1, none⟩) (by simp) (.int .i64 b)).far (p := ⟨w.heap.size + 1 + 1, 2, none⟩) (by simp) (.int .i64 m)).far (p := ⟨w.heap.size + 1 + 1, 3, none⟩) (by simp) (.int .i64 d)).far (p := ⟨w.heap.size + 1 + 1, 4, none⟩) (by simp) (.int .i64 t))
  have Hbs := Lib.hid (bst (bst (bst (bst (bst Hb1.out (p := ⟨w.heap.size + 1 + 1, 0, none⟩) (by simp; omega) (.int .i64 a)) (p := ⟨w.heap.size + 1 + 1, 1, none⟩) (by simp; omega) (.int .i64 b)) (p := ⟨w.heap.size + 1 + 1, 2, none⟩) (by simp; omega) (.int .i64 m)) (p := ⟨w.heap.size + 1 + 1, 3, none⟩) (by simp; omega) (.int .i64 d)) (p := ⟨w.heap.size + 1 + 1, 4, none⟩) (by simp; omega) (.int .i64 t))
  have Hqz := Lib.hid (show ((((((w1.setCell ⟨w.heap.size + 1 + 1, 0, none⟩ (.int .i64 a)).setCell ⟨w.heap.size + 1 + 1, 1, none⟩ (.int .i64 b)).setCell ⟨w.heap.size + 1 + 1, 2, none⟩ (.int .i64 m)).setCell ⟨w.heap.size + 1 + 1, 3, none⟩ (.int .i64 d)).setCell ⟨w.heap.size + 1 + 1, 4, none⟩ (.int .i64 t))).heap.size = w1.heap.size from by simp only [World.size_setCell])
  generalize (((((w1.setCell ⟨w.heap.size + 1 + 1, 0, none⟩ (.int .i64 a)).setCell ⟨w.heap.size + 1 + 1, 1, none⟩ (.int .i64 b)).setCell ⟨w.heap.size + 1 + 1, 2, none⟩ (.int .i64 m)).setCell ⟨w.heap.size + 1 + 1, 3, none⟩ (.int .i64 d)).setCell ⟨w.heap.size + 1 + 1, 4, none⟩ (.int .i64 t)) = wq at HV2 HR2 Hbs Hqz ⊢
  simp only [List.setIfInBounds_toArray, List.set_cons_zero, List.set_cons_succ] at HV2
  refine (toPointS_any _ fs wq (Hrd0.out.on Hbs.out) hlen).mono ?_; rintro r w5 ⟨v5, rfl, ho5, hb5⟩
  obtain ⟨A5, c5, rfl, -, -, -⟩ := Rd.of_own (S := ptS) ho5 rfl
  have Ho5 := Lib.hid ho5; clear ho5
  have HV5 := Lib.hid (HV2.out.on hb5)
  have HR5 := Lib.hid (HR2.out.on hb5)
  have Hb5 := Lib.hid (bthen Hbs.out hb5)
  have hz5 : w.heap.size + 3 ≤ w5.heap.size := by have := hb5.size; have := Hqz.out; omega
  have hzq : w.heap.size + 3 ≤ wq.heap.size := by have := Hqz.out; omega
  clear hb5
  have v0 := HV5.out.cell 0
  have v1 := HV5.out.cell 1
  have v2 := HV5.out.cell 2
  have v3 := HV5.out.cell 3
  have v4 := HV5.out.cell 4
  have v5 := HV5.out.cell 5
  have vl := HV5.out.lt
  have z0 := HV5.out.frozen 0
  have z1 := HV5.out.frozen 1
  have z2 := HV5.out.frozen 2
  have z3 := HV5.out.frozen 3
  have z4 := HV5.out.frozen 4
  have z5 := HV5.out.frozen 5
  have r0 := HR5.out.cell 0
  have r1 := HR5.out.cell 1
  have r2 := HR5.out.cell 2
  have r3 := HR5.out.cell 3
  have r4 := HR5.out.cell 4
  have r5 := HR5.out.cell 5
  have rl := HR5.out.lt
  have y0 := HR5.out.frozen 0
  have y1 := HR5.out.frozen 1
  have y2 := HR5.out.frozen 2
  have y3 := HR5.out.frozen 3
  have y4 := HR5.out.frozen 4
  have y5 := HR5.out.frozen 5
  simp at v0 v1 v2 v3 v4 v5 r0 r1 r2 r3 r4 r5
  go_wp2
  exact bodyPost_ret (v := .agg #[.int .i64 a, .int .i64 b, .int .i64 m, .int .i64 d, .int .i64 t, .slice A5 fs.length c5]) (by simp [results, Try.results7, go_sem, r0, r1, r2, r3, r4, r5]) rfl ⟨⟨_, _, rfl, own_mono (show World.ownsRow _ wq.heap.size 67 3 (.slice A5 fs.length c5) fs.length (ptS.flat fs) from by (repeat (refine ownsRow_setCell_below ?_ (by first | omega | (simp; done) | (simp; omega)) _)); exact Ho5.out) (by omega)⟩, by repeat (first | (with_reducible exact Hb5.out) | (with_reducible refine bst ?_ (by first | omega | (simp; done) | (simp; omega)) _))⟩
set_option maxHeartbeats 4000000 in
theorem eqTask_same (a b m d t : Int) (A A2 : Option Addr) (c c2 : Nat) (fs : List Pt) (w : World) (hu : Rd ptS w w.heap.size (.slice A fs.length c) fs) (hv : Rd ptS w w.heap.size (.slice A2 fs.length c2) fs) :
    Calls Try.prog 10 #[.agg #[.int .i64 a, .int .i64 b, .int .i64 m, .int .i64 d, .int .i64 t, .slice A fs.length c], .agg #[.int .i64 a, .int .i64 b, .int .i64 m, .int .i64 d, .int .i64 t, .slice A2 fs.length c2]] w fun r w' => r = .returned (.bool true) ∧ Below w.heap.size w w' := by
  have H1 := Lib.hid ((Blk.new w 33 #[.int .i64 a, .int .i64 b, .int .i64 m, .int .i64 d, .int .i64 t, .slice A fs.length c]).alloc (Obj.cells #[.int .i64 a, .int .i64 b, .int .i64 m, .int .i64 d, .int .i64 t, .slice A2 fs.length c2] 33))
  have H2 := Lib.hid (Blk.new1 w (Obj.cells #[.int .i64 a, .int .i64 b, .int .i64 m, .int .i64 d, .int .i64 t, .slice A fs.length c] 33) 33 #[.int .i64 a, .int .i64 b, .int .i64 m, .int .i64 d, .int .i64 t, .slice A2 fs.length c2])
  have hb0 := bal (bal (Below.refl w.heap.size w) (Obj.cells #[.int .i64 a, .int .i64 b, .int .i64 m, .int .i64 d, .int .i64 t, .slice A fs.length c] 33)) (Obj.cells #[.int .i64 a, .int .i64 b, .int .i64 m, .int .i64 d, .int .i64 t, .slice A2 fs.length c2] 33)
  have Hu := Lib.hid (hu.on hb0)
  have Hv := Lib.hid (hv.on hb0)
  have HbA := Lib.hid hb0; clear hb0 hu hv
  go_enter Try.func10, Try.ntmps10
  go_wp2_with fail
  refine (eqCurve_same _ _ _).mono ?_; rintro r w1 ⟨rfl, hb1⟩
  have k1 := H1.out.on hb1
  have k2 := H2.out.on hb1
  have p0 := k1.cell 0
  have p1 := k1.cell 1
  have p2 := k1.cell 2
  have p3 := k1.cell 3
  have p4 := k1.cell 4
  have p5 := k1.cell 5
  have pl := k1.lt
  have q0 := k2.cell 0
  have q1 := k2.cell 1
  have q2 := k2.cell 2
  have q3 := k2.cell 3
  have q4 := k2.cell 4
  have q5 := k2.cell 5
  have ql := k2.lt
  simp at p0 p1 p2 p3 p4 p5 q0 q1 q2 q3 q4 q5
  have Hu1 := Lib.hid (Hu.out.on hb1)
  have Hv1 := Lib.hid (Hv.out.on hb1)
  have Hb1 := Lib.hid (bthen HbA.out hb1); clear hb1 k1 k2
  go_wp2_with fail
  refine (eqPointS_same _ _ fs _ Hu1.out Hv1.out).mono ?_; rintro r w2 ⟨rfl, hb2⟩
  clear p0 p1 p2 p3 p4 p5 pl q0 q1 q2 q3 q4 q5 ql
  go_wp2
  go_ret
  exact ⟨rfl, bthen Hb1.out hb2⟩
set_option maxHeartbeats 4000000 in
theorem markTask_any (a b m d t : Int) (A : Option Addr) (n c : Nat) (xs : List Value) (k0 : Int) (base : Nat) (w : World) (ho : w.ownsRow base 67 3 (.slice A n c) n xs) (hn : n ≤ 2097152) (h0 : 0 ≤ k0) (h1 : k0 ≤ 1099511627776) :
    Calls Try.prog 12 #[.agg #[.int .i64 a, .int .i64 b, .int .i64 m, .int .i64 d, .int .i64 t, .slice A n c], .int .i64 k0] w fun e w' => e = .returned (.int .i64 (k0 + ((n * 3 : Nat) : Int))) ∧ w'.ownsRow base 67 3 (.slice A n c) n (marks k0 (n * 3)) ∧ w.grownBy w' (Value.slice A n c).ownBlock := by
  have Hm := Lib.hid (markPointS_any (.slice A n c) n xs k0 base (w.alloc (Obj.cells #[.int .i64 a, .int .i64 b, .int .i64 m, .int .i64 d, .int .i64 t, .slice A n c] 33)) (ho.alloc _) hn h0 h1)
  have Hg := Lib.hid (gof (row := (Value.slice A n c).ownBlock) (bal (Below.refl w.heap.size w) (Obj.cells #[.int .i64 a, .int .i64 b, .int .i64 m, .int .i64 d, .int .i64 t, .slice A n c] 33)))
  clear ho
  generalize ((n * 3 : Nat) : Int) = q at Hm ⊢
  go_enter Try.func12, Try.ntmps12
  go_wp2_with fail
  refine Hm.out.mono ?_; rintro r w1 ⟨rfl, ho1, hg1⟩
  have Ho1 := Lib.hid ho1; have Hg1 := Lib.hid (gthen2 Hg.out hg1); clear ho1 hg1
  go_wp2
  go_ret
  exact ⟨rfl, Ho1.out, Hg1.out⟩
set_option maxHeartbeats 4000000 in
theorem heldTask_any (a b m d t : Int) (A : Option Addr) (n c : Nat) (k0 : Int) (base : Nat) (w : World) (ho : w.ownsRow base 67 3 (.slice A n c) n (marks k0 (n * 3))) (hn : n ≤ 2097152) (h0 : 0 ≤ k0) (h1 : k0 ≤ 1099511627776) :
    Calls Try.prog 14 #[.agg #[.int .i64 a, .int .i64 b, .int .i64 m, .int .i64 d, .int .i64 t, .slice A n c], .int .i64 k0] w fun e w' => e = .returned (.int .i64 (k0 + ((n * 3 : Nat) : Int))) ∧ Below w.heap.size w w' := by
  have Hm := Lib.hid (heldPointS_any (.slice A n c) n k0 base (w.alloc (Obj.cells #[.int .i64 a, .int .i64 b, .int .i64 m, .int .i64 d, .int .i64 t, .slice A n c] 33)) (ho.alloc _) hn h0 h1)
  have HbA := Lib.hid (show Below w.heap.size w (w.alloc (Obj.cells #[.int .i64 a, .int .i64 b, .int .i64 m, .int .i64 d, .int .i64 t, .slice A n c] 33)) from bal (Below.refl _ _) _)
  clear ho
  have hq : (0 : Int) ≤ ((n * 3 : Nat) : Int) := by omega
  generalize ((n * 3 : Nat) : Int) = q at Hm hq ⊢
  have hge : 0 ≤ k0 + q := by omega
  go_enter Try.func14, Try.ntmps14
  go_wp2_with fail
  refine Hm.out.mono ?_; rintro r w1 ⟨rfl, rfl⟩
  go_wp2
  go_ret
  exact ⟨rfl, HbA.out⟩
end Go.Proofs.Yticbmpjdcanjkaa
