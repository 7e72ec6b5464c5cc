/- The laws' own helpers at tasks: toTask, szTask, eqTask, markTask, heldTask. Conditions: lengths of at most 1048576. -/
import Derived.Test.YticbmpjdcanjkaaGreatDoorTaskC
import Derived.Test.YticbmpjdcanjkaaGreatDoorSCurve
import Derived.OneCell
namespace Go.Proofs.YticbmpjdcanjkaaGreatDoor
open Go Go.RowKit

set_option maxHeartbeats 4000000 in
theorem eqTask_same (a b m d t : Int) (A A2 : Option Addr) (c c2 : Nat) (fs : List Pt) (w : World) (hu : Rd ptS w w.heap.size (.slice A fs.length c) fs) (hv : Rd ptS w w.heap.size (.slice A2 fs.length c2) fs) :
    Calls Tryz.prog 7 #[.agg #[.int .i64 a, .int .i64 b, .int .i64 m, .int .i64 d, .int .i64 t, .slice A fs.length c], .agg #[.int .i64 a, .int .i64 b, .int .i64 m, .int .i64 d, .int .i64 t, .slice A2 fs.length c2]] w fun r w' => r = .returned (.bool true) ∧ Below w.heap.size w w' := by
  have H1 := Lib.hid ((Blk.new w 26 #[.int .i64 a, .int .i64 b, .int .i64 m, .int .i64 d, .int .i64 t, .slice A fs.length c]).alloc (Obj.cells #[.int .i64 a, .int .i64 b, .int .i64 m, .int .i64 d, .int .i64 t, .slice A2 fs.length c2] 26))
  have H2 := Lib.hid (Blk.new1 w (Obj.cells #[.int .i64 a, .int .i64 b, .int .i64 m, .int .i64 d, .int .i64 t, .slice A fs.length c] 26) 26 #[.int .i64 a, .int .i64 b, .int .i64 m, .int .i64 d, .int .i64 t, .slice A2 fs.length c2])
  have hb0 := bal (bal (Below.refl w.heap.size w) (Obj.cells #[.int .i64 a, .int .i64 b, .int .i64 m, .int .i64 d, .int .i64 t, .slice A fs.length c] 26)) (Obj.cells #[.int .i64 a, .int .i64 b, .int .i64 m, .int .i64 d, .int .i64 t, .slice A2 fs.length c2] 26)
  have Hu := Lib.hid (hu.on hb0)
  have Hv := Lib.hid (hv.on hb0)
  have HbA := Lib.hid hb0; clear hb0 hu hv
  go_enter Tryz.func7, Tryz.ntmps7
  go_wp2_with fail
  refine (eqCurve_same _ _ _).mono ?_; rintro r w1 ⟨rfl, hb1⟩
  have k1 := H1.out.on hb1
  have k2 := H2.out.on hb1
  have p0 := k1.cell 0
  have p1 := k1.cell 1
  have p2 := k1.cell 2
  have p3 := k1.cell 3
  have p4 := k1.cell 4
  have p5 := k1.cell 5
  have pl := k1.lt
  have q0 := k2.cell 0
  have q1 := k2.cell 1
  have q2 := k2.cell 2
  have q3 := k2.cell 3
  have q4 := k2.cell 4
  have q5 := k2.cell 5
  have ql := k2.lt
  simp at p0 p1 p2 p3 p4 p5 q0 q1 q2 q3 q4 q5
  have Hu1 := Lib.hid (Hu.out.on hb1)
  have Hv1 := Lib.hid (Hv.out.on hb1)
  have Hb1 := Lib.hid (bthen HbA.out hb1); clear hb1 k1 k2
  go_wp2_with fail
  refine (eqPointS_same _ _ fs _ Hu1.out Hv1.out).mono ?_; rintro r w2 ⟨rfl, hb2⟩
  clear p0 p1 p2 p3 p4 p5 pl q0 q1 q2 q3 q4 q5 ql
  go_wp2
  go_ret
  exact ⟨rfl, bthen Hb1.out hb2⟩
set_option maxHeartbeats 4000000 in
theorem markTask_any (a b m d t : Int) (A : Option Addr) (n c : Nat) (xs : List Value) (k0 : Int) (base : Nat) (w : World) (ho : w.ownsRow base 94 3 (.slice A n c) n xs) (hn : n ≤ 2097152) (h0 : 0 ≤ k0) (h1 : k0 ≤ 1099511627776) :
    Calls Tryz.prog 8 #[.agg #[.int .i64 a, .int .i64 b, .int .i64 m, .int .i64 d, .int .i64 t, .slice A n c], .int .i64 k0] w fun e w' => e = .returned (.int .i64 (k0 + ((n * 3 : Nat) : Int))) ∧ w'.ownsRow base 94 3 (.slice A n c) n (marks k0 (n * 3)) ∧ w.grownBy w' (Value.slice A n c).ownBlock := by
  have Hm := Lib.hid (markPointS_any (.slice A n c) n xs k0 base (w.alloc (Obj.cells #[.int .i64 a, .int .i64 b, .int .i64 m, .int .i64 d, .int .i64 t, .slice A n c] 26)) (ho.alloc _) hn h0 h1)
  have Hg := Lib.hid (gof (row := (Value.slice A n c).ownBlock) (bal (Below.refl w.heap.size w) (Obj.cells #[.int .i64 a, .int .i64 b, .int .i64 m, .int .i64 d, .int .i64 t, .slice A n c] 26)))
  clear ho
  generalize ((n * 3 : Nat) : Int) = q at Hm ⊢
  go_enter Tryz.func8, Tryz.ntmps8
  go_wp2_with fail
  refine Hm.out.mono ?_; rintro r w1 ⟨rfl, ho1, hg1⟩
  have Ho1 := Lib.hid ho1; have Hg1 := Lib.hid (gthen2 Hg.out hg1); clear ho1 hg1
  go_wp2
  go_ret
  exact ⟨rfl, Ho1.out, Hg1.out⟩
set_option maxHeartbeats 4000000 in
theorem heldTask_any (a b m d t : Int) (A : Option Addr) (n c : Nat) (k0 : Int) (base : Nat) (w : World) (ho : w.ownsRow base 94 3 (.slice A n c) n (marks k0 (n * 3))) (hn : n ≤ 2097152) (h0 : 0 ≤ k0) (h1 : k0 ≤ 1099511627776) :
    Calls Tryz.prog 9 #[.agg #[.int .i64 a, .int .i64 b, .int .i64 m, .int .i64 d, .int .i64 t, .slice A n c], .int .i64 k0] w fun e w' => e = .returned (.int .i64 (k0 + ((n * 3 : Nat) : Int))) ∧ Below w.heap.size w w' := by
  have Hm := Lib.hid (heldPointS_any (.slice A n c) n k0 base (w.alloc (Obj.cells #[.int .i64 a, .int .i64 b, .int .i64 m, .int .i64 d, .int .i64 t, .slice A n c] 26)) (ho.alloc _) hn h0 h1)
  have HbA := Lib.hid (show Below w.heap.size w (w.alloc (Obj.cells #[.int .i64 a, .int .i64 b, .int .i64 m, .int .i64 d, .int .i64 t, .slice A n c] 26)) from bal (Below.refl _ _) _)
  clear ho
  have hq : (0 : Int) ≤ ((n * 3 : Nat) : Int) := by omega
  generalize ((n * 3 : Nat) : Int) = q at Hm hq ⊢
  have hge : 0 ≤ k0 + q := by omega
  go_enter Tryz.func9, Tryz.ntmps9
  go_wp2_with fail
  refine Hm.out.mono ?_; rintro r w1 ⟨rfl, rfl⟩
  go_wp2
  go_ret
  exact ⟨rfl, HbA.out⟩
end Go.Proofs.YticbmpjdcanjkaaGreatDoor
