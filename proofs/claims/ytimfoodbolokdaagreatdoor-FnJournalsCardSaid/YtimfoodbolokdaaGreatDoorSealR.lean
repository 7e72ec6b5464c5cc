/- SealRecord of both: the walks. Conditions: the table of powers of ten. -/
import Derived.Test.YtimfoodbolokdaaGreatDoorEtM6
namespace Go.Proofs.YtimfoodbolokdaaGreatDoor
open Go Go.RowKit

def sealV (k a b lo hi : Int) : ByteArray × Bool := if recB a b lo hi && insB k 0 29 then (lineS k a b lo hi, true) else (⟨#[]⟩, false)
theorem recB_rc {k a b lo hi : Int} (h : recB a b lo hi = true) (hk : insB k 0 29 = true) : RcB k a b lo hi := by
  unfold recB at h
  simp only [Bool.and_eq_true, decide_eq_true_eq] at h
  obtain ⟨h1, h2, h3, h4⟩ := h
  exact ⟨insB_true hk, (curveB_bd h1).1, (curveB_bd h1).2, ⟨h2, by omega⟩, ⟨by omega, h4⟩⟩
theorem ret_sb {s : ByteArray} {k : Bool} {p : ByteArray × Bool} (h : p = (s, k)) : Ending.returned (.tuple #[.string s, .bool k]) = .returned (.tuple #[.string p.1, .bool p.2]) := by rw [h]
set_option maxHeartbeats 1600000 in
theorem implSeal_any (k a b lo hi : Int) (w : World) (ht : Tab w) : Calls Tryz.prog 78 #[.int .i64 k, .agg #[.int .i64 a, .int .i64 b, .int .i64 lo, .int .i64 hi]] w fun r w' => r = .returned (.tuple #[.string (sealV k a b lo hi).1, .bool (sealV k a b lo hi).2]) ∧ Below w.heap.size w w' := by
  have Hbx := Lib.hid (Blk.new w 78 #[.int .i64 a, .int .i64 b, .int .i64 lo, .int .i64 hi])
  have hbA := bal (Below.refl w.heap.size w) (Obj.cells #[.int .i64 a, .int .i64 b, .int .i64 lo, .int .i64 hi] 78)
  have Ht := Lib.hid (ht.on hbA)
  have HbA := Lib.hid hbA; clear hbA ht
  go_enter Tryz.func78, Tryz.ntmps78
  go_wp2_with fail
  refine (isRecord_any _ _ _ _ _).mono ?_; rintro r w1 ⟨rfl, hb1⟩
  have HB1 := Lib.hid (Hbx.out.on hb1)
  have Ht1 := Lib.hid (Ht.out.on hb1)
  have Hb01 := Lib.hid (bthen HbA.out hb1); clear hb1
  have q0 := HB1.out.cell 0
  have q1 := HB1.out.cell 1
  have q2 := HB1.out.cell 2
  have q3 := HB1.out.cell 3
  have ql := HB1.out.lt
  simp at q0 q1 q2 q3
  cases hr : recB a b lo hi
  · have Hv := Lib.hid (show sealV k a b lo hi = (⟨#[]⟩, false) by unfold sealV; rw [hr]; rfl)
    clear hr
    go_wp2
    go_ret2
    exact ⟨ret_sb Hv.out, Hb01.out⟩
  · go_wp2_with fail
    refine (inside_any _ _ _ _).mono ?_; rintro r w2 ⟨rfl, rfl⟩
    cases hk : insB k 0 29
    · have Hv := Lib.hid (show sealV k a b lo hi = (⟨#[]⟩, false) by unfold sealV; rw [hr, hk]; rfl)
      clear hr hk
      go_wp2
      go_ret2
      exact ⟨ret_sb Hv.out, Hb01.out⟩
    · have Hv := Lib.hid (show sealV k a b lo hi = (lineS k a b lo hi, true) by unfold sealV; rw [hr, hk]; rfl)
      have Hrc := Lib.hid (recB_rc hr hk)
      clear hr hk
      go_wp2_with fail
      refine (sealRecord_any k a b lo hi _ Hrc.out Ht1.out).mono ?_; rintro r w3 ⟨rfl, hb3⟩
      go_wp2
      go_ret2
      exact ⟨ret_sb Hv.out, bthen Hb01.out hb3⟩
set_option maxHeartbeats 1600000 in
theorem specSeal_any (k a b lo hi : Int) (w : World) : Calls Tryz.prog 79 #[.int .i64 k, .agg #[.int .i64 a, .int .i64 b, .int .i64 lo, .int .i64 hi]] w fun r w' => r = .returned (.tuple #[.string (sealV k a b lo hi).1, .bool (sealV k a b lo hi).2]) ∧ Below w.heap.size w w' := by
  have Hbx := Lib.hid (Blk.new w 78 #[.int .i64 a, .int .i64 b, .int .i64 lo, .int .i64 hi])
  have HbA := Lib.hid (bal (Below.refl w.heap.size w) (Obj.cells #[.int .i64 a, .int .i64 b, .int .i64 lo, .int .i64 hi] 78))
  go_enter Tryz.func79, Tryz.ntmps79
  go_wp2_with fail
  refine (l1In_any _ _ _ _).mono ?_; rintro r w2 ⟨rfl, rfl⟩
  cases hk : insB k 0 29
  · have Hv := Lib.hid (show sealV k a b lo hi = (⟨#[]⟩, false) by unfold sealV; rw [hk, Bool.and_false]; rfl)
    clear hk
    go_wp2
    go_ret2
    exact ⟨ret_sb Hv.out, HbA.out⟩
  · go_wp2_with fail
    refine (jrRecord_any _ _ _ _ _).mono ?_; rintro r w1 ⟨rfl, hb1⟩
    have HB1 := Lib.hid (Hbx.out.on hb1)
    have Hb01 := Lib.hid (bthen HbA.out hb1); clear hb1
    have q0 := HB1.out.cell 0
    have q1 := HB1.out.cell 1
    have q2 := HB1.out.cell 2
    have q3 := HB1.out.cell 3
    have ql := HB1.out.lt
    simp at q0 q1 q2 q3
    cases hr : recB a b lo hi
    · have Hv := Lib.hid (show sealV k a b lo hi = (⟨#[]⟩, false) by unfold sealV; rw [hr]; rfl)
      clear hr hk
      go_wp2
      go_ret2
      exact ⟨ret_sb Hv.out, Hb01.out⟩
    · have Hv := Lib.hid (show sealV k a b lo hi = (lineS k a b lo hi, true) by unfold sealV; rw [hr, hk]; rfl)
      have Hrc := Lib.hid (recB_rc hr hk)
      clear hr hk
      go_wp2_with fail
      refine (jrLine_any k a b lo hi _ Hrc.out).mono ?_; rintro r w3 ⟨rfl, hb3⟩
      go_wp2
      go_ret2
      exact ⟨ret_sb Hv.out, bthen Hb01.out hb3⟩
end Go.Proofs.YtimfoodbolokdaaGreatDoor
