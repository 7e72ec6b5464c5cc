/- JournalRecords of both. Conditions: Env; bounds. -/
import Derived.Test.YtimfoodbolokdaaGreatDoorJour2
import Derived.Test.YtimfoodbolokdaaGreatDoorSRecord
namespace Go.Proofs.YtimfoodbolokdaaGreatDoor
open Go Go.RowKit
theorem jrV_len (D P : ByteArray) : (jrV D P).length ≤ 30 := by
  unfold jrV
  split
  · exact jrRecs_len D P
  · exact Nat.zero_le _
set_option maxHeartbeats 1600000 in
theorem implJRecs_any (D P : ByteArray) (w : World) (h : JB D P) (he : Env w) : Calls Tryz.prog 55 #[.agg #[.string D, .string P]] w fun e w' => (∃ v : Value, e = .returned (.tuple #[v, .bool (jrOk D P)]) ∧ w'.ownsRow w.heap.size 78 4 v (jrV D P).length (rcS.flat (jrV D P))) ∧ Below w.heap.size w w' := by
  have hd := h.d; have hp := h.p
  have hbx := bal (Below.refl w.heap.size w) (Obj.cells #[.string D, .string P] 76)
  have He := Lib.hid (he.on hbx); clear he
  have Hbx := Lib.hid hbx; clear hbx
  go_enter Tryz.func55, Tryz.ntmps55
  go_wp2_with fail
  refine (recordsOf_any D P _ (by omega) (by omega) He.out).mono ?_; rintro e w1 ⟨⟨v, rfl, hown⟩, hb1⟩
  have Hown := Lib.hid (own_mono hown (base' := w.heap.size) (by rw [World.size_alloc]; omega)); clear hown
  go_wp2
  go_ret2
  exact ⟨⟨_, rfl, Hown.out⟩, bthen Hbx.out hb1⟩
set_option maxHeartbeats 1600000 in
theorem specJRecs_any (D P : ByteArray) (w : World) (h : JB D P) : Calls Tryz.prog 56 #[.agg #[.string D, .string P]] w fun e w' => (∃ v : Value, e = .returned (.tuple #[v, .bool (jrOk D P)]) ∧ w'.ownsRow w.heap.size 78 4 v (jrV D P).length (rcS.flat (jrV D P))) ∧ Below w.heap.size w w' := by
  have Hbx := Lib.hid (bal (Below.refl w.heap.size w) (Obj.cells #[.string D, .string P] 76))
  have HB := Lib.hid (Blk.new w 76 #[.string D, .string P])
  go_enter Tryz.func56, Tryz.ntmps56
  go_wp2_with fail
  refine (jrGood_any D P _ h).mono ?_; rintro e w1 ⟨rfl, hb1⟩
  have HB1 := Lib.hid (HB.out.on hb1); have Hb1 := Lib.hid (bthen Hbx.out hb1); clear hb1
  cases hok : jrOk D P
  · have Hv := Lib.hid (jrV_no hok)
    have Hok := Lib.hid hok; clear hok
    go_wp2
    go_ret2
    exact ⟨⟨_, by rw [Hok.out]; rfl, by rw [Hv.out]; exact ⟨by simp [Shape.flat], Or.inl ⟨rfl, rfl⟩⟩⟩, Hb1.out⟩
  · have Hv := Lib.hid (jrV_ok hok)
    have Hok := Lib.hid hok; clear hok
    have q0 := HB1.out.cell 0
    have q1 := HB1.out.cell 1
    have ql := HB1.out.lt
    simp at q0 q1
    go_wp2_with fail
    refine (jrAll_any D P _ h Hok.out).mono ?_; rintro e w2 ⟨⟨v, rfl, hown⟩, hb2⟩
    have Hown := Lib.hid (own_mono hown (base' := w.heap.size) Hb1.out.size); clear hown
    go_wp2
    go_ret2
    exact ⟨⟨_, by rw [Hok.out]; rfl, by rw [Hv.out]; exact Hown.out⟩, bthen Hb1.out hb2⟩
end Go.Proofs.YtimfoodbolokdaaGreatDoor
