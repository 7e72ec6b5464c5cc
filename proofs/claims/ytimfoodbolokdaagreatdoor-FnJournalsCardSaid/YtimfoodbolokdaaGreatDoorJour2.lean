/- SyncJournal and RecoverJournal of both; equal journals. Conditions: Env; bounds. -/
import Derived.Test.YtimfoodbolokdaaGreatDoorJour
namespace Go.Proofs.YtimfoodbolokdaaGreatDoor
open Go Go.RowKit

/-- What both hand back. -/
def syV (D P : ByteArray) : ByteArray × Bool := if jrOk D P = true then (D ++ P, true) else (⟨#[]⟩, false)
def reV (s : ByteArray) : ByteArray × Nat × Bool := if s.size ≤ 4000 then (s.extract 0 (jrA s).2, (jrA s).2, true) else (⟨#[]⟩, 0, false)
set_option maxRecDepth 8000 in
set_option maxHeartbeats 1600000 in
theorem implSync_any (D P : ByteArray) (w : World) (h : JB D P) (he : Env w) : Calls Tryz.prog 57 #[.agg #[.string D, .string P]] w fun e w' => e = .returned (.tuple #[.agg #[.string (syV D P).1, .string ⟨#[]⟩], .bool (syV D P).2]) ∧ Below w.heap.size w w' := by
  have hd := h.d; have hp := h.p; have hdp := h.h
  have hbx := bal (bal (Below.refl w.heap.size w) (Obj.cells #[.string D, .string P] 76)) (Obj.cells #[.string (⟨#[]⟩ : ByteArray), .string (⟨#[]⟩ : ByteArray)] 76)
  have He := Lib.hid (he.on hbx); clear he
  have HX := Lib.hid ((Blk.new w 76 #[.string D, .string P]).alloc (Obj.cells #[.string (⟨#[]⟩ : ByteArray), .string (⟨#[]⟩ : ByteArray)] 76))
  have HZ := Lib.hid (Blk.new1 w (Obj.cells #[.string D, .string P] 76) 76 #[.string (⟨#[]⟩ : ByteArray), .string (⟨#[]⟩ : ByteArray)])
  have Hbx := Lib.hid hbx; clear hbx
  go_enter Tryz.func57, Tryz.ntmps57
  go_wp2_with fail
  refine (recordsOf_any D P _ (by omega) (by omega) He.out).mono ?_; rintro e w1 ⟨⟨v, rfl, -⟩, hb1⟩
  have HX1 := Lib.hid (HX.out.on hb1); have HZ1 := Lib.hid (HZ.out.on hb1); have Hb1 := Lib.hid (bthen Hbx.out hb1); clear hb1
  have q0 := HX1.out.cell 0
  have q1 := HX1.out.cell 1
  have ql := HX1.out.lt
  have z0 := HZ1.out.cell 0
  have z1 := HZ1.out.cell 1
  have zl := HZ1.out.lt
  have zf := HZ1.out.frozen
  simp at q0 q1 z0 z1
  cases hok : jrOk D P
  · have Hv := Lib.hid (show syV D P = (⟨#[]⟩, false) by unfold syV; rw [hok]; rfl)
    clear hok
    go_wp2
    have HR4 := HZ1.out.set2 (b0 := .string (⟨#[]⟩ : ByteArray)) (b1 := .string (⟨#[]⟩ : ByteArray))
    have q0 := HR4.cell 0
    have q1 := HR4.cell 1
    simp at q0 q1
    exact bodyPost_ret (v := .tuple #[.agg #[.string (⟨#[]⟩ : ByteArray), .string (⟨#[]⟩ : ByteArray)], .bool false]) (by simp [results, Tryz.results57, go_sem, q0, q1]) rfl ⟨by rw [Hv.out] <;> rfl, bst (bst Hb1.out (Nat.le_succ _) _) (Nat.le_succ _) _⟩
  · have Hv := Lib.hid (show syV D P = (D ++ P, true) by unfold syV; rw [hok]; rfl)
    clear hok
    go_wp2
    have HR4 := HZ1.out.set2 (b0 := .string (D ++ P)) (b1 := .string (⟨#[]⟩ : ByteArray))
    have q0 := HR4.cell 0
    have q1 := HR4.cell 1
    simp at q0 q1
    exact bodyPost_ret (v := .tuple #[.agg #[.string (D ++ P), .string (⟨#[]⟩ : ByteArray)], .bool true]) (by simp [results, Tryz.results57, go_sem, q0, q1]) rfl ⟨by rw [Hv.out] <;> rfl, bst (bst Hb1.out (Nat.le_succ _) _) (Nat.le_succ _) _⟩
set_option maxRecDepth 8000 in
set_option maxHeartbeats 1600000 in
theorem specSync_any (D P : ByteArray) (w : World) (h : JB D P) : Calls Tryz.prog 58 #[.agg #[.string D, .string P]] w fun e w' => e = .returned (.tuple #[.agg #[.string (syV D P).1, .string ⟨#[]⟩], .bool (syV D P).2]) ∧ Below w.heap.size w w' := by
  have hd := h.d; have hp := h.p; have hdp := h.h
  have hbx := bal (bal (Below.refl w.heap.size w) (Obj.cells #[.string D, .string P] 76)) (Obj.cells #[.string (⟨#[]⟩ : ByteArray), .string (⟨#[]⟩ : ByteArray)] 76)
  have HX := Lib.hid ((Blk.new w 76 #[.string D, .string P]).alloc (Obj.cells #[.string (⟨#[]⟩ : ByteArray), .string (⟨#[]⟩ : ByteArray)] 76))
  have HZ := Lib.hid (Blk.new1 w (Obj.cells #[.string D, .string P] 76) 76 #[.string (⟨#[]⟩ : ByteArray), .string (⟨#[]⟩ : ByteArray)])
  have Hbx := Lib.hid hbx; clear hbx
  go_enter Tryz.func58, Tryz.ntmps58
  go_wp2_with fail
  refine (jrGood_any D P _ h).mono ?_; rintro e w1 ⟨rfl, hb1⟩
  have HX1 := Lib.hid (HX.out.on hb1); have HZ1 := Lib.hid (HZ.out.on hb1); have Hb1 := Lib.hid (bthen Hbx.out hb1); clear hb1
  have q0 := HX1.out.cell 0
  have q1 := HX1.out.cell 1
  have ql := HX1.out.lt
  have z0 := HZ1.out.cell 0
  have z1 := HZ1.out.cell 1
  have zl := HZ1.out.lt
  have zf := HZ1.out.frozen
  simp at q0 q1 z0 z1
  cases hok : jrOk D P
  · have Hv := Lib.hid (show syV D P = (⟨#[]⟩, false) by unfold syV; rw [hok]; rfl)
    clear hok
    go_wp2
    have HR4 := HZ1.out.set2 (b0 := .string (⟨#[]⟩ : ByteArray)) (b1 := .string (⟨#[]⟩ : ByteArray))
    have q0 := HR4.cell 0
    have q1 := HR4.cell 1
    simp at q0 q1
    exact bodyPost_ret (v := .tuple #[.agg #[.string (⟨#[]⟩ : ByteArray), .string (⟨#[]⟩ : ByteArray)], .bool false]) (by simp [results, Tryz.results58, go_sem, q0, q1]) rfl ⟨by rw [Hv.out] <;> rfl, bst (bst Hb1.out (Nat.le_succ _) _) (Nat.le_succ _) _⟩
  · have Hv := Lib.hid (show syV D P = (D ++ P, true) by unfold syV; rw [hok]; rfl)
    clear hok
    go_wp2
    have HR4 := HZ1.out.set2 (b0 := .string (D ++ P)) (b1 := .string (⟨#[]⟩ : ByteArray))
    have q0 := HR4.cell 0
    have q1 := HR4.cell 1
    simp at q0 q1
    exact bodyPost_ret (v := .tuple #[.agg #[.string (D ++ P), .string (⟨#[]⟩ : ByteArray)], .bool true]) (by simp [results, Tryz.results58, go_sem, q0, q1]) rfl ⟨by rw [Hv.out] <;> rfl, bst (bst Hb1.out (Nat.le_succ _) _) (Nat.le_succ _) _⟩
set_option maxRecDepth 8000 in
set_option maxHeartbeats 1600000 in
theorem implRecov_any (s : ByteArray) (w : World) (h : s.size ≤ 1048576) (he : Env w) : Calls Tryz.prog 75 #[.string s] w fun e w' => e = .returned (.tuple #[.agg #[.string (reV s).1, .string ⟨#[]⟩], .int .i64 ((reV s).2.1 : Nat), .bool (reV s).2.2]) ∧ Below w.heap.size w w' := by
  have hbx := bal (Below.refl w.heap.size w) (Obj.cells #[.string (⟨#[]⟩ : ByteArray), .string (⟨#[]⟩ : ByteArray)] 76)
  have He := Lib.hid (he.on hbx); clear he
  have HZ := Lib.hid (Blk.new w 76 #[.string (⟨#[]⟩ : ByteArray), .string (⟨#[]⟩ : ByteArray)])
  have Hbx := Lib.hid hbx; clear hbx
  have hle := (jrA_le s).2
  go_enter Tryz.func75, Tryz.ntmps75
  by_cases hs : s.size ≤ 4000
  · have hs1 : (s.size : Int) ≤ 4000 := by omega
    have hs2 : ¬ (4000 : Int) < (s.size : Int) := by omega
    have hs3 : decide (s.size ≤ 4000) = true := decide_eq_true hs
    have Hv := Lib.hid (show reV s = (s.extract 0 (jrA s).2, (jrA s).2, true) by unfold reV; rw [if_pos hs])
    go_wp2_with fail
    refine (readRecords_any s 0 _ (by omega) (by omega) He.out).mono ?_; rintro e w1 ⟨⟨v1, xs, n, ha, rfl, -⟩, hb1⟩
    have ha : jrA s = (xs, n) := ha
    rw [ha] at hle Hv
    clear ha
    simp only at hle Hv
    have hn0 : (0 : Int) ≤ (n : Int) := by omega
    have hn1 : (n : Int) ≤ (s.size : Int) := by omega
    have HZ1 := Lib.hid (HZ.out.on hb1); have Hb1 := Lib.hid (bthen Hbx.out hb1); clear hb1
    have z0 := HZ1.out.cell 0
    have z1 := HZ1.out.cell 1
    have zl := HZ1.out.lt
    have zf := HZ1.out.frozen
    simp at z0 z1
    go_wp2
    have HR4 := HZ1.out.set2 (b0 := .string (s.extract 0 n)) (b1 := .string (⟨#[]⟩ : ByteArray))
    have q0 := HR4.cell 0
    have q1 := HR4.cell 1
    simp at q0 q1
    exact bodyPost_ret (v := .tuple #[.agg #[.string (s.extract 0 n), .string (⟨#[]⟩ : ByteArray)], .int .i64 (n : Nat), .bool true]) (by simp [results, Tryz.results75, go_sem, q0, q1]) rfl ⟨by rw [Hv.out] <;> rfl, bst (bst Hb1.out (Nat.le_refl _) _) (Nat.le_refl _) _⟩
  · have hs1 : ¬ (s.size : Int) ≤ 4000 := by omega
    have hs2 : (4000 : Int) < (s.size : Int) := by omega
    have hs3 : decide (s.size ≤ 4000) = false := decide_eq_false hs
    have Hv := Lib.hid (show reV s = (⟨#[]⟩, 0, false) by unfold reV; rw [if_neg hs])
    have z0 := HZ.out.cell 0
    have z1 := HZ.out.cell 1
    have zl := HZ.out.lt
    have zf := HZ.out.frozen
    simp at z0 z1
    go_wp2
    exact bodyPost_ret (v := .tuple #[.agg #[.string (⟨#[]⟩ : ByteArray), .string (⟨#[]⟩ : ByteArray)], .int .i64 0, .bool false]) (by simp [results, Tryz.results75, go_sem]) rfl ⟨by rw [Hv.out] <;> rfl, Hbx.out⟩
set_option maxRecDepth 8000 in
set_option maxHeartbeats 1600000 in
theorem specRecov_any (s : ByteArray) (w : World) (h : s.size ≤ 1048576) : Calls Tryz.prog 76 #[.string s] w fun e w' => e = .returned (.tuple #[.agg #[.string (reV s).1, .string ⟨#[]⟩], .int .i64 ((reV s).2.1 : Nat), .bool (reV s).2.2]) ∧ Below w.heap.size w w' := by
  have hbx := bal (Below.refl w.heap.size w) (Obj.cells #[.string (⟨#[]⟩ : ByteArray), .string (⟨#[]⟩ : ByteArray)] 76)
  have HZ := Lib.hid (Blk.new w 76 #[.string (⟨#[]⟩ : ByteArray), .string (⟨#[]⟩ : ByteArray)])
  have Hbx := Lib.hid hbx; clear hbx
  have hle := (jrA_le s).2
  go_enter Tryz.func76, Tryz.ntmps76
  go_wp2_with fail
  refine (jrShort_any s _ (by omega)).mono ?_; rintro e w1 ⟨rfl, rfl⟩
  by_cases hs : s.size ≤ 4000
  · have hs1 : (s.size : Int) ≤ 4000 := by omega
    have hs2 : ¬ (4000 : Int) < (s.size : Int) := by omega
    have hs3 : decide (s.size ≤ 4000) = true := decide_eq_true hs
    have Hv := Lib.hid (show reV s = (s.extract 0 (jrA s).2, (jrA s).2, true) by unfold reV; rw [if_pos hs])
    rw [hs3]
    go_wp2_with fail
    have Hop := Lib.hid (fun W => jrOpen_any s W (by omega))
    obtain ⟨xs, n, ha⟩ : ∃ xs n, jrA s = (xs, n) := ⟨_, _, rfl⟩
    rw [ha] at Hop
    refine (Hop.out _).mono ?_; rintro e w1 ⟨⟨v1, rfl, -⟩, hb1⟩
    rw [ha] at hle Hv
    clear ha
    simp only at hle Hv
    have hn0 : (0 : Int) ≤ (n : Int) := by omega
    have hn1 : (n : Int) ≤ (s.size : Int) := by omega
    have HZ1 := Lib.hid (HZ.out.on hb1); have Hb1 := Lib.hid (bthen Hbx.out hb1); clear hb1
    have z0 := HZ1.out.cell 0
    have z1 := HZ1.out.cell 1
    have zl := HZ1.out.lt
    have zf := HZ1.out.frozen
    simp at z0 z1
    go_wp2
    have HR4 := HZ1.out.set2 (b0 := .string (s.extract 0 n)) (b1 := .string (⟨#[]⟩ : ByteArray))
    have q0 := HR4.cell 0
    have q1 := HR4.cell 1
    simp at q0 q1
    exact bodyPost_ret (v := .tuple #[.agg #[.string (s.extract 0 n), .string (⟨#[]⟩ : ByteArray)], .int .i64 (n : Nat), .bool true]) (by simp [results, Tryz.results76, go_sem, q0, q1]) rfl ⟨by rw [Hv.out] <;> rfl, bst (bst Hb1.out (Nat.le_refl _) _) (Nat.le_refl _) _⟩
  · have hs1 : ¬ (s.size : Int) ≤ 4000 := by omega
    have hs2 : (4000 : Int) < (s.size : Int) := by omega
    have hs3 : decide (s.size ≤ 4000) = false := decide_eq_false hs
    have Hv := Lib.hid (show reV s = (⟨#[]⟩, 0, false) by unfold reV; rw [if_neg hs])
    rw [hs3]
    have z0 := HZ.out.cell 0
    have z1 := HZ.out.cell 1
    have zl := HZ.out.lt
    have zf := HZ.out.frozen
    simp at z0 z1
    go_wp2
    exact bodyPost_ret (v := .tuple #[.agg #[.string (⟨#[]⟩ : ByteArray), .string (⟨#[]⟩ : ByteArray)], .int .i64 0, .bool false]) (by simp [results, Tryz.results76, go_sem]) rfl ⟨by rw [Hv.out] <;> rfl, Hbx.out⟩
end Go.Proofs.YtimfoodbolokdaaGreatDoor
