/- ReportsBy and ReportsUpTo of the program: the walks. Conditions: none. -/
import Derived.Test.YtjnghjgfhlgbiaaDoorDel
namespace Go.Proofs.YtjnghjgfhlgbiaaDoor
open Go Go.RowKit

theorem rep_enters (K : FuncId) (w : World) (args : Array Value) (h : (callFunc K args).run Tryd.prog w = .ok (.enter K args) w) : (callFunc K args).run Tryd.prog w = .ok (.enter K args) w := h
theorem filter_not_not (q : Rp → Bool) (es : List Rp) : es.filter (fun x => !(!q x)) = es.filter q := by simp

theorem by1_any (x : Rp) (z : Int) (gb : Nat) (w : World) (h0 : w.cell? ⟨gb, 0, none⟩ = some (.int .i64 z)) :
    Calls Tryd.prog 43 #[.agg #[.int .i64 x.tm, .int .i64 x.mc, .int .i64 x.a, .int .i64 x.b, .int .i64 x.lo, .int .i64 x.hi, .int .i64 x.to], .pointer (some ⟨gb, 0, none⟩)] w fun r w' => r = .returned (.bool (!byP z x)) ∧ Below w.heap.size w w' := by
  have hg := World.block_lt_of_cell? w _ h0
  by_cases hd : x.mc = z
  · have hv : byP z x = true := by simp [byP, hd]
    rw [hv]
    go_enter Tryd.func43, Tryd.ntmps43
    go_wp2
    go_ret
    exact ⟨rfl, by (repeat (with_reducible first | exact Below.refl _ _ | assumption | refine bal ?_ _ | refine bst ?_ (by simp <;> omega) _ | refine Below.drew ?_ | refine bthen ?_ (by assumption)))⟩
  · have hv : byP z x = false := by simp [byP, hd]
    have hb : (x.mc != z) = true := by simp [hd]
    rw [hv]
    go_enter Tryd.func43, Tryd.ntmps43
    go_wp2
    go_ret
    exact ⟨rfl, by (repeat (with_reducible first | exact Below.refl _ _ | assumption | refine bal ?_ _ | refine bst ?_ (by simp <;> omega) _ | refine Below.drew ?_ | refine bthen ?_ (by assumption)))⟩
set_option maxRecDepth 8000 in
set_option maxHeartbeats 1600000 in
theorem implBy_any (v : Value) (es : List Rp) (z : Int) (w : World) (h : Rd rpS w w.heap.size v es) :
    Calls Tryd.prog 15 #[v, .int .i64 z] w fun r w' => (∃ (v' : Value) (y : List Rp) (b : Bool), r = .returned (.tuple #[v', .bool b]) ∧ byV es z = (y, b) ∧ w'.ownsRow w.heap.size 30 7 v' y.length (rpS.flat y)) ∧ Below w.heap.size w w' := by
  have eg : ∀ args w, (callFunc 43 args).run Tryd.prog w = .ok (.enter 43 args) w := fun args w => by first | rfl | kernel_rfl | simp [go_sem]
  have Hr := Lib.hid h; clear h
  have hbA : Below w.heap.size w (w.alloc _) := bal (Below.refl _ _) (Obj.cells #[.int .i64 z] 3)
  have hbox : Blk _ w.heap.size 3 #[.int .i64 z] := Blk.new w _ _
  cases hg : repsB es
  · have Hfin : byV es z = ([], false) := by unfold byV; rw [hg]; rfl
    replace Hfin := Lib.hid Hfin
    go_enter Tryd.func15, Tryd.ntmps15
    go_wp2_with fail
    refine (areReports_any _ es _ (Hr.out.on hbA)).mono ?_; rintro e w1 ⟨rfl, hb1⟩
    rw [hg]
    go_wp2
    go_ret2
    exact ⟨⟨_, [], false, rfl, Hfin.out, by simp [Shape.flat], Or.inl ⟨rfl, rfl⟩⟩, bthen hbA hb1⟩
  · have Hlen := Lib.hid (repsB_spec hg).1
    cases hi2 : insB z 1 9
    · have Hfin : byV es z = ([], false) := by unfold byV; rw [hi2, Bool.and_false]; rfl
      replace Hfin := Lib.hid Hfin
      go_enter Tryd.func15, Tryd.ntmps15
      go_wp2_with fail
      refine (areReports_any _ es _ (Hr.out.on hbA)).mono ?_; rintro e w1 ⟨rfl, hb1⟩
      rw [hg]
      have q0 := (hbox.on hb1).cell 0
      have ql := (hbox.on hb1).lt
      go_wp2_with fail
      refine (inside_any _ _ _ _).mono ?_; rintro e w2 ⟨rfl, rfl⟩
      rw [hi2]
      go_wp2
      go_ret2
      exact ⟨⟨_, [], false, rfl, Hfin.out, by simp [Shape.flat], Or.inl ⟨rfl, rfl⟩⟩, bthen hbA hb1⟩
    · have Hfin : byV es z = (es.filter (byP z), true) := by unfold byV; rw [hg, hi2]; rfl
      replace Hfin := Lib.hid Hfin
      go_enter Tryd.func15, Tryd.ntmps15
      go_wp2_with fail
      refine (areReports_any _ es _ (Hr.out.on hbA)).mono ?_; rintro e w1 ⟨rfl, hb1⟩
      rw [hg]
      have q0 := (hbox.on hb1).cell 0
      have ql := (hbox.on hb1).lt
      go_wp2_with fail
      refine (inside_any _ _ _ _).mono ?_; rintro e w2 ⟨rfl, rfl⟩
      rw [hi2]
      have hb1' := bthen hbA hb1
      go_wp2_with fail
      refine (cloneRp_any _ es _ (Hr.out.on hb1') (by have := Hlen.out; omega)).mono ?_
      rintro e w3 ⟨v3, rfl, hown3, hb3⟩
      have hlt3 : ∀ g, v3.ownBlock = some g → w1.heap.size ≤ g := fun g hg => (hown3.lt g hg).1
      have hq3 : w3.cell? ⟨w.heap.size, 0, none⟩ = some (.int .i64 z) := (hb3.cell (p := ⟨w.heap.size, 0, none⟩) ql).trans q0
      have Hq3 := Lib.hid hq3; clear hq3
      have Hown3 := Lib.hid hown3; clear hown3
      have Hlt3 := Lib.hid hlt3; clear hlt3
      go_wp2_with fail
      refine (delF_any 43 _ (fun x => !byP z x) eg v3 es w1.heap.size w3 Hown3.out (by have := Hlen.out; omega) ?_).mono ?_
      · intro W x hW
        refine by1_any x z w.heap.size W ?_
        exact hW.cell Hq3.out (by intro e; have := Hlt3.out w.heap.size e.symm; omega)
      · rintro e w4 ⟨v4, rfl, hown4, hg4⟩
        rw [filter_not_not] at hown4
        have Hown4 := Lib.hid hown4; clear hown4
        have Hg4 := Lib.hid hg4; clear hg4
        go_wp2
        go_ret2
        have hb4 : Below w1.heap.size w1 w4 := Below.grown hb3 Hg4.out hb3.size (fun j hj => Hlt3.out j hj)
        exact ⟨⟨_, _, _, rfl, Hfin.out, own_mono Hown4.out hb1'.size⟩, bthen hb1' hb4⟩
theorem up1_any (x : Rp) (z : Int) (gb : Nat) (w : World) (h0 : w.cell? ⟨gb, 0, none⟩ = some (.int .i64 z)) :
    Calls Tryd.prog 41 #[.agg #[.int .i64 x.tm, .int .i64 x.mc, .int .i64 x.a, .int .i64 x.b, .int .i64 x.lo, .int .i64 x.hi, .int .i64 x.to], .pointer (some ⟨gb, 0, none⟩)] w fun r w' => r = .returned (.bool (!upP z x)) ∧ Below w.heap.size w w' := by
  have hg := World.block_lt_of_cell? w _ h0
  by_cases hd : x.tm ≤ z
  · have hv : upP z x = true := by simp [upP, hd]
    have hb : decide (z < x.tm) = false := decide_eq_false (by omega)
    rw [hv]
    go_enter Tryd.func41, Tryd.ntmps41
    go_wp2
    go_ret
    exact ⟨by simp, by (repeat (with_reducible first | exact Below.refl _ _ | assumption | refine bal ?_ _ | refine bst ?_ (by simp <;> omega) _ | refine Below.drew ?_ | refine bthen ?_ (by assumption)))⟩
  · have hv : upP z x = false := by simp [upP, hd]
    have hb : decide (z < x.tm) = true := decide_eq_true (by omega)
    rw [hv]
    go_enter Tryd.func41, Tryd.ntmps41
    go_wp2
    go_ret
    exact ⟨by simp, by (repeat (with_reducible first | exact Below.refl _ _ | assumption | refine bal ?_ _ | refine bst ?_ (by simp <;> omega) _ | refine Below.drew ?_ | refine bthen ?_ (by assumption)))⟩
set_option maxRecDepth 8000 in
set_option maxHeartbeats 1600000 in
theorem implUp_any (v : Value) (es : List Rp) (z : Int) (w : World) (h : Rd rpS w w.heap.size v es) :
    Calls Tryd.prog 13 #[v, .int .i64 z] w fun r w' => (∃ (v' : Value) (y : List Rp) (b : Bool), r = .returned (.tuple #[v', .bool b]) ∧ upV es z = (y, b) ∧ w'.ownsRow w.heap.size 30 7 v' y.length (rpS.flat y)) ∧ Below w.heap.size w w' := by
  have eg : ∀ args w, (callFunc 41 args).run Tryd.prog w = .ok (.enter 41 args) w := fun args w => by first | rfl | kernel_rfl | simp [go_sem]
  have Hr := Lib.hid h; clear h
  have hbA : Below w.heap.size w (w.alloc _) := bal (Below.refl _ _) (Obj.cells #[.int .i64 z] 3)
  have hbox : Blk _ w.heap.size 3 #[.int .i64 z] := Blk.new w _ _
  cases hg : repsB es
  · have Hfin : upV es z = ([], false) := by unfold upV; rw [hg]; rfl
    replace Hfin := Lib.hid Hfin
    go_enter Tryd.func13, Tryd.ntmps13
    go_wp2_with fail
    refine (areReports_any _ es _ (Hr.out.on hbA)).mono ?_; rintro e w1 ⟨rfl, hb1⟩
    rw [hg]
    go_wp2
    go_ret2
    exact ⟨⟨_, [], false, rfl, Hfin.out, by simp [Shape.flat], Or.inl ⟨rfl, rfl⟩⟩, bthen hbA hb1⟩
  · have Hlen := Lib.hid (repsB_spec hg).1
    cases hi2 : insB z 0 1000000
    · have Hfin : upV es z = ([], false) := by unfold upV; rw [hi2, Bool.and_false]; rfl
      replace Hfin := Lib.hid Hfin
      go_enter Tryd.func13, Tryd.ntmps13
      go_wp2_with fail
      refine (areReports_any _ es _ (Hr.out.on hbA)).mono ?_; rintro e w1 ⟨rfl, hb1⟩
      rw [hg]
      have q0 := (hbox.on hb1).cell 0
      have ql := (hbox.on hb1).lt
      go_wp2_with fail
      refine (inside_any _ _ _ _).mono ?_; rintro e w2 ⟨rfl, rfl⟩
      rw [hi2]
      go_wp2
      go_ret2
      exact ⟨⟨_, [], false, rfl, Hfin.out, by simp [Shape.flat], Or.inl ⟨rfl, rfl⟩⟩, bthen hbA hb1⟩
    · have Hfin : upV es z = (es.filter (upP z), true) := by unfold upV; rw [hg, hi2]; rfl
      replace Hfin := Lib.hid Hfin
      go_enter Tryd.func13, Tryd.ntmps13
      go_wp2_with fail
      refine (areReports_any _ es _ (Hr.out.on hbA)).mono ?_; rintro e w1 ⟨rfl, hb1⟩
      rw [hg]
      have q0 := (hbox.on hb1).cell 0
      have ql := (hbox.on hb1).lt
      go_wp2_with fail
      refine (inside_any _ _ _ _).mono ?_; rintro e w2 ⟨rfl, rfl⟩
      rw [hi2]
      have hb1' := bthen hbA hb1
      go_wp2_with fail
      refine (cloneRp_any _ es _ (Hr.out.on hb1') (by have := Hlen.out; omega)).mono ?_
      rintro e w3 ⟨v3, rfl, hown3, hb3⟩
      have hlt3 : ∀ g, v3.ownBlock = some g → w1.heap.size ≤ g := fun g hg => (hown3.lt g hg).1
      have hq3 : w3.cell? ⟨w.heap.size, 0, none⟩ = some (.int .i64 z) := (hb3.cell (p := ⟨w.heap.size, 0, none⟩) ql).trans q0
      have Hq3 := Lib.hid hq3; clear hq3
      have Hown3 := Lib.hid hown3; clear hown3
      have Hlt3 := Lib.hid hlt3; clear hlt3
      go_wp2_with fail
      refine (delF_any 41 _ (fun x => !upP z x) eg v3 es w1.heap.size w3 Hown3.out (by have := Hlen.out; omega) ?_).mono ?_
      · intro W x hW
        refine up1_any x z w.heap.size W ?_
        exact hW.cell Hq3.out (by intro e; have := Hlt3.out w.heap.size e.symm; omega)
      · rintro e w4 ⟨v4, rfl, hown4, hg4⟩
        rw [filter_not_not] at hown4
        have Hown4 := Lib.hid hown4; clear hown4
        have Hg4 := Lib.hid hg4; clear hg4
        go_wp2
        go_ret2
        have hb4 : Below w1.heap.size w1 w4 := Below.grown hb3 Hg4.out hb3.size (fun j hj => Hlt3.out j hj)
        exact ⟨⟨_, _, _, rfl, Hfin.out, own_mono Hown4.out hb1'.size⟩, bthen hb1' hb4⟩
end Go.Proofs.YtjnghjgfhlgbiaaDoor
