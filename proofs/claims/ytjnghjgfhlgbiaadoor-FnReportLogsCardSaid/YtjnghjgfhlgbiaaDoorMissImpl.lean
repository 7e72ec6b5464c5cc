/- MissingReports of the program: the walk. Conditions: none. -/
import Derived.Test.YtjnghjgfhlgbiaaDoorMiss
namespace Go.Proofs.YtjnghjgfhlgbiaaDoor
open Go Go.RowKit

theorem mi1_any (x : Rp) (va : Value) (xs : List Rp) (gb : Nat) (w : World) (h0 : w.cell? ⟨gb, 0, none⟩ = some va) (ha : Rd rpS w w.heap.size va xs) :
    Calls Tryd.prog 37 #[.agg #[.int .i64 x.tm, .int .i64 x.mc, .int .i64 x.a, .int .i64 x.b, .int .i64 x.lo, .int .i64 x.hi, .int .i64 x.to], .pointer (some ⟨gb, 0, none⟩)] w fun r w' => r = .returned (.bool (hasR xs x)) ∧ Below w.heap.size w w' := by
  have hg := World.block_lt_of_cell? w _ h0
  have Ha := Lib.hid ha
  have hbA : Below w.heap.size w (w.alloc _) := bal (Below.refl _ _) (Obj.cells #[.int .i64 x.tm, .int .i64 x.mc, .int .i64 x.a, .int .i64 x.b, .int .i64 x.lo, .int .i64 x.hi, .int .i64 x.to] 30)
  have HbA := Lib.hid hbA; clear hbA
  obtain ⟨A, c, rfl, -, -, -⟩ := ha
  go_enter Tryd.func37, Tryd.ntmps37
  go_wp2_with fail
  refine (containsRp_any _ xs x _ (Ha.out.on HbA.out)).mono ?_
  rintro e w1 ⟨rfl, hb1⟩
  go_wp2
  go_ret
  exact ⟨rfl, bthen HbA.out hb1⟩
set_option maxRecDepth 8000 in
set_option maxHeartbeats 1600000 in
theorem implMiss_any (va : Value) (xs : List Rp) (v : Value) (es : List Rp) (w : World) (ha : Rd rpS w w.heap.size va xs) (h : Rd rpS w w.heap.size v es) :
    Calls Tryd.prog 9 #[va, v] w fun r w' => (∃ (v' : Value) (y : List Rp) (b : Bool), r = .returned (.tuple #[v', .bool b]) ∧ missV xs es = (y, b) ∧ w'.ownsRow w.heap.size 30 7 v' y.length (rpS.flat y)) ∧ Below w.heap.size w w' := by
  have eg : ∀ args w, (callFunc 37 args).run Tryd.prog w = .ok (.enter 37 args) w := fun args w => by first | rfl | kernel_rfl | simp [go_sem]
  have Ha := Lib.hid ha
  have Hr := Lib.hid h; clear h
  obtain ⟨A, c, rfl, -, -, -⟩ := ha
  have hbA : Below w.heap.size w (w.alloc _) := bal (Below.refl _ _) (Obj.cells #[.slice A xs.length c] 24)
  have hbox : Blk _ w.heap.size 24 #[.slice A xs.length c] := Blk.new w _ _
  cases hg : repsB xs
  · have Hfin : missV xs es = ([], false) := by unfold missV; rw [hg]; rfl
    replace Hfin := Lib.hid Hfin
    go_enter Tryd.func9, Tryd.ntmps9
    go_wp2_with fail
    refine (areReports_any _ xs _ (Ha.out.on hbA)).mono ?_; rintro e w1 ⟨rfl, hb1⟩
    rw [hg]
    go_wp2
    go_ret2
    exact ⟨⟨_, [], false, rfl, Hfin.out, by simp [Shape.flat], Or.inl ⟨rfl, rfl⟩⟩, bthen hbA hb1⟩
  · cases hi2 : repsB es
    · have Hfin : missV xs es = ([], false) := by unfold missV; rw [hi2, Bool.and_false]; rfl
      replace Hfin := Lib.hid Hfin
      go_enter Tryd.func9, Tryd.ntmps9
      go_wp2_with fail
      refine (areReports_any _ xs _ (Ha.out.on hbA)).mono ?_; rintro e w1 ⟨rfl, hb1⟩
      rw [hg]
      have hb1' := bthen hbA hb1
      go_wp2_with fail
      refine (areReports_any _ es _ (Hr.out.on hb1')).mono ?_; rintro e w2 ⟨rfl, hb2⟩
      rw [hi2]
      go_wp2
      go_ret2
      exact ⟨⟨_, [], false, rfl, Hfin.out, by simp [Shape.flat], Or.inl ⟨rfl, rfl⟩⟩, bthen hb1' hb2⟩
    · have Hfin : missV xs es = (es.filter (fun x => !hasR xs x), true) := by unfold missV; rw [hg, hi2]; rfl
      replace Hfin := Lib.hid Hfin
      have Hlen := Lib.hid (repsB_spec hi2).1
      go_enter Tryd.func9, Tryd.ntmps9
      go_wp2_with fail
      refine (areReports_any _ xs _ (Ha.out.on hbA)).mono ?_; rintro e w1 ⟨rfl, hb1⟩
      rw [hg]
      have hb1' := bthen hbA hb1
      have hbox1 := hbox.on hb1
      go_wp2_with fail
      refine (areReports_any _ es _ (Hr.out.on hb1')).mono ?_; rintro e w2 ⟨rfl, hb2⟩
      rw [hi2]
      have hb2' := bthen hb1' hb2
      have hbox2 := hbox1.on hb2
      have q0 := hbox2.cell 0
      have ql := hbox2.lt
      go_wp2_with fail
      refine (cloneRp_any _ es _ (Hr.out.on hb2') (by have := Hlen.out; omega)).mono ?_
      rintro e w3 ⟨v3, rfl, hown3, hb3⟩
      have hlt3 : ∀ g, v3.ownBlock = some g → w2.heap.size ≤ g := fun g hg => (hown3.lt g hg).1
      have hq3 : w3.cell? ⟨w.heap.size, 0, none⟩ = some (.slice A xs.length c) := (hb3.cell (p := ⟨w.heap.size, 0, none⟩) ql).trans q0
      have Hq3 := Lib.hid hq3; clear hq3
      have Hown3 := Lib.hid hown3; clear hown3
      have Hlt3 := Lib.hid hlt3; clear hlt3
      have Hw2 := Lib.hid hb2'.size
      have Ha3 := Lib.hid (Ha.out.below (bthen hb2' hb3))
      go_wp2_with fail
      refine (delF_any 37 _ (fun x => hasR xs x) eg v3 es w2.heap.size w3 Hown3.out (by have := Hlen.out; omega) ?_).mono ?_
      · intro W x hW
        have hne : ∀ b, b < w2.heap.size → some b ≠ v3.ownBlock := fun b hb e => by have := Hlt3.out b e.symm; omega
        refine mi1_any x (.slice A xs.length c) xs w.heap.size W ?_ ?_
        · exact hW.cell Hq3.out (hne _ ql)
        · have hs3 := hb3.size
          have hsW := hW.size
          have hs2 := Hw2.out
          exact (Ha3.out.keep (fun p hp => World.cell?_of_block (hW.block p.block (by omega) (hne _ (by omega))))).more (by omega)
      · rintro e w4 ⟨v4, rfl, hown4, hg4⟩
        have Hown4 := Lib.hid hown4; clear hown4
        have Hg4 := Lib.hid hg4; clear hg4
        go_wp2
        go_ret2
        have hb4 : Below w2.heap.size w2 w4 := Below.grown hb3 Hg4.out hb3.size (fun j hj => Hlt3.out j hj)
        exact ⟨⟨_, _, _, rfl, Hfin.out, own_mono Hown4.out hb2'.size⟩, bthen hb2' hb4⟩

end Go.Proofs.YtjnghjgfhlgbiaaDoor
