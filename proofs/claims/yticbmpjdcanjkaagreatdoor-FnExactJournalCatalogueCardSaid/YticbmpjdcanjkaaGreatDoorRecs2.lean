/- The program's records of a journal. Conditions: Env. -/
import Derived.Test.YticbmpjdcanjkaaGreatDoorRecs
namespace Go.Proofs.YticbmpjdcanjkaaGreatDoor
open Go Go.RowKit

/-- What both hand back: the records, if the journal is valid. -/
def jrV (D P : ByteArray) : List Rc := if jrOk D P = true then jrRecs D P else []
theorem jrV_ok {D P : ByteArray} (h : jrOk D P = true) : jrV D P = jrRecs D P := by unfold jrV; rw [if_pos h]
theorem jrV_no {D P : ByteArray} (h : jrOk D P = false) : jrV D P = [] := by unfold jrV; rw [h]; rfl
theorem rc_one (ys : List Rc) : ∀ u ∈ rcS.flat ys, u.oneCell' = true := by
  intro u hu
  obtain ⟨r, -, hr⟩ := List.mem_flatMap.1 hu
  have hr2 : u ∈ rcS.flat [r] := by simpa [Shape.flat] using hr
  rw [rc4] at hr2
  simp at hr2
  rcases hr2 with rfl | rfl | rfl | rfl <;> rfl
theorem own_two {w : World} {b : Nat} {t : TypeId} {z n c : Nat} {A : Option Addr} {xs : List Value} (h : w.ownsRow b t z (.slice A n c) n xs) : (n = 0 ∧ A = none ∧ c = 0) ∨ ∃ g, A = some ⟨g, 0, none⟩ ∧ b ≤ g ∧ g < w.heap.size := by
  rcases h.2 with ⟨h', hn⟩ | ⟨g, cap, cur, h', hb, hg, -⟩
  · cases h'; exact Or.inl ⟨hn, rfl, rfl⟩
  · cases h'; exact Or.inr ⟨g, rfl, hb, (Array.getElem?_eq_some_iff.1 hg).1⟩
theorem Addr.add_zero_block (g j : Nat) : (⟨g, 0, none⟩ : Addr).add j = ⟨g, j, none⟩ := by
  unfold Addr.add
  by_cases h : j = 0 <;> simp [h]
set_option maxRecDepth 8000 in
set_option maxHeartbeats 4000000 in
theorem recordsOf_any (D P : ByteArray) (w : World) (hD : D.size ≤ 2000000) (hP : P.size ≤ 2000000) (h : Env w) :
    Calls Tryz.prog 41 #[.agg #[.string D, .string P]] w fun e w' => (∃ v : Value, e = .returned (.tuple #[v, .bool (jrOk D P)]) ∧ w'.ownsRow w.heap.size 72 4 v (jrV D P).length (rcS.flat (jrV D P))) ∧ Below w.heap.size w w' := by
  obtain ⟨i0, hi, hz0, hz1, hz2⟩ := info_parts infoRecord
  have Hbx := Lib.hid (Blk.new w 38 #[.string D, .string P])
  have hbA := bal (Below.refl w.heap.size w) (Obj.cells #[.string D, .string P] 38)
  have He := Lib.hid (h.on hbA)
  have HbA := Lib.hid hbA; clear hbA h
  go_enter Tryz.func41, Tryz.ntmps41
  go_wp2_with fail
  refine (readRecords_any D 0 _ (by omega) hD He.out).mono ?_; rintro e w1 ⟨⟨v1, xs, n, ha, rfl, hown1⟩, hb1⟩
  have HB1 := Lib.hid (Hbx.out.on hb1); have He1 := Lib.hid (He.out.on hb1); have Hb1 := Lib.hid (bthen HbA.out hb1); clear hb1
  obtain ⟨A1, c1, rfl⟩ := own_form hown1
  have Hown1 := Lib.hid hown1; clear hown1
  have Ha := Lib.hid (show jrA D = (xs, n) from ha); clear ha
  have q0 := HB1.out.cell 0
  have q1 := HB1.out.cell 1
  have ql := HB1.out.lt
  simp at q0 q1
  have hxl : xs.length ≤ 30 := by have := (jrA_le D).1; rw [Ha.out] at this; exact this
  go_wp2_with fail
  refine (readRecords_any P xs.length _ hxl hP He1.out).mono ?_; rintro e w2 ⟨⟨v2, ys, m, hb, rfl, hown2⟩, hb2⟩
  clear q0 q1 ql
  have HB2 := Lib.hid (HB1.out.on hb2); have Hb2 := Lib.hid (bthen Hb1.out hb2)
  have Hown1' := Lib.hid (own_mono (own_below Hown1.out hb2) (base' := w.heap.size) (by rw [World.size_alloc]; omega))
  obtain ⟨A2, c2, rfl⟩ := own_form hown2
  have Hown2 := Lib.hid hown2; clear hown2 hb2
  have Hbb := Lib.hid (show jrN D P = (ys, m) by unfold jrN; rw [Ha.out]; exact hb); clear hb
  have q0 := HB2.out.cell 0
  have q1 := HB2.out.cell 1
  have ql := HB2.out.lt
  simp at q0 q1
  have neqF : ∀ a b : Nat, a = b → ((a : Int) != (b : Int)) = false := fun a b e => by rw [e]; simp
  have neqT : ∀ a b : Nat, a ≠ b → ((a : Int) != (b : Int)) = true := fun a b e => by simp [bne]; omega
  by_cases hn : n = D.size
  · have hn1 := neqF _ _ hn
    by_cases hm : m = P.size
    · have hm1 := neqF _ _ hm
      have hok : jrOk D P = true := by unfold jrOk; rw [Ha.out, Hbb.out]; exact decide_eq_true ⟨hn, hm⟩
      have hv : jrV D P = xs ++ ys := by rw [jrV_ok hok]; unfold jrRecs; rw [Ha.out, Hbb.out]
      have Hv := Lib.hid hv
      have Hok := Lib.hid hok
      have hyl : ys.length ≤ 30 := by have := (jrN_le D P).1; rw [Hbb.out] at this; simp at this; omega
      clear hok hv
      rcases own_two Hown2.out with ⟨h0, rfl, rfl⟩ | ⟨g2, rfl, hbg, hlg⟩
      · obtain rfl : ys = [] := List.eq_nil_of_length_eq_zero h0
        clear h0 hyl
        go_wp2_with (at_builtin; refine wpList_append_own_none rfl _ _ 67 rfl w.heap.size 72 i0 4 Tryz.underlying67 hi _ _ _ rfl Hown1'.out rfl ?_)
        go_ret2
        exact ⟨⟨_, by rw [Hok.out]; rfl, by rw [Hv.out, List.append_nil]; exact Hown1'.out⟩, Hb2.out⟩
      · go_wp2_with (at_builtin; refine wpList_append_own _ rfl _ _ 67 rfl w.heap.size 72 i0 (.agg #[.int .i64 0, .int .i64 0, .int .i64 0, .int .i64 0]) 4 32 Tryz.underlying67 hi hz0 hz1 hz2 rfl (by decide) _ _ _ rfl Hown1'.out ⟨g2, 0, none⟩ ys.length c2 (rcS.flat ys) rfl ?c0 ?c1 ?c2 ?c3 ?c4 ?c5 ?_)
        case c0 => exact Hown2.out.1
        case c1 =>
          intro j u hj
          have hj2 : j < ys.length * 4 := by rw [← Hown2.out.1]; exact (List.getElem?_eq_some_iff.1 hj).1
          have := Hown2.out.cellAt j hj2
          rw [Addr.add_zero_block]
          rw [this, hj]
        case c2 => exact fun u hu => rc_one ys u hu
        case c3 => unfold maxLen; omega
        case c4 => omega
        case c5 => have := Hb2.out.size; omega
        intro v' w3 hown' hgrow _
        have hbn : Below w.heap.size w w3 := Below.grown Hb2.out hgrow (by have := Hb2.out.size; omega) (fun j hj => (Hown1'.out.lt j hj).1)
        have Hown' := Lib.hid (show w3.ownsRow w.heap.size 72 4 v' (jrV D P).length (rcS.flat (jrV D P)) by rw [Hv.out, Shape.flat_append, List.length_append]; exact hown')
        clear hown' hgrow
        go_wp2
        go_ret2
        exact ⟨⟨_, by rw [Hok.out]; rfl, Hown'.out⟩, hbn⟩
    · have hm1 := neqT _ _ hm
      have hok : jrOk D P = false := by unfold jrOk; rw [Ha.out, Hbb.out]; exact decide_eq_false (fun hh => hm hh.2)
      have Hv := Lib.hid (jrV_no hok)
      have Hok := Lib.hid hok
      clear hok hn hm
      go_wp2
      go_ret2
      exact ⟨⟨_, by rw [Hok.out]; rfl, by rw [Hv.out]; exact ⟨by simp [Shape.flat], Or.inl ⟨rfl, rfl⟩⟩⟩, Hb2.out⟩
  · have hn1 := neqT _ _ hn
    have hok : jrOk D P = false := by unfold jrOk; rw [Ha.out]; exact decide_eq_false (fun hh => hn hh.1)
    have Hv := Lib.hid (jrV_no hok)
    have Hok := Lib.hid hok
    clear hok hn
    go_wp2
    go_ret2
    exact ⟨⟨_, by rw [Hok.out]; rfl, by rw [Hv.out]; exact ⟨by simp [Shape.flat], Or.inl ⟨rfl, rfl⟩⟩⟩, Hb2.out⟩
end Go.Proofs.YticbmpjdcanjkaaGreatDoor
