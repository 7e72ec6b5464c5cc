/- Journals: what both say of one, and hand back; the laws' own helpers. Conditions: Env; bounds. -/
import Derived.Test.YtimfoodbolokdaaGreatDoorOpS
namespace Go.Proofs.YtimfoodbolokdaaGreatDoor
open Go Go.RowKit

def jrn (D P : ByteArray) : Value := .agg #[.string D, .string P]
theorem app_size (D P : ByteArray) : (D ++ P).size = D.size + P.size := ByteArray.size_append
/-- The bounds of a journal's texts. -/
structure JB (D P : ByteArray) : Prop where
  h : D.size + P.size ≤ 1048576
theorem JB.d {D P : ByteArray} (h : JB D P) : D.size ≤ 1048576 := by have := h.h; omega
theorem JB.p {D P : ByteArray} (h : JB D P) : P.size ≤ 1048576 := by have := h.h; omega
theorem JB.b {D P : ByteArray} (h : JB D P) : (D ++ P).size ≤ 1048576 := by rw [app_size]; exact h.h

set_option maxHeartbeats 400000 in
theorem jrShort_any (s : ByteArray) (w : World) (hs : s.size ≤ 4000000) : Calls Tryz.prog 156 #[.string s] w fun e w' => e = .returned (.bool (decide (s.size ≤ 4000))) ∧ w = w' := by
  go_enter Tryz.func156, Tryz.ntmps156
  go_wp2
  go_ret
  refine ⟨ret_bool ?_, rfl⟩
  rw [decide_eq_decide]
  omega
set_option maxRecDepth 8000 in
set_option maxHeartbeats 4000000 in
theorem jrGood_any (D P : ByteArray) (w : World) (h : JB D P) : Calls Tryz.prog 139 #[.agg #[.string D, .string P]] w fun e w' => e = .returned (.bool (jrOk D P)) ∧ Below w.heap.size w w' := by
  have hd := h.d; have hp := h.p; have hdp := h.b
  have Hbx := Lib.hid (Blk.new w 76 #[.string D, .string P])
  have HbA := Lib.hid (bal (Below.refl w.heap.size w) (Obj.cells #[.string D, .string P] 76))
  have Hs := Lib.hid (jrOk_spec D P)
  rw [app_size] at hdp
  go_enter Tryz.func139, Tryz.ntmps139
  go_wp2_with fail
  refine (jrShort_any D _ (by omega)).mono ?_; rintro e w1 ⟨rfl, rfl⟩
  cases h1 : decide (D.size ≤ 4000)
  · have Hv := Lib.hid (show jrOk D P = false by rw [Hs.out, h1]; rfl)
    go_wp2
    go_ret
    exact ⟨by rw [Hv.out]; rfl, HbA.out⟩
  · go_wp2_with fail
    refine (jrShort_any P _ (by omega)).mono ?_; rintro e w1 ⟨rfl, rfl⟩
    cases h2 : decide (P.size ≤ 4000)
    · have Hv := Lib.hid (show jrOk D P = false by rw [Hs.out, h1, h2]; rfl)
      go_wp2
      go_ret
      exact ⟨by rw [Hv.out]; rfl, HbA.out⟩
    · go_wp2_with fail
      refine (jrShort_any (D ++ P) _ (by rw [app_size]; omega)).mono ?_; rintro e w1 ⟨rfl, rfl⟩
      cases h3 : decide ((D ++ P).size ≤ 4000)
      · have Hv := Lib.hid (show jrOk D P = false by rw [Hs.out, h1, h2, h3]; rfl)
        go_wp2
        go_ret
        exact ⟨by rw [Hv.out]; rfl, HbA.out⟩
      · have Hv := Lib.hid (show jrOk D P = (decide ((jrA (D ++ P)).2 = D.size + P.size) && decide ((jrA D).2 = D.size)) by rw [Hs.out, h1, h2, h3]; rfl)
        have Hop := Lib.hid (fun W => jrOpen_any (D ++ P) W (by rw [app_size]; omega))
        have Hop2 := Lib.hid (fun W => jrOpen_any D W (by omega))
        have na : (jrA (D ++ P)).2 ≤ D.size + P.size := by have := (jrA_le (D ++ P)).2; rw [app_size] at this; exact this
        have nb := (jrA_le D).2
        generalize jrA (D ++ P) = ja at Hv Hop na
        generalize jrA D = jd at Hv Hop2 nb
        obtain ⟨xs, n⟩ := ja
        obtain ⟨ys, m⟩ := jd
        simp only at Hv Hop Hop2 na nb
        go_wp2_with fail
        refine (Hop.out _).mono ?_; rintro e w2 ⟨⟨v2, rfl, -⟩, hb2⟩
        have HB2 := Lib.hid (Hbx.out.on hb2); have Hb2 := Lib.hid (bthen HbA.out hb2); clear hb2
        have q0 := HB2.out.cell 0
        have q1 := HB2.out.cell 1
        have ql := HB2.out.lt
        simp at q0 q1
        go_wp2_with fail
        refine (Hop2.out _).mono ?_; rintro e w3 ⟨⟨v3, rfl, -⟩, hb3⟩
        clear q0 q1 ql
        have HB3 := Lib.hid (HB2.out.on hb3); have Hb3 := Lib.hid (bthen Hb2.out hb3); clear hb3
        have q0 := HB3.out.cell 0
        have q1 := HB3.out.cell 1
        have ql := HB3.out.lt
        simp at q0 q1
        by_cases hn : n = D.size + P.size
        · have hn1 : ((n : Int) == (D.size : Int) + (P.size : Int)) = true := beq_iff_eq.2 (by omega)
          by_cases hm : m = D.size
          · have hm1 : ((m : Int) == (D.size : Int)) = true := beq_iff_eq.2 (by omega)
            have Hw := Lib.hid (show jrOk D P = true by rw [Hv.out, decide_eq_true hn, decide_eq_true hm]; rfl)
            clear hn hm
            go_wp2
            go_ret
            exact ⟨by rw [Hw.out]; rfl, Hb3.out⟩
          · have hm1 : ((m : Int) == (D.size : Int)) = false := beq_eq_false_iff_ne.2 (by omega)
            have Hw := Lib.hid (show jrOk D P = false by rw [Hv.out, decide_eq_true hn, decide_eq_false hm]; rfl)
            clear hn hm
            go_wp2
            go_ret
            exact ⟨by rw [Hw.out]; rfl, Hb3.out⟩
        · have hn1 : ((n : Int) == (D.size : Int) + (P.size : Int)) = false := beq_eq_false_iff_ne.2 (by omega)
          have Hw := Lib.hid (show jrOk D P = false by rw [Hv.out, decide_eq_false hn]; rfl)
          clear hn
          go_wp2
          go_ret
          exact ⟨by rw [Hw.out]; rfl, Hb3.out⟩
set_option maxRecDepth 8000 in
set_option maxHeartbeats 4000000 in
theorem jrAll_any (D P : ByteArray) (w : World) (h : JB D P) (hok : jrOk D P = true) : Calls Tryz.prog 141 #[.agg #[.string D, .string P]] w fun e w' => (∃ v : Value, e = .returned v ∧ w'.ownsRow w.heap.size 78 4 v (jrRecs D P).length (rcS.flat (jrRecs D P))) ∧ Below w.heap.size w w' := by
  have hd := h.d; have hp := h.p; have hdp := h.h
  have HbA := Lib.hid (bal (Below.refl w.heap.size w) (Obj.cells #[.string D, .string P] 76))
  have Hop := Lib.hid (fun W => jrOpen_any (D ++ P) W (by rw [app_size]; omega))
  rw [jrRecs_spec hok] at Hop
  go_enter Tryz.func141, Tryz.ntmps141
  go_wp2_with fail
  refine (Hop.out _).mono ?_; rintro e w2 ⟨⟨v2, rfl, hown⟩, hb2⟩
  have Hown := Lib.hid (own_mono hown (base' := w.heap.size) (by rw [World.size_alloc]; omega)); clear hown
  go_wp2
  go_ret
  exact ⟨⟨_, rfl, Hown.out⟩, bthen HbA.out hb2⟩
set_option maxHeartbeats 400000 in
theorem implIsJ_any (D P : ByteArray) (w : World) (h : JB D P) (he : Env w) : Calls Tryz.prog 68 #[.agg #[.string D, .string P]] w fun e w' => e = .returned (.bool (jrOk D P)) ∧ Below w.heap.size w w' := by
  have hd := h.d; have hp := h.p
  have hbx := bal (Below.refl w.heap.size w) (Obj.cells #[.string D, .string P] 76)
  have He := Lib.hid (he.on hbx)
  have Hbx := Lib.hid hbx; clear hbx he
  go_enter Tryz.func68, Tryz.ntmps68
  go_wp2_with fail
  refine (recordsOf_any D P _ (by omega) (by omega) He.out).mono ?_; rintro e w1 ⟨⟨v, rfl, -⟩, hb1⟩
  go_wp2
  go_ret
  exact ⟨rfl, bthen Hbx.out hb1⟩
end Go.Proofs.YtimfoodbolokdaaGreatDoor
