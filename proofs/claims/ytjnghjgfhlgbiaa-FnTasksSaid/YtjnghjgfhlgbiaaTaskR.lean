/- IsTask, RestOfTask, CandidateOf, RunRange of both: the walks. Conditions: none. -/
import Derived.Test.YtjnghjgfhlgbiaaTaskD
namespace Go.Proofs.Ytjnghjgfhlgbiaa
open Go Go.RowKit

theorem tkG_spec {a b m d t : Int} {fs : List Pt} (h : tkG a b m d t fs = true) : TkB a b m d ∧ (0 ≤ t ∧ t ≤ totI m d) ∧ fs = hitsZ a b m 0 t ∧ (0 ≤ totI m d ∧ totI m d ≤ 4010) := by
  unfold tkG at h
  simp only [Bool.and_eq_true, decide_eq_true_eq] at h
  exact ⟨tkB_tk h.1, insB_true h.2.1, h.2.2, totI_bd (tkB_tk h.1).m (tkB_tk h.1).d⟩
def restV (a b m d t : Int) (fs : List Pt) : Int × Bool := if tkG a b m d t fs then (totI m d - t, true) else (0, false)
def candV (a b m d t : Int) (fs : List Pt) (i : Int) : Int × Int × Bool := if tkG a b m d t fs && insB i 0 (totI m d - 1) then (cxI m i, ceI m i, true) else (0, 0, false)
def runV (a b m d t : Int) (fs : List Pt) (f l : Int) : List Pt × Bool := if tkG a b m d t fs && (insB f 0 l && decide (l ≤ totI m d)) then (hitsZ a b m f l, true) else ([], false)
theorem ret_ib {n : Int} {k : Bool} {p : Int × Bool} (h : p = (n, k)) : Ending.returned (.tuple #[.int .i64 n, .bool k]) = .returned (.tuple #[.int .i64 p.1, .bool p.2]) := by rw [h]
theorem ret_iib {n q : Int} {k : Bool} {p : Int × Int × Bool} (h : p = (n, q, k)) : Ending.returned (.tuple #[.int .i64 n, .int .i64 q, .bool k]) = .returned (.tuple #[.int .i64 p.1, .int .i64 p.2.1, .bool p.2.2]) := by rw [h]

set_option maxRecDepth 8000 in
set_option maxHeartbeats 4000000 in
theorem implIsTask_any (a b m d t : Int) (v : Value) (fs : List Pt) (w : World) (hv : Rd ptS w w.heap.size v fs) :
    Calls Try.prog 9 #[.agg #[.int .i64 a, .int .i64 b, .int .i64 m, .int .i64 d, .int .i64 t, v]] w fun r w' => r = .returned (.bool (tkG a b m d t fs)) ∧ Below w.heap.size w w' := by
  have Hb := Lib.hid (Blk.new w 28 #[.int .i64 a, .int .i64 b, .int .i64 m, .int .i64 d, .int .i64 t, v])
  have hb0 := bal (Below.refl w.heap.size w) (Obj.cells #[.int .i64 a, .int .i64 b, .int .i64 m, .int .i64 d, .int .i64 t, v] 28)
  have HR := Lib.hid (hv.on hb0)
  have HbA := Lib.hid hb0; clear hb0 hv
  have Hsp := Lib.hid (tkG_spec (a := a) (b := b) (m := m) (d := d) (t := t) (fs := fs))
  go_enter Try.func9, Try.ntmps9
  go_wp2_with fail
  refine (isTask_any _ a b m d t v fs _ Hb.out HR.out).mono ?_; rintro r w1 ⟨rfl, hb1⟩
  have HB1 := Lib.hid (Hb.out.on hb1)
  have q0 := HB1.out.cell 0
  have q1 := HB1.out.cell 1
  have q2 := HB1.out.cell 2
  have q3 := HB1.out.cell 3
  have q4 := HB1.out.cell 4
  have q5 := HB1.out.cell 5
  have ql := HB1.out.lt
  simp at q0 q1 q2 q3 q4 q5
  have Hb01 := Lib.hid (bthen HbA.out hb1)
  clear hb1
  clear q0 q1 q2 q3 q4 q5 ql
  go_wp2
  go_ret
  exact ⟨rfl, Hb01.out⟩
set_option maxRecDepth 8000 in
set_option maxHeartbeats 4000000 in
theorem implRest_any (a b m d t : Int) (v : Value) (fs : List Pt) (w : World) (hv : Rd ptS w w.heap.size v fs) :
    Calls Try.prog 11 #[.agg #[.int .i64 a, .int .i64 b, .int .i64 m, .int .i64 d, .int .i64 t, v]] w fun r w' => r = .returned (.tuple #[.int .i64 (restV a b m d t fs).1, .bool (restV a b m d t fs).2]) ∧ Below w.heap.size w w' := by
  have Hb := Lib.hid (Blk.new w 28 #[.int .i64 a, .int .i64 b, .int .i64 m, .int .i64 d, .int .i64 t, v])
  have hb0 := bal (Below.refl w.heap.size w) (Obj.cells #[.int .i64 a, .int .i64 b, .int .i64 m, .int .i64 d, .int .i64 t, v] 28)
  have HR := Lib.hid (hv.on hb0)
  have HbA := Lib.hid hb0; clear hb0 hv
  have Hsp := Lib.hid (tkG_spec (a := a) (b := b) (m := m) (d := d) (t := t) (fs := fs))
  go_enter Try.func11, Try.ntmps11
  go_wp2_with fail
  refine (isTask_any _ a b m d t v fs _ Hb.out HR.out).mono ?_; rintro r w1 ⟨rfl, hb1⟩
  have HB1 := Lib.hid (Hb.out.on hb1)
  have q0 := HB1.out.cell 0
  have q1 := HB1.out.cell 1
  have q2 := HB1.out.cell 2
  have q3 := HB1.out.cell 3
  have q4 := HB1.out.cell 4
  have q5 := HB1.out.cell 5
  have ql := HB1.out.lt
  simp at q0 q1 q2 q3 q4 q5
  have Hb01 := Lib.hid (bthen HbA.out hb1)
  clear hb1
  cases hk : tkG a b m d t fs
  · have Hv := Lib.hid (show restV a b m d t fs = (0, false) by unfold restV; rw [hk]; rfl)
    clear hk
    go_wp2
    go_ret2
    exact ⟨ret_ib Hv.out, Hb01.out⟩
  · have Hv := Lib.hid (show restV a b m d t fs = (totI m d - t, true) by unfold restV; rw [hk]; rfl)
    have Hs := Lib.hid (Hsp.out hk)
    obtain ⟨t1, t2⟩ := Hs.out.2.1
    obtain ⟨t3, t4⟩ := Hs.out.2.2.2
    clear hk
    go_wp2
    refine wp_region_tame (by kernel_rfl) (by kernel_rfl) (fun T _ W hT => ?_)
    have hx := hT.cell
    repeat (go_big_quiet_step ((go_at_call 27; exact hT.call (tkTotal_any w.heap.size a b m d t v _ (HB1.out.on (hT.below _)) Hs.out.1))))
    refine wpQuiet_nil ?_
    intro z
    clear hx
    go_wp2
    go_ret2
    exact ⟨ret_ib Hv.out, bthen Hb01.out (hT.below z)⟩
set_option maxRecDepth 8000 in
set_option maxHeartbeats 4000000 in
theorem implCand_any (a b m d t : Int) (v : Value) (fs : List Pt) (i : Int) (w : World) (hv : Rd ptS w w.heap.size v fs) :
    Calls Try.prog 19 #[.agg #[.int .i64 a, .int .i64 b, .int .i64 m, .int .i64 d, .int .i64 t, v], .int .i64 i] w fun r w' => r = .returned (.tuple #[.int .i64 (candV a b m d t fs i).1, .int .i64 (candV a b m d t fs i).2.1, .bool (candV a b m d t fs i).2.2]) ∧ Below w.heap.size w w' := by
  have Hb := Lib.hid (Blk.new w 28 #[.int .i64 a, .int .i64 b, .int .i64 m, .int .i64 d, .int .i64 t, v])
  have hb0 := bal (Below.refl w.heap.size w) (Obj.cells #[.int .i64 a, .int .i64 b, .int .i64 m, .int .i64 d, .int .i64 t, v] 28)
  have HR := Lib.hid (hv.on hb0)
  have HbA := Lib.hid hb0; clear hb0 hv
  have Hsp := Lib.hid (tkG_spec (a := a) (b := b) (m := m) (d := d) (t := t) (fs := fs))
  go_enter Try.func19, Try.ntmps19
  go_wp2_with fail
  refine (isTask_any _ a b m d t v fs _ Hb.out HR.out).mono ?_; rintro r w1 ⟨rfl, hb1⟩
  have HB1 := Lib.hid (Hb.out.on hb1)
  have q0 := HB1.out.cell 0
  have q1 := HB1.out.cell 1
  have q2 := HB1.out.cell 2
  have q3 := HB1.out.cell 3
  have q4 := HB1.out.cell 4
  have q5 := HB1.out.cell 5
  have ql := HB1.out.lt
  simp at q0 q1 q2 q3 q4 q5
  have Hb01 := Lib.hid (bthen HbA.out hb1)
  clear hb1
  cases hk : tkG a b m d t fs
  · have Hv := Lib.hid (show candV a b m d t fs i = (0, 0, false) by unfold candV; rw [hk]; rfl)
    clear hk
    go_wp2
    go_ret3
    exact ⟨ret_iib Hv.out, Hb01.out⟩
  · have Hs := Lib.hid (Hsp.out hk)
    have Hk := Lib.hid hk; clear hk
    obtain ⟨t3, t4⟩ := Hs.out.2.2.2
    go_wp2_with fail
    refine (tkTotal_any w.heap.size a b m d t v _ HB1.out Hs.out.1).mono ?_; rintro r w2 ⟨rfl, hb2⟩
    have HB2 := Lib.hid (HB1.out.on hb2)
    have Hb02 := Lib.hid (bthen Hb01.out hb2)
    clear q0 q1 q2 q3 q4 q5 ql hb2
    have q0 := HB2.out.cell 0
    have q1 := HB2.out.cell 1
    have q2 := HB2.out.cell 2
    have q3 := HB2.out.cell 3
    have q4 := HB2.out.cell 4
    have q5 := HB2.out.cell 5
    have ql := HB2.out.lt
    simp at q0 q1 q2 q3 q4 q5
    go_wp2_with fail
    refine (inside_any _ _ _ _).mono ?_; rintro r w3 ⟨rfl, rfl⟩
    cases hi : insB i 0 (totI m d - 1)
    · have Hv := Lib.hid (show candV a b m d t fs i = (0, 0, false) by unfold candV; rw [Hk.out, hi]; rfl)
      clear hi
      go_wp2
      go_ret3
      exact ⟨ret_iib Hv.out, Hb02.out⟩
    · have Hv := Lib.hid (show candV a b m d t fs i = (cxI m i, ceI m i, true) by unfold candV; rw [Hk.out, hi]; rfl)
      go_wp2_with fail
      refine (candidate_any w.heap.size a b m d t i v _ HB2.out Hs.out.1.m (by have := insB_true hi; omega)).mono ?_; rintro r w4 ⟨rfl, hb4⟩
      clear hi
      go_wp2
      go_ret3
      exact ⟨ret_iib Hv.out, bthen Hb02.out hb4⟩
set_option maxRecDepth 8000 in
set_option maxHeartbeats 4000000 in
theorem specIsTask_any (a b m d t : Int) (v : Value) (fs : List Pt) (w : World) (hv : Rd ptS w w.heap.size v fs) :
    Calls Try.prog 10 #[.agg #[.int .i64 a, .int .i64 b, .int .i64 m, .int .i64 d, .int .i64 t, v]] w fun r w' => r = .returned (.bool (tkG a b m d t fs)) ∧ Below w.heap.size w w' := by
  have Hb := Lib.hid (Blk.new w 28 #[.int .i64 a, .int .i64 b, .int .i64 m, .int .i64 d, .int .i64 t, v])
  have hb0 := bal (Below.refl w.heap.size w) (Obj.cells #[.int .i64 a, .int .i64 b, .int .i64 m, .int .i64 d, .int .i64 t, v] 28)
  have HR := Lib.hid (hv.on hb0)
  have HbA := Lib.hid hb0; clear hb0 hv
  have Hsp := Lib.hid (tkG_spec (a := a) (b := b) (m := m) (d := d) (t := t) (fs := fs))
  go_enter Try.func10, Try.ntmps10
  go_wp2_with fail
  refine (skGood_any a b m d t v fs _ HR.out).mono ?_; rintro r w1 ⟨rfl, hb1⟩
  have HB1 := Lib.hid (Hb.out.on hb1)
  have q0 := HB1.out.cell 0
  have q1 := HB1.out.cell 1
  have q2 := HB1.out.cell 2
  have q3 := HB1.out.cell 3
  have q4 := HB1.out.cell 4
  have q5 := HB1.out.cell 5
  have ql := HB1.out.lt
  simp at q0 q1 q2 q3 q4 q5
  have Hb01 := Lib.hid (bthen HbA.out hb1)
  clear hb1
  clear q0 q1 q2 q3 q4 q5 ql
  go_wp2
  go_ret
  exact ⟨rfl, Hb01.out⟩
set_option maxRecDepth 8000 in
set_option maxHeartbeats 4000000 in
theorem specCand_any (a b m d t : Int) (v : Value) (fs : List Pt) (i : Int) (w : World) (hv : Rd ptS w w.heap.size v fs) :
    Calls Try.prog 20 #[.agg #[.int .i64 a, .int .i64 b, .int .i64 m, .int .i64 d, .int .i64 t, v], .int .i64 i] w fun r w' => r = .returned (.tuple #[.int .i64 (candV a b m d t fs i).1, .int .i64 (candV a b m d t fs i).2.1, .bool (candV a b m d t fs i).2.2]) ∧ Below w.heap.size w w' := by
  have Hb := Lib.hid (Blk.new w 28 #[.int .i64 a, .int .i64 b, .int .i64 m, .int .i64 d, .int .i64 t, v])
  have hb0 := bal (Below.refl w.heap.size w) (Obj.cells #[.int .i64 a, .int .i64 b, .int .i64 m, .int .i64 d, .int .i64 t, v] 28)
  have HR := Lib.hid (hv.on hb0)
  have HbA := Lib.hid hb0; clear hb0 hv
  have Hsp := Lib.hid (tkG_spec (a := a) (b := b) (m := m) (d := d) (t := t) (fs := fs))
  go_enter Try.func20, Try.ntmps20
  go_wp2_with fail
  refine (skGood_any a b m d t v fs _ HR.out).mono ?_; rintro r w1 ⟨rfl, hb1⟩
  have HB1 := Lib.hid (Hb.out.on hb1)
  have q0 := HB1.out.cell 0
  have q1 := HB1.out.cell 1
  have q2 := HB1.out.cell 2
  have q3 := HB1.out.cell 3
  have q4 := HB1.out.cell 4
  have q5 := HB1.out.cell 5
  have ql := HB1.out.lt
  simp at q0 q1 q2 q3 q4 q5
  have Hb01 := Lib.hid (bthen HbA.out hb1)
  clear hb1
  cases hk : tkG a b m d t fs
  · have Hv := Lib.hid (show candV a b m d t fs i = (0, 0, false) by unfold candV; rw [hk]; rfl)
    clear hk
    go_wp2
    go_ret3
    exact ⟨ret_iib Hv.out, Hb01.out⟩
  · have Hs := Lib.hid (Hsp.out hk)
    have Hk := Lib.hid hk; clear hk
    obtain ⟨t3, t4⟩ := Hs.out.2.2.2
    go_wp2_with fail
    refine (skCount_any a b m d t v _ Hs.out.1).mono ?_; rintro r w2 ⟨rfl, hb2⟩
    have HB2 := Lib.hid (HB1.out.on hb2)
    have Hb02 := Lib.hid (bthen Hb01.out hb2)
    clear q0 q1 q2 q3 q4 q5 ql hb2
    have q0 := HB2.out.cell 0
    have q1 := HB2.out.cell 1
    have q2 := HB2.out.cell 2
    have q3 := HB2.out.cell 3
    have q4 := HB2.out.cell 4
    have q5 := HB2.out.cell 5
    have ql := HB2.out.lt
    simp at q0 q1 q2 q3 q4 q5
    go_wp2_with fail
    refine (l1In_any _ _ _ _).mono ?_; rintro r w3 ⟨rfl, rfl⟩
    cases hi : insB i 0 (totI m d - 1)
    · have Hv := Lib.hid (show candV a b m d t fs i = (0, 0, false) by unfold candV; rw [Hk.out, hi]; rfl)
      clear hi
      go_wp2
      go_ret3
      exact ⟨ret_iib Hv.out, Hb02.out⟩
    · have Hv := Lib.hid (show candV a b m d t fs i = (cxI m i, ceI m i, true) by unfold candV; rw [Hk.out, hi]; rfl)
      go_wp2_with fail
      refine (skCandidate_any a b m d t i v _ Hs.out.1.m (by have := insB_true hi; omega)).mono ?_; rintro r w4 ⟨rfl, hb4⟩
      clear hi
      go_wp2
      go_ret3
      exact ⟨ret_iib Hv.out, bthen Hb02.out hb4⟩
theorem run_out {f l T : Int} (h : insB l 0 T = false) : (insB f 0 l && decide (l ≤ T)) = false := by
  rw [Bool.eq_false_iff]
  intro hc
  simp only [Bool.and_eq_true, decide_eq_true_eq] at hc
  have := insB_true hc.1
  rw [insB_mk (by omega) hc.2] at h
  cases h
end Go.Proofs.Ytjnghjgfhlgbiaa
