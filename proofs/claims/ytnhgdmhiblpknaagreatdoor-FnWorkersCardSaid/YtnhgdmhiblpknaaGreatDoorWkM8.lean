/- Own texts put together: IsTask, RestOfTask, CandidateOf, RunRange of both: the walks; The ranges of a task's candidates for some workers: the walks of both. Conditions: those of each theorem. -/
import Derived.Test.YtnhgdmhiblpknaaGreatDoorWkM5
import Derived.Test.YtnhgdmhiblpknaaGreatDoorWkM7
namespace Go.Proofs.YtnhgdmhiblpknaaGreatDoor
section
open Go Go.RowKit

theorem tkG_spec {a b m d t : Int} {fs : List Pt} (h : tkG a b m d t fs = true) : TkB a b m d ∧ (0 ≤ t ∧ t ≤ totI m d) ∧ fs = hitsZ a b m 0 t ∧ (0 ≤ totI m d ∧ totI m d ≤ 4010) := by
  unfold tkG at h
  simp only [Bool.and_eq_true, decide_eq_true_eq] at h
  exact ⟨tkB_tk h.1, insB_true h.2.1, h.2.2, totI_bd (tkB_tk h.1).m (tkB_tk h.1).d⟩
def restV (a b m d t : Int) (fs : List Pt) : Int × Bool := if tkG a b m d t fs then (totI m d - t, true) else (0, false)
def candV (a b m d t : Int) (fs : List Pt) (i : Int) : Int × Int × Bool := if tkG a b m d t fs && insB i 0 (totI m d - 1) then (cxI m i, ceI m i, true) else (0, 0, false)
def runV (a b m d t : Int) (fs : List Pt) (f l : Int) : List Pt × Bool := if tkG a b m d t fs && (insB f 0 l && decide (l ≤ totI m d)) then (hitsZ a b m f l, true) else ([], false)
theorem ret_ib {n : Int} {k : Bool} {p : Int × Bool} (h : p = (n, k)) : Ending.returned (.tuple #[.int .i64 n, .bool k]) = .returned (.tuple #[.int .i64 p.1, .bool p.2]) := by rw [h]
theorem ret_iib {n q : Int} {k : Bool} {p : Int × Int × Bool} (h : p = (n, q, k)) : Ending.returned (.tuple #[.int .i64 n, .int .i64 q, .bool k]) = .returned (.tuple #[.int .i64 p.1, .int .i64 p.2.1, .bool p.2.2]) := by rw [h]

set_option maxRecDepth 8000 in
set_option maxHeartbeats 4000000 in
theorem implIsTask_any (a b m d t : Int) (v : Value) (fs : List Pt) (w : World) (hv : Rd ptS w w.heap.size v fs) :
    Calls Tryz.prog 40 #[.agg #[.int .i64 a, .int .i64 b, .int .i64 m, .int .i64 d, .int .i64 t, v]] w fun r w' => r = .returned (.bool (tkG a b m d t fs)) ∧ Below w.heap.size w w' := by
  have Hb := Lib.hid (Blk.new w 51 #[.int .i64 a, .int .i64 b, .int .i64 m, .int .i64 d, .int .i64 t, v])
  have hb0 := bal (Below.refl w.heap.size w) (Obj.cells #[.int .i64 a, .int .i64 b, .int .i64 m, .int .i64 d, .int .i64 t, v] 51)
  have HR := Lib.hid (hv.on hb0)
  have HbA := Lib.hid hb0; clear hb0 hv
  have Hsp := Lib.hid (tkG_spec (a := a) (b := b) (m := m) (d := d) (t := t) (fs := fs))
  go_enter Tryz.func40, Tryz.ntmps40
  go_wp2_with fail
  refine (isTask_any _ a b m d t v fs _ Hb.out HR.out).mono ?_; rintro r w1 ⟨rfl, hb1⟩
  have HB1 := Lib.hid (Hb.out.on hb1)
  have q0 := HB1.out.cell 0
  have q1 := HB1.out.cell 1
  have q2 := HB1.out.cell 2
  have q3 := HB1.out.cell 3
  have q4 := HB1.out.cell 4
  have q5 := HB1.out.cell 5
  have ql := HB1.out.lt
  simp at q0 q1 q2 q3 q4 q5
  have Hb01 := Lib.hid (bthen HbA.out hb1)
  clear hb1
  clear q0 q1 q2 q3 q4 q5 ql
  go_wp2
  go_ret
  exact ⟨rfl, Hb01.out⟩
set_option maxRecDepth 8000 in
set_option maxHeartbeats 4000000 in
theorem implRest_any (a b m d t : Int) (v : Value) (fs : List Pt) (w : World) (hv : Rd ptS w w.heap.size v fs) :
    Calls Tryz.prog 34 #[.agg #[.int .i64 a, .int .i64 b, .int .i64 m, .int .i64 d, .int .i64 t, v]] w fun r w' => r = .returned (.tuple #[.int .i64 (restV a b m d t fs).1, .bool (restV a b m d t fs).2]) ∧ Below w.heap.size w w' := by
  have Hb := Lib.hid (Blk.new w 51 #[.int .i64 a, .int .i64 b, .int .i64 m, .int .i64 d, .int .i64 t, v])
  have hb0 := bal (Below.refl w.heap.size w) (Obj.cells #[.int .i64 a, .int .i64 b, .int .i64 m, .int .i64 d, .int .i64 t, v] 51)
  have HR := Lib.hid (hv.on hb0)
  have HbA := Lib.hid hb0; clear hb0 hv
  have Hsp := Lib.hid (tkG_spec (a := a) (b := b) (m := m) (d := d) (t := t) (fs := fs))
  go_enter Tryz.func34, Tryz.ntmps34
  go_wp2_with fail
  refine (isTask_any _ a b m d t v fs _ Hb.out HR.out).mono ?_; rintro r w1 ⟨rfl, hb1⟩
  have HB1 := Lib.hid (Hb.out.on hb1)
  have q0 := HB1.out.cell 0
  have q1 := HB1.out.cell 1
  have q2 := HB1.out.cell 2
  have q3 := HB1.out.cell 3
  have q4 := HB1.out.cell 4
  have q5 := HB1.out.cell 5
  have ql := HB1.out.lt
  simp at q0 q1 q2 q3 q4 q5
  have Hb01 := Lib.hid (bthen HbA.out hb1)
  clear hb1
  cases hk : tkG a b m d t fs
  · have Hv := Lib.hid (show restV a b m d t fs = (0, false) by unfold restV; rw [hk]; rfl)
    clear hk
    go_wp2
    go_ret2
    exact ⟨ret_ib Hv.out, Hb01.out⟩
  · have Hv := Lib.hid (show restV a b m d t fs = (totI m d - t, true) by unfold restV; rw [hk]; rfl)
    have Hs := Lib.hid (Hsp.out hk)
    obtain ⟨t1, t2⟩ := Hs.out.2.1
    obtain ⟨t3, t4⟩ := Hs.out.2.2.2
    clear hk
    go_wp2
    refine wp_region_tame (by kernel_rfl) (by kernel_rfl) (fun T _ W hT => ?_)
    have hx := hT.cell
    repeat (go_big_quiet_step ((go_at_call 86; exact hT.call (tkTotal_any w.heap.size a b m d t v _ (HB1.out.on (hT.below _)) Hs.out.1))))
    refine wpQuiet_nil ?_
    intro z
    clear hx
    go_wp2
    go_ret2
    exact ⟨ret_ib Hv.out, bthen Hb01.out (hT.below z)⟩
set_option maxRecDepth 8000 in
set_option maxHeartbeats 4000000 in
theorem implRun_any (a b m d t : Int) (v : Value) (fs : List Pt) (f l : Int) (w : World) (hv : Rd ptS w w.heap.size v fs) :
    Calls Tryz.prog 31 #[.agg #[.int .i64 a, .int .i64 b, .int .i64 m, .int .i64 d, .int .i64 t, v], .int .i64 f, .int .i64 l] w fun r w' => (∃ v2, r = .returned (.tuple #[v2, .bool (runV a b m d t fs f l).2]) ∧ w'.ownsRow w.heap.size 117 3 v2 (runV a b m d t fs f l).1.length (ptS.flat (runV a b m d t fs f l).1)) ∧ Below w.heap.size w w' := by
  have Hb := Lib.hid (Blk.new w 51 #[.int .i64 a, .int .i64 b, .int .i64 m, .int .i64 d, .int .i64 t, v])
  have hb0 := bal (Below.refl w.heap.size w) (Obj.cells #[.int .i64 a, .int .i64 b, .int .i64 m, .int .i64 d, .int .i64 t, v] 51)
  have HR := Lib.hid (hv.on hb0)
  have HbA := Lib.hid hb0; clear hb0 hv
  have Hsp := Lib.hid (tkG_spec (a := a) (b := b) (m := m) (d := d) (t := t) (fs := fs))
  go_enter Tryz.func31, Tryz.ntmps31
  go_wp2_with fail
  refine (isTask_any _ a b m d t v fs _ Hb.out HR.out).mono ?_; rintro r w1 ⟨rfl, hb1⟩
  have HB1 := Lib.hid (Hb.out.on hb1)
  have q0 := HB1.out.cell 0
  have q1 := HB1.out.cell 1
  have q2 := HB1.out.cell 2
  have q3 := HB1.out.cell 3
  have q4 := HB1.out.cell 4
  have q5 := HB1.out.cell 5
  have ql := HB1.out.lt
  simp at q0 q1 q2 q3 q4 q5
  have Hb01 := Lib.hid (bthen HbA.out hb1)
  clear hb1
  cases hk : tkG a b m d t fs
  · have Hv := Lib.hid (show runV a b m d t fs f l = ([], false) by unfold runV; rw [hk]; rfl)
    clear hk
    go_wp2
    go_ret2
    exact ⟨⟨_, by rw [Hv.out]; rfl, by rw [Hv.out]; exact ⟨rfl, Or.inl ⟨rfl, rfl⟩⟩⟩, Hb01.out⟩
  · have Hs := Lib.hid (Hsp.out hk)
    have Hk := Lib.hid hk; clear hk
    obtain ⟨t3, t4⟩ := Hs.out.2.2.2
    go_wp2_with fail
    refine (inside_any _ _ _ _).mono ?_; rintro r w2 ⟨rfl, rfl⟩
    cases hi : insB f 0 l
    · have Hv := Lib.hid (show runV a b m d t fs f l = ([], false) by unfold runV; rw [Hk.out, hi]; rfl)
      clear hi
      go_wp2
      go_ret2
      exact ⟨⟨_, by rw [Hv.out]; rfl, by rw [Hv.out]; exact ⟨rfl, Or.inl ⟨rfl, rfl⟩⟩⟩, Hb01.out⟩
    · have hfl := insB_true hi
      go_wp2_with fail
      refine (tkTotal_any w.heap.size a b m d t v _ HB1.out Hs.out.1).mono ?_; rintro r w2 ⟨rfl, hb2⟩
      have HB2 := Lib.hid (HB1.out.on hb2)
      have Hb02 := Lib.hid (bthen Hb01.out hb2)
      clear q0 q1 q2 q3 q4 q5 ql hb2
      by_cases hl : l ≤ totI m d
      · have Hv := Lib.hid (show runV a b m d t fs f l = (hitsZ a b m f l, true) by unfold runV; rw [Hk.out, hi, decide_eq_true hl]; rfl)
        have hd : decide (totI m d < l) = false := decide_eq_false (by omega)
        clear hi
        go_wp2_with fail
        refine (hits_any w.heap.size a b m d t f l v _ HB2.out Hs.out.1 hfl.1 hl).mono ?_; rintro r w3 ⟨⟨v3, rfl, ho3⟩, hb3⟩
        have Ho3 := Lib.hid ho3; clear ho3
        go_wp2
        go_ret2
        exact ⟨⟨_, by rw [Hv.out]; rfl, by rw [Hv.out]; exact own_mono Ho3.out Hb02.out.size⟩, bthen Hb02.out hb3⟩
      · have Hv := Lib.hid (show runV a b m d t fs f l = ([], false) by unfold runV; rw [Hk.out, hi, decide_eq_false hl]; rfl)
        have hd : decide (totI m d < l) = true := decide_eq_true (by omega)
        clear hi hl
        go_wp2
        go_ret2
        exact ⟨⟨_, by rw [Hv.out]; rfl, by rw [Hv.out]; exact ⟨rfl, Or.inl ⟨rfl, rfl⟩⟩⟩, Hb02.out⟩
set_option maxRecDepth 8000 in
set_option maxHeartbeats 4000000 in
theorem specRest_any (a b m d t : Int) (v : Value) (fs : List Pt) (w : World) (hv : Rd ptS w w.heap.size v fs) :
    Calls Tryz.prog 35 #[.agg #[.int .i64 a, .int .i64 b, .int .i64 m, .int .i64 d, .int .i64 t, v]] w fun r w' => r = .returned (.tuple #[.int .i64 (restV a b m d t fs).1, .bool (restV a b m d t fs).2]) ∧ Below w.heap.size w w' := by
  have Hb := Lib.hid (Blk.new w 51 #[.int .i64 a, .int .i64 b, .int .i64 m, .int .i64 d, .int .i64 t, v])
  have hb0 := bal (Below.refl w.heap.size w) (Obj.cells #[.int .i64 a, .int .i64 b, .int .i64 m, .int .i64 d, .int .i64 t, v] 51)
  have HR := Lib.hid (hv.on hb0)
  have HbA := Lib.hid hb0; clear hb0 hv
  have Hsp := Lib.hid (tkG_spec (a := a) (b := b) (m := m) (d := d) (t := t) (fs := fs))
  go_enter Tryz.func35, Tryz.ntmps35
  go_wp2_with fail
  refine (skGood_any a b m d t v fs _ HR.out).mono ?_; rintro r w1 ⟨rfl, hb1⟩
  have HB1 := Lib.hid (Hb.out.on hb1)
  have q0 := HB1.out.cell 0
  have q1 := HB1.out.cell 1
  have q2 := HB1.out.cell 2
  have q3 := HB1.out.cell 3
  have q4 := HB1.out.cell 4
  have q5 := HB1.out.cell 5
  have ql := HB1.out.lt
  simp at q0 q1 q2 q3 q4 q5
  have Hb01 := Lib.hid (bthen HbA.out hb1)
  clear hb1
  cases hk : tkG a b m d t fs
  · have Hv := Lib.hid (show restV a b m d t fs = (0, false) by unfold restV; rw [hk]; rfl)
    clear hk
    go_wp2
    go_ret2
    exact ⟨ret_ib Hv.out, Hb01.out⟩
  · have Hv := Lib.hid (show restV a b m d t fs = (totI m d - t, true) by unfold restV; rw [hk]; rfl)
    have Hs := Lib.hid (Hsp.out hk)
    obtain ⟨t1, t2⟩ := Hs.out.2.1
    obtain ⟨t3, t4⟩ := Hs.out.2.2.2
    clear hk
    go_wp2
    refine wp_region_tame (by kernel_rfl) (by kernel_rfl) (fun T _ W hT => ?_)
    have hx := hT.cell
    repeat (go_big_quiet_step ((go_at_call 88; exact hT.call (skCount_any a b m d t v _ Hs.out.1))))
    refine wpQuiet_nil ?_
    intro z
    clear hx
    go_wp2
    go_ret2
    exact ⟨ret_ib Hv.out, bthen Hb01.out (hT.below z)⟩
theorem run_out {f l T : Int} (h : insB l 0 T = false) : (insB f 0 l && decide (l ≤ T)) = false := by
  rw [Bool.eq_false_iff]
  intro hc
  simp only [Bool.and_eq_true, decide_eq_true_eq] at hc
  have := insB_true hc.1
  rw [insB_mk (by omega) hc.2] at h
  cases h
set_option maxRecDepth 8000 in
set_option maxHeartbeats 4000000 in
theorem specRun_any (a b m d t : Int) (v : Value) (fs : List Pt) (f l : Int) (w : World) (hv : Rd ptS w w.heap.size v fs) :
    Calls Tryz.prog 32 #[.agg #[.int .i64 a, .int .i64 b, .int .i64 m, .int .i64 d, .int .i64 t, v], .int .i64 f, .int .i64 l] w fun r w' => (∃ v2, r = .returned (.tuple #[v2, .bool (runV a b m d t fs f l).2]) ∧ w'.ownsRow w.heap.size 117 3 v2 (runV a b m d t fs f l).1.length (ptS.flat (runV a b m d t fs f l).1)) ∧ Below w.heap.size w w' := by
  have Hb := Lib.hid (Blk.new w 51 #[.int .i64 a, .int .i64 b, .int .i64 m, .int .i64 d, .int .i64 t, v])
  have hb0 := bal (Below.refl w.heap.size w) (Obj.cells #[.int .i64 a, .int .i64 b, .int .i64 m, .int .i64 d, .int .i64 t, v] 51)
  have HR := Lib.hid (hv.on hb0)
  have HbA := Lib.hid hb0; clear hb0 hv
  have Hsp := Lib.hid (tkG_spec (a := a) (b := b) (m := m) (d := d) (t := t) (fs := fs))
  go_enter Tryz.func32, Tryz.ntmps32
  go_wp2_with fail
  refine (skGood_any a b m d t v fs _ HR.out).mono ?_; rintro r w1 ⟨rfl, hb1⟩
  have HB1 := Lib.hid (Hb.out.on hb1)
  have q0 := HB1.out.cell 0
  have q1 := HB1.out.cell 1
  have q2 := HB1.out.cell 2
  have q3 := HB1.out.cell 3
  have q4 := HB1.out.cell 4
  have q5 := HB1.out.cell 5
  have ql := HB1.out.lt
  simp at q0 q1 q2 q3 q4 q5
  have Hb01 := Lib.hid (bthen HbA.out hb1)
  clear hb1
  cases hk : tkG a b m d t fs
  · have Hv := Lib.hid (show runV a b m d t fs f l = ([], false) by unfold runV; rw [hk]; rfl)
    clear hk
    go_wp2
    go_ret2
    exact ⟨⟨_, by rw [Hv.out]; rfl, by rw [Hv.out]; exact ⟨rfl, Or.inl ⟨rfl, rfl⟩⟩⟩, Hb01.out⟩
  · have Hs := Lib.hid (Hsp.out hk)
    have Hk := Lib.hid hk; clear hk
    obtain ⟨t3, t4⟩ := Hs.out.2.2.2
    go_wp2_with fail
    refine (skCount_any a b m d t v _ Hs.out.1).mono ?_; rintro r w2 ⟨rfl, hb2⟩
    have HB2 := Lib.hid (HB1.out.on hb2)
    have Hb02 := Lib.hid (bthen Hb01.out hb2)
    clear q0 q1 q2 q3 q4 q5 ql hb2
    have q0 := HB2.out.cell 0
    have q1 := HB2.out.cell 1
    have q2 := HB2.out.cell 2
    have q3 := HB2.out.cell 3
    have q4 := HB2.out.cell 4
    have q5 := HB2.out.cell 5
    have ql := HB2.out.lt
    simp at q0 q1 q2 q3 q4 q5
    go_wp2_with fail
    refine (l1In_any _ _ _ _).mono ?_; rintro r w3 ⟨rfl, rfl⟩
    cases hl : insB l 0 (totI m d)
    · have Hv := Lib.hid (show runV a b m d t fs f l = ([], false) by unfold runV; rw [run_out hl, Bool.and_false]; rfl)
      clear hl
      go_wp2
      go_ret2
      exact ⟨⟨_, by rw [Hv.out]; rfl, by rw [Hv.out]; exact ⟨rfl, Or.inl ⟨rfl, rfl⟩⟩⟩, Hb02.out⟩
    · go_wp2_with fail
      refine (l1In_any _ _ _ _).mono ?_; rintro r w3 ⟨rfl, rfl⟩
      cases hi : insB f 0 l
      · have Hv := Lib.hid (show runV a b m d t fs f l = ([], false) by unfold runV; rw [hi, Bool.false_and, Bool.and_false]; rfl)
        clear hi hl
        go_wp2
        go_ret2
        exact ⟨⟨_, by rw [Hv.out]; rfl, by rw [Hv.out]; exact ⟨rfl, Or.inl ⟨rfl, rfl⟩⟩⟩, Hb02.out⟩
      · have hfl := insB_true hi
        have hll := insB_true hl
        have Hv := Lib.hid (show runV a b m d t fs f l = (hitsZ a b m f l, true) by unfold runV; rw [Hk.out, hi, decide_eq_true hll.2]; rfl)
        clear hi hl
        go_wp2_with fail
        refine (skRun_any a b m d t f l v _ Hs.out.1 hfl.1 hll.2).mono ?_; rintro r w4 ⟨⟨v4, rfl, ho4⟩, hb4⟩
        have Ho4 := Lib.hid ho4; clear ho4
        go_wp2
        go_ret2
        exact ⟨⟨_, by rw [Hv.out]; rfl, by rw [Hv.out]; exact own_mono Ho4.out Hb02.out.size⟩, bthen Hb02.out hb4⟩
end
section
open Go Go.RowKit

def rgC (rest w k : Int) : Int := rest / w + (if k < rest % w then 1 else 0)
def rgN (rest w at0 : Int) : Nat → List (List Int) × Int
  | 0 => ([], at0)
  | k + 1 => (if 0 < rgC rest w k then (rgN rest w at0 k).1 ++ [[(rgN rest w at0 k).2, (rgN rest w at0 k).2 + rgC rest w k]] else (rgN rest w at0 k).1, (rgN rest w at0 k).2 + rgC rest w k)
theorem rgC_bd {rest w k : Int} (h0 : 0 ≤ rest ∧ rest ≤ 4010) (hw : 1 ≤ w) : 0 ≤ rgC rest w k ∧ rgC rest w k ≤ 4011 := by
  have h1 := Int.ediv_le_self w h0.1
  have h2 : 0 ≤ rest / w := Int.ediv_nonneg h0.1 (by omega)
  unfold rgC
  split <;> omega
theorem rgN_bd {rest w at0 : Int} (h0 : 0 ≤ rest ∧ rest ≤ 4010) (hw : 1 ≤ w) (ha : 0 ≤ at0 ∧ at0 ≤ 4010) : ∀ k : Nat, 0 ≤ (rgN rest w at0 k).2 ∧ (rgN rest w at0 k).2 ≤ 4010 + 4011 * (k : Int)
  | 0 => by simp [rgN]; omega
  | k + 1 => by
    have h1 := rgN_bd h0 hw ha k
    have h2 := rgC_bd (k := (k : Int)) h0 hw
    simp only [rgN]
    omega
theorem rgN_len (rest w at0 : Int) : ∀ k : Nat, (rgN rest w at0 k).1.length ≤ k
  | 0 => by simp [rgN]
  | k + 1 => by
    have h1 := rgN_len rest w at0 k
    simp only [rgN]
    split
    · rw [List.length_append]; simp; omega
    · omega
def rangesL (m d t w : Int) : List (List Int) := (rgN (totI m d - t) w t w.toNat).1

theorem infoSl : (Tryz.prog.info? 34).map (fun i => (i.zero, i.size, i.bytes)) = some (some (.slice none 0 0), 1, 24) := by kernel_rfl
/-- A result that is a slice of slices of the call's own; one with a bool beside it. -/
def NRet (base : Nat) (ess : List (List Int)) (r : Ending) (w' : World) : Prop := ∃ v' vs, r = .returned v' ∧ NOwn w' 34 3 base w'.heap.size v' vs (cellsII ess)
def NRet2 (base : Nat) (V : List (List Int) × Bool) (r : Ending) (w' : World) : Prop := ∃ v' vs, r = .returned (.tuple #[v', .bool V.2]) ∧ NOwn w' 34 3 base w'.heap.size v' vs (cellsII V.1)
theorem length_cellsII (ess : List (List Int)) : (cellsII ess).length = ess.length := by simp [cellsII]
--WALKS
set_option maxRecDepth 8000 in
set_option maxHeartbeats 8000000 in
theorem ranges_any (g : Nat) (a b m d t z : Int) (v : Value) (w : World) (h : Blk w g 51 #[.int .i64 a, .int .i64 b, .int .i64 m, .int .i64 d, .int .i64 t, v]) (ht : TkB a b m d) (htt : 0 ≤ t ∧ t ≤ totI m d) (hz : 1 ≤ z ∧ z ≤ 8) :
    Calls Tryz.prog 81 #[.pointer (some ⟨g, 0, none⟩), .int .i64 z] w fun r w' => NRet w.heap.size (rangesL m d t z) r w' ∧ Below w.heap.size w w' := by
  obtain ⟨i0, hi, hz0, hz1, hz2⟩ := info_parts infoSl
  have Htot := Lib.hid (totI_bd ht.m ht.d)
  have Ht := Lib.hid ht; clear ht
  obtain ⟨t1, t2⟩ := htt
  obtain ⟨zl, zh⟩ := hz
  obtain ⟨rest, hrest⟩ : ∃ rest, totI m d - t = rest := ⟨_, rfl⟩
  have hr0 : 0 ≤ rest ∧ rest ≤ 4010 := by have := Htot.out; omega
  have ht4 : t ≤ 4010 := by have := Htot.out; omega
  have Hfin := Lib.hid (show rangesL m d t z = (rgN rest z t z.toNat).1 by unfold rangesL; rw [hrest])
  have Hbd := Lib.hid (fun k => rgN_bd (rest := rest) (w := z) (at0 := t) hr0 zl ⟨t1, ht4⟩ k)
  have Hln := Lib.hid (fun k => rgN_len rest z t k)
  have e1 := Int.emod_nonneg rest (show z ≠ 0 by omega)
  have e2 := Int.emod_lt_of_pos rest (show 0 < z by omega)
  have e3 := Int.ediv_le_self z hr0.1
  have e4 : 0 ≤ rest / z := Int.ediv_nonneg hr0.1 (by omega)
  have Hrest := Lib.hid hrest
  have Hr0 := Lib.hid hr0; clear hr0
  have Hb := Lib.hid h
  have q0 := h.cell 0
  have q1 := h.cell 1
  have q2 := h.cell 2
  have q3 := h.cell 3
  have q4 := h.cell 4
  have q5 := h.cell 5
  have ql := h.lt
  simp at q0 q1 q2 q3 q4 q5
  clear h
  have hre : totI m d - t = rest := hrest
  obtain ⟨r1, r2⟩ := Hr0.out
  clear hrest
  have htl : totI m d = rest + t := by omega
  go_enter Tryz.func81, Tryz.ntmps81
  go_wp2
  refine wp_region_tame (by kernel_rfl) (by kernel_rfl) (fun T _ W hT => ?_)
  have hx := hT.cell
  repeat (go_big_quiet_step ((go_at_call 86; exact hT.call (tkTotal_any g a b m d t v _ (Hb.out.on (hT.below _)) Ht.out))))
  refine wpQuiet_nil ?_
  intro y
  clear hx htl hre
  have hbt := hT.below y
  generalize W y = wt at hbt ⊢
  clear hT q0 q1 q2 q3 q4 q5 ql
  have hB := Hb.out.on hbt
  have q0 := hB.cell 0
  have q1 := hB.cell 1
  have q2 := hB.cell 2
  have q3 := hB.cell 3
  have q4 := hB.cell 4
  have q5 := hB.cell 5
  have ql := hB.lt
  simp at q0 q1 q2 q3 q4 q5
  clear hB
  go_wp2
  clear q0 q1 q2 q3 q4 q5 ql
  go_loopw [5, 7, 22] (fun o f i wr => ∃ (k : Nat) (vs : List Value), (k : Int) ≤ z ∧ i = .int .i64 k ∧ f = .int .i64 (rgN rest z t k).2 ∧ Below w.heap.size w wr ∧ Hid (NOwn wr 34 3 w.heap.size wr.heap.size o vs (cellsII (rgN rest z t k).1))) (fun _ _ i _ => (z - intOf i).toNat)
  case atStart => exact ⟨0, [], by omega, rfl, rfl, hbt, Lib.hid (NOwn.nil _ _ _ _ _)⟩
  case round =>
    obtain ⟨k, vs, hk, rfl, rfl, hb, Hn⟩ := hrel
    have hwr : w.heap.size ≤ wr.heap.size := Nat.le_trans (Nat.le_refl _) hb.size
    by_cases hlt : (k : Int) < z
    · have Hln0 := Lib.hid (Hln.out k)
      have hf1 := (Hbd.out k).1
      have hf2 := (Hbd.out k).2
      have hc := rgC_bd (k := (k : Int)) Hr0.out zl
      have Hs1 := Lib.hid (show (rgN rest z t (k + 1)).2 = (rgN rest z t k).2 + rgC rest z k from rfl)
      have Hs0 := Lib.hid (show (rgN rest z t (k + 1)).1 = (if 0 < rgC rest z k then (rgN rest z t k).1 ++ [[(rgN rest z t k).2, (rgN rest z t k).2 + rgC rest z k]] else (rgN rest z t k).1) from rfl)
      have Hout := Lib.hid Hn.out.out
      generalize hF : (rgN rest z t k).2 = F at hf1 hf2 Hs1 Hs0
      generalize hL : (rgN rest z t k).1 = L at Hn Hs0 Hln0 Hout
      have Hc := Lib.hid hc; clear hc hF hL
      by_cases hm : (k : Int) < rest % z
      all_goals
        have Hcv := Lib.hid (show rgC rest z k = _ by unfold rgC; (first | rw [if_pos hm] | rw [if_neg hm]))
        have hpos := Hc.out.1
        by_cases hp : 0 < rgC rest z k
      · rw [Hcv.out] at hp hpos
        have Hs2 := Lib.hid (show (rgN rest z t (k + 1)).2 = F + (rest / z + 1) by rw [Hs1.out, Hcv.out])
        have Hs3 := Lib.hid (show (rgN rest z t (k + 1)).1 = L ++ [[F, F + (rest / z + 1)]] by rw [Hs0.out, Hcv.out, if_pos hp])
        clear hpos
        go_wp2_with (at_builtin; refine wpList_append_own_at _ rfl _ _ 54 rfl w.heap.size 34 i0 (.slice none 0 0) 1 24 Tryz.underlying54 hi hz0 hz1 hz2 rfl (by decide) _ _ _ rfl ((Hout.out.alloc _).alloc _) ⟨wr.heap.size + 1, 0, none⟩ 1 1 [.slice (some ⟨wr.heap.size, 0, none⟩) 2 2] rfl rfl ?c1 ?c2 ?c3 ?c4 ?c5 ?_)
        try
          case c1 =>
            intro j u hj
            match j, hj with
            | 0, hj => simp at hj; subst hj; exact (Blk.new1 wr _ _ _).cell 0
        case c2 => first | rfl | (intro u hu; simp at hu; subst hu; rfl)
        case c3 => have := Hln0.out; rw [length_cellsII]; unfold maxLen; omega
        case c4 => have := Hln0.out; rw [length_cellsII]; omega
        case c5 => first | omega | (simp; omega)
        intro v8 w8 hown8 hg8 _ hat8
        have hbA := bal (bal (Below.refl wr.heap.size wr) (Obj.cells #[.int .i64 F, .int .i64 (F + (rest / z + 1))] 3)) (Obj.cells #[.slice (some ⟨wr.heap.size, 0, none⟩) 2 2] 34)
        have hin : ((wr.alloc (Obj.cells #[.int .i64 F, .int .i64 (F + (rest / z + 1))] 3)).alloc (Obj.cells #[.slice (some ⟨wr.heap.size, 0, none⟩) 2 2] 34)).ownsRow w.heap.size 3 1 (.slice (some ⟨wr.heap.size, 0, none⟩) 2 2) [Value.int .i64 F, Value.int .i64 (F + (rest / z + 1))].length [Value.int .i64 F, Value.int .i64 (F + (rest / z + 1))] := (World.ownsRow_lit (base := w.heap.size) wr #[.int .i64 F, .int .i64 (F + (rest / z + 1))] 2 hwr (by unfold maxLen; omega) rfl).alloc _
        have Hn8 := Lib.hid (NOwn.snoc (Hn.out.on hbA) hg8 hown8 (by simpa only [World.size_alloc] using hat8) hin (fun g hg => by simp [Value.ownBlock] at hg; subst hg; constructor <;> (simp; try omega)) (by simp; omega))
        have hb8 : Below w.heap.size w w8 := Below.grown ((hb.alloc hwr _).alloc (by simp; omega) _) hg8 (by simp; omega) (fun j hj => (Hout.out.lt j hj).1)
        clear hown8 hg8 hat8 hin hbA
        go_wp2
        go_roundw
        case rel => exact ⟨k + 1, _, by omega, by go_num, by rw [Hs2.out], hb8, by rw [Hs3.out]; unfold cellsII; rw [List.map_append]; exact Hn8⟩
        case measure => simp [intOf]; omega
      · exfalso
        rw [Hcv.out] at hp
        omega
      · rw [Hcv.out, Int.add_zero] at hp hpos
        have Hs2 := Lib.hid (show (rgN rest z t (k + 1)).2 = F + rest / z by rw [Hs1.out, Hcv.out, Int.add_zero])
        have Hs3 := Lib.hid (show (rgN rest z t (k + 1)).1 = L ++ [[F, F + rest / z]] by rw [Hs0.out, Hcv.out, Int.add_zero, if_pos hp])
        clear hpos
        go_wp2_with (at_builtin; refine wpList_append_own_at _ rfl _ _ 54 rfl w.heap.size 34 i0 (.slice none 0 0) 1 24 Tryz.underlying54 hi hz0 hz1 hz2 rfl (by decide) _ _ _ rfl ((Hout.out.alloc _).alloc _) ⟨wr.heap.size + 1, 0, none⟩ 1 1 [.slice (some ⟨wr.heap.size, 0, none⟩) 2 2] rfl rfl ?d1 ?d2 ?d3 ?d4 ?d5 ?_)
        try
          case d1 =>
            intro j u hj
            match j, hj with
            | 0, hj => simp at hj; subst hj; exact (Blk.new1 wr _ _ _).cell 0
        case d2 => first | rfl | (intro u hu; simp at hu; subst hu; rfl)
        case d3 => have := Hln0.out; rw [length_cellsII]; unfold maxLen; omega
        case d4 => have := Hln0.out; rw [length_cellsII]; omega
        case d5 => first | omega | (simp; omega)
        intro v8 w8 hown8 hg8 _ hat8
        have hbA := bal (bal (Below.refl wr.heap.size wr) (Obj.cells #[.int .i64 F, .int .i64 (F + (rest / z))] 3)) (Obj.cells #[.slice (some ⟨wr.heap.size, 0, none⟩) 2 2] 34)
        have hin : ((wr.alloc (Obj.cells #[.int .i64 F, .int .i64 (F + (rest / z))] 3)).alloc (Obj.cells #[.slice (some ⟨wr.heap.size, 0, none⟩) 2 2] 34)).ownsRow w.heap.size 3 1 (.slice (some ⟨wr.heap.size, 0, none⟩) 2 2) [Value.int .i64 F, Value.int .i64 (F + (rest / z))].length [Value.int .i64 F, Value.int .i64 (F + (rest / z))] := (World.ownsRow_lit (base := w.heap.size) wr #[.int .i64 F, .int .i64 (F + (rest / z))] 2 hwr (by unfold maxLen; omega) rfl).alloc _
        have Hn8 := Lib.hid (NOwn.snoc (Hn.out.on hbA) hg8 hown8 (by simpa only [World.size_alloc] using hat8) hin (fun g hg => by simp [Value.ownBlock] at hg; subst hg; constructor <;> (simp; try omega)) (by simp; omega))
        have hb8 : Below w.heap.size w w8 := Below.grown ((hb.alloc hwr _).alloc (by simp; omega) _) hg8 (by simp; omega) (fun j hj => (Hout.out.lt j hj).1)
        clear hown8 hg8 hat8 hin hbA
        go_wp2
        go_roundw
        case rel => exact ⟨k + 1, _, by omega, by go_num, by rw [Hs2.out], hb8, by rw [Hs3.out]; unfold cellsII; rw [List.map_append]; exact Hn8⟩
        case measure => simp [intOf]; omega
      · rw [Hcv.out, Int.add_zero] at hp hpos
        have hz9 : rest / z = 0 := by omega
        have Hs2 := Lib.hid (show (rgN rest z t (k + 1)).2 = F by rw [Hs1.out, Hcv.out, hz9]; omega)
        have Hs3 := Lib.hid (show (rgN rest z t (k + 1)).1 = L by rw [Hs0.out, Hcv.out, hz9]; rfl)
        clear e3 e4
        have Hz9 := Lib.hid hz9
        go_wp2
        go_roundw
        case rel => exact ⟨k + 1, vs, by omega, by go_num, by rw [Hs2.out]; (try rw [Hz9.out]); (try simp), hb, by rw [Hs3.out]; exact Hn⟩
        case measure => simp [intOf]; omega
    · obtain rfl : z = (k : Int) := by omega
      have Hk := Lib.hid (show rangesL m d t (k : Int) = (rgN rest (k : Int) t k).1 by rw [Hfin.out, Int.toNat_natCast])
      go_wp2
      go_ret
      exact ⟨⟨_, vs, rfl, by rw [Hk.out]; exact Hn.out.less (Nat.le_refl _)⟩, hb⟩
set_option maxRecDepth 8000 in
set_option maxHeartbeats 8000000 in
theorem skRanges_any (a b m d t z : Int) (v : Value) (w : World) (ht : TkB a b m d) (htt : 0 ≤ t ∧ t ≤ totI m d) (hz : 1 ≤ z ∧ z ≤ 8) :
    Calls Tryz.prog 84 #[.agg #[.int .i64 a, .int .i64 b, .int .i64 m, .int .i64 d, .int .i64 t, v], .int .i64 z] w fun r w' => NRet w.heap.size (rangesL m d t z) r w' ∧ Below w.heap.size w w' := by
  obtain ⟨i0, hi, hz0, hz1, hz2⟩ := info_parts infoSl
  have Htot := Lib.hid (totI_bd ht.m ht.d)
  have Ht := Lib.hid ht; clear ht
  obtain ⟨t1, t2⟩ := htt
  obtain ⟨zl, zh⟩ := hz
  obtain ⟨rest, hrest⟩ : ∃ rest, totI m d - t = rest := ⟨_, rfl⟩
  have hr0 : 0 ≤ rest ∧ rest ≤ 4010 := by have := Htot.out; omega
  have ht4 : t ≤ 4010 := by have := Htot.out; omega
  have Hfin := Lib.hid (show rangesL m d t z = (rgN rest z t z.toNat).1 by unfold rangesL; rw [hrest])
  have Hbd := Lib.hid (fun k => rgN_bd (rest := rest) (w := z) (at0 := t) hr0 zl ⟨t1, ht4⟩ k)
  have Hln := Lib.hid (fun k => rgN_len rest z t k)
  have e1 := Int.emod_nonneg rest (show z ≠ 0 by omega)
  have e2 := Int.emod_lt_of_pos rest (show 0 < z by omega)
  have e3 := Int.ediv_le_self z hr0.1
  have e4 : 0 ≤ rest / z := Int.ediv_nonneg hr0.1 (by omega)
  have Hrest := Lib.hid hrest
  have Hr0 := Lib.hid hr0; clear hr0
  have HbA := Lib.hid (show Below w.heap.size w (w.alloc (Obj.cells #[.int .i64 a, .int .i64 b, .int .i64 m, .int .i64 d, .int .i64 t, v] 51)) from bal (Below.refl _ _) _)
  have Hb := Lib.hid (Blk.new w 51 #[.int .i64 a, .int .i64 b, .int .i64 m, .int .i64 d, .int .i64 t, v])
  have Hsz := Lib.hid (World.size_alloc w (Obj.cells #[.int .i64 a, .int .i64 b, .int .i64 m, .int .i64 d, .int .i64 t, v] 51))
  obtain ⟨r1, r2⟩ := Hr0.out
  clear hrest
  have htl : totI m d = rest + t := by have := Hrest.out; omega
  go_enter Tryz.func84, Tryz.ntmps84
  go_wp2
  generalize w.alloc (Obj.cells #[.int .i64 a, .int .i64 b, .int .i64 m, .int .i64 d, .int .i64 t, v] 51) = W1 at HbA Hb Hsz ⊢
  have q0 := Hb.out.cell 0
  have q1 := Hb.out.cell 1
  have q2 := Hb.out.cell 2
  have q3 := Hb.out.cell 3
  have q4 := Hb.out.cell 4
  have q5 := Hb.out.cell 5
  have ql := Hb.out.lt
  simp at q0 q1 q2 q3 q4 q5
  refine wp_region_tame (by kernel_rfl) (by kernel_rfl) (fun T _ W hT => ?_)
  have hx := hT.cell
  repeat (go_big_quiet_step ((go_at_call 88; exact hT.call (skCount_any a b m d t v _ Ht.out))))
  refine wpQuiet_nil ?_
  intro y
  clear hx htl
  have hbt := hT.below y
  generalize W y = wt at hbt ⊢
  clear hT q0 q1 q2 q3 q4 q5 ql
  have hB := Hb.out.on hbt
  have q0 := hB.cell 0
  have q1 := hB.cell 1
  have q2 := hB.cell 2
  have q3 := hB.cell 3
  have q4 := hB.cell 4
  have q5 := hB.cell 5
  have ql := hB.lt
  simp at q0 q1 q2 q3 q4 q5
  clear hB
  go_wp2
  clear q0 q1 q2 q3 q4 q5 ql
  have hbt : Below (w.heap.size + 1) W1 wt := by have h9 := Hsz.out; rw [← h9]; exact hbt
  go_loopw [6, 7, 8] (fun f o i wr => ∃ (k : Nat) (vs : List Value), (k : Int) ≤ z ∧ i = .int .i64 k ∧ f = .int .i64 (rgN rest z t k).2 ∧ Below (w.heap.size + 1) W1 wr ∧ Hid (NOwn wr 34 3 (w.heap.size + 1) wr.heap.size o vs (cellsII (rgN rest z t k).1))) (fun _ _ i _ => (z - intOf i).toNat)
  case atStart => exact ⟨0, [], by omega, rfl, rfl, hbt, Lib.hid (NOwn.nil _ _ _ _ _)⟩
  case round =>
    obtain ⟨k, vs, hk, rfl, rfl, hb, Hn⟩ := hrel
    have hwr : (w.heap.size + 1) ≤ wr.heap.size := Nat.le_trans (by rw [Hsz.out]; exact Nat.le_refl _) hb.size
    by_cases hlt : (k : Int) < z
    · have Hln0 := Lib.hid (Hln.out k)
      have hf1 := (Hbd.out k).1
      have hf2 := (Hbd.out k).2
      have hc := rgC_bd (k := (k : Int)) Hr0.out zl
      have Hs1 := Lib.hid (show (rgN rest z t (k + 1)).2 = (rgN rest z t k).2 + rgC rest z k from rfl)
      have Hs0 := Lib.hid (show (rgN rest z t (k + 1)).1 = (if 0 < rgC rest z k then (rgN rest z t k).1 ++ [[(rgN rest z t k).2, (rgN rest z t k).2 + rgC rest z k]] else (rgN rest z t k).1) from rfl)
      have Hout := Lib.hid Hn.out.out
      generalize hF : (rgN rest z t k).2 = F at hf1 hf2 Hs1 Hs0
      generalize hL : (rgN rest z t k).1 = L at Hn Hs0 Hln0 Hout
      have Hc := Lib.hid hc; clear hc hF hL
      by_cases hm : (k : Int) < rest % z
      all_goals
        have Hcv := Lib.hid (show rgC rest z k = _ by unfold rgC; (first | rw [if_pos hm] | rw [if_neg hm]))
        have hpos := Hc.out.1
        by_cases hp : 0 < rgC rest z k
      · rw [Hcv.out] at hp hpos
        have Hs2 := Lib.hid (show (rgN rest z t (k + 1)).2 = F + (rest / z + 1) by rw [Hs1.out, Hcv.out])
        have Hs3 := Lib.hid (show (rgN rest z t (k + 1)).1 = L ++ [[F, F + (rest / z + 1)]] by rw [Hs0.out, Hcv.out, if_pos hp])
        clear hpos
        go_wp2_with (at_builtin; refine wpList_append_own_at _ rfl _ _ 54 rfl (w.heap.size + 1) 34 i0 (.slice none 0 0) 1 24 Tryz.underlying54 hi hz0 hz1 hz2 rfl (by decide) _ _ _ rfl ((Hout.out.alloc _).alloc _) ⟨wr.heap.size + 1, 0, none⟩ 1 1 [.slice (some ⟨wr.heap.size, 0, none⟩) 2 2] rfl rfl ?c1 ?c2 ?c3 ?c4 ?c5 ?_)
        try
          case c1 =>
            intro j u hj
            match j, hj with
            | 0, hj => simp at hj; subst hj; exact (Blk.new1 wr _ _ _).cell 0
        case c2 => first | rfl | (intro u hu; simp at hu; subst hu; rfl)
        case c3 => have := Hln0.out; rw [length_cellsII]; unfold maxLen; omega
        case c4 => have := Hln0.out; rw [length_cellsII]; omega
        case c5 => first | omega | (simp; omega)
        intro v8 w8 hown8 hg8 _ hat8
        have hbA := bal (bal (Below.refl wr.heap.size wr) (Obj.cells #[.int .i64 F, .int .i64 (F + (rest / z + 1))] 3)) (Obj.cells #[.slice (some ⟨wr.heap.size, 0, none⟩) 2 2] 34)
        have hin : ((wr.alloc (Obj.cells #[.int .i64 F, .int .i64 (F + (rest / z + 1))] 3)).alloc (Obj.cells #[.slice (some ⟨wr.heap.size, 0, none⟩) 2 2] 34)).ownsRow (w.heap.size + 1) 3 1 (.slice (some ⟨wr.heap.size, 0, none⟩) 2 2) [Value.int .i64 F, Value.int .i64 (F + (rest / z + 1))].length [Value.int .i64 F, Value.int .i64 (F + (rest / z + 1))] := (World.ownsRow_lit (base := (w.heap.size + 1)) wr #[.int .i64 F, .int .i64 (F + (rest / z + 1))] 2 hwr (by unfold maxLen; omega) rfl).alloc _
        have Hn8 := Lib.hid (NOwn.snoc (Hn.out.on hbA) hg8 hown8 (by simpa only [World.size_alloc] using hat8) hin (fun g hg => by simp [Value.ownBlock] at hg; subst hg; constructor <;> (simp; try omega)) (by simp; omega))
        have hb8 : Below (w.heap.size + 1) W1 w8 := Below.grown ((hb.alloc hwr _).alloc (by simp; omega) _) hg8 (by simp; omega) (fun j hj => (Hout.out.lt j hj).1)
        clear hown8 hg8 hat8 hin hbA
        go_wp2
        go_roundw
        case rel => exact ⟨k + 1, _, by omega, by go_num, by rw [Hs2.out], hb8, by rw [Hs3.out]; unfold cellsII; rw [List.map_append]; exact Hn8⟩
        case measure => simp [intOf]; omega
      · exfalso
        rw [Hcv.out] at hp
        omega
      · rw [Hcv.out, Int.add_zero] at hp hpos
        have Hs2 := Lib.hid (show (rgN rest z t (k + 1)).2 = F + rest / z by rw [Hs1.out, Hcv.out, Int.add_zero])
        have Hs3 := Lib.hid (show (rgN rest z t (k + 1)).1 = L ++ [[F, F + rest / z]] by rw [Hs0.out, Hcv.out, Int.add_zero, if_pos hp])
        clear hpos
        go_wp2_with (at_builtin; refine wpList_append_own_at _ rfl _ _ 54 rfl (w.heap.size + 1) 34 i0 (.slice none 0 0) 1 24 Tryz.underlying54 hi hz0 hz1 hz2 rfl (by decide) _ _ _ rfl ((Hout.out.alloc _).alloc _) ⟨wr.heap.size + 1, 0, none⟩ 1 1 [.slice (some ⟨wr.heap.size, 0, none⟩) 2 2] rfl rfl ?d1 ?d2 ?d3 ?d4 ?d5 ?_)
        try
          case d1 =>
            intro j u hj
            match j, hj with
            | 0, hj => simp at hj; subst hj; exact (Blk.new1 wr _ _ _).cell 0
        case d2 => first | rfl | (intro u hu; simp at hu; subst hu; rfl)
        case d3 => have := Hln0.out; rw [length_cellsII]; unfold maxLen; omega
        case d4 => have := Hln0.out; rw [length_cellsII]; omega
        case d5 => first | omega | (simp; omega)
        intro v8 w8 hown8 hg8 _ hat8
        have hbA := bal (bal (Below.refl wr.heap.size wr) (Obj.cells #[.int .i64 F, .int .i64 (F + (rest / z))] 3)) (Obj.cells #[.slice (some ⟨wr.heap.size, 0, none⟩) 2 2] 34)
        have hin : ((wr.alloc (Obj.cells #[.int .i64 F, .int .i64 (F + (rest / z))] 3)).alloc (Obj.cells #[.slice (some ⟨wr.heap.size, 0, none⟩) 2 2] 34)).ownsRow (w.heap.size + 1) 3 1 (.slice (some ⟨wr.heap.size, 0, none⟩) 2 2) [Value.int .i64 F, Value.int .i64 (F + (rest / z))].length [Value.int .i64 F, Value.int .i64 (F + (rest / z))] := (World.ownsRow_lit (base := (w.heap.size + 1)) wr #[.int .i64 F, .int .i64 (F + (rest / z))] 2 hwr (by unfold maxLen; omega) rfl).alloc _
        have Hn8 := Lib.hid (NOwn.snoc (Hn.out.on hbA) hg8 hown8 (by simpa only [World.size_alloc] using hat8) hin (fun g hg => by simp [Value.ownBlock] at hg; subst hg; constructor <;> (simp; try omega)) (by simp; omega))
        have hb8 : Below (w.heap.size + 1) W1 w8 := Below.grown ((hb.alloc hwr _).alloc (by simp; omega) _) hg8 (by simp; omega) (fun j hj => (Hout.out.lt j hj).1)
        clear hown8 hg8 hat8 hin hbA
        go_wp2
        go_roundw
        case rel => exact ⟨k + 1, _, by omega, by go_num, by rw [Hs2.out], hb8, by rw [Hs3.out]; unfold cellsII; rw [List.map_append]; exact Hn8⟩
        case measure => simp [intOf]; omega
      · rw [Hcv.out, Int.add_zero] at hp hpos
        have hz9 : rest / z = 0 := by omega
        have Hs2 := Lib.hid (show (rgN rest z t (k + 1)).2 = F by rw [Hs1.out, Hcv.out, hz9]; omega)
        have Hs3 := Lib.hid (show (rgN rest z t (k + 1)).1 = L by rw [Hs0.out, Hcv.out, hz9]; rfl)
        clear e3 e4
        have Hz9 := Lib.hid hz9
        go_wp2
        go_roundw
        case rel => exact ⟨k + 1, vs, by omega, by go_num, by rw [Hs2.out]; (try rw [Hz9.out]); (try simp), hb, by rw [Hs3.out]; exact Hn⟩
        case measure => simp [intOf]; omega
    · obtain rfl : z = (k : Int) := by omega
      have Hk := Lib.hid (show rangesL m d t (k : Int) = (rgN rest (k : Int) t k).1 by rw [Hfin.out, Int.toNat_natCast])
      go_wp2
      go_ret
      exact ⟨⟨_, vs, rfl, by rw [Hk.out]; exact Hn.out.less (Nat.le_succ _)⟩, HbA.out.trans (hb.mono (Nat.le_succ _))⟩
def rangesV (a b m d t : Int) (fs : List Pt) (z : Int) : List (List Int) × Bool := if tkG a b m d t fs && insB z 1 8 then (rangesL m d t z, true) else ([], false)
theorem rgN_tot (rest w at0 : Int) : ∀ k : Nat, totL (cellsII (rgN rest w at0 k).1) = 2 * (rgN rest w at0 k).1.length
  | 0 => by simp [rgN, totL, cellsII]
  | k + 1 => by
    have ih := rgN_tot rest w at0 k
    simp only [rgN]
    split
    · simp only [totL, cellsII, List.map_append, List.sum_append, List.length_append] at ih ⊢
      rw [ih]; simp; omega
    · exact ih
theorem rangesV_len (a b m d t : Int) (fs : List Pt) (z : Int) : (rangesV a b m d t fs z).1.length ≤ 8 ∧ totL (cellsII (rangesV a b m d t fs z).1) ≤ 16 := by
  unfold rangesV
  by_cases h : (tkG a b m d t fs && insB z 1 8) = true
  · rw [if_pos h]
    simp only [Bool.and_eq_true] at h
    have hz := insB_true h.2
    have h1 := rgN_len (totI m d - t) z t z.toNat
    have h2 := rgN_tot (totI m d - t) z t z.toNat
    show (rangesL m d t z).length ≤ 8 ∧ totL (cellsII (rangesL m d t z)) ≤ 16
    unfold rangesL
    omega
  · rw [if_neg h]; simp [totL, cellsII]
set_option maxRecDepth 8000 in
set_option maxHeartbeats 4000000 in
theorem implRanges_any (a b m d t : Int) (v : Value) (fs : List Pt) (z : Int) (w : World) (hv : Rd ptS w w.heap.size v fs) :
    Calls Tryz.prog 28 #[.agg #[.int .i64 a, .int .i64 b, .int .i64 m, .int .i64 d, .int .i64 t, v], .int .i64 z] w fun r w' => NRet2 w.heap.size (rangesV a b m d t fs z) r w' ∧ Below w.heap.size w w' := by
  have Hb := Lib.hid (Blk.new w 51 #[.int .i64 a, .int .i64 b, .int .i64 m, .int .i64 d, .int .i64 t, v])
  have hb0 := bal (Below.refl w.heap.size w) (Obj.cells #[.int .i64 a, .int .i64 b, .int .i64 m, .int .i64 d, .int .i64 t, v] 51)
  have HR := Lib.hid (hv.on hb0)
  have HbA := Lib.hid hb0; clear hb0 hv
  have Hsp := Lib.hid (tkG_spec (a := a) (b := b) (m := m) (d := d) (t := t) (fs := fs))
  go_enter Tryz.func28, Tryz.ntmps28
  go_wp2_with fail
  refine (isTask_any _ a b m d t v fs _ Hb.out HR.out).mono ?_; rintro r w1 ⟨rfl, hb1⟩
  have HB1 := Lib.hid (Hb.out.on hb1)
  have q0 := HB1.out.cell 0
  have q1 := HB1.out.cell 1
  have q2 := HB1.out.cell 2
  have q3 := HB1.out.cell 3
  have q4 := HB1.out.cell 4
  have q5 := HB1.out.cell 5
  have ql := HB1.out.lt
  simp at q0 q1 q2 q3 q4 q5
  have Hb01 := Lib.hid (bthen HbA.out hb1)
  clear hb1
  cases hk : tkG a b m d t fs
  · have Hv := Lib.hid (show rangesV a b m d t fs z = ([], false) by unfold rangesV; rw [hk]; rfl)
    clear hk
    go_wp2
    go_ret2
    exact ⟨⟨_, [], by rw [Hv.out]; rfl, by rw [Hv.out]; exact NOwn.nil _ _ _ _ _⟩, Hb01.out⟩
  · have Hs := Lib.hid (Hsp.out hk)
    have Hk := Lib.hid hk; clear hk
    go_wp2_with fail
    refine (inside_any _ _ _ _).mono ?_; rintro r w2 ⟨rfl, rfl⟩
    cases hi : insB z 1 8
    · have Hv := Lib.hid (show rangesV a b m d t fs z = ([], false) by unfold rangesV; rw [Hk.out, hi]; rfl)
      clear hi
      go_wp2
      go_ret2
      exact ⟨⟨_, [], by rw [Hv.out]; rfl, by rw [Hv.out]; exact NOwn.nil _ _ _ _ _⟩, Hb01.out⟩
    · have Hv := Lib.hid (show rangesV a b m d t fs z = (rangesL m d t z, true) by unfold rangesV; rw [Hk.out, hi]; rfl)
      go_wp2_with fail
      refine (ranges_any w.heap.size a b m d t z v _ HB1.out Hs.out.1 Hs.out.2.1 (insB_true hi)).mono ?_; rintro r w3 ⟨⟨v3, vs3, rfl, hn3⟩, hb3⟩
      have Hn3 := Lib.hid hn3; clear hn3 hi
      go_wp2
      go_ret2
      exact ⟨⟨_, vs3, by rw [Hv.out]; rfl, by rw [Hv.out]; exact Hn3.out.less Hb01.out.size⟩, bthen Hb01.out hb3⟩
set_option maxRecDepth 8000 in
set_option maxHeartbeats 4000000 in
theorem specRanges_any (a b m d t : Int) (v : Value) (fs : List Pt) (z : Int) (w : World) (hv : Rd ptS w w.heap.size v fs) :
    Calls Tryz.prog 29 #[.agg #[.int .i64 a, .int .i64 b, .int .i64 m, .int .i64 d, .int .i64 t, v], .int .i64 z] w fun r w' => NRet2 w.heap.size (rangesV a b m d t fs z) r w' ∧ Below w.heap.size w w' := by
  have Hb := Lib.hid (Blk.new w 51 #[.int .i64 a, .int .i64 b, .int .i64 m, .int .i64 d, .int .i64 t, v])
  have hb0 := bal (Below.refl w.heap.size w) (Obj.cells #[.int .i64 a, .int .i64 b, .int .i64 m, .int .i64 d, .int .i64 t, v] 51)
  have HR := Lib.hid (hv.on hb0)
  have HbA := Lib.hid hb0; clear hb0 hv
  have Hsp := Lib.hid (tkG_spec (a := a) (b := b) (m := m) (d := d) (t := t) (fs := fs))
  go_enter Tryz.func29, Tryz.ntmps29
  go_wp2_with fail
  refine (skGood_any a b m d t v fs _ HR.out).mono ?_; rintro r w1 ⟨rfl, hb1⟩
  have HB1 := Lib.hid (Hb.out.on hb1)
  have q0 := HB1.out.cell 0
  have q1 := HB1.out.cell 1
  have q2 := HB1.out.cell 2
  have q3 := HB1.out.cell 3
  have q4 := HB1.out.cell 4
  have q5 := HB1.out.cell 5
  have ql := HB1.out.lt
  simp at q0 q1 q2 q3 q4 q5
  have Hb01 := Lib.hid (bthen HbA.out hb1)
  clear hb1
  cases hk : tkG a b m d t fs
  · have Hv := Lib.hid (show rangesV a b m d t fs z = ([], false) by unfold rangesV; rw [hk]; rfl)
    clear hk
    go_wp2
    go_ret2
    exact ⟨⟨_, [], by rw [Hv.out]; rfl, by rw [Hv.out]; exact NOwn.nil _ _ _ _ _⟩, Hb01.out⟩
  · have Hs := Lib.hid (Hsp.out hk)
    have Hk := Lib.hid hk; clear hk
    go_wp2_with fail
    refine (l1In_any _ _ _ _).mono ?_; rintro r w2 ⟨rfl, rfl⟩
    cases hi : insB z 1 8
    · have Hv := Lib.hid (show rangesV a b m d t fs z = ([], false) by unfold rangesV; rw [Hk.out, hi]; rfl)
      clear hi
      go_wp2
      go_ret2
      exact ⟨⟨_, [], by rw [Hv.out]; rfl, by rw [Hv.out]; exact NOwn.nil _ _ _ _ _⟩, Hb01.out⟩
    · have Hv := Lib.hid (show rangesV a b m d t fs z = (rangesL m d t z, true) by unfold rangesV; rw [Hk.out, hi]; rfl)
      go_wp2_with fail
      refine (skRanges_any a b m d t z v _ Hs.out.1 Hs.out.2.1 (insB_true hi)).mono ?_; rintro r w3 ⟨⟨v3, vs3, rfl, hn3⟩, hb3⟩
      have Hn3 := Lib.hid hn3; clear hn3 hi
      go_wp2
      go_ret2
      exact ⟨⟨_, vs3, by rw [Hv.out]; rfl, by rw [Hv.out]; exact Hn3.out.less Hb01.out.size⟩, bthen Hb01.out hb3⟩
end
end Go.Proofs.YtnhgdmhiblpknaaGreatDoor
