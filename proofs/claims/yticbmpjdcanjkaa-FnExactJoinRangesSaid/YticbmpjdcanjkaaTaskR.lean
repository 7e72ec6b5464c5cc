/- IsTask, RestOfTask, CandidateOf, RunRange of both: the walks. Conditions: none. -/
import Derived.Test.YticbmpjdcanjkaaTaskD
namespace Go.Proofs.Yticbmpjdcanjkaa
open Go Go.RowKit

theorem tkG_spec {a b m d t : Int} {fs : List Pt} (h : tkG a b m d t fs = true) : TkB a b m d ∧ (0 ≤ t ∧ t ≤ totI m d) ∧ fs = hitsZ a b m 0 t ∧ (0 ≤ totI m d ∧ totI m d ≤ 4010) := by
  unfold tkG at h
  simp only [Bool.and_eq_true, decide_eq_true_eq] at h
  exact ⟨tkB_tk h.1, insB_true h.2.1, h.2.2, totI_bd (tkB_tk h.1).m (tkB_tk h.1).d⟩
def restV (a b m d t : Int) (fs : List Pt) : Int × Bool := if tkG a b m d t fs then (totI m d - t, true) else (0, false)
def candV (a b m d t : Int) (fs : List Pt) (i : Int) : Int × Int × Bool := if tkG a b m d t fs && insB i 0 (totI m d - 1) then (cxI m i, ceI m i, true) else (0, 0, false)
def runV (a b m d t : Int) (fs : List Pt) (f l : Int) : List Pt × Bool := if tkG a b m d t fs && (insB f 0 l && decide (l ≤ totI m d)) then (hitsZ a b m f l, true) else ([], false)
theorem ret_ib {n : Int} {k : Bool} {p : Int × Bool} (h : p = (n, k)) : Ending.returned (.tuple #[.int .i64 n, .bool k]) = .returned (.tuple #[.int .i64 p.1, .bool p.2]) := by rw [h]
theorem ret_iib {n q : Int} {k : Bool} {p : Int × Int × Bool} (h : p = (n, q, k)) : Ending.returned (.tuple #[.int .i64 n, .int .i64 q, .bool k]) = .returned (.tuple #[.int .i64 p.1, .int .i64 p.2.1, .bool p.2.2]) := by rw [h]

theorem run_out {f l T : Int} (h : insB l 0 T = false) : (insB f 0 l && decide (l ≤ T)) = false := by
  rw [Bool.eq_false_iff]
  intro hc
  simp only [Bool.and_eq_true, decide_eq_true_eq] at hc
  have := insB_true hc.1
  rw [insB_mk (by omega) hc.2] at h
  cases h
end Go.Proofs.Yticbmpjdcanjkaa
