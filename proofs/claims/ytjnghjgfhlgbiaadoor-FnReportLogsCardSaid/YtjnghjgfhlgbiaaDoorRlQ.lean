/- Helpers of the law FnReportLogs. Conditions: none. Printed by gen_rlogs.py. -/
import Derived.Test.YtjnghjgfhlgbiaaDoorRlP
import Derived.Test.YtjnghjgfhlgbiaaDoorRpQ
import Derived.Test.YtjnghjgfhlgbiaaDoorIsR
import Derived.Test.YtjnghjgfhlgbiaaDoorRepT
namespace Go.Proofs.YtjnghjgfhlgbiaaDoor
open Go Go.RowKit

theorem Rd.front {E : Type} {S : Shape E} {w : World} {hi n c : Nat} {A : Option Addr} {es : List E} (h : Rd S w hi (.slice A n c) es) {k : Nat} (hk : k ≤ es.length) : Rd S w hi (.slice A k c) (es.take k) := by
  obtain ⟨A9, c9, h1, h2, h3, h4⟩ := h
  injection h1 with h5 h6 h7
  subst h5 h6 h7
  refine ⟨A, c, by rw [List.length_take, Nat.min_eq_left hk], by rw [List.length_take]; omega, h3, fun h0 => ?_⟩
  rw [List.length_take, Nat.min_eq_left hk] at h0
  obtain ⟨g, off, hA, hg, hc⟩ := h4 (by omega)
  refine ⟨g, off, hA, hg, fun i hi j hj => ?_⟩
  rw [List.length_take, Nat.min_eq_left hk] at hi
  rw [hc i (by omega) j hj]
  unfold Shape.get
  rw [List.getD_eq_getElem?_getD, List.getD_eq_getElem?_getD, List.getElem?_take, if_pos hi]
theorem rp_at {w : World} {hi n c : Nat} {A : Option Addr} {es : List Rp} (h : Rd rpS w hi (.slice A n c) es) {k : Nat} (hk : k < es.length) : ∃ g off, A = some ⟨g, off, none⟩ ∧ g < hi ∧
    (w.cell? ⟨g, off + k * 7, none⟩ = some (.int .i64 (rpS.get es k).tm) ∧ w.cell? ⟨g, off + k * 7 + 1, none⟩ = some (.int .i64 (rpS.get es k).mc) ∧ w.cell? ⟨g, off + k * 7 + 2, none⟩ = some (.int .i64 (rpS.get es k).a) ∧
      w.cell? ⟨g, off + k * 7 + 3, none⟩ = some (.int .i64 (rpS.get es k).b) ∧ w.cell? ⟨g, off + k * 7 + 4, none⟩ = some (.int .i64 (rpS.get es k).lo) ∧ w.cell? ⟨g, off + k * 7 + 5, none⟩ = some (.int .i64 (rpS.get es k).hi) ∧
      w.cell? ⟨g, off + k * 7 + 6, none⟩ = some (.int .i64 (rpS.get es k).to)) := by
  obtain ⟨A9, c9, h1, h2, h3, h4⟩ := h
  injection h1 with h5 h6 h7
  subst h5 h6 h7
  obtain ⟨g, off, hA, hg, hc⟩ := h4 (by omega)
  exact ⟨g, off, hA, hg, rp_cells hc k hk⟩
theorem by_all2 {us ks : List Rp} {m : Int} (h : byV us m = (ks, true)) : ∀ k, k < ks.length → (rpS.get ks k).mc = m := by
  unfold byV at h
  split at h
  · injection h with h1 _
    subst h1
    exact by_all
  · cases h
theorem by_cnt {us ks : List Rp} {k : Nat} (h : byV us ((k : Int) + 1) = (ks, true)) : cntM us (k + 1) = cntM us k + ks.length := by
  unfold byV at h
  split at h
  · injection h with h1 _
    subst h1
    exact cntM_succ us k
  · cases h
theorem by_ex {us : List Rp} (h : repsB us = true) {k : Nat} (hk : k < 9) : ∃ ks, byV us ((k : Int) + 1) = (ks, true) := ⟨_, by_yes h (by omega) (by omega)⟩
theorem areI_is (v : Value) (es : List Rp) (b : Bool) (w : World) (e : repsB es = b) (h : Rd rpS w w.heap.size v es) :
    Calls Tryd.prog 10 #[v] w fun e w' => e = .returned (.bool b) ∧ Below w.heap.size w w' := by
  subst e; exact areI_any v es w h
theorem implIsRep_is (tm mc a b lo hi t : Int) (k : Bool) (w : World) (e : repB tm mc a b lo hi t = k) :
    Calls Tryd.prog 11 #[.agg #[.int .i64 tm, .int .i64 mc, .int .i64 a, .int .i64 b, .int .i64 lo, .int .i64 hi, .int .i64 t]] w fun e w' => e = .returned (.bool k) ∧ Below w.heap.size w w' := by
  subst e; exact implIsReport_any _ _ _ _ _ _ _ _
theorem specIsRep_is (tm mc a b lo hi t : Int) (k : Bool) (w : World) (e : repB tm mc a b lo hi t = k) :
    Calls Tryd.prog 22 #[.agg #[.int .i64 tm, .int .i64 mc, .int .i64 a, .int .i64 b, .int .i64 lo, .int .i64 hi, .int .i64 t]] w fun e w' => e = .returned (.bool k) ∧ Below w.heap.size w w' := by
  subst e; exact specIsReport_any _ _ _ _ _ _ _ _
theorem repsV_ok (es : List Rp) : (repsV es).2 = repsB es := by unfold repsV; cases repsB es <;> rfl
theorem implRepText_is (v : Value) (es : List Rp) (b : Bool) (w : World) (e : repsB es = b) (h : Rd rpS w w.heap.size v es) (htab : Tab w) :
    Calls Tryd.prog 18 #[v] w fun e w' => e = .returned (.tuple #[.string (repsV es).1, .bool b]) ∧ Below w.heap.size w w' := by
  have h2 := implRepText_any v es w h htab
  rwa [repsV_ok, e] at h2
theorem specRepText_is (v : Value) (es : List Rp) (b : Bool) (w : World) (e : repsB es = b) (h : Rd rpS w w.heap.size v es) :
    Calls Tryd.prog 19 #[v] w fun e w' => e = .returned (.tuple #[.string (repsV es).1, .bool b]) ∧ Below w.heap.size w w' := by
  have h2 := specRepText_any v es w h
  rwa [repsV_ok, e] at h2
theorem neqRp7 (a b c d e f g : Int) (W : World) : (binOp .neq 30 (.agg #[.int .i64 a, .int .i64 b, .int .i64 c, .int .i64 d, .int .i64 e, .int .i64 f, .int .i64 g]) (.agg #[.int .i64 a, .int .i64 b, .int .i64 c, .int .i64 d, .int .i64 e, .int .i64 f, .int .i64 g])).run Tryd.prog W = .ok (.bool false) W := by
  have h := neqRpQ ⟨a, b, c, d, e, f, g⟩ ⟨a, b, c, d, e, f, g⟩ W
  rw [decide_eq_true rfl] at h
  exact h
end Go.Proofs.YtjnghjgfhlgbiaaDoor
