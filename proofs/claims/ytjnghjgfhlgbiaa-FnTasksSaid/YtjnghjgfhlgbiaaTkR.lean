/- Helpers of the law FnTasks: what a step, a crash, a search return where the answer is known. Conditions: none. Printed by gen_tklaw.py. -/
import Derived.Test.YtjnghjgfhlgbiaaTkP
import Derived.Test.YtjnghjgfhlgbiaaTkQ
import Derived.Test.YtjnghjgfhlgbiaaSrP
namespace Go.Proofs.Ytjnghjgfhlgbiaa
open Go Go.RowKit

theorem TkRet.at {V : Int × Int × Int × Int × Int × List Pt × Bool} {base : Nat} {r : Ending} {w' : World} {A B M D T : Int} {L : List Pt} {k : Bool} (h : TkRet V base r w') (e : V = (A, B, M, D, T, L, k)) :
    ∃ X c, r = .returned (.tuple #[.agg #[.int .i64 A, .int .i64 B, .int .i64 M, .int .i64 D, .int .i64 T, .slice X L.length c], .bool k]) ∧ w'.ownsRow base 62 3 (.slice X L.length c) L.length (ptS.flat L) := by
  obtain ⟨A0, B0, M0, D0, T0, L0, k0, v0, rfl, h1, h2⟩ := h
  have h3 := h1.symm.trans e
  simp only [Prod.mk.injEq] at h3
  obtain ⟨rfl, rfl, rfl, rfl, rfl, rfl, rfl⟩ := h3
  obtain ⟨X, c, rfl⟩ := own_formS h2
  exact ⟨X, c, rfl, h2⟩
theorem step_or (a b m d t : Int) (fs : List Pt) (n : Int) : stepV a b m d t fs n = zeroT ∨ (tkG a b m d t fs = true ∧ 0 ≤ n ∧ n ≤ 5000) := by
  cases h : (tkG a b m d t fs && insB n 0 5000)
  · left; unfold stepV; rw [h]; rfl
  · right
    simp only [Bool.and_eq_true] at h
    exact ⟨h.1, (insB_true h.2).1, (insB_true h.2).2⟩
theorem crash_or (a b m d t : Int) (fs : List Pt) (n : Int) : crashV a b m d t fs n = zeroT ∨ ∃ T L, crashV a b m d t fs n = (a, b, m, d, T, L, true) := by
  cases h : (tkG a b m d t fs && insB n 1 5000)
  · left; unfold crashV; rw [h]; rfl
  · right; unfold crashV; rw [h]; exact ⟨_, _, rfl⟩
theorem implIsTk_is (a b m d t : Int) (v : Value) (fs : List Pt) (k : Bool) (w : World) (e : tkG a b m d t fs = k) (hv : Rd ptS w w.heap.size v fs) :
    Calls Try.prog 9 #[.agg #[.int .i64 a, .int .i64 b, .int .i64 m, .int .i64 d, .int .i64 t, v]] w fun r w' => r = .returned (.bool k) ∧ Below w.heap.size w w' := by
  subst e; exact implIsTask_any a b m d t v fs w hv
theorem specIsTk_is (a b m d t : Int) (v : Value) (fs : List Pt) (k : Bool) (w : World) (e : tkG a b m d t fs = k) (hv : Rd ptS w w.heap.size v fs) :
    Calls Try.prog 10 #[.agg #[.int .i64 a, .int .i64 b, .int .i64 m, .int .i64 d, .int .i64 t, v]] w fun r w' => r = .returned (.bool k) ∧ Below w.heap.size w w' := by
  subst e; exact specIsTask_any a b m d t v fs w hv
theorem implRest_is (a b m d t : Int) (v : Value) (fs : List Pt) (x : Int) (k : Bool) (w : World) (e : restV a b m d t fs = (x, k)) (hv : Rd ptS w w.heap.size v fs) :
    Calls Try.prog 11 #[.agg #[.int .i64 a, .int .i64 b, .int .i64 m, .int .i64 d, .int .i64 t, v]] w fun r w' => r = .returned (.tuple #[.int .i64 x, .bool k]) ∧ Below w.heap.size w w' := by
  have h := implRest_any a b m d t v fs w hv
  rwa [e] at h
theorem implCand_is (a b m d t : Int) (v : Value) (fs : List Pt) (i x e : Int) (k : Bool) (w : World) (h0 : candV a b m d t fs i = (x, e, k)) (hv : Rd ptS w w.heap.size v fs) :
    Calls Try.prog 19 #[.agg #[.int .i64 a, .int .i64 b, .int .i64 m, .int .i64 d, .int .i64 t, v], .int .i64 i] w fun r w' => r = .returned (.tuple #[.int .i64 x, .int .i64 e, .bool k]) ∧ Below w.heap.size w w' := by
  have h := implCand_any a b m d t v fs i w hv
  rwa [h0] at h
theorem specCand_is (a b m d t : Int) (v : Value) (fs : List Pt) (i x e : Int) (k : Bool) (w : World) (h0 : candV a b m d t fs i = (x, e, k)) (hv : Rd ptS w w.heap.size v fs) :
    Calls Try.prog 20 #[.agg #[.int .i64 a, .int .i64 b, .int .i64 m, .int .i64 d, .int .i64 t, v], .int .i64 i] w fun r w' => r = .returned (.tuple #[.int .i64 x, .int .i64 e, .bool k]) ∧ Below w.heap.size w w' := by
  have h := specCand_any a b m d t v fs i w hv
  rwa [h0] at h
end Go.Proofs.Ytjnghjgfhlgbiaa
