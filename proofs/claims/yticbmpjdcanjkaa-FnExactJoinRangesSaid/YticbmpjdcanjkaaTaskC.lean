/- CrashTask and StepTask of both: the walks. Conditions: none. -/
import Derived.Test.YticbmpjdcanjkaaTaskR
namespace Go.Proofs.Yticbmpjdcanjkaa
open Go Go.RowKit

def zeroT : Int × Int × Int × Int × Int × List Pt × Bool := (0, 0, 0, 0, 0, [], false)
/-- A result that is a task and a bool. -/
def TkRet (V : Int × Int × Int × Int × Int × List Pt × Bool) (base : Nat) (r : Ending) (w' : World) : Prop :=
  ∃ (A B M D T : Int) (L : List Pt) (k : Bool) (v' : Value), r = .returned (.tuple #[.agg #[.int .i64 A, .int .i64 B, .int .i64 M, .int .i64 D, .int .i64 T, v'], .bool k]) ∧ V = (A, B, M, D, T, L, k) ∧ w'.ownsRow base 67 3 v' L.length (ptS.flat L)
theorem TkRet.zero {V : Int × Int × Int × Int × Int × List Pt × Bool} {base : Nat} {w' : World} (h : V = zeroT) : TkRet V base (.returned (.tuple #[.agg #[.int .i64 0, .int .i64 0, .int .i64 0, .int .i64 0, .int .i64 0, .slice none 0 0], .bool false])) w' :=
  ⟨0, 0, 0, 0, 0, [], false, _, rfl, h, rfl, Or.inl ⟨rfl, rfl⟩⟩
theorem TkRet.mk {V : Int × Int × Int × Int × Int × List Pt × Bool} {base a1 : Nat} {a b m d n : Int} {A : Option Addr} {c : Nat} {w' : World} (h : V = (a, b, m, d, n, hitsZ a b m 0 n, true)) (ho : w'.ownsRow a1 67 3 (.slice A (hitsZ a b m 0 n).length c) (hitsZ a b m 0 n).length (ptS.flat (hitsZ a b m 0 n))) (hb : base ≤ a1) :
    TkRet V base (.returned (.tuple #[.agg #[.int .i64 a, .int .i64 b, .int .i64 m, .int .i64 d, .int .i64 n, .slice A (hitsZ a b m 0 n).length c], .bool true])) w' :=
  ⟨a, b, m, d, n, _, true, _, rfl, h, own_mono ho hb⟩
def stepV (a b m d t : Int) (fs : List Pt) (n : Int) : Int × Int × Int × Int × Int × List Pt × Bool := if tkG a b m d t fs && insB n 0 5000 then (a, b, m, d, min (t + n) (totI m d), hitsZ a b m 0 (min (t + n) (totI m d)), true) else zeroT
def crashV (a b m d t : Int) (fs : List Pt) (e : Int) : Int × Int × Int × Int × Int × List Pt × Bool := if tkG a b m d t fs && insB e 1 5000 then (a, b, m, d, t - t % e, hitsZ a b m 0 (t - t % e), true) else zeroT

theorem hitsZ_len2 {a b m d t : Int} {fs : List Pt} {n : Int} (h : tkG a b m d t fs = true) (hn : n ≤ totI m d) : (hitsZ a b m 0 n).length ≤ 4010 := by
  have h1 := hitsZ_len a b m 0 n
  have h2 := (tkG_spec h).2.2.2
  omega
theorem stepV_len {a b m d t : Int} {fs : List Pt} {n A B M D T : Int} {L : List Pt} {k : Bool} (h : stepV a b m d t fs n = (A, B, M, D, T, L, k)) : L.length ≤ 4010 := by
  unfold stepV at h
  by_cases hg : (tkG a b m d t fs && insB n 0 5000) = true
  · rw [if_pos hg] at h
    simp only [Bool.and_eq_true] at hg
    simp only [Prod.mk.injEq] at h
    rw [← h.2.2.2.2.2.1]
    exact hitsZ_len2 hg.1 (by omega)
  · rw [if_neg hg] at h
    unfold zeroT at h
    simp only [Prod.mk.injEq] at h
    rw [← h.2.2.2.2.2.1]; simp
theorem crashV_len {a b m d t : Int} {fs : List Pt} {n A B M D T : Int} {L : List Pt} {k : Bool} (h : crashV a b m d t fs n = (A, B, M, D, T, L, k)) : L.length ≤ 4010 := by
  unfold crashV at h
  by_cases hg : (tkG a b m d t fs && insB n 1 5000) = true
  · rw [if_pos hg] at h
    simp only [Bool.and_eq_true] at hg
    simp only [Prod.mk.injEq] at h
    rw [← h.2.2.2.2.2.1]
    have h1 := (tkG_spec hg.1).2.1
    have h2 := insB_true hg.2
    exact hitsZ_len2 hg.1 (by have := Int.emod_nonneg t (show n ≠ 0 by omega); omega)
  · rw [if_neg hg] at h
    unfold zeroT at h
    simp only [Prod.mk.injEq] at h
    rw [← h.2.2.2.2.2.1]; simp
theorem runV_len (a b m d t : Int) (fs : List Pt) (f l : Int) : (runV a b m d t fs f l).1.length ≤ 4010 := by
  unfold runV
  split
  · rename_i hg
    simp only [Bool.and_eq_true, decide_eq_true_eq] at hg
    have h1 := hitsZ_len a b m f l
    have h2 := insB_true hg.2.1
    have h3 := (tkG_spec hg.1).2.2.2
    show (hitsZ a b m f l).length ≤ 4010
    omega
  · simp
end Go.Proofs.Yticbmpjdcanjkaa
