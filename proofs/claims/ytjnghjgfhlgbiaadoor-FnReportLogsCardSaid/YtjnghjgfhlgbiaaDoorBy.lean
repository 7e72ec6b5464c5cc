/- ReportsBy and ReportsUpTo of the reference. Conditions: none. -/
import Derived.Test.YtjnghjgfhlgbiaaDoorSReport
import Derived.Test.YtjnghjgfhlgbiaaDoorGoodReport
import Derived.Test.YtjnghjgfhlgbiaaDoorFrame
namespace Go.Proofs.YtjnghjgfhlgbiaaDoor
open Go Go.RowKit

def rpF (p : Rp → Bool) (es : List Rp) (k : Nat) : List Rp := (es.take k).filter p
theorem rpF_zero (p : Rp → Bool) (es : List Rp) : rpF p es 0 = [] := by simp [rpF]
theorem rpF_all (p : Rp → Bool) (es : List Rp) : rpF p es es.length = es.filter p := by simp [rpF]
theorem rpF_le (p : Rp → Bool) (es : List Rp) (k : Nat) : (rpF p es k).length ≤ k := by
  unfold rpF
  exact Nat.le_trans (List.length_filter_le _ _) (by rw [List.length_take]; omega)
theorem rp_take {es : List Rp} {k : Nat} (hk : k < es.length) : es.take (k + 1) = es.take k ++ [rpS.get es k] := by
  rw [List.take_add_one, List.getElem?_eq_getElem hk]
  simp [Shape.get, List.getD_eq_getElem?_getD, List.getElem?_eq_getElem hk]
theorem rpF_yes {p : Rp → Bool} {es : List Rp} {k : Nat} (hk : k < es.length) (h : p (rpS.get es k) = true) : rpF p es (k + 1) = rpF p es k ++ [rpS.get es k] := by
  unfold rpF
  rw [rp_take hk, List.filter_append]
  simp [h]
theorem rpF_no {p : Rp → Bool} {es : List Rp} {k : Nat} (hk : k < es.length) (h : p (rpS.get es k) = false) : rpF p es (k + 1) = rpF p es k := by
  unfold rpF
  rw [rp_take hk, List.filter_append]
  simp [h]
def byP (x : Int) (e : Rp) : Bool := e.mc == x
def upP (x : Int) (e : Rp) : Bool := decide (e.tm ≤ x)
def byV (es : List Rp) (x : Int) : List Rp × Bool := if repsB es && insB x 1 9 then (es.filter (byP x), true) else ([], false)
def upV (es : List Rp) (x : Int) : List Rp × Bool := if repsB es && insB x 0 1000000 then (es.filter (upP x), true) else ([], false)
theorem byV_len {es : List Rp} {x : Int} (y : List Rp) (b : Bool) (h : byV es x = (y, b)) : y.length ≤ 20 := by
  unfold byV at h
  split at h
  · rename_i hc
    simp only [Bool.and_eq_true] at hc
    obtain ⟨rfl, -⟩ := Prod.mk.inj h
    exact Nat.le_trans (List.length_filter_le _ _) (repsB_spec hc.1).1
  · obtain ⟨rfl, -⟩ := Prod.mk.inj h; simp
theorem upV_len {es : List Rp} {x : Int} (y : List Rp) (b : Bool) (h : upV es x = (y, b)) : y.length ≤ 20 := by
  unfold upV at h
  split at h
  · rename_i hc
    simp only [Bool.and_eq_true] at hc
    obtain ⟨rfl, -⟩ := Prod.mk.inj h
    exact Nat.le_trans (List.length_filter_le _ _) (repsB_spec hc.1).1
  · obtain ⟨rfl, -⟩ := Prod.mk.inj h; simp
theorem rp7 (x : Rp) : rpS.flat [x] = [.int .i64 x.tm, .int .i64 x.mc, .int .i64 x.a, .int .i64 x.b, .int .i64 x.lo, .int .i64 x.hi, .int .i64 x.to] := rfl
end Go.Proofs.YtjnghjgfhlgbiaaDoor
