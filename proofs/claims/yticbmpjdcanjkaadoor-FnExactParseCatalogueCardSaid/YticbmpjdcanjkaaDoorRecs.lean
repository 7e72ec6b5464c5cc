/- The program's readers of a journal: the records at the beginning of a text; the records of a journal. Conditions: Env. -/
import Derived.Test.YticbmpjdcanjkaaDoorRead2
import Derived.Test.YticbmpjdcanjkaaDoorJrL
namespace Go.Proofs.YticbmpjdcanjkaaDoor
open Go Go.RowKit

theorem rc4 (x : Rc) : rcS.flat [x] = [.int .i64 x.a, .int .i64 x.b, .int .i64 x.lo, .int .i64 x.hi] := rfl
theorem ext_data (s : ByteArray) (a b : Nat) : (s.extract a b).data.toList = (s.data.toList.drop a).take (b - a) := Lib.extract_data s a b
theorem ext_all (s : ByteArray) (a : Nat) : (s.extract a s.size).data.toList = s.data.toList.drop a := by
  rw [ext_data, List.take_of_length_le]
  rw [List.length_drop]; exact Nat.le_refl _
theorem ext_line (s : ByteArray) (p n : Nat) : s.extract p (p + n + 1) = ⟨((s.data.toList.drop p).take (n + 1)).toArray⟩ := by
  apply bytes_ext
  rw [ext_data, show p + n + 1 - p = n + 1 by omega]
theorem openF_stop {F : Nat} {k : Int} {l rest : List UInt8} {xs : List Rc} {p : Nat} {G : Nat} {j : Int} (h : openF F k l = (xs ++ (openF G j rest).1, p + (openF G j rest).2)) (h0 : openF G j rest = ([], 0)) : openF F k l = (xs, p) := by
  rw [h0] at h
  simpa using h
theorem openF_on {F : Nat} {k : Int} {l rest : List UInt8} {xs : List Rc} {p : Nat} {G : Nat} {j : Int} {r : Rc} {m : Nat} (h : openF F k l = (xs ++ (openF (G + 1) j rest).1, p + (openF (G + 1) j rest).2)) (hm : Lib.indexByte rest 10 = m) (hr : rdL j ⟨(rest.take (m + 1)).toArray⟩ = some r) :
    openF F k l = ((xs ++ [r]) ++ (openF G (j + 1) (rest.drop (m + 1))).1, (p + (m + 1)) + (openF G (j + 1) (rest.drop (m + 1))).2) := by
  have h1 : (Lib.indexByte rest 10).toNat = m := by omega
  have h2 := openF_step (F := G) (k := j) (l := rest) (r := r) (by omega) (by rw [h1]; exact hr)
  rw [h1] at h2
  rw [h, h2]
  simp [Nat.add_assoc]
end Go.Proofs.YticbmpjdcanjkaaDoor
