/- The program's reader of a record's line: the walk. Conditions: Env. -/
import Derived.Test.YticbmpjdcanjkaaDoorRead
namespace Go.Proofs.YticbmpjdcanjkaaDoor
open Go Go.RowKit

theorem infoIntR : (Tryd.prog.info? 3).map (fun i => (i.zero, i.size, i.bytes)) = some (some (.int .i64 0), 1, 8) := by kernel_rfl
theorem splitB_size (sep : ByteArray) : ∀ (k : Nat) (s : ByteArray), ∀ x ∈ Lib.splitB sep 0 k s, x.size ≤ s.size
  | 0, s, x, h => by
    have : x = s := by simpa [Lib.splitB] using h
    rw [this]; exact Nat.le_refl _
  | k + 1, s, x, h => by
    unfold Lib.splitB at h
    split at h
    · have : x = s := by simpa using h
      rw [this]; exact Nat.le_refl _
    · rcases List.mem_cons.1 h with rfl | h
      · rw [ByteArray.size_extract]; omega
      · have := splitB_size sep k _ x h
        rw [ByteArray.size_extract] at this
        omega
theorem jrW_size {line : ByteArray} {j : Nat} (h : j < (jrW line).length) : (jrW line)[j].size ≤ line.size :=
  Nat.le_trans (splitB_size _ _ _ _ (List.getElem_mem h)) (jrT_size line)
theorem own_form {w : World} {b : Nat} {t : TypeId} {z : Nat} {v : Value} {n : Nat} {xs : List Value} (h : w.ownsRow b t z v n xs) : ∃ A c, v = .slice A n c := by
  rcases h.2 with ⟨h', h0⟩ | ⟨g', cap', cur, h', _⟩
  · exact ⟨none, 0, by rw [h', h0]⟩
  · exact ⟨_, _, h'⟩
theorem bytes_inj {a b : ByteArray} (h : a.toList = b.toList) : a = b := by
  rw [ByteArray.toList_eq, ByteArray.toList_eq] at h
  obtain ⟨⟨a⟩⟩ := a; obtain ⟨⟨b⟩⟩ := b
  exact congrArg (fun l => ByteArray.mk ⟨l⟩) h
def cv (w : World) (a : Addr) : Value := (w.cell? a).getD (.int .i64 0)
theorem list5r {xs : List Int} (h : xs.length = 5) : ∃ a b c d e, xs = [a, b, c, d, e] := by
  match xs, h with
  | [a, b, c, d, e], _ => exact ⟨a, b, c, d, e, rfl⟩
theorem RdP.no {k : Int} {line : ByteArray} (h : ∀ a b lo hi : Int, recB a b lo hi = true → lineS k a b lo hi ≠ line) (a b lo hi : Int) : RdP k line (.returned (.tuple #[.agg #[.int .i64 a, .int .i64 b, .int .i64 lo, .int .i64 hi], .bool false])) := Or.inr ⟨h, a, b, lo, hi, rfl⟩
theorem RdP.yes {k : Int} {line : ByteArray} {a b lo hi : Int} (h : recB a b lo hi = true) (hl : lineS k a b lo hi = line) : RdP k line (.returned (.tuple #[.agg #[.int .i64 a, .int .i64 b, .int .i64 lo, .int .i64 hi], .bool true])) := Or.inl ⟨a, b, lo, hi, h, hl, rfl⟩
end Go.Proofs.YticbmpjdcanjkaaDoor
