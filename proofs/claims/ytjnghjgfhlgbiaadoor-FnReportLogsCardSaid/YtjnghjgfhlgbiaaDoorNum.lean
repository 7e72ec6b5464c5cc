/- Numerals of the reference. Conditions: none. -/
import Derived.Test.YtjnghjgfhlgbiaaDoorBase
import Derived.Lib.ItoaNum
import Derived.Laws.IdiomStrings
import Derived.Deep.RegionHeld3
namespace Go.Proofs.YtjnghjgfhlgbiaaDoor
open Go Go.RowKit

def numS (n : Nat) : ByteArray := ⟨(Lib.decDigits n).toArray⟩
/-- One byte, turned into a string. -/
theorem conv_byte (w : World) (g : Nat) (b : Nat) (hb : b < 256) (h : Blk w g 5 #[.int .u8 (b : Int)]) :
    (convert 22 9 (.slice (some ⟨g, 0, none⟩) 1 1)).run Tryd.prog w = .ok (.string ⟨#[UInt8.ofNat b]⟩) w := by
  have hb' : (UInt8.ofNat b).toNat = b := by simp; omega
  refine run_convert_bytes_back w 22 9 5 ⟨g, 0, none⟩ 1 [UInt8.ofNat b] Tryd.underlying22 Tryd.underlying5 Tryd.underlying9 ?_
  intro j hj
  have hj0 : j = 0 := by simpa using hj
  subst hj0
  have := h.cell 0
  simpa [hb', Addr.add] using this
set_option maxRecDepth 100000 in
set_option maxHeartbeats 1600000 in
theorem l1Num_small (n : Nat) (hn : n < 10) (w : World) : Calls Tryd.prog 47 #[.int .i64 n] w fun r w' => r = .returned (.string (numS n)) ∧ Below w.heap.size w w' := by
  have hd : decide ((n : Int) < 10) = true := decide_eq_true (by omega)
  have hv : numS n = ⟨#[UInt8.ofNat (48 + n)]⟩ := by unfold numS; rw [Lib.decDigits_one hn]
  obtain ⟨B, hB⟩ : ∃ B, B = UInt8.ofNat (48 + n) := ⟨_, rfl⟩
  rw [← hB] at hv
  have Hv := Lib.hid hv; clear hv
  have hcv : (convert 22 9 (.slice (some ⟨w.heap.size, 0, none⟩) 1 1)).run Tryd.prog (w.alloc (Obj.cells #[.int .u8 (48 + (n : Int))] 5)) = .ok (.string ⟨#[B]⟩) (w.alloc (Obj.cells #[.int .u8 (48 + (n : Int))] 5)) := by
    rw [hB]
    have := conv_byte (w.alloc (Obj.cells #[.int .u8 (48 + (n : Int))] 5)) w.heap.size (48 + n) (by omega) (by push_cast; exact Blk.new _ _ _)
    exact this
  clear hB
  go_enter Tryd.func47, Tryd.ntmps47
  go_wp2
  go_ret
  exact ⟨by rw [Hv.out]; rfl, by (repeat (with_reducible first | exact Below.refl _ _ | assumption | refine bal ?_ _ | refine bst ?_ (by simp <;> omega) _ | refine Below.drew ?_ | refine bthen ?_ (by assumption)))⟩
theorem conv_cell (W : World) (g : Nat) (b : Nat) (hb : b < 256) (h : W.cell? ⟨g, 0, none⟩ = some (.int .u8 (b : Int))) :
    (convert 22 9 (.slice (some ⟨g, 0, none⟩) 1 1)).run Tryd.prog W = .ok (.string ⟨#[UInt8.ofNat b]⟩) W := by
  have hb' : (UInt8.ofNat b).toNat = b := by simp; omega
  refine run_convert_bytes_back W 22 9 5 ⟨g, 0, none⟩ 1 [UInt8.ofNat b] Tryd.underlying22 Tryd.underlying5 Tryd.underlying9 ?_
  intro j hj
  have hj0 : j = 0 := by simpa using hj
  subst hj0
  simpa [hb', Addr.add] using h
theorem numS_step {n : Nat} (h : ¬ n < 10) : numS n = numS (n / 10) ++ ⟨#[UInt8.ofNat (48 + n % 10)]⟩ := by
  unfold numS
  rw [Lib.decDigits, dif_neg h]
  apply ByteArray.ext
  simp
theorem numS_size (n : Nat) : (numS n).size ≤ n + 1 := by
  induction n using Nat.strongRecOn with
  | ind n ih =>
    by_cases h : n < 10
    · unfold numS; rw [Lib.decDigits_one h]; simp [ByteArray.size]
    · have := ih (n / 10) (by omega)
      rw [numS_step h, ByteArray.size_append, show (⟨#[UInt8.ofNat (48 + n % 10)]⟩ : ByteArray).size = 1 from rfl]
      omega
end Go.Proofs.YtjnghjgfhlgbiaaDoor
