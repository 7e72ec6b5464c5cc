/- Numerals of the reference, of whatever length. Conditions: none. -/
import Derived.Test.YtjnghjgfhlgbiaaDoorNum
namespace Go.Proofs.YtjnghjgfhlgbiaaDoor
open Go Go.RowKit

set_option maxRecDepth 100000 in
set_option maxHeartbeats 300000 in
theorem l1Num_any (n : Nat) : n < 1000000000 → ∀ w : World, Calls Tryd.prog 47 #[.int .i64 n] w fun r w' => r = .returned (.string (numS n)) ∧ Below w.heap.size w w' := by
  induction n using Nat.strongRecOn with
  | ind n ih =>
    intro hn w
    by_cases hs : n < 10
    · exact l1Num_small n hs w
    · have Ih := Lib.hid (ih (n / 10) (by omega) (by omega)); clear ih
      have Hst := Lib.hid (numS_step hs)
      have hd : decide ((n : Int) < 10) = false := decide_eq_false (by omega)
      have hq : (n : Int).tdiv 10 = ((n / 10 : Nat) : Int) := by rw [Int.tdiv_eq_ediv_of_nonneg (by omega)]; omega
      have hr : (n : Int).tmod 10 = ((n % 10 : Nat) : Int) := by rw [Int.tmod_eq_emod_of_nonneg (by omega)]; omega
      have hr10 : n % 10 < 10 := by omega
      obtain ⟨B, hB⟩ : ∃ B, B = UInt8.ofNat (48 + n % 10) := ⟨_, rfl⟩
      rw [← hB] at Hst
      have hcv : ∀ W g, W.cell? ⟨g, 0, none⟩ = some (.int .u8 (48 + ((n % 10 : Nat) : Int))) → (convert 22 9 (.slice (some ⟨g, 0, none⟩) 1 1)).run Tryd.prog W = .ok (.string ⟨#[B]⟩) W := fun W g h => by
        rw [hB]
        exact conv_cell W g (48 + n % 10) (by omega) (by rw [h]; push_cast; rfl)
      clear hB
      have Hcv := Lib.hid hcv; clear hcv
      have hr9 : (0 : Int) ≤ ((n % 10 : Nat) : Int) ∧ ((n % 10 : Nat) : Int) ≤ 9 := by omega
      obtain ⟨m9, hm9⟩ : ∃ m9 : Int, ((n % 10 : Nat) : Int) = m9 := ⟨_, rfl⟩
      rw [hm9] at hr Hcv hr9
      obtain ⟨k9, hk9⟩ : ∃ k9 : Int, ((n / 10 : Nat) : Int) = k9 := ⟨_, rfl⟩
      rw [hk9] at hq Ih
      have hwk : IntKind.i64.wrap k9 = k9 := by rw [IntKind.wrap_i64]; omega
      clear hm9 hk9 hr10
      obtain ⟨r1, r2⟩ := hr9
      have hw1 : IntKind.i64.wrap (48 + m9) = 48 + m9 := by rw [IntKind.wrap_i64]; omega
      have hw2 : IntKind.u8.wrap (48 + m9) = 48 + m9 := by
        rw [IntKind.wrap_u8]; omega
      have hqs : (numS (n / 10)).size ≤ 1000000001 := by have := numS_size (n / 10); omega
      generalize numS (n / 10) = Q at Ih Hst hqs
      go_enter Tryd.func47, Tryd.ntmps47
      go_wp2
      have hcvC := Hcv.out (World.drew (w.alloc (Obj.cells #[.int .u8 (48 + m9)] 5))) w.heap.size ((Blk.new w _ #[.int .u8 (48 + m9)]).drew.cell 0)
      have hcvD := Hcv.out (w.alloc (Obj.cells #[.int .u8 (48 + m9)] 5)) w.heap.size ((Blk.new w _ #[.int .u8 (48 + m9)]).cell 0)
      go_region_with (go_at_call 47; (with_reducible refine (Ih.out _).mono ?_); rintro e w2 ⟨rfl, hb2⟩; have hcvA := Hcv.out (w2.alloc (Obj.cells #[.int .u8 (48 + m9)] 5)) w2.heap.size ((Blk.new w2 _ #[.int .u8 (48 + m9)]).cell 0); (try have hcvB := Hcv.out w2 w.heap.size ((hb2.cell (p := ⟨w.heap.size, 0, none⟩) (by simp)).trans ((Blk.new w _ #[.int .u8 (48 + m9)]).drew.cell 0))))
      all_goals
        go_wp2
        go_ret
        exact ⟨by rw [Hst.out]; rfl, by (repeat (with_reducible first | exact Below.refl _ _ | assumption | refine bal ?_ _ | refine bst ?_ (by simp <;> omega) _ | refine Below.drew ?_ | refine bthen ?_ (by assumption)))⟩
end Go.Proofs.YtjnghjgfhlgbiaaDoor
