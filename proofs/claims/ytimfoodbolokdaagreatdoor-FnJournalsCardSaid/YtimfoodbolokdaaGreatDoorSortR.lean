/- The sort of a journal's catalogue: on an own row. Conditions: the row's length. -/
import Derived.Test.YtimfoodbolokdaaGreatDoorSortW
import Derived.Test.YtimfoodbolokdaaGreatDoorShelfS
namespace Go.Proofs.YtimfoodbolokdaaGreatDoor
open Go Go.RowKit Go.Sort Go.Shelf

theorem ltE (x y : En) : ltOf cmpE x y = decide (cmpE x y < 0) := rfl
theorem swoE : SWO (ltOf cmpE) where
  irrefl x := by rw [ltE]; exact decide_eq_false (cmpE_self x)
  trans x y z h1 h2 := by
    rw [ltE] at *
    exact decide_eq_true (cmpE_trans (of_decide_eq_true h1) (of_decide_eq_true h2))
  ntrans x y z h1 h2 := by
    rw [ltE] at *
    have h1 := of_decide_eq_false h1
    have h2 := of_decide_eq_false h2
    refine decide_eq_false (fun h => ?_)
    unfold cmpE at *
    rw [cmpC_lt] at *
    omega
theorem cmpLaysE (g n : Nat) (w : World) : CmpLays Tryz.prog 147 #[] encE 5 cmpE g 0 n w := fun _ _ _ _ x y =>
  (cmpEntries_gr x y _).mono fun _ _ ⟨he, q, os', hq⟩ => ⟨he, q, os', hq⟩
theorem closE : ∀ args w, (callFunc 147 args).run Tryz.prog w = .ok (.enter 147 args) w := enters_of Tryz.func147 (by kernel_rfl) rfl
theorem insNone (fv : Value) (w : World) : Calls Tryz.prog 230 #[.slice none 0 0, .int .i64 0, .int .i64 0, fv] w fun e w' => e = .returned (.tuple #[]) ∧ w' = w := by
  go_enter Tryz.func230, Tryz.ntmps230
  go_wp2
  refine wp_loop_rounds 1 ?_
  rw [rounds_succ]
  go_wp2
  go_end0
  exact ⟨rfl, rfl⟩
theorem pdqNone (lim : Int) (fv : Value) (w : World) : Calls Tryz.prog 194 #[.slice none 0 0, .int .i64 0, .int .i64 0, .int .i64 lim, fv] w fun e w' => e = .returned (.tuple #[]) ∧ w' = w := by
  go_enter Tryz.func194, Tryz.ntmps194
  go_wp2
  refine wp_loop_rounds 1 ?_
  rw [rounds_succ]
  go_wp2_with (go_at_call 230; refine (insNone _ _).mono ?_; rintro e w' ⟨rfl, rfl⟩)
  (try simp only [Exit.inBlock, Exit.then]); refine bodyPost_ret (results_none rfl _ _ _) rfl ?_
  exact ⟨rfl, rfl⟩
theorem sortNone (fv : Value) (w : World) : Calls Tryz.prog 146 #[.slice none 0 0, fv] w fun e w' => e = .returned (.tuple #[]) ∧ w' = w := by
  have hl : Calls Tryz.prog 195 #[.int .u64 0] w fun e w' => e = .returned (.int .i64 0) ∧ w' = w := Any.bits_Len (SlLaysF0.n15.bits (P := Tryz.prog) (ρ := Tryz.sortEn_ren) { Tryz.sortEn with }) 0 w (by omega) (by omega)
  go_enter Tryz.func146, Tryz.ntmps146
  go_wp2_with (first | (go_at_call 195; refine hl.mono ?_; rintro e w' ⟨rfl, rfl⟩) | (go_at_call 194; refine (pdqNone _ _ _).mono ?_; rintro e w' ⟨rfl, rfl⟩))
  go_end0
  exact ⟨rfl, rfl⟩
theorem sortEn_any (base : Nat) (v : Value) (xs : List En) (w : World) (ho : w.ownsRow base 29 5 v xs.length (enS.flat xs)) (hlen : xs.length ≤ 1000000) :
    Calls Tryz.prog 146 #[v, .func (.func 147) #[] #[]] w fun e w' => e = .returned (.tuple #[]) ∧ ∃ d : List En, d.Perm xs ∧ (∀ i j, i < j → j < d.length → ¬ cmpE (enS.get d j) (enS.get d i) < 0) ∧ w'.ownsRow base 29 5 v d.length (enS.flat d) ∧ Below base w w' := by
  have hform : (v = .slice none 0 0 ∧ xs.length = 0) ∨ ∃ g c, v = .slice (some ⟨g, 0, none⟩) xs.length c := by
    rcases ho.2 with h | ⟨g, c, _, h, _⟩
    · exact Or.inl h
    · exact Or.inr ⟨g, c, h⟩
  rcases hform with ⟨rfl, h0⟩ | ⟨g, c, rfl⟩
  · obtain rfl := List.eq_nil_of_length_eq_zero h0
    have hcon := sortNone (.func (.func 147) #[] #[]) w
    refine hcon.mono fun e w' ⟨he, hw⟩ => ?_
    subst hw
    exact ⟨he, [], List.Perm.refl _, fun i j _ hj => absurd hj (Nat.not_lt_zero _), ho, Below.refl _ _⟩
  · obtain ⟨cur, hb, hg, -⟩ := own_cur ho
    have hlt : g < w.heap.size := (Array.getElem?_eq_some_iff.1 hg).1
    have hcon := AnyQ.slices_SortFunc Tryz.sortEn 5 (fun _ => by kernel_rfl) (fun _ => by kernel_rfl) encE encE_len (fun x u hu => by simp [encE] at hu; rcases hu with rfl | rfl | rfl | rfl | rfl <;> rfl) cmpE swoE 147 #[] g 0 c xs.toArray w closE (cmpLaysE g xs.toArray.size w) (own_holdsK ho rfl) hlt (by simp; omega)
    change Calls Tryz.prog 146 _ _ _ at hcon
    rw [List.size_toArray] at hcon
    refine hcon.mono fun e w' ⟨he, d', n, os, hp, hs, hw⟩ => ?_
    subst hw
    obtain ⟨hsz, -, hpm⟩ := hp
    have hsz' : d'.toList.length = xs.length := by simpa using hsz
    have hpl : d'.toList.Perm xs := by
      have h2 : d'.extract 0 xs.length = d' := by rw [← hsz']; simp
      rw [h2] at hpm
      simpa using hpm
    have hd : d' = d'.toList.toArray := by simp
    obtain ⟨h3, h4⟩ := own_behind (d' := d'.toList) ho hsz'.symm n os
    refine ⟨he, d'.toList, hpl, fun i j hij hj h => ?_, ?_, ?_⟩
    · have h5 := hs i j (Nat.zero_le _) hij (by omega)
      rw [ltE] at h5
      rw [hd, getE_bang _ j hj, getE_bang _ i (by omega)] at h5
      exact of_decide_eq_false h5 h
    · rw [hsz', ← hd] at *; exact h3
    · rw [← hd] at h4; exact h4
end Go.Proofs.YtimfoodbolokdaaGreatDoor
