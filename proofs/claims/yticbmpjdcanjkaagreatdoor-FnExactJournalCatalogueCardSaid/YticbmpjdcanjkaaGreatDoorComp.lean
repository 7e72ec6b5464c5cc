/- CompactJournal of both. Conditions: Env; bounds. -/
import Derived.Test.YticbmpjdcanjkaaGreatDoorBest2
import Derived.Test.YticbmpjdcanjkaaGreatDoorJour2
namespace Go.Proofs.YticbmpjdcanjkaaGreatDoor
open Go Go.RowKit

def cmpP (l : List Rc) : Nat → ByteArray
  | 0 => ⟨#[]⟩
  | k + 1 => cmpP l k ++ (rcS.get l k).line k
def coV (D P : ByteArray) : ByteArray × Bool := if jrOk D P = true ∧ (bestV (jrV D P)).2 = true then (cmpP (bestV (jrV D P)).1 (bestV (jrV D P)).1.length, true) else (⟨#[]⟩, false)
theorem blk_set0 {w : World} {g : Nat} {t : TypeId} {a0 a1 b0 : Value} (h : Blk w g t #[a0, a1]) : Blk (w.setCell ⟨g, 0, none⟩ b0) g t #[b0, a1] := by
  have q := h.set 0 b0
  simp only [List.setIfInBounds_toArray, List.set_cons_zero] at q
  exact q
theorem curve_of_ok {r : Rc} (h : r.ok = true) : curveB r.a r.b = true := recB_curve h
theorem bestL_ok {all : List Rc} : ∀ (rs acc l : List Rc), (∀ r ∈ rs, r.ok = true) → (∀ s ∈ acc, s.ok = true) → bestL all rs acc = some l → (∀ s ∈ l, s.ok = true) ∧ l.length ≤ acc.length + rs.length := by
  intro rs
  induction rs with
  | nil =>
    intro acc l _ ha h
    simp only [bestL] at h
    injection h with h
    subst h
    exact ⟨ha, by simp⟩
  | cons r rs ih =>
    intro acc l hr ha h
    unfold bestL at h
    split at h
    · have := ih acc l (fun x hx => hr x (List.mem_cons_of_mem _ hx)) ha h
      exact ⟨this.1, by rw [List.length_cons]; omega⟩
    · split at h
      · rename_i hb
        have hbd := bndV_bd hb
        have hro := hr r (List.mem_cons_self ..)
        have := ih _ l (fun x hx => hr x (List.mem_cons_of_mem _ hx)) (fun s hs => by
          rcases List.mem_append.1 hs with hs | hs
          · exact ha s hs
          · have e : s = (⟨r.a, r.b, (bndV r.a r.b all).1, (bndV r.a r.b all).2.1⟩ : Rc) := by simpa using hs
            subst e
            show recB _ _ _ _ = true
            unfold recB
            rw [curve_of_ok hro, Bool.true_and]
            exact decide_eq_true hbd) h
        refine ⟨this.1, ?_⟩
        have h2 := this.2
        rw [List.length_append, List.length_singleton] at h2
        rw [List.length_cons]; omega
      · cases h
theorem bestV_ok {all : List Rc} (h : ∀ r ∈ all, r.ok = true) : (∀ s ∈ (bestV all).1, s.ok = true) ∧ (bestV all).1.length ≤ all.length := by
  unfold bestV
  cases hb : bestO all with
  | none => exact ⟨fun s hs => (by cases hs), Nat.zero_le _⟩
  | some l =>
    have := bestL_ok all [] l h (fun s hs => by cases hs) hb
    exact ⟨this.1, by simpa using this.2⟩
theorem jrV_rok (D P : ByteArray) : ∀ r ∈ jrV D P, r.ok = true := by
  intro r hr
  unfold jrV at hr
  split at hr
  · exact jrRecs_ok D P r hr
  · cases hr
theorem cmpP_size {l : List Rc} (h : ∀ s ∈ l, s.ok = true) (hl : l.length ≤ 30) : ∀ k, k ≤ l.length → (cmpP l k).size ≤ 40 * k
  | 0, _ => Nat.le_refl _
  | k + 1, hk => by
    have ih := cmpP_size h hl k (by omega)
    have h2 := line_len (k := (k : Int)) (h _ (get_mem (k := k) (by omega))) (by omega)
    unfold cmpP
    rw [ByteArray.size_append]
    omega
end Go.Proofs.YticbmpjdcanjkaaGreatDoor
