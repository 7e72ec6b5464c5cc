/- Plain laws of a task's text: read by the program's way and by the reference's. Conditions: none. -/
import Derived.Test.YticbmpjdcanjkaaGreatDoorSpl
import Derived.Test.YticbmpjdcanjkaaGreatDoorTaskT
import Derived.Test.YticbmpjdcanjkaaGreatDoorTaskC
namespace Go.Proofs.YticbmpjdcanjkaaGreatDoor
open Go Go.RowKit

/-- The words of a text. -/
def splW (s : ByteArray) : List ByteArray := Lib.splitB ⟨#[32]⟩ 0 (Lib.countB s ⟨#[32]⟩) s
theorem splW_length (s : ByteArray) : (splW s).length = Lib.countB s ⟨#[32]⟩ + 1 := Lib.splitB_all ⟨#[32]⟩ (by decide) 0 _ _ rfl
theorem splW_text (e : Int) (es : List Int) : splW (nText (e :: es)) = (e :: es).map itS := (split_nText e es).2
/-- A task's numbers are valid. -/
def tk5 (a b m d t : Int) : Bool := tkB a b m d && insB t 0 (totI m d)
theorem tk5_bd {a b m d t : Int} (h : tk5 a b m d t = true) : TkB a b m d ∧ 0 ≤ t ∧ t ≤ totI m d := by
  unfold tk5 at h
  simp only [Bool.and_eq_true] at h
  exact ⟨tkB_tk h.1, insB_true h.2⟩
/-- The numbers that all words of a text are, if there are five. -/
def psI (s : ByteArray) : Option (Int × Int × Int × Int × Int) :=
  match (splW s).map (fun w => Lib.atoiAll w.data.toList) with
  | [.ok a, .ok b, .ok m, .ok d, .ok t] => if tk5 a b m d t = true ∧ (nText [a, b, m, d, t]).data.toList = s.data.toList then some (a, b, m, d, t) else none
  | _ => none
def psS (s : ByteArray) : Option (Int × Int × Int × Int × Int) :=
  match spl 32 s.data.toList with
  | [x0, x1, x2, x3, x4] => match paC (x0 ++ 32 :: x1) with
    | none => none
    | some (a, b) => if tk5 a b (rdN x2) (rdN x3) (rdN x4) = true ∧ (nText [a, b, rdN x2, rdN x3, rdN x4]).data.toList = s.data.toList then some (a, b, rdN x2, rdN x3, rdN x4) else none
  | _ => none
theorem tot_bd {m d : Int} (h0 : 0 ≤ m) (h1 : m ≤ 200) (h2 : 1 ≤ d) (h3 : d ≤ 10) : 0 ≤ totI m d ∧ totI m d ≤ 4010 := by
  have h4 := mul_bd d (2 * m + 1) 10 401 (by omega) h3 (by omega) (by omega)
  have h5 : 0 ≤ d * (2 * m + 1) := Int.mul_nonneg (by omega) (by omega)
  unfold totI
  omega
theorem tk5_small {a b m d t : Int} (h : tk5 a b m d t = true) : (-1000 ≤ a ∧ a ≤ 1000) ∧ (-10000 ≤ b ∧ b ≤ 10000) ∧ (0 ≤ m ∧ m ≤ 200) ∧ (1 ≤ d ∧ d ≤ 10) ∧ (0 ≤ t ∧ t ≤ 4010) := by
  obtain ⟨h1, h2⟩ := tk5_bd h
  have h3 := tot_bd h1.m.1 h1.m.2 h1.d.1 h1.d.2
  exact ⟨h1.a, h1.b, h1.m, h1.d, by omega⟩
theorem tk5_nums {a b m d t : Int} {s : ByteArray} (h : tk5 a b m d t = true) (hs : nText [a, b, m, d, t] = s) : okNums (splW s) [a, b, m, d, t] := by
  obtain ⟨h1, h2, h3, h4, h5⟩ := tk5_small h
  rw [← hs]
  unfold okNums
  rw [splW_text]
  simp only [List.map_cons, List.map_nil]
  rw [atoiAll_itS a (by omega), atoiAll_itS b (by omega), atoiAll_itS m (by omega), atoiAll_itS d (by omega), atoiAll_itS t (by omega)]
theorem psI_some {a b m d t : Int} {s : ByteArray} (h : tk5 a b m d t = true) (hs : nText [a, b, m, d, t] = s) : psI s = some (a, b, m, d, t) := by
  have h1 := tk5_nums h hs
  unfold okNums at h1
  unfold psI
  rw [h1]
  simp only [List.map_cons, List.map_nil]
  rw [if_pos ⟨h, by rw [hs]⟩]
theorem psI_spec {a b m d t : Int} {s : ByteArray} (h : psI s = some (a, b, m, d, t)) : tk5 a b m d t = true ∧ nText [a, b, m, d, t] = s := by
  unfold psI at h
  split at h
  · split at h
    · rename_i hh
      injection h with h
      simp only [Prod.mk.injEq] at h
      obtain ⟨rfl, rfl, rfl, rfl, rfl⟩ := h
      exact ⟨hh.1, bytes_ext hh.2⟩
    · cases h
  · cases h
theorem psI_vals {a b m d t : Int} {s : ByteArray} (hw : okNums (splW s) [a, b, m, d, t]) : psI s = if tk5 a b m d t = true ∧ (nText [a, b, m, d, t]).data.toList = s.data.toList then some (a, b, m, d, t) else none := by
  unfold okNums at hw
  unfold psI
  rw [hw]
  rfl
theorem psI_len {s : ByteArray} (h : (splW s).length ≠ 5) : psI s = none := by
  cases hp : psI s with
  | none => rfl
  | some p =>
    obtain ⟨a, b, m, d, t⟩ := p
    have h1 := congrArg List.length (tk5_nums (psI_spec hp).1 (psI_spec hp).2)
    simp at h1
    exact absurd h1 h
theorem psI_word {s : ByteArray} {j : Nat} (hj : j < (splW s).length) (hn : ∀ v : Int, Lib.atoiAll (splW s)[j].data.toList ≠ .ok v) : psI s = none := by
  cases hp : psI s with
  | none => rfl
  | some p =>
    obtain ⟨a, b, m, d, t⟩ := p
    have h1 := tk5_nums (psI_spec hp).1 (psI_spec hp).2
    unfold okNums at h1
    have h2 := congrArg (fun l => l[j]?) h1
    simp only [List.getElem?_map, List.getElem?_eq_getElem hj, Option.map_some] at h2
    cases h5 : [a, b, m, d, t][j]? with
    | none => rw [h5] at h2; cases h2
    | some v => rw [h5] at h2; exact absurd (Option.some.inj h2) (hn v)
theorem nText5_data (a b m d t : Int) : (nText [a, b, m, d, t]).data.toList = Lib.join [Lib.itoa a, Lib.itoa b, Lib.itoa m, Lib.itoa d, Lib.itoa t] [32] := rfl
theorem psS_words {a b m d t : Int} {s : ByteArray} (hs : nText [a, b, m, d, t] = s) : spl 32 s.data.toList = [Lib.itoa a, Lib.itoa b, Lib.itoa m, Lib.itoa d, Lib.itoa t] := by
  rw [← hs, nText5_data]
  refine spl_join 32 _ _ (fun w hw => ?_)
  simp only [List.mem_cons, List.not_mem_nil, or_false] at hw
  rcases hw with rfl | rfl | rfl | rfl | rfl <;> exact itoa_no32 _
theorem tk5_curve {a b m d t : Int} (h : tk5 a b m d t = true) : curveB a b = true := by
  unfold tk5 tkB at h
  simp only [Bool.and_eq_true] at h
  exact h.1.1
theorem psS_some {a b m d t : Int} {s : ByteArray} (h : tk5 a b m d t = true) (hs : nText [a, b, m, d, t] = s) : psS s = some (a, b, m, d, t) := by
  obtain ⟨h1, h2, h3, h4, h5⟩ := tk5_small h
  unfold psS
  rw [psS_words hs]
  simp only
  rw [← nTextD, paC_text (tk5_curve h)]
  simp only
  rw [rdN_itoa (n := m) (by omega) (by omega), rdN_itoa (n := d) (by omega) (by omega), rdN_itoa (n := t) (by omega) (by omega), if_pos ⟨h, by rw [hs]⟩]
theorem psS_spec {a b m d t : Int} {s : ByteArray} (h : psS s = some (a, b, m, d, t)) : tk5 a b m d t = true ∧ nText [a, b, m, d, t] = s := by
  unfold psS at h
  split at h
  · split at h
    · cases h
    · split at h
      · rename_i hh
        injection h with h
        simp only [Prod.mk.injEq] at h
        obtain ⟨rfl, rfl, rfl, rfl, rfl⟩ := h
        exact ⟨hh.1, bytes_ext hh.2⟩
      · cases h
  · cases h
theorem ps_eq (s : ByteArray) : psS s = psI s := by
  cases h : psI s with
  | some p =>
    obtain ⟨a, b, m, d, t⟩ := p
    exact psS_some (psI_spec h).1 (psI_spec h).2
  | none =>
    cases h2 : psS s with
    | none => rfl
    | some p =>
      obtain ⟨a, b, m, d, t⟩ := p
      rw [psI_some (psS_spec h2).1 (psS_spec h2).2] at h
      cases h
theorem ps_long {s : ByteArray} (h : 40 < s.size) : psI s = none := by
  cases hp : psI s with
  | none => rfl
  | some p =>
    obtain ⟨a, b, m, d, t⟩ := p
    obtain ⟨h6, h7⟩ := psI_spec hp
    obtain ⟨h1, h2, h3, h4, h5⟩ := tk5_small h6
    have e : (nText [a, b, m, d, t]).data.toList = Lib.itoa a ++ 32 :: (Lib.itoa b ++ 32 :: (Lib.itoa m ++ 32 :: (Lib.itoa d ++ 32 :: Lib.itoa t))) := by
      unfold nText itS
      simp [Lib.join, List.intercalate]
    have l1 := itoa_len (n := a) 3 (by omega)
    have l2 := itoa_len (n := b) 4 (by omega)
    have l3 := itoa_len (n := m) 2 (by omega)
    have l4 := itoa_len (n := d) 1 (by omega)
    have l5 := itoa_len (n := t) 3 (by omega)
    have e2 := congrArg List.length e
    simp only [List.length_append, List.length_cons] at e2
    have e3 : (nText [a, b, m, d, t]).data.toList.length = (nText [a, b, m, d, t]).size := rfl
    rw [h7] at e3 e2
    omega
/-- What both hand back. -/
def psV (s : ByteArray) : Int × Int × Int × Int × Int × List Pt × Bool := match psI s with | some (a, b, m, d, t) => (a, b, m, d, t, hitsZ a b m 0 t, true) | none => zeroT
theorem psV_none {s : ByteArray} (h : psI s = none) : psV s = zeroT := by unfold psV; rw [h]
theorem psV_some {s : ByteArray} {a b m d t : Int} (h : psI s = some (a, b, m, d, t)) : psV s = (a, b, m, d, t, hitsZ a b m 0 t, true) := by unfold psV; rw [h]
end Go.Proofs.YticbmpjdcanjkaaGreatDoor
