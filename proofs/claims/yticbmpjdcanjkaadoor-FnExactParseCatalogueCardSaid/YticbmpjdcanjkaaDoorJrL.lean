/- Plain laws of a journal's text: the records at the beginning of a text, and how many bytes they have. Conditions: none. -/
import Derived.Test.YticbmpjdcanjkaaDoorRead
import Derived.Lib.Bytealg
namespace Go.Proofs.YticbmpjdcanjkaaDoor
open Go Go.RowKit

structure Rc where
  a : Int
  b : Int
  lo : Int
  hi : Int
  deriving DecidableEq
def rcS : Shape Rc := ⟨4, fun e j => match j with | 0 => .int .i64 e.a | 1 => .int .i64 e.b | 2 => .int .i64 e.lo | _ => .int .i64 e.hi, ⟨0, 0, 0, 0⟩⟩
def Rc.agg (r : Rc) : Value := .agg #[.int .i64 r.a, .int .i64 r.b, .int .i64 r.lo, .int .i64 r.hi]
def Rc.ok (r : Rc) : Bool := recB r.a r.b r.lo r.hi
def Rc.line (k : Int) (r : Rc) : ByteArray := lineS k r.a r.b r.lo r.hi

/-- The record of a line with a number, if there is one. -/
def rdL (k : Int) (line : ByteArray) : Option Rc :=
  match (jrW line).map (fun s => Lib.atoiAll s.data.toList) with
  | [.ok _, .ok a, .ok b, .ok lo, .ok hi] => if recB a b lo hi = true ∧ (lineS k a b lo hi).data.toList = line.data.toList then some ⟨a, b, lo, hi⟩ else none
  | _ => none
theorem bytes_ext {a b : ByteArray} (h : a.data.toList = b.data.toList) : a = b := by
  obtain ⟨⟨a⟩⟩ := a; obtain ⟨⟨b⟩⟩ := b
  exact congrArg (fun l => ByteArray.mk ⟨l⟩) h
theorem rdL_some {k : Int} {line : ByteArray} {r : Rc} (h : r.ok = true) (hk : 0 ≤ k ∧ k ≤ 29) (hl : r.line k = line) : rdL k line = some r := by
  have h1 := rec_words h hk hl
  unfold okNums at h1
  unfold rdL
  rw [h1]
  simp only [List.map_cons, List.map_nil]
  rw [if_pos ⟨h, by rw [← hl]; rfl⟩]
theorem rdL_spec {k : Int} {line : ByteArray} {r : Rc} (h : rdL k line = some r) : r.ok = true ∧ r.line k = line := by
  unfold rdL at h
  split at h
  · split at h
    · rename_i hh
      injection h with h
      subst h
      exact ⟨hh.1, bytes_ext hh.2⟩
    · cases h
  · cases h
theorem RdP.cases {k : Int} {line : ByteArray} {e : Ending} (hk : 0 ≤ k ∧ k ≤ 29) (h : RdP k line e) :
    (∃ r : Rc, rdL k line = some r ∧ r.ok = true ∧ r.line k = line ∧ e = .returned (.tuple #[.agg #[.int .i64 r.a, .int .i64 r.b, .int .i64 r.lo, .int .i64 r.hi], .bool true])) ∨
    (rdL k line = none ∧ ∃ a b lo hi : Int, e = .returned (.tuple #[.agg #[.int .i64 a, .int .i64 b, .int .i64 lo, .int .i64 hi], .bool false])) := by
  rcases h with ⟨a, b, lo, hi, h1, h2, rfl⟩ | ⟨h1, a, b, lo, hi, rfl⟩
  · exact Or.inl ⟨⟨a, b, lo, hi⟩, rdL_some (r := ⟨a, b, lo, hi⟩) h1 hk h2, h1, h2, rfl⟩
  · refine Or.inr ⟨?_, a, b, lo, hi, rfl⟩
    cases hr : rdL k line with
    | none => rfl
    | some r => exact absurd (rdL_spec hr).2 (h1 _ _ _ _ (rdL_spec hr).1)

/-! ### The first newline -/
theorem ixb_app : ∀ (l p : List UInt8) (c : UInt8), 0 ≤ Lib.indexByte l c → Lib.indexByte (l ++ p) c = Lib.indexByte l c
  | [], _, _, h => absurd (show (0 : Int) ≤ -1 from h) (by decide)
  | b :: l, p, c, h => by
    rw [List.cons_append]
    unfold Lib.indexByte at h ⊢
    by_cases hb : (b == c) = true
    · rw [if_pos hb, if_pos hb]
    · rw [if_neg hb] at h ⊢
      rw [if_neg hb]
      by_cases h2 : (Lib.indexByte l c == -1) = true
      · rw [if_pos h2] at h
        exact absurd h (by decide)
      · rw [if_neg h2]
        have hge := Lib.indexByte_ge l c
        have hne : Lib.indexByte l c ≠ -1 := fun e => h2 (by rw [e]; rfl)
        rw [ixb_app l p c (by omega), if_neg h2]
theorem ixb_lt : ∀ (l : List UInt8) (c : UInt8), 0 ≤ Lib.indexByte l c → (Lib.indexByte l c).toNat < l.length
  | [], _, h => absurd (show (0 : Int) ≤ -1 from h) (by decide)
  | b :: l, c, h => by
    unfold Lib.indexByte at h ⊢
    by_cases hb : (b == c) = true
    · rw [if_pos hb]; simp
    · rw [if_neg hb] at h ⊢
      by_cases h2 : (Lib.indexByte l c == -1) = true
      · rw [if_pos h2] at h
        exact absurd h (by decide)
      · rw [if_neg h2]
        have hge := Lib.indexByte_ge l c
        have hne : Lib.indexByte l c ≠ -1 := fun e => h2 (by rw [e]; rfl)
        have := ixb_lt l c (by omega)
        rw [List.length_cons]
        omega

/-! ### The records at the beginning of a text -/
def openF : Nat → Int → List UInt8 → List Rc × Nat
  | 0, _, _ => ([], 0)
  | F + 1, k, l =>
    if Lib.indexByte l 10 < 0 then ([], 0) else
      match rdL k ⟨(l.take ((Lib.indexByte l 10).toNat + 1)).toArray⟩ with
      | none => ([], 0)
      | some r => (r :: (openF F (k + 1) (l.drop ((Lib.indexByte l 10).toNat + 1))).1, (Lib.indexByte l 10).toNat + 1 + (openF F (k + 1) (l.drop ((Lib.indexByte l 10).toNat + 1))).2)
theorem openF_zero (k : Int) (l : List UInt8) : openF 0 k l = ([], 0) := rfl
theorem openF_none {F : Nat} {k : Int} {l : List UInt8} (h : Lib.indexByte l 10 < 0) : openF F k l = ([], 0) := by
  cases F with
  | zero => rfl
  | succ F => unfold openF; rw [if_pos h]
theorem openF_bad {F : Nat} {k : Int} {l : List UInt8} (h : rdL k ⟨(l.take ((Lib.indexByte l 10).toNat + 1)).toArray⟩ = none) : openF F k l = ([], 0) := by
  cases F with
  | zero => rfl
  | succ F =>
    unfold openF
    split
    · rfl
    · rw [h]
theorem openF_step {F : Nat} {k : Int} {l : List UInt8} {r : Rc} (h0 : 0 ≤ Lib.indexByte l 10) (h : rdL k ⟨(l.take ((Lib.indexByte l 10).toNat + 1)).toArray⟩ = some r) :
    openF (F + 1) k l = (r :: (openF F (k + 1) (l.drop ((Lib.indexByte l 10).toNat + 1))).1, (Lib.indexByte l 10).toNat + 1 + (openF F (k + 1) (l.drop ((Lib.indexByte l 10).toNat + 1))).2) := by
  rw [openF, if_neg (by omega), h]
/-- The two ways. -/
theorem openF_cases (F : Nat) (k : Int) (l : List UInt8) : openF F k l = ([], 0) ∨
    ∃ G r, F = G + 1 ∧ 0 ≤ Lib.indexByte l 10 ∧ rdL k ⟨(l.take ((Lib.indexByte l 10).toNat + 1)).toArray⟩ = some r ∧
      openF F k l = (r :: (openF G (k + 1) (l.drop ((Lib.indexByte l 10).toNat + 1))).1, (Lib.indexByte l 10).toNat + 1 + (openF G (k + 1) (l.drop ((Lib.indexByte l 10).toNat + 1))).2) := by
  cases F with
  | zero => exact Or.inl rfl
  | succ G =>
    by_cases h0 : Lib.indexByte l 10 < 0
    · exact Or.inl (openF_none h0)
    · cases h : rdL k ⟨(l.take ((Lib.indexByte l 10).toNat + 1)).toArray⟩ with
      | none => exact Or.inl (openF_bad h)
      | some r => exact Or.inr ⟨G, r, rfl, by omega, by first | rfl | exact h, openF_step (by omega) h⟩
theorem openF_le : ∀ (F : Nat) (k : Int) (l : List UInt8), (openF F k l).1.length ≤ F ∧ (openF F k l).2 ≤ l.length := by
  intro F
  induction F with
  | zero => exact fun k l => ⟨Nat.le_refl _, Nat.zero_le _⟩
  | succ F ih =>
    intro k l
    rcases openF_cases (F + 1) k l with h | ⟨G, r, hG, h0, -, h⟩
    · rw [h]; exact ⟨Nat.zero_le _, Nat.zero_le _⟩
    · obtain rfl : F = G := by omega
      have h2 := ih (k + 1) (l.drop ((Lib.indexByte l 10).toNat + 1))
      have h3 := ixb_lt l 10 h0
      rw [h]
      rw [List.length_drop] at h2
      exact ⟨by rw [List.length_cons]; omega, by show (Lib.indexByte l 10).toNat + 1 + _ ≤ _; omega⟩
theorem openF_ok : ∀ (F : Nat) (k : Int) (l : List UInt8), ∀ r ∈ (openF F k l).1, r.ok = true := by
  intro F
  induction F with
  | zero => exact fun k l r h => by cases h
  | succ F ih =>
    intro k l r hr
    rcases openF_cases (F + 1) k l with h | ⟨G, r', hG, h0, hr', h⟩
    · rw [h] at hr; cases hr
    · obtain rfl : F = G := by omega
      rw [h] at hr
      rcases List.mem_cons.1 hr with rfl | hr
      · exact (rdL_spec hr').1
      · exact ih _ _ r hr
/-- What all of a text is made of goes ahead of any other text. -/
theorem openF_app : ∀ (F : Nat) (k : Int) (D P : List UInt8), (openF F k D).2 = D.length →
    openF F k (D ++ P) = ((openF F k D).1 ++ (openF (F - (openF F k D).1.length) (k + (openF F k D).1.length) P).1, D.length + (openF (F - (openF F k D).1.length) (k + (openF F k D).1.length) P).2) := by
  intro F
  induction F with
  | zero =>
    intro k D P h
    obtain rfl : D = [] := List.eq_nil_of_length_eq_zero h.symm
    rfl
  | succ F ih =>
    intro k D P h
    rcases openF_cases (F + 1) k D with hc | ⟨G, r, hG, h0, hr, hc⟩
    · rw [hc] at h
      obtain rfl : D = [] := List.eq_nil_of_length_eq_zero h.symm
      rw [hc, List.nil_append]
      simp
    · obtain rfl : F = G := by omega
      have h3 := ixb_lt D 10 h0
      have hx := ixb_app D P 10 h0
      rw [hc] at h
      have h' : (openF F (k + 1) (D.drop ((Lib.indexByte D 10).toNat + 1))).2 = (D.drop ((Lib.indexByte D 10).toNat + 1)).length := by
        rw [List.length_drop]
        simp only at h
        omega
      have h4 := ih (k + 1) (D.drop ((Lib.indexByte D 10).toNat + 1)) P h'
      have ht : (D ++ P).take ((Lib.indexByte (D ++ P) 10).toNat + 1) = D.take ((Lib.indexByte D 10).toNat + 1) := by
        rw [hx, List.take_append_of_le_length (by omega)]
      have hd : (D ++ P).drop ((Lib.indexByte (D ++ P) 10).toNat + 1) = D.drop ((Lib.indexByte D 10).toNat + 1) ++ P := by
        rw [hx, List.drop_append_of_le_length (by omega)]
      rw [openF_step (by rw [hx]; exact h0) (by rw [ht]; exact hr), hd, h4, hc, hx]
      have e5 : ∀ n : Nat, k + ((n + 1 : Nat) : Int) = k + 1 + (n : Int) := fun n => by omega
      simp only [List.length_cons, List.cons_append, e5]
      rw [show F + 1 - ((openF F (k + 1) (D.drop ((Lib.indexByte D 10).toNat + 1))).1.length + 1) = F - (openF F (k + 1) (D.drop ((Lib.indexByte D 10).toNat + 1))).1.length by omega]
      rw [List.length_drop]
      simp only [Prod.mk.injEq, true_and]
      omega

/-! ### How long a line is -/
theorem line_len {k : Int} {r : Rc} (h : r.ok = true) (hk : 0 ≤ k ∧ k ≤ 29) : (r.line k).size ≤ 40 := by
  have hb := recB_bd h hk
  have e : (r.line k).data.toList = Lib.itoa k ++ 32 :: (Lib.itoa r.a ++ 32 :: (Lib.itoa r.b ++ 32 :: (Lib.itoa r.lo ++ 32 :: (Lib.itoa r.hi ++ 35 :: (Lib.itoa (sumL (nText [k, r.a, r.b, r.lo, r.hi]).data.toList) ++ [10]))))) := by
    unfold Rc.line lineS nText itS
    simp [Lib.join, List.intercalate]
  have h2 := hb.a; have h3 := hb.b; have h4 := hb.lo; have h5 := hb.hi
  have h6 := sumL_bd (nText [k, r.a, r.b, r.lo, r.hi]).data.toList
  have l1 := itoa_len (n := k) 1 (by omega)
  have l2 := itoa_len (n := r.a) 3 (by omega)
  have l3 := itoa_len (n := r.b) 4 (by omega)
  have l4 := itoa_len (n := r.lo) 1 (by omega)
  have l5 := itoa_len (n := r.hi) 1 (by omega)
  have l6 := itoa_len (n := sumL (nText [k, r.a, r.b, r.lo, r.hi]).data.toList) 6 (by omega)
  have e2 := congrArg List.length e
  simp only [List.length_append, List.length_cons, List.length_nil] at e2
  have e3 : (r.line k).data.toList.length = (r.line k).size := rfl
  omega
theorem openF_size : ∀ (F : Nat) (k : Int) (l : List UInt8), 0 ≤ k → k + F ≤ 30 → (openF F k l).2 ≤ 40 * (openF F k l).1.length := by
  intro F
  induction F with
  | zero => exact fun k l _ _ => Nat.le_refl _
  | succ F ih =>
    intro k l hk hF
    rcases openF_cases (F + 1) k l with h | ⟨G, r, hG, h0, hr, h⟩
    · rw [h]; exact Nat.zero_le _
    · obtain rfl : F = G := by omega
      have h2 := ih (k + 1) (l.drop ((Lib.indexByte l 10).toNat + 1)) (by omega) (by omega)
      have h3 := ixb_lt l 10 h0
      have h4 := line_len (rdL_spec hr).1 (k := k) (by omega)
      rw [(rdL_spec hr).2] at h4
      have h5 : (⟨(l.take ((Lib.indexByte l 10).toNat + 1)).toArray⟩ : ByteArray).size = (Lib.indexByte l 10).toNat + 1 := by
        show (l.take ((Lib.indexByte l 10).toNat + 1)).toArray.size = _
        rw [List.size_toArray, List.length_take]; omega
      rw [h]
      simp only [List.length_cons]
      omega

/-! ### Journals -/
def jrA (D : ByteArray) : List Rc × Nat := openF 30 0 D.data.toList
def jrN (D P : ByteArray) : List Rc × Nat := openF (30 - (jrA D).1.length) ((jrA D).1.length : Int) P.data.toList
/-- A journal is valid. -/
def jrOk (D P : ByteArray) : Bool := decide ((jrA D).2 = D.size ∧ (jrN D P).2 = P.size)
/-- Its records. -/
def jrRecs (D P : ByteArray) : List Rc := (jrA D).1 ++ (jrN D P).1
theorem jrA_le (D : ByteArray) : (jrA D).1.length ≤ 30 ∧ (jrA D).2 ≤ D.size := openF_le 30 0 D.data.toList
theorem jrN_le (D P : ByteArray) : (jrN D P).1.length ≤ 30 - (jrA D).1.length ∧ (jrN D P).2 ≤ P.size := openF_le _ _ P.data.toList
theorem jrRecs_len (D P : ByteArray) : (jrRecs D P).length ≤ 30 := by
  have h1 := jrA_le D; have h2 := jrN_le D P
  unfold jrRecs
  rw [List.length_append]; omega
theorem jrRecs_ok (D P : ByteArray) : ∀ r ∈ jrRecs D P, r.ok = true := by
  intro r hr
  rcases List.mem_append.1 hr with h | h
  · exact openF_ok _ _ _ r h
  · exact openF_ok _ _ _ r h
theorem jr_size {D P : ByteArray} (h : jrOk D P = true) : D.size + P.size ≤ 1200 := by
  unfold jrOk at h
  have h0 := of_decide_eq_true h
  have h1 := jrA_le D; have h2 := jrN_le D P
  have s1 : (jrA D).2 ≤ 40 * (jrA D).1.length := openF_size 30 0 D.data.toList (by omega) (by omega)
  have s2 : (jrN D P).2 ≤ 40 * (jrN D P).1.length := openF_size (30 - (jrA D).1.length) _ P.data.toList (by omega) (by omega)
  omega
theorem jr_both {D P : ByteArray} (h : (jrA D).2 = D.size) : jrA (D ++ P) = (jrRecs D P, D.size + (jrN D P).2) := by
  have h1 := openF_app 30 0 D.data.toList P.data.toList h
  have e : (D ++ P).data.toList = D.data.toList ++ P.data.toList := by simp
  unfold jrRecs jrN jrA at *
  rw [e, h1, Int.zero_add]
  rfl
/-- The reference's way to say it. -/
theorem jrOk_spec (D P : ByteArray) : jrOk D P = (decide (D.size ≤ 4000) && (decide (P.size ≤ 4000) && (decide ((D ++ P).size ≤ 4000) && (decide ((jrA (D ++ P)).2 = D.size + P.size) && decide ((jrA D).2 = D.size))))) := by
  rw [Bool.eq_iff_iff]
  simp only [Bool.and_eq_true, decide_eq_true_eq]
  rw [ByteArray.size_append]
  constructor
  · intro h
    have hs := jr_size h
    have h0 := of_decide_eq_true h
    refine ⟨by omega, by omega, by omega, ?_, h0.1⟩
    rw [jr_both h0.1]
    show D.size + _ = _
    rw [h0.2]
  · rintro ⟨-, -, -, h1, h2⟩
    rw [jr_both h2] at h1
    unfold jrOk
    refine decide_eq_true ⟨h2, ?_⟩
    simp only at h1
    omega
theorem jrRecs_spec {D P : ByteArray} (h : jrOk D P = true) : (jrA (D ++ P)).1 = jrRecs D P := by
  have h0 := of_decide_eq_true h
  rw [jr_both h0.1]
end Go.Proofs.YticbmpjdcanjkaaDoor
