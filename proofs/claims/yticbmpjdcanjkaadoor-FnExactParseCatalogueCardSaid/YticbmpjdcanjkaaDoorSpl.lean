/- Plain laws under the reference's readers: a text parted at a byte, numerals read, a curve's text read. Conditions: none. -/
import Derived.Test.YticbmpjdcanjkaaDoorJrL
namespace Go.Proofs.YticbmpjdcanjkaaDoor
open Go Go.RowKit

/-! ### A text parted at a byte -/
def spl (b : UInt8) : List UInt8 → List (List UInt8)
  | [] => [[]]
  | c :: l => if c = b then [] :: spl b l else match spl b l with
    | [] => [[c]]
    | x :: r => (c :: x) :: r
theorem spl_ne (b : UInt8) (l : List UInt8) : spl b l ≠ [] := by
  cases l with
  | nil => simp [spl]
  | cons c l =>
    unfold spl
    split
    · simp
    · split <;> simp
theorem spl_none (b : UInt8) : ∀ w : List UInt8, b ∉ w → spl b w = [w]
  | [], _ => rfl
  | c :: l, h => by
    have hne : c ≠ b := fun e => h (by simp [e])
    unfold spl
    rw [if_neg hne, spl_none b l (fun h2 => h (by simp [h2]))]
theorem spl_here (b : UInt8) (r : List UInt8) : ∀ w : List UInt8, b ∉ w → spl b (w ++ b :: r) = w :: spl b r
  | [], _ => by
    rw [List.nil_append]
    conv => lhs; unfold spl
    rw [if_pos rfl]
  | c :: l, h => by
    have hne : c ≠ b := fun e => h (by simp [e])
    rw [List.cons_append]
    conv => lhs; unfold spl
    rw [if_neg hne, spl_here b r l (fun h2 => h (by simp [h2]))]
theorem spl_join (b : UInt8) : ∀ (r : List (List UInt8)) (x : List UInt8), (∀ w ∈ x :: r, b ∉ w) → spl b (Lib.join (x :: r) [b]) = x :: r
  | [], x, h => by rw [Lib.join_one]; exact spl_none b x (h x (by simp))
  | y :: r, x, h => by
    rw [join2, spl_here b _ x (h x (by simp)), spl_join b r y (fun w hw => h w (by simp at hw ⊢; exact Or.inr hw))]
theorem spl_len (b : UInt8) : ∀ l : List UInt8, (spl b l).length ≤ l.length + 1
  | [] => Nat.le_refl _
  | c :: l => by
    have := spl_len b l
    unfold spl
    split
    · simp only [List.length_cons]; omega
    · split
      · simp
      · rename_i h; rw [h] at this; simp only [List.length_cons] at this ⊢; omega
theorem spl_mem (b : UInt8) : ∀ l : List UInt8, ∀ x ∈ spl b l, x.length ≤ l.length
  | [], x, h => by simp [spl] at h; rw [h]; exact Nat.le_refl _
  | c :: l, x, h => by
    have ih := spl_mem b l
    unfold spl at h
    split at h
    · rcases List.mem_cons.1 h with rfl | h
      · simp
      · have := ih x h; simp only [List.length_cons]; omega
    · split at h
      · simp at h; rw [h]; simp
      · rename_i y r hy
        rcases List.mem_cons.1 h with rfl | h
        · have := ih y (by rw [hy]; simp); simp only [List.length_cons]; omega
        · have := ih x (by rw [hy]; simp [h]); simp only [List.length_cons]; omega

/-! ### Numerals read -/
def rdD : List UInt8 → Int → Int
  | [], acc => acc
  | c :: l, acc => if c < 48 ∨ 57 < c then -1 else rdD l (10 * acc + (c.toNat : Int) - 48)
def rdN (l : List UInt8) : Int := if ¬ (1 ≤ l.length ∧ l.length ≤ 6) ∨ (l[0]? = some 48 ∧ 1 < l.length) then -1 else rdD l 0
def sgN (l : List UInt8) : Int := if l[0]? = some 45 then (if rdN (l.drop 1) < 0 then 100000 else -(rdN (l.drop 1))) else (if rdN l < 0 then 100000 else rdN l)
theorem rdD_bd : ∀ (l : List UInt8) (acc : Int) (n : Nat), 0 ≤ acc → acc < 10 ^ n → -1 ≤ rdD l acc ∧ rdD l acc < 10 ^ (n + l.length)
  | [], acc, n, h0, h1 => ⟨by show -1 ≤ acc; omega, h1⟩
  | c :: l, acc, n, h0, h1 => by
    unfold rdD
    split
    · refine ⟨by omega, ?_⟩
      have : (0 : Int) < 10 ^ (n + (c :: l).length) := Int.pow_pos (by omega)
      omega
    · rename_i hc
      have h2 : 48 ≤ c.toNat ∧ c.toNat ≤ 57 := by
        constructor
        · rcases Nat.lt_or_ge c.toNat 48 with h | h
          · exact absurd (Or.inl (by rw [UInt8.lt_iff_toNat_lt]; exact h)) hc
          · exact h
        · rcases Nat.lt_or_ge 57 c.toNat with h | h
          · exact absurd (Or.inr (by rw [UInt8.lt_iff_toNat_lt]; exact h)) hc
          · exact h
      have h3 := rdD_bd l (10 * acc + (c.toNat : Int) - 48) (n + 1) (by omega) (by rw [Int.pow_succ]; omega)
      rw [List.length_cons, show n + (l.length + 1) = n + 1 + l.length by omega]
      exact h3
theorem rdN_bd (l : List UInt8) : -1 ≤ rdN l ∧ rdN l ≤ 999999 := by
  unfold rdN
  split
  · omega
  · rename_i h
    have hl : l.length ≤ 6 := by
      rcases Nat.lt_or_ge 6 l.length with h2 | h2
      · exact absurd (Or.inl (by omega)) h
      · exact h2
    have h1 := rdD_bd l 0 0 (by omega) (by decide)
    have h2 : (10 : Int) ^ (0 + l.length) ≤ 10 ^ 6 := by
      rw [Nat.zero_add]
      match l.length, hl with
      | 0, _ => decide
      | 1, _ => decide
      | 2, _ => decide
      | 3, _ => decide
      | 4, _ => decide
      | 5, _ => decide
      | 6, _ => decide
    have h3 : (10 : Int) ^ 6 = 1000000 := by decide
    omega
theorem sgN_bd (l : List UInt8) : -999999 ≤ sgN l ∧ sgN l ≤ 999999 := by
  have h1 := rdN_bd l; have h2 := rdN_bd (l.drop 1)
  unfold sgN
  split <;> split <;> omega
theorem rdD_dec : ∀ (l : List UInt8) (acc x : Nat), Lib.decFrom acc l = some x → rdD l acc = x
  | [], acc, x, h => by
    simp only [Lib.decFrom] at h
    injection h with h
    rw [h]; rfl
  | c :: l, acc, x, h => by
    rw [Lib.decFrom] at h
    cases hd : Lib.digitVal c with
    | none => rw [hd] at h; cases h
    | some d =>
      rw [hd] at h
      have hd2 : 48 ≤ c.toNat ∧ c.toNat ≤ 57 ∧ d = c.toNat - 48 := by
        unfold Lib.digitVal at hd
        split at hd
        · rename_i hh
          injection hd with hd
          exact ⟨by omega, by omega, by omega⟩
        · cases hd
      unfold rdD
      rw [if_neg (by rw [UInt8.lt_iff_toNat_lt, UInt8.lt_iff_toNat_lt]; show ¬ (c.toNat < 48 ∨ 57 < c.toNat); omega)]
      have h3 := rdD_dec l _ x h
      rw [← h3]
      congr 1
      omega
theorem digits_head (n : Nat) : ∀ r, Lib.decDigits n = 48 :: r → r = [] := by
  induction n using Nat.strongRecOn with
  | ind n ih =>
    intro r h
    by_cases h1 : n < 10
    · rw [Lib.decDigits_one h1] at h
      injection h with _ h
      exact h.symm
    · rw [Lib.decDigits, dif_neg h1] at h
      cases hq : Lib.decDigits (n / 10) with
      | nil => exact absurd hq (digits_ne _)
      | cons c q =>
        rw [hq] at h
        injection h with hc hr
        subst hc
        have hq0 := ih (n / 10) (by omega) q hq
        subst hq0
        have hv := decFrom_digits (n / 10)
        rw [hq] at hv
        have h0 : Lib.decFrom 0 [48] = some 0 := by decide
        rw [h0] at hv
        injection hv with hv
        omega
theorem rdN_digits (n : Nat) (h : n < 1000000) : rdN (Lib.decDigits n) = n := by
  unfold rdN
  have hl := digits_len 5 n (by omega)
  have hne := digits_ne n
  rw [if_neg]
  · exact rdD_dec _ 0 n (decFrom_digits n)
  · rintro (h1 | ⟨h1, h2⟩)
    · apply h1
      have : 0 < (Lib.decDigits n).length := List.length_pos_iff.2 hne
      omega
    · cases hq : Lib.decDigits n with
      | nil => exact hne hq
      | cons c q =>
        rw [hq] at h1 h2
        simp only [List.getElem?_cons_zero, Option.some.injEq] at h1
        subst h1
        have := digits_head n q hq
        subst this
        simp at h2
theorem rdN_itoa {n : Int} (h0 : 0 ≤ n) (h : n < 1000000) : rdN (Lib.itoa n) = n := by
  unfold Lib.itoa
  rw [if_neg (by omega), rdN_digits _ (by omega)]
  omega
theorem sgN_itoa {n : Int} (h0 : -1000000 < n) (h : n < 1000000) : sgN (Lib.itoa n) = n := by
  by_cases hn : n < 0
  · have e : Lib.itoa n = 45 :: Lib.decDigits n.natAbs := by unfold Lib.itoa; rw [if_pos hn]
    unfold sgN
    rw [e]
    simp only [List.getElem?_cons_zero, if_pos, List.drop_succ_cons, List.drop_zero]
    rw [rdN_digits _ (by omega), if_neg (by omega)]
    omega
  · have e : Lib.itoa n = Lib.decDigits n.toNat := by unfold Lib.itoa; rw [if_neg hn]
    have h1 : ¬ (Lib.itoa n)[0]? = some 45 := by
      rw [e]
      intro h2
      cases hq : Lib.decDigits n.toNat with
      | nil => exact digits_ne _ hq
      | cons c q =>
        rw [hq] at h2
        simp only [List.getElem?_cons_zero, Option.some.injEq] at h2
        have := digits_byte n.toNat c (by rw [hq]; simp)
        subst h2
        revert this; decide
    unfold sgN
    rw [if_neg h1, rdN_itoa (by omega) h, if_neg (by omega)]

/-! ### A curve's text read -/
def paC (s : List UInt8) : Option (Int × Int) :=
  match spl 32 s with
  | [x, y] => if curveB (sgN x) (sgN y) = true ∧ (nText [sgN x, sgN y]).data.toList = s then some (sgN x, sgN y) else none
  | _ => none
theorem itoa_no32 (n : Int) : (32 : UInt8) ∉ Lib.itoa n := fun h => by
  have := itoa_byte n 32 h
  revert this; decide
theorem nTextD (a b : Int) : (nText [a, b]).data.toList = Lib.itoa a ++ 32 :: Lib.itoa b := by
  unfold nText itS
  simp [Lib.join, List.intercalate]
theorem paC_text {a b : Int} (h : curveB a b = true) : paC (nText [a, b]).data.toList = some (a, b) := by
  obtain ⟨h1, h2⟩ := curveB_bd h
  unfold paC
  rw [nTextD, spl_here 32 _ _ (itoa_no32 a), spl_none 32 _ (itoa_no32 b)]
  simp only
  rw [sgN_itoa (by omega) (by omega), sgN_itoa (by omega) (by omega), if_pos ⟨h, nTextD a b⟩]
theorem paC_spec {s : List UInt8} {a b : Int} (h : paC s = some (a, b)) : curveB a b = true ∧ (nText [a, b]).data.toList = s := by
  unfold paC at h
  split at h
  · split at h
    · rename_i hh
      injection h with h
      injection h with ha hb
      subst ha; subst hb
      exact hh
    · cases h
  · cases h
theorem nText2_len {a b : Int} (h : curveB a b = true) : (nText [a, b]).data.toList.length ≤ 12 := by
  obtain ⟨h1, h2⟩ := curveB_bd h
  rw [nTextD]
  have l2 := itoa_len (n := a) 3 (by omega)
  have l3 := itoa_len (n := b) 4 (by omega)
  rw [List.length_append, List.length_cons]
  omega
theorem paC_long {s : List UInt8} (h : 12 < s.length) : paC s = none := by
  cases hp : paC s with
  | none => rfl
  | some p =>
    have h1 := paC_spec (a := p.1) (b := p.2) hp
    have h2 := nText2_len h1.1
    rw [h1.2] at h2
    omega

/-! ### The reference's way to read a record's line -/
/-- The words ahead of the mark. -/
def jwS (s : List UInt8) : List (List UInt8) := spl 32 ((spl 35 s).headD [])
theorem line_data (k a b lo hi : Int) : (lineS k a b lo hi).data.toList = (nText [k, a, b, lo, hi]).data.toList ++ 35 :: ((itS (sumL (nText [k, a, b, lo, hi]).data.toList)).data.toList ++ [10]) := by
  unfold lineS
  simp
theorem line_cut {s : List UInt8} {k a b lo hi : Int} (h : (lineS k a b lo hi).data.toList = s ++ [10]) : s = (nText [k, a, b, lo, hi]).data.toList ++ 35 :: (itS (sumL (nText [k, a, b, lo, hi]).data.toList)).data.toList := by
  rw [line_data, ← List.cons_append, ← List.append_assoc] at h
  exact (List.append_cancel_right h).symm
theorem line_jw {s : List UInt8} {k a b lo hi : Int} (h : (lineS k a b lo hi).data.toList = s ++ [10]) : jwS s = [Lib.itoa k, Lib.itoa a, Lib.itoa b, Lib.itoa lo, Lib.itoa hi] := by
  have h1 := line_cut h
  unfold jwS
  rw [h1, spl_here 35 _ _ (no35 _)]
  show spl 32 (nText [k, a, b, lo, hi]).data.toList = _
  have hd : (nText [k, a, b, lo, hi]).data.toList = Lib.join [Lib.itoa k, Lib.itoa a, Lib.itoa b, Lib.itoa lo, Lib.itoa hi] [32] := rfl
  rw [hd]
  refine spl_join 32 _ _ (fun w hw => ?_)
  simp only [List.mem_cons, List.not_mem_nil, or_false] at hw
  rcases hw with rfl | rfl | rfl | rfl | rfl <;> exact itoa_no32 _
def rdS (k : Int) (s : List UInt8) : Option Rc :=
  match jwS s with
  | [_, a, b, lo, hi] => match paC (a ++ 32 :: b) with
    | none => none
    | some (x, y) => if recB x y (rdN lo) (rdN hi) = true ∧ (lineS k x y (rdN lo) (rdN hi)).data.toList = s ++ [10] then some ⟨x, y, rdN lo, rdN hi⟩ else none
  | _ => none
theorem recB_curve {a b lo hi : Int} (h : recB a b lo hi = true) : curveB a b = true := by
  unfold recB at h
  simp only [Bool.and_eq_true] at h
  exact h.1
theorem rdS_some {k : Int} {s : List UInt8} {r : Rc} (hk : 0 ≤ k ∧ k ≤ 29) (h : r.ok = true) (hl : (r.line k).data.toList = s ++ [10]) : rdS k s = some r := by
  have h1 := line_jw (k := k) hl
  have hb := recB_bd h hk
  have h4 := hb.lo; have h5 := hb.hi
  unfold rdS
  rw [h1]
  simp only
  rw [← nTextD, paC_text (recB_curve h)]
  simp only
  rw [rdN_itoa (by omega) (by omega), rdN_itoa (by omega) (by omega), if_pos ⟨h, hl⟩]
theorem rdS_spec {k : Int} {s : List UInt8} {r : Rc} (h : rdS k s = some r) : r.ok = true ∧ (r.line k).data.toList = s ++ [10] := by
  unfold rdS at h
  split at h
  · split at h
    · cases h
    · split at h
      · rename_i hh
        injection h with h
        subst h
        exact hh
      · cases h
  · cases h
/-- Both read the same. -/
theorem rdS_eq {k : Int} (hk : 0 ≤ k ∧ k ≤ 29) (s : List UInt8) : rdS k s = rdL k ⟨(s ++ [10]).toArray⟩ := by
  cases h : rdS k s with
  | some r =>
    obtain ⟨h1, h2⟩ := rdS_spec h
    exact (rdL_some h1 hk (bytes_ext (by rw [h2]))).symm
  | none =>
    cases h3 : rdL k ⟨(s ++ [10]).toArray⟩ with
    | none => rfl
    | some r =>
      obtain ⟨h1, h2⟩ := rdL_spec h3
      rw [rdS_some hk h1 (by rw [h2])] at h
      cases h
end Go.Proofs.YticbmpjdcanjkaaDoor
