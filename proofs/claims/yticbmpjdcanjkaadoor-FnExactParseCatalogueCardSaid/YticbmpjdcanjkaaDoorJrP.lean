/- Plain laws under the journal: numerals are read back; a text of words parted by a byte is parted into these words. Conditions: none. -/
import Derived.Test.YticbmpjdcanjkaaDoorSeal
import Derived.Lib.AtoiTie
import Derived.Lib.SplitLaws
namespace Go.Proofs.YticbmpjdcanjkaaDoor
open Go Go.RowKit

/-! ### Numerals read back -/
theorem decFrom_app : ∀ (a b : List UInt8) (acc x : Nat), Lib.decFrom acc a = some x → Lib.decFrom acc (a ++ b) = Lib.decFrom x b
  | [], b, acc, x, h => by
    rw [List.nil_append]
    simp only [Lib.decFrom] at h
    injection h with h
    rw [h]
  | c :: a, b, acc, x, h => by
    rw [List.cons_append]
    rw [Lib.decFrom] at h
    rw [Lib.decFrom]
    cases hd : Lib.digitVal c with
    | none => rw [hd] at h; cases h
    | some d => rw [hd] at h; exact decFrom_app a b _ x h
theorem digitVal_of {d : Nat} (h : d < 10) : Lib.digitVal (UInt8.ofNat (48 + d)) = some d := by
  have hb : (UInt8.ofNat (48 + d)).toNat = 48 + d := by simp; omega
  unfold Lib.digitVal
  rw [hb, if_pos (by omega), Nat.add_sub_cancel_left]
theorem decFrom_digits (n : Nat) : Lib.decFrom 0 (Lib.decDigits n) = some n := by
  induction n using Nat.strongRecOn with
  | ind n ih =>
    by_cases h : n < 10
    · rw [Lib.decDigits_one h]
      simp only [Lib.decFrom, digitVal_of h, Nat.zero_mul, Nat.zero_add]
    · rw [Lib.decDigits, dif_neg h, decFrom_app _ _ _ _ (ih (n / 10) (by omega))]
      simp only [Lib.decFrom, digitVal_of (Nat.mod_lt n (by omega : 10 > 0))]
      congr 1
      omega
theorem digits_len : ∀ (k n : Nat), n < 10 ^ (k + 1) → (Lib.decDigits n).length ≤ k + 1
  | 0, n, h => by rw [Lib.decDigits_one (by omega)]; simp
  | k + 1, n, h => by
    by_cases h1 : n < 10
    · rw [Lib.decDigits_one h1]; simp
    · rw [Lib.decDigits, dif_neg h1, List.length_append]
      have := digits_len k (n / 10) (by rw [Nat.pow_succ] at h; omega)
      simp only [List.length_cons, List.length_nil]
      omega
theorem digits_byte (n : Nat) : ∀ b ∈ Lib.decDigits n, 48 ≤ b.toNat ∧ b.toNat ≤ 57 := by
  induction n using Nat.strongRecOn with
  | ind n ih =>
    have key : ∀ d : Nat, d < 10 → (UInt8.ofNat (48 + d)).toNat = 48 + d := fun d hd => by simp; omega
    by_cases h : n < 10
    · rw [Lib.decDigits_one h]
      intro b hb
      have e : b = UInt8.ofNat (48 + n) := by simpa using hb
      rw [e, key n h]; omega
    · rw [Lib.decDigits, dif_neg h]
      intro b hb
      rcases List.mem_append.1 hb with hb | hb
      · exact ih (n / 10) (by omega) b hb
      · have e : b = UInt8.ofNat (48 + n % 10) := by simpa using hb
        rw [e, key _ (Nat.mod_lt n (by omega))]; omega
theorem digits_ne (n : Nat) : Lib.decDigits n ≠ [] := by
  by_cases h : n < 10
  · rw [Lib.decDigits_one h]; simp
  · rw [Lib.decDigits, dif_neg h]; simp
theorem decNat_digits (n : Nat) : Lib.decNat (Lib.decDigits n) = some n := by
  unfold Lib.decNat
  rw [if_neg (by simpa using digits_ne n), decFrom_digits]
theorem atoi_itoa (n : Int) : Lib.atoi (Lib.itoa n) = some n := by
  unfold Lib.itoa
  split
  · rename_i h
    show (if (45 : UInt8) == 45 then (Lib.decNat (Lib.decDigits n.natAbs)).map fun (m : Nat) => -(m : Int) else if (45 : UInt8) == 43 then (Lib.decNat (Lib.decDigits n.natAbs)).map fun (m : Nat) => (m : Int) else (Lib.decNat (45 :: Lib.decDigits n.natAbs)).map fun (m : Nat) => (m : Int)) = _
    rw [if_pos (by rfl), decNat_digits]
    simp only [Option.map_some]
    congr 1
    omega
  · rename_i h
    have hd := digits_byte n.toNat
    have hv := decNat_digits n.toNat
    have hne := digits_ne n.toNat
    generalize Lib.decDigits n.toNat = l at hd hv hne
    cases l with
    | nil => exact absurd rfl hne
    | cons b r =>
      have hb := hd b (by simp)
      show (if b == 45 then (Lib.decNat r).map fun (m : Nat) => -(m : Int) else if b == 43 then (Lib.decNat r).map fun (m : Nat) => (m : Int) else (Lib.decNat (b :: r)).map fun (m : Nat) => (m : Int)) = _
      rw [if_neg (by intro e; have := beq_iff_eq.1 e; subst this; exact absurd hb.1 (by decide)), if_neg (by intro e; have := beq_iff_eq.1 e; subst this; exact absurd hb.1 (by decide)), hv]
      simp only [Option.map_some]
      congr 1
      omega
theorem itoa_len {n : Int} (k : Nat) (h : n.natAbs < 10 ^ (k + 1)) : (Lib.itoa n).length ≤ k + 2 := by
  unfold Lib.itoa
  split
  · have := digits_len k n.natAbs h
    simp only [List.length_cons]; omega
  · have := digits_len k n.toNat (by omega)
    omega
theorem atoiAll_itS (n : Int) (h : n.natAbs < 10 ^ 15) : Lib.atoiAll (itS n).data.toList = .ok n := by
  have e : (itS n).data.toList = Lib.itoa n := rfl
  rw [e, Lib.atoiAll_short _ (by have := itoa_len (n := n) 14 h; omega), atoi_itoa]
  rfl
theorem itoa_byte (n : Int) : ∀ b ∈ Lib.itoa n, b.toNat = 45 ∨ 48 ≤ b.toNat ∧ b.toNat ≤ 57 := by
  unfold Lib.itoa
  split
  · intro b hb
    rcases List.mem_cons.1 hb with rfl | hb
    · exact Or.inl (by decide)
    · exact Or.inr (digits_byte _ b hb)
  · exact fun b hb => Or.inr (digits_byte _ b hb)

/-! ### Words parted by a byte -/
theorem ix_none (c : UInt8) : ∀ w : List UInt8, c ∉ w → Lib.index w [c] = -1
  | [], _ => rfl
  | b :: l, h => by
    have hne : c ≠ b := fun e => h (by simp [e])
    unfold Lib.index
    rw [if_neg (by simp [List.isPrefixOf, hne]), ix_none c l (fun h2 => h (by simp [h2]))]
    rfl
theorem ix_here (c : UInt8) (r : List UInt8) : ∀ w : List UInt8, c ∉ w → Lib.index (w ++ c :: r) [c] = w.length
  | [], _ => by
    rw [List.nil_append]
    unfold Lib.index
    rw [if_pos (by simp [List.isPrefixOf])]
    rfl
  | b :: l, h => by
    have hne : c ≠ b := fun e => h (by simp [e])
    rw [List.cons_append]
    unfold Lib.index
    rw [if_neg (by simp [List.isPrefixOf, hne]), ix_here c r l (fun h2 => h (by simp [h2]))]
    rw [if_neg (by intro e; have := beq_iff_eq.1 e; omega)]
    simp
theorem cut_here (c : UInt8) (w r : List UInt8) (h : c ∉ w) : (Lib.cut (w ++ c :: r) [c]).1 = w := by
  unfold Lib.cut
  rw [ix_here c r w h, if_pos (by omega)]
  simp
theorem join2 (c : UInt8) (x y : List UInt8) (r : List (List UInt8)) : Lib.join (x :: y :: r) [c] = x ++ c :: Lib.join (y :: r) [c] := by
  rw [Lib.join_cons, Lib.join_cons]
  simp [Lib.joinTail]
theorem splitK_join (c : UInt8) : ∀ (r : List (List UInt8)) (x : List UInt8), (∀ w ∈ x :: r, c ∉ w) → Lib.splitK [c] 0 r.length (Lib.join (x :: r) [c]) = x :: r
  | [], x, _ => by rw [Lib.join_one]; rfl
  | y :: r, x, h => by
    have ih := splitK_join c r y (fun w hw => h w (by simp at hw ⊢; exact Or.inr hw))
    rw [join2, List.length_cons]
    unfold Lib.splitK
    rw [ix_here c _ x (h x (by simp)), if_neg (by intro e; have := beq_iff_eq.1 e; omega)]
    simp only [Int.toNat_natCast, Nat.add_zero, List.take_left', List.length_cons, List.length_nil, Nat.zero_add]
    rw [show (x ++ c :: Lib.join (y :: r) [c]).drop (x.length + 1) = Lib.join (y :: r) [c] by rw [← List.drop_drop, List.drop_left]; rfl, ih]
theorem count_join (c : UInt8) : ∀ (r : List (List UInt8)) (x : List UInt8), (∀ w ∈ x :: r, c ∉ w) → (Lib.join (x :: r) [c]).count c = r.length
  | [], x, h => by rw [Lib.join_one, List.count_eq_zero.2 (h x (by simp))]; rfl
  | y :: r, x, h => by
    rw [join2, List.count_append, List.count_cons_self, count_join c r y (fun w hw => h w (by simp at hw ⊢; exact Or.inr hw)), List.count_eq_zero.2 (h x (by simp)), List.length_cons]
    omega
/-- The words of numerals, parted at the blanks. -/
theorem split_nText (e : Int) (es : List Int) : Lib.countB (nText (e :: es)) ⟨#[32]⟩ = es.length ∧ Lib.splitB ⟨#[32]⟩ 0 (Lib.countB (nText (e :: es)) ⟨#[32]⟩) (nText (e :: es)) = (e :: es).map itS := by
  have hno : ∀ w ∈ ((e :: es).map itS).map (·.data.toList), (32 : UInt8) ∉ w := by
    intro w hw h32
    simp only [List.map_map, List.mem_map] at hw
    obtain ⟨n, -, rfl⟩ := hw
    have := itoa_byte n 32 h32
    revert this; decide
  have hd : (nText (e :: es)).data.toList = Lib.join (((e :: es).map itS).map (·.data.toList)) [32] := rfl
  have hc : Lib.countB (nText (e :: es)) ⟨#[32]⟩ = es.length := by
    show Lib.count (nText (e :: es)).data.toList [32] = es.length
    rw [Lib.count_one, hd, List.map_cons, List.map_cons, count_join 32 _ _ (by simpa using hno)]
    simp
  refine ⟨hc, ?_⟩
  have h1 := Lib.splitB_data ⟨#[32]⟩ 0 (Lib.countB (nText (e :: es)) ⟨#[32]⟩) (nText (e :: es))
  rw [hc] at h1 ⊢
  have h2 := splitK_join 32 ((es.map itS).map (·.data.toList)) (itS e).data.toList (by simpa using hno)
  rw [hd, List.map_cons, List.map_cons] at h1
  simp only [List.length_map] at h2
  rw [show (⟨#[32]⟩ : ByteArray).data.toList = [32] from rfl, h2] at h1
  refine (List.map_inj_right (f := fun x : ByteArray => x.data.toList) (fun a b h => by
    obtain ⟨⟨a⟩⟩ := a; obtain ⟨⟨b⟩⟩ := b
    exact congrArg (fun l => ByteArray.mk ⟨l⟩) h)).1 (h1.trans ?_)
  rfl
end Go.Proofs.YticbmpjdcanjkaaDoor
