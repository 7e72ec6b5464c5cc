/- Own texts put together: Plain laws under the reference's readers: a text parted at a byte, numerals read, a curve's text read; The text of a task, in both; TaskText of both; Plain laws of a task's text: read by the program's way and by the reference's; Plain laws of the law FnWorkers: the ranges of a task's rest are a chain; joined in whatever order they end where all is done; Lists of ints compared by the laws; The reference's JoinRanges: how often a list has a range; up to where all is done; Lists of structs of ints compared by the laws; Helpers of the laws of tasks: equal lists of points, equal tasks, the absolute value; Own lemma that knows no program: an append onto a row of the call's own, whatever the other slice. Conditions: those of each theorem. -/
import Derived.Test.YtnhgdmhiblpknaaGreatDoorWkM11
import Derived.Test.YtnhgdmhiblpknaaGreatDoorWkM8
import Derived.Test.YtnhgdmhiblpknaaGreatDoorWkM2
import Derived.Test.YtnhgdmhiblpknaaGreatDoorWkM10
import Derived.Test.YtnhgdmhiblpknaaGreatDoorWkM1
import Derived.Deep.RegionHeld3
import Derived.Test.YtnhgdmhiblpknaaGreatDoorWkM5
namespace Go.Proofs.YtnhgdmhiblpknaaGreatDoor
section
open Go Go.RowKit

/-! ### A text parted at a byte -/
def spl (b : UInt8) : List UInt8 → List (List UInt8)
  | [] => [[]]
  | c :: l => if c = b then [] :: spl b l else match spl b l with
    | [] => [[c]]
    | x :: r => (c :: x) :: r
theorem spl_ne (b : UInt8) (l : List UInt8) : spl b l ≠ [] := by
  cases l with
  | nil => simp [spl]
  | cons c l =>
    unfold spl
    split
    · simp
    · split <;> simp
theorem spl_none (b : UInt8) : ∀ w : List UInt8, b ∉ w → spl b w = [w]
  | [], _ => rfl
  | c :: l, h => by
    have hne : c ≠ b := fun e => h (by simp [e])
    unfold spl
    rw [if_neg hne, spl_none b l (fun h2 => h (by simp [h2]))]
theorem spl_here (b : UInt8) (r : List UInt8) : ∀ w : List UInt8, b ∉ w → spl b (w ++ b :: r) = w :: spl b r
  | [], _ => by
    rw [List.nil_append]
    conv => lhs; unfold spl
    rw [if_pos rfl]
  | c :: l, h => by
    have hne : c ≠ b := fun e => h (by simp [e])
    rw [List.cons_append]
    conv => lhs; unfold spl
    rw [if_neg hne, spl_here b r l (fun h2 => h (by simp [h2]))]
theorem spl_join (b : UInt8) : ∀ (r : List (List UInt8)) (x : List UInt8), (∀ w ∈ x :: r, b ∉ w) → spl b (Lib.join (x :: r) [b]) = x :: r
  | [], x, h => by rw [Lib.join_one]; exact spl_none b x (h x (by simp))
  | y :: r, x, h => by
    rw [join2, spl_here b _ x (h x (by simp)), spl_join b r y (fun w hw => h w (by simp at hw ⊢; exact Or.inr hw))]
theorem spl_len (b : UInt8) : ∀ l : List UInt8, (spl b l).length ≤ l.length + 1
  | [] => Nat.le_refl _
  | c :: l => by
    have := spl_len b l
    unfold spl
    split
    · simp only [List.length_cons]; omega
    · split
      · simp
      · rename_i h; rw [h] at this; simp only [List.length_cons] at this ⊢; omega
theorem spl_mem (b : UInt8) : ∀ l : List UInt8, ∀ x ∈ spl b l, x.length ≤ l.length
  | [], x, h => by simp [spl] at h; rw [h]; exact Nat.le_refl _
  | c :: l, x, h => by
    have ih := spl_mem b l
    unfold spl at h
    split at h
    · rcases List.mem_cons.1 h with rfl | h
      · simp
      · have := ih x h; simp only [List.length_cons]; omega
    · split at h
      · simp at h; rw [h]; simp
      · rename_i y r hy
        rcases List.mem_cons.1 h with rfl | h
        · have := ih y (by rw [hy]; simp); simp only [List.length_cons]; omega
        · have := ih x (by rw [hy]; simp [h]); simp only [List.length_cons]; omega

/-! ### Numerals read -/
def rdD : List UInt8 → Int → Int
  | [], acc => acc
  | c :: l, acc => if c < 48 ∨ 57 < c then -1 else rdD l (10 * acc + (c.toNat : Int) - 48)
def rdN (l : List UInt8) : Int := if ¬ (1 ≤ l.length ∧ l.length ≤ 6) ∨ (l[0]? = some 48 ∧ 1 < l.length) then -1 else rdD l 0
def sgN (l : List UInt8) : Int := if l[0]? = some 45 then (if rdN (l.drop 1) < 0 then 100000 else -(rdN (l.drop 1))) else (if rdN l < 0 then 100000 else rdN l)
theorem rdD_bd : ∀ (l : List UInt8) (acc : Int) (n : Nat), 0 ≤ acc → acc < 10 ^ n → -1 ≤ rdD l acc ∧ rdD l acc < 10 ^ (n + l.length)
  | [], acc, n, h0, h1 => ⟨by show -1 ≤ acc; omega, h1⟩
  | c :: l, acc, n, h0, h1 => by
    unfold rdD
    split
    · refine ⟨by omega, ?_⟩
      have : (0 : Int) < 10 ^ (n + (c :: l).length) := Int.pow_pos (by omega)
      omega
    · rename_i hc
      have h2 : 48 ≤ c.toNat ∧ c.toNat ≤ 57 := by
        constructor
        · rcases Nat.lt_or_ge c.toNat 48 with h | h
          · exact absurd (Or.inl (by rw [UInt8.lt_iff_toNat_lt]; exact h)) hc
          · exact h
        · rcases Nat.lt_or_ge 57 c.toNat with h | h
          · exact absurd (Or.inr (by rw [UInt8.lt_iff_toNat_lt]; exact h)) hc
          · exact h
      have h3 := rdD_bd l (10 * acc + (c.toNat : Int) - 48) (n + 1) (by omega) (by rw [Int.pow_succ]; omega)
      rw [List.length_cons, show n + (l.length + 1) = n + 1 + l.length by omega]
      exact h3
theorem rdN_bd (l : List UInt8) : -1 ≤ rdN l ∧ rdN l ≤ 999999 := by
  unfold rdN
  split
  · omega
  · rename_i h
    have hl : l.length ≤ 6 := by
      rcases Nat.lt_or_ge 6 l.length with h2 | h2
      · exact absurd (Or.inl (by omega)) h
      · exact h2
    have h1 := rdD_bd l 0 0 (by omega) (by decide)
    have h2 : (10 : Int) ^ (0 + l.length) ≤ 10 ^ 6 := by
      rw [Nat.zero_add]
      match l.length, hl with
      | 0, _ => decide
      | 1, _ => decide
      | 2, _ => decide
      | 3, _ => decide
      | 4, _ => decide
      | 5, _ => decide
      | 6, _ => decide
    have h3 : (10 : Int) ^ 6 = 1000000 := by decide
    omega
theorem sgN_bd (l : List UInt8) : -999999 ≤ sgN l ∧ sgN l ≤ 999999 := by
  have h1 := rdN_bd l; have h2 := rdN_bd (l.drop 1)
  unfold sgN
  split <;> split <;> omega
theorem rdD_dec : ∀ (l : List UInt8) (acc x : Nat), Lib.decFrom acc l = some x → rdD l acc = x
  | [], acc, x, h => by
    simp only [Lib.decFrom] at h
    injection h with h
    rw [h]; rfl
  | c :: l, acc, x, h => by
    rw [Lib.decFrom] at h
    cases hd : Lib.digitVal c with
    | none => rw [hd] at h; cases h
    | some d =>
      rw [hd] at h
      have hd2 : 48 ≤ c.toNat ∧ c.toNat ≤ 57 ∧ d = c.toNat - 48 := by
        unfold Lib.digitVal at hd
        split at hd
        · rename_i hh
          injection hd with hd
          exact ⟨by omega, by omega, by omega⟩
        · cases hd
      unfold rdD
      rw [if_neg (by rw [UInt8.lt_iff_toNat_lt, UInt8.lt_iff_toNat_lt]; show ¬ (c.toNat < 48 ∨ 57 < c.toNat); omega)]
      have h3 := rdD_dec l _ x h
      rw [← h3]
      congr 1
      omega
theorem digits_head (n : Nat) : ∀ r, Lib.decDigits n = 48 :: r → r = [] := by
  induction n using Nat.strongRecOn with
  | ind n ih =>
    intro r h
    by_cases h1 : n < 10
    · rw [Lib.decDigits_one h1] at h
      injection h with _ h
      exact h.symm
    · rw [Lib.decDigits, dif_neg h1] at h
      cases hq : Lib.decDigits (n / 10) with
      | nil => exact absurd hq (digits_ne _)
      | cons c q =>
        rw [hq] at h
        injection h with hc hr
        subst hc
        have hq0 := ih (n / 10) (by omega) q hq
        subst hq0
        have hv := decFrom_digits (n / 10)
        rw [hq] at hv
        have h0 : Lib.decFrom 0 [48] = some 0 := by decide
        rw [h0] at hv
        injection hv with hv
        omega
theorem rdN_digits (n : Nat) (h : n < 1000000) : rdN (Lib.decDigits n) = n := by
  unfold rdN
  have hl := digits_len 5 n (by omega)
  have hne := digits_ne n
  rw [if_neg]
  · exact rdD_dec _ 0 n (decFrom_digits n)
  · rintro (h1 | ⟨h1, h2⟩)
    · apply h1
      have : 0 < (Lib.decDigits n).length := List.length_pos_iff.2 hne
      omega
    · cases hq : Lib.decDigits n with
      | nil => exact hne hq
      | cons c q =>
        rw [hq] at h1 h2
        simp only [List.getElem?_cons_zero, Option.some.injEq] at h1
        subst h1
        have := digits_head n q hq
        subst this
        simp at h2
theorem rdN_itoa {n : Int} (h0 : 0 ≤ n) (h : n < 1000000) : rdN (Lib.itoa n) = n := by
  unfold Lib.itoa
  rw [if_neg (by omega), rdN_digits _ (by omega)]
  omega
theorem sgN_itoa {n : Int} (h0 : -1000000 < n) (h : n < 1000000) : sgN (Lib.itoa n) = n := by
  by_cases hn : n < 0
  · have e : Lib.itoa n = 45 :: Lib.decDigits n.natAbs := by unfold Lib.itoa; rw [if_pos hn]
    unfold sgN
    rw [e]
    simp only [List.getElem?_cons_zero, if_pos, List.drop_succ_cons, List.drop_zero]
    rw [rdN_digits _ (by omega), if_neg (by omega)]
    omega
  · have e : Lib.itoa n = Lib.decDigits n.toNat := by unfold Lib.itoa; rw [if_neg hn]
    have h1 : ¬ (Lib.itoa n)[0]? = some 45 := by
      rw [e]
      intro h2
      cases hq : Lib.decDigits n.toNat with
      | nil => exact digits_ne _ hq
      | cons c q =>
        rw [hq] at h2
        simp only [List.getElem?_cons_zero, Option.some.injEq] at h2
        have := digits_byte n.toNat c (by rw [hq]; simp)
        subst h2
        revert this; decide
    unfold sgN
    rw [if_neg h1, rdN_itoa (by omega) h, if_neg (by omega)]

/-! ### A curve's text read -/
def paC (s : List UInt8) : Option (Int × Int) :=
  match spl 32 s with
  | [x, y] => if curveB (sgN x) (sgN y) = true ∧ (nText [sgN x, sgN y]).data.toList = s then some (sgN x, sgN y) else none
  | _ => none
theorem itoa_no32 (n : Int) : (32 : UInt8) ∉ Lib.itoa n := fun h => by
  have := itoa_byte n 32 h
  revert this; decide
theorem nTextD (a b : Int) : (nText [a, b]).data.toList = Lib.itoa a ++ 32 :: Lib.itoa b := by
  unfold nText itS
  simp [Lib.join, List.intercalate]
theorem paC_text {a b : Int} (h : curveB a b = true) : paC (nText [a, b]).data.toList = some (a, b) := by
  obtain ⟨h1, h2⟩ := curveB_bd h
  unfold paC
  rw [nTextD, spl_here 32 _ _ (itoa_no32 a), spl_none 32 _ (itoa_no32 b)]
  simp only
  rw [sgN_itoa (by omega) (by omega), sgN_itoa (by omega) (by omega), if_pos ⟨h, nTextD a b⟩]
theorem paC_spec {s : List UInt8} {a b : Int} (h : paC s = some (a, b)) : curveB a b = true ∧ (nText [a, b]).data.toList = s := by
  unfold paC at h
  split at h
  · split at h
    · rename_i hh
      injection h with h
      injection h with ha hb
      subst ha; subst hb
      exact hh
    · cases h
  · cases h
theorem nText2_len {a b : Int} (h : curveB a b = true) : (nText [a, b]).data.toList.length ≤ 12 := by
  obtain ⟨h1, h2⟩ := curveB_bd h
  rw [nTextD]
  have l2 := itoa_len (n := a) 3 (by omega)
  have l3 := itoa_len (n := b) 4 (by omega)
  rw [List.length_append, List.length_cons]
  omega
theorem paC_long {s : List UInt8} (h : 12 < s.length) : paC s = none := by
  cases hp : paC s with
  | none => rfl
  | some p =>
    have h1 := paC_spec (a := p.1) (b := p.2) hp
    have h2 := nText2_len h1.1
    rw [h1.2] at h2
    omega

/-! ### The reference's way to read a record's line -/
/-- The words ahead of the mark. -/
def jwS (s : List UInt8) : List (List UInt8) := spl 32 ((spl 35 s).headD [])
theorem line_data (k a b lo hi : Int) : (lineS k a b lo hi).data.toList = (nText [k, a, b, lo, hi]).data.toList ++ 35 :: ((itS (sumL (nText [k, a, b, lo, hi]).data.toList)).data.toList ++ [10]) := by
  unfold lineS
  simp
theorem line_cut {s : List UInt8} {k a b lo hi : Int} (h : (lineS k a b lo hi).data.toList = s ++ [10]) : s = (nText [k, a, b, lo, hi]).data.toList ++ 35 :: (itS (sumL (nText [k, a, b, lo, hi]).data.toList)).data.toList := by
  rw [line_data, ← List.cons_append, ← List.append_assoc] at h
  exact (List.append_cancel_right h).symm
theorem line_jw {s : List UInt8} {k a b lo hi : Int} (h : (lineS k a b lo hi).data.toList = s ++ [10]) : jwS s = [Lib.itoa k, Lib.itoa a, Lib.itoa b, Lib.itoa lo, Lib.itoa hi] := by
  have h1 := line_cut h
  unfold jwS
  rw [h1, spl_here 35 _ _ (no35 _)]
  show spl 32 (nText [k, a, b, lo, hi]).data.toList = _
  have hd : (nText [k, a, b, lo, hi]).data.toList = Lib.join [Lib.itoa k, Lib.itoa a, Lib.itoa b, Lib.itoa lo, Lib.itoa hi] [32] := rfl
  rw [hd]
  refine spl_join 32 _ _ (fun w hw => ?_)
  simp only [List.mem_cons, List.not_mem_nil, or_false] at hw
  rcases hw with rfl | rfl | rfl | rfl | rfl <;> exact itoa_no32 _
def rdS (k : Int) (s : List UInt8) : Option Rc :=
  match jwS s with
  | [_, a, b, lo, hi] => match paC (a ++ 32 :: b) with
    | none => none
    | some (x, y) => if recB x y (rdN lo) (rdN hi) = true ∧ (lineS k x y (rdN lo) (rdN hi)).data.toList = s ++ [10] then some ⟨x, y, rdN lo, rdN hi⟩ else none
  | _ => none
theorem recB_curve {a b lo hi : Int} (h : recB a b lo hi = true) : curveB a b = true := by
  unfold recB at h
  simp only [Bool.and_eq_true] at h
  exact h.1
theorem rdS_some {k : Int} {s : List UInt8} {r : Rc} (hk : 0 ≤ k ∧ k ≤ 29) (h : r.ok = true) (hl : (r.line k).data.toList = s ++ [10]) : rdS k s = some r := by
  have h1 := line_jw (k := k) hl
  have hb := recB_bd h hk
  have h4 := hb.lo; have h5 := hb.hi
  unfold rdS
  rw [h1]
  simp only
  rw [← nTextD, paC_text (recB_curve h)]
  simp only
  rw [rdN_itoa (by omega) (by omega), rdN_itoa (by omega) (by omega), if_pos ⟨h, hl⟩]
theorem rdS_spec {k : Int} {s : List UInt8} {r : Rc} (h : rdS k s = some r) : r.ok = true ∧ (r.line k).data.toList = s ++ [10] := by
  unfold rdS at h
  split at h
  · split at h
    · cases h
    · split at h
      · rename_i hh
        injection h with h
        subst h
        exact hh
      · cases h
  · cases h
/-- Both read the same. -/
theorem rdS_eq {k : Int} (hk : 0 ≤ k ∧ k ≤ 29) (s : List UInt8) : rdS k s = rdL k ⟨(s ++ [10]).toArray⟩ := by
  cases h : rdS k s with
  | some r =>
    obtain ⟨h1, h2⟩ := rdS_spec h
    exact (rdL_some h1 hk (bytes_ext (by rw [h2]))).symm
  | none =>
    cases h3 : rdL k ⟨(s ++ [10]).toArray⟩ with
    | none => rfl
    | some r =>
      obtain ⟨h1, h2⟩ := rdL_spec h3
      rw [rdS_some hk h1 (by rw [h2])] at h
      cases h
end
section
open Go Go.RowKit

theorem nText5b (a b m d t : Int) : nText [a, b, m, d, t] = nText [a, b] ++ ⟨#[32]⟩ ++ itS m ++ ⟨#[32]⟩ ++ itS d ++ ⟨#[32]⟩ ++ itS t := by
  unfold nText
  apply ByteArray.ext
  simp [Lib.join, List.intercalate]
def textV (a b m d t : Int) (fs : List Pt) : ByteArray × Bool := if tkG a b m d t fs then (nText [a, b, m, d, t], true) else (⟨#[]⟩, false)
theorem ret_sb2 {s : ByteArray} {k : Bool} {p : ByteArray × Bool} (h : p = (s, k)) : Ending.returned (.tuple #[.string s, .bool k]) = .returned (.tuple #[.string p.1, .bool p.2]) := by rw [h]

set_option maxRecDepth 20000 in
set_option maxHeartbeats 4000000 in
theorem text_any (g : Nat) (a b m d t : Int) (v : Value) (w : World) (h : Blk w g 51 #[.int .i64 a, .int .i64 b, .int .i64 m, .int .i64 d, .int .i64 t, v]) (ht : TkB a b m d) (htt : 0 ≤ t ∧ t ≤ 4010) (htab : Tab w) :
    Calls Tryz.prog 98 #[.pointer (some ⟨g, 0, none⟩)] w fun r w' => r = .returned (.string (nText [a, b, m, d, t])) ∧ Below w.heap.size w w' := by
  have q0 := h.cell 0
  have q1 := h.cell 1
  have q2 := h.cell 2
  have q3 := h.cell 3
  have q4 := h.cell 4
  have q5 := h.cell 5
  have ql := h.lt
  simp at q0 q1 q2 q3 q4 q5
  have HS : Hid (∀ w', Below w.heap.size w w' → (w'.cell? ⟨g, 0, none⟩ = some (.int .i64 a) ∧ w'.cell? ⟨g, 1, none⟩ = some (.int .i64 b) ∧ w'.cell? ⟨g, 2, none⟩ = some (.int .i64 m) ∧ w'.cell? ⟨g, 3, none⟩ = some (.int .i64 d) ∧ w'.cell? ⟨g, 4, none⟩ = some (.int .i64 t) ∧ w'.cell? ⟨g, 5, none⟩ = some (v) ∧ Below w.heap.size w w')) := Lib.hid (fun w' hw => ⟨(hw.cell (p := ⟨g, 0, none⟩) ql).trans q0, (hw.cell (p := ⟨g, 1, none⟩) ql).trans q1, (hw.cell (p := ⟨g, 2, none⟩) ql).trans q2, (hw.cell (p := ⟨g, 3, none⟩) ql).trans q3, (hw.cell (p := ⟨g, 4, none⟩) ql).trans q4, (hw.cell (p := ⟨g, 5, none⟩) ql).trans q5, hw⟩)
  have Hnt := Lib.hid (fun (W : World) (hb : Below (w.alloc (Obj.cells #[.int .i64 a, .int .i64 b, .int .i64 m, .int .i64 d, .int .i64 t] 3)).heap.size (w.alloc (Obj.cells #[.int .i64 a, .int .i64 b, .int .i64 m, .int .i64 d, .int .i64 t] 3)) W) =>
    numbersText_any (.slice (some ⟨w.heap.size, 0, none⟩) 5 5) [a, b, m, d, t] W ((rd_ints w 3 [a, b, m, d, t] (by simp)).on hb) (by simp) (by
      intro j hj
      rw [inS_get hj]
      have h1 := ht.a; have h2 := ht.b; have h3 := ht.m; have h4 := ht.d
      have h6 : [a, b, m, d, t][j] ∈ [a, b, m, d, t] := List.getElem_mem hj
      generalize [a, b, m, d, t][j] = y at h6
      simp at h6
      omega) ((htab.on (bal (Below.refl _ _) _)).on hb))
  have hb0 := Below.refl w.heap.size w
  clear h htab ht htt
  go_enter Tryz.func98, Tryz.ntmps98
  go_wp2
  go_region_held3 (fun w' => w'.cell? ⟨g, 0, none⟩ = some (.int .i64 a) ∧ w'.cell? ⟨g, 1, none⟩ = some (.int .i64 b) ∧ w'.cell? ⟨g, 2, none⟩ = some (.int .i64 m) ∧ w'.cell? ⟨g, 3, none⟩ = some (.int .i64 d) ∧ w'.cell? ⟨g, 4, none⟩ = some (.int .i64 t) ∧ w'.cell? ⟨g, 5, none⟩ = some (v) ∧ Below w.heap.size w w') (((go_split_ands; refine HS.out _ ?_; repeat (first | (with_reducible assumption) | (with_reducible exact Below.refl _ _) | (with_reducible refine Below.drew ?_) | (with_reducible refine bal ?_ _) | (with_reducible refine bthen ?_ (by with_reducible assumption)))))) ((go_at_call 113; (with_reducible refine (Hnt.out _ (by first | (with_reducible exact Below.refl _ _) | (with_reducible exact Below.drew (Below.refl _ _)))).mono ?_); rintro r w2 ⟨rfl, hb2⟩))
  all_goals go_wp2
  all_goals go_ret
  all_goals exact ⟨rfl, by go_split_ands; repeat (first | (with_reducible assumption) | (with_reducible refine Below.drew ?_) | (with_reducible refine bal ?_ _) | (with_reducible refine bthen ?_ (by with_reducible assumption)))⟩
set_option maxRecDepth 8000 in
set_option maxHeartbeats 2000000 in
theorem skText_any (a b m d t : Int) (v : Value) (w : World) (h : TkB a b m d) (htt : 0 ≤ t ∧ t ≤ 4010) :
    Calls Tryz.prog 99 #[.agg #[.int .i64 a, .int .i64 b, .int .i64 m, .int .i64 d, .int .i64 t, v]] w fun r w' => r = .returned (.string (nText [a, b, m, d, t])) ∧ Below w.heap.size w w' := by
  have H2 := Lib.hid (fun w => ecText_any a b w (by have := h.a; omega) (by have := h.b; omega))
  have H1 := Lib.hid (fun w => l1Num_int m w (by have := h.m; omega))
  have H3 := Lib.hid (fun w => l1Num_int d w (by have := h.d; omega))
  have H4 := Lib.hid (fun w => l1Num_int t w (by omega))
  have Hv := Lib.hid (nText5b a b m d t)
  have s1 : (itS m).size ≤ 10000 := by have := itS_size m; have := h.m; omega
  have s3 : (itS d).size ≤ 10000 := by have := itS_size d; have := h.d; omega
  have s4 : (itS t).size ≤ 10000 := by have := itS_size t; omega
  have s2 : (nText [a, b]).size ≤ 100000 := by
    have := nText_size [a, b] 10000 (by intro e he; have h2 := h.a; have h3 := h.b; simp at he; omega)
    simp at this; omega
  have HbA := Lib.hid (show Below w.heap.size w (w.alloc (Obj.cells #[.int .i64 a, .int .i64 b, .int .i64 m, .int .i64 d, .int .i64 t, v] 51)) from bal (Below.refl _ _) _)
  have hB := Blk.new w 51 #[.int .i64 a, .int .i64 b, .int .i64 m, .int .i64 d, .int .i64 t, v]
  have Hbx := Lib.hid hB; clear hB
  generalize nText [a, b] = P2 at H2 Hv s2
  generalize itS m = P1 at H1 Hv s1
  generalize itS d = P3 at H3 Hv s3
  generalize itS t = P4 at H4 Hv s4
  clear h htt
  go_enter Tryz.func99, Tryz.ntmps99
  go_wp2
  refine wp_region_tame (by kernel_rfl) (by kernel_rfl) (fun T _ W hT => ?_)
  have hx := hT.cell
  repeat (go_big_quiet_step ((first | (go_at_call 115; with_reducible exact hT.call (H2.out _)) | (go_at_call 116; with_reducible exact hT.call (H1.out _)) | (go_at_call 116; with_reducible exact hT.call (H3.out _)) | (go_at_call 116; with_reducible exact hT.call (H4.out _)))))
  refine wpQuiet_nil ?_
  intro z
  clear hx
  go_wp2
  go_ret
  exact ⟨by rw [Hv.out]; rfl, bthen HbA.out (hT.below z)⟩
set_option maxRecDepth 8000 in
set_option maxHeartbeats 4000000 in
theorem implTaskText_any (a b m d t : Int) (v : Value) (fs : List Pt) (w : World) (hv : Rd ptS w w.heap.size v fs) (htab : Tab w) :
    Calls Tryz.prog 42 #[.agg #[.int .i64 a, .int .i64 b, .int .i64 m, .int .i64 d, .int .i64 t, v]] w fun r w' => r = .returned (.tuple #[.string (textV a b m d t fs).1, .bool (textV a b m d t fs).2]) ∧ Below w.heap.size w w' := by
  have Hb := Lib.hid (Blk.new w 51 #[.int .i64 a, .int .i64 b, .int .i64 m, .int .i64 d, .int .i64 t, v])
  have hb0 := bal (Below.refl w.heap.size w) (Obj.cells #[.int .i64 a, .int .i64 b, .int .i64 m, .int .i64 d, .int .i64 t, v] 51)
  have HR := Lib.hid (hv.on hb0)
  have Htab := Lib.hid (htab.on hb0)
  have HbA := Lib.hid hb0; clear hb0 hv htab
  have Hsp := Lib.hid (tkG_spec (a := a) (b := b) (m := m) (d := d) (t := t) (fs := fs))
  go_enter Tryz.func42, Tryz.ntmps42
  go_wp2_with fail
  refine (isTask_any _ a b m d t v fs _ Hb.out HR.out).mono ?_; rintro r w1 ⟨rfl, hb1⟩
  have HB1 := Lib.hid (Hb.out.on hb1)
  have q0 := HB1.out.cell 0
  have q1 := HB1.out.cell 1
  have q2 := HB1.out.cell 2
  have q3 := HB1.out.cell 3
  have q4 := HB1.out.cell 4
  have q5 := HB1.out.cell 5
  have ql := HB1.out.lt
  simp at q0 q1 q2 q3 q4 q5
  have Hb01 := Lib.hid (bthen HbA.out hb1)
  have Htab1 := Lib.hid (Htab.out.on hb1)
  clear hb1
  cases hk : tkG a b m d t fs
  · have Hv := Lib.hid (show textV a b m d t fs = (⟨#[]⟩, false) by unfold textV; rw [hk]; rfl)
    clear hk
    go_wp2
    go_ret2
    exact ⟨ret_sb2 Hv.out, Hb01.out⟩
  · have Hv := Lib.hid (show textV a b m d t fs = (nText [a, b, m, d, t], true) by unfold textV; rw [hk]; rfl)
    have Hs := Lib.hid (Hsp.out hk)
    clear hk
    go_wp2_with fail
    refine (text_any w.heap.size a b m d t v _ HB1.out Hs.out.1 (by have := Hs.out.2; omega) Htab1.out).mono ?_; rintro r w2 ⟨rfl, hb2⟩
    go_wp2
    go_ret2
    exact ⟨ret_sb2 Hv.out, bthen Hb01.out hb2⟩
set_option maxRecDepth 8000 in
set_option maxHeartbeats 4000000 in
theorem specTaskText_any (a b m d t : Int) (v : Value) (fs : List Pt) (w : World) (hv : Rd ptS w w.heap.size v fs) :
    Calls Tryz.prog 43 #[.agg #[.int .i64 a, .int .i64 b, .int .i64 m, .int .i64 d, .int .i64 t, v]] w fun r w' => r = .returned (.tuple #[.string (textV a b m d t fs).1, .bool (textV a b m d t fs).2]) ∧ Below w.heap.size w w' := by
  have Hb := Lib.hid (Blk.new w 51 #[.int .i64 a, .int .i64 b, .int .i64 m, .int .i64 d, .int .i64 t, v])
  have hb0 := bal (Below.refl w.heap.size w) (Obj.cells #[.int .i64 a, .int .i64 b, .int .i64 m, .int .i64 d, .int .i64 t, v] 51)
  have HR := Lib.hid (hv.on hb0)
  have HbA := Lib.hid hb0; clear hb0 hv
  have Hsp := Lib.hid (tkG_spec (a := a) (b := b) (m := m) (d := d) (t := t) (fs := fs))
  go_enter Tryz.func43, Tryz.ntmps43
  go_wp2_with fail
  refine (skGood_any a b m d t v fs _ HR.out).mono ?_; rintro r w1 ⟨rfl, hb1⟩
  have HB1 := Lib.hid (Hb.out.on hb1)
  have q0 := HB1.out.cell 0
  have q1 := HB1.out.cell 1
  have q2 := HB1.out.cell 2
  have q3 := HB1.out.cell 3
  have q4 := HB1.out.cell 4
  have q5 := HB1.out.cell 5
  have ql := HB1.out.lt
  simp at q0 q1 q2 q3 q4 q5
  have Hb01 := Lib.hid (bthen HbA.out hb1)
  clear hb1
  cases hk : tkG a b m d t fs
  · have Hv := Lib.hid (show textV a b m d t fs = (⟨#[]⟩, false) by unfold textV; rw [hk]; rfl)
    clear hk
    go_wp2
    go_ret2
    exact ⟨ret_sb2 Hv.out, Hb01.out⟩
  · have Hv := Lib.hid (show textV a b m d t fs = (nText [a, b, m, d, t], true) by unfold textV; rw [hk]; rfl)
    have Hs := Lib.hid (Hsp.out hk)
    clear hk
    go_wp2_with fail
    refine (skText_any a b m d t v _ Hs.out.1 (by have := Hs.out.2; omega)).mono ?_; rintro r w2 ⟨rfl, hb2⟩
    go_wp2
    go_ret2
    exact ⟨ret_sb2 Hv.out, bthen Hb01.out hb2⟩
end
section
open Go Go.RowKit

/-- The words of a text. -/
def splW (s : ByteArray) : List ByteArray := Lib.splitB ⟨#[32]⟩ 0 (Lib.countB s ⟨#[32]⟩) s
theorem splW_length (s : ByteArray) : (splW s).length = Lib.countB s ⟨#[32]⟩ + 1 := Lib.splitB_all ⟨#[32]⟩ (by decide) 0 _ _ rfl
theorem splW_text (e : Int) (es : List Int) : splW (nText (e :: es)) = (e :: es).map itS := (split_nText e es).2
/-- A task's numbers are valid. -/
def tk5 (a b m d t : Int) : Bool := tkB a b m d && insB t 0 (totI m d)
theorem tk5_bd {a b m d t : Int} (h : tk5 a b m d t = true) : TkB a b m d ∧ 0 ≤ t ∧ t ≤ totI m d := by
  unfold tk5 at h
  simp only [Bool.and_eq_true] at h
  exact ⟨tkB_tk h.1, insB_true h.2⟩
/-- The numbers that all words of a text are, if there are five. -/
def psI (s : ByteArray) : Option (Int × Int × Int × Int × Int) :=
  match (splW s).map (fun w => Lib.atoiAll w.data.toList) with
  | [.ok a, .ok b, .ok m, .ok d, .ok t] => if tk5 a b m d t = true ∧ (nText [a, b, m, d, t]).data.toList = s.data.toList then some (a, b, m, d, t) else none
  | _ => none
def psS (s : ByteArray) : Option (Int × Int × Int × Int × Int) :=
  match spl 32 s.data.toList with
  | [x0, x1, x2, x3, x4] => match paC (x0 ++ 32 :: x1) with
    | none => none
    | some (a, b) => if tk5 a b (rdN x2) (rdN x3) (rdN x4) = true ∧ (nText [a, b, rdN x2, rdN x3, rdN x4]).data.toList = s.data.toList then some (a, b, rdN x2, rdN x3, rdN x4) else none
  | _ => none
theorem tot_bd {m d : Int} (h0 : 0 ≤ m) (h1 : m ≤ 200) (h2 : 1 ≤ d) (h3 : d ≤ 10) : 0 ≤ totI m d ∧ totI m d ≤ 4010 := by
  have h4 := mul_bd d (2 * m + 1) 10 401 (by omega) h3 (by omega) (by omega)
  have h5 : 0 ≤ d * (2 * m + 1) := Int.mul_nonneg (by omega) (by omega)
  unfold totI
  omega
theorem tk5_small {a b m d t : Int} (h : tk5 a b m d t = true) : (-1000 ≤ a ∧ a ≤ 1000) ∧ (-10000 ≤ b ∧ b ≤ 10000) ∧ (0 ≤ m ∧ m ≤ 200) ∧ (1 ≤ d ∧ d ≤ 10) ∧ (0 ≤ t ∧ t ≤ 4010) := by
  obtain ⟨h1, h2⟩ := tk5_bd h
  have h3 := tot_bd h1.m.1 h1.m.2 h1.d.1 h1.d.2
  exact ⟨h1.a, h1.b, h1.m, h1.d, by omega⟩
theorem tk5_nums {a b m d t : Int} {s : ByteArray} (h : tk5 a b m d t = true) (hs : nText [a, b, m, d, t] = s) : okNums (splW s) [a, b, m, d, t] := by
  obtain ⟨h1, h2, h3, h4, h5⟩ := tk5_small h
  rw [← hs]
  unfold okNums
  rw [splW_text]
  simp only [List.map_cons, List.map_nil]
  rw [atoiAll_itS a (by omega), atoiAll_itS b (by omega), atoiAll_itS m (by omega), atoiAll_itS d (by omega), atoiAll_itS t (by omega)]
theorem psI_some {a b m d t : Int} {s : ByteArray} (h : tk5 a b m d t = true) (hs : nText [a, b, m, d, t] = s) : psI s = some (a, b, m, d, t) := by
  have h1 := tk5_nums h hs
  unfold okNums at h1
  unfold psI
  rw [h1]
  simp only [List.map_cons, List.map_nil]
  rw [if_pos ⟨h, by rw [hs]⟩]
theorem psI_spec {a b m d t : Int} {s : ByteArray} (h : psI s = some (a, b, m, d, t)) : tk5 a b m d t = true ∧ nText [a, b, m, d, t] = s := by
  unfold psI at h
  split at h
  · split at h
    · rename_i hh
      injection h with h
      simp only [Prod.mk.injEq] at h
      obtain ⟨rfl, rfl, rfl, rfl, rfl⟩ := h
      exact ⟨hh.1, bytes_ext hh.2⟩
    · cases h
  · cases h
theorem psI_vals {a b m d t : Int} {s : ByteArray} (hw : okNums (splW s) [a, b, m, d, t]) : psI s = if tk5 a b m d t = true ∧ (nText [a, b, m, d, t]).data.toList = s.data.toList then some (a, b, m, d, t) else none := by
  unfold okNums at hw
  unfold psI
  rw [hw]
  rfl
theorem psI_len {s : ByteArray} (h : (splW s).length ≠ 5) : psI s = none := by
  cases hp : psI s with
  | none => rfl
  | some p =>
    obtain ⟨a, b, m, d, t⟩ := p
    have h1 := congrArg List.length (tk5_nums (psI_spec hp).1 (psI_spec hp).2)
    simp at h1
    exact absurd h1 h
theorem psI_word {s : ByteArray} {j : Nat} (hj : j < (splW s).length) (hn : ∀ v : Int, Lib.atoiAll (splW s)[j].data.toList ≠ .ok v) : psI s = none := by
  cases hp : psI s with
  | none => rfl
  | some p =>
    obtain ⟨a, b, m, d, t⟩ := p
    have h1 := tk5_nums (psI_spec hp).1 (psI_spec hp).2
    unfold okNums at h1
    have h2 := congrArg (fun l => l[j]?) h1
    simp only [List.getElem?_map, List.getElem?_eq_getElem hj, Option.map_some] at h2
    cases h5 : [a, b, m, d, t][j]? with
    | none => rw [h5] at h2; cases h2
    | some v => rw [h5] at h2; exact absurd (Option.some.inj h2) (hn v)
theorem nText5_data (a b m d t : Int) : (nText [a, b, m, d, t]).data.toList = Lib.join [Lib.itoa a, Lib.itoa b, Lib.itoa m, Lib.itoa d, Lib.itoa t] [32] := rfl
theorem psS_words {a b m d t : Int} {s : ByteArray} (hs : nText [a, b, m, d, t] = s) : spl 32 s.data.toList = [Lib.itoa a, Lib.itoa b, Lib.itoa m, Lib.itoa d, Lib.itoa t] := by
  rw [← hs, nText5_data]
  refine spl_join 32 _ _ (fun w hw => ?_)
  simp only [List.mem_cons, List.not_mem_nil, or_false] at hw
  rcases hw with rfl | rfl | rfl | rfl | rfl <;> exact itoa_no32 _
theorem tk5_curve {a b m d t : Int} (h : tk5 a b m d t = true) : curveB a b = true := by
  unfold tk5 tkB at h
  simp only [Bool.and_eq_true] at h
  exact h.1.1
theorem psS_some {a b m d t : Int} {s : ByteArray} (h : tk5 a b m d t = true) (hs : nText [a, b, m, d, t] = s) : psS s = some (a, b, m, d, t) := by
  obtain ⟨h1, h2, h3, h4, h5⟩ := tk5_small h
  unfold psS
  rw [psS_words hs]
  simp only
  rw [← nTextD, paC_text (tk5_curve h)]
  simp only
  rw [rdN_itoa (n := m) (by omega) (by omega), rdN_itoa (n := d) (by omega) (by omega), rdN_itoa (n := t) (by omega) (by omega), if_pos ⟨h, by rw [hs]⟩]
theorem psS_spec {a b m d t : Int} {s : ByteArray} (h : psS s = some (a, b, m, d, t)) : tk5 a b m d t = true ∧ nText [a, b, m, d, t] = s := by
  unfold psS at h
  split at h
  · split at h
    · cases h
    · split at h
      · rename_i hh
        injection h with h
        simp only [Prod.mk.injEq] at h
        obtain ⟨rfl, rfl, rfl, rfl, rfl⟩ := h
        exact ⟨hh.1, bytes_ext hh.2⟩
      · cases h
  · cases h
theorem ps_eq (s : ByteArray) : psS s = psI s := by
  cases h : psI s with
  | some p =>
    obtain ⟨a, b, m, d, t⟩ := p
    exact psS_some (psI_spec h).1 (psI_spec h).2
  | none =>
    cases h2 : psS s with
    | none => rfl
    | some p =>
      obtain ⟨a, b, m, d, t⟩ := p
      rw [psI_some (psS_spec h2).1 (psS_spec h2).2] at h
      cases h
theorem ps_long {s : ByteArray} (h : 40 < s.size) : psI s = none := by
  cases hp : psI s with
  | none => rfl
  | some p =>
    obtain ⟨a, b, m, d, t⟩ := p
    obtain ⟨h6, h7⟩ := psI_spec hp
    obtain ⟨h1, h2, h3, h4, h5⟩ := tk5_small h6
    have e : (nText [a, b, m, d, t]).data.toList = Lib.itoa a ++ 32 :: (Lib.itoa b ++ 32 :: (Lib.itoa m ++ 32 :: (Lib.itoa d ++ 32 :: Lib.itoa t))) := by
      unfold nText itS
      simp [Lib.join, List.intercalate]
    have l1 := itoa_len (n := a) 3 (by omega)
    have l2 := itoa_len (n := b) 4 (by omega)
    have l3 := itoa_len (n := m) 2 (by omega)
    have l4 := itoa_len (n := d) 1 (by omega)
    have l5 := itoa_len (n := t) 3 (by omega)
    have e2 := congrArg List.length e
    simp only [List.length_append, List.length_cons] at e2
    have e3 : (nText [a, b, m, d, t]).data.toList.length = (nText [a, b, m, d, t]).size := rfl
    rw [h7] at e3 e2
    omega
/-- What both hand back. -/
def psV (s : ByteArray) : Int × Int × Int × Int × Int × List Pt × Bool := match psI s with | some (a, b, m, d, t) => (a, b, m, d, t, hitsZ a b m 0 t, true) | none => zeroT
theorem psV_none {s : ByteArray} (h : psI s = none) : psV s = zeroT := by unfold psV; rw [h]
theorem psV_some {s : ByteArray} {a b m d t : Int} (h : psI s = some (a, b, m, d, t)) : psV s = (a, b, m, d, t, hitsZ a b m 0 t, true) := by unfold psV; rw [h]
end
section
open Go Go.RowKit

theorem insB_of {n lo hi : Int} (h1 : lo ≤ n) (h2 : n ≤ hi) : insB n lo hi = true := by simp [insB]; omega
/-- Ranges, each beginning where the one before it ends. -/
def Chn : Int → List LI → Int → Prop
  | t, [], T => t = T
  | t, r :: L, T => ∃ y, r = [t, y] ∧ t < y ∧ Chn y L T
theorem chn_snoc : ∀ (L : List LI) (t y z : Int), Chn t L y → y < z → Chn t (L ++ [[y, z]]) z
  | [], t, y, z, h, hz => by
    have h : t = y := h
    subst h
    exact ⟨z, rfl, hz, rfl⟩
  | r :: L, t, y, z, h, hz => by
    obtain ⟨x, h1, h2, h3⟩ := h
    exact ⟨x, h1, h2, chn_snoc L x y z h3 hz⟩
theorem chn_le : ∀ (L : List LI) (t T : Int), Chn t L T → t ≤ T
  | [], t, T, h => Int.le_of_eq h
  | r :: L, t, T, h => by
    obtain ⟨x, h1, h2, h3⟩ := h
    have := chn_le L x T h3
    omega
theorem chn_ge : ∀ (L : List LI) (t T : Int), Chn t L T → ∀ r ∈ L, ∃ x y, r = [x, y] ∧ t ≤ x ∧ x < y
  | [], t, T, h, r, hr => by cases hr
  | q :: L, t, T, h, r, hr => by
    obtain ⟨x, h1, h2, h3⟩ := h
    rcases List.mem_cons.1 hr with rfl | hr
    · exact ⟨t, x, h1, Int.le_refl _, h2⟩
    · obtain ⟨u, v, e, k1, k2⟩ := chn_ge L x T h3 r hr
      exact ⟨u, v, e, by omega, k2⟩
theorem rgN_chain {rest w at0 : Int} (h0 : 0 ≤ rest) (hw : 1 ≤ w) : ∀ k : Nat, Chn at0 (rgN rest w at0 k).1 (rgN rest w at0 k).2
  | 0 => rfl
  | k + 1 => by
    have ih := rgN_chain (at0 := at0) h0 hw k
    have hq : 0 ≤ rest / w := Int.ediv_nonneg h0 (by omega)
    have hc : 0 ≤ rgC rest w k := by unfold rgC; split <;> omega
    simp only [rgN]
    split
    · exact chn_snoc _ _ _ _ ih (by omega)
    · rw [show (rgN rest w at0 k).2 + rgC rest w k = (rgN rest w at0 k).2 by omega]
      exact ih
theorem ranges_chain {m d t w : Int} (h0 : 0 ≤ totI m d - t) (hw : 1 ≤ w) : Chn t (rangesL m d t w) (totI m d) := by
  have h1 := rgN_chain (at0 := t) h0 hw w.toNat
  rw [rgN_end h0 hw, show t + (totI m d - t) = totI m d by omega] at h1
  exact h1
/-- A chain whose members are all in another one between the same ends is that one. -/
theorem chn_sub : ∀ (L A : List LI) (t T : Int), Chn t L T → Chn t A T → (∀ r ∈ L, r ∈ A) → A = L
  | [], [], _, _, _, _, _ => rfl
  | [], q :: A, t, T, h, k, _ => by
    have h : t = T := h
    obtain ⟨y, -, h2, h3⟩ := k
    have := chn_le A y T h3
    omega
  | r :: L, [], t, T, h, k, _ => by
    have k : t = T := k
    obtain ⟨y, -, h2, h3⟩ := h
    have := chn_le L y T h3
    omega
  | r :: L, q :: A, t, T, h, k, hs => by
    obtain ⟨y, rfl, h2, h3⟩ := h
    obtain ⟨z, rfl, k2, k3⟩ := k
    have h4 : z = y := by
      rcases List.mem_cons.1 (hs _ (List.mem_cons_self ..)) with e | hm
      · injection e with e1 e2; injection e2 with e3; exact e3.symm
      · obtain ⟨u, v, e, g1, g2⟩ := chn_ge A z T k3 _ hm
        injection e with e1; omega
    subst h4
    rw [chn_sub L A z T h3 k3 (fun r hr => by
      rcases List.mem_cons.1 (hs r (List.mem_cons_of_mem _ hr)) with e | hm
      · obtain ⟨u, v, e2, g1, g2⟩ := chn_ge L z T h3 r hr
        rw [e2] at e; injection e with e1; omega
      · exact hm)]
theorem jAt_chain (R : List LI) : ∀ (L : List LI) (t T : Int), Chn t L T → (∀ r ∈ L, r ∈ R) → jAt R L t = T
  | [], t, T, h, _ => h
  | r :: L, t, T, h, hs => by
    obtain ⟨y, rfl, h2, h3⟩ := h
    unfold jAt
    rw [if_pos (hs _ (List.mem_cons_self ..))]
    exact jAt_chain R L y T h3 (fun r hr => hs r (List.mem_cons_of_mem _ hr))
theorem mem_cat {R : List LI} {r : LI} (h : r ∈ R) : ∃ i, i < R.length ∧ cat' R i = r := by
  obtain ⟨i, hi, rfl⟩ := List.getElem_of_mem h
  exact ⟨i, hi, cat_get hi⟩
theorem smB_rev {L : List LI} (h : ∀ r, L.count r ≤ 1) : smB L.reverse L = true := by
  rw [sm_sk h, skOk_iff]
  refine ⟨fun r _ => by rw [List.count_reverse]; exact h r, ?_⟩
  rw [List.length_reverse]
  have h1 := (sum_eq_len (fun r => L.reverse.count r) L (fun x _ => by rw [List.count_reverse]; exact h x)).2
  refine h1 (fun x hx => ?_)
  rw [List.count_reverse]
  have := mem_count hx
  have := h x
  omega
theorem jnF_rev {m d t z : Int} (h0 : 0 ≤ totI m d - t) (hz : 1 ≤ z) : ∀ (f : Nat) (w : Int), 1 ≤ w → w ≤ z → z < w + f → jnF m d t (rangesL m d t z).reverse f w = some (totI m d)
  | 0, w, _, h1, h2 => by omega
  | f + 1, w, hw, h1, h2 => by
    cases hs : smB (rangesL m d t z).reverse (rangesL m d t w)
    · rw [jnF_miss hs]
      have hne : w ≠ z := by
        rintro rfl
        rw [smB_rev (rangesL_in h0 hw).cnt] at hs
        cases hs
      exact jnF_rev h0 hz f (w + 1) (by omega) (by omega) (by omega)
    · rw [jnF_hit hs]
      have h3 := (smB_iff _ _).1 hs
      have h4 : ∀ r ∈ rangesL m d t z, r ∈ rangesL m d t w := fun r hr => by
        obtain ⟨i, hi, rfl⟩ := mem_cat (List.mem_reverse.2 hr)
        exact (h3 i hi).1
      rw [chn_sub _ _ _ _ (ranges_chain h0 hz) (ranges_chain h0 hw) h4]
      rw [jAt_chain _ _ _ _ (ranges_chain h0 hz) (fun r hr => List.mem_reverse.2 hr)]
theorem ranges_of {a b m d t z : Int} {fs : List Pt} {L : List LI} (h : rangesV a b m d t fs z = (L, true)) : tkG a b m d t fs = true ∧ (1 ≤ z ∧ z ≤ 8) ∧ L = rangesL m d t z := by
  unfold rangesV at h
  split at h
  · rename_i hh
    simp only [Bool.and_eq_true] at hh
    exact ⟨hh.1, insB_true hh.2, (Prod.mk.inj h).1.symm⟩
  · simp at h
theorem join_rev {a b m d t z : Int} {fs : List Pt} (hk : tkG a b m d t fs = true) (hz : 1 ≤ z ∧ z ≤ 8) : joinV a b m d t fs (rangesL m d t z).reverse = (a, b, m, d, totI m d, hitsZ a b m 0 (totI m d), true) := by
  obtain ⟨h1, h2, h3⟩ := tkG_parts hk
  exact joinV_some hk (jnF_rev (by omega) hz.1 8 1 (by omega) hz.1 (by omega))

/-! ### Where a chain is -/
def chAt (t : Int) (L : List LI) : Nat → Int
  | 0 => t
  | j + 1 => (cat' L j).getD 1 0
theorem chn_at : ∀ (L : List LI) (t T : Int), Chn t L T → (∀ j, j < L.length → cat' L j = [chAt t L j, chAt t L (j + 1)] ∧ chAt t L j < chAt t L (j + 1)) ∧ chAt t L L.length = T
  | [], t, T, h => ⟨fun j hj => absurd hj (Nat.not_lt_zero _), h⟩
  | r :: L, t, T, h => by
    obtain ⟨y, rfl, h2, h3⟩ := h
    obtain ⟨h4, h5⟩ := chn_at L y T h3
    have hs : ∀ j, chAt t ([t, y] :: L) (j + 1) = chAt y L j := fun j => by cases j <;> rfl
    refine ⟨fun j hj => ?_, by rw [List.length_cons, hs]; exact h5⟩
    cases j with
    | zero => exact ⟨rfl, h2⟩
    | succ j =>
      have h6 := h4 j (by simpa using hj)
      rw [hs, hs]
      exact ⟨h6.1, h6.2⟩
theorem chn_bd {L : List LI} {t T : Int} (h : Chn t L T) : ∀ j, j ≤ L.length → t ≤ chAt t L j ∧ chAt t L j ≤ T := by
  obtain ⟨h1, h2⟩ := chn_at L t T h
  have hlo : ∀ j, j ≤ L.length → t ≤ chAt t L j := by
    intro j
    induction j with
    | zero => exact fun _ => Int.le_refl _
    | succ j ih => intro hj; have := ih (by omega); have := (h1 j (by omega)).2; omega
  have hhi : ∀ k j, j + k = L.length → chAt t L j ≤ T := by
    intro k
    induction k with
    | zero => intro j hj; rw [Nat.add_zero] at hj; subst hj; exact Int.le_of_eq h2
    | succ k ih => intro j hj; have := ih (j + 1) (by omega); have := (h1 j (by omega)).2; omega
  exact fun j hj => ⟨hlo j hj, hhi (L.length - j) j (by omega)⟩
theorem hitsZ_add {a b m f i l : Int} (h1 : f ≤ i) (h2 : i ≤ l) : hitsZ a b m f i ++ hitsZ a b m i l = hitsZ a b m f l := by
  unfold hitsZ
  have h3 := hitsN_add a b m f (i - f).toNat (l - i).toNat
  rw [show f + ((i - f).toNat : Int) = i by omega] at h3
  rw [show (l - f).toNat = (i - f).toNat + (l - i).toNat by omega, h3]
theorem run_of {a b m d t f l : Int} {fs : List Pt} (hk : tkG a b m d t fs = true) (hf : 0 ≤ f) (hfl : f ≤ l) (hl : l ≤ totI m d) : runV a b m d t fs f l = (hitsZ a b m f l, true) := by
  unfold runV
  rw [if_pos]
  rw [hk, insB_of hf hfl, decide_eq_true hl]; rfl
theorem rest_of {a b m d t : Int} {fs : List Pt} (hk : tkG a b m d t fs = true) : restV a b m d t fs = (totI m d - t, true) := by unfold restV; rw [if_pos hk]

/-! ### Joined ranges, texts -/
theorem jnF_bd {m d t : Int} {R : List LI} (h0 : 0 ≤ totI m d - t) : ∀ (f : Nat) (w n : Int), 1 ≤ w → jnF m d t R f w = some n → t ≤ n ∧ n ≤ totI m d
  | 0, _, _, _, h => by cases h
  | f + 1, w, n, hw, h => by
    cases hs : smB R (rangesL m d t w)
    · rw [jnF_miss hs] at h
      exact jnF_bd h0 f (w + 1) n (by omega) h
    · rw [jnF_hit hs] at h
      injection h with h
      subst h
      exact jAt_bd R _ t (rangesL_in h0 hw).el (Int.le_refl _) (by omega)
theorem join_or (a b m d t : Int) (fs : List Pt) (R : List LI) : joinV a b m d t fs R = zeroT ∨ ∃ n, joinV a b m d t fs R = (a, b, m, d, n, hitsZ a b m 0 n, true) ∧ t ≤ n ∧ tkG a b m d n (hitsZ a b m 0 n) = true := by
  cases hk : tkG a b m d t fs
  · exact Or.inl (joinV_bad hk)
  · cases hj : jnF m d t R 8 1 with
    | none => exact Or.inl (joinV_none hj)
    | some n =>
      obtain ⟨h1, h2, h3⟩ := tkG_parts hk
      have h4 := jnF_bd (by omega) 8 1 n (by omega) hj
      exact Or.inr ⟨n, joinV_some hk hj, h4.1, tkG_at h1 (by omega) h4.2⟩
theorem text_law {a b m d t : Int} {fs : List Pt} {s : ByteArray} (h : textV a b m d t fs = (s, true)) : psV s = (a, b, m, d, t, fs, true) ∧ s.size ≤ 40 := by
  unfold textV at h
  split at h
  · rename_i hk
    obtain ⟨h1, h2, h3⟩ := tkG_parts hk
    have hs := (Prod.mk.inj h).1
    have h5 : tk5 a b m d t = true := by unfold tk5; rw [h1, insB_of h2.1 h2.2]; rfl
    have h6 := psI_some h5 hs
    refine ⟨by rw [psV_some h6, ← h3], ?_⟩
    by_cases hl : 40 < s.size
    · rw [ps_long hl] at h6; cases h6
    · omega
  · simp at h
theorem ps_or (s : ByteArray) : psV s = zeroT ∨ ∃ a b m d t L, psV s = (a, b, m, d, t, L, true) := by
  unfold psV
  cases psI s with
  | none => exact Or.inl rfl
  | some q => exact Or.inr ⟨_, _, _, _, _, _, rfl⟩
end
section
open Go Go.RowKit

set_option maxHeartbeats 1000000 in
theorem qIn_same (u v : Value) (es : List Int) (w : World) (hu : Rd inS w w.heap.size u es) (hv : Rd inS w w.heap.size v es) :
    Calls Tryz.prog 21 #[u, v] w fun e w' => e = .returned (.bool true) ∧ Below w.heap.size w w' := by
  obtain ⟨A, c, rfl, hc, hm, hA⟩ := hu
  obtain ⟨A', c', rfl, hc', hm', hA'⟩ := hv
  unfold maxLen at hm hm'
  rcases Nat.eq_zero_or_pos es.length with h0 | h0
  · obtain rfl : es = [] := List.eq_nil_of_length_eq_zero h0
    go_enter Tryz.func21, Tryz.ntmps21
    go_wp2
    refine wp_loop_rounds 1 ?_
    rw [rounds_succ]
    go_wp2
    go_ret
    exact ⟨rfl, Below.refl _ _⟩
  · obtain ⟨g, off, rfl, hg, hcell⟩ := hA h0
    obtain ⟨g', off', rfl, hg', hcell'⟩ := hA' h0
    clear hA hA'
    have hcell := in_cells hcell
    have hcell' := in_cells hcell'
    go_enter Tryz.func21, Tryz.ntmps21
    go_wp2
    go_loopw [13] (fun i wr => ∃ k : Nat, k ≤ es.length ∧ i = .int .i64 k ∧ Below w.heap.size w wr) (fun i _ => es.length - (intOf i).toNat)
    case atStart => exact ⟨0, Nat.zero_le _, rfl, Below.refl _ _⟩
    case round =>
      obtain ⟨k, hk, rfl, hb⟩ := hrel
      by_cases hlt : k < es.length
      · have f0 := hcell k hlt
        have p0 := hcell' k hlt
        rw [← hb.cell (p := ⟨_, _, _⟩) hg] at f0
        rw [← hb.cell (p := ⟨_, _, _⟩) hg'] at p0
        obtain ⟨x, hx⟩ : ∃ e, inS.get es k = e := ⟨_, rfl⟩
        rw [hx] at f0 p0
        have hgr : g < wr.heap.size := Nat.lt_of_lt_of_le hg hb.size
        have hgr' : g' < wr.heap.size := Nat.lt_of_lt_of_le hg' hb.size
        have hi0 : (0 : Int) ≤ (k : Int) := by omega
        have hi1 : (k : Int) < (es.length : Int) := by omega
        clear hcell hcell' hx
        go_wp2
        refine wp_region_tame (by kernel_rfl) (by kernel_rfl) (fun T _ W hT => ?_)
        have hy := hT.cell
        repeat (go_big_quiet_step (fail))
        refine wpQuiet_nil ?_
        intro t
        clear hy
        go_wp2
        go_roundw
        case rel => exact ⟨k + 1, by omega, by go_num, bthen hb (hT.below t)⟩
        case measure => simp [intOf]; omega
      · go_wp2
        go_ret
        exact ⟨rfl, hb⟩
end
section
open Go Go.RowKit

theorem count_take_succ {R : List LI} {r : LI} {k : Nat} (hk : k < R.length) : (R.take (k + 1)).count r = (R.take k).count r + (if cat' R k = r then 1 else 0) := by
  rw [List.take_succ_eq_append_getElem hk, List.count_append, ← cat_get hk]
  by_cases h : cat' R k = r
  · rw [if_pos h, h]; simp
  · rw [if_neg h, show ([cat' R k] : List LI).count r = 0 from not_mem_count (by simp; exact fun e => h e.symm)]
set_option maxRecDepth 8000 in
set_option maxHeartbeats 4000000 in
theorem skHas_any (u v : Value) (R : List (List Int)) (r : List Int) (w : World) (hu : NRd w w.heap.size u R) (hv : Rd inS w w.heap.size v r) (hl : R.length ≤ 8) :
    Calls Tryz.prog 138 #[u, v] w fun e w' => e = .returned (.int .i64 (R.count r : Int)) ∧ Below w.heap.size w w' := by
  obtain ⟨A, c, rfl, hc, hm⟩ := nrd_form hu
  unfold maxLen at hm
  have Hu := Lib.hid hu; have Hv := Lib.hid hv; clear hu hv
  rcases Nat.eq_zero_or_pos R.length with h0 | h0
  · obtain rfl : R = [] := List.eq_nil_of_length_eq_zero h0
    go_enter Tryz.func138, Tryz.ntmps138
    go_wp2
    refine wp_loop_rounds 1 ?_
    rw [rounds_succ]
    go_wp2
    go_ret
    exact ⟨rfl, Below.refl _ _⟩
  · obtain ⟨us, g, off, rfl, hg, hcell, hrow⟩ := nrd_cell Hu.out h0
    have Hcell := Lib.hid hcell; have Hrow := Lib.hid hrow; clear hcell hrow
    have Hle := Lib.hid (fun k => (List.count_le_length (a := r) (l := R.take k)))
    go_enter Tryz.func138, Tryz.ntmps138
    go_wp2
    go_loopw [10, 5] (fun i n wr => ∃ k : Nat, k ≤ R.length ∧ i = .int .i64 k ∧ n = .int .i64 ((R.take k).count r : Int) ∧ Below w.heap.size w wr) (fun i _ _ => R.length - (intOf i).toNat)
    case atStart => exact ⟨0, Nat.zero_le _, rfl, by simp, Below.refl _ _⟩
    case round =>
      obtain ⟨k, hk, rfl, rfl, hb⟩ := hrel
      by_cases hlt : k < R.length
      · have f0 := Hcell.out k hlt
        rw [← hb.cell (p := ⟨_, _, _⟩) hg] at f0
        have hgr : g < wr.heap.size := Nat.lt_of_lt_of_le hg hb.size
        have Hr := Lib.hid ((Hrow.out k hlt).on hb)
        generalize vat us k = x at f0 Hr
        have hi0 : (0 : Int) ≤ (k : Int) := by omega
        have hi1 : (k : Int) < (R.length : Int) := by omega
        have Hsc := Lib.hid (count_take_succ (r := r) hlt)
        have hle := Hle.out k
        rw [List.length_take] at hle
        generalize (R.take k).count r = n at Hsc hle
        have hn8 : (n : Int) ≤ 8 := by omega
        go_wp2_with fail
        refine (l1Same_any _ _ _ r _ Hr.out (Hv.out.on hb)).mono ?_; rintro e w1 ⟨rfl, hb1⟩
        by_cases hd : cat' R k = r
        · rw [decide_eq_true hd]
          rw [if_pos hd] at Hsc
          clear hd f0
          go_wp2
          go_roundw
          case rel => exact ⟨k + 1, by omega, by go_num, by rw [Hsc.out]; go_num, bthen hb hb1⟩
          case measure => simp [intOf]; omega
        · rw [decide_eq_false hd]
          have Hsc := Lib.hid (show (R.take (k + 1)).count r = n by have h9 := Hsc.out; rw [if_neg hd] at h9; omega)
          clear hd f0
          go_wp2
          go_roundw
          case rel => exact ⟨k + 1, by omega, by go_num, by rw [Hsc.out], bthen hb hb1⟩
          case measure => simp [intOf]; omega
      · obtain rfl : k = R.length := by omega
        go_wp2
        go_ret
        exact ⟨ret_int (by rw [List.take_length]), hb⟩
def knw (R L : List LI) (k : Nat) : Nat := ((L.take k).map (fun r => R.count r)).sum
theorem knw_succ {R L : List LI} {k : Nat} (hk : k < L.length) : knw R L (k + 1) = knw R L k + R.count (cat' L k) := by
  unfold knw
  rw [List.take_succ_eq_append_getElem hk, List.map_append, List.sum_append, ← cat_get hk]
  simp
theorem knw_le {R L : List LI} : ∀ k, k ≤ L.length → (∀ j, j < k → R.count (cat' L j) ≤ 1) → knw R L k ≤ k
  | 0, _, _ => by simp [knw]
  | k + 1, hk, h => by
    have ih := knw_le (R := R) (L := L) k (by omega) (fun j hj => h j (by omega))
    have := h k (by omega)
    rw [knw_succ (by omega)]
    omega
theorem skOk_no1 {R L : List LI} {k : Nat} (hk : k < L.length) (h : 1 < R.count (cat' L k)) : skOk R L = false := by
  cases hs : skOk R L with
  | false => rfl
  | true =>
    rw [skOk_iff] at hs
    have := hs.1 _ (cat_mem hk)
    omega
theorem skOk_no2 {R L : List LI} (h : knw R L L.length ≠ R.length) : skOk R L = false := by
  cases hs : skOk R L with
  | false => rfl
  | true =>
    rw [skOk_iff] at hs
    unfold knw at h
    rw [List.take_length] at h
    exact absurd hs.2 h
theorem skOk_yes {R L : List LI} (h1 : ∀ j, j < L.length → R.count (cat' L j) ≤ 1) (h : knw R L L.length = R.length) : skOk R L = true := by
  rw [skOk_iff]
  unfold knw at h
  rw [List.take_length] at h
  refine ⟨fun r hr => ?_, h⟩
  obtain ⟨j, hj, rfl⟩ := List.mem_iff_getElem.1 hr
  have := h1 j hj
  rwa [cat_get hj] at this
theorem count_one_mem {R : List LI} {r : LI} (h : R.count r ≤ 1) : (((R.count r : Int) == 1) = true ↔ r ∈ R) := by
  rw [beq_iff_eq]
  constructor
  · intro e; exact List.count_pos_iff.1 (by omega)
  · intro hm; have := mem_count hm; omega
/-- What the reference's search for one number of workers hands back. -/
def skJ (R L : List LI) (t : Int) : Int := if skOk R L = true then jAt R L t else -1
theorem skJ_no {R L : List LI} {t : Int} (h : skOk R L = false) : skJ R L t = -1 := by unfold skJ; rw [h]; rfl
theorem skJ_yes {R L : List LI} {t : Int} (h : skOk R L = true) : skJ R L t = jAt R L t := by unfold skJ; rw [if_pos h]
set_option maxRecDepth 8000 in
set_option maxHeartbeats 8000000 in
theorem skJoin_any (a b m d t z : Int) (v u : Value) (R : List (List Int)) (w : World) (ht : TkB a b m d) (htt : 0 ≤ t ∧ t ≤ totI m d) (hz : 1 ≤ z ∧ z ≤ 8) (hu : NRd w w.heap.size u R) (hl : R.length ≤ 8) :
    Calls Tryz.prog 95 #[.agg #[.int .i64 a, .int .i64 b, .int .i64 m, .int .i64 d, .int .i64 t, v], u, .int .i64 z] w fun e w' => e = .returned (.int .i64 (skJ R (rangesL m d t z) t)) ∧ Below w.heap.size w w' := by
  have Hb := Lib.hid (Blk.new w 51 #[.int .i64 a, .int .i64 b, .int .i64 m, .int .i64 d, .int .i64 t, v])
  have hb0 := bal (Below.refl w.heap.size w) (Obj.cells #[.int .i64 a, .int .i64 b, .int .i64 m, .int .i64 d, .int .i64 t, v] 51)
  have Hu := Lib.hid (hu.on hb0)
  have HbA := Lib.hid hb0; clear hb0
  obtain ⟨Au, cu, rfl, hcu, hmu⟩ := nrd_form hu
  clear hu hcu hmu
  have Hrin := Lib.hid (rangesL_in (m := m) (d := d) (t := t) (w := z) (by omega) hz.1)
  have Hrg := Lib.hid (fun W => skRanges_any a b m d t z v W ht htt hz)
  have hll := rangesL_len8 (m := m) (d := d) (t := t) (w := z) hz.2
  generalize rangesL m d t z = L at Hrg Hrin hll
  clear ht hz
  go_enter Tryz.func95, Tryz.ntmps95
  go_wp2_with fail
  refine (Hrg.out _).mono ?_; rintro r w2 ⟨⟨v2, vs2, rfl, hn2⟩, hb2⟩
  have Hn2 := Lib.hid (NRd.of_own hn2); clear hn2
  have HB2 := Lib.hid (Hb.out.on hb2); have Hu2 := Lib.hid (Hu.out.on hb2); have Hb2 := Lib.hid (bthen HbA.out hb2); clear hb2
  obtain ⟨A2, c2, rfl, hc2, hm2⟩ := nrd_form Hn2.out
  have Hcl : Hid (0 < L.length → ∃ (vs : List Value) (g off : Nat), A2 = some ⟨g, off, none⟩ ∧ g < w2.heap.size ∧ (∀ k, k < L.length → w2.cell? ⟨g, off + k, none⟩ = some (vat vs k)) ∧ ∀ k, k < L.length → Rd inS w2 w2.heap.size (vat vs k) (cat' L k)) := Lib.hid (fun h0 => nrd_cell Hn2.out h0)
  have q4 := HB2.out.cell 4
  have ql := HB2.out.lt
  simp at q4
  have Htt := Lib.hid htt; clear htt
  go_wp2
  go_loopw [21, 8, 9, 10] (fun i n kn o wr => ∃ j : Nat, j ≤ L.length ∧ i = .int .i64 j ∧ n = .int .i64 (jAt R (L.take j) t) ∧ kn = .int .i64 (knw R L j : Int) ∧ o = .bool (opn R L j) ∧ Hid (∀ i, i < j → R.count (cat' L i) ≤ 1) ∧ Below w2.heap.size w2 wr) (fun i _ _ _ _ => L.length - (intOf i).toNat)
  case atStart => exact ⟨0, Nat.zero_le _, rfl, rfl, rfl, rfl, Lib.hid (fun i h => absurd h (by omega)), Below.refl _ _⟩
  case round =>
    obtain ⟨j, hj, rfl, rfl, rfl, rfl, Hone, hbj⟩ := hrel
    have Huj := Lib.hid (Hu2.out.on hbj); have Hbj := Lib.hid (bthen Hb2.out hbj)
    have hkl := knw_le (R := R) j hj Hone.out
    by_cases hjl : j < L.length
    · obtain ⟨vs, g, off, rfl, hg, hcell, hrow⟩ := Hcl.out (by omega)
      have f0 := hcell j hjl
      rw [← hbj.cell (p := ⟨_, _, _⟩) hg] at f0
      have hgr : g < wr.heap.size := Nat.lt_of_lt_of_le hg hbj.size
      have Hrw := Lib.hid ((hrow j hjl).on hbj)
      clear hcell hrow
      generalize vat vs j = x at f0 Hrw
      have hi0 : (0 : Int) ≤ (j : Int) := by omega
      have hi1 : (j : Int) < (L.length : Int) := by omega
      obtain ⟨X, Y, hXY, -, -, -⟩ := Hrin.out.el _ (cat_mem hjl)
      have Hn1 := Lib.hid (fun h => skJ_no (t := t) (skOk_no1 (R := R) hjl h))
      have Hks := Lib.hid (knw_succ (R := R) hjl)
      have Hal := Lib.hid (fun h => all_lt_succ Hone.out (h : R.count (cat' L j) ≤ 1))
      have Hstep := Lib.hid (jAt_step (R := R) (t := t) hjl)
      have Hopn := Lib.hid (opn_step (R := R) hjl)
      have hcl := List.count_le_length (a := cat' L j) (l := R)
      have Hcm := Lib.hid (fun h => count_one_mem (R := R) (r := cat' L j) h)
      rw [hXY] at Hrw Hstep Hopn Hn1 Hks Hal hcl Hcm
      clear hXY
      obtain ⟨Ax, cx, rfl, hcx, hmx, hAx⟩ := Hrw.out
      obtain ⟨gx, offx, rfl, hgx, hcellx⟩ := hAx (by simp)
      have y1 := in_cells hcellx 1 (by simp)
      rw [show inS.get [X, Y] 1 = Y from rfl] at y1
      clear hAx hcellx
      have Y1 := Lib.hid y1; clear y1
      go_wp2_with fail
      refine (skHas_any _ _ R [X, Y] _ Huj.out Hrw.out hl).mono ?_; rintro e w5 ⟨rfl, hb5⟩
      clear f0
      have y1 := (hb5.cell (p := ⟨gx, offx + 1, none⟩) hgx).trans Y1.out
      have hgx5 := Nat.lt_of_lt_of_le hgx hb5.size
      have Hb5 := Lib.hid (bthen Hbj.out hb5); have Hbj5 := Lib.hid (bthen hbj hb5); clear hb5
      generalize R.count [X, Y] = n at Hn1 Hks Hal hcl Hcm
      generalize knw R L j = kk at Hks hkl
      by_cases h1 : 1 < n
      · have h1' : (1 : Int) < (n : Int) := by omega
        have HN := Lib.hid (Hn1.out h1)
        go_wp2
        go_ret
        exact ⟨ret_int HN.out.symm, Hb5.out⟩
      · have h1' : ¬ (1 : Int) < (n : Int) := by omega
        have Hal2 := Lib.hid (Hal.out (by omega))
        have hcm := Hcm.out (by omega)
        have hk8 : (kk : Int) + (n : Int) ≤ 100 := by omega
        have hk0 : (0 : Int) ≤ (kk : Int) + (n : Int) := by omega
        have Hks2 := Lib.hid (show ((knw R L (j + 1) : Nat) : Int) = (kk : Int) + (n : Int) by rw [Hks.out]; omega)
        clear Hks hkl hcl Hal Hn1 Hcm h1
        cases ho : opn R L j
        · have Ho2 := Lib.hid (show opn R L (j + 1) = false by rw [Hopn.out, ho]; rfl)
          have Hst2 := Lib.hid (show jAt R (L.take (j + 1)) t = jAt R (L.take j) t by rw [Hstep.out, if_neg (by rw [Ho2.out]; exact Bool.false_ne_true)])
          clear ho hcm
          go_wp2
          go_roundw
          case rel => exact ⟨j + 1, by omega, by go_num, by rw [Hst2.out], by rw [Hks2.out], by rw [Ho2.out], Hal2, Hbj5.out⟩
          case measure => simp [intOf]; omega
        · cases hn : ((n : Int) == 1)
          · have Ho2 := Lib.hid (show opn R L (j + 1) = false by rw [Hopn.out, ho, decide_eq_false (fun h => by rw [hcm.2 h] at hn; cases hn)]; rfl)
            have Hst2 := Lib.hid (show jAt R (L.take (j + 1)) t = jAt R (L.take j) t by rw [Hstep.out, if_neg (by rw [Ho2.out]; exact Bool.false_ne_true)])
            clear ho hcm
            go_wp2
            go_roundw
            case rel => exact ⟨j + 1, by omega, by go_num, by rw [Hst2.out], by rw [Hks2.out], by rw [Ho2.out], Hal2, Hbj5.out⟩
            case measure => simp [intOf]; omega
          · have Ho2 := Lib.hid (show opn R L (j + 1) = true by rw [Hopn.out, ho, decide_eq_true (hcm.1 hn)]; rfl)
            have Hst2 := Lib.hid (show jAt R (L.take (j + 1)) t = Y by rw [Hstep.out, if_pos Ho2.out]; rfl)
            clear ho hcm
            go_wp2
            go_roundw
            case rel => exact ⟨j + 1, by omega, by go_num, by rw [Hst2.out], by rw [Hks2.out], by rw [Ho2.out], Hal2, Hbj5.out⟩
            case measure => simp [intOf]; omega
    · obtain rfl : j = L.length := by omega
      by_cases hkn : knw R L L.length = R.length
      · have HY := Lib.hid (skJ_yes (t := t) (skOk_yes Hone.out hkn))
        have hq : (((knw R L L.length : Nat) : Int) != (R.length : Int)) = false := by rw [hkn]; simp
        clear hkn
        go_wp2
        go_ret
        exact ⟨ret_int (by rw [HY.out, List.take_length]), Hbj.out⟩
      · have HN := Lib.hid (skJ_no (t := t) (skOk_no2 hkn))
        have hq : (((knw R L L.length : Nat) : Int) != (R.length : Int)) = true := by simp; omega
        clear hkn
        go_wp2
        go_ret
        exact ⟨ret_int HN.out.symm, Hbj.out⟩
set_option linter.unusedSimpArgs false in
set_option maxRecDepth 20000 in
set_option maxHeartbeats 8000000 in
theorem specJoinR_any (a b m d t : Int) (v u : Value) (fs : List Pt) (R : List (List Int)) (w : World) (hv : Rd ptS w w.heap.size v fs) (hu : NRd w w.heap.size u R) :
    Calls Tryz.prog 37 #[.agg #[.int .i64 a, .int .i64 b, .int .i64 m, .int .i64 d, .int .i64 t, v], u] w fun r w' => TkRet (joinV a b m d t fs R) w.heap.size r w' ∧ Below w.heap.size w w' := by
  have Hb := Lib.hid ((Blk.new w 51 #[.int .i64 a, .int .i64 b, .int .i64 m, .int .i64 d, .int .i64 t, v]).alloc (Obj.cells #[.int .i64 0, .int .i64 0, .int .i64 0, .int .i64 0, .int .i64 0, .slice none 0 0] 51))
  have HR := Lib.hid (Blk.new1 w (Obj.cells #[.int .i64 a, .int .i64 b, .int .i64 m, .int .i64 d, .int .i64 t, v] 51) 51 #[.int .i64 0, .int .i64 0, .int .i64 0, .int .i64 0, .int .i64 0, .slice none 0 0])
  have hb0 := bal (bal (Below.refl w.heap.size w) (Obj.cells #[.int .i64 a, .int .i64 b, .int .i64 m, .int .i64 d, .int .i64 t, v] 51)) (Obj.cells #[.int .i64 0, .int .i64 0, .int .i64 0, .int .i64 0, .int .i64 0, .slice none 0 0] 51)
  have Hrd := Lib.hid (hv.on hb0)
  have Hu := Lib.hid (hu.on hb0)
  have HbA := Lib.hid hb0; clear hb0 hv
  have Hsp := Lib.hid (tkG_spec (a := a) (b := b) (m := m) (d := d) (t := t) (fs := fs))
  obtain ⟨Au, cu, rfl, hcu, hmu⟩ := nrd_form hu
  unfold maxLen at hmu
  clear hu
  have hrl : R.length ≤ 9223372036854775807 := by omega
  clear hcu hmu
  go_enter Tryz.func37, Tryz.ntmps37
  go_wp2_with fail
  refine (skGood_any a b m d t v fs _ Hrd.out).mono ?_; rintro r w1 ⟨rfl, hb1⟩
  have HB1 := Lib.hid (Hb.out.on hb1); have HR1 := Lib.hid (HR.out.on hb1); have Hu1 := Lib.hid (Hu.out.on hb1); have Hb1 := Lib.hid (bthen HbA.out hb1); clear hb1
  cases hk : tkG a b m d t fs
  · have HN := Lib.hid (joinV_bad (R := R) hk)
    clear hk
    have r0 := HR1.out.cell 0
    have r1 := HR1.out.cell 1
    have r2 := HR1.out.cell 2
    have r3 := HR1.out.cell 3
    have r4 := HR1.out.cell 4
    have r5 := HR1.out.cell 5
    simp at r0 r1 r2 r3 r4 r5
    have rl := HR1.out.lt
    have rf := HR1.out.frozen
    go_wp2
    clear r0 r1 r2 r3 r4 r5 rf
    have HR6 := HR1.out.set6 (b0 := .int .i64 0) (b1 := .int .i64 0) (b2 := .int .i64 0) (b3 := .int .i64 0) (b4 := .int .i64 0) (b5 := .slice none 0 0)
    have k0 := HR6.cell 0
    have k1 := HR6.cell 1
    have k2 := HR6.cell 2
    have k3 := HR6.cell 3
    have k4 := HR6.cell 4
    have k5 := HR6.cell 5
    simp at k0 k1 k2 k3 k4 k5
    exact bodyPost_ret (v := .tuple #[.agg #[.int .i64 0, .int .i64 0, .int .i64 0, .int .i64 0, .int .i64 0, .slice none 0 0], .bool false]) (by simp [results, Tryz.results37, go_sem, k0, k1, k2, k3, k4, k5]) rfl ⟨TkRet.zero HN.out, bst (bst (bst (bst (bst (bst (Hb1.out) (Nat.le_succ _) _) (Nat.le_succ _) _) (Nat.le_succ _) _) (Nat.le_succ _) _) (Nat.le_succ _) _) (Nat.le_succ _) _⟩
  · have Hs := Lib.hid (Hsp.out hk)
    have Hsm := Lib.hid (fun n h => joinV_some (R := R) (n := n) hk h)
    have Hk := Lib.hid hk; clear hk
    have Hrest : Hid (0 ≤ totI m d - t) := Lib.hid (by have := Hs.out.2.1; omega)
    by_cases hl : 8 < R.length
    · have hl' : (8 : Int) < (R.length : Int) := by omega
      have HN := Lib.hid (joinV_none (a := a) (b := b) (fs := fs) (jnF_long (m := m) (d := d) (t := t) Hrest.out hl 8 1 (by decide) (by decide)))
      have r0 := HR1.out.cell 0
      have r1 := HR1.out.cell 1
      have r2 := HR1.out.cell 2
      have r3 := HR1.out.cell 3
      have r4 := HR1.out.cell 4
      have r5 := HR1.out.cell 5
      simp at r0 r1 r2 r3 r4 r5
      have rl := HR1.out.lt
      have rf := HR1.out.frozen
      go_wp2
      clear r0 r1 r2 r3 r4 r5 rf
      have HR6 := HR1.out.set6 (b0 := .int .i64 0) (b1 := .int .i64 0) (b2 := .int .i64 0) (b3 := .int .i64 0) (b4 := .int .i64 0) (b5 := .slice none 0 0)
      have k0 := HR6.cell 0
      have k1 := HR6.cell 1
      have k2 := HR6.cell 2
      have k3 := HR6.cell 3
      have k4 := HR6.cell 4
      have k5 := HR6.cell 5
      simp at k0 k1 k2 k3 k4 k5
      exact bodyPost_ret (v := .tuple #[.agg #[.int .i64 0, .int .i64 0, .int .i64 0, .int .i64 0, .int .i64 0, .slice none 0 0], .bool false]) (by simp [results, Tryz.results37, go_sem, k0, k1, k2, k3, k4, k5]) rfl ⟨TkRet.zero HN.out, bst (bst (bst (bst (bst (bst (Hb1.out) (Nat.le_succ _) _) (Nat.le_succ _) _) (Nat.le_succ _) _) (Nat.le_succ _) _) (Nat.le_succ _) _) (Nat.le_succ _) _⟩
    · have hl' : ¬ (8 : Int) < (R.length : Int) := by omega
      have Hl8 : Hid (R.length ≤ 8) := Lib.hid (by omega)
      have q0 := HB1.out.cell 0
      have q1 := HB1.out.cell 1
      have q2 := HB1.out.cell 2
      have q3 := HB1.out.cell 3
      have q4 := HB1.out.cell 4
      have q5 := HB1.out.cell 5
      simp at q0 q1 q2 q3 q4 q5
      have ql := HB1.out.lt
      go_wp2
      clear q0 q1 q2 q3 q4 q5 ql hl hl' hrl
      go_loopw [6] (fun q wr => ∃ k : Nat, q = .int .i64 ((k : Int) + 1) ∧ k ≤ 8 ∧ Hid (jnF m d t R 8 1 = jnF m d t R (8 - k) ((k : Int) + 1)) ∧ Below w1.heap.size w1 wr) (fun q _ => 10 - (intOf q).toNat)
      case atStart => exact ⟨0, rfl, by omega, Lib.hid rfl, Below.refl _ _⟩
      case round =>
        obtain ⟨k, rfl, hk8, Hj, hb⟩ := hrel
        have HBr := Lib.hid (HB1.out.on hb); have HRr := Lib.hid (HR1.out.on hb); have Hur := Lib.hid (Hu1.out.on hb); have Hbr := Lib.hid (bthen Hb1.out hb)
        by_cases hlt : k < 8
        · have hq1 : (1 : Int) ≤ (k : Int) + 1 ∧ (k : Int) + 1 ≤ 8 := by omega
          have hq2 : (k : Int) + 1 ≤ 8 := hq1.2
          have Hrin := Lib.hid (rangesL_in (m := m) (d := d) (t := t) (w := (k : Int) + 1) Hrest.out hq1.1)
          obtain ⟨f, hf⟩ : ∃ f, 8 - k = f + 1 := ⟨7 - k, by omega⟩
          have Hhit := Lib.hid (fun h => Hj.out.trans (show jnF m d t R (8 - k) ((k : Int) + 1) = some (jAt R (rangesL m d t ((k : Int) + 1)) t) by rw [hf]; exact jnF_hit (m := m) (d := d) (t := t) (R := R) (f := f) (w := (k : Int) + 1) h))
          have Hmiss := Lib.hid (fun h => Hj.out.trans (show jnF m d t R (8 - k) ((k : Int) + 1) = jnF m d t R f ((k : Int) + 1 + 1) by rw [hf]; exact jnF_miss (m := m) (d := d) (t := t) (R := R) (f := f) (w := (k : Int) + 1) h))
          have Hf := Lib.hid hf; clear hf
          have Hsj := Lib.hid (skJoin_any a b m d t ((k : Int) + 1) v _ R wr Hs.out.1 Hs.out.2.1 hq1 Hur.out Hl8.out)
          generalize rangesL m d t ((k : Int) + 1) = L at Hsj Hrin Hhit Hmiss
          have q0 := HBr.out.cell 0
          have q1 := HBr.out.cell 1
          have q2 := HBr.out.cell 2
          have q3 := HBr.out.cell 3
          have q4 := HBr.out.cell 4
          have q5 := HBr.out.cell 5
          simp at q0 q1 q2 q3 q4 q5
          have ql := HBr.out.lt
          go_wp2_with fail
          refine Hsj.out.mono ?_; rintro r w3 ⟨rfl, hb3⟩
          clear q0 q1 q2 q3 q4 q5 ql
          have HB3 := Lib.hid (HBr.out.on hb3); have HR3 := Lib.hid (HRr.out.on hb3); have Hb3 := Lib.hid (bthen Hbr.out hb3); have Hb13 := Lib.hid (bthen hb hb3); clear hb3
          cases hsm : smB R L
          · have Hnx := Lib.hid (Hmiss.out hsm)
            rw [skJ_no (t := t) (by rw [← sm_sk Hrin.out.cnt]; exact hsm)]
            clear hsm
            go_wp2
            go_roundw
            case rel => exact ⟨k + 1, by go_num, by omega, Lib.hid (by rw [Hnx.out, show 8 - (k + 1) = f by have := Hf.out; omega, show ((k + 1 : Nat) : Int) + 1 = (k : Int) + 1 + 1 by omega]), Hb13.out⟩
            case measure => simp [intOf]; omega
          · have HV := Lib.hid (Hsm.out _ (Hhit.out hsm))
            rw [skJ_yes (t := t) (by rw [← sm_sk Hrin.out.cnt]; exact hsm)]
            clear hsm
            have hbda := jAt_bd R (at0 := t) (F := totI m d) L t Hrin.out.el (Int.le_refl _) Hs.out.2.1.2
            have ht0 := Hs.out.2.1.1
            generalize jAt R L t = n at HV hbda
            have hn0 : 0 ≤ n := by omega
            have Hnb : Hid (0 ≤ n ∧ n ≤ totI m d) := Lib.hid ⟨hn0, hbda.2⟩
            clear hbda ht0
            have q0 := HB3.out.cell 0
            have q1 := HB3.out.cell 1
            have q2 := HB3.out.cell 2
            have q3 := HB3.out.cell 3
            have q4 := HB3.out.cell 4
            have q5 := HB3.out.cell 5
            simp at q0 q1 q2 q3 q4 q5
            have ql := HB3.out.lt
            go_wp2_with fail
            refine (skAt_any a b m d t n v _ Hs.out.1 Hnb.out).mono ?_; rintro e w9 ⟨⟨v9, rfl, hown9⟩, hb9⟩
            obtain ⟨A9, c9, rfl, -, -, -⟩ := Rd.of_own (S := ptS) hown9 rfl
            have HR9 := Lib.hid (HR3.out.on hb9); have Hb9 := Lib.hid (bthen Hb3.out hb9); have Hrl := Lib.hid HR3.out.lt; have Hown9 := Lib.hid hown9; clear hown9 hb9
            have r0 := HR9.out.cell 0
            have r1 := HR9.out.cell 1
            have r2 := HR9.out.cell 2
            have r3 := HR9.out.cell 3
            have r4 := HR9.out.cell 4
            have r5 := HR9.out.cell 5
            simp at r0 r1 r2 r3 r4 r5
            have rl := HR9.out.lt
            have rf := HR9.out.frozen
            go_wp2
            clear r0 r1 r2 r3 r4 r5 rf
            have HR6 := HR9.out.set6 (b0 := .int .i64 a) (b1 := .int .i64 b) (b2 := .int .i64 m) (b3 := .int .i64 d) (b4 := .int .i64 n) (b5 := .slice A9 (hitsZ a b m 0 n).length c9)
            have k0 := HR6.cell 0
            have k1 := HR6.cell 1
            have k2 := HR6.cell 2
            have k3 := HR6.cell 3
            have k4 := HR6.cell 4
            have k5 := HR6.cell 5
            simp at k0 k1 k2 k3 k4 k5
            exact bodyPost_ret (v := .tuple #[.agg #[.int .i64 a, .int .i64 b, .int .i64 m, .int .i64 d, .int .i64 n, .slice A9 (hitsZ a b m 0 n).length c9], .bool true]) (by simp [results, Tryz.results37, go_sem, k0, k1, k2, k3, k4, k5]) rfl ⟨TkRet.mk HV.out (own_far (g := w.heap.size + 1) Hown9.out (by repeat (first | (with_reducible exact grefl _ _) | (with_reducible refine only_cell ?_) | (with_reducible refine only_drew ?_))) Hrl.out) (by have := Hrl.out; omega), bst (bst (bst (bst (bst (bst (Hb9.out) (Nat.le_succ _) _) (Nat.le_succ _) _) (Nat.le_succ _) _) (Nat.le_succ _) _) (Nat.le_succ _) _) (Nat.le_succ _) _⟩
        · obtain rfl : k = 8 := by omega
          have HN := Lib.hid (joinV_none (a := a) (b := b) (fs := fs) (show jnF m d t R 8 1 = none by rw [Hj.out]; rfl))
          have r0 := HRr.out.cell 0
          have r1 := HRr.out.cell 1
          have r2 := HRr.out.cell 2
          have r3 := HRr.out.cell 3
          have r4 := HRr.out.cell 4
          have r5 := HRr.out.cell 5
          simp at r0 r1 r2 r3 r4 r5
          have rl := HRr.out.lt
          have rf := HRr.out.frozen
          go_wp2
          clear r0 r1 r2 r3 r4 r5 rf
          have HR6 := HRr.out.set6 (b0 := .int .i64 0) (b1 := .int .i64 0) (b2 := .int .i64 0) (b3 := .int .i64 0) (b4 := .int .i64 0) (b5 := .slice none 0 0)
          have k0 := HR6.cell 0
          have k1 := HR6.cell 1
          have k2 := HR6.cell 2
          have k3 := HR6.cell 3
          have k4 := HR6.cell 4
          have k5 := HR6.cell 5
          simp at k0 k1 k2 k3 k4 k5
          exact bodyPost_ret (v := .tuple #[.agg #[.int .i64 0, .int .i64 0, .int .i64 0, .int .i64 0, .int .i64 0, .slice none 0 0], .bool false]) (by simp [results, Tryz.results37, go_sem, k0, k1, k2, k3, k4, k5]) rfl ⟨TkRet.zero HN.out, bst (bst (bst (bst (bst (bst (Hbr.out) (Nat.le_succ _) _) (Nat.le_succ _) _) (Nat.le_succ _) _) (Nat.le_succ _) _) (Nat.le_succ _) _) (Nat.le_succ _) _⟩
end
section
open Go Go.RowKit
theorem take_getP {E : Type} {S : Shape E} {es : List E} {k : Nat} (h : k < es.length) : es.take (k + 1) = es.take k ++ [S.get es k] := by
  rw [List.take_succ_eq_append_getElem h]
  unfold Shape.get
  rw [List.getD_eq_getElem?_getD, List.getElem?_eq_getElem h]; rfl
set_option maxRecDepth 8000 in
theorem neqPtQ (x y : Pt) (W : World) : (binOp .neq 117 (.agg #[.int .i64 x.x, .int .i64 x.y, .int .i64 x.e]) (.agg #[.int .i64 y.x, .int .i64 y.y, .int .i64 y.e])).run Tryz.prog W = .ok (.bool (!decide (x = y))) W := by
  obtain ⟨a0, a1, a2⟩ := x
  obtain ⟨b0, b1, b2⟩ := y
  by_cases h0 : a0 = b0
  · by_cases h1 : a1 = b1
    · by_cases h2 : a2 = b2
      · simp [go_sem, h0, h1, h2]
      · simp [go_sem, h0, h1, h2]
    · simp [go_sem, h0, h1]
  · simp [go_sem, h0]
set_option maxRecDepth 8000 in
set_option maxHeartbeats 4000000 in
theorem qPt_any (u v : Value) (es fs : List Pt) (w : World) (hu : Rd ptS w w.heap.size u es) (hv : Rd ptS w w.heap.size v fs) :
    Calls Tryz.prog 33 #[u, v] w fun r w' => r = .returned (.bool (decide (es = fs))) ∧ Below w.heap.size w w' := by
  obtain ⟨A, c, rfl, hc, hm, hA⟩ := hu
  obtain ⟨A', c', rfl, hc', hm', hA'⟩ := hv
  unfold maxLen at hm hm'
  by_cases hlen : es.length = fs.length
  · have hne : ((es.length : Int) != (fs.length : Int)) = false := by simp [hlen]
    rcases Nat.eq_zero_or_pos es.length with h0 | h0
    · obtain rfl : es = [] := List.eq_nil_of_length_eq_zero h0
      obtain rfl : fs = [] := List.eq_nil_of_length_eq_zero (by rw [← hlen]; exact h0)
      clear hA hA' hlen hne
      go_enter Tryz.func33, Tryz.ntmps33
      go_wp2
      refine wp_loop_rounds 1 ?_
      rw [rounds_succ]
      go_wp2
      go_ret
      exact ⟨rfl, by (repeat (with_reducible first | exact Below.refl _ _ | assumption | refine bal ?_ _ | refine bst ?_ (by simp <;> omega) _ | refine Below.drew ?_ | refine bthen ?_ (by assumption)))⟩
    · obtain ⟨g, off, rfl, hg, hcell⟩ := hA h0
      obtain ⟨g', off', rfl, hg', hcell'⟩ := hA' (by omega)
      clear hA hA'
      have hcell := pt_cells hcell
      have hcell' := pt_cells hcell'
      rw [← hlen] at hcell' hc'
      have Hlen := Lib.hid hlen
      rw [← hlen]
      clear hlen hne
      go_enter Tryz.func33, Tryz.ntmps33
      go_wp2
      go_loopw [13] (fun i wr => ∃ k : Nat, k ≤ es.length ∧ i = .int .i64 k ∧ Hid (es.take k = fs.take k) ∧ Below w.heap.size w wr) (fun i _ => es.length - (intOf i).toNat)
      case atStart => exact ⟨0, Nat.zero_le _, rfl, Lib.hid (by simp), Below.refl _ _⟩
      case round =>
        obtain ⟨k, hk, rfl, Heq, hb⟩ := hrel
        by_cases hlt : k < es.length
        · obtain ⟨f0, f1, f2⟩ := hcell k hlt
          obtain ⟨p0, p1, p2⟩ := hcell' k hlt
          rw [← hb.cell (p := ⟨_, _, _⟩) hg] at f0 f1 f2
          rw [← hb.cell (p := ⟨_, _, _⟩) hg'] at p0 p1 p2
          obtain ⟨x, hx⟩ : ∃ e, ptS.get es k = e := ⟨_, rfl⟩
          obtain ⟨y, hy⟩ : ∃ e, ptS.get fs k = e := ⟨_, rfl⟩
          rw [hx] at f0 f1 f2
          rw [hy] at p0 p1 p2
          have Hx := Lib.hid hx; have Hy := Lib.hid hy
          have hgr : g < wr.heap.size := Nat.lt_of_lt_of_le hg hb.size
          have hgr' : g' < wr.heap.size := Nat.lt_of_lt_of_le hg' hb.size
          have hi0 : (0 : Int) ≤ (k : Int) := by omega
          have hi1 : (k : Int) < (es.length : Int) := by omega
          have hql := neqPtQ x y
          clear hcell hcell' hx hy
          by_cases hd : x = y
          · have hql2 : ∀ W, (binOp .neq 117 (.agg #[.int .i64 x.x, .int .i64 x.y, .int .i64 x.e]) (.agg #[.int .i64 y.x, .int .i64 y.y, .int .i64 y.e])).run Tryz.prog W = .ok (.bool false) W := fun W => by rw [hql W, decide_eq_true hd]; rfl
            have Hnext := Lib.hid (show es.take (k + 1) = fs.take (k + 1) by rw [take_getP (S := ptS) hlt, take_getP (S := ptS) (by have := Hlen.out; omega), Heq.out, Hx.out, Hy.out, hd])
            clear hql hd
            go_wp2
            refine wp_region_tame (by kernel_rfl) (by kernel_rfl) (fun T _ W hT => ?_)
            have hz := hT.cell
            repeat (go_big_quiet_step (fail))
            refine wpQuiet_nil ?_
            intro t
            clear hz
            go_wp2
            go_roundw
            case rel => exact ⟨k + 1, by omega, by go_num, Hnext, bthen hb (hT.below t)⟩
            case measure => simp [intOf]; omega
          · have hql2 : ∀ W, (binOp .neq 117 (.agg #[.int .i64 x.x, .int .i64 x.y, .int .i64 x.e]) (.agg #[.int .i64 y.x, .int .i64 y.y, .int .i64 y.e])).run Tryz.prog W = .ok (.bool true) W := fun W => by rw [hql W, decide_eq_false hd]; rfl
            have Hno := Lib.hid (show decide (es = fs) = false from decide_eq_false (fun e => hd (by rw [← Hx.out, ← Hy.out, e])))
            clear hql hd
            go_wp2
            refine wp_region_tame (by kernel_rfl) (by kernel_rfl) (fun T _ W hT => ?_)
            have hz := hT.cell
            repeat (go_big_quiet_step (fail))
            refine wpQuiet_nil ?_
            intro t
            clear hz
            go_wp2
            go_ret
            exact ⟨ret_bool Hno.out.symm, bthen hb (hT.below t)⟩
        · obtain rfl : k = es.length := by omega
          have Hyes := Lib.hid (show decide (es = fs) = true from decide_eq_true (by have h := Heq.out; rw [List.take_length, Hlen.out, List.take_length] at h; exact h))
          clear hcell hcell'
          go_wp2
          go_ret
          exact ⟨ret_bool Hyes.out.symm, hb⟩
  · have hne : ((es.length : Int) != (fs.length : Int)) = true := by simp; omega
    have Hno := Lib.hid (show decide (es = fs) = false from decide_eq_false (fun e => hlen (by rw [e])))
    clear hA hA'
    have Hlen := Lib.hid hlen; clear hlen
    go_enter Tryz.func33, Tryz.ntmps33
    go_wp2
    go_ret
    exact ⟨ret_bool Hno.out.symm, by (repeat (with_reducible first | exact Below.refl _ _ | assumption | refine bal ?_ _ | refine bst ?_ (by simp <;> omega) _ | refine Below.drew ?_ | refine bthen ?_ (by assumption)))⟩
end
section
open Go Go.RowKit

theorem qPt_same (u v : Value) (es : List Pt) (w : World) (hu : Rd ptS w w.heap.size u es) (hv : Rd ptS w w.heap.size v es) :
    Calls Tryz.prog 33 #[u, v] w fun r w' => r = .returned (.bool true) ∧ Below w.heap.size w w' := by
  have h := qPt_any u v es es w hu hv
  rwa [decide_eq_true rfl] at h
set_option maxRecDepth 8000 in
set_option maxHeartbeats 1600000 in
theorem qTk_same (a b m d t : Int) (u v : Value) (es : List Pt) (w : World) (hu : Rd ptS w w.heap.size u es) (hv : Rd ptS w w.heap.size v es) :
    Calls Tryz.prog 38 #[.agg #[.int .i64 a, .int .i64 b, .int .i64 m, .int .i64 d, .int .i64 t, u], .agg #[.int .i64 a, .int .i64 b, .int .i64 m, .int .i64 d, .int .i64 t, v]] w fun r w' => r = .returned (.bool true) ∧ Below w.heap.size w w' := by
  have hbA := bal (bal (Below.refl w.heap.size w) (Obj.cells #[.int .i64 a, .int .i64 b, .int .i64 m, .int .i64 d, .int .i64 t, u] 51)) (Obj.cells #[.int .i64 a, .int .i64 b, .int .i64 m, .int .i64 d, .int .i64 t, v] 51)
  have Hu := Lib.hid (hu.on hbA); have Hv := Lib.hid (hv.on hbA)
  have hu0 := hu; have hv0 := hv
  obtain ⟨A1, c1, rfl, -⟩ := hu0
  obtain ⟨A2, c2, rfl, -⟩ := hv0
  clear hu hv
  have HbA := Lib.hid hbA; clear hbA
  go_enter Tryz.func38, Tryz.ntmps38
  go_wp2_with fail
  refine (qPt_same _ _ es _ Hu.out Hv.out).mono ?_; rintro e w1 ⟨rfl, hb1⟩
  go_wp2
  go_ret
  exact ⟨rfl, bthen HbA.out hb1⟩
end
section
open Go Go.RowKit
theorem wpList_append_src {P : Program} {w : World} {ops : Array Oper} {rest : List Oper} {o : Oper} {a : Act} {Q : Exit → Act → World → Prop} (hgd : o.guard = none) (s x : Operand) (t : TypeId)
    (ho : o.op = .call { callee := .builtin .append, args := #[s, x], argTypes := #[t, t] })
    (base : Nat) (e : TypeId) (i : TypeInfo) (z : Value) (size bytes : Nat) (ht : P.underlying t = some (.slice e)) (hi : P.info? e = some i) (hz : i.zero = some z)
    (hsize : i.size = size) (hby : i.bytes = bytes) (hzs : z.cells.size = size) (hsz : 0 < size)
    (v : Value) (n : Nat) (xs : List Value) (hs : a.eval s = v) (hown : w.ownsRow base e size v n xs)
    (A : Option Addr) (m c : Nat) (news : List Value) (hx : a.eval x = .slice A m c) (hl : news.length = m * size) (hA : A = none → m = 0) (hnews : ∀ a, A = some a → ∀ j u, news[j]? = some u → w.cell? (a.add j) = some u) (h1 : ∀ u ∈ news, u.oneCell' = true)
    (h63 : n + m ≤ maxLen) (hbytes : (n + m) * bytes ≤ 140737488355328) (hbase : base ≤ w.heap.size)
    (h : ∀ v' w', w'.ownsRow base e size v' (n + m) (xs ++ news) → w.grownBy w' v.ownBlock → wpList P ops Q rest (a.put o.dst v') w') : wpList P ops Q (o :: rest) a w := by
  obtain ⟨v', w', hr, h2, h3, -⟩ := run_append_src (P := P) w base t o.type e i z size bytes ht hi hz hsize hby hzs hsz v n xs hown A m c news hl hA hnews h1 h63 hbytes hbase
  refine wpList_plain hgd fun K hK => ?_
  unfold Oper.wp execOp
  simp only [ho, resolve, invoke, builtin, Sem.run_bind, Sem.run_pure, Result.andThen_ok, List.map_toArray, List.map_cons, List.map_nil, hs, hx, hr]
  exact hK _ _ (h v' w' h2 h3)
end
end Go.Proofs.YtnhgdmhiblpknaaGreatDoor
