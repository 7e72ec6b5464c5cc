/- Plain laws of the law FnRecovery: a text that is cut or torn begins with records of the whole one; what was recovered is a journal; a sealed line is read back just as the first one. Conditions: none. -/
import Derived.Test.YtimfoodbolokdaaGreatDoorJour2
import Derived.Test.YtimfoodbolokdaaGreatDoorCrashJ
import Derived.Test.YtimfoodbolokdaaGreatDoorEtM8
import Derived.Test.YtimfoodbolokdaaGreatDoorSealR
import Derived.Lib.IndexLaws
namespace Go.Proofs.YtimfoodbolokdaaGreatDoor
open Go Go.RowKit

theorem ixb_no {l : List UInt8} {c : UInt8} (h : c ∉ l) : Lib.indexByte l c < 0 := by
  by_cases h0 : 0 ≤ Lib.indexByte l c
  · exact absurd (List.mem_of_getElem? (Lib.indexByte_some (l := l) (c := c) (o := (Lib.indexByte l c).toNat) (by omega)).1) h
  · omega
theorem ixb_not {l : List UInt8} {c : UInt8} (h : Lib.indexByte l c < 0) : c ∉ l := by
  intro hm
  obtain ⟨k, hk, e⟩ := List.mem_iff_getElem.1 hm
  exact Lib.indexByte_none (l := l) (c := c) (by have := Lib.indexByte_ge l c; omega) k (by rw [List.getElem?_eq_getElem hk, e])
theorem ixb_cut {l : List UInt8} {c : UInt8} {j : Nat} (h : 0 ≤ Lib.indexByte l c) (hj : (Lib.indexByte l c).toNat < j) : Lib.indexByte (l.take j) c = Lib.indexByte l c := by
  have h1 : 0 ≤ Lib.indexByte (l.take j) c := by
    by_cases h2 : 0 ≤ Lib.indexByte (l.take j) c
    · exact h2
    · have h3 := (Lib.indexByte_some (l := l) (c := c) (o := (Lib.indexByte l c).toNat) (by omega)).1
      have h4 : (l.take j)[(Lib.indexByte l c).toNat]? = some c := by rw [List.getElem?_take, if_pos hj]; exact h3
      exact absurd (List.mem_of_getElem? h4) (ixb_not (by omega))
  have h2 := ixb_app (l.take j) (l.drop j) c h1
  rw [List.take_append_drop] at h2
  exact h2.symm
/-- The part of a text that has been read is read alike. -/
theorem openF_take : ∀ (F : Nat) (k : Int) (l : List UInt8), openF F k (l.take (openF F k l).2) = openF F k l := by
  intro F
  induction F with
  | zero => exact fun k l => rfl
  | succ F ih =>
    intro k l
    rcases openF_cases (F + 1) k l with h | ⟨G, r, hG, h0, hr, h⟩
    · rw [h, List.take_zero]; exact openF_none (by decide)
    · obtain rfl : F = G := by omega
      have ih2 := ih (k + 1) (l.drop ((Lib.indexByte l 10).toNat + 1))
      have hi := ixb_cut (j := (openF (F + 1) k l).2) h0 (by rw [h]; simp only; omega)
      have hm2 : (openF (F + 1) k l).2 = (Lib.indexByte l 10).toNat + 1 + (openF F (k + 1) (l.drop ((Lib.indexByte l 10).toNat + 1))).2 := by rw [h]
      generalize (openF (F + 1) k l).2 = m at hi hm2 ⊢
      have ht : (l.take m).take ((Lib.indexByte l 10).toNat + 1) = l.take ((Lib.indexByte l 10).toNat + 1) := by rw [List.take_take, Nat.min_eq_left (by omega)]
      have hd : (l.take m).drop ((Lib.indexByte l 10).toNat + 1) = (l.drop ((Lib.indexByte l 10).toNat + 1)).take (openF F (k + 1) (l.drop ((Lib.indexByte l 10).toNat + 1))).2 := by
        rw [List.drop_take]; congr 1; omega
      rw [openF_step (by rw [hi]; exact h0) (r := r) (by rw [hi, ht]; exact hr), h, hi, hd, ih2]
/-- A text that is cut, with something behind it that holds no newline: its records are the first ones. -/
theorem openF_cut : ∀ (F : Nat) (k : Int) (P : List UInt8) (n : Nat) (E : List UInt8), (10 : UInt8) ∉ E → ∃ rest, (openF F k P).1 = (openF F k (P.take n ++ E)).1 ++ rest := by
  intro F
  induction F with
  | zero => exact fun k P n E _ => ⟨[], rfl⟩
  | succ F ih =>
    intro k P n E hE
    rcases openF_cases (F + 1) k (P.take n ++ E) with h | ⟨G, r, hG, h0, hr, h⟩
    · rw [h]; exact ⟨_, (List.nil_append _).symm⟩
    · obtain rfl : F = G := by omega
      have h1 : 0 ≤ Lib.indexByte (P.take n) 10 := by
        by_cases h2 : 0 ≤ Lib.indexByte (P.take n) 10
        · exact h2
        · have := ixb_no (l := P.take n ++ E) (c := 10) (by rw [List.mem_append]; rintro (h3 | h3); exact ixb_not (by omega) h3; exact hE h3)
          omega
      have e1 := ixb_app (P.take n) E 10 h1
      have e2 := ixb_app (P.take n) (P.drop n) 10 h1
      rw [List.take_append_drop] at e2
      have hl := ixb_lt _ _ h1
      have hl2 := hl
      rw [List.length_take] at hl
      rw [e1, ← e2] at h hr
      rw [← e2] at hl hl2 h1
      have ht : (P.take n ++ E).take ((Lib.indexByte P 10).toNat + 1) = P.take ((Lib.indexByte P 10).toNat + 1) := by
        rw [List.take_append_of_le_length (by omega), List.take_take, Nat.min_eq_left (by omega)]
      have hd : (P.take n ++ E).drop ((Lib.indexByte P 10).toNat + 1) = (P.drop ((Lib.indexByte P 10).toNat + 1)).take (n - ((Lib.indexByte P 10).toNat + 1)) ++ E := by
        rw [List.drop_append_of_le_length (by omega), List.drop_take]
      rw [ht] at hr
      rw [hd] at h
      obtain ⟨rest, hrest⟩ := ih (k + 1) (P.drop ((Lib.indexByte P 10).toNat + 1)) (n - ((Lib.indexByte P 10).toNat + 1)) E hE
      refine ⟨rest, ?_⟩
      rw [openF_step h1 hr, h]
      simp only [List.cons_append]
      rw [hrest]

/-! ### The bytes of a line -/
theorem line_list (k : Int) (r : Rc) : (r.line k).data.toList = (Lib.itoa k ++ 32 :: (Lib.itoa r.a ++ 32 :: (Lib.itoa r.b ++ 32 :: (Lib.itoa r.lo ++ 32 :: (Lib.itoa r.hi ++ 35 :: Lib.itoa (sumL (nText [k, r.a, r.b, r.lo, r.hi]).data.toList)))))) ++ [10] := by
  unfold Rc.line lineS nText itS
  simp [Lib.join, List.intercalate]
theorem itoa_le (n : Int) : ∀ b ∈ Lib.itoa n, b.toNat ≤ 57 ∧ b ≠ 10 := by
  intro b hb
  refine ⟨by have := itoa_byte n b hb; omega, ?_⟩
  rintro rfl
  have := itoa_byte n 10 hb
  revert this; decide
theorem line_head (k : Int) (r : Rc) : ∃ X : List UInt8, (r.line k).data.toList = X ++ [10] ∧ ∀ b ∈ X, b.toNat ≤ 57 ∧ b ≠ 10 := by
  refine ⟨_, line_list k r, ?_⟩
  intro b hb
  simp only [List.mem_append, List.mem_cons] at hb
  have q32 : ((32 : UInt8).toNat ≤ 57 ∧ (32 : UInt8) ≠ 10) := by decide
  have q35 : ((35 : UInt8).toNat ≤ 57 ∧ (35 : UInt8) ≠ 10) := by decide
  rcases hb with h | rfl | h | rfl | h | rfl | h | rfl | h | rfl | h
  all_goals first | exact itoa_le _ _ h | exact q32 | exact q35
theorem line_byte {k : Int} {r : Rc} : ∀ b ∈ (r.line k).data.toList, b.toNat ≤ 57 := by
  obtain ⟨X, e, h⟩ := line_head k r
  rw [e]
  intro b hb
  rcases List.mem_append.1 hb with hb | hb
  · exact (h b hb).1
  · rw [List.mem_singleton] at hb; subst hb; decide
theorem openF_byte : ∀ (F : Nat) (k : Int) (l : List UInt8), ∀ b ∈ l.take (openF F k l).2, b.toNat ≤ 57 := by
  intro F
  induction F with
  | zero => intro k l b hb; rw [openF_zero, List.take_zero] at hb; cases hb
  | succ F ih =>
    intro k l b hb
    rcases openF_cases (F + 1) k l with h | ⟨G, r, hG, h0, hr, h⟩
    · rw [h, List.take_zero] at hb; cases hb
    · obtain rfl : F = G := by omega
      rw [h] at hb
      simp only at hb
      rw [List.take_add] at hb
      rcases List.mem_append.1 hb with hb | hb
      · have h2 := (rdL_spec hr).2
        have h3 : (r.line k).data.toList = l.take ((Lib.indexByte l 10).toNat + 1) := by rw [h2]
        exact line_byte (k := k) (r := r) b (by rw [h3]; exact hb)
      · exact ih _ _ b hb
theorem jrP_byte {D P : ByteArray} (h : jrOk D P = true) : ∀ b ∈ P.data.toList, b.toNat ≤ 57 := by
  have h0 := (of_decide_eq_true h).2
  intro b hb
  have h1 := openF_byte (30 - (jrA D).1.length) ((jrA D).1.length : Int) P.data.toList b
  refine h1 ?_
  have h2 : (openF (30 - (jrA D).1.length) ((jrA D).1.length : Int) P.data.toList).2 = P.data.toList.length := h0
  rw [h2, List.take_length]
  exact hb

/-! ### What a crash leaves -/
theorem crT_form {P : ByteArray} {n : Nat} (torn : Bool) (hn : n ≤ P.size) (hb : ∀ b ∈ P.data.toList, b.toNat ≤ 57) : ∃ m E, (crT P n torn).data.toList = P.data.toList.take m ++ E ∧ (10 : UInt8) ∉ E := by
  have e : (P.extract 0 n).data.toList = P.data.toList.take n := by rw [ext_data, List.drop_zero, Nat.sub_zero]
  unfold crT
  split
  · rename_i h
    refine ⟨n - 1, [255 - (P.data.toList.take n).getD (n - 1) 0], ?_, ?_⟩
    · show tornL _ = _
      unfold tornL
      have hl : (P.data.toList.take n).length = n := by rw [List.length_take]; exact Nat.min_eq_left hn
      rw [e, hl, List.set_eq_take_append_cons_drop, if_pos (by rw [hl]; omega), List.take_take, Nat.min_eq_left (by omega), List.drop_eq_nil_of_le (by rw [hl]; omega)]
    · intro h10
      rw [List.mem_singleton] at h10
      have hm : (P.data.toList.take n).getD (n - 1) 0 ∈ P.data.toList := by
        have hl : n - 1 < (P.data.toList.take n).length := by rw [List.length_take]; have : P.data.toList.length = P.size := rfl; omega
        rw [List.getD_eq_getElem?_getD, List.getElem?_eq_getElem hl]
        exact List.mem_of_mem_take (List.getElem_mem hl)
      have h1 := hb _ hm
      have h2 := torn_byte ((P.data.toList.take n).getD (n - 1) 0)
      rw [← h10] at h2
      have h3 : ((10 : UInt8).toNat : Int) = 10 := by decide
      omega
  · exact ⟨n, [], by rw [e, List.append_nil], by simp⟩
/-- What is behind a crash begins with the durable part; its records are the first ones. -/
theorem rec_law {D P : ByteArray} {n : Nat} {torn : Bool} (hok : jrOk D P = true) (hn : n ≤ P.size) :
    D.size ≤ (jrA (D ++ crT P n torn)).2 ∧ (jrA (D ++ crT P n torn)).1.length ≤ (jrRecs D P).length ∧
    (∀ j, j < (jrA (D ++ crT P n torn)).1.length → rcS.get (jrRecs D P) j = rcS.get (jrA (D ++ crT P n torn)).1 j) ∧
    (torn = false → n = P.size → (jrA (D ++ crT P n torn)).1.length = (jrRecs D P).length) := by
  have h0 := of_decide_eq_true hok
  rw [jr_both h0.1]
  obtain ⟨m, E, he, h10⟩ := crT_form torn hn (jrP_byte hok)
  obtain ⟨rest, hr⟩ := openF_cut (30 - (jrA D).1.length) ((jrA D).1.length : Int) P.data.toList m E h10
  rw [← he] at hr
  have hr2 : (jrN D P).1 = (jrN D (crT P n torn)).1 ++ rest := hr
  have hr3 : jrRecs D P = jrRecs D (crT P n torn) ++ rest := by unfold jrRecs; rw [hr2, List.append_assoc]
  refine ⟨Nat.le_add_right _ _, by show (jrRecs D (crT P n torn)).length ≤ _; rw [hr3, List.length_append]; omega, ?_, ?_⟩
  · intro j hj
    show rcS.get (jrRecs D P) j = rcS.get (jrRecs D (crT P n torn)) j
    have hj' : j < (jrRecs D (crT P n torn)).length := hj
    rw [hr3]
    unfold Shape.get
    rw [List.getD_eq_getElem?_getD, List.getD_eq_getElem?_getD, List.getElem?_append_left hj']
  · intro ht hn2
    have hc : crT P n torn = P := by
      unfold crT
      rw [if_neg (by rw [ht]; intro h; cases h.1)]
      apply bytes_ext
      rw [ext_data, List.drop_zero, hn2, Nat.sub_zero]; exact List.take_length
    show (jrRecs D (crT P n torn)).length = _
    rw [hc]

/-! ### What was recovered -/
theorem ext_take (t : ByteArray) (n : Nat) : (t.extract 0 n).data.toList = t.data.toList.take n := by rw [ext_data, List.drop_zero, Nat.sub_zero]
theorem jrA_ext (t : ByteArray) : jrA (t.extract 0 (jrA t).2) = jrA t := by
  have h := openF_take 30 0 t.data.toList
  unfold jrA at h ⊢
  rw [ext_take, h]
theorem ext_size (t : ByteArray) : (t.extract 0 (jrA t).2).size = (jrA t).2 := by
  have := (jrA_le t).2
  rw [ByteArray.size_extract]; omega
theorem jrN_nil (D : ByteArray) : jrN D ⟨#[]⟩ = ([], 0) := openF_none (by decide)
theorem rec_ok (t : ByteArray) : jrOk (t.extract 0 (jrA t).2) ⟨#[]⟩ = true := by
  unfold jrOk
  refine decide_eq_true ⟨?_, ?_⟩
  · rw [jrA_ext, ext_size]
  · rw [jrN_nil]; rfl
theorem rec_recs (t : ByteArray) : jrV (t.extract 0 (jrA t).2) ⟨#[]⟩ = (jrA t).1 := by
  rw [jrV_ok (rec_ok t)]
  unfold jrRecs
  rw [jrN_nil, jrA_ext, List.append_nil]
theorem reV_yes {t : ByteArray} (h : t.size ≤ 4000) : reV t = (t.extract 0 (jrA t).2, (jrA t).2, true) := by unfold reV; rw [if_pos h]
theorem reV_law {t d : ByteArray} {n : Nat} (h : reV t = (d, n, true)) : d = t.extract 0 n ∧ n ≤ t.size ∧ jrOk d ⟨#[]⟩ = true := by
  unfold reV at h
  split at h
  · simp only [Prod.mk.injEq] at h
    obtain ⟨rfl, rfl, -⟩ := h
    exact ⟨rfl, (jrA_le t).2, rec_ok t⟩
  · simp at h

/-! ### A sealed line -/
theorem line_ix (k : Int) (r : Rc) : (Lib.indexByte (r.line k).data.toList 10).toNat + 1 = (r.line k).size ∧ 0 ≤ Lib.indexByte (r.line k).data.toList 10 := by
  obtain ⟨X, e, h⟩ := line_head k r
  have hs : (r.line k).size = X.length + 1 := by
    have : (r.line k).data.toList.length = (r.line k).size := rfl
    rw [← this, e, List.length_append]; rfl
  have h0 : 0 ≤ Lib.indexByte (r.line k).data.toList 10 := by
    by_cases h0 : 0 ≤ Lib.indexByte (r.line k).data.toList 10
    · exact h0
    · exact absurd (show (10 : UInt8) ∈ (r.line k).data.toList by rw [e]; simp) (ixb_not (by omega))
  refine ⟨?_, h0⟩
  have h1 := (Lib.indexByte_some (l := (r.line k).data.toList) (c := 10) (o := (Lib.indexByte (r.line k).data.toList 10).toNat) (by omega)).1
  have h2 := ixb_lt _ _ h0
  rw [hs]
  rw [e] at h1 h2 ⊢
  rw [List.length_append, List.length_singleton] at h2
  generalize (Lib.indexByte (X ++ [10]) 10).toNat = i at h1 h2 ⊢
  by_cases hi : i < X.length
  · rw [List.getElem?_append_left hi, List.getElem?_eq_getElem hi] at h1
    injection h1 with h1
    exact absurd h1 (h _ (List.getElem_mem hi)).2
  · omega
theorem line_pos (k : Int) (r : Rc) : 0 < (r.line k).size := by have := line_ix k r; omega
theorem line_take (k : Int) (r : Rc) : (⟨((r.line k).data.toList.take ((Lib.indexByte (r.line k).data.toList 10).toNat + 1)).toArray⟩ : ByteArray) = r.line k := by
  apply bytes_ext
  rw [(line_ix k r).1]
  exact List.take_length
/-- The line of number 0 is read whole; that of another is not read as the first. -/
theorem seal_law {k : Int} {r : Rc} (h : r.ok = true) (hk : 0 ≤ k ∧ k ≤ 29) : (k = 0 → jrA (r.line k) = ([r], (r.line k).size)) ∧ (k ≠ 0 → jrA (r.line k) = ([], 0)) := by
  obtain ⟨hi, h0⟩ := line_ix k r
  refine ⟨?_, ?_⟩
  · rintro rfl
    have h1 := openF_step (F := 29) (k := 0) (l := (r.line 0).data.toList) (r := r) h0 (by rw [line_take]; exact rdL_some h hk rfl)
    unfold jrA
    rw [h1, hi, show (r.line 0).data.toList.drop (r.line 0).size = [] from List.drop_length, openF_none (by decide)]
    rfl
  · intro hne
    unfold jrA
    refine openF_bad ?_
    rw [line_take]
    cases hr : rdL 0 (r.line k) with
    | none => rfl
    | some q =>
      have h1 := rdL_spec hr
      have h2 := rec_words h1.1 (by omega) h1.2
      have h3 := rec_words (line := r.line k) h hk rfl
      have h4 := okNums_inj h2 h3
      injection h4 with h5
      exact absurd h5.symm hne
theorem sealV_rc {k a b lo hi : Int} {l : ByteArray} (h : sealV k a b lo hi = (l, true)) : (0 ≤ k ∧ k ≤ 29) ∧ (⟨a, b, lo, hi⟩ : Rc).ok = true ∧ (⟨a, b, lo, hi⟩ : Rc).line k = l := by
  unfold sealV at h
  split at h
  · rename_i hh
    simp only [Bool.and_eq_true] at hh
    simp only [Prod.mk.injEq, and_true] at h
    exact ⟨insB_true hh.2, hh.1, h⟩
  · simp at h
/-- A sealed line: recovered whole if it is the first, else not at all. -/
theorem seal_rec {k a b lo hi : Int} {l : ByteArray} (h : sealV k a b lo hi = (l, true)) : 0 < l.size ∧ l.size ≤ 40 ∧ ((k = 0 ∧ reV l = (l, l.size, true)) ∨ (k ≠ 0 ∧ reV l = (⟨#[]⟩, 0, true))) := by
  obtain ⟨hk, hr, rfl⟩ := sealV_rc h
  have hl := line_len hr hk
  have h1 := seal_law hr hk
  refine ⟨line_pos _ _, hl, ?_⟩
  rw [reV_yes (by omega)]
  by_cases h0 : k = 0
  · refine Or.inl ⟨h0, ?_⟩
    rw [h1.1 h0]
    refine Prod.ext ?_ rfl
    apply bytes_ext
    rw [ext_take]; exact List.take_length
  · refine Or.inr ⟨h0, ?_⟩
    rw [h1.2 h0]
    refine Prod.ext ?_ rfl
    apply bytes_ext
    rw [ext_take]; rfl
/-- The whole of it. -/
theorem crash_law {D P s : ByteArray} {k : Int} {torn : Bool} (h : crV D P k torn = (s, true)) : (0 ≤ k ∧ k ≤ P.size) ∧ jrOk D P = true ∧ ∃ (m : Nat) (d : ByteArray), reV s = (d, m, true) ∧ jrOk d ⟨#[]⟩ = true ∧ d.size ≤ 4000 ∧ D.size ≤ m ∧
    (jrV d ⟨#[]⟩).length ≤ (jrV D P).length ∧ (∀ j, j < (jrV d ⟨#[]⟩).length → rcS.get (jrV D P) j = rcS.get (jrV d ⟨#[]⟩) j) ∧ (torn = false → k = P.size → (jrV d ⟨#[]⟩).length = (jrV D P).length) := by
  unfold crV at h
  split at h
  · rename_i hh
    obtain ⟨hok, hk⟩ := hh
    obtain ⟨h0, h1⟩ := insB_true hk
    simp only [Prod.mk.injEq, and_true] at h
    subst h
    have hs := jr_size hok
    have hn : k.toNat ≤ P.size := by omega
    have hz := crT_size P k.toNat torn hn
    have hz2 : (D ++ crT P k.toNat torn).size ≤ 4000 := by rw [ByteArray.size_append]; omega
    obtain ⟨l1, l2, l3, l4⟩ := rec_law (torn := torn) hok hn
    refine ⟨⟨h0, h1⟩, hok, _, _, reV_yes hz2, rec_ok _, ?_, l1, ?_, ?_, ?_⟩
    · rw [ext_size]; have := (jrA_le (D ++ crT P k.toNat torn)).2; omega
    · rw [rec_recs, jrV_ok hok]; exact l2
    · rw [rec_recs, jrV_ok hok]; exact l3
    · rw [rec_recs, jrV_ok hok]; exact fun a b => l4 a (by omega)
  · simp at h
end Go.Proofs.YtimfoodbolokdaaGreatDoor
