/- Plain laws of a catalogue's text: its pieces and lines, and what each way to read makes of them. Conditions: none. -/
import Derived.Test.YticbmpjdcanjkaaDoorSpl
import Derived.Test.YticbmpjdcanjkaaDoorCatT
namespace Go.Proofs.YticbmpjdcanjkaaDoor
open Go Go.RowKit

/-- A text is that of a catalogue. -/
def PcIs (s : ByteArray) (es : List En) : Prop := catB es = true ∧ catT es es.length = s
def En.ok (e : En) : Bool := entB e.a e.b e.lo e.hi e.to
def entW2 (e : En) : List UInt8 := Lib.itoa e.lo ++ 46 :: 46 :: Lib.itoa e.hi
def entD (e : En) : List UInt8 := Lib.join [Lib.itoa e.a, Lib.itoa e.b, entW2 e, Lib.itoa e.to] [32]
theorem entD_eq (e : En) : entD e = Lib.itoa e.a ++ 32 :: (Lib.itoa e.b ++ 32 :: (entW2 e ++ 32 :: Lib.itoa e.to)) := by
  unfold entD
  rw [join2, join2, join2, Lib.join_one]
theorem entT_data (e : En) : (entT e).data.toList = entD e ++ [10] := by
  rw [entD_eq]
  unfold entT entW2 itS
  simp [nTextD]
def glue (c : UInt8) (ls : List (List UInt8)) : List UInt8 := ls.flatMap (· ++ [c])
theorem glue_cons (c : UInt8) (x : List UInt8) (r : List (List UInt8)) : glue c (x :: r) = x ++ c :: glue c r := by
  simp [glue]
theorem catT_glue (es : List En) : ∀ k, k ≤ es.length → (catT es k).data.toList = glue 10 ((es.take k).map entD)
  | 0, _ => by rfl
  | k + 1, hk => by
    have ih := catT_glue es k (by omega)
    have hg : enS.get es k = es[k] := by
      unfold Shape.get
      rw [List.getD_eq_getElem?_getD, List.getElem?_eq_getElem (by omega)]; rfl
    unfold catT
    rw [ByteArray.data_append, Array.toList_append, ih, entT_data, hg, List.take_succ_eq_append_getElem (by omega), List.map_append]
    unfold glue
    rw [List.flatMap_append]
    simp only [List.map_cons, List.map_nil, List.flatMap_cons, List.flatMap_nil, List.append_nil]
theorem pcIs_data {s : ByteArray} {es : List En} (h : PcIs s es) : s.data.toList = glue 10 (es.map entD) := by
  rw [← h.2, catT_glue es _ (Nat.le_refl _), List.take_length]
theorem splitK_glue (c : UInt8) : ∀ ls : List (List UInt8), (∀ w ∈ ls, c ∉ w) → Lib.splitK [c] 1 ls.length (glue c ls) = ls.map (· ++ [c]) ++ [[]]
  | [], _ => rfl
  | x :: r, h => by
    have ih := splitK_glue c r (fun w hw => h w (by simp [hw]))
    rw [glue_cons, List.length_cons]
    unfold Lib.splitK
    rw [ix_here c _ x (h x (by simp)), if_neg (by intro e; have := beq_iff_eq.1 e; omega)]
    simp only [Int.toNat_natCast, List.length_cons, List.length_nil, Nat.zero_add]
    rw [show (x ++ c :: glue c r).drop (x.length + 1) = glue c r by rw [← List.drop_drop, List.drop_left]; rfl, ih]
    rw [show (x ++ c :: glue c r).take (x.length + 1) = x ++ [c] by
      rw [List.take_append, List.take_of_length_le (by omega), show x.length + 1 - x.length = 1 by omega]; rfl]
    rfl
theorem count_glue (c : UInt8) : ∀ ls : List (List UInt8), (∀ w ∈ ls, c ∉ w) → (glue c ls).count c = ls.length
  | [], _ => rfl
  | x :: r, h => by
    rw [glue_cons, List.count_append, List.count_cons_self, count_glue c r (fun w hw => h w (by simp [hw])), List.count_eq_zero.2 (h x (by simp)), List.length_cons]
    omega
theorem spl_glue (c : UInt8) : ∀ ls : List (List UInt8), (∀ w ∈ ls, c ∉ w) → spl c (glue c ls) = ls ++ [[]]
  | [], _ => rfl
  | x :: r, h => by
    rw [glue_cons, spl_here c _ x (h x (by simp)), spl_glue c r (fun w hw => h w (by simp [hw]))]
    rfl
theorem itoa_no {c : UInt8} (hc : ¬ (c.toNat = 45 ∨ 48 ≤ c.toNat ∧ c.toNat ≤ 57)) (n : Int) : c ∉ Lib.itoa n := fun h => hc (itoa_byte n c h)
theorem w2_no {c : UInt8} (hc : ¬ (c.toNat = 45 ∨ 46 ≤ c.toNat ∧ c.toNat ≤ 57)) (e : En) : c ∉ entW2 e := by
  unfold entW2
  intro h
  have h46 : c ≠ 46 := by rintro rfl; exact hc (Or.inr (by decide))
  simp only [List.mem_append, List.mem_cons] at h
  rcases h with h | h | h | h
  · exact itoa_no (fun hh => hc (by omega)) _ h
  · exact h46 h
  · exact h46 h
  · exact itoa_no (fun hh => hc (by omega)) _ h
theorem entD_no10 (e : En) : (10 : UInt8) ∉ entD e := by
  rw [entD_eq]
  intro h
  simp only [List.mem_append, List.mem_cons] at h
  rcases h with h | h | h | h | h | h | h
  · exact itoa_no (by decide) _ h
  · revert h; decide
  · exact itoa_no (by decide) _ h
  · revert h; decide
  · exact w2_no (by decide) _ h
  · revert h; decide
  · exact itoa_no (by decide) _ h

/-! ### The pieces of a text: each with the byte at its end -/
def pcsB (s : ByteArray) : List ByteArray := Lib.splitB ⟨#[10]⟩ 1 (Lib.countB s ⟨#[10]⟩) s
theorem pcs_data {s : ByteArray} {es : List En} (h : PcIs s es) : (pcsB s).map (·.data.toList) = (es.map entD).map (· ++ [10]) ++ [[]] := by
  have hno : ∀ w ∈ es.map entD, (10 : UInt8) ∉ w := by
    intro w hw
    obtain ⟨e, -, rfl⟩ := List.mem_map.1 hw
    exact entD_no10 e
  have hc : Lib.countB s ⟨#[10]⟩ = (es.map entD).length := by
    show Lib.count s.data.toList [10] = _
    rw [Lib.count_one, pcIs_data h, count_glue 10 _ hno]
  unfold pcsB
  rw [Lib.splitB_data, hc, pcIs_data h]
  exact splitK_glue 10 _ hno
theorem pcs_len {s : ByteArray} {es : List En} (h : PcIs s es) : (pcsB s).length = es.length + 1 := by
  have := congrArg List.length (pcs_data h)
  simpa using this
theorem pcs_at {s : ByteArray} {es : List En} (h : PcIs s es) {j : Nat} (hj : j < es.length) (hp : j < (pcsB s).length) : (pcsB s)[j].data.toList = entD es[j] ++ [10] := by
  have h1 := congrArg (fun l => l[j]?) (pcs_data h)
  simp only [List.getElem?_map, List.getElem?_eq_getElem hp, Option.map_some] at h1
  rw [List.getElem?_append_left (by simpa using hj)] at h1
  simp only [List.getElem?_map, List.getElem?_eq_getElem hj, Option.map_some] at h1
  exact Option.some.inj h1
theorem pcs_end {s : ByteArray} {es : List En} (h : PcIs s es) {j : Nat} (hj : es.length ≤ j) (hp : j < (pcsB s).length) : (pcsB s)[j].data.toList = [] := by
  have hl := pcs_len h
  obtain rfl : j = es.length := by omega
  have h1 := congrArg (fun l => l[es.length]?) (pcs_data h)
  simp only [List.getElem?_map, List.getElem?_eq_getElem hp, Option.map_some] at h1
  rw [List.getElem?_append_right (by simp)] at h1
  simpa using h1
theorem pcIs_ok {s : ByteArray} {es : List En} (h : PcIs s es) {j : Nat} (hj : j < es.length) : es[j].ok = true := by
  have h1 := okAt_ent9 ((catB_all9 h.1).2 j hj)
  have hg : enS.get es j = es[j] := by
    unfold Shape.get
    rw [List.getD_eq_getElem?_getD, List.getElem?_eq_getElem hj]; rfl
  rw [hg] at h1
  exact h1
theorem pcIs_len {s : ByteArray} {es : List En} (h : PcIs s es) : es.length ≤ 12 := (catB_all9 h.1).1

/-! ### The program's way to read a line -/
def trimL (p : List UInt8) : List UInt8 := Lib.trimSuffix p [10]
theorem trimL_line (l : List UInt8) : trimL (l ++ [10]) = l := by
  unfold trimL Lib.trimSuffix Lib.hasSuffix
  rw [if_pos (by rw [List.isSuffixOf_iff_suffix]; exact List.suffix_append _ _)]
  simp
theorem trimL_len (p : List UInt8) : (trimL p).length ≤ p.length := by
  unfold trimL Lib.trimSuffix
  split
  · rw [List.length_take]; exact Nat.min_le_right _ _
  · exact Nat.le_refl _
def splW4 (s : ByteArray) : List ByteArray := Lib.splitB ⟨#[32]⟩ 0 (Lib.countB s ⟨#[32]⟩) s
theorem splW4_length (s : ByteArray) : (splW4 s).length = Lib.countB s ⟨#[32]⟩ + 1 := Lib.splitB_all ⟨#[32]⟩ (by decide) 0 _ _ rfl
theorem splW4_join {s : ByteArray} {x : List UInt8} {r : List (List UInt8)} (h : s.data.toList = Lib.join (x :: r) [32]) (hno : ∀ w ∈ x :: r, (32 : UInt8) ∉ w) : (splW4 s).map (·.data.toList) = x :: r := by
  have hc : Lib.countB s ⟨#[32]⟩ = r.length := by
    show Lib.count s.data.toList [32] = _
    rw [Lib.count_one, h, count_join 32 _ _ hno]
  unfold splW4
  rw [Lib.splitB_data, hc, h]
  exact splitK_join 32 r x hno
/-- Four words of a line, read as an entry. -/
def rd4I (w0 w1 w2 w3 : List UInt8) : Option En :=
  match paC (w0 ++ 32 :: w1), Lib.atoiAll (Lib.cut w2 [46, 46]).1, Lib.atoiAll (Lib.cut w2 [46, 46]).2.1, Lib.atoiAll w3 with
  | some (a, b), .ok lo, .ok hi, .ok t => some ⟨a, b, lo, hi, t⟩
  | _, _, _, _ => none
theorem ix2_here (r : List UInt8) : ∀ w : List UInt8, (46 : UInt8) ∉ w → Lib.index (w ++ 46 :: 46 :: r) [46, 46] = w.length
  | [], _ => by
    rw [List.nil_append]
    unfold Lib.index
    rw [if_pos (by simp [List.isPrefixOf])]
    rfl
  | b :: l, h => by
    have hne : (46 : UInt8) ≠ b := fun e => h (by simp [e])
    rw [List.cons_append]
    unfold Lib.index
    rw [if_neg (by simp [List.isPrefixOf, hne]), ix2_here r l (fun h2 => h (by simp [h2]))]
    rw [if_neg (by intro e; have := beq_iff_eq.1 e; omega)]
    simp
theorem cut2_here (w r : List UInt8) (h : (46 : UInt8) ∉ w) : Lib.cut (w ++ 46 :: 46 :: r) [46, 46] = (w, r, true) := by
  unfold Lib.cut
  rw [ix2_here r w h, if_pos (by omega)]
  simp only [Int.toNat_natCast, List.take_left', List.length_cons, List.length_nil, Nat.zero_add]
  rw [show (w ++ 46 :: 46 :: r).drop (w.length + 2) = r by rw [← List.drop_drop, List.drop_left]; rfl]
theorem atoi_big (n : Int) (h : n.natAbs < 10 ^ 15) : Lib.atoiAll (Lib.itoa n) = .ok n := atoiAll_itS n h
theorem ok_bd {e : En} (h : e.ok = true) : EnBd e := enBd h
theorem ok_curve {e : En} (h : e.ok = true) : curveB e.a e.b = true := by
  unfold En.ok entB at h
  simp only [Bool.and_eq_true] at h
  exact h.1
theorem rd4I_ent {e : En} (h : e.ok = true) : rd4I (Lib.itoa e.a) (Lib.itoa e.b) (entW2 e) (Lib.itoa e.to) = some e := by
  have hb := ok_bd h
  have h1 := hb.a; have h2 := hb.b; have h3 := hb.lo; have h4 := hb.hi; have h5 := hb.tt
  unfold rd4I entW2
  rw [cut2_here _ _ (itoa_no (by decide) _), ← nTextD, paC_text (ok_curve h)]
  simp only
  rw [atoi_big e.lo (by omega), atoi_big e.hi (by omega), atoi_big e.to (by omega)]
/-- A line, read by the program. -/
def clI (p : List UInt8) : Option En :=
  match (splW4 ⟨(trimL p).toArray⟩).map (·.data.toList) with
  | [w0, w1, w2, w3] => rd4I w0 w1 w2 w3
  | _ => none
theorem clI_ent {e : En} (h : e.ok = true) : clI (entD e ++ [10]) = some e := by
  unfold clI
  rw [trimL_line, splW4_join (s := ⟨(entD e).toArray⟩) (x := Lib.itoa e.a) (r := [Lib.itoa e.b, entW2 e, Lib.itoa e.to]) rfl]
  · exact rd4I_ent h
  · intro w hw
    simp only [List.mem_cons, List.not_mem_nil, or_false] at hw
    rcases hw with rfl | rfl | rfl | rfl
    · exact itoa_no32 _
    · exact itoa_no32 _
    · exact w2_no (by decide) _
    · exact itoa_no32 _

/-! ### The reference's way to read a line -/
def rd4S (w0 w1 w2 w3 : List UInt8) : Option En :=
  match paC (w0 ++ 32 :: w1), spl 46 w2 with
  | some (a, b), [x, _, y] => some ⟨a, b, rdN x, rdN y, rdN w3⟩
  | _, _ => none
theorem rd4S_ent {e : En} (h : e.ok = true) : rd4S (Lib.itoa e.a) (Lib.itoa e.b) (entW2 e) (Lib.itoa e.to) = some e := by
  have hb := ok_bd h
  have h3 := hb.lo; have h4 := hb.hi; have h5 := hb.tt
  have hs : spl 46 (entW2 e) = [Lib.itoa e.lo, [], Lib.itoa e.hi] := by
    unfold entW2
    rw [spl_here 46 _ _ (itoa_no (by decide) _), show (46 : UInt8) :: Lib.itoa e.hi = [] ++ 46 :: Lib.itoa e.hi from rfl, spl_here 46 _ _ (by simp), spl_none 46 _ (itoa_no (by decide) _)]
  unfold rd4S
  rw [hs, ← nTextD, paC_text (ok_curve h)]
  simp only
  rw [rdN_itoa (by omega) (by omega), rdN_itoa (by omega) (by omega), rdN_itoa (by omega) (by omega)]
def clS (l : List UInt8) : Option En :=
  match spl 32 l with
  | [w0, w1, w2, w3] => rd4S w0 w1 w2 w3
  | _ => none
theorem clS_ent {e : En} (h : e.ok = true) : clS (entD e) = some e := by
  unfold clS
  have hs : spl 32 (entD e) = [Lib.itoa e.a, Lib.itoa e.b, entW2 e, Lib.itoa e.to] := by
    unfold entD
    refine spl_join 32 _ _ (fun w hw => ?_)
    simp only [List.mem_cons, List.not_mem_nil, or_false] at hw
    rcases hw with rfl | rfl | rfl | rfl
    · exact itoa_no32 _
    · exact itoa_no32 _
    · exact w2_no (by decide) _
    · exact itoa_no32 _
  rw [hs]
  exact rd4S_ent h
theorem lines_data {s : ByteArray} {es : List En} (h : PcIs s es) : spl 10 s.data.toList = es.map entD ++ [[]] := by
  rw [pcIs_data h]
  refine spl_glue 10 _ (fun w hw => ?_)
  obtain ⟨e, -, rfl⟩ := List.mem_map.1 hw
  exact entD_no10 e
theorem lines_len {s : ByteArray} {es : List En} (h : PcIs s es) : (spl 10 s.data.toList).length = es.length + 1 := by
  rw [lines_data h]; simp
theorem lines_at {s : ByteArray} {es : List En} (h : PcIs s es) {j : Nat} (hj : j + 1 < (spl 10 s.data.toList).length) : ∃ h2 : j < es.length, (spl 10 s.data.toList)[j] = entD es[j] := by
  have hl := lines_len h
  have h2 : j < es.length := by omega
  refine ⟨h2, ?_⟩
  have h1 : (spl 10 s.data.toList)[j]? = (es.map entD ++ [[]])[j]? := congrArg (fun l => l[j]?) (lines_data h)
  rw [List.getElem?_eq_getElem (by omega), List.getElem?_append_left (by simpa using h2)] at h1
  simp only [List.getElem?_map, List.getElem?_eq_getElem h2, Option.map_some] at h1
  exact Option.some.inj h1

/-! ### What has been read so far -/
/-- xs are the first entries, whatever the text's entries are. -/
def PcInv (s : ByteArray) (j : Nat) (xs : List En) : Prop := ∀ es, PcIs s es → xs = es.take j
theorem PcInv.zero (s : ByteArray) : PcInv s 0 [] := fun _ _ => rfl
def NoPc (s : ByteArray) : Prop := ∀ es, ¬ PcIs s es
section
variable {s : ByteArray} {j : Nat} {xs : List En}
theorem PcInv.skip (h : PcInv s j xs) (hp : j < (pcsB s).length) (h0 : (pcsB s)[j].data.toList = []) : PcInv s (j + 1) xs := by
  intro es he
  have hn : es.length ≤ j := by
    rcases Nat.lt_or_ge j es.length with h1 | h1
    · have := pcs_at he h1 hp
      rw [h0] at this
      simp at this
    · exact h1
  rw [h es he, List.take_of_length_le hn, List.take_of_length_le (by omega)]
theorem PcInv.room {es : List En} (he : PcIs s es) (hp : j < (pcsB s).length) (h0 : (pcsB s)[j].data.toList ≠ []) : j < es.length := by
  rcases Nat.lt_or_ge j es.length with h1 | h1
  · exact h1
  · exact absurd (pcs_end he h1 hp) h0
theorem PcInv.full (h : PcInv s j xs) (hp : j < (pcsB s).length) (h0 : (pcsB s)[j].data.toList ≠ []) (h12 : xs.length = 12) : NoPc s := by
  intro es he
  have h1 := PcInv.room he hp h0
  have h2 := congrArg List.length (h es he)
  rw [List.length_take] at h2
  have := pcIs_len he
  omega
theorem PcInv.bad (hp : j < (pcsB s).length) (h0 : (pcsB s)[j].data.toList ≠ []) (hc : clI (pcsB s)[j].data.toList = none) : NoPc s := by
  intro es he
  have h1 := PcInv.room he hp h0
  rw [pcs_at he h1 hp, clI_ent (pcIs_ok he h1)] at hc
  cases hc
theorem PcInv.next (h : PcInv s j xs) (hp : j < (pcsB s).length) (h0 : (pcsB s)[j].data.toList ≠ []) {e : En} (hc : clI (pcsB s)[j].data.toList = some e) : PcInv s (j + 1) (xs ++ [e]) := by
  intro es he
  have h1 := PcInv.room he hp h0
  rw [pcs_at he h1 hp, clI_ent (pcIs_ok he h1)] at hc
  injection hc with hc
  rw [h es he, ← hc, List.take_succ_eq_append_getElem h1]
theorem PcInv.done (h : PcInv s j xs) (hj : j = (pcsB s).length) {es : List En} (he : PcIs s es) : xs = es := by
  have := pcs_len he
  rw [h es he, List.take_of_length_le (by omega)]
theorem PcInv.badS (hp : j + 1 < (spl 10 s.data.toList).length) (hc : clS (spl 10 s.data.toList)[j] = none) : NoPc s := by
  intro es he
  obtain ⟨h1, h2⟩ := lines_at he hp
  rw [h2, clS_ent (pcIs_ok he h1)] at hc
  cases hc
theorem PcInv.nextS (h : PcInv s j xs) (hp : j + 1 < (spl 10 s.data.toList).length) {e : En} (hc : clS (spl 10 s.data.toList)[j] = some e) : PcInv s (j + 1) (xs ++ [e]) := by
  intro es he
  obtain ⟨h1, h2⟩ := lines_at he hp
  rw [h2, clS_ent (pcIs_ok he h1)] at hc
  injection hc with hc
  rw [h es he, ← hc, List.take_succ_eq_append_getElem h1]
theorem PcInv.doneS (h : PcInv s j xs) (hj : j + 1 = (spl 10 s.data.toList).length) {es : List En} (he : PcIs s es) : xs = es := by
  have := lines_len he
  rw [h es he, List.take_of_length_le (by omega)]
theorem pc_many (h : 13 < (spl 10 s.data.toList).length) : NoPc s := by
  intro es he
  have := lines_len he
  have := pcIs_len he
  omega
end

/-- What both hand back. -/
noncomputable def pkV (s : ByteArray) : List En × Bool := @dite _ (∃ es, PcIs s es) (Classical.propDecidable _) (fun h => (Classical.choose h, true)) (fun _ => ([], false))
theorem pcIs_inj {s : ByteArray} {es fs : List En} (h : PcIs s es) (k : PcIs s fs) : es = fs := by
  have h1 := lines_data h
  rw [lines_data k] at h1
  have h2 := (List.append_cancel_right h1).symm
  have h3 : ∀ gs : List En, PcIs s gs → (gs.map entD).map clS = gs.map some := by
    intro gs hg
    apply List.ext_getElem
    · simp
    · intro i h1 h2
      simp only [List.getElem_map]
      exact clS_ent (pcIs_ok hg (by simpa using h2))
  have h4 := congrArg (List.map clS) h2
  rw [h3 es h, h3 fs k] at h4
  exact (List.map_inj_right (fun a b e => by injection e)).1 h4
theorem pkV_some {s : ByteArray} {es : List En} (h : PcIs s es) : pkV s = (es, true) := by
  have hx : ∃ es, PcIs s es := ⟨es, h⟩
  unfold pkV
  rw [dif_pos hx, pcIs_inj (Classical.choose_spec hx) h]
theorem pkV_none {s : ByteArray} (h : NoPc s) : pkV s = ([], false) := by
  unfold pkV
  rw [dif_neg]
  rintro ⟨es, he⟩
  exact h es he
end Go.Proofs.YticbmpjdcanjkaaDoor
