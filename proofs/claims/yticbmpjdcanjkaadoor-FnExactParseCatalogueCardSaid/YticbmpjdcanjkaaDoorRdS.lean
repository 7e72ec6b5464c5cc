/- The reference's readers: a text parted at a byte; numerals; a curve's text. Conditions: bounds on the text's length. -/
import Derived.Test.YticbmpjdcanjkaaDoorSpl
import Derived.Test.YticbmpjdcanjkaaDoorRecs2
namespace Go.Proofs.YticbmpjdcanjkaaDoor
open Go Go.RowKit

def bsv (l : List UInt8) : Value := .string ⟨l.toArray⟩
theorem ext_mk (s : ByteArray) (a b : Nat) : s.extract a b = ⟨((s.data.toList.drop a).take (b - a)).toArray⟩ := bytes_ext (ext_data s a b)
theorem ext_mk_all (s : ByteArray) (a : Nat) : s.extract a s.size = ⟨(s.data.toList.drop a).toArray⟩ := bytes_ext (ext_all s a)
theorem get_data (s : ByteArray) (i : Nat) (h : i < s.size) : s.data.toList[i]? = some s[i] := Lib.data_getElem? s i h
theorem drop_at (s : ByteArray) (f i : Nat) (h : f ≤ i) (hi : i < s.size) : s.data.toList.drop f = (s.data.toList.drop f).take (i - f) ++ s[i] :: s.data.toList.drop (i + 1) := by
  have h1 : (s.data.toList.drop f).drop (i - f) = s[i] :: s.data.toList.drop (i + 1) := by
    rw [List.drop_drop, show f + (i - f) = i by omega]
    exact List.drop_eq_getElem_cons hi
  rw [← h1, List.take_append_drop]
theorem take_at (s : ByteArray) (f i : Nat) (h : f ≤ i) (hi : i < s.size) : (s.data.toList.drop f).take (i + 1 - f) = (s.data.toList.drop f).take (i - f) ++ [s[i]] := by
  rw [show i + 1 - f = (i - f) + 1 by omega, List.take_add_one]
  rw [List.getElem?_drop, show f + (i - f) = i by omega, get_data s i hi]
  rfl
theorem spl_step {b : UInt8} {D : List (List UInt8)} {s : ByteArray} {f i : Nat} (h : spl b s.data.toList = D ++ spl b (s.data.toList.drop f)) (hf : f ≤ i) (hi : i < s.size) (hn : b ∉ (s.data.toList.drop f).take (i - f)) (hc : s[i] = b) :
    spl b s.data.toList = (D ++ [(s.data.toList.drop f).take (i - f)]) ++ spl b (s.data.toList.drop (i + 1)) := by
  have h1 := spl_here b (s.data.toList.drop (i + 1)) _ hn
  rw [← hc, ← drop_at s f i hf hi, hc] at h1
  rw [h, h1, List.append_assoc]
  rfl
theorem spl_keep {b : UInt8} {s : ByteArray} {f i : Nat} (hf : f ≤ i) (hi : i < s.size) (hn : b ∉ (s.data.toList.drop f).take (i - f)) (hc : s[i] ≠ b) : b ∉ (s.data.toList.drop f).take (i + 1 - f) := by
  rw [take_at s f i hf hi]
  intro h
  rcases List.mem_append.1 h with h | h
  · exact hn h
  · simp at h; exact hc h.symm
theorem spl_end {b : UInt8} {D : List (List UInt8)} {s : ByteArray} {f : Nat} (h : spl b s.data.toList = D ++ spl b (s.data.toList.drop f)) (hn : b ∉ (s.data.toList.drop f).take (s.size - f)) : spl b s.data.toList = D ++ [s.data.toList.drop f] := by
  rw [List.take_of_length_le (by rw [List.length_drop]; exact Nat.le_refl _)] at hn
  rw [h, spl_none b _ hn]
theorem spl_bound {b : UInt8} {D : List (List UInt8)} {s : ByteArray} {r : List (List UInt8)} (h : spl b s.data.toList = D ++ r) : D.length ≤ s.size + 1 := by
  have h1 := spl_len b s.data.toList
  rw [h, List.length_append] at h1
  have : s.data.toList.length = s.size := rfl
  omega
set_option maxRecDepth 8000 in
set_option maxHeartbeats 4000000 in
theorem l1Split_any (s : ByteArray) (b : UInt8) (w : World) (hs : s.size ≤ 4000000) :
    Calls Tryd.prog 9 #[.string s, .int .u8 b.toNat] w fun e w' => (∃ v : Value, e = .returned v ∧ w'.ownsRow w.heap.size 9 1 v (spl b s.data.toList).length ((spl b s.data.toList).map bsv)) ∧ Below w.heap.size w w' := by
  obtain ⟨i0, hi, hz0, hz1, hz2⟩ := info_parts infoStr
  go_enter Tryd.func9, Tryd.ntmps9
  go_wp2
  go_loopw [7, 6, 5] (fun i f o wr => ∃ (k q : Nat) (D : List (List UInt8)), k ≤ s.size ∧ q ≤ k ∧ i = .int .i64 k ∧ f = .int .i64 q ∧ Hid (spl b s.data.toList = D ++ spl b (s.data.toList.drop q)) ∧ Hid (b ∉ (s.data.toList.drop q).take (k - q)) ∧ Below w.heap.size w wr ∧ Hid (wr.ownsRow w.heap.size 9 1 o D.length (D.map bsv))) (fun i _ _ _ => s.size - (intOf i).toNat)
  case atStart => exact ⟨0, 0, [], Nat.zero_le _, Nat.le_refl _, rfl, rfl, Lib.hid (by simp), Lib.hid (by simp), Below.refl _ _, Lib.hid ⟨rfl, Or.inl ⟨rfl, rfl⟩⟩⟩
  case round =>
    obtain ⟨k, q, D, hk, hq, rfl, rfl, Hd, Hn, hb, Hown⟩ := hrel
    obtain ⟨A9, c9, rfl⟩ := own_form Hown.out
    have hDl := spl_bound Hd.out
    have h2 : (0 : Int) ≤ (k : Int) := by omega
    have h3 : (0 : Int) ≤ (q : Int) := by omega
    have h4 : (q : Int) ≤ (k : Int) := by omega
    by_cases hlt : k < s.size
    · have h1 : (k : Int) < (s.size : Int) := by omega
      have h5 : (k : Int) ≤ (s.size : Int) := by omega
      by_cases hc : s[k] = b
      · have hc1 : ((s[k].toNat : Int) == (b.toNat : Int)) = true := by rw [hc]; simp
        have Hnew := Lib.hid (spl_step Hd.out hq hlt Hn.out hc)
        have Hext := Lib.hid (ext_mk s q k)
        clear hc
        go_wp2_with (at_builtin; refine wpList_append_own _ rfl _ _ 28 rfl w.heap.size 9 i0 (.string ⟨#[]⟩) 1 16 Tryd.underlying28 hi hz0 hz1 hz2 rfl (by decide) _ _ _ rfl (Hown.out.alloc _) ⟨wr.heap.size, 0, none⟩ 1 1 [.string (s.extract q k)] rfl rfl ?c1 ?c2 ?c3 ?c4 ?c5 ?_)
        case c1 =>
          intro j u hj
          match j, hj with
          | 0, hj => simp at hj; subst hj; exact (Blk.new wr _ _).cell 0
        case c2 => intro u hu; simp at hu; subst hu; rfl
        case c3 => unfold maxLen; omega
        case c4 => omega
        case c5 => have := hb.size; simp; omega
        intro v' w3 hown' hgrow _
        have hbn : Below w.heap.size w w3 := Below.grown (bal hb _) hgrow (by have := hb.size; simp; omega) (fun j hj => (Hown.out.lt j hj).1)
        have Hown' := Lib.hid (show w3.ownsRow w.heap.size 9 1 v' (D ++ [(s.data.toList.drop q).take (k - q)]).length ((D ++ [(s.data.toList.drop q).take (k - q)]).map bsv) by
          rw [List.map_append, List.length_append, List.map_singleton, bsv, ← Hext.out]; exact hown')
        clear hown' hgrow
        go_wp2
        go_roundw
        case rel => exact ⟨k + 1, k + 1, _, by omega, Nat.le_refl _, by go_num, by go_num, Hnew, Lib.hid (by simp), hbn, Hown'⟩
        case measure => simp [intOf]; omega
      · have hc1 : ((s[k].toNat : Int) == (b.toNat : Int)) = false := by
          refine beq_eq_false_iff_ne.2 (fun e => hc (UInt8.toNat_inj.1 (by omega)))
        have Hnew := Lib.hid (spl_keep hq hlt Hn.out hc)
        clear hc
        go_wp2
        go_roundw
        case rel => exact ⟨k + 1, q, D, by omega, by omega, by go_num, rfl, Hd, Hnew, hb, Hown⟩
        case measure => simp [intOf]; omega
    · obtain rfl : k = s.size := by omega
      have h5 : (q : Int) ≤ (s.size : Int) := by omega
      have Hext := Lib.hid (ext_mk_all s q)
      have Hfin := Lib.hid (spl_end Hd.out Hn.out)
      go_wp2_with (at_builtin; refine wpList_append_own _ rfl _ _ 28 rfl w.heap.size 9 i0 (.string ⟨#[]⟩) 1 16 Tryd.underlying28 hi hz0 hz1 hz2 rfl (by decide) _ _ _ rfl (Hown.out.alloc _) ⟨wr.heap.size, 0, none⟩ 1 1 [.string (s.extract q s.size)] rfl rfl ?c1 ?c2 ?c3 ?c4 ?c5 ?_)
      case c1 =>
        intro j u hj
        match j, hj with
        | 0, hj => simp at hj; subst hj; exact (Blk.new wr _ _).cell 0
      case c2 => intro u hu; simp at hu; subst hu; rfl
      case c3 => unfold maxLen; omega
      case c4 => omega
      case c5 => have := hb.size; simp; omega
      intro v' w3 hown' hgrow _
      have hbn : Below w.heap.size w w3 := Below.grown (bal hb _) hgrow (by have := hb.size; simp; omega) (fun j hj => (Hown.out.lt j hj).1)
      have Hown' := Lib.hid (show w3.ownsRow w.heap.size 9 1 v' (spl b s.data.toList).length ((spl b s.data.toList).map bsv) by
        rw [Hfin.out, List.map_append, List.length_append, List.map_singleton, bsv, ← Hext.out]; exact hown')
      clear hown' hgrow
      go_wp2
      go_ret
      exact ⟨⟨_, rfl, Hown'.out⟩, hbn⟩
end Go.Proofs.YticbmpjdcanjkaaDoor
