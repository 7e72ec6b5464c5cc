/- Own texts put together: The program's records of a journal; The reference's readers: a text parted at a byte; numerals; a curve's text; The reference's readers of numerals and of a curve's text: the walks; The reference's reader of a curve's text: the walk; The walk of the program's reader of a curve's text; The walk of the program's ParseCatalogue; The walk of the reference's reader of a catalogue's line. Conditions: those of each theorem. -/
import Derived.Test.YtimfoodbolokdaaGreatDoorEtM7
import Derived.Test.YtimfoodbolokdaaGreatDoorEtM6
import Derived.Deep.RegionHeld3
import Derived.Deep.DeepCutAuto
namespace Go.Proofs.YtimfoodbolokdaaGreatDoor
section
open Go Go.RowKit

/-- What both hand back: the records, if the journal is valid. -/
def jrV (D P : ByteArray) : List Rc := if jrOk D P = true then jrRecs D P else []
theorem jrV_ok {D P : ByteArray} (h : jrOk D P = true) : jrV D P = jrRecs D P := by unfold jrV; rw [if_pos h]
theorem jrV_no {D P : ByteArray} (h : jrOk D P = false) : jrV D P = [] := by unfold jrV; rw [h]; rfl
theorem rc_one (ys : List Rc) : ∀ u ∈ rcS.flat ys, u.oneCell' = true := by
  intro u hu
  obtain ⟨r, -, hr⟩ := List.mem_flatMap.1 hu
  have hr2 : u ∈ rcS.flat [r] := by simpa [Shape.flat] using hr
  rw [rc4] at hr2
  simp at hr2
  rcases hr2 with rfl | rfl | rfl | rfl <;> rfl
theorem own_two {w : World} {b : Nat} {t : TypeId} {z n c : Nat} {A : Option Addr} {xs : List Value} (h : w.ownsRow b t z (.slice A n c) n xs) : (n = 0 ∧ A = none ∧ c = 0) ∨ ∃ g, A = some ⟨g, 0, none⟩ ∧ b ≤ g ∧ g < w.heap.size := by
  rcases h.2 with ⟨h', hn⟩ | ⟨g, cap, cur, h', hb, hg, -⟩
  · cases h'; exact Or.inl ⟨hn, rfl, rfl⟩
  · cases h'; exact Or.inr ⟨g, rfl, hb, (Array.getElem?_eq_some_iff.1 hg).1⟩
theorem Addr.add_zero_block (g j : Nat) : (⟨g, 0, none⟩ : Addr).add j = ⟨g, j, none⟩ := by
  unfold Addr.add
  by_cases h : j = 0 <;> simp [h]
set_option maxRecDepth 8000 in
set_option maxHeartbeats 4000000 in
theorem recordsOf_any (D P : ByteArray) (w : World) (hD : D.size ≤ 2000000) (hP : P.size ≤ 2000000) (h : Env w) :
    Calls Tryz.prog 136 #[.agg #[.string D, .string P]] w fun e w' => (∃ v : Value, e = .returned (.tuple #[v, .bool (jrOk D P)]) ∧ w'.ownsRow w.heap.size 78 4 v (jrV D P).length (rcS.flat (jrV D P))) ∧ Below w.heap.size w w' := by
  obtain ⟨i0, hi, hz0, hz1, hz2⟩ := info_parts infoRecord
  have Hbx := Lib.hid (Blk.new w 76 #[.string D, .string P])
  have hbA := bal (Below.refl w.heap.size w) (Obj.cells #[.string D, .string P] 76)
  have He := Lib.hid (h.on hbA)
  have HbA := Lib.hid hbA; clear hbA h
  go_enter Tryz.func136, Tryz.ntmps136
  go_wp2_with fail
  refine (readRecords_any D 0 _ (by omega) hD He.out).mono ?_; rintro e w1 ⟨⟨v1, xs, n, ha, rfl, hown1⟩, hb1⟩
  have HB1 := Lib.hid (Hbx.out.on hb1); have He1 := Lib.hid (He.out.on hb1); have Hb1 := Lib.hid (bthen HbA.out hb1); clear hb1
  obtain ⟨A1, c1, rfl⟩ := own_form hown1
  have Hown1 := Lib.hid hown1; clear hown1
  have Ha := Lib.hid (show jrA D = (xs, n) from ha); clear ha
  have q0 := HB1.out.cell 0
  have q1 := HB1.out.cell 1
  have ql := HB1.out.lt
  simp at q0 q1
  have hxl : xs.length ≤ 30 := by have := (jrA_le D).1; rw [Ha.out] at this; exact this
  go_wp2_with fail
  refine (readRecords_any P xs.length _ hxl hP He1.out).mono ?_; rintro e w2 ⟨⟨v2, ys, m, hb, rfl, hown2⟩, hb2⟩
  clear q0 q1 ql
  have HB2 := Lib.hid (HB1.out.on hb2); have Hb2 := Lib.hid (bthen Hb1.out hb2)
  have Hown1' := Lib.hid (own_mono (own_below Hown1.out hb2) (base' := w.heap.size) (by rw [World.size_alloc]; omega))
  obtain ⟨A2, c2, rfl⟩ := own_form hown2
  have Hown2 := Lib.hid hown2; clear hown2 hb2
  have Hbb := Lib.hid (show jrN D P = (ys, m) by unfold jrN; rw [Ha.out]; exact hb); clear hb
  have q0 := HB2.out.cell 0
  have q1 := HB2.out.cell 1
  have ql := HB2.out.lt
  simp at q0 q1
  have neqF : ∀ a b : Nat, a = b → ((a : Int) != (b : Int)) = false := fun a b e => by rw [e]; simp
  have neqT : ∀ a b : Nat, a ≠ b → ((a : Int) != (b : Int)) = true := fun a b e => by simp [bne]; omega
  by_cases hn : n = D.size
  · have hn1 := neqF _ _ hn
    by_cases hm : m = P.size
    · have hm1 := neqF _ _ hm
      have hok : jrOk D P = true := by unfold jrOk; rw [Ha.out, Hbb.out]; exact decide_eq_true ⟨hn, hm⟩
      have hv : jrV D P = xs ++ ys := by rw [jrV_ok hok]; unfold jrRecs; rw [Ha.out, Hbb.out]
      have Hv := Lib.hid hv
      have Hok := Lib.hid hok
      have hyl : ys.length ≤ 30 := by have := (jrN_le D P).1; rw [Hbb.out] at this; simp at this; omega
      clear hok hv
      rcases own_two Hown2.out with ⟨h0, rfl, rfl⟩ | ⟨g2, rfl, hbg, hlg⟩
      · obtain rfl : ys = [] := List.eq_nil_of_length_eq_zero h0
        clear h0 hyl
        go_wp2_with (at_builtin; refine wpList_append_own_none rfl _ _ 83 rfl w.heap.size 78 i0 4 Tryz.underlying83 hi _ _ _ rfl Hown1'.out rfl ?_)
        go_ret2
        exact ⟨⟨_, by rw [Hok.out]; rfl, by rw [Hv.out, List.append_nil]; exact Hown1'.out⟩, Hb2.out⟩
      · go_wp2_with (at_builtin; refine wpList_append_own _ rfl _ _ 83 rfl w.heap.size 78 i0 (.agg #[.int .i64 0, .int .i64 0, .int .i64 0, .int .i64 0]) 4 32 Tryz.underlying83 hi hz0 hz1 hz2 rfl (by decide) _ _ _ rfl Hown1'.out ⟨g2, 0, none⟩ ys.length c2 (rcS.flat ys) rfl ?c0 ?c1 ?c2 ?c3 ?c4 ?c5 ?_)
        case c0 => exact Hown2.out.1
        case c1 =>
          intro j u hj
          have hj2 : j < ys.length * 4 := by rw [← Hown2.out.1]; exact (List.getElem?_eq_some_iff.1 hj).1
          have := Hown2.out.cellAt j hj2
          rw [Addr.add_zero_block]
          rw [this, hj]
        case c2 => exact fun u hu => rc_one ys u hu
        case c3 => unfold maxLen; omega
        case c4 => omega
        case c5 => have := Hb2.out.size; omega
        intro v' w3 hown' hgrow _
        have hbn : Below w.heap.size w w3 := Below.grown Hb2.out hgrow (by have := Hb2.out.size; omega) (fun j hj => (Hown1'.out.lt j hj).1)
        have Hown' := Lib.hid (show w3.ownsRow w.heap.size 78 4 v' (jrV D P).length (rcS.flat (jrV D P)) by rw [Hv.out, Shape.flat_append, List.length_append]; exact hown')
        clear hown' hgrow
        go_wp2
        go_ret2
        exact ⟨⟨_, by rw [Hok.out]; rfl, Hown'.out⟩, hbn⟩
    · have hm1 := neqT _ _ hm
      have hok : jrOk D P = false := by unfold jrOk; rw [Ha.out, Hbb.out]; exact decide_eq_false (fun hh => hm hh.2)
      have Hv := Lib.hid (jrV_no hok)
      have Hok := Lib.hid hok
      clear hok hn hm
      go_wp2
      go_ret2
      exact ⟨⟨_, by rw [Hok.out]; rfl, by rw [Hv.out]; exact ⟨by simp [Shape.flat], Or.inl ⟨rfl, rfl⟩⟩⟩, Hb2.out⟩
  · have hn1 := neqT _ _ hn
    have hok : jrOk D P = false := by unfold jrOk; rw [Ha.out]; exact decide_eq_false (fun hh => hn hh.1)
    have Hv := Lib.hid (jrV_no hok)
    have Hok := Lib.hid hok
    clear hok hn
    go_wp2
    go_ret2
    exact ⟨⟨_, by rw [Hok.out]; rfl, by rw [Hv.out]; exact ⟨by simp [Shape.flat], Or.inl ⟨rfl, rfl⟩⟩⟩, Hb2.out⟩
end
section
open Go Go.RowKit

def bsv (l : List UInt8) : Value := .string ⟨l.toArray⟩
theorem ext_mk (s : ByteArray) (a b : Nat) : s.extract a b = ⟨((s.data.toList.drop a).take (b - a)).toArray⟩ := bytes_ext (ext_data s a b)
theorem ext_mk_all (s : ByteArray) (a : Nat) : s.extract a s.size = ⟨(s.data.toList.drop a).toArray⟩ := bytes_ext (ext_all s a)
theorem get_data (s : ByteArray) (i : Nat) (h : i < s.size) : s.data.toList[i]? = some s[i] := Lib.data_getElem? s i h
theorem drop_at (s : ByteArray) (f i : Nat) (h : f ≤ i) (hi : i < s.size) : s.data.toList.drop f = (s.data.toList.drop f).take (i - f) ++ s[i] :: s.data.toList.drop (i + 1) := by
  have h1 : (s.data.toList.drop f).drop (i - f) = s[i] :: s.data.toList.drop (i + 1) := by
    rw [List.drop_drop, show f + (i - f) = i by omega]
    exact List.drop_eq_getElem_cons hi
  rw [← h1, List.take_append_drop]
theorem take_at (s : ByteArray) (f i : Nat) (h : f ≤ i) (hi : i < s.size) : (s.data.toList.drop f).take (i + 1 - f) = (s.data.toList.drop f).take (i - f) ++ [s[i]] := by
  rw [show i + 1 - f = (i - f) + 1 by omega, List.take_add_one]
  rw [List.getElem?_drop, show f + (i - f) = i by omega, get_data s i hi]
  rfl
theorem spl_step {b : UInt8} {D : List (List UInt8)} {s : ByteArray} {f i : Nat} (h : spl b s.data.toList = D ++ spl b (s.data.toList.drop f)) (hf : f ≤ i) (hi : i < s.size) (hn : b ∉ (s.data.toList.drop f).take (i - f)) (hc : s[i] = b) :
    spl b s.data.toList = (D ++ [(s.data.toList.drop f).take (i - f)]) ++ spl b (s.data.toList.drop (i + 1)) := by
  have h1 := spl_here b (s.data.toList.drop (i + 1)) _ hn
  rw [← hc, ← drop_at s f i hf hi, hc] at h1
  rw [h, h1, List.append_assoc]
  rfl
theorem spl_keep {b : UInt8} {s : ByteArray} {f i : Nat} (hf : f ≤ i) (hi : i < s.size) (hn : b ∉ (s.data.toList.drop f).take (i - f)) (hc : s[i] ≠ b) : b ∉ (s.data.toList.drop f).take (i + 1 - f) := by
  rw [take_at s f i hf hi]
  intro h
  rcases List.mem_append.1 h with h | h
  · exact hn h
  · simp at h; exact hc h.symm
theorem spl_end {b : UInt8} {D : List (List UInt8)} {s : ByteArray} {f : Nat} (h : spl b s.data.toList = D ++ spl b (s.data.toList.drop f)) (hn : b ∉ (s.data.toList.drop f).take (s.size - f)) : spl b s.data.toList = D ++ [s.data.toList.drop f] := by
  rw [List.take_of_length_le (by rw [List.length_drop]; exact Nat.le_refl _)] at hn
  rw [h, spl_none b _ hn]
theorem spl_bound {b : UInt8} {D : List (List UInt8)} {s : ByteArray} {r : List (List UInt8)} (h : spl b s.data.toList = D ++ r) : D.length ≤ s.size + 1 := by
  have h1 := spl_len b s.data.toList
  rw [h, List.length_append] at h1
  have : s.data.toList.length = s.size := rfl
  omega
set_option maxRecDepth 8000 in
set_option maxHeartbeats 4000000 in
theorem l1Split_any (s : ByteArray) (b : UInt8) (w : World) (hs : s.size ≤ 4000000) :
    Calls Tryz.prog 102 #[.string s, .int .u8 b.toNat] w fun e w' => (∃ v : Value, e = .returned v ∧ w'.ownsRow w.heap.size 9 1 v (spl b s.data.toList).length ((spl b s.data.toList).map bsv)) ∧ Below w.heap.size w w' := by
  obtain ⟨i0, hi, hz0, hz1, hz2⟩ := info_parts infoStr
  go_enter Tryz.func102, Tryz.ntmps102
  go_wp2
  go_loopw [7, 6, 5] (fun i f o wr => ∃ (k q : Nat) (D : List (List UInt8)), k ≤ s.size ∧ q ≤ k ∧ i = .int .i64 k ∧ f = .int .i64 q ∧ Hid (spl b s.data.toList = D ++ spl b (s.data.toList.drop q)) ∧ Hid (b ∉ (s.data.toList.drop q).take (k - q)) ∧ Below w.heap.size w wr ∧ Hid (wr.ownsRow w.heap.size 9 1 o D.length (D.map bsv))) (fun i _ _ _ => s.size - (intOf i).toNat)
  case atStart => exact ⟨0, 0, [], Nat.zero_le _, Nat.le_refl _, rfl, rfl, Lib.hid (by simp), Lib.hid (by simp), Below.refl _ _, Lib.hid ⟨rfl, Or.inl ⟨rfl, rfl⟩⟩⟩
  case round =>
    obtain ⟨k, q, D, hk, hq, rfl, rfl, Hd, Hn, hb, Hown⟩ := hrel
    obtain ⟨A9, c9, rfl⟩ := own_form Hown.out
    have hDl := spl_bound Hd.out
    have h2 : (0 : Int) ≤ (k : Int) := by omega
    have h3 : (0 : Int) ≤ (q : Int) := by omega
    have h4 : (q : Int) ≤ (k : Int) := by omega
    by_cases hlt : k < s.size
    · have h1 : (k : Int) < (s.size : Int) := by omega
      have h5 : (k : Int) ≤ (s.size : Int) := by omega
      by_cases hc : s[k] = b
      · have hc1 : ((s[k].toNat : Int) == (b.toNat : Int)) = true := by rw [hc]; simp
        have Hnew := Lib.hid (spl_step Hd.out hq hlt Hn.out hc)
        have Hext := Lib.hid (ext_mk s q k)
        clear hc
        go_wp2_with (at_builtin; refine wpList_append_own _ rfl _ _ 119 rfl w.heap.size 9 i0 (.string ⟨#[]⟩) 1 16 Tryz.underlying119 hi hz0 hz1 hz2 rfl (by decide) _ _ _ rfl (Hown.out.alloc _) ⟨wr.heap.size, 0, none⟩ 1 1 [.string (s.extract q k)] rfl rfl ?c1 ?c2 ?c3 ?c4 ?c5 ?_)
        case c1 =>
          intro j u hj
          match j, hj with
          | 0, hj => simp at hj; subst hj; exact (Blk.new wr _ _).cell 0
        case c2 => intro u hu; simp at hu; subst hu; rfl
        case c3 => unfold maxLen; omega
        case c4 => omega
        case c5 => have := hb.size; simp; omega
        intro v' w3 hown' hgrow _
        have hbn : Below w.heap.size w w3 := Below.grown (bal hb _) hgrow (by have := hb.size; simp; omega) (fun j hj => (Hown.out.lt j hj).1)
        have Hown' := Lib.hid (show w3.ownsRow w.heap.size 9 1 v' (D ++ [(s.data.toList.drop q).take (k - q)]).length ((D ++ [(s.data.toList.drop q).take (k - q)]).map bsv) by
          rw [List.map_append, List.length_append, List.map_singleton, bsv, ← Hext.out]; exact hown')
        clear hown' hgrow
        go_wp2
        go_roundw
        case rel => exact ⟨k + 1, k + 1, _, by omega, Nat.le_refl _, by go_num, by go_num, Hnew, Lib.hid (by simp), hbn, Hown'⟩
        case measure => simp [intOf]; omega
      · have hc1 : ((s[k].toNat : Int) == (b.toNat : Int)) = false := by
          refine beq_eq_false_iff_ne.2 (fun e => hc (UInt8.toNat_inj.1 (by omega)))
        have Hnew := Lib.hid (spl_keep hq hlt Hn.out hc)
        clear hc
        go_wp2
        go_roundw
        case rel => exact ⟨k + 1, q, D, by omega, by omega, by go_num, rfl, Hd, Hnew, hb, Hown⟩
        case measure => simp [intOf]; omega
    · obtain rfl : k = s.size := by omega
      have h5 : (q : Int) ≤ (s.size : Int) := by omega
      have Hext := Lib.hid (ext_mk_all s q)
      have Hfin := Lib.hid (spl_end Hd.out Hn.out)
      go_wp2_with (at_builtin; refine wpList_append_own _ rfl _ _ 119 rfl w.heap.size 9 i0 (.string ⟨#[]⟩) 1 16 Tryz.underlying119 hi hz0 hz1 hz2 rfl (by decide) _ _ _ rfl (Hown.out.alloc _) ⟨wr.heap.size, 0, none⟩ 1 1 [.string (s.extract q s.size)] rfl rfl ?c1 ?c2 ?c3 ?c4 ?c5 ?_)
      case c1 =>
        intro j u hj
        match j, hj with
        | 0, hj => simp at hj; subst hj; exact (Blk.new wr _ _).cell 0
      case c2 => intro u hu; simp at hu; subst hu; rfl
      case c3 => unfold maxLen; omega
      case c4 => omega
      case c5 => have := hb.size; simp; omega
      intro v' w3 hown' hgrow _
      have hbn : Below w.heap.size w w3 := Below.grown (bal hb _) hgrow (by have := hb.size; simp; omega) (fun j hj => (Hown.out.lt j hj).1)
      have Hown' := Lib.hid (show w3.ownsRow w.heap.size 9 1 v' (spl b s.data.toList).length ((spl b s.data.toList).map bsv) by
        rw [Hfin.out, List.map_append, List.length_append, List.map_singleton, bsv, ← Hext.out]; exact hown')
      clear hown' hgrow
      go_wp2
      go_ret
      exact ⟨⟨_, rfl, Hown'.out⟩, hbn⟩
end
section
open Go Go.RowKit

theorem pow5 {k : Nat} (h : k ≤ 5) : (10 : Int) ^ k ≤ 100000 := by
  match k, h with
  | 0, _ => decide
  | 1, _ => decide
  | 2, _ => decide
  | 3, _ => decide
  | 4, _ => decide
  | 5, _ => decide
theorem rdD_no {s : ByteArray} {k : Nat} {acc : Int} (hk : k < s.size) (h : (s[k].toNat : Int) < 48 ∨ 57 < (s[k].toNat : Int)) : rdD (s.data.toList.drop k) acc = -1 := by
  rw [show s.data.toList.drop k = s[k] :: s.data.toList.drop (k + 1) from List.drop_eq_getElem_cons hk]
  unfold rdD
  rw [if_pos]
  rw [UInt8.lt_iff_toNat_lt, UInt8.lt_iff_toNat_lt]
  show s[k].toNat < 48 ∨ 57 < s[k].toNat
  omega
theorem rdD_on {s : ByteArray} {k : Nat} {acc : Int} (hk : k < s.size) (h1 : 48 ≤ (s[k].toNat : Int)) (h2 : (s[k].toNat : Int) ≤ 57) : rdD (s.data.toList.drop k) acc = rdD (s.data.toList.drop (k + 1)) (10 * acc + ((s[k].toNat : Int) - 48)) := by
  rw [show s.data.toList.drop k = s[k] :: s.data.toList.drop (k + 1) from List.drop_eq_getElem_cons hk]
  conv => lhs; unfold rdD
  rw [if_neg]
  · congr 1; omega
  rw [UInt8.lt_iff_toNat_lt, UInt8.lt_iff_toNat_lt]
  show ¬ (s[k].toNat < 48 ∨ 57 < s[k].toNat)
  omega
set_option maxRecDepth 8000 in
set_option maxHeartbeats 4000000 in
theorem l1Read_any (s : ByteArray) (w : World) (hs : s.size ≤ 4000000) :
    Calls Tryz.prog 131 #[.string s] w fun e w' => e = .returned (.int .i64 (rdN s.data.toList)) ∧ w = w' := by
  have hlen : s.data.toList.length = s.size := rfl
  cases hin : insB s.size 1 6
  · have Hv := Lib.hid (show rdN s.data.toList = -1 by
      unfold rdN; rw [if_pos (Or.inl (by rw [hlen]; intro hh; have := insB_mk (n := (s.size : Int)) (lo := 1) (hi := 6) (by omega) (by omega); rw [this] at hin; cases hin))])
    rw [Hv.out]
    go_enter Tryz.func131, Tryz.ntmps131
    go_wp2_with fail
    refine (l1In_any _ _ _ _).mono ?_; rintro r w2 ⟨rfl, rfl⟩
    rw [hin]
    go_wp2
    go_ret
    exact ⟨rfl, rfl⟩
  · obtain ⟨hs1, hs2⟩ := insB_true hin
    have h0 : 0 < s.size := by omega
    have hd0 := get_data s 0 h0
    by_cases hz : s[0] = 48 ∧ 1 < s.size
    · obtain ⟨hz, hl⟩ := hz
      have hz1 : ((s[0].toNat : Int) == 48) = true := by rw [hz]; rfl
      have Hv := Lib.hid (show rdN s.data.toList = -1 by
        unfold rdN; rw [if_pos (Or.inr ⟨by rw [hd0, hz], by rw [hlen]; exact hl⟩)])
      rw [Hv.out]
      have hl1 : (1 : Int) < (s.size : Int) := by omega
      clear hz hd0
      go_enter Tryz.func131, Tryz.ntmps131
      go_wp2_with fail
      refine (l1In_any _ _ _ _).mono ?_; rintro r w2 ⟨rfl, rfl⟩
      rw [hin]
      go_wp2
      go_ret
      exact ⟨rfl, rfl⟩
    · have Hv := Lib.hid (show rdN s.data.toList = rdD s.data.toList 0 by
        unfold rdN; rw [if_neg]; rintro (hh | ⟨hh1, hh2⟩)
        · rw [hlen] at hh; omega
        · rw [hd0] at hh1; injection hh1 with hh1; rw [hlen] at hh2; exact hz ⟨hh1, hh2⟩)
      rw [Hv.out]
      have hcase : (((s[0].toNat : Int) == 48) = true ∧ ¬ (1 : Int) < (s.size : Int)) ∨ ((s[0].toNat : Int) == 48) = false := by
        cases hq : ((s[0].toNat : Int) == 48)
        · exact Or.inr rfl
        · refine Or.inl ⟨rfl, fun hl => hz ⟨?_, by omega⟩⟩
          have := beq_iff_eq.1 hq
          exact UInt8.toNat_inj.1 (show s[0].toNat = 48 by omega)
      clear hz hd0 hs Hv
      go_enter Tryz.func131, Tryz.ntmps131
      go_wp2_with fail
      refine (l1In_any _ _ _ _).mono ?_; rintro r w2 ⟨rfl, rfl⟩
      rw [hin]
      rcases hcase with ⟨hz1, hl1⟩ | hz1 <;> (
        go_wp2
        go_loop [3, 4] (fun n i => ∃ (k : Nat) (acc : Int), k ≤ s.size ∧ i = .int .i64 k ∧ n = .int .i64 acc ∧ 0 ≤ acc ∧ acc < 10 ^ k ∧ Hid (rdD s.data.toList 0 = rdD (s.data.toList.drop k) acc)) (fun _ i => s.size - (intOf i).toNat)
        case atStart => exact ⟨0, 0, Nat.zero_le _, rfl, rfl, by omega, by decide, Lib.hid rfl⟩
        case round =>
          obtain ⟨k, acc, hk, rfl, rfl, ha0, ha1, Hr⟩ := hrel
          by_cases hlt : k < s.size
          · have hp := pow5 (k := k) (by omega)
            have hps := Int.pow_succ 10 k
            have Hps := Lib.hid hps; clear hps
            have Ha1 := Lib.hid ha1
            have ha2 : acc < 100000 := by omega
            have hb0 : (0 : Int) ≤ (s[k].toNat : Int) := by omega
            have hb1 : (s[k].toNat : Int) ≤ 255 := by have := UInt8.toNat_lt s[k]; omega
            have h1 : (k : Int) < (s.size : Int) := by omega
            have h2 : (0 : Int) ≤ (k : Int) := by omega
            clear hp ha1
            by_cases c1 : (s[k].toNat : Int) < 48
            · have Hfin := Lib.hid ((rdD_no (acc := acc) hlt (Or.inl c1)))
              go_wp2
              go_ret
              exact ⟨ret_int (by rw [Hr.out, Hfin.out]), rfl⟩
            · by_cases c2 : 57 < (s[k].toNat : Int)
              · have Hfin := Lib.hid ((rdD_no (acc := acc) hlt (Or.inr c2)))
                go_wp2
                go_ret
                exact ⟨ret_int (by rw [Hr.out, Hfin.out]), rfl⟩
              · have Hnew := Lib.hid (rdD_on (acc := acc) hlt (by omega) (by omega))
                go_wp2
                go_round
                case rel => exact ⟨k + 1, 10 * acc + ((s[k].toNat : Int) - 48), by omega, by go_num, rfl, by omega, by rw [Hps.out]; have := Ha1.out; omega, Lib.hid (by rw [Hr.out, Hnew.out])⟩
                case measure => simp [intOf]; omega
          · obtain rfl : k = s.size := by omega
            have Hfin := Lib.hid (show rdD (s.data.toList.drop s.size) acc = acc by rw [List.drop_eq_nil_of_le (by rw [hlen]; exact Nat.le_refl _)]; rfl)
            clear ha1
            go_wp2
            go_ret
            exact ⟨ret_int (by rw [Hr.out, Hfin.out]), rfl⟩)
set_option maxRecDepth 8000 in
set_option maxHeartbeats 4000000 in
theorem ecSigned_any (s : ByteArray) (w : World) (hs : s.size ≤ 4000000) :
    Calls Tryz.prog 190 #[.string s] w fun e w' => e = .returned (.int .i64 (sgN s.data.toList)) ∧ w = w' := by
  have hlen : s.data.toList.length = s.size := rfl
  have hbd := rdN_bd s.data.toList
  have hbd1 := rdN_bd (s.data.toList.drop 1)
  by_cases hm : 0 < s.size ∧ s.data.toList[0]? = some 45
  · obtain ⟨h0, hm⟩ := hm
    have hd0 := get_data s 0 h0
    have hc1 : ((s[0].toNat : Int) == 45) = true := by
      rw [hd0] at hm; injection hm with hm; rw [hm]; rfl
    have Hv := Lib.hid (show sgN s.data.toList = if rdN (s.data.toList.drop 1) < 0 then 100000 else -(rdN (s.data.toList.drop 1)) by unfold sgN; rw [if_pos hm])
    have h1 : (0 : Int) < (s.size : Int) := by omega
    have h2 : (1 : Int) ≤ (s.size : Int) := by omega
    have Hx := Lib.hid (fun W => l1Read_any (s.extract 1 s.size) W (by rw [ByteArray.size_extract]; omega))
    rw [ext_all] at Hx
    generalize rdN (s.data.toList.drop 1) = N at Hv Hx hbd1
    clear hd0 hm
    go_enter Tryz.func190, Tryz.ntmps190
    go_wp2_with fail
    refine (Hx.out _).mono ?_; rintro r w2 ⟨rfl, rfl⟩
    by_cases hn : N < 0
    · go_wp2
      go_ret
      exact ⟨ret_int (by rw [Hv.out, if_pos hn]), rfl⟩
    · go_wp2
      go_ret
      exact ⟨ret_int (by rw [Hv.out, if_neg (by omega)]), rfl⟩
  · have Hv := Lib.hid (show sgN s.data.toList = if rdN s.data.toList < 0 then 100000 else rdN s.data.toList by
      unfold sgN
      rw [if_neg (fun hh => hm ⟨?_, hh⟩)]
      rcases Nat.eq_zero_or_pos s.size with h0 | h0
      · rw [List.getElem?_eq_none (by rw [hlen]; omega)] at hh; cases hh
      · exact h0)
    have hcase : ¬ (0 : Int) < (s.size : Int) ∨ (∃ h0 : 0 < s.size, (0 : Int) < (s.size : Int) ∧ ((s[0].toNat : Int) == 45) = false) := by
      rcases Nat.eq_zero_or_pos s.size with h0 | h0
      · exact Or.inl (by omega)
      · refine Or.inr ⟨h0, by omega, beq_eq_false_iff_ne.2 (fun e => hm ⟨h0, ?_⟩)⟩
        rw [get_data s 0 h0]
        congr 1
        exact UInt8.toNat_inj.1 (show s[0].toNat = 45 by omega)
    have Hx := Lib.hid (fun W => l1Read_any s W hs)
    generalize rdN s.data.toList = N at Hv Hx hbd
    clear hm
    go_enter Tryz.func190, Tryz.ntmps190
    rcases hcase with h1 | ⟨h0, h1, hc1⟩ <;> (
      go_wp2_with fail
      refine (Hx.out _).mono ?_; rintro r w2 ⟨rfl, rfl⟩
      by_cases hn : N < 0
      · go_wp2
        go_ret
        exact ⟨ret_int (by rw [Hv.out, if_pos hn]), rfl⟩
      · go_wp2
        go_ret
        exact ⟨ret_int (by rw [Hv.out, if_neg (by omega)]), rfl⟩)
end
section
open Go Go.RowKit

def PaP (s : List UInt8) (e : Ending) : Prop :=
  (∃ a b : Int, paC s = some (a, b) ∧ e = .returned (.tuple #[.agg #[.int .i64 a, .int .i64 b], .bool true])) ∨
  (paC s = none ∧ e = .returned (.tuple #[.agg #[.int .i64 0, .int .i64 0], .bool false]))
theorem PaP.no {s : List UInt8} (h : paC s = none) : PaP s (.returned (.tuple #[.agg #[.int .i64 0, .int .i64 0], .bool false])) := Or.inr ⟨h, rfl⟩
theorem PaP.yes {s : List UInt8} {a b : Int} (h : paC s = some (a, b)) : PaP s (.returned (.tuple #[.agg #[.int .i64 a, .int .i64 b], .bool true])) := Or.inl ⟨a, b, h, rfl⟩
theorem paC_two {s : List UInt8} {x y : List UInt8} (h : spl 32 s = [x, y]) : paC s = if curveB (sgN x) (sgN y) = true ∧ (nText [sgN x, sgN y]).data.toList = s then some (sgN x, sgN y) else none := by
  unfold paC; rw [h]
theorem paC_not2 {s : List UInt8} (h : (spl 32 s).length ≠ 2) : paC s = none := by
  unfold paC
  split
  · rename_i hh; rw [hh] at h; exact absurd rfl h
  · rfl
theorem list2g {E : Type} {l : List E} (h : l.length = 2) : ∃ a b, l = [a, b] := by
  match l, h with
  | [a, b], _ => exact ⟨a, b, rfl⟩
theorem list5g {E : Type} {l : List E} (h : l.length = 5) : ∃ a b c d e, l = [a, b, c, d, e] := by
  match l, h with
  | [a, b, c, d, e], _ => exact ⟨a, b, c, d, e, rfl⟩
theorem own_cap {w : World} {b : Nat} {t : TypeId} {z n c : Nat} {A : Option Addr} {xs : List Value} (h : w.ownsRow b t z (.slice A n c) n xs) : n ≤ c := by
  rcases h.2 with ⟨h', hn⟩ | ⟨g, cap, cur, h', hb, hg, hnc, -⟩
  · cases h'; omega
  · cases h'; exact hnc
set_option linter.unusedSimpArgs false in
set_option maxRecDepth 8000 in
set_option maxHeartbeats 4000000 in
theorem ecParse_any (s : ByteArray) (w : World) (hs : s.size ≤ 4000000) :
    Calls Tryz.prog 130 #[.string s] w fun e w' => PaP s.data.toList e ∧ Below w.heap.size w w' := by
  have hlen : s.data.toList.length = s.size := rfl
  have HR := Lib.hid (Blk.new w 25 #[.int .i64 0, .int .i64 0])
  have hA := bal (Below.refl w.heap.size w) (Obj.cells #[.int .i64 0, .int .i64 0] 25)
  have HbA := Lib.hid hA; clear hA
  have Hsp := Lib.hid (fun W => l1Split_any s 32 W hs)
  have hspl := spl_len 32 s.data.toList
  have Hmem := Lib.hid (spl_mem 32 s.data.toList)
  have Hno := Lib.hid (fun h => PaP.no (paC_long (s := s.data.toList) h))
  have Hno2 := Lib.hid (fun h => PaP.no (paC_not2 (s := s.data.toList) h))
  have H2 := Lib.hid (fun x y h => paC_two (s := s.data.toList) (x := x) (y := y) h)
  generalize spl 32 s.data.toList = ps at Hsp hspl Hmem Hno2 H2
  go_enter Tryz.func130, Tryz.ntmps130
  go_wp2_with fail
  refine (Hsp.out _).mono ?_; rintro e w1 ⟨⟨v1, rfl, hown⟩, hb1⟩
  have HR1 := Lib.hid (HR.out.on hb1); have Hb1 := Lib.hid (bthen HbA.out hb1); clear hb1
  obtain ⟨A1, c1, rfl⟩ := own_form hown
  have Hown := Lib.hid hown; clear hown
  have r0 := HR1.out.cell 0
  have r1 := HR1.out.cell 1
  have rl := HR1.out.lt
  have rf := HR1.out.frozen
  simp at r0 r1
  by_cases hlg : 12 < s.size
  · have hlg1 : (12 : Int) < (s.size : Int) := by omega
    have HN := Lib.hid (Hno.out (by omega))
    go_wp2
    have HR4 := HR1.out.set2 (b0 := .int .i64 0) (b1 := .int .i64 0)
    have q0 := HR4.cell 0
    have q1 := HR4.cell 1
    simp at q0 q1
    exact bodyPost_ret (v := .tuple #[.agg #[.int .i64 0, .int .i64 0], .bool false]) (by simp [results, Tryz.results130, go_sem, q0, q1]) rfl ⟨HN.out, bst (bst Hb1.out (Nat.le_refl _) _) (Nat.le_refl _) _⟩
  · have hlg1 : ¬ (12 : Int) < (s.size : Int) := by omega
    by_cases h2 : ps.length = 2
    · obtain ⟨x, y, rfl⟩ := list2g h2
      clear h2
      have Hv := Lib.hid (H2.out x y rfl)
      clear hspl Hno2
      have hxs : (⟨x.toArray⟩ : ByteArray).size ≤ 4000000 := by have h7 := Hmem.out x (by simp); show x.toArray.size ≤ _; rw [List.size_toArray]; omega
      have hys : (⟨y.toArray⟩ : ByteArray).size ≤ 4000000 := by have h7 := Hmem.out y (by simp); show y.toArray.size ≤ _; rw [List.size_toArray]; omega
      have Hx := Lib.hid (fun W => ecSigned_any ⟨x.toArray⟩ W hxs)
      have Hy := Lib.hid (fun W => ecSigned_any ⟨y.toArray⟩ W hys)
      have hx9 := sgN_bd x
      have hy9 := sgN_bd y
      rw [show (⟨x.toArray⟩ : ByteArray).data.toList = x from rfl] at Hx
      rw [show (⟨y.toArray⟩ : ByteArray).data.toList = y from rfl] at Hy
      clear hxs hys Hmem
      have Hcap := Lib.hid (own_cap Hown.out)
      rcases own_two Hown.out with ⟨h0, -, -⟩ | ⟨g1, rfl, hbg, hlg2⟩
      · cases h0
      have f0 := Hown.out.cellAt 0 (show 0 < 2 * 1 by decide)
      have f1 := Hown.out.cellAt 1 (show 1 < 2 * 1 by decide)
      clear Hown
      simp only [bsv, List.map_cons, List.map_nil, List.getElem?_cons_zero, List.getElem?_cons_succ] at f0 f1
      rw [show [x, y].length = 2 from rfl] at Hcap ⊢
      generalize (⟨x.toArray⟩ : ByteArray) = X at Hx f0
      generalize (⟨y.toArray⟩ : ByteArray) = Y at Hy f1
      generalize sgN x = a at Hx Hv hx9
      generalize sgN y = b at Hy Hv hy9
      have hcap := Hcap.out
      have HS : Hid (∀ w', Below w1.heap.size w1 w' → ((w'.cell? ⟨g1, 0, none⟩ = some (.string X) ∧ w'.cell? ⟨g1, 1, none⟩ = some (.string Y)) ∧ Below w1.heap.size w1 w')) := Lib.hid (fun w' hw => ⟨⟨(hw.cell (p := ⟨g1, 0, none⟩) hlg2).trans f0, (hw.cell (p := ⟨g1, 1, none⟩) hlg2).trans f1⟩, hw⟩)
      have hb0 := Below.refl w1.heap.size w1
      clear r0 r1 rl rf
      go_wp2
      go_region_held3 (fun w' => (w'.cell? ⟨g1, 0, none⟩ = some (.string X) ∧ w'.cell? ⟨g1, 1, none⟩ = some (.string Y)) ∧ Below w1.heap.size w1 w') (((go_split_ands; refine HS.out _ ?_; repeat (first | (with_reducible assumption) | (with_reducible exact Below.refl _ _) | (with_reducible refine Below.drew ?_) | (with_reducible refine bal ?_ _) | (with_reducible refine bst ?_ (by exact Nat.le_refl _) _) | (with_reducible refine bthen ?_ (by with_reducible assumption)))))) ((first | (go_at_call 190; (with_reducible refine (Hx.out _).mono ?_); rintro e wa ⟨rfl, rfl⟩) | (go_at_call 190; (with_reducible refine (Hy.out _).mono ?_); rintro e wa ⟨rfl, rfl⟩)))
      all_goals (
        have HB := (Blk.new w1 25 #[.int .i64 a, .int .i64 b]).drew
        have HZ := (HR1.out.alloc (Obj.cells #[.int .i64 a, .int .i64 b] 25)).drew
        have Hbq := (bal Hb1.out (Obj.cells #[.int .i64 a, .int .i64 b] 25)).drew
        generalize World.drew (w1.alloc (Obj.cells #[.int .i64 a, .int .i64 b] 25)) = wq at HB HZ Hbq ⊢
        clear HS hb0 f0 f1 Hx Hy
        replace HB := Lib.hid HB; replace HZ := Lib.hid HZ; replace Hbq := Lib.hid Hbq
        have g0 := HB.out.cell 0
        have g1' := HB.out.cell 1
        have gl := HB.out.lt
        simp at g0 g1'
        go_wp2_with fail
        refine (ecGood_any a b _).mono ?_; rintro e w2 ⟨rfl, hb2⟩
        clear g0 g1' gl
        have HB2 := Lib.hid (HB.out.on hb2); have HZ2 := Lib.hid (HZ.out.on hb2); have Hb2 := Lib.hid (bthen Hbq.out hb2); clear hb2
        cases hcv : curveB a b
        · have HN := Lib.hid (show paC s.data.toList = none by rw [Hv.out, if_neg (fun hh => by rw [hcv] at hh; cases hh.1)])
          have HN := Lib.hid (PaP.no HN.out)
          have z0 := HZ2.out.cell 0
          have z1 := HZ2.out.cell 1
          have zl := HZ2.out.lt
          have zf := HZ2.out.frozen
          simp at z0 z1
          go_wp2
          have HR4 := HZ2.out.set2 (b0 := .int .i64 0) (b1 := .int .i64 0)
          have q0 := HR4.cell 0
          have q1 := HR4.cell 1
          simp at q0 q1
          exact bodyPost_ret (v := .tuple #[.agg #[.int .i64 0, .int .i64 0], .bool false]) (by simp [results, Tryz.results130, go_sem, q0, q1]) rfl ⟨HN.out, bst (bst Hb2.out (Nat.le_refl _) _) (Nat.le_refl _) _⟩
        · have g0 := HB2.out.cell 0
          have g1' := HB2.out.cell 1
          have gl := HB2.out.lt
          simp at g0 g1'
          go_wp2_with fail
          refine (ecText_any a b _ (by omega) (by omega)).mono ?_; rintro e w3 ⟨rfl, hb3⟩
          clear g0 g1' gl
          have HB3 := Lib.hid (HB2.out.on hb3); have HZ3 := Lib.hid (HZ2.out.on hb3); have Hb3 := Lib.hid (bthen Hb2.out hb3); clear hb3
          have z0 := HZ3.out.cell 0
          have z1 := HZ3.out.cell 1
          have zl := HZ3.out.lt
          have zf := HZ3.out.frozen
          have g0 := HB3.out.cell 0
          have g1' := HB3.out.cell 1
          simp at z0 z1 g0 g1'
          by_cases htx : nText [a, b] = s
          · have HN := Lib.hid (PaP.yes (show paC s.data.toList = some (a, b) by rw [Hv.out, if_pos ⟨hcv, by rw [htx]⟩]))
            have hq : ((nText [a, b]).toList == s.toList) = true := by rw [htx]; simp
            clear htx
            go_wp2
            have HR4 := HZ3.out.set2 (b0 := .int .i64 a) (b1 := .int .i64 b)
            have q0 := HR4.cell 0
            have q1 := HR4.cell 1
            simp at q0 q1
            exact bodyPost_ret (v := .tuple #[.agg #[.int .i64 a, .int .i64 b], .bool true]) (by simp [results, Tryz.results130, go_sem, q0, q1]) rfl ⟨HN.out, bst (bst Hb3.out (Nat.le_refl _) _) (Nat.le_refl _) _⟩
          · have HN := Lib.hid (show paC s.data.toList = none by rw [Hv.out, if_neg (fun hh => htx (bytes_ext hh.2))])
            have HN := Lib.hid (PaP.no HN.out)
            have hq : ((nText [a, b]).toList == s.toList) = false := beq_eq_false_iff_ne.2 (fun e => htx (bytes_inj e))
            clear htx
            go_wp2
            have HR4 := HZ3.out.set2 (b0 := .int .i64 0) (b1 := .int .i64 0)
            have q0 := HR4.cell 0
            have q1 := HR4.cell 1
            simp at q0 q1
            exact bodyPost_ret (v := .tuple #[.agg #[.int .i64 0, .int .i64 0], .bool false]) (by simp [results, Tryz.results130, go_sem, q0, q1]) rfl ⟨HN.out, bst (bst Hb3.out (Nat.le_refl _) _) (Nat.le_refl _) _⟩)
    · have h3 : ((ps.length : Int) == 2) = false := beq_eq_false_iff_ne.2 (by omega)
      have h4 : ((ps.length : Int) != 2) = true := by simp [bne, h3]
      have HN := Lib.hid (Hno2.out h2)
      go_wp2
      have HR4 := HR1.out.set2 (b0 := .int .i64 0) (b1 := .int .i64 0)
      have q0 := HR4.cell 0
      have q1 := HR4.cell 1
      simp at q0 q1
      exact bodyPost_ret (v := .tuple #[.agg #[.int .i64 0, .int .i64 0], .bool false]) (by simp [results, Tryz.results130, go_sem, q0, q1]) rfl ⟨HN.out, bst (bst Hb1.out (Nat.le_refl _) _) (Nat.le_refl _) _⟩
/-- What it hands back. -/
def pcV (s : List UInt8) : Int × Int × Bool := match paC s with | some (a, b) => (a, b, true) | none => (0, 0, false)
theorem ecParse_det (s : ByteArray) (w : World) (hs : s.size ≤ 4000000) :
    Calls Tryz.prog 130 #[.string s] w fun e w' => e = .returned (.tuple #[.agg #[.int .i64 (pcV s.data.toList).1, .int .i64 (pcV s.data.toList).2.1], .bool (pcV s.data.toList).2.2]) ∧ Below w.heap.size w w' := by
  refine (ecParse_any s w hs).mono fun e w' hh => ?_
  obtain ⟨h1, h2⟩ := hh
  refine ⟨?_, h2⟩
  unfold pcV
  rcases h1 with ⟨a, b, hp, rfl⟩ | ⟨hp, rfl⟩
  · rw [hp]
  · rw [hp]
end
section
open Go Go.RowKit

theorem cut1_here (c : UInt8) (w r : List UInt8) (h : c ∉ w) : Lib.cut (w ++ c :: r) [c] = (w, r, true) := by
  unfold Lib.cut
  rw [ix_here c r w h, if_pos (by omega)]
  simp only [Int.toNat_natCast, List.take_left', List.length_cons, List.length_nil, Nat.zero_add]
  rw [show (w ++ c :: r).drop (w.length + 1) = r by rw [← List.drop_drop, List.drop_left]; rfl]
theorem cut_sizes (s sep : List UInt8) : (Lib.cut s sep).1.length ≤ s.length ∧ (Lib.cut s sep).2.1.length ≤ s.length := by
  unfold Lib.cut
  split
  · exact ⟨by rw [List.length_take]; exact Nat.min_le_right _ _, by rw [List.length_drop]; omega⟩
  · exact ⟨Nat.le_refl _, Nat.zero_le _⟩
theorem paC_cut {s : List UInt8} {a b : Int} (h : paC s = some (a, b)) : Lib.atoiAll (Lib.cut s [32]).1 = .ok a ∧ Lib.atoiAll (Lib.cut s [32]).2.1 = .ok b := by
  obtain ⟨h1, h2⟩ := paC_spec h
  obtain ⟨h3, h4⟩ := curveB_bd h1
  rw [nTextD] at h2
  rw [← h2, cut1_here 32 _ _ (itoa_no32 a)]
  exact ⟨atoiAll_itS a (by omega), atoiAll_itS b (by omega)⟩
theorem paC_in {s : List UInt8} {a b : Int} (h : paC s = some (a, b)) : insB a (-1000) 1000 = true ∧ insB b (-10000) 10000 = true ∧ curveB a b = true ∧ nText [a, b] = ⟨s.toArray⟩ := by
  obtain ⟨h1, h2⟩ := paC_spec h
  obtain ⟨h3, h4⟩ := curveB_bd h1
  refine ⟨insB_mk (by omega) (by omega), insB_mk (by omega) (by omega), h1, bytes_ext h2⟩
/-- The two words are read as v1, v2: what the text is. -/
theorem paC_two_no {s : List UInt8} {v1 v2 : Int} (h1 : Lib.atoiAll (Lib.cut s [32]).1 = .ok v1) (h2 : Lib.atoiAll (Lib.cut s [32]).2.1 = .ok v2)
    (h : insB v1 (-1000) 1000 = false ∨ insB v2 (-10000) 10000 = false ∨ curveB v1 v2 = false ∨ nText [v1, v2] ≠ ⟨s.toArray⟩) : paC s = none := by
  cases hp : paC s with
  | none => rfl
  | some p =>
    obtain ⟨a, b⟩ := p
    obtain ⟨h3, h4⟩ := paC_cut hp
    rw [h1] at h3; rw [h2] at h4
    injection h3 with h3; injection h4 with h4
    subst h3; subst h4
    obtain ⟨k1, k2, k3, k4⟩ := paC_in hp
    rcases h with h | h | h | h
    · rw [k1] at h; cases h
    · rw [k2] at h; cases h
    · rw [k3] at h; cases h
    · exact absurd k4 h
theorem paC_no1 {s : List UInt8} (h : ∀ v : Int, Lib.atoiAll (Lib.cut s [32]).1 ≠ .ok v) : paC s = none := by
  cases hp : paC s with
  | none => rfl
  | some p => exact absurd (paC_cut hp).1 (h _)
theorem paC_no2 {s : List UInt8} (h : ∀ v : Int, Lib.atoiAll (Lib.cut s [32]).2.1 ≠ .ok v) : paC s = none := by
  cases hp : paC s with
  | none => rfl
  | some p => exact absurd (paC_cut hp).2 (h _)
set_option maxHeartbeats 800000 in
theorem curveResult_no (a b : Int) (w : World) (h : curveB a b = false) :
    Calls Tryz.prog 171 #[.agg #[.int .i64 a, .int .i64 b]] w fun e w' => e = .returned (.tuple #[.agg #[.int .i64 0, .int .i64 0], .bool false]) ∧ Below w.heap.size w w' := by
  have HB := Lib.hid (Blk.new w 25 #[.int .i64 a, .int .i64 b])
  have HR := Lib.hid (Blk.new1 w (.cells #[.int .i64 a, .int .i64 b] 25) 25 #[.int .i64 0, .int .i64 0])
  have HB := Lib.hid (HB.out.alloc (.cells #[.int .i64 0, .int .i64 0] 25))
  have HbA := Lib.hid (bal (bal (Below.refl w.heap.size w) (.cells #[.int .i64 a, .int .i64 b] 25)) (.cells #[.int .i64 0, .int .i64 0] 25))
  have H := Lib.hid (fun W => isCurve_any a b W)
  rw [h] at H
  clear h
  go_enter Tryz.func171, Tryz.ntmps171
  go_wp2_with fail
  refine (H.out _).mono ?_; rintro e w2 ⟨rfl, hb2⟩
  have HB2 := Lib.hid (HB.out.on hb2); have HR2 := Lib.hid (HR.out.on hb2); have Hb2 := Lib.hid (bthen HbA.out hb2); clear hb2
  have g0 := HB2.out.cell 0
  have g1 := HB2.out.cell 1
  have r0 := HR2.out.cell 0
  have r1 := HR2.out.cell 1
  have rl := HR2.out.lt
  have rf := HR2.out.frozen
  simp at g0 g1 r0 r1
  go_wp2
  have HR4 := HR2.out.set2 (b0 := .int .i64 0) (b1 := .int .i64 0)
  have q0 := HR4.cell 0
  have q1 := HR4.cell 1
  simp at q0 q1
  exact bodyPost_ret (v := .tuple #[.agg #[.int .i64 0, .int .i64 0], .bool false]) (by simp [results, Tryz.results171, go_sem, q0, q1]) rfl ⟨rfl, bst (bst Hb2.out (Nat.le_succ _) _) (Nat.le_succ _) _⟩
set_option maxHeartbeats 800000 in
theorem curveResult_yes (a b : Int) (w : World) (h : curveB a b = true) :
    Calls Tryz.prog 171 #[.agg #[.int .i64 a, .int .i64 b]] w fun e w' => e = .returned (.tuple #[.agg #[.int .i64 a, .int .i64 b], .bool true]) ∧ Below w.heap.size w w' := by
  have HB := Lib.hid (Blk.new w 25 #[.int .i64 a, .int .i64 b])
  have HR := Lib.hid (Blk.new1 w (.cells #[.int .i64 a, .int .i64 b] 25) 25 #[.int .i64 0, .int .i64 0])
  have HB := Lib.hid (HB.out.alloc (.cells #[.int .i64 0, .int .i64 0] 25))
  have HbA := Lib.hid (bal (bal (Below.refl w.heap.size w) (.cells #[.int .i64 a, .int .i64 b] 25)) (.cells #[.int .i64 0, .int .i64 0] 25))
  have H := Lib.hid (fun W => isCurve_any a b W)
  rw [h] at H
  clear h
  go_enter Tryz.func171, Tryz.ntmps171
  go_wp2_with fail
  refine (H.out _).mono ?_; rintro e w2 ⟨rfl, hb2⟩
  have HB2 := Lib.hid (HB.out.on hb2); have HR2 := Lib.hid (HR.out.on hb2); have Hb2 := Lib.hid (bthen HbA.out hb2); clear hb2
  have g0 := HB2.out.cell 0
  have g1 := HB2.out.cell 1
  have r0 := HR2.out.cell 0
  have r1 := HR2.out.cell 1
  have rl := HR2.out.lt
  have rf := HR2.out.frozen
  simp at g0 g1 r0 r1
  go_wp2
  have HR4 := HR2.out.set2 (b0 := .int .i64 a) (b1 := .int .i64 b)
  have q0 := HR4.cell 0
  have q1 := HR4.cell 1
  simp at q0 q1
  exact bodyPost_ret (v := .tuple #[.agg #[.int .i64 a, .int .i64 b], .bool true]) (by simp [results, Tryz.results171, go_sem, q0, q1]) rfl ⟨rfl, bst (bst Hb2.out (Nat.le_succ _) _) (Nat.le_succ _) _⟩
theorem cut_gen (s sep : ByteArray) (w : World) (hs : s.size ≤ 100000000) (h : Env w) : Calls Tryz.prog 100 #[.string s, .string sep] w fun e w' => e = .returned (.tuple #[.string ⟨(Lib.cut s.data.toList sep.data.toList).1.toArray⟩, .string ⟨(Lib.cut s.data.toList sep.data.toList).2.1.toArray⟩, .bool (Lib.cut s.data.toList sep.data.toList).2.2]) ∧ Below w.heap.size w w' := by
  refine (Tryz.strings_Cut_shaped s sep w h.sh (by omega)).mono fun e w' hp => ?_
  obtain ⟨he, n, rfl⟩ := hp
  exact ⟨he, drewN_below w n⟩
set_option linter.unusedSimpArgs false in
set_option maxRecDepth 8000 in
set_option maxHeartbeats 4000000 in
theorem parseCurve_any (s : ByteArray) (w : World) (hs : s.size ≤ 4000000) (h : Env w) :
    Calls Tryz.prog 99 #[.string s] w fun e w' => PaP s.data.toList e ∧ Below w.heap.size w w' := by
  have hlen : s.data.toList.length = s.size := rfl
  have HR := Lib.hid (Blk.new w 25 #[.int .i64 0, .int .i64 0])
  have hA := bal (Below.refl w.heap.size w) (Obj.cells #[.int .i64 0, .int .i64 0] 25)
  have He := Lib.hid (h.on hA); have HbA := Lib.hid hA; clear h hA
  have Hcut := Lib.hid (fun W h => cut_gen s ⟨#[32]⟩ W (by omega) h)
  rw [show (⟨#[32]⟩ : ByteArray).data.toList = [32] from rfl] at Hcut
  have Hn1 := Lib.hid (fun h => paC_no1 (s := s.data.toList) h)
  have Hn2 := Lib.hid (fun h => paC_no2 (s := s.data.toList) h)
  have Hno := Lib.hid (fun v1 v2 h1 h2 h => paC_two_no (s := s.data.toList) (v1 := v1) (v2 := v2) h1 h2 h)
  have hcs := cut_sizes s.data.toList [32]
  rw [hlen] at hcs
  generalize Lib.cut s.data.toList [32] = cu at Hcut Hn1 Hn2 Hno hcs
  obtain ⟨x1, x2, x3⟩ := cu
  simp only at Hcut Hn1 Hn2 Hno hcs
  have hx1 : (⟨x1.toArray⟩ : ByteArray).size ≤ 4000000 := by show x1.toArray.size ≤ _; rw [List.size_toArray]; omega
  have hx2 : (⟨x2.toArray⟩ : ByteArray).size ≤ 4000000 := by show x2.toArray.size ≤ _; rw [List.size_toArray]; omega
  have Hat1 := Lib.hid (fun W h => atoi_any ⟨x1.toArray⟩ W (by omega) h)
  have Hat2 := Lib.hid (fun W h => atoi_any ⟨x2.toArray⟩ W (by omega) h)
  unfold AtP at Hat1 Hat2
  rw [show (⟨x1.toArray⟩ : ByteArray).data.toList = x1 from rfl] at Hat1
  rw [show (⟨x2.toArray⟩ : ByteArray).data.toList = x2 from rfl] at Hat2
  generalize (⟨x1.toArray⟩ : ByteArray) = X1 at Hcut Hat1
  generalize (⟨x2.toArray⟩ : ByteArray) = X2 at Hcut Hat2
  clear hcs hlen hx1 hx2
  go_enter Tryz.func99, Tryz.ntmps99
  go_wp2_with fail
  refine (Hcut.out _ He.out).mono ?_; rintro e w1 ⟨rfl, hb1⟩
  have HR1 := Lib.hid (HR.out.on hb1); have He1 := Lib.hid (He.out.on hb1); have Hb1 := Lib.hid (bthen HbA.out hb1); clear hb1
  go_wp2_with fail
  refine (Hat1.out _ He1.out).mono ?_; rintro e w2 ⟨hat1, hb2⟩
  have HR2 := Lib.hid (HR1.out.on hb2); have He2 := Lib.hid (He1.out.on hb2); have Hb2 := Lib.hid (bthen Hb1.out hb2); clear hb2
  rcases hat1 with ⟨v1, hv1, l1, u1, rfl⟩ | ⟨hno1, v1, t1, N1, rfl⟩
  · have Hv1 := Lib.hid hv1; clear hv1
    go_wp2_with fail
    refine (Hat2.out _ He2.out).mono ?_; rintro e w3 ⟨hat2, hb3⟩
    have HR3 := Lib.hid (HR2.out.on hb3); have He3 := Lib.hid (He2.out.on hb3); have Hb3 := Lib.hid (bthen Hb2.out hb3); clear hb3
    rcases hat2 with ⟨v2, hv2, l2, u2, rfl⟩ | ⟨hno2, v2, t2, N2, rfl⟩
    · have Hv2 := Lib.hid hv2; clear hv2
      have Hno := Lib.hid (Hno.out v1 v2 Hv1.out Hv2.out)
      cases hi1 : insB v1 (-1000) 1000
      · have HN := Lib.hid (Hno.out (Or.inl hi1))
        go_wp2_with fail
        refine (inside_any v1 (-1000) 1000 _).mono ?_; rintro e w9 ⟨rfl, rfl⟩
        rw [hi1]
        clear hi1
        have r0 := HR3.out.cell 0
        have r1 := HR3.out.cell 1
        simp at r0 r1
        have rl := HR3.out.lt
        have rf := HR3.out.frozen
        go_wp2
        clear r0 r1 rf
        have HR6 := HR3.out.set2 (b0 := .int .i64 0) (b1 := .int .i64 0)
        have k0 := HR6.cell 0
        have k1 := HR6.cell 1
        simp at k0 k1
        exact bodyPost_ret (v := .tuple #[.agg #[.int .i64 0, .int .i64 0], .bool false]) (by simp [results, Tryz.results99, go_sem, k0, k1]) rfl ⟨PaP.no HN.out, bst (bst Hb3.out (Nat.le_refl _) _) (Nat.le_refl _) _⟩
      · have hb1 := insB_true hi1
        cases hi2 : insB v2 (-10000) 10000
        · have HN := Lib.hid (Hno.out (Or.inr (Or.inl hi2)))
          go_wp2_with fail
          refine (inside_any v1 (-1000) 1000 _).mono ?_; rintro e w9 ⟨rfl, rfl⟩
          rw [hi1]
          go_wp2_with fail
          refine (inside_any v2 (-10000) 10000 _).mono ?_; rintro e w9 ⟨rfl, rfl⟩
          rw [hi2]
          clear hi1 hi2 hb1
          have r0 := HR3.out.cell 0
          have r1 := HR3.out.cell 1
          simp at r0 r1
          have rl := HR3.out.lt
          have rf := HR3.out.frozen
          go_wp2
          clear r0 r1 rf
          have HR6 := HR3.out.set2 (b0 := .int .i64 0) (b1 := .int .i64 0)
          have k0 := HR6.cell 0
          have k1 := HR6.cell 1
          simp at k0 k1
          exact bodyPost_ret (v := .tuple #[.agg #[.int .i64 0, .int .i64 0], .bool false]) (by simp [results, Tryz.results99, go_sem, k0, k1]) rfl ⟨PaP.no HN.out, bst (bst Hb3.out (Nat.le_refl _) _) (Nat.le_refl _) _⟩
        · have hb2 := insB_true hi2
          go_wp2_with fail
          refine (inside_any v1 (-1000) 1000 _).mono ?_; rintro e w9 ⟨rfl, rfl⟩
          rw [hi1]
          go_wp2_with fail
          refine (inside_any v2 (-10000) 10000 _).mono ?_; rintro e w9 ⟨rfl, rfl⟩
          rw [hi2]
          go_wp2_with fail
          have Hb1 := Lib.hid hb1; have Hb2 := Lib.hid hb2; clear hi1 hi2 hb1 hb2
          refine (numbersText_any (.slice (some ⟨w3.heap.size, 0, none⟩) 2 2) [v1, v2] _ (rd_ints w3 3 [v1, v2] (by simp)) (by simp) (by
            intro j hj
            rw [inS_get hj]
            have h6 : [v1, v2][j] ∈ [v1, v2] := List.getElem_mem hj
            generalize [v1, v2][j] = y at h6
            simp at h6
            have := Hb1.out; have := Hb2.out
            omega) (He3.out.on (bal (Below.refl _ _) _)).tab).mono ?_; rintro e w4 ⟨rfl, hb4⟩
          have HR4 := Lib.hid ((HR3.out.alloc (Obj.cells #[.int .i64 v1, .int .i64 v2] 3)).on hb4); have Hb4 := Lib.hid (bthen (bal Hb3.out (Obj.cells #[.int .i64 v1, .int .i64 v2] 3)) hb4); clear hb4
          by_cases htx : nText [v1, v2] = s
          · have hq : ((nText [v1, v2]).toList == s.toList) = true := by rw [htx]; simp
            cases hcv : curveB v1 v2
            · have HN := Lib.hid (Hno.out (Or.inr (Or.inr (Or.inl hcv))))
              clear htx
              go_wp2_with fail
              refine (curveResult_no v1 v2 _ hcv).mono ?_; rintro e w5 ⟨rfl, hb5⟩
              clear hcv
              have HR5 := Lib.hid (HR4.out.on hb5); have Hb5 := Lib.hid (bthen Hb4.out hb5); clear hb5
              have r0 := HR5.out.cell 0
              have r1 := HR5.out.cell 1
              simp at r0 r1
              have rl := HR5.out.lt
              have rf := HR5.out.frozen
              go_wp2
              clear r0 r1 rf
              have HR6 := HR5.out.set2 (b0 := .int .i64 0) (b1 := .int .i64 0)
              have k0 := HR6.cell 0
              have k1 := HR6.cell 1
              simp at k0 k1
              exact bodyPost_ret (v := .tuple #[.agg #[.int .i64 0, .int .i64 0], .bool false]) (by simp [results, Tryz.results99, go_sem, k0, k1]) rfl ⟨PaP.no HN.out, bst (bst Hb5.out (Nat.le_refl _) _) (Nat.le_refl _) _⟩
            · have HN := Lib.hid (PaP.yes (show paC s.data.toList = some (v1, v2) by rw [← htx]; exact paC_text hcv))
              clear htx
              go_wp2_with fail
              refine (curveResult_yes v1 v2 _ hcv).mono ?_; rintro e w5 ⟨rfl, hb5⟩
              clear hcv
              have HR5 := Lib.hid (HR4.out.on hb5); have Hb5 := Lib.hid (bthen Hb4.out hb5); clear hb5
              have r0 := HR5.out.cell 0
              have r1 := HR5.out.cell 1
              simp at r0 r1
              have rl := HR5.out.lt
              have rf := HR5.out.frozen
              go_wp2
              clear r0 r1 rf
              have HR6 := HR5.out.set2 (b0 := .int .i64 v1) (b1 := .int .i64 v2)
              have k0 := HR6.cell 0
              have k1 := HR6.cell 1
              simp at k0 k1
              exact bodyPost_ret (v := .tuple #[.agg #[.int .i64 v1, .int .i64 v2], .bool true]) (by simp [results, Tryz.results99, go_sem, k0, k1]) rfl ⟨HN.out, bst (bst Hb5.out (Nat.le_refl _) _) (Nat.le_refl _) _⟩
          · have HN := Lib.hid (Hno.out (Or.inr (Or.inr (Or.inr (fun e => htx (by rw [e]))))))
            have hq : ((nText [v1, v2]).toList == s.toList) = false := beq_eq_false_iff_ne.2 (fun e => htx (bytes_inj e))
            clear htx
            have r0 := HR4.out.cell 0
            have r1 := HR4.out.cell 1
            simp at r0 r1
            have rl := HR4.out.lt
            have rf := HR4.out.frozen
            go_wp2
            clear r0 r1 rf
            have HR6 := HR4.out.set2 (b0 := .int .i64 0) (b1 := .int .i64 0)
            have k0 := HR6.cell 0
            have k1 := HR6.cell 1
            simp at k0 k1
            exact bodyPost_ret (v := .tuple #[.agg #[.int .i64 0, .int .i64 0], .bool false]) (by simp [results, Tryz.results99, go_sem, k0, k1]) rfl ⟨PaP.no HN.out, bst (bst Hb4.out (Nat.le_refl _) _) (Nat.le_refl _) _⟩
    · have HN := Lib.hid (Hn2.out hno2)
      clear hno2
      have r0 := HR3.out.cell 0
      have r1 := HR3.out.cell 1
      simp at r0 r1
      have rl := HR3.out.lt
      have rf := HR3.out.frozen
      go_wp2
      clear r0 r1 rf
      have HR6 := HR3.out.set2 (b0 := .int .i64 0) (b1 := .int .i64 0)
      have k0 := HR6.cell 0
      have k1 := HR6.cell 1
      simp at k0 k1
      exact bodyPost_ret (v := .tuple #[.agg #[.int .i64 0, .int .i64 0], .bool false]) (by simp [results, Tryz.results99, go_sem, k0, k1]) rfl ⟨PaP.no HN.out, bst (bst Hb3.out (Nat.le_refl _) _) (Nat.le_refl _) _⟩
  · have HN := Lib.hid (Hn1.out hno1)
    clear hno1
    go_wp2_with fail
    refine (Hat2.out _ He2.out).mono ?_; rintro e w3 ⟨hat2, hb3⟩
    have HR3 := Lib.hid (HR2.out.on hb3); have He3 := Lib.hid (He2.out.on hb3); have Hb3 := Lib.hid (bthen Hb2.out hb3); clear hb3
    rcases hat2 with ⟨v2, hv2, l2, u2, rfl⟩ | ⟨hno2, v2, t2, N2, rfl⟩
    · skip
      have r0 := HR3.out.cell 0
      have r1 := HR3.out.cell 1
      simp at r0 r1
      have rl := HR3.out.lt
      have rf := HR3.out.frozen
      go_wp2
      clear r0 r1 rf
      have HR6 := HR3.out.set2 (b0 := .int .i64 0) (b1 := .int .i64 0)
      have k0 := HR6.cell 0
      have k1 := HR6.cell 1
      simp at k0 k1
      exact bodyPost_ret (v := .tuple #[.agg #[.int .i64 0, .int .i64 0], .bool false]) (by simp [results, Tryz.results99, go_sem, k0, k1]) rfl ⟨PaP.no HN.out, bst (bst Hb3.out (Nat.le_refl _) _) (Nat.le_refl _) _⟩
    · skip
      have r0 := HR3.out.cell 0
      have r1 := HR3.out.cell 1
      simp at r0 r1
      have rl := HR3.out.lt
      have rf := HR3.out.frozen
      go_wp2
      clear r0 r1 rf
      have HR6 := HR3.out.set2 (b0 := .int .i64 0) (b1 := .int .i64 0)
      have k0 := HR6.cell 0
      have k1 := HR6.cell 1
      simp at k0 k1
      exact bodyPost_ret (v := .tuple #[.agg #[.int .i64 0, .int .i64 0], .bool false]) (by simp [results, Tryz.results99, go_sem, k0, k1]) rfl ⟨PaP.no HN.out, bst (bst Hb3.out (Nat.le_refl _) _) (Nat.le_refl _) _⟩
end
section
open Go Go.RowKit

/-- What both hand back, in memory of their own. -/
def PcRet (s : ByteArray) (base : Nat) (e : Ending) (w' : World) : Prop :=
  ∃ v : Value, e = .returned (.tuple #[v, .bool (pkV s).2]) ∧ w'.ownsRow base 29 5 v (pkV s).1.length (enS.flat (pkV s).1)
theorem PcRet.no {s : ByteArray} {base : Nat} {w' : World} (h : NoPc s) : PcRet s base (.returned (.tuple #[.slice none 0 0, .bool false])) w' := by
  unfold PcRet
  rw [pkV_none h]
  exact ⟨_, rfl, by simp [Shape.flat], Or.inl ⟨rfl, rfl⟩⟩
theorem PcRet.yes {s : ByteArray} {base : Nat} {w' : World} {es : List En} {v : Value} (h : PcIs s es) (ho : w'.ownsRow base 29 5 v es.length (enS.flat es)) : PcRet s base (.returned (.tuple #[v, .bool true])) w' := by
  unfold PcRet
  rw [pkV_some h]
  exact ⟨_, rfl, ho⟩
theorem infoEn : (Tryz.prog.info? 29).map (fun i => (i.zero, i.size, i.bytes)) = some (some (.agg #[.int .i64 0, .int .i64 0, .int .i64 0, .int .i64 0, .int .i64 0]), 5, 40) := by kernel_rfl
theorem en5 (x : En) : enS.flat [x] = [.int .i64 x.a, .int .i64 x.b, .int .i64 x.lo, .int .i64 x.hi, .int .i64 x.to] := rfl
theorem splitB_size1 (sep : ByteArray) (sv : Nat) : ∀ (k : Nat) (s : ByteArray), ∀ x ∈ Lib.splitB sep sv k s, x.size ≤ s.size
  | 0, s, x, h => by
    have : x = s := by simpa [Lib.splitB] using h
    rw [this]; exact Nat.le_refl _
  | k + 1, s, x, h => by
    unfold Lib.splitB at h
    split at h
    · have : x = s := by simpa using h
      rw [this]; exact Nat.le_refl _
    · rcases List.mem_cons.1 h with rfl | h
      · rw [ByteArray.size_extract]; omega
      · have := splitB_size1 sep sv k _ x h
        rw [ByteArray.size_extract] at this
        omega
theorem pcsB_length (s : ByteArray) : (pcsB s).length = Lib.countB s ⟨#[10]⟩ + 1 := Lib.splitB_all ⟨#[10]⟩ (by decide) 1 _ _ rfl
set_option maxHeartbeats 1000000 in
theorem splitAfter_any (s : ByteArray) (w : World) (hs : s.size ≤ 100000000) (h : Env w) :
    Calls Tryz.prog 96 #[.string s, .string ⟨#[10]⟩] w fun e w' => e = .returned (.slice (some ⟨w.heap.size, 0, none⟩) (pcsB s).length (pcsB s).length) ∧ Blk w' w.heap.size 9 ((pcsB s).map Value.string).toArray ∧ Below w.heap.size w w' := by
  have hlen := pcsB_length s
  obtain ⟨m, hm⟩ := Tryz.laysM146.s1_3 w h.sh
  have c := Any.strings_genSplit { Tryz.laysM146 with } Tryz.laysM146.i9 s ⟨#[10]⟩ 1 (-1) (Lib.countB s ⟨#[10]⟩ + 1) m w (by omega) hm (by decide) (by decide) (by decide) (by decide) (by rw [if_pos (by decide)]; have := Lib.countB_le ⟨#[10]⟩ (by decide) s.size s (Nat.le_refl _); omega)
  rw [Nat.add_sub_cancel] at c
  have e2 : Lib.cellsOf (pcsB s) (Lib.countB s ⟨#[10]⟩ + 1) = ((pcsB s).map Value.string).toArray := by rw [← hlen]; exact Lib.cellsOf_full _
  unfold pcsB at e2 hlen ⊢
  rw [e2, hlen] at c
  rw [hlen]
  go_enter Tryz.func96, Tryz.ntmps96
  go_wp2_with (go_at_call 169; refine c.mono ?_; rintro e w' ⟨rfl, hw⟩; subst hw)
  go_ret
  exact ⟨rfl, Blk.new w _ _, bal (Below.refl _ _) _⟩
theorem trim_any (s : ByteArray) (w : World) (hs : s.size ≤ 100000000) : Calls Tryz.prog 98 #[.string s, .string ⟨#[10]⟩] w fun e w' => e = .returned (.string ⟨(trimL s.data.toList).toArray⟩) ∧ w = w' := by
  refine (Tryz.strings_TrimSuffix s ⟨#[10]⟩ w (by omega)).mono fun e w' hp => ?_
  obtain ⟨he, rfl⟩ := hp
  exact ⟨he, rfl⟩
theorem split_w4 (s : ByteArray) (w : World) (hs : s.size ≤ 100000000) (h : Env w) : Calls Tryz.prog 97 #[.string s, .string ⟨#[32]⟩] w fun e w' => e = .returned (.slice (some ⟨w.heap.size, 0, none⟩) (splW4 s).length (splW4 s).length) ∧ Blk w' w.heap.size 9 ((splW4 s).map Value.string).toArray ∧ Below w.heap.size w w' := by
  refine (Tryz.strings_Split_shaped s ⟨#[32]⟩ w h.sh (by omega) (by decide)).mono fun e w' hp => ?_
  obtain ⟨he, rfl⟩ := hp
  rw [splW4_length]
  exact ⟨he, Blk.new w _ _, bal (Below.refl _ _) _⟩
theorem splW4_size {s : ByteArray} {x : ByteArray} (h : x ∈ splW4 s) : x.size ≤ s.size := splitB_size1 _ _ _ _ x h
/-- How strconv.Atoi ends: its number and its error. -/
def AtE (x : List UInt8) (v : Int) (E : Value) : Prop :=
  (Lib.atoiAll x = .ok v ∧ E = .nilIface) ∨ ((∀ u : Int, Lib.atoiAll x ≠ .ok u) ∧ ∃ (t : TypeId) (N : Nat), E = .iface t (.pointer (some ⟨N, 0, none⟩)))
theorem atoi_e (s : ByteArray) (w : World) (hs : s.size ≤ 100000000) (h : Env w) : Calls Tryz.prog 101 #[.string s] w fun e w' => (∃ (v : Int) (E : Value), AtE s.data.toList v E ∧ e = .returned (.tuple #[.int .i64 v, E])) ∧ Below w.heap.size w w' := by
  refine (atoi_any s w hs h).mono fun e w' hp => ?_
  obtain ⟨ha, hb⟩ := hp
  refine ⟨?_, hb⟩
  rcases ha with ⟨v, hv, -, -, rfl⟩ | ⟨hno, v, t, N, rfl⟩
  · exact ⟨v, _, Or.inl ⟨hv, rfl⟩, rfl⟩
  · exact ⟨v, _, Or.inr ⟨hno, t, N, rfl⟩, rfl⟩
theorem clI_words {p : List UInt8} {y0 y1 y2 y3 : ByteArray} (h : splW4 ⟨(trimL p).toArray⟩ = [y0, y1, y2, y3]) : clI p = rd4I y0.data.toList y1.data.toList y2.data.toList y3.data.toList := by
  unfold clI; rw [h]; rfl
theorem clI_not4 {p : List UInt8} (h : (splW4 ⟨(trimL p).toArray⟩).length ≠ 4) : clI p = none := by
  unfold clI
  split
  · rename_i hh
    have := congrArg List.length hh
    simp at this
    exact absurd this h
  · rfl
theorem rd4I_pc {w0 w1 w2 w3 : List UInt8} (h : (pcV (w0 ++ 32 :: w1)).2.2 = false) : rd4I w0 w1 w2 w3 = none := by
  unfold rd4I
  have : paC (w0 ++ 32 :: w1) = none := by
    unfold pcV at h
    cases hp : paC (w0 ++ 32 :: w1) with
    | none => rfl
    | some p => rw [hp] at h; cases h
  rw [this]
theorem pcV_paC {l : List UInt8} (h : (pcV l).2.2 = true) : paC l = some ((pcV l).1, (pcV l).2.1) := by
  unfold pcV at h ⊢
  cases hp : paC l with
  | none => rw [hp] at h; cases h
  | some p => rfl
theorem rd4I_lo {w0 w1 w2 w3 : List UInt8} (h : ∀ u : Int, Lib.atoiAll (Lib.cut w2 [46, 46]).1 ≠ .ok u) : rd4I w0 w1 w2 w3 = none := by
  unfold rd4I
  split
  · rename_i h1 h2 h3 h4; exact absurd h2 (h _)
  · rfl
theorem rd4I_hi {w0 w1 w2 w3 : List UInt8} (h : ∀ u : Int, Lib.atoiAll (Lib.cut w2 [46, 46]).2.1 ≠ .ok u) : rd4I w0 w1 w2 w3 = none := by
  unfold rd4I
  split
  · rename_i h1 h2 h3 h4; exact absurd h3 (h _)
  · rfl
theorem rd4I_to {w0 w1 w2 w3 : List UInt8} (h : ∀ u : Int, Lib.atoiAll w3 ≠ .ok u) : rd4I w0 w1 w2 w3 = none := by
  unfold rd4I
  split
  · rename_i h1 h2 h3 h4; exact absurd h4 (h _)
  · rfl
theorem rd4I_yes {w0 w1 w2 w3 : List UInt8} {lo hi t : Int} (hc : (pcV (w0 ++ 32 :: w1)).2.2 = true) (h1 : Lib.atoiAll (Lib.cut w2 [46, 46]).1 = .ok lo) (h2 : Lib.atoiAll (Lib.cut w2 [46, 46]).2.1 = .ok hi) (h3 : Lib.atoiAll w3 = .ok t) :
    rd4I w0 w1 w2 w3 = some ⟨(pcV (w0 ++ 32 :: w1)).1, (pcV (w0 ++ 32 :: w1)).2.1, lo, hi, t⟩ := by
  unfold rd4I
  rw [pcV_paC hc, h1, h2, h3]
theorem list4r {E : Type} {l : List E} (h : l.length = 4) : ∃ a b c d, l = [a, b, c, d] := by
  match l, h with
  | [a, b, c, d], _ => exact ⟨a, b, c, d, rfl⟩
theorem parseCurve_det (s : ByteArray) (w : World) (hs : s.size ≤ 4000000) (h : Env w) :
    Calls Tryz.prog 99 #[.string s] w fun e w' => e = .returned (.tuple #[.agg #[.int .i64 (pcV s.data.toList).1, .int .i64 (pcV s.data.toList).2.1], .bool (pcV s.data.toList).2.2]) ∧ Below w.heap.size w w' := by
  refine (parseCurve_any s w hs h).mono fun e w' hh => ?_
  obtain ⟨h1, h2⟩ := hh
  refine ⟨?_, h2⟩
  unfold pcV
  rcases h1 with ⟨a, b, hp, rfl⟩ | ⟨hp, rfl⟩
  · rw [hp]
  · rw [hp]
set_option linter.unusedSimpArgs false in
set_option maxRecDepth 20000 in
set_option maxHeartbeats 8000000 in
theorem implPc_any (s : ByteArray) (w : World) (hs : s.size ≤ 1900000) (h : Env w) :
    Calls Tryz.prog 19 #[.string s] w fun e w' => PcRet s w.heap.size e w' ∧ Below w.heap.size w w' := by
  obtain ⟨i0, hi, hz0, hz1, hz2⟩ := info_parts infoEn
  have hpl := pcsB_length s
  have hcl := Lib.countB_le ⟨#[10]⟩ (by decide) s.size s (Nat.le_refl _)
  have hpl2 : (pcsB s).length ≤ 1900001 := by omega
  clear hpl hcl
  have Hpsz := Lib.hid (fun j (hj : j < (pcsB s).length) => Nat.le_trans (splitB_size1 ⟨#[10]⟩ 1 (Lib.countB s ⟨#[10]⟩) s _ (List.getElem_mem hj)) hs)
  have Hskip := Lib.hid (fun j xs h hp h0 => PcInv.skip (s := s) (j := j) (xs := xs) h hp h0)
  have Hfull := Lib.hid (fun j xs h hp h0 h12 => PcInv.full (s := s) (j := j) (xs := xs) h hp h0 h12)
  have Hbad := Lib.hid (fun j hp h0 hc => PcInv.bad (s := s) (j := j) hp h0 hc)
  have Hnext := Lib.hid (fun j xs h hp h0 e hc => PcInv.next (s := s) (j := j) (xs := xs) h hp h0 (e := e) hc)
  have Hdone := Lib.hid (fun j xs h hj es he => PcInv.done (s := s) (j := j) (xs := xs) h hj (es := es) he)
  have Hsa := Lib.hid (fun W h => splitAfter_any s W (by omega) h)
  change Hid (∀ j (hj : j < (pcsB s).length), (pcsB s)[j].size ≤ 1900000) at Hpsz
  generalize pcsB s = P at Hpsz Hskip Hfull Hbad Hnext Hdone Hsa hpl2
  have He := Lib.hid h; clear h
  go_enter Tryz.func19, Tryz.ntmps19
  go_wp2_with fail
  refine (Hsa.out _ He.out).mono ?_; rintro e w1 ⟨rfl, hB1, hb1⟩
  have HW1 := Lib.hid hB1; have He1 := Lib.hid (He.out.on hb1); have Hb1 := Lib.hid hb1; clear hb1 hB1
  have Hgw : Hid (w.heap.size < w1.heap.size) := Lib.hid HW1.out.lt
  obtain ⟨gw, hgw⟩ : ∃ g, w.heap.size = g := ⟨_, rfl⟩
  rw [hgw] at HW1 ⊢
  go_wp2
  go_loopw [22, 4] (fun i o wr => ∃ (j : Nat) (xs : List En), j ≤ P.length ∧ i = .int .i64 j ∧ xs.length ≤ 12 ∧ Hid (PcInv s j xs) ∧ Below w1.heap.size w1 wr ∧ Hid (wr.ownsRow w1.heap.size 29 5 o xs.length (enS.flat xs))) (fun i _ _ => P.length - (intOf i).toNat)
  case atStart => exact ⟨0, [], Nat.zero_le _, rfl, Nat.zero_le _, Lib.hid (PcInv.zero s), Below.refl _ _, Lib.hid ⟨by simp [Shape.flat], Or.inl ⟨rfl, rfl⟩⟩⟩
  case round =>
    obtain ⟨j, xs, hj, rfl, hx12, Hinv, hb, Hown⟩ := hrel
    have HWr := Lib.hid (HW1.out.on hb)
    have Her := Lib.hid (He1.out.on hb)
    have Hbr := Lib.hid (bthen Hb1.out hb)
    obtain ⟨A9, c9, rfl⟩ := own_form Hown.out
    by_cases hlt : j < P.length
    · have hlo := HWr.out.lt
      have f0 : wr.cell? ⟨gw, j, none⟩ = some (.string P[j]) := by
        rw [HWr.out.cell j, List.getElem?_toArray, List.getElem?_map, List.getElem?_eq_getElem hlt]; rfl
      have Hsz := Lib.hid (Hpsz.out j hlt)
      have Hsk := Lib.hid (Hskip.out j xs Hinv.out hlt)
      have Hfu := Lib.hid (Hfull.out j xs Hinv.out hlt)
      have Hba := Lib.hid (Hbad.out j hlt)
      have Hne := Lib.hid (Hnext.out j xs Hinv.out hlt)
      generalize P[j] = p at f0 Hsz Hsk Hfu Hba Hne
      have hi0 : (0 : Int) ≤ (j : Int) := by omega
      have hi1 : (j : Int) < (P.length : Int) := by omega
      by_cases hp0 : p = ⟨#[]⟩
      · subst hp0
        have Hnew := Lib.hid (Hsk.out rfl)
        go_wp2
        go_roundw
        case rel => exact ⟨j + 1, xs, by omega, by go_num, hx12, Hnew, hb, Hown⟩
        case measure => simp [intOf]; omega
      · have hq0 : p.toList.isEmpty = false := by
          cases hh : p.toList with
          | nil => exact absurd (bytes_inj (a := p) (b := ⟨#[]⟩) (by rw [hh, ByteArray.toList_eq])) hp0
          | cons x r => rfl
        have Hp0 : Hid (p.data.toList ≠ []) := Lib.hid (fun e => hp0 (bytes_ext e))
        clear hp0
        have Hfu := Lib.hid (Hfu.out Hp0.out)
        have Hba := Lib.hid (Hba.out Hp0.out)
        have Hne := Lib.hid (Hne.out Hp0.out)
        have Htl := Lib.hid (trimL_len p.data.toList)
        have Hsz1 : Hid ((⟨(trimL p.data.toList).toArray⟩ : ByteArray).size ≤ 1900000) := Lib.hid (by
          have h1 := Htl.out; have h2 := Hsz.out
          show (trimL p.data.toList).toArray.size ≤ _
          rw [List.size_toArray]
          have h3 : p.data.toList.length = p.size := rfl
          omega)
        have Hwsz := Lib.hid (fun x (hx : x ∈ splW4 ⟨(trimL p.data.toList).toArray⟩) => Nat.le_trans (splW4_size hx) Hsz1.out)
        have Hn4 := Lib.hid (fun h => Hba.out (clI_not4 (p := p.data.toList) h))
        have Hcl := Lib.hid (fun y0 y1 y2 y3 h => clI_words (p := p.data.toList) (y0 := y0) (y1 := y1) (y2 := y2) (y3 := y3) h)
        have Htr := Lib.hid (fun W => trim_any p W (by have := Hsz.out; omega))
        have Hsp := Lib.hid (fun W h => split_w4 ⟨(trimL p.data.toList).toArray⟩ W (by have := Hsz1.out; omega) h)
        generalize splW4 ⟨(trimL p.data.toList).toArray⟩ = ws at Hwsz Hn4 Hcl Hsp
        generalize (⟨(trimL p.data.toList).toArray⟩ : ByteArray) = pt at Htr Hsp
        clear Hskip Hfull Hbad Hnext Hsa
        go_wp2_with fail
        refine (Htr.out _).mono ?_; rintro e w9 ⟨rfl, rfl⟩
        go_wp2_with fail
        refine (Hsp.out _ Her.out).mono ?_; rintro e w2 ⟨rfl, hB2, hb2⟩
        clear f0 hlo
        have HW2 := Lib.hid hB2; have He2 := Lib.hid (Her.out.on hb2); have Hb2 := Lib.hid (bthen Hbr.out hb2); have Hb12 := Lib.hid (bthen hb hb2); have Hown2 := Lib.hid (own_below Hown.out hb2); clear hb2 hB2
        obtain ⟨gv, hgv⟩ : ∃ g, wr.heap.size = g := ⟨_, rfl⟩
        rw [hgv] at HW2 ⊢
        clear hgv
        by_cases h4 : ws.length = 4
        · obtain ⟨y0, y1, y2, y3, rfl⟩ := list4r h4
          clear h4
          by_cases h12 : xs.length = 12
          · have HN := Lib.hid (Hfu.out h12)
            have hq12 : ((xs.length : Int) == 12) = true := by rw [h12]; rfl
            go_wp2
            go_ret2
            exact ⟨PcRet.no HN.out, Hb2.out⟩
          · have hq12 : ((xs.length : Int) == 12) = false := beq_eq_false_iff_ne.2 (by omega)
            have hx11 : xs.length ≤ 11 := by omega
            clear h12 Hfu Hn4
            have Hc := Lib.hid (Hcl.out y0 y1 y2 y3 rfl)
            have z0 := Hwsz.out y0 (by simp)
            have z1 := Hwsz.out y1 (by simp)
            have z2 := Hwsz.out y2 (by simp)
            have z3 := Hwsz.out y3 (by simp)
            clear Hwsz Hcl
            have hT : (y0 ++ (⟨#[32]⟩ : ByteArray) ++ y1).data.toList = y0.data.toList ++ 32 :: y1.data.toList := by simp
            have s1 : (y0 ++ (⟨#[32]⟩ : ByteArray)).size ≤ 1900001 := by rw [ByteArray.size_append]; exact Nat.add_le_add z0 (Nat.le_refl _)
            have s2 : (y0 ++ (⟨#[32]⟩ : ByteArray) ++ y1).size ≤ 4000000 := by rw [ByteArray.size_append]; omega
            have Hec := Lib.hid (fun W h => parseCurve_det (y0 ++ (⟨#[32]⟩ : ByteArray) ++ y1) W s2 h)
            rw [hT] at Hec
            have a1 := str_add y0 (⟨#[32]⟩ : ByteArray) (by omega) (by decide)
            have a2 := str_add (y0 ++ (⟨#[32]⟩ : ByteArray)) y1 (by omega) (by omega)
            clear hT
            generalize (y0 ++ (⟨#[32]⟩ : ByteArray) ++ y1) = T at Hec a2 s2
            generalize (y0 ++ (⟨#[32]⟩ : ByteArray)) = Y at a1 a2 s1
            have f0 : w2.cell? ⟨gv, 0, none⟩ = some (.string y0) := by rw [HW2.out.cell 0]; rfl
            have f1 : w2.cell? ⟨gv, 1, none⟩ = some (.string y1) := by rw [HW2.out.cell 1]; rfl
            have f2 : w2.cell? ⟨gv, 2, none⟩ = some (.string y2) := by rw [HW2.out.cell 2]; rfl
            have f3 : w2.cell? ⟨gv, 3, none⟩ = some (.string y3) := by rw [HW2.out.cell 3]; rfl
            have hlg := HW2.out.lt
            have Hpn := Lib.hid (fun h => Hba.out (Hc.out.trans (rd4I_pc (w0 := y0.data.toList) (w1 := y1.data.toList) (w2 := y2.data.toList) (w3 := y3.data.toList) h)))
            have Hln := Lib.hid (fun h => Hba.out (Hc.out.trans (rd4I_lo (w0 := y0.data.toList) (w1 := y1.data.toList) (w2 := y2.data.toList) (w3 := y3.data.toList) h)))
            have Hhn := Lib.hid (fun h => Hba.out (Hc.out.trans (rd4I_hi (w0 := y0.data.toList) (w1 := y1.data.toList) (w2 := y2.data.toList) (w3 := y3.data.toList) h)))
            have Htn := Lib.hid (fun h => Hba.out (Hc.out.trans (rd4I_to (w0 := y0.data.toList) (w1 := y1.data.toList) (w2 := y2.data.toList) (w3 := y3.data.toList) h)))
            have Hye := Lib.hid (fun lo hi t hc h1 h2 h3 => Hne.out _ (Hc.out.trans (rd4I_yes (w0 := y0.data.toList) (w1 := y1.data.toList) (w2 := y2.data.toList) (w3 := y3.data.toList) (lo := lo) (hi := hi) (t := t) hc h1 h2 h3)))
            generalize pcV (y0.data.toList ++ 32 :: y1.data.toList) = pv at Hec Hpn Hye
            obtain ⟨a, b, ok⟩ := pv
            simp only at Hec Hpn Hye
            have Hcu := Lib.hid (fun W h => cut_gen y2 ⟨#[46, 46]⟩ W (by omega) h)
            rw [show (⟨#[46, 46]⟩ : ByteArray).data.toList = [46, 46] from rfl] at Hcu
            have hcs := cut_sizes y2.data.toList [46, 46]
            rw [show y2.data.toList.length = y2.size from rfl] at hcs
            generalize Lib.cut y2.data.toList [46, 46] = cu at Hcu Hln Hhn Hye hcs
            obtain ⟨u1, u2, u3⟩ := cu
            simp only at Hcu Hln Hhn Hye hcs
            have hu1 : (⟨u1.toArray⟩ : ByteArray).size ≤ 4000000 := by show u1.toArray.size ≤ _; rw [List.size_toArray]; omega
            have hu2 : (⟨u2.toArray⟩ : ByteArray).size ≤ 4000000 := by show u2.toArray.size ≤ _; rw [List.size_toArray]; omega
            have Hat1 := Lib.hid (fun W h => atoi_e ⟨u1.toArray⟩ W (by omega) h)
            have Hat2 := Lib.hid (fun W h => atoi_e ⟨u2.toArray⟩ W (by omega) h)
            have Hat3 := Lib.hid (fun W h => atoi_e y3 W (by omega) h)
            rw [show (⟨u1.toArray⟩ : ByteArray).data.toList = u1 from rfl] at Hat1
            rw [show (⟨u2.toArray⟩ : ByteArray).data.toList = u2 from rfl] at Hat2
            generalize (⟨u1.toArray⟩ : ByteArray) = U1 at Hcu Hat1
            generalize (⟨u2.toArray⟩ : ByteArray) = U2 at Hcu Hat2
            generalize y3.data.toList = d3 at Hat3 Htn Hye
            clear hcs hu1 hu2 Hba Hc Hne Hsz Hsz1 Htl Hp0 Hsp Htr
            have HS : Hid (∀ w', Below w2.heap.size w2 w' → (w'.cell? ⟨gv, 0, none⟩ = some (.string y0) ∧ w'.cell? ⟨gv, 1, none⟩ = some (.string y1) ∧ Below w2.heap.size w2 w')) := Lib.hid (fun w' hw => ⟨(hw.cell (p := ⟨gv, 0, none⟩) hlg).trans f0, (hw.cell (p := ⟨gv, 1, none⟩) hlg).trans f1, hw⟩)
            have F2 := Lib.hid f2; have F3 := Lib.hid f3; clear f2 f3
            go_wp2_with fail
            go_cut [8, 9] (fun p o wx => ∃ (q : Nat), p = .pointer (some ⟨q, 0, none⟩) ∧ o = .bool ok ∧ Blk wx q 25 #[.int .i64 a, .int .i64 b] ∧ w2.heap.size ≤ q ∧ Below w2.heap.size w2 wx)
            case first =>
              have HecE : Hid (∀ W, Below w2.heap.size w2 W → Env W) := Lib.hid (fun W hW => He2.out.on hW)
              go_region_held3 (fun w' => w'.cell? ⟨gv, 0, none⟩ = some (.string y0) ∧ w'.cell? ⟨gv, 1, none⟩ = some (.string y1) ∧ Below w2.heap.size w2 w')
                ((go_split_ands; refine HS.out _ ?_; repeat (first | (with_reducible assumption) | (with_reducible exact Below.refl _ _) | (with_reducible refine Below.drew ?_) | (with_reducible refine bal ?_ _) | (with_reducible refine bst ?_ (by first | omega | (simp; done) | (simp; omega)) _) | (with_reducible refine bthen ?_ (by with_reducible assumption)))))
                ((first
                  | (go_at_call 99; (with_reducible refine (Hec.out _ (HecE.out _ (by repeat (first | (with_reducible assumption) | (with_reducible exact Below.refl _ _) | (with_reducible refine Below.drew ?_) | (with_reducible refine bal ?_ _))))).mono ?_); rintro e w3 ⟨rfl, hb3⟩; (try (have hz3 : Blk w3 w2.heap.size 25 #[.int .i64 0, .int .i64 0] := (Blk.drew (Blk.new w2 25 #[.int .i64 0, .int .i64 0])).on hb3; have zc0 := hz3.cell 0; have zc1 := hz3.cell 1; have zf0 := hz3.frozen 0; have zf1 := hz3.frozen 1; have zl := hz3.lt; have Hz3 := Lib.hid hz3; clear hz3)))))
              all_goals
                go_wp2_with fail
                go_meet
                have hsz3 : Hid (w2.drew.heap.size ≤ w3.heap.size → w2.heap.size ≤ w3.heap.size) := Lib.hid (fun h => h)
                first
                  | with_reducible exact ⟨_, rfl, rfl, Blk.new _ _ _, hsz3.out hb3.size, by repeat (with_reducible first | exact Below.refl _ _ | refine Below.drew ?_ | refine bal ?_ _ | refine bthen ?_ hb3)⟩
                  | exact ⟨_, rfl, rfl, Blk.set2 Hz3.out, Nat.le_refl _, by repeat (with_reducible first | exact Below.refl _ _ | refine Below.drew ?_ | refine bal ?_ _ | (refine bst ?_ (by first | omega | (simp; done) | (simp; omega)) _) | refine bthen ?_ hb3)⟩
            obtain ⟨q, rfl, rfl, hBq, hq, hbc⟩ := hcut
            have HBq := Lib.hid hBq
            have Hb3 := Lib.hid (bthen Hb2.out hbc); have Hb13 := Lib.hid (bthen Hb12.out hbc); have He3 := Lib.hid (He2.out.on hbc); have Hown3 := Lib.hid (own_below Hown2.out hbc)
            have f2 := (hbc.cell (p := ⟨gv, 2, none⟩) hlg).trans F2.out
            have f3 := (hbc.cell (p := ⟨gv, 3, none⟩) hlg).trans F3.out
            have hlg3 := Nat.lt_of_lt_of_le hlg hbc.size
            have Fh : Hid (∀ W, Below wc.heap.size wc W → W.cell? ⟨gv, 3, none⟩ = some (.string y3) ∧ gv < W.heap.size) := Lib.hid (fun W hW => ⟨(hW.cell (p := ⟨gv, 3, none⟩) hlg3).trans f3, Nat.lt_of_lt_of_le hlg3 hW.size⟩)
            clear HS F2 F3 f0 f1 f3 a1 a2 hBq hq hbc Hec HW2 hlg
            go_wp2_with fail
            refine (Hcu.out _ He3.out).mono ?_; rintro e w4 ⟨rfl, hb4⟩
            clear f2
            have Hbc4 := Lib.hid hb4
            have HBq4 := Lib.hid (HBq.out.on hb4); have He4 := Lib.hid (He3.out.on hb4); have Hb4 := Lib.hid (bthen Hb3.out hb4); have Hb14 := Lib.hid (bthen Hb13.out hb4); have Hown4 := Lib.hid (own_below Hown3.out hb4); clear hb4
            go_wp2_with fail
            refine (Hat1.out _ He4.out).mono ?_; rintro e w5 ⟨⟨v1, E1, hE1, rfl⟩, hb5⟩
            have HE1 := Lib.hid hE1; clear hE1
            have Hbc5 := Lib.hid (bthen Hbc4.out hb5)
            have HBq5 := Lib.hid (HBq4.out.on hb5); have He5 := Lib.hid (He4.out.on hb5); have Hb5 := Lib.hid (bthen Hb4.out hb5); have Hb15 := Lib.hid (bthen Hb14.out hb5); have Hown5 := Lib.hid (own_below Hown4.out hb5); clear hb5
            go_wp2_with fail
            refine (Hat2.out _ He5.out).mono ?_; rintro e w6 ⟨⟨v2, E2, hE2, rfl⟩, hb6⟩
            have HE2 := Lib.hid hE2; clear hE2
            have Hbc6 := Lib.hid (bthen Hbc5.out hb6)
            have HBq6 := Lib.hid (HBq5.out.on hb6); have He6 := Lib.hid (He5.out.on hb6); have Hb6 := Lib.hid (bthen Hb5.out hb6); have Hb16 := Lib.hid (bthen Hb15.out hb6); have Hown6 := Lib.hid (own_below Hown5.out hb6); clear hb6
            have f3 := (Fh.out _ Hbc6.out).1
            have hl3 := (Fh.out _ Hbc6.out).2
            go_wp2_with fail
            refine (Hat3.out _ He6.out).mono ?_; rintro e w7 ⟨⟨v3, E3, hE3, rfl⟩, hb7⟩
            have HE3 := Lib.hid hE3; clear hE3 f3 hl3
            have HBq7 := Lib.hid (HBq6.out.on hb7); have He7 := Lib.hid (He6.out.on hb7); have Hb7 := Lib.hid (bthen Hb6.out hb7); have Hb17 := Lib.hid (bthen Hb16.out hb7); have Hown7 := Lib.hid (own_below Hown6.out hb7); clear hb7
            clear Hcu Hat1 Hat2 Hat3 HBq HBq4 HBq5 HBq6 Hown Hown2 Hown3 Hown4 Hown5 Hown6 Fh
            cases ok
            · have HN := Lib.hid (Hpn.out rfl)
              go_wp2
              go_ret2
              exact ⟨PcRet.no HN.out, Hb7.out⟩
            · rcases HE1.out with ⟨g1, rfl⟩ | ⟨g1, t1, N1, rfl⟩
              · rcases HE2.out with ⟨g2, rfl⟩ | ⟨g2, t2, N2, rfl⟩
                · rcases HE3.out with ⟨g3, rfl⟩ | ⟨g3, t3, N3, rfl⟩
                  · have Hnew := Lib.hid (Hye.out v1 v2 v3 rfl g1 g2 g3)
                    clear g1 g2 g3
                    have b0 := HBq7.out.cell 0
                    have b1 := HBq7.out.cell 1
                    have bl := HBq7.out.lt
                    simp at b0 b1
                    go_wp2_with (at_builtin; refine wpList_append_own _ rfl _ _ 23 rfl w1.heap.size 29 i0 (.agg #[.int .i64 0, .int .i64 0, .int .i64 0, .int .i64 0, .int .i64 0]) 5 40 Tryz.underlying23 hi hz0 hz1 hz2 rfl (by decide) _ _ _ rfl (Hown7.out.alloc _) ⟨w7.heap.size, 0, none⟩ 1 1 (enS.flat [En.mk a b v1 v2 v3]) rfl rfl ?c1 ?c2 ?c3 ?c4 ?c5 ?_)
                    case c1 =>
                      intro j u hj
                      rw [en5] at hj
                      match j, hj with
                      | 0, hj => simp at hj; subst hj; exact (Blk.new w7 _ _).cell 0
                      | 1, hj => simp at hj; subst hj; exact (Blk.new w7 _ _).cell 1
                      | 2, hj => simp at hj; subst hj; exact (Blk.new w7 _ _).cell 2
                      | 3, hj => simp at hj; subst hj; exact (Blk.new w7 _ _).cell 3
                      | 4, hj => simp at hj; subst hj; exact (Blk.new w7 _ _).cell 4
                    case c2 => intro u hu; rw [en5] at hu; simp at hu; rcases hu with rfl | rfl | rfl | rfl | rfl <;> rfl
                    case c3 => unfold maxLen; omega
                    case c4 => omega
                    case c5 => have := Hb17.out.size; simp; omega
                    intro v' w8 hown' hgrow _
                    have hb18 : Below w1.heap.size w1 w8 := Below.grown (bal Hb17.out _) hgrow (by have := Hb17.out.size; simp; omega) (fun j hj => (Hown7.out.lt j hj).1)
                    have Hown' := Lib.hid (show w8.ownsRow w1.heap.size 29 5 v' (xs ++ [En.mk a b v1 v2 v3]).length (enS.flat (xs ++ [En.mk a b v1 v2 v3])) by rw [Shape.flat_append, List.length_append]; exact hown')
                    clear hown' hgrow b0 b1
                    go_wp2
                    go_roundw
                    case rel => exact ⟨j + 1, xs ++ [En.mk a b v1 v2 v3], by omega, by go_num, by rw [List.length_append, List.length_singleton]; omega, Hnew, hb18, Hown'⟩
                    case measure => simp [intOf]; omega
                  · have HN := Lib.hid (Htn.out g3)
                    clear g1 g2 g3
                    go_wp2
                    go_ret2
                    exact ⟨PcRet.no HN.out, Hb7.out⟩
                · have HN := Lib.hid (Hhn.out g2)
                  clear g1 g2
                  go_wp2
                  go_ret2
                  exact ⟨PcRet.no HN.out, Hb7.out⟩
              · have HN := Lib.hid (Hln.out g1)
                clear g1
                go_wp2
                go_ret2
                exact ⟨PcRet.no HN.out, Hb7.out⟩
        · have HN := Lib.hid (Hn4.out h4)
          have h3 : ((ws.length : Int) == 4) = false := beq_eq_false_iff_ne.2 (by omega)
          have h5 : ((ws.length : Int) != 4) = true := by simp [bne, h3]
          go_wp2
          go_ret2
          exact ⟨PcRet.no HN.out, Hb2.out⟩
    · obtain rfl : j = P.length := by omega
      have Hall := Lib.hid (fun es he => Hdone.out _ xs Hinv.out rfl es he)
      have HRd := Lib.hid (Rd.of_own (S := enS) Hown.out rfl)
      clear Hskip Hfull Hbad Hnext Hdone Hsa Hpsz
      go_wp2_with fail
      refine (isCatalogue_any _ xs _ HRd.out).mono ?_; rintro e w2 ⟨rfl, hb2⟩
      have HRd2 := Lib.hid (HRd.out.on hb2); have He2 := Lib.hid (Her.out.on hb2); have Hb2 := Lib.hid (bthen Hbr.out hb2); have Hown2 := Lib.hid (own_below Hown.out hb2); clear hb2
      cases hcb : catB xs
      · have HN : Hid (NoPc s) := Lib.hid (fun es he => by have h1 := Hall.out es he; have h2 := he.1; rw [← h1, hcb] at h2; cases h2)
        clear hcb
        go_wp2
        go_ret2
        exact ⟨PcRet.no HN.out, Hb2.out⟩
      · have Hcb := Lib.hid hcb; clear hcb
        go_wp2_with fail
        refine (catalogueText_any _ xs _ HRd2.out hx12 (catB_all9 Hcb.out).2 He2.out.tab).mono ?_; rintro e w3 ⟨rfl, hb3⟩
        have Hb3 := Lib.hid (bthen Hb2.out hb3); have Hown3 := Lib.hid (own_below Hown2.out hb3); clear hb3
        by_cases htx : catT xs xs.length = s
        · have hq : ((catT xs xs.length).toList == s.toList) = true := by rw [htx]; simp
          have HY : Hid (PcIs s xs) := Lib.hid ⟨Hcb.out, htx⟩
          clear htx
          go_wp2
          go_ret2
          exact ⟨PcRet.yes HY.out (own_mono Hown3.out (by have := Hgw.out; omega)), Hb3.out⟩
        · have hq : ((catT xs xs.length).toList == s.toList) = false := beq_eq_false_iff_ne.2 (fun e => htx (bytes_inj e))
          have HN : Hid (NoPc s) := Lib.hid (fun es he => by have h1 := Hall.out es he; exact htx (by rw [h1]; exact he.2))
          clear htx
          go_wp2
          go_ret2
          exact ⟨PcRet.no HN.out, Hb3.out⟩
end
section
open Go Go.RowKit

section
variable {w : World} {g : Nat} {t : TypeId}
theorem Blk.cells5 {a0 a1 a2 a3 a4 : Value} (h : Blk w g t #[a0, a1, a2, a3, a4]) : w.cell? ⟨g, 0, none⟩ = some a0 ∧ w.cell? ⟨g, 1, none⟩ = some a1 ∧ w.cell? ⟨g, 2, none⟩ = some a2 ∧ w.cell? ⟨g, 3, none⟩ = some a3 ∧ w.cell? ⟨g, 4, none⟩ = some a4 :=
  ⟨h.cell 0, h.cell 1, h.cell 2, h.cell 3, h.cell 4⟩
end
theorem drewK {w : World} {a : Addr} {v : Value} (h : w.cell? a = some v) : w.drew.cell? a = some v := h
theorem farK {w : World} {g o b j : Nat} {v u : Value} (h : w.cell? ⟨b, j, none⟩ = some u) (hne : b ≠ g) : (w.setCell ⟨g, o, none⟩ v).cell? ⟨b, j, none⟩ = some u := by
  rw [World.cell?_setCell_other _ _ _ _ (by intro e; injection e with e1; exact hne e1.symm)]
  exact h
def ClP (l : List UInt8) (e : Ending) : Prop :=
  (∃ x : En, clS l = some x ∧ e = .returned (.tuple #[.agg #[.int .i64 x.a, .int .i64 x.b, .int .i64 x.lo, .int .i64 x.hi, .int .i64 x.to], .bool true])) ∨
  (clS l = none ∧ e = .returned (.tuple #[.agg #[.int .i64 0, .int .i64 0, .int .i64 0, .int .i64 0, .int .i64 0], .bool false]))
theorem ClP.no {l : List UInt8} (h : clS l = none) : ClP l (.returned (.tuple #[.agg #[.int .i64 0, .int .i64 0, .int .i64 0, .int .i64 0, .int .i64 0], .bool false])) := Or.inr ⟨h, rfl⟩
theorem ClP.yes {l : List UInt8} {a b lo hi t : Int} (h : clS l = some ⟨a, b, lo, hi, t⟩) : ClP l (.returned (.tuple #[.agg #[.int .i64 a, .int .i64 b, .int .i64 lo, .int .i64 hi, .int .i64 t], .bool true])) := Or.inl ⟨_, h, rfl⟩
theorem clS_not4 {l : List UInt8} (h : (spl 32 l).length ≠ 4) : clS l = none := by
  unfold clS
  split
  · rename_i hh; rw [hh] at h; exact absurd rfl h
  · rfl
theorem clS_four {l w0 w1 w2 w3 : List UInt8} (h : spl 32 l = [w0, w1, w2, w3]) : clS l = rd4S w0 w1 w2 w3 := by
  unfold clS; rw [h]
theorem rd4S_pc {w0 w1 w2 w3 : List UInt8} (h : (pcV (w0 ++ 32 :: w1)).2.2 = false) : rd4S w0 w1 w2 w3 = none := by
  unfold rd4S
  have : paC (w0 ++ 32 :: w1) = none := by
    unfold pcV at h
    cases hp : paC (w0 ++ 32 :: w1) with
    | none => rfl
    | some p => rw [hp] at h; cases h
  rw [this]
theorem rd4S_len {w0 w1 w2 w3 : List UInt8} (h : (spl 46 w2).length ≠ 3) : rd4S w0 w1 w2 w3 = none := by
  unfold rd4S
  split
  · rename_i h1 h2
    rw [h2] at h; exact absurd rfl h
  · rfl
theorem rd4S_yes {w0 w1 w2 w3 x y z : List UInt8} (hc : (pcV (w0 ++ 32 :: w1)).2.2 = true) (h : spl 46 w2 = [x, z, y]) :
    rd4S w0 w1 w2 w3 = some ⟨(pcV (w0 ++ 32 :: w1)).1, (pcV (w0 ++ 32 :: w1)).2.1, rdN x, rdN y, rdN w3⟩ := by
  unfold rd4S
  rw [pcV_paC hc, h]
theorem list3g {E : Type} {l : List E} (h : l.length = 3) : ∃ a b c, l = [a, b, c] := by
  match l, h with
  | [a, b, c], _ => exact ⟨a, b, c, rfl⟩
set_option linter.unusedSimpArgs false in
set_option maxRecDepth 20000 in
set_option maxHeartbeats 4000000 in
theorem caLine_any (s : ByteArray) (w : World) (hs : s.size ≤ 1900000) :
    Calls Tryz.prog 103 #[.string s] w fun e w' => ClP s.data.toList e ∧ Below w.heap.size w w' := by
  have hlen : s.data.toList.length = s.size := rfl
  have HR := Lib.hid (Blk.new w 29 #[.int .i64 0, .int .i64 0, .int .i64 0, .int .i64 0, .int .i64 0])
  have hA := bal (Below.refl w.heap.size w) (Obj.cells #[.int .i64 0, .int .i64 0, .int .i64 0, .int .i64 0, .int .i64 0] 29)
  have HbA := Lib.hid hA; clear hA
  have Hsp := Lib.hid (fun W => l1Split_any s 32 W (by omega))
  have hspl := spl_len 32 s.data.toList
  have Hmem := Lib.hid (fun x hx => spl_mem 32 s.data.toList x hx)
  have Hn4 := Lib.hid (fun h => ClP.no (clS_not4 (l := s.data.toList) h))
  have H4 := Lib.hid (fun w0 w1 w2 w3 h => clS_four (l := s.data.toList) (w0 := w0) (w1 := w1) (w2 := w2) (w3 := w3) h)
  rw [hlen] at hspl
  generalize spl 32 s.data.toList = ps at Hsp hspl Hmem Hn4 H4
  go_enter Tryz.func103, Tryz.ntmps103
  go_wp2_with fail
  refine (Hsp.out _).mono ?_; rintro e w1 ⟨⟨v1, rfl, hown⟩, hb1⟩
  have HR1 := Lib.hid (HR.out.on hb1); have Hb1 := Lib.hid (bthen HbA.out hb1); clear hb1
  obtain ⟨A1, c1, rfl⟩ := own_form hown
  have Hown := Lib.hid hown; clear hown
  by_cases h4 : ps.length = 4
  · obtain ⟨x0, x1, x2, x3, rfl⟩ := list4r h4
    clear h4 Hn4
    have Hc := Lib.hid (H4.out x0 x1 x2 x3 rfl)
    have sz : ∀ x ∈ [x0, x1, x2, x3], (⟨x.toArray⟩ : ByteArray).size ≤ 1900000 := fun x hx => by
      have h7 := Hmem.out x hx
      show x.toArray.size ≤ _
      rw [List.size_toArray]
      exact Nat.le_trans h7 (by omega)
    have z0 := sz x0 (by simp)
    have z1 := sz x1 (by simp)
    have z2 := sz x2 (by simp)
    have z3 := sz x3 (by simp)
    clear sz Hmem hspl H4
    have Hcap := Lib.hid (own_cap Hown.out)
    rcases own_two Hown.out with ⟨h0, -, -⟩ | ⟨g1, rfl, hbg, hlg1⟩
    · cases h0
    have f0 := Hown.out.cellAt 0 (show 0 < 4 * 1 by decide)
    have f1 := Hown.out.cellAt 1 (show 1 < 4 * 1 by decide)
    have f2 := Hown.out.cellAt 2 (show 2 < 4 * 1 by decide)
    have f3 := Hown.out.cellAt 3 (show 3 < 4 * 1 by decide)
    clear Hown
    simp only [bsv, List.map_cons, List.map_nil, List.getElem?_cons_zero, List.getElem?_cons_succ] at f0 f1 f2 f3
    rw [show [x0, x1, x2, x3].length = 4 from rfl] at Hcap ⊢
    have hcap := Hcap.out
    have hgne : Hid (g1 ≠ w.heap.size) := Lib.hid (by have := HR.out.lt; omega)
    have hT : ((⟨x0.toArray⟩ : ByteArray) ++ (⟨#[32]⟩ : ByteArray) ++ (⟨x1.toArray⟩ : ByteArray)).data.toList = x0 ++ 32 :: x1 := by simp
    have s1 : ((⟨x0.toArray⟩ : ByteArray) ++ (⟨#[32]⟩ : ByteArray)).size ≤ 1900001 := by rw [ByteArray.size_append]; exact Nat.add_le_add z0 (Nat.le_refl _)
    have s2 : ((⟨x0.toArray⟩ : ByteArray) ++ (⟨#[32]⟩ : ByteArray) ++ (⟨x1.toArray⟩ : ByteArray)).size ≤ 4000000 := by rw [ByteArray.size_append]; omega
    have Hec := Lib.hid (fun W => ecParse_det ((⟨x0.toArray⟩ : ByteArray) ++ (⟨#[32]⟩ : ByteArray) ++ (⟨x1.toArray⟩ : ByteArray)) W s2)
    rw [hT] at Hec
    have a1 := str_add (⟨x0.toArray⟩ : ByteArray) (⟨#[32]⟩ : ByteArray) (by omega) (by decide)
    have a2 := str_add ((⟨x0.toArray⟩ : ByteArray) ++ (⟨#[32]⟩ : ByteArray)) (⟨x1.toArray⟩ : ByteArray) (by omega) (by omega)
    clear hT
    have Hsp2 := Lib.hid (fun W => l1Split_any ⟨x2.toArray⟩ 46 W (by omega))
    rw [show (⟨x2.toArray⟩ : ByteArray).data.toList = x2 from rfl] at Hsp2
    have Hmem2 := Lib.hid (fun y hy => Nat.le_trans (spl_mem 46 x2 y hy) (show x2.length ≤ 1900000 from by rw [← List.size_toArray]; exact z2))
    have hsl2 := spl_len 46 x2
    have hx2l : x2.length ≤ 1900000 := by rw [← List.size_toArray]; exact z2
    have H3 := Lib.hid (fun W => l1Read_any ⟨x3.toArray⟩ W (by omega))
    rw [show (⟨x3.toArray⟩ : ByteArray).data.toList = x3 from rfl] at H3
    have Hpn := Lib.hid (fun h => ClP.no (Hc.out.trans (rd4S_pc (w0 := x0) (w1 := x1) (w2 := x2) (w3 := x3) h)))
    have Hln := Lib.hid (fun h => ClP.no (Hc.out.trans (rd4S_len (w0 := x0) (w1 := x1) (w2 := x2) (w3 := x3) h)))
    have Hye := Lib.hid (fun x y z hc h => ClP.yes (Hc.out.trans (rd4S_yes (w0 := x0) (w1 := x1) (w2 := x2) (w3 := x3) (x := x) (y := y) (z := z) hc h)))
    generalize pcV (x0 ++ 32 :: x1) = pv at Hec Hpn Hye
    obtain ⟨a, b, ok⟩ := pv
    simp only at Hec Hpn Hye
    generalize spl 46 x2 = es at Hsp2 Hmem2 hsl2 Hln Hye
    generalize ((⟨x0.toArray⟩ : ByteArray) ++ (⟨#[32]⟩ : ByteArray) ++ (⟨x1.toArray⟩ : ByteArray)) = T at Hec a2 s2
    generalize ((⟨x0.toArray⟩ : ByteArray) ++ (⟨#[32]⟩ : ByteArray)) = Y at a1 a2 s1
    generalize (⟨x0.toArray⟩ : ByteArray) = X0 at a1 f0 z0
    generalize (⟨x1.toArray⟩ : ByteArray) = X1 at a2 f1 z1
    generalize (⟨x2.toArray⟩ : ByteArray) = X2 at Hsp2 f2 z2
    generalize (⟨x3.toArray⟩ : ByteArray) = X3 at H3 f3 z3
    clear Hc
    have HS : Hid (∀ w', Below w1.heap.size w1 w' → (w'.cell? ⟨g1, 0, none⟩ = some (.string X0) ∧ w'.cell? ⟨g1, 1, none⟩ = some (.string X1) ∧ Below w1.heap.size w1 w')) := Lib.hid (fun w' hw => ⟨(hw.cell (p := ⟨g1, 0, none⟩) hlg1).trans f0, (hw.cell (p := ⟨g1, 1, none⟩) hlg1).trans f1, hw⟩)
    have F2 := Lib.hid f2; have F3 := Lib.hid f3; clear f2 f3
    go_wp2_with fail
    go_cut [5, 6] (fun p o wx => ∃ (q : Nat), p = .pointer (some ⟨q, 0, none⟩) ∧ o = .bool ok ∧ Blk wx q 25 #[.int .i64 a, .int .i64 b] ∧ w1.heap.size ≤ q ∧ Below w1.heap.size w1 wx)
    case first =>
      go_region_held3 (fun w' => w'.cell? ⟨g1, 0, none⟩ = some (.string X0) ∧ w'.cell? ⟨g1, 1, none⟩ = some (.string X1) ∧ Below w1.heap.size w1 w')
        ((go_split_ands; refine HS.out _ ?_; repeat (first | (with_reducible assumption) | (with_reducible exact Below.refl _ _) | (with_reducible refine Below.drew ?_) | (with_reducible refine bal ?_ _) | (with_reducible refine bst ?_ (by first | omega | (simp; done) | (simp; omega)) _) | (with_reducible refine bthen ?_ (by with_reducible assumption)))))
        ((first
          | (go_at_call 130; (with_reducible refine (Hec.out _).mono ?_); rintro e w3 ⟨rfl, hb3⟩; (try (have hz3 : Blk w3 w1.heap.size 25 #[.int .i64 0, .int .i64 0] := (Blk.drew (Blk.new w1 25 #[.int .i64 0, .int .i64 0])).on hb3; have zc0 := hz3.cell 0; have zc1 := hz3.cell 1; have zf0 := hz3.frozen 0; have zf1 := hz3.frozen 1; have zl := hz3.lt; have Hz3 := Lib.hid hz3; clear hz3)))))
      all_goals
        go_wp2_with fail
        go_meet
        have hsz3 : Hid (w1.drew.heap.size ≤ w3.heap.size → w1.heap.size ≤ w3.heap.size) := Lib.hid (fun h => h)
        first
          | with_reducible exact ⟨_, rfl, rfl, Blk.new _ _ _, hsz3.out hb3.size, by repeat (with_reducible first | exact Below.refl _ _ | refine Below.drew ?_ | refine bal ?_ _ | refine bthen ?_ hb3)⟩
          | exact ⟨_, rfl, rfl, Blk.set2 Hz3.out, Nat.le_refl _, by repeat (with_reducible first | exact Below.refl _ _ | refine Below.drew ?_ | refine bal ?_ _ | (refine bst ?_ (by first | omega | (simp; done) | (simp; omega)) _) | refine bthen ?_ hb3)⟩
    obtain ⟨q, rfl, rfl, hBq, hq, hbc⟩ := hcut
    have HR3 := Lib.hid (HR1.out.on hbc); have Hb3 := Lib.hid (bthen Hb1.out hbc)
    have f2 := (hbc.cell (p := ⟨g1, 2, none⟩) hlg1).trans F2.out
    have F3' := Lib.hid ((hbc.cell (p := ⟨g1, 3, none⟩) hlg1).trans F3.out)
    have hlg3 := Nat.lt_of_lt_of_le hlg1 hbc.size
    have HBq := Lib.hid hBq
    have hqne : Hid (q ≠ w.heap.size) := Lib.hid (by have := HR1.out.lt; omega)
    clear HS F2 F3 f0 f1 a1 a2 hBq hq hbc Hec s1 s2
    go_wp2_with fail
    refine (Hsp2.out _).mono ?_; rintro e w4 ⟨⟨v4, rfl, hown4⟩, hb4⟩
    have F3 := Lib.hid ((hb4.cell (p := ⟨g1, 3, none⟩) hlg3).trans F3'.out)
    have hlg4 := Nat.lt_of_lt_of_le hlg3 hb4.size
    have HR4 := Lib.hid (HR3.out.on hb4); have HBq4 := Lib.hid (HBq.out.on hb4); have Hb4 := Lib.hid (bthen Hb3.out hb4); clear hb4 f2 F3'
    obtain ⟨A4, c4, rfl⟩ := own_form hown4
    have Hown4 := Lib.hid hown4; clear hown4
    cases ok
    · have HN := Lib.hid (Hpn.out rfl)
      have r := HR4.out.cells5
      obtain ⟨r0, r1, r2, r3, r4⟩ := r
      have rl := HR4.out.lt
      have rf := HR4.out.frozen
      go_wp2
      have HR5 := HR4.out.set5 (b0 := .int .i64 0) (b1 := .int .i64 0) (b2 := .int .i64 0) (b3 := .int .i64 0) (b4 := .int .i64 0)
      obtain ⟨q0, q1, q2, q3, q4⟩ := HR5.cells5
      exact bodyPost_ret (v := .tuple #[.agg #[.int .i64 0, .int .i64 0, .int .i64 0, .int .i64 0, .int .i64 0], .bool false]) (by simp [results, Tryz.results103, go_sem, q0, q1, q2, q3, q4]) rfl ⟨HN.out, bst (bst (bst (bst (bst Hb4.out (Nat.le_refl _) _) (Nat.le_refl _) _) (Nat.le_refl _) _) (Nat.le_refl _) _) (Nat.le_refl _) _⟩
    · by_cases h3 : es.length = 3
      · obtain ⟨y0, y1, y2, rfl⟩ := list3g h3
        clear h3 hsl2 Hln Hpn
        have HN := Lib.hid (Hye.out y0 y2 y1 rfl rfl)
        clear Hye
        have y0s : (⟨y0.toArray⟩ : ByteArray).size ≤ 4000000 := by show y0.toArray.size ≤ _; rw [List.size_toArray]; exact Nat.le_trans (Hmem2.out y0 (by simp)) (by decide)
        have y2s : (⟨y2.toArray⟩ : ByteArray).size ≤ 4000000 := by show y2.toArray.size ≤ _; rw [List.size_toArray]; exact Nat.le_trans (Hmem2.out y2 (by simp)) (by decide)
        have H1 := Lib.hid (fun W => l1Read_any ⟨y0.toArray⟩ W y0s)
        have H2 := Lib.hid (fun W => l1Read_any ⟨y2.toArray⟩ W y2s)
        rw [show (⟨y0.toArray⟩ : ByteArray).data.toList = y0 from rfl] at H1
        rw [show (⟨y2.toArray⟩ : ByteArray).data.toList = y2 from rfl] at H2
        clear Hmem2 y0s y2s
        have hcap4 := own_cap Hown4.out
        rcases own_two Hown4.out with ⟨h0, -, -⟩ | ⟨g4, rfl, hbg4, hl4⟩
        · cases h0
        have e0 := Hown4.out.cellAt 0 (show 0 < 3 * 1 by decide)
        have e2 := Hown4.out.cellAt 2 (show 2 < 3 * 1 by decide)
        have hg4ne : Hid (g4 ≠ w.heap.size) := Lib.hid (by have := HR3.out.lt; omega)
        clear Hown4 Hsp2
        simp only [bsv, List.map_cons, List.map_nil, List.getElem?_cons_zero, List.getElem?_cons_succ] at e0 e2
        rw [show [y0, y1, y2].length = 3 from rfl] at hcap4 ⊢
        generalize (⟨y0.toArray⟩ : ByteArray) = Y0 at H1 e0
        generalize (⟨y2.toArray⟩ : ByteArray) = Y2 at H2 e2
        generalize rdN y0 = lo at H1 HN
        generalize rdN y2 = hi at H2 HN
        generalize rdN x3 = to9 at H3 HN
        have f3 := F3.out
        have b0 := HBq4.out.cell 0
        have b1 := HBq4.out.cell 1
        simp at b0 b1
        have bl := HBq4.out.lt
        obtain ⟨r0, r1, r2, r3, r4⟩ := HR4.out.cells5
        have rl := HR4.out.lt
        have rf := HR4.out.frozen
        go_wp2_with fail
        go_region_held3 (fun w' => w'.cell? ⟨g1, 3, none⟩ = some (.string X3) ∧ w'.cell? ⟨g4, 0, none⟩ = some (.string Y0) ∧ w'.cell? ⟨g4, 2, none⟩ = some (.string Y2) ∧ w'.cell? ⟨q, 0, none⟩ = some (.int .i64 a) ∧ w'.cell? ⟨q, 1, none⟩ = some (.int .i64 b))
          ((go_split_ands; refine ⟨?_, ?_, ?_, ?_, ?_⟩ <;> repeat (first | (with_reducible assumption) | (with_reducible refine drewK ?_) | (with_reducible refine farK ?_ hgne.out) | (with_reducible refine farK ?_ hg4ne.out) | (with_reducible refine farK ?_ hqne.out))))
          ((first
            | (go_at_call 131; (with_reducible refine (H1.out _).mono ?_); rintro e wa ⟨rfl, rfl⟩)
            | (go_at_call 131; (with_reducible refine (H2.out _).mono ?_); rintro e wa ⟨rfl, rfl⟩)
            | (go_at_call 131; (with_reducible refine (H3.out _).mono ?_); rintro e wa ⟨rfl, rfl⟩)))
        all_goals
          go_wp2
          have HR5 := (HR4.out.set5 (b0 := .int .i64 a) (b1 := .int .i64 b) (b2 := .int .i64 lo) (b3 := .int .i64 hi) (b4 := .int .i64 to9)).drew
          have Hbf := Below.drew (bst (bst (bst (bst (bst Hb4.out (p := ⟨w.heap.size, 0, none⟩) (Nat.le_refl _) (.int .i64 a)) (p := ⟨w.heap.size, 1, none⟩) (Nat.le_refl _) (.int .i64 b)) (p := ⟨w.heap.size, 2, none⟩) (Nat.le_refl _) (.int .i64 lo)) (p := ⟨w.heap.size, 3, none⟩) (Nat.le_refl _) (.int .i64 hi)) (p := ⟨w.heap.size, 4, none⟩) (Nat.le_refl _) (.int .i64 to9))
          generalize World.drew (World.setCell (World.setCell (World.setCell (World.setCell (World.setCell w4 ⟨w.heap.size, 0, none⟩ (.int .i64 a)) ⟨w.heap.size, 1, none⟩ (.int .i64 b)) ⟨w.heap.size, 2, none⟩ (.int .i64 lo)) ⟨w.heap.size, 3, none⟩ (.int .i64 hi)) ⟨w.heap.size, 4, none⟩ (.int .i64 to9)) = wf at HR5 Hbf ⊢
          obtain ⟨q0, q1, q2, q3, q4⟩ := HR5.cells5
          exact bodyPost_ret (v := .tuple #[.agg #[.int .i64 a, .int .i64 b, .int .i64 lo, .int .i64 hi, .int .i64 to9], .bool true]) (by simp [results, Tryz.results103, go_sem, q0, q1, q2, q3, q4]) rfl ⟨HN.out, Hbf⟩
      · have HN := Lib.hid (Hln.out h3)
        have h5 : ((es.length : Int) == 3) = false := beq_eq_false_iff_ne.2 (by omega)
        have h6 : ((es.length : Int) != 3) = true := by simp [bne, h5]
        have r := HR4.out.cells5
        obtain ⟨r0, r1, r2, r3, r4⟩ := r
        have rl := HR4.out.lt
        have rf := HR4.out.frozen
        go_wp2
        have HR5 := HR4.out.set5 (b0 := .int .i64 0) (b1 := .int .i64 0) (b2 := .int .i64 0) (b3 := .int .i64 0) (b4 := .int .i64 0)
        obtain ⟨q0, q1, q2, q3, q4⟩ := HR5.cells5
        exact bodyPost_ret (v := .tuple #[.agg #[.int .i64 0, .int .i64 0, .int .i64 0, .int .i64 0, .int .i64 0], .bool false]) (by simp [results, Tryz.results103, go_sem, q0, q1, q2, q3, q4]) rfl ⟨HN.out, bst (bst (bst (bst (bst Hb4.out (Nat.le_refl _) _) (Nat.le_refl _) _) (Nat.le_refl _) _) (Nat.le_refl _) _) (Nat.le_refl _) _⟩
  · have h3 : ((ps.length : Int) == 4) = false := beq_eq_false_iff_ne.2 (by omega)
    have h5 : ((ps.length : Int) != 4) = true := by simp [bne, h3]
    have HN := Lib.hid (Hn4.out h4)
    obtain ⟨r0, r1, r2, r3, r4⟩ := HR1.out.cells5
    have rl := HR1.out.lt
    have rf := HR1.out.frozen
    go_wp2
    have HR5 := HR1.out.set5 (b0 := .int .i64 0) (b1 := .int .i64 0) (b2 := .int .i64 0) (b3 := .int .i64 0) (b4 := .int .i64 0)
    obtain ⟨q0, q1, q2, q3, q4⟩ := HR5.cells5
    exact bodyPost_ret (v := .tuple #[.agg #[.int .i64 0, .int .i64 0, .int .i64 0, .int .i64 0, .int .i64 0], .bool false]) (by simp [results, Tryz.results103, go_sem, q0, q1, q2, q3, q4]) rfl ⟨HN.out, bst (bst (bst (bst (bst Hb1.out (Nat.le_refl _) _) (Nat.le_refl _) _) (Nat.le_refl _) _) (Nat.le_refl _) _) (Nat.le_refl _) _⟩
end
end Go.Proofs.YtimfoodbolokdaaGreatDoor
