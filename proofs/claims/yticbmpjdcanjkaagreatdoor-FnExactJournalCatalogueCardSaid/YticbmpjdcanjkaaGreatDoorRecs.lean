/- The program's readers of a journal: the records at the beginning of a text; the records of a journal. Conditions: Env. -/
import Derived.Test.YticbmpjdcanjkaaGreatDoorRead2
import Derived.Test.YticbmpjdcanjkaaGreatDoorJrL
namespace Go.Proofs.YticbmpjdcanjkaaGreatDoor
open Go Go.RowKit

theorem infoRecord : (Tryz.prog.info? 72).map (fun i => (i.zero, i.size, i.bytes)) = some (some (.agg #[.int .i64 0, .int .i64 0, .int .i64 0, .int .i64 0]), 4, 32) := by kernel_rfl
theorem rc4 (x : Rc) : rcS.flat [x] = [.int .i64 x.a, .int .i64 x.b, .int .i64 x.lo, .int .i64 x.hi] := rfl
theorem ext_data (s : ByteArray) (a b : Nat) : (s.extract a b).data.toList = (s.data.toList.drop a).take (b - a) := Lib.extract_data s a b
theorem ext_all (s : ByteArray) (a : Nat) : (s.extract a s.size).data.toList = s.data.toList.drop a := by
  rw [ext_data, List.take_of_length_le]
  rw [List.length_drop]; exact Nat.le_refl _
theorem ext_line (s : ByteArray) (p n : Nat) : s.extract p (p + n + 1) = ⟨((s.data.toList.drop p).take (n + 1)).toArray⟩ := by
  apply bytes_ext
  rw [ext_data, show p + n + 1 - p = n + 1 by omega]
theorem openF_stop {F : Nat} {k : Int} {l rest : List UInt8} {xs : List Rc} {p : Nat} {G : Nat} {j : Int} (h : openF F k l = (xs ++ (openF G j rest).1, p + (openF G j rest).2)) (h0 : openF G j rest = ([], 0)) : openF F k l = (xs, p) := by
  rw [h0] at h
  simpa using h
theorem openF_on {F : Nat} {k : Int} {l rest : List UInt8} {xs : List Rc} {p : Nat} {G : Nat} {j : Int} {r : Rc} {m : Nat} (h : openF F k l = (xs ++ (openF (G + 1) j rest).1, p + (openF (G + 1) j rest).2)) (hm : Lib.indexByte rest 10 = m) (hr : rdL j ⟨(rest.take (m + 1)).toArray⟩ = some r) :
    openF F k l = ((xs ++ [r]) ++ (openF G (j + 1) (rest.drop (m + 1))).1, (p + (m + 1)) + (openF G (j + 1) (rest.drop (m + 1))).2) := by
  have h1 : (Lib.indexByte rest 10).toNat = m := by omega
  have h2 := openF_step (F := G) (k := j) (l := rest) (r := r) (by omega) (by rw [h1]; exact hr)
  rw [h1] at h2
  rw [h, h2]
  simp [Nat.add_assoc]
theorem ixb_any (s : ByteArray) (p : Nat) (w : World) : Calls Tryz.prog 101 #[.string (s.extract p s.size), .int .u8 10] w fun e w' => e = .returned (.int .i64 (Lib.indexByte (s.data.toList.drop p) 10)) ∧ w = w' := by
  refine (Tryz.strings_IndexByte (s.extract p s.size) 10 w).mono fun e w' hh => ?_
  obtain ⟨rfl, rfl⟩ := hh
  refine ⟨?_, rfl⟩
  rw [ext_all]
  rfl
set_option maxRecDepth 8000 in
set_option maxHeartbeats 4000000 in
theorem readRecords_any (s : ByteArray) (k : Nat) (w : World) (hk : k ≤ 30) (hs : s.size ≤ 2000000) (h : Env w) :
    Calls Tryz.prog 68 #[.string s, .int .i64 k] w fun e w' => (∃ (v : Value) (xs : List Rc) (n : Nat), openF (30 - k) k s.data.toList = (xs, n) ∧ e = .returned (.tuple #[v, .int .i64 n]) ∧ w'.ownsRow w.heap.size 72 4 v xs.length (rcS.flat xs)) ∧ Below w.heap.size w w' := by
  obtain ⟨i0, hi, hz0, hz1, hz2⟩ := info_parts infoRecord
  have He := Lib.hid h; clear h
  go_enter Tryz.func68, Tryz.ntmps68
  go_wp2
  go_loopw [7, 6] (fun a o wr => ∃ (p : Nat) (xs : List Rc), p ≤ s.size ∧ a = .int .i64 p ∧ k + xs.length ≤ 30 ∧ Hid (openF (30 - k) k s.data.toList = (xs ++ (openF (30 - (k + xs.length)) ((k + xs.length : Nat) : Int) (s.data.toList.drop p)).1, p + (openF (30 - (k + xs.length)) ((k + xs.length : Nat) : Int) (s.data.toList.drop p)).2)) ∧ Below w.heap.size w wr ∧ Hid (wr.ownsRow w.heap.size 72 4 o xs.length (rcS.flat xs))) (fun a _ _ => s.size - (intOf a).toNat)
  case atStart => exact ⟨0, [], Nat.zero_le _, rfl, hk, Lib.hid (by simp), Below.refl _ _, Lib.hid ⟨by simp [Shape.flat], Or.inl ⟨rfl, rfl⟩⟩⟩
  case round =>
    obtain ⟨p, xs, hp, rfl, hkx, Ho, hb, Hown⟩ := hrel
    obtain ⟨A9, c9, rfl⟩ := own_form Hown.out
    by_cases hlt : k + xs.length < 30
    · have h1 : (k : Int) + (xs.length : Int) < 30 := by omega
      have h2 : (0 : Int) ≤ (p : Int) := by omega
      have h3 : (p : Int) ≤ (s.size : Int) := by omega
      go_wp2_with fail
      refine (ixb_any s p _).mono ?_; rintro e w1 ⟨rfl, rfl⟩
      have hge := Lib.indexByte_ge (s.data.toList.drop p) 10
      by_cases hn : Lib.indexByte (s.data.toList.drop p) 10 < 0
      · have Hfin := Lib.hid (openF_stop Ho.out (openF_none hn))
        generalize Lib.indexByte (s.data.toList.drop p) 10 = N at hn
        go_wp2
        go_ret2
        exact ⟨⟨_, xs, p, Hfin.out, rfl, Hown.out⟩, hb⟩
      · obtain ⟨m, hm⟩ : ∃ m : Nat, Lib.indexByte (s.data.toList.drop p) 10 = m := ⟨(Lib.indexByte (s.data.toList.drop p) 10).toNat, by omega⟩
        have hml := ixb_lt (s.data.toList.drop p) 10 (by omega)
        rw [List.length_drop, hm, Int.toNat_natCast, show s.data.toList.length = s.size from rfl] at hml
        have hm2 : p + m + 1 ≤ s.size := by omega
        have Hm := Lib.hid hm
        rw [hm]
        clear hge hn hm hml
        have h4 : (p : Int) + (m : Int) + 1 ≤ (s.size : Int) := by omega
        have hkn : (0 : Int) ≤ (k : Int) + (xs.length : Int) ∧ (k : Int) + (xs.length : Int) ≤ 29 := by omega
        have hsz : (s.extract p (p + m + 1)).size ≤ 2000000 := by rw [ByteArray.size_extract]; omega
        have Hkn := Lib.hid hkn; have Hsz := Lib.hid hsz; clear hkn hsz
        go_wp2_with fail
        refine (readRecord_any _ _ _ Hkn.out Hsz.out (He.out.on hb)).mono ?_; rintro e w2 ⟨hrd, hb2⟩
        have Hown2 := Lib.hid (own_below Hown.out hb2)
        have hb02 := bthen hb hb2
        rw [ext_line] at hrd
        rcases hrd.cases Hkn.out with ⟨r, hr, -, -, rfl⟩ | ⟨hr, a, b, lo, hi', rfl⟩
        · clear hrd
          obtain ⟨G, hG⟩ : ∃ G, 30 - (k + xs.length) = G + 1 := ⟨29 - (k + xs.length), by omega⟩
          have Hnew := Lib.hid (show openF (30 - k) k s.data.toList = ((xs ++ [r]) ++ (openF (30 - (k + (xs ++ [r]).length)) ((k + (xs ++ [r]).length : Nat) : Int) (s.data.toList.drop (p + (m + 1)))).1, (p + (m + 1)) + (openF (30 - (k + (xs ++ [r]).length)) ((k + (xs ++ [r]).length : Nat) : Int) (s.data.toList.drop (p + (m + 1)))).2) by
            have h7 := Ho.out
            rw [hG] at h7
            have h8 := openF_on h7 Hm.out (by rw [show ((k + xs.length : Nat) : Int) = (k : Int) + (xs.length : Int) by omega]; exact hr)
            rw [List.drop_drop] at h8
            rw [List.length_append, List.length_singleton, show 30 - (k + (xs.length + 1)) = G by omega, show ((k + (xs.length + 1) : Nat) : Int) = ((k + xs.length : Nat) : Int) + 1 by omega]
            exact h8)
          clear hr hG
          go_wp2_with (at_builtin; refine wpList_append_own _ rfl _ _ 67 rfl w.heap.size 72 i0 (.agg #[.int .i64 0, .int .i64 0, .int .i64 0, .int .i64 0]) 4 32 Tryz.underlying67 hi hz0 hz1 hz2 rfl (by decide) _ _ _ rfl ((Hown2.out.alloc _).alloc _) ⟨w2.heap.size + 1, 0, none⟩ 1 1 (rcS.flat [r]) rfl rfl ?c1 ?c2 ?c3 ?c4 ?c5 ?_)
          case c1 =>
            intro j u hj
            rw [rc4] at hj
            match j, hj with
            | 0, hj => simp at hj; subst hj; simp [Addr.add]
            | 1, hj => simp at hj; subst hj; simp [Addr.add]
            | 2, hj => simp at hj; subst hj; simp [Addr.add]
            | 3, hj => simp at hj; subst hj; simp [Addr.add]
          case c2 => intro u hu; rw [rc4] at hu; simp at hu; rcases hu with rfl | rfl | rfl | rfl <;> rfl
          case c3 => unfold maxLen; omega
          case c4 => omega
          case c5 => have := hb02.size; simp; omega
          intro v' w3 hown' hgrow _
          have hbn : Below w.heap.size w w3 := Below.grown (bal (bal hb02 _) _) hgrow (by have := hb02.size; simp; omega) (fun j hj => (Hown2.out.lt j hj).1)
          have Hown' := Lib.hid (show w3.ownsRow w.heap.size 72 4 v' (xs ++ [r]).length (rcS.flat (xs ++ [r])) by rw [Shape.flat_append, List.length_append]; exact hown')
          clear hown' hgrow
          go_wp2
          go_roundw
          case rel => exact ⟨p + (m + 1), xs ++ [r], by omega, by go_num, by rw [List.length_append, List.length_singleton]; omega, Hnew, hbn, Hown'⟩
          case measure => simp [intOf]; omega
        · have Hfin := Lib.hid (openF_stop Ho.out (openF_bad (by rw [Hm.out, Int.toNat_natCast, show ((k + xs.length : Nat) : Int) = (k : Int) + (xs.length : Int) by omega]; exact hr)))
          clear hrd hr
          go_wp2
          go_ret2
          exact ⟨⟨_, xs, p, Hfin.out, rfl, Hown2.out.alloc _⟩, by (repeat (with_reducible first | exact Below.refl _ _ | assumption | refine bal ?_ _ | refine bst ?_ (by simp <;> omega) _ | refine Below.drew ?_ | refine bthen ?_ (by assumption)))⟩
    · have h1 : ¬ (k : Int) + (xs.length : Int) < 30 := by omega
      have Hfin := Lib.hid (show openF (30 - k) k s.data.toList = (xs, p) by
        have := Ho.out
        rw [show 30 - (k + xs.length) = 0 by omega, openF_zero] at this
        simpa using this)
      go_wp2
      go_ret2
      exact ⟨⟨_, xs, p, Hfin.out, rfl, Hown.out⟩, hb⟩
end Go.Proofs.YticbmpjdcanjkaaGreatDoor
