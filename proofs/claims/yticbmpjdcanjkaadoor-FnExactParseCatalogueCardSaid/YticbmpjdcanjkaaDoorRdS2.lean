/- The reference's readers of numerals and of a curve's text: the walks. Conditions: bounds on the text's length. -/
import Derived.Test.YticbmpjdcanjkaaDoorRdS
namespace Go.Proofs.YticbmpjdcanjkaaDoor
open Go Go.RowKit

theorem pow5 {k : Nat} (h : k ≤ 5) : (10 : Int) ^ k ≤ 100000 := by
  match k, h with
  | 0, _ => decide
  | 1, _ => decide
  | 2, _ => decide
  | 3, _ => decide
  | 4, _ => decide
  | 5, _ => decide
theorem rdD_no {s : ByteArray} {k : Nat} {acc : Int} (hk : k < s.size) (h : (s[k].toNat : Int) < 48 ∨ 57 < (s[k].toNat : Int)) : rdD (s.data.toList.drop k) acc = -1 := by
  rw [show s.data.toList.drop k = s[k] :: s.data.toList.drop (k + 1) from List.drop_eq_getElem_cons hk]
  unfold rdD
  rw [if_pos]
  rw [UInt8.lt_iff_toNat_lt, UInt8.lt_iff_toNat_lt]
  show s[k].toNat < 48 ∨ 57 < s[k].toNat
  omega
theorem rdD_on {s : ByteArray} {k : Nat} {acc : Int} (hk : k < s.size) (h1 : 48 ≤ (s[k].toNat : Int)) (h2 : (s[k].toNat : Int) ≤ 57) : rdD (s.data.toList.drop k) acc = rdD (s.data.toList.drop (k + 1)) (10 * acc + ((s[k].toNat : Int) - 48)) := by
  rw [show s.data.toList.drop k = s[k] :: s.data.toList.drop (k + 1) from List.drop_eq_getElem_cons hk]
  conv => lhs; unfold rdD
  rw [if_neg]
  · congr 1; omega
  rw [UInt8.lt_iff_toNat_lt, UInt8.lt_iff_toNat_lt]
  show ¬ (s[k].toNat < 48 ∨ 57 < s[k].toNat)
  omega
set_option maxRecDepth 8000 in
set_option maxHeartbeats 4000000 in
theorem l1Read_any (s : ByteArray) (w : World) (hs : s.size ≤ 4000000) :
    Calls Tryd.prog 23 #[.string s] w fun e w' => e = .returned (.int .i64 (rdN s.data.toList)) ∧ w = w' := by
  have hlen : s.data.toList.length = s.size := rfl
  cases hin : insB s.size 1 6
  · have Hv := Lib.hid (show rdN s.data.toList = -1 by
      unfold rdN; rw [if_pos (Or.inl (by rw [hlen]; intro hh; have := insB_mk (n := (s.size : Int)) (lo := 1) (hi := 6) (by omega) (by omega); rw [this] at hin; cases hin))])
    rw [Hv.out]
    go_enter Tryd.func23, Tryd.ntmps23
    go_wp2_with fail
    refine (l1In_any _ _ _ _).mono ?_; rintro r w2 ⟨rfl, rfl⟩
    rw [hin]
    go_wp2
    go_ret
    exact ⟨rfl, rfl⟩
  · obtain ⟨hs1, hs2⟩ := insB_true hin
    have h0 : 0 < s.size := by omega
    have hd0 := get_data s 0 h0
    by_cases hz : s[0] = 48 ∧ 1 < s.size
    · obtain ⟨hz, hl⟩ := hz
      have hz1 : ((s[0].toNat : Int) == 48) = true := by rw [hz]; rfl
      have Hv := Lib.hid (show rdN s.data.toList = -1 by
        unfold rdN; rw [if_pos (Or.inr ⟨by rw [hd0, hz], by rw [hlen]; exact hl⟩)])
      rw [Hv.out]
      have hl1 : (1 : Int) < (s.size : Int) := by omega
      clear hz hd0
      go_enter Tryd.func23, Tryd.ntmps23
      go_wp2_with fail
      refine (l1In_any _ _ _ _).mono ?_; rintro r w2 ⟨rfl, rfl⟩
      rw [hin]
      go_wp2
      go_ret
      exact ⟨rfl, rfl⟩
    · have Hv := Lib.hid (show rdN s.data.toList = rdD s.data.toList 0 by
        unfold rdN; rw [if_neg]; rintro (hh | ⟨hh1, hh2⟩)
        · rw [hlen] at hh; omega
        · rw [hd0] at hh1; injection hh1 with hh1; rw [hlen] at hh2; exact hz ⟨hh1, hh2⟩)
      rw [Hv.out]
      have hcase : (((s[0].toNat : Int) == 48) = true ∧ ¬ (1 : Int) < (s.size : Int)) ∨ ((s[0].toNat : Int) == 48) = false := by
        cases hq : ((s[0].toNat : Int) == 48)
        · exact Or.inr rfl
        · refine Or.inl ⟨rfl, fun hl => hz ⟨?_, by omega⟩⟩
          have := beq_iff_eq.1 hq
          exact UInt8.toNat_inj.1 (show s[0].toNat = 48 by omega)
      clear hz hd0 hs Hv
      go_enter Tryd.func23, Tryd.ntmps23
      go_wp2_with fail
      refine (l1In_any _ _ _ _).mono ?_; rintro r w2 ⟨rfl, rfl⟩
      rw [hin]
      rcases hcase with ⟨hz1, hl1⟩ | hz1 <;> (
        go_wp2
        go_loop [3, 4] (fun n i => ∃ (k : Nat) (acc : Int), k ≤ s.size ∧ i = .int .i64 k ∧ n = .int .i64 acc ∧ 0 ≤ acc ∧ acc < 10 ^ k ∧ Hid (rdD s.data.toList 0 = rdD (s.data.toList.drop k) acc)) (fun _ i => s.size - (intOf i).toNat)
        case atStart => exact ⟨0, 0, Nat.zero_le _, rfl, rfl, by omega, by decide, Lib.hid rfl⟩
        case round =>
          obtain ⟨k, acc, hk, rfl, rfl, ha0, ha1, Hr⟩ := hrel
          by_cases hlt : k < s.size
          · have hp := pow5 (k := k) (by omega)
            have hps := Int.pow_succ 10 k
            have Hps := Lib.hid hps; clear hps
            have Ha1 := Lib.hid ha1
            have ha2 : acc < 100000 := by omega
            have hb0 : (0 : Int) ≤ (s[k].toNat : Int) := by omega
            have hb1 : (s[k].toNat : Int) ≤ 255 := by have := UInt8.toNat_lt s[k]; omega
            have h1 : (k : Int) < (s.size : Int) := by omega
            have h2 : (0 : Int) ≤ (k : Int) := by omega
            clear hp ha1
            by_cases c1 : (s[k].toNat : Int) < 48
            · have Hfin := Lib.hid ((rdD_no (acc := acc) hlt (Or.inl c1)))
              go_wp2
              go_ret
              exact ⟨ret_int (by rw [Hr.out, Hfin.out]), rfl⟩
            · by_cases c2 : 57 < (s[k].toNat : Int)
              · have Hfin := Lib.hid ((rdD_no (acc := acc) hlt (Or.inr c2)))
                go_wp2
                go_ret
                exact ⟨ret_int (by rw [Hr.out, Hfin.out]), rfl⟩
              · have Hnew := Lib.hid (rdD_on (acc := acc) hlt (by omega) (by omega))
                go_wp2
                go_round
                case rel => exact ⟨k + 1, 10 * acc + ((s[k].toNat : Int) - 48), by omega, by go_num, rfl, by omega, by rw [Hps.out]; have := Ha1.out; omega, Lib.hid (by rw [Hr.out, Hnew.out])⟩
                case measure => simp [intOf]; omega
          · obtain rfl : k = s.size := by omega
            have Hfin := Lib.hid (show rdD (s.data.toList.drop s.size) acc = acc by rw [List.drop_eq_nil_of_le (by rw [hlen]; exact Nat.le_refl _)]; rfl)
            clear ha1
            go_wp2
            go_ret
            exact ⟨ret_int (by rw [Hr.out, Hfin.out]), rfl⟩)
set_option maxRecDepth 8000 in
set_option maxHeartbeats 4000000 in
theorem ecSigned_any (s : ByteArray) (w : World) (hs : s.size ≤ 4000000) :
    Calls Tryd.prog 40 #[.string s] w fun e w' => e = .returned (.int .i64 (sgN s.data.toList)) ∧ w = w' := by
  have hlen : s.data.toList.length = s.size := rfl
  have hbd := rdN_bd s.data.toList
  have hbd1 := rdN_bd (s.data.toList.drop 1)
  by_cases hm : 0 < s.size ∧ s.data.toList[0]? = some 45
  · obtain ⟨h0, hm⟩ := hm
    have hd0 := get_data s 0 h0
    have hc1 : ((s[0].toNat : Int) == 45) = true := by
      rw [hd0] at hm; injection hm with hm; rw [hm]; rfl
    have Hv := Lib.hid (show sgN s.data.toList = if rdN (s.data.toList.drop 1) < 0 then 100000 else -(rdN (s.data.toList.drop 1)) by unfold sgN; rw [if_pos hm])
    have h1 : (0 : Int) < (s.size : Int) := by omega
    have h2 : (1 : Int) ≤ (s.size : Int) := by omega
    have Hx := Lib.hid (fun W => l1Read_any (s.extract 1 s.size) W (by rw [ByteArray.size_extract]; omega))
    rw [ext_all] at Hx
    generalize rdN (s.data.toList.drop 1) = N at Hv Hx hbd1
    clear hd0 hm
    go_enter Tryd.func40, Tryd.ntmps40
    go_wp2_with fail
    refine (Hx.out _).mono ?_; rintro r w2 ⟨rfl, rfl⟩
    by_cases hn : N < 0
    · go_wp2
      go_ret
      exact ⟨ret_int (by rw [Hv.out, if_pos hn]), rfl⟩
    · go_wp2
      go_ret
      exact ⟨ret_int (by rw [Hv.out, if_neg (by omega)]), rfl⟩
  · have Hv := Lib.hid (show sgN s.data.toList = if rdN s.data.toList < 0 then 100000 else rdN s.data.toList by
      unfold sgN
      rw [if_neg (fun hh => hm ⟨?_, hh⟩)]
      rcases Nat.eq_zero_or_pos s.size with h0 | h0
      · rw [List.getElem?_eq_none (by rw [hlen]; omega)] at hh; cases hh
      · exact h0)
    have hcase : ¬ (0 : Int) < (s.size : Int) ∨ (∃ h0 : 0 < s.size, (0 : Int) < (s.size : Int) ∧ ((s[0].toNat : Int) == 45) = false) := by
      rcases Nat.eq_zero_or_pos s.size with h0 | h0
      · exact Or.inl (by omega)
      · refine Or.inr ⟨h0, by omega, beq_eq_false_iff_ne.2 (fun e => hm ⟨h0, ?_⟩)⟩
        rw [get_data s 0 h0]
        congr 1
        exact UInt8.toNat_inj.1 (show s[0].toNat = 45 by omega)
    have Hx := Lib.hid (fun W => l1Read_any s W hs)
    generalize rdN s.data.toList = N at Hv Hx hbd
    clear hm
    go_enter Tryd.func40, Tryd.ntmps40
    rcases hcase with h1 | ⟨h0, h1, hc1⟩ <;> (
      go_wp2_with fail
      refine (Hx.out _).mono ?_; rintro r w2 ⟨rfl, rfl⟩
      by_cases hn : N < 0
      · go_wp2
        go_ret
        exact ⟨ret_int (by rw [Hv.out, if_pos hn]), rfl⟩
      · go_wp2
        go_ret
        exact ⟨ret_int (by rw [Hv.out, if_neg (by omega)]), rfl⟩)
end Go.Proofs.YticbmpjdcanjkaaDoor
