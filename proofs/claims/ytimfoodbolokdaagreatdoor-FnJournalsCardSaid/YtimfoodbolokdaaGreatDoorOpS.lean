/- The reference's records at the beginning of a text: the walk. Conditions: a bound on the text's length. -/
import Derived.Test.YtimfoodbolokdaaGreatDoorRdS4
namespace Go.Proofs.YtimfoodbolokdaaGreatDoor
open Go Go.RowKit

theorem ixb_none (c : UInt8) : ∀ l : List UInt8, c ∉ l → Lib.indexByte l c = -1
  | [], _ => rfl
  | b :: l, h => by
    have hne : ¬ (b == c) = true := fun e => h (by rw [beq_iff_eq.1 e]; simp)
    unfold Lib.indexByte
    rw [if_neg hne, ixb_none c l (fun h2 => h (by simp [h2]))]
    rfl
theorem ixb_here (c : UInt8) (r : List UInt8) : ∀ l : List UInt8, c ∉ l → Lib.indexByte (l ++ c :: r) c = l.length
  | [], _ => by
    rw [List.nil_append]
    unfold Lib.indexByte
    rw [if_pos (by simp)]
    rfl
  | b :: l, h => by
    have hne : ¬ (b == c) = true := fun e => h (by rw [beq_iff_eq.1 e]; simp)
    rw [List.cons_append]
    unfold Lib.indexByte
    rw [if_neg hne, ixb_here c r l (fun h2 => h (by simp [h2])), if_neg (by intro e; have := beq_iff_eq.1 e; omega)]
    rw [List.length_cons]; omega
theorem ix_end {s : ByteArray} {p : Nat} (h : (10 : UInt8) ∉ (s.data.toList.drop p).take (s.size - p)) : Lib.indexByte (s.data.toList.drop p) 10 < 0 := by
  rw [List.take_of_length_le (by rw [List.length_drop]; exact Nat.le_refl _)] at h
  rw [ixb_none _ _ h]; decide
theorem ix_at {s : ByteArray} {p q : Nat} (hp : p ≤ q) (hq : q < s.size) (h : (10 : UInt8) ∉ (s.data.toList.drop p).take (q - p)) (hc : s[q] = 10) : Lib.indexByte (s.data.toList.drop p) 10 = (q - p : Nat) := by
  have h1 := drop_at s p q hp hq
  rw [hc] at h1
  rw [h1, ixb_here _ _ _ h, List.length_take, List.length_drop]
  have : s.data.toList.length = s.size := rfl
  omega
theorem rd_at {s : ByteArray} {p q : Nat} {k : Int} (hk : 0 ≤ k ∧ k ≤ 29) (hp : p ≤ q) (hq : q < s.size) (hc : s[q] = 10) : rdS k (s.extract p q).data.toList = rdL k ⟨((s.data.toList.drop p).take (q - p + 1)).toArray⟩ := by
  rw [rdS_eq hk, ext_data]
  have h1 := take_at s p q hp hq
  rw [hc, show q + 1 - p = q - p + 1 by omega] at h1
  rw [h1]
set_option maxRecDepth 8000 in
set_option maxHeartbeats 4000000 in
theorem jrOpen_any (s : ByteArray) (w : World) (hs : s.size ≤ 1900000) :
    Calls Tryz.prog 150 #[.string s] w fun e w' => (∃ v : Value, e = .returned (.tuple #[v, .int .i64 ((jrA s).2 : Nat)]) ∧ w'.ownsRow w.heap.size 78 4 v (jrA s).1.length (rcS.flat (jrA s).1)) ∧ Below w.heap.size w w' := by
  obtain ⟨i0, hi, hz0, hz1, hz2⟩ := info_parts infoRecord
  go_enter Tryz.func150, Tryz.ntmps150
  go_wp2
  go_loopw [5, 4] (fun a o wr => ∃ (p : Nat) (xs : List Rc), p ≤ s.size ∧ a = .int .i64 p ∧ xs.length ≤ 30 ∧ Hid (jrA s = (xs ++ (openF (30 - xs.length) (xs.length : Int) (s.data.toList.drop p)).1, p + (openF (30 - xs.length) (xs.length : Int) (s.data.toList.drop p)).2)) ∧ Below w.heap.size w wr ∧ Hid (wr.ownsRow w.heap.size 78 4 o xs.length (rcS.flat xs))) (fun a _ _ => s.size - (intOf a).toNat)
  case atStart => exact ⟨0, [], Nat.zero_le _, rfl, by simp, Lib.hid (by unfold jrA; simp), Below.refl _ _, Lib.hid ⟨by simp [Shape.flat], Or.inl ⟨rfl, rfl⟩⟩⟩
  case round =>
    obtain ⟨p, xs, hp, rfl, hkx, Ho, hb, Hown⟩ := hrel
    obtain ⟨A9, c9, rfl⟩ := own_form Hown.out
    by_cases hlt : xs.length < 30
    · have h1 : (xs.length : Int) < 30 := by omega
      have h2 : (0 : Int) ≤ (p : Int) := by omega
      have h3 : (p : Int) ≤ (s.size : Int) := by omega
      go_wp2
      go_loop [6] (fun e => ∃ q : Nat, p ≤ q ∧ q ≤ s.size ∧ e = .int .i64 q ∧ Hid ((10 : UInt8) ∉ (s.data.toList.drop p).take (q - p))) (fun e => s.size - (intOf e).toNat)
      case atStart => exact ⟨p, Nat.le_refl _, hp, rfl, Lib.hid (by simp)⟩
      case round =>
        obtain ⟨q, hpq, hqs, rfl, Hn⟩ := hrel
        have h4 : (0 : Int) ≤ (q : Int) := by omega
        have h5 : (p : Int) ≤ (q : Int) := by omega
        by_cases hq : q < s.size
        · have h6 : (q : Int) < (s.size : Int) := by omega
          have h7 : (q : Int) ≤ (s.size : Int) := by omega
          by_cases hc : s[q] = 10
          · have hc1 : ((s[q].toNat : Int) == 10) = true := by rw [hc]; rfl
            have hc2 : ((s[q].toNat : Int) != 10) = false := by simp [bne, hc1]
            have hqe : ((q : Int) == (s.size : Int)) = false := beq_eq_false_iff_ne.2 (by omega)
            have Hm := Lib.hid (ix_at hpq hq Hn.out hc)
            have hkn : (0 : Int) ≤ (xs.length : Int) ∧ (xs.length : Int) ≤ 29 := by omega
            have hsz : (s.extract p q).size ≤ 1900000 := by rw [ByteArray.size_extract]; omega
            have Hrd := Lib.hid (rd_at (k := (xs.length : Int)) hkn hpq hq hc)
            have Hkn := Lib.hid hkn; have Hsz := Lib.hid hsz; clear hkn hsz hc
            go_wp2_with fail
            refine (jrRead_any _ _ _ Hkn.out Hsz.out).mono ?_; rintro e w2 ⟨hrd, hb2⟩
            have Hown2 := Lib.hid (own_below Hown.out hb2)
            have hb02 := bthen hb hb2
            unfold RsP at hrd
            rw [Hrd.out] at hrd
            rcases hrd with ⟨r, hr, rfl⟩ | ⟨hr, rfl⟩
            · obtain ⟨G, hG⟩ : ∃ G, 30 - xs.length = G + 1 := ⟨29 - xs.length, by omega⟩
              have Hnew := Lib.hid (show jrA s = ((xs ++ [r]) ++ (openF (30 - (xs ++ [r]).length) ((xs ++ [r]).length : Int) (s.data.toList.drop (q + 1))).1, (q + 1) + (openF (30 - (xs ++ [r]).length) ((xs ++ [r]).length : Int) (s.data.toList.drop (q + 1))).2) by
                have h7 := Ho.out
                rw [hG] at h7
                have h8 := openF_on (m := q - p) h7 Hm.out hr
                rw [List.drop_drop, show p + (q - p + 1) = q + 1 by omega] at h8
                rw [List.length_append, List.length_singleton, show 30 - (xs.length + 1) = G by omega, show ((xs.length + 1 : Nat) : Int) = (xs.length : Int) + 1 by omega]
                exact h8)
              clear hr hG
              go_wp2_with (at_builtin; refine wpList_append_own _ rfl _ _ 83 rfl w.heap.size 78 i0 (.agg #[.int .i64 0, .int .i64 0, .int .i64 0, .int .i64 0]) 4 32 Tryz.underlying83 hi hz0 hz1 hz2 rfl (by decide) _ _ _ rfl ((Hown2.out.alloc _).alloc _) ⟨w2.heap.size + 1, 0, none⟩ 1 1 (rcS.flat [r]) rfl rfl ?c1 ?c2 ?c3 ?c4 ?c5 ?_)
              case c1 =>
                intro j u hj
                rw [rc4] at hj
                match j, hj with
                | 0, hj => simp at hj; subst hj; simp [Addr.add]
                | 1, hj => simp at hj; subst hj; simp [Addr.add]
                | 2, hj => simp at hj; subst hj; simp [Addr.add]
                | 3, hj => simp at hj; subst hj; simp [Addr.add]
              case c2 => intro u hu; rw [rc4] at hu; simp at hu; rcases hu with rfl | rfl | rfl | rfl <;> rfl
              case c3 => unfold maxLen; omega
              case c4 => omega
              case c5 => have := hb02.size; simp; omega
              intro v' w3 hown' hgrow _
              have hbn : Below w.heap.size w w3 := Below.grown (bal (bal hb02 _) _) hgrow (by have := hb02.size; simp; omega) (fun j hj => (Hown2.out.lt j hj).1)
              have Hown' := Lib.hid (show w3.ownsRow w.heap.size 78 4 v' (xs ++ [r]).length (rcS.flat (xs ++ [r])) by rw [Shape.flat_append, List.length_append]; exact hown')
              clear hown' hgrow
              go_wp2
              go_roundw
              case rel => exact ⟨q + 1, xs ++ [r], by omega, by go_num, by rw [List.length_append, List.length_singleton]; omega, Hnew, hbn, Hown'⟩
              case measure => simp [intOf]; omega
            · have Hfin := Lib.hid (openF_stop Ho.out (openF_bad (by rw [Hm.out, Int.toNat_natCast]; exact hr)))
              clear hr
              go_wp2
              go_ret2
              exact ⟨⟨_, by rw [show jrA s = (xs, p) from Hfin.out]; rfl, by rw [show jrA s = (xs, p) from Hfin.out]; exact Hown2.out.alloc _⟩, by (repeat (with_reducible first | exact Below.refl _ _ | assumption | refine bal ?_ _ | refine bst ?_ (by simp <;> omega) _ | refine Below.drew ?_ | refine bthen ?_ (by assumption)))⟩
          · have hc1 : ((s[q].toNat : Int) == 10) = false := beq_eq_false_iff_ne.2 (fun e => hc (UInt8.toNat_inj.1 (show s[q].toNat = 10 by omega)))
            have hc2 : ((s[q].toNat : Int) != 10) = true := by simp [bne, hc1]
            have Hnew := Lib.hid (spl_keep hpq hq Hn.out hc)
            clear hc
            go_wp2
            go_round
            case rel => exact ⟨q + 1, by omega, by omega, by go_num, Hnew⟩
            case measure => simp [intOf]; omega
        · obtain rfl : q = s.size := by omega
          have Hfin := Lib.hid (openF_stop Ho.out (openF_none (ix_end Hn.out)))
          have hqe : ((s.size : Int) == (s.size : Int)) = true := beq_iff_eq.2 rfl
          go_wp2
          go_ret2
          exact ⟨⟨_, by rw [show jrA s = (xs, p) from Hfin.out]; rfl, by rw [show jrA s = (xs, p) from Hfin.out]; exact Hown.out⟩, hb⟩
    · have h1 : ¬ (xs.length : Int) < 30 := by omega
      have Hfin := Lib.hid (show jrA s = (xs, p) by
        have := Ho.out
        rw [show 30 - xs.length = 0 by omega, openF_zero] at this
        simpa using this)
      go_wp2
      go_ret2
      exact ⟨⟨_, by rw [Hfin.out]; rfl, by rw [Hfin.out]; exact Hown.out⟩, hb⟩
end Go.Proofs.YtimfoodbolokdaaGreatDoor
