/- The line of a record: sealRecord of the program and jrLine of the reference; SealRecord of both. Conditions: bounds; the table of powers of ten. -/
import Derived.Test.YticbmpjdcanjkaaGreatDoorText
namespace Go.Proofs.YticbmpjdcanjkaaGreatDoor
open Go Go.RowKit

/-! ### The sum of a text's bytes -/
def sumL (l : List UInt8) : Int := l.foldl (fun o b => (31 * o + (b.toNat : Int)) % 1000003) 1
theorem sumL_bd : ∀ l : List UInt8, 0 ≤ sumL l ∧ sumL l < 1000003 := by
  have key : ∀ (l : List UInt8) (z : Int), 0 ≤ z ∧ z < 1000003 → 0 ≤ l.foldl (fun o b => (31 * o + (b.toNat : Int)) % 1000003) z ∧ l.foldl (fun o b => (31 * o + (b.toNat : Int)) % 1000003) z < 1000003 := by
    intro l
    induction l with
    | nil => exact fun z h => h
    | cons b l ih => exact fun z h => ih _ (show 0 ≤ (31 * z + (b.toNat : Int)) % 1000003 ∧ (31 * z + (b.toNat : Int)) % 1000003 < 1000003 by omega)
  exact fun l => key l 1 (by omega)
theorem sumL_snoc (l : List UInt8) (b : UInt8) : sumL (l ++ [b]) = (31 * sumL l + (b.toNat : Int)) % 1000003 := by simp [sumL]
theorem take_snoc (s : ByteArray) (k : Nat) (h : k < s.size) : s.data.toList.take (k + 1) = s.data.toList.take k ++ [s[k]] := by
  rw [List.take_succ_eq_append_getElem (by simpa using h)]; rfl
set_option maxHeartbeats 800000 in
theorem jrSum_any (s : ByteArray) (w : World) (hs : s.size ≤ 9223372036854775807) : Calls Tryz.prog 153 #[.string s] w fun e w' => e = .returned (.int .i64 (sumL s.data.toList)) ∧ w = w' := by
  go_enter Tryz.func153, Tryz.ntmps153
  go_wp2
  go_loop [3, 4] (fun n i => ∃ k : Nat, k ≤ s.size ∧ i = .int .i64 k ∧ n = .int .i64 (sumL (s.data.toList.take k))) (fun _ i => s.size - (intOf i).toNat)
  case atStart => exact ⟨0, Nat.zero_le _, rfl, rfl⟩
  case round =>
    obtain ⟨k, hk, rfl, rfl⟩ := hrel
    obtain ⟨d1, d2⟩ := sumL_bd (s.data.toList.take k)
    by_cases hlt : k < s.size
    · have Hn := Lib.hid (show sumL (s.data.toList.take (k + 1)) = (31 * sumL (s.data.toList.take k) + (s[k].toNat : Int)) % 1000003 by rw [take_snoc s k hlt, sumL_snoc])
      have hb := UInt8.toNat_lt s[k]
      have hb1 : (0 : Int) ≤ (s[k].toNat : Int) := by omega
      have hb2 : (s[k].toNat : Int) ≤ 255 := by omega
      clear hb
      generalize sumL (s.data.toList.take k) = S at d1 d2 Hn
      go_wp2
      go_round
      case rel => exact ⟨k + 1, by omega, by go_num, by rw [Hn.out]⟩
      case measure => simp [intOf]; omega
    · obtain rfl : k = s.size := by omega
      go_wp2
      go_ret
      exact ⟨ret_int (by rw [List.take_of_length_le (by simp)]), rfl⟩

/-! ### The line -/
def lineS (k a b lo hi : Int) : ByteArray := nText [k, a, b, lo, hi] ++ ⟨#[35]⟩ ++ itS (sumL (nText [k, a, b, lo, hi]).data.toList) ++ ⟨#[10]⟩
theorem nText5 (k a b lo hi : Int) : nText [k, a, b, lo, hi] = itS k ++ ⟨#[32]⟩ ++ nText [a, b] ++ ⟨#[32]⟩ ++ itS lo ++ ⟨#[32]⟩ ++ itS hi := by
  unfold nText
  apply ByteArray.ext
  simp [Lib.join, List.intercalate]
theorem nText_size (es : List Int) (b : Nat) (h : ∀ e ∈ es, e.natAbs ≤ b) : (nText es).size ≤ es.length * (b + 3) := nText_len es b h
/-- The bounds of a record and of its number. -/
structure RcB (k a b lo hi : Int) : Prop where
  k : 0 ≤ k ∧ k ≤ 29
  a : -1000 ≤ a ∧ a ≤ 1000
  b : -10000 ≤ b ∧ b ≤ 10000
  lo : 0 ≤ lo ∧ lo ≤ 20
  hi : 0 ≤ hi ∧ hi ≤ 20
theorem RcB.size {k a b lo hi : Int} (h : RcB k a b lo hi) : (nText [k, a, b, lo, hi]).size ≤ 100000 := by
  have := nText_size [k, a, b, lo, hi] 10000 (by
    intro e he
    have h1 := h.k; have h2 := h.a; have h3 := h.b; have h4 := h.lo; have h5 := h.hi
    simp at he
    omega)
  simp at this
  omega
set_option maxRecDepth 8000 in
set_option maxHeartbeats 2000000 in
theorem jrLine_any (k a b lo hi : Int) (w : World) (h : RcB k a b lo hi) :
    Calls Tryz.prog 133 #[.int .i64 k, .agg #[.int .i64 a, .int .i64 b, .int .i64 lo, .int .i64 hi]] w fun e w' => e = .returned (.string (lineS k a b lo hi)) ∧ Below w.heap.size w w' := by
  have hsz := h.size
  have Hs := Lib.hid (fun w => jrSum_any (nText [k, a, b, lo, hi]) w (by omega))
  have hsum := sumL_bd (nText [k, a, b, lo, hi]).data.toList
  have Hv : Hid (lineS k a b lo hi = nText [k, a, b, lo, hi] ++ ⟨#[35]⟩ ++ itS (sumL (nText [k, a, b, lo, hi]).data.toList) ++ ⟨#[10]⟩) := Lib.hid rfl
  have Hc2 := Lib.hid (fun w => l1Num_int (sumL (nText [k, a, b, lo, hi]).data.toList) w (by omega))
  have h6 := itS_size (sumL (nText [k, a, b, lo, hi]).data.toList)
  generalize sumL (nText [k, a, b, lo, hi]).data.toList = S at Hs hsum Hv Hc2 h6
  have h7 : (itS S).size ≤ 1000010 := by omega
  generalize itS S = PS at Hv Hc2 h7
  rw [nText5] at Hv Hs hsz
  have H1 := Lib.hid (fun w => l1Num_int k w (by have := h.k; omega))
  have H2 := Lib.hid (fun w => ecText_any a b w (by have := h.a; omega) (by have := h.b; omega))
  have H3 := Lib.hid (fun w => l1Num_int lo w (by have := h.lo; omega))
  have H4 := Lib.hid (fun w => l1Num_int hi w (by have := h.hi; omega))
  have s1 : (itS k).size ≤ 100 := by have := itS_size k; have := h.k; omega
  have s3 : (itS lo).size ≤ 100 := by have := itS_size lo; have := h.lo; omega
  have s4 : (itS hi).size ≤ 100 := by have := itS_size hi; have := h.hi; omega
  have s2 : (nText [a, b]).size ≤ 100000 := by
    have := nText_size [a, b] 10000 (by intro e he; have h2 := h.a; have h3 := h.b; simp at he; omega)
    simp at this; omega
  have hbx := Blk.new w 72 #[.int .i64 a, .int .i64 b, .int .i64 lo, .int .i64 hi]
  have Hbx := Lib.hid hbx; clear hbx
  have HbA := Lib.hid (show Below w.heap.size w (w.alloc (Obj.cells #[.int .i64 a, .int .i64 b, .int .i64 lo, .int .i64 hi] 72)) from bal (Below.refl _ _) _)
  generalize itS k = P1 at H1 Hv Hs s1 hsz
  generalize nText [a, b] = P2 at H2 Hv Hs s2 hsz
  generalize itS lo = P3 at H3 Hv Hs s3 hsz
  generalize itS hi = P4 at H4 Hv Hs s4 hsz
  clear h hsz h6 hsum
  go_enter Tryz.func133, Tryz.ntmps133
  go_wp2
  refine wp_region_tame (by kernel_rfl) (by kernel_rfl) (fun T _ W hT => ?_)
  have hx := hT.cell
  repeat (go_big_quiet_step ((first | (go_at_call 50; with_reducible exact hT.call (H2.out _)) | (go_at_call 51; with_reducible exact hT.call (H1.out _)) | (go_at_call 51; with_reducible exact hT.call (H3.out _)) | (go_at_call 51; with_reducible exact hT.call (H4.out _)))))
  refine wpQuiet_nil ?_
  intro t
  clear hx
  have hbt := bthen HbA.out (hT.below t)
  generalize W t = wt at hbt ⊢
  clear hT
  go_wp2_with fail
  refine (Hs.out _).mono ?_; rintro e w2 ⟨rfl, rfl⟩
  go_wp2_with fail
  refine (Hc2.out _).mono ?_; rintro e w3 ⟨rfl, hb3⟩
  go_wp2
  go_ret
  exact ⟨by rw [Hv.out]; rfl, bthen hbt hb3⟩

theorem rd_ints (w : World) (t : TypeId) (es : List Int) (hl : es.length ≤ 1000) : Rd inS (w.alloc (.cells (es.map (Value.int .i64)).toArray t)) (w.alloc (.cells (es.map (Value.int .i64)).toArray t)).heap.size (.slice (some ⟨w.heap.size, 0, none⟩) es.length es.length) es := by
  refine ⟨_, es.length, rfl, Nat.le_refl _, by unfold maxLen; omega, fun _ => ⟨w.heap.size, 0, rfl, by rw [World.size_alloc]; omega, fun k hk j hj => ?_⟩⟩
  have hj0 : j = 0 := by simp [inS] at hj; exact hj
  subst hj0
  rw [show 0 + k * inS.size + 0 = k by simp [inS], (Blk.new w t (es.map (Value.int .i64)).toArray).cell k]
  rw [List.getElem?_toArray, List.getElem?_map, List.getElem?_eq_getElem hk, inS_get hk]
  rfl
theorem take_app (Q : ByteArray) : (Q ++ (⟨#[35]⟩ : ByteArray)).data.toList.take Q.size = Q.data.toList := by
  simp
set_option maxRecDepth 8000 in
set_option maxHeartbeats 2000000 in
theorem sealRecord_any (k a b lo hi : Int) (w : World) (h : RcB k a b lo hi) (ht : Tab w) :
    Calls Tryz.prog 137 #[.int .i64 k, .agg #[.int .i64 a, .int .i64 b, .int .i64 lo, .int .i64 hi]] w fun e w' => e = .returned (.string (lineS k a b lo hi)) ∧ Below w.heap.size w w' := by
  have hsz := h.size
  have hbA := bal (bal (Below.refl w.heap.size w) (Obj.cells #[.int .i64 a, .int .i64 b, .int .i64 lo, .int .i64 hi] 72)) (Obj.cells #[.int .i64 k, .int .i64 a, .int .i64 b, .int .i64 lo, .int .i64 hi] 3)
  have Hnt := Lib.hid (numbersText_any (.slice (some ⟨w.heap.size + 1, 0, none⟩) 5 5) [k, a, b, lo, hi] ((w.alloc (Obj.cells #[.int .i64 a, .int .i64 b, .int .i64 lo, .int .i64 hi] 72)).alloc (Obj.cells #[.int .i64 k, .int .i64 a, .int .i64 b, .int .i64 lo, .int .i64 hi] 3))
    (by have := rd_ints (w.alloc (Obj.cells #[.int .i64 a, .int .i64 b, .int .i64 lo, .int .i64 hi] 72)) 3 [k, a, b, lo, hi] (by simp)
        rw [World.size_alloc w] at this
        exact this) (by simp) (by
      intro j hj
      rw [inS_get hj]
      have h1 := h.k; have h2 := h.a; have h3 := h.b; have h4 := h.lo; have h5 := h.hi
      have h6 : [k, a, b, lo, hi][j] ∈ [k, a, b, lo, hi] := List.getElem_mem hj
      generalize [k, a, b, lo, hi][j] = y at h6
      simp at h6
      omega) (ht.on hbA))
  have Ht := Lib.hid ht
  have HbA := Lib.hid hbA; clear hbA ht
  have Hv : Hid (lineS k a b lo hi = nText [k, a, b, lo, hi] ++ ⟨#[35]⟩ ++ itS (sumL (nText [k, a, b, lo, hi]).data.toList) ++ ⟨#[10]⟩) := Lib.hid rfl
  have hsum := sumL_bd (nText [k, a, b, lo, hi]).data.toList
  have Hc2 := Lib.hid (fun w ht => itoa_any (sumL (nText [k, a, b, lo, hi]).data.toList) w (by omega) ht)
  have h6 := itS_size (sumL (nText [k, a, b, lo, hi]).data.toList)
  have h7 : (itS (sumL (nText [k, a, b, lo, hi]).data.toList)).size ≤ 1000010 := by omega
  clear h6 hsum
  generalize nText [k, a, b, lo, hi] = Q at Hnt Hv Hc2 hsz h7
  obtain ⟨s, hs⟩ : ∃ s, Q ++ (⟨#[35]⟩ : ByteArray) = s := ⟨_, rfl⟩
  have hss : s.size = Q.size + 1 := by rw [← hs, ByteArray.size_append]; rfl
  have Htk := Lib.hid (show s.data.toList.take Q.size = Q.data.toList by rw [← hs]; exact take_app Q)
  rw [hs] at Hv
  have hsz2 : s.size ≤ 100001 := by omega
  have Hss := Lib.hid hss; clear hss
  clear h
  go_enter Tryz.func137, Tryz.ntmps137
  go_wp2_with fail
  refine Hnt.out.mono ?_; rintro e w1 ⟨rfl, hb1⟩
  have hb01 := bthen HbA.out hb1
  clear hb1
  go_wp2
  have Hhs := Lib.hid hs; clear hs
  go_loop [6, 25] (fun n i => ∃ j : Nat, j ≤ Q.size ∧ i = .int .i64 j ∧ n = .int .i64 (sumL (s.data.toList.take j))) (fun _ i => Q.size - (intOf i).toNat)
  case atStart => exact ⟨0, Nat.zero_le _, rfl, rfl⟩
  case round =>
    obtain ⟨j, hj, rfl, rfl⟩ := hrel
    obtain ⟨d1, d2⟩ := sumL_bd (s.data.toList.take j)
    by_cases hlt : j < Q.size
    · have hjs : j < s.size := by have := Hss.out; omega
      have hjl : (j : Int) < (s.size : Int) - 1 := by have := Hss.out; omega
      have Hn := Lib.hid (show sumL (s.data.toList.take (j + 1)) = (31 * sumL (s.data.toList.take j) + (s[j].toNat : Int)) % 1000003 by rw [take_snoc s j hjs, sumL_snoc])
      have hb := UInt8.toNat_lt s[j]
      have hb1 : (0 : Int) ≤ (s[j].toNat : Int) := by omega
      have hb2 : (s[j].toNat : Int) ≤ 255 := by omega
      clear hb
      generalize sumL (s.data.toList.take j) = S at d1 d2 Hn
      go_wp2
      go_round
      case rel => exact ⟨j + 1, by omega, by go_num, by rw [Hn.out]⟩
      case measure => simp [intOf]; omega
    · have hjl : ¬ (j : Int) < (s.size : Int) - 1 := by have := Hss.out; omega
      have hjq : j = Q.size := by omega
      have Hsum := Lib.hid (show sumL (s.data.toList.take j) = sumL Q.data.toList by rw [hjq, Htk.out])
      clear hjq
      generalize sumL (s.data.toList.take j) = S at d1 d2 Hsum
      have Hc3 := Lib.hid (fun w' ht => by have := Hc2.out w' ht; rw [← Hsum.out] at this; exact this)
      have Hv3 := Hv.out
      rw [← Hsum.out] at Hv3
      rw [← Hsum.out] at h7
      replace Hv3 := Lib.hid Hv3
      generalize itS S = PS at Hc3 Hv3 h7
      go_wp2_with fail
      refine (Hc3.out _ (Ht.out.on hb01)).mono ?_; rintro e w3 ⟨rfl, hb3⟩
      go_wp2
      go_ret
      exact ⟨by rw [Hv3.out]; rfl, bthen hb01 hb3⟩
end Go.Proofs.YticbmpjdcanjkaaGreatDoor
