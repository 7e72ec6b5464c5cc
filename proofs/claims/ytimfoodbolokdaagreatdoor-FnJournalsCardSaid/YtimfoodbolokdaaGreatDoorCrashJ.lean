/- CrashJournal of both. Conditions: Env; bounds. -/
import Derived.Test.YtimfoodbolokdaaGreatDoorAppR
import Derived.Laws.IdiomStrings
namespace Go.Proofs.YtimfoodbolokdaaGreatDoor
open Go Go.RowKit

/-! ### A text's bytes, and back -/
def bytesW (W : World) (K : ByteArray) : World := W.drew.alloc (.cells (bytesRow K (grownCap W K.size 0 5)) 5 ((bytesRow K (grownCap W K.size 0 5)).size, (bytesRow K (grownCap W K.size 0 5)).size + 1))
theorem bytes_run (K : ByteArray) (W : World) : (convert 9 22 (.string K)).run Tryz.prog W = .ok (.slice (some ⟨W.heap.size, 0, none⟩) K.size (grownCap W K.size 0 5)) (bytesW W K) :=
  run_bytes_of_string W 9 22 5 K Tryz.underlying9 Tryz.underlying22 Tryz.underlying5
theorem bytesW_below (W : World) (K : ByteArray) : Below W.heap.size W (bytesW W K) := bal (Below.refl _ _).drew _
theorem bytesW_cell (W : World) (K : ByteArray) (j : Nat) (hj : j < K.size) : (bytesW W K).cell? ⟨W.heap.size, j, none⟩ = some (.int .u8 ((K.data.toList[j]'hj).toNat : Int)) := by
  have h := World.cell?_alloc_mark W.drew (bytesRow K (grownCap W K.size 0 5)) 5 ((bytesRow K (grownCap W K.size 0 5)).size, (bytesRow K (grownCap W K.size 0 5)).size + 1) j
  unfold bytesW
  exact h.trans (bytesRow_at K _ j hj)
theorem bytesRow_size (K : ByteArray) (c : Nat) : K.size ≤ (bytesRow K c).size := by
  unfold bytesRow
  rw [Array.size_append, Array.size_map]
  exact Nat.le_add_right _ _
theorem bytesW_frozen (W : World) (K : ByteArray) (j : Nat) (hj : j < K.size) : (bytesW W K).frozen? ⟨W.heap.size, j, none⟩ = false := by
  have h := World.frozen?_alloc_mark W.drew (bytesRow K (grownCap W K.size 0 5)) 5 (bytesRow K (grownCap W K.size 0 5)).size ((bytesRow K (grownCap W K.size 0 5)).size + 1) j
  unfold bytesW
  refine h.trans ?_
  have := bytesRow_size K (grownCap W K.size 0 5)
  rw [decide_eq_false (by omega)]; rfl
theorem back_run (w : World) (g c n : Nat) (l : List UInt8) (hn : l.length = n) (hc : ∀ j (hj : j < l.length), w.cell? ⟨g, j, none⟩ = some (.int .u8 (l[j].toNat : Int))) :
    (convert 22 9 (.slice (some ⟨g, 0, none⟩) n c)).run Tryz.prog w = .ok (.string ⟨l.toArray⟩) w := by
  subst hn
  refine run_convert_bytes_back w 22 9 5 ⟨g, 0, none⟩ c l Tryz.underlying22 Tryz.underlying5 Tryz.underlying9 (fun j hj => ?_)
  rw [Addr.add_zero_block]
  exact hc j hj
theorem bytes_abs (K : ByteArray) (n : Nat) (hn : K.size = n) : ∃ (cp : World → Nat) (bw : World → World), (∀ W, (convert 9 22 (.string K)).run Tryz.prog W = .ok (.slice (some ⟨W.heap.size, 0, none⟩) n (cp W)) (bw W)) ∧
    (∀ W, Below W.heap.size W (bw W)) ∧ (∀ W j, j < n → (bw W).cell? ⟨W.heap.size, j, none⟩ = some (.int .u8 ((K.data.toList.getD j 0).toNat : Int))) ∧ (∀ W j, j < n → (bw W).frozen? ⟨W.heap.size, j, none⟩ = false) := by
  subst hn
  refine ⟨fun W => grownCap W K.size 0 5, fun W => bytesW W K, bytes_run K, fun W => bytesW_below W K, fun W j hj => ?_, fun W j hj => bytesW_frozen W K j hj⟩
  rw [bytesW_cell W K j hj, List.getD_eq_getElem?_getD, List.getElem?_eq_getElem (show j < K.data.toList.length from hj)]
  rfl
theorem back_whole (w : World) (g c n : Nat) (K : ByteArray) (hn : K.size = n) (hc : ∀ j, j < n → w.cell? ⟨g, j, none⟩ = some (.int .u8 ((K.data.toList.getD j 0).toNat : Int))) :
    (convert 22 9 (.slice (some ⟨g, 0, none⟩) n c)).run Tryz.prog w = .ok (.string K) w := by
  have h := back_run w g c n K.data.toList hn (fun j hj => by
    rw [hc j (by rw [← hn]; exact hj), List.getD_eq_getElem?_getD, List.getElem?_eq_getElem hj]; rfl)
  exact h
/-- The last byte turned. -/
def tornL (l : List UInt8) : List UInt8 := l.set (l.length - 1) (255 - l.getD (l.length - 1) 0)
theorem torn_byte (b : UInt8) : ((255 - b : UInt8).toNat : Int) = 255 - (b.toNat : Int) := by
  have h := UInt8.toNat_lt b
  have : (255 - b : UInt8).toNat = 255 - b.toNat := by
    rw [UInt8.toNat_sub_of_le]
    · rfl
    · rw [UInt8.le_iff_toNat_le]; show b.toNat ≤ 255; omega
  rw [this]; omega
theorem back_torn (w : World) (g c m : Nat) (K : ByteArray) (hn : K.size = m + 1) (B : Int) (hB : B = 255 - ((K.data.toList.getD m 0).toNat : Int)) (hf : (w.cell? ⟨g, m, none⟩).isSome = true) (hc : ∀ j, j < m + 1 → w.cell? ⟨g, j, none⟩ = some (.int .u8 ((K.data.toList.getD j 0).toNat : Int))) :
    (convert 22 9 (.slice (some ⟨g, 0, none⟩) (m + 1) c)).run Tryz.prog (w.setCell ⟨g, m, none⟩ (.int .u8 B)) = .ok (.string ⟨(tornL K.data.toList).toArray⟩) (w.setCell ⟨g, m, none⟩ (.int .u8 B)) := by
  have hl : K.data.toList.length = m + 1 := hn
  have ht : (tornL K.data.toList).length = m + 1 := by unfold tornL; rw [List.length_set, hl]
  refine back_run _ g c (m + 1) _ ht (fun j hj => ?_)
  rw [ht] at hj
  by_cases hjm : j = m
  · subst hjm
    obtain ⟨u, hu⟩ := Option.isSome_iff_exists.1 hf
    rw [World.cell?_setCell_same _ _ _ hu, hB]
    unfold tornL
    simp only [hl, Nat.add_sub_cancel, List.getElem_set_self, torn_byte]
  · rw [World.cell?_setCell_other _ _ _ _ (by intro e; injection e with _ e2; exact hjm e2.symm), hc j hj]
    unfold tornL
    simp only [hl, Nat.add_sub_cancel]
    rw [List.getElem_set_ne (Ne.symm hjm), List.getD_eq_getElem?_getD, List.getElem?_eq_getElem (by omega)]
    rfl
def crT (P : ByteArray) (n : Nat) (torn : Bool) : ByteArray := if torn = true ∧ 0 < n then ⟨(tornL (P.extract 0 n).data.toList).toArray⟩ else P.extract 0 n
def crV (D P : ByteArray) (k : Int) (torn : Bool) : ByteArray × Bool := if jrOk D P = true ∧ insB k 0 P.size = true then (D ++ crT P k.toNat torn, true) else (⟨#[]⟩, false)
theorem crT_size (P : ByteArray) (n : Nat) (torn : Bool) (h : n ≤ P.size) : (crT P n torn).size = n := by
  have e : (P.extract 0 n).size = n := by rw [ByteArray.size_extract]; omega
  unfold crT
  split
  · show (tornL (P.extract 0 n).data.toList).toArray.size = n
    unfold tornL
    rw [List.size_toArray, List.length_set]
    exact e
  · exact e
set_option maxRecDepth 8000 in
set_option maxHeartbeats 4000000 in
theorem implCr_any (D P : ByteArray) (k : Int) (torn : Bool) (w : World) (h : JB D P) (hk : -9223372036854775808 ≤ k ∧ k ≤ 9223372036854775807) (he : Env w) : Calls Tryz.prog 72 #[.agg #[.string D, .string P], .int .i64 k, .bool torn] w fun e w' => e = .returned (.tuple #[.string (crV D P k torn).1, .bool (crV D P k torn).2]) ∧ Below w.heap.size w w' := by
  have hd := h.d; have hp := h.p; have hdp := h.h
  have hbx := bal (Below.refl w.heap.size w) (Obj.cells #[.string D, .string P] 76)
  have He := Lib.hid (he.on hbx); clear he
  have HX := Lib.hid (Blk.new w 76 #[.string D, .string P])
  have Hbx := Lib.hid hbx; clear hbx
  go_enter Tryz.func72, Tryz.ntmps72
  go_wp2_with fail
  refine (recordsOf_any D P _ (by omega) (by omega) He.out).mono ?_; rintro e w1 ⟨⟨v, rfl, -⟩, hb1⟩
  have HX1 := Lib.hid (HX.out.on hb1); have Hb1 := Lib.hid (bthen Hbx.out hb1); clear hb1
  have x0 := HX1.out.cell 0
  have x1 := HX1.out.cell 1
  have xl := HX1.out.lt
  simp at x0 x1
  cases hok : jrOk D P
  · have Hv := Lib.hid (show crV D P k torn = (⟨#[]⟩, false) by unfold crV; rw [hok]; simp)
    clear hok
    go_wp2
    go_ret2
    exact ⟨by rw [Hv.out] <;> rfl, Hb1.out⟩
  · go_wp2_with fail
    refine (inside_any _ _ _ _).mono ?_; rintro r w2 ⟨rfl, rfl⟩
    cases hin : insB k 0 P.size
    · have Hv := Lib.hid (show crV D P k torn = (⟨#[]⟩, false) by unfold crV; rw [hin]; simp)
      clear hok hin
      go_wp2
      go_ret2
      exact ⟨by rw [Hv.out] <;> rfl, Hb1.out⟩
    · obtain ⟨hk0, hk1⟩ := insB_true hin
      obtain ⟨n, rfl⟩ : ∃ n : Nat, k = n := ⟨k.toNat, by omega⟩
      have hnP : n ≤ P.size := by omega
      have Hv := Lib.hid (show crV D P n torn = (D ++ crT P n torn, true) by unfold crV; rw [if_pos ⟨hok, hin⟩]; rfl)
      have hks : (P.extract 0 n).size = n := by rw [ByteArray.size_extract]; omega
      have hcs := crT_size P n torn hnP
      clear hok hin hk0
      obtain ⟨K, hK⟩ : ∃ K, P.extract 0 n = K := ⟨_, rfl⟩
      rw [hK] at hks
      obtain ⟨cp, bw, hcv, hbw, hcell, hfro⟩ := bytes_abs K n hks
      have Hcell := Lib.hid (hcell w1); have Hfro := Lib.hid (hfro w1)
      have HX2 := Lib.hid (HX1.out.on (hbw w1))
      have Hb2 := Lib.hid (bthen Hb1.out (hbw w1))
      have Hks := Lib.hid hks
      have Hlt := Lib.hid HX1.out.lt
      clear hbw hcell hfro hks
      have y0 := HX2.out.cell 0
      have y1 := HX2.out.cell 1
      have yl := HX2.out.lt
      simp at y0 y1
      have hn2 : (0 : Int) ≤ (n : Int) := by omega
      have hn3 : (n : Int) ≤ (P.size : Int) := by omega
      by_cases ht : torn = true ∧ 0 < n
      · obtain ⟨rfl, hn0⟩ := ht
        have Hct := Lib.hid (show crT P n true = ⟨(tornL K.data.toList).toArray⟩ by unfold crT; rw [if_pos ⟨rfl, hn0⟩, hK])
        obtain ⟨m, rfl⟩ : ∃ m, n = m + 1 := ⟨n - 1, by omega⟩
        have hcm := Hcell.out m (by omega)
        have hfm := Hfro.out m (by omega)
        have hB0 : (0 : Int) ≤ ((K.data.toList.getD m 0).toNat : Int) := by omega
        have hB1 : ((K.data.toList.getD m 0).toNat : Int) ≤ 255 := by have := UInt8.toNat_lt (K.data.toList.getD m 0); omega
        have hback := back_torn (bw w1) w1.heap.size (cp w1) m K Hks.out (255 - ((K.data.toList.getD m 0).toNat : Int)) rfl (by rw [hcm]; rfl) Hcell.out
        have HX3 := Lib.hid (HX2.out.far (p := ⟨w1.heap.size, m, none⟩) (by have := Hlt.out; simp; omega) (.int .u8 (255 - ((K.data.toList.getD m 0).toNat : Int))))
        generalize ((K.data.toList.getD m 0).toNat : Int) = B at hcm hB0 hB1 hback HX3
        rw [Hct.out] at hcs
        generalize (⟨(tornL K.data.toList).toArray⟩ : ByteArray) = Z at hback Hct hcs
        have v0 := HX3.out.cell 0
        have v1 := HX3.out.cell 1
        simp at v0 v1
        go_wp2
        go_ret2
        exact ⟨by rw [Hv.out, Hct.out] <;> rfl, bst Hb2.out Hb1.out.size _⟩
      · have Hct := Lib.hid (show crT P n torn = K by unfold crT; rw [if_neg ht, hK])
        have hback := back_whole (bw w1) w1.heap.size (cp w1) n K Hks.out Hcell.out
        rw [Hct.out] at hcs
        cases torn
        · go_wp2
          go_ret2
          exact ⟨by rw [Hv.out, Hct.out] <;> rfl, Hb2.out⟩
        · have h9 : ¬ (0 : Int) < (n : Int) := fun h8 => ht ⟨rfl, by omega⟩
          go_wp2
          go_ret2
          exact ⟨by rw [Hv.out, Hct.out] <;> rfl, Hb2.out⟩
set_option maxRecDepth 8000 in
set_option maxHeartbeats 4000000 in
theorem specCr_any (D P : ByteArray) (k : Int) (torn : Bool) (w : World) (h : JB D P) (hk : -9223372036854775808 ≤ k ∧ k ≤ 9223372036854775807) : Calls Tryz.prog 73 #[.agg #[.string D, .string P], .int .i64 k, .bool torn] w fun e w' => e = .returned (.tuple #[.string (crV D P k torn).1, .bool (crV D P k torn).2]) ∧ Below w.heap.size w w' := by
  have hd := h.d; have hp := h.p; have hdp := h.h
  have hbx := bal (Below.refl w.heap.size w) (Obj.cells #[.string D, .string P] 76)
  have HX := Lib.hid (Blk.new w 76 #[.string D, .string P])
  have Hbx := Lib.hid hbx; clear hbx
  go_enter Tryz.func73, Tryz.ntmps73
  go_wp2_with fail
  refine (jrGood_any D P _ h).mono ?_; rintro e w1 ⟨rfl, hb1⟩
  have HX1 := Lib.hid (HX.out.on hb1); have Hb1 := Lib.hid (bthen Hbx.out hb1); clear hb1
  have x0 := HX1.out.cell 0
  have x1 := HX1.out.cell 1
  have xl := HX1.out.lt
  simp at x0 x1
  cases hok : jrOk D P
  · have Hv := Lib.hid (show crV D P k torn = (⟨#[]⟩, false) by unfold crV; rw [hok]; simp)
    clear hok
    go_wp2
    go_ret2
    exact ⟨by rw [Hv.out] <;> rfl, Hb1.out⟩
  · go_wp2_with fail
    refine (l1In_any _ _ _ _).mono ?_; rintro r w2 ⟨rfl, rfl⟩
    cases hin : insB k 0 P.size
    · have Hv := Lib.hid (show crV D P k torn = (⟨#[]⟩, false) by unfold crV; rw [hin]; simp)
      clear hok hin
      go_wp2
      go_ret2
      exact ⟨by rw [Hv.out] <;> rfl, Hb1.out⟩
    · obtain ⟨hk0, hk1⟩ := insB_true hin
      obtain ⟨n, rfl⟩ : ∃ n : Nat, k = n := ⟨k.toNat, by omega⟩
      have hnP : n ≤ P.size := by omega
      have Hv := Lib.hid (show crV D P n torn = (D ++ crT P n torn, true) by unfold crV; rw [if_pos ⟨hok, hin⟩]; rfl)
      have hks : (P.extract 0 n).size = n := by rw [ByteArray.size_extract]; omega
      have hcs := crT_size P n torn hnP
      clear hok hin hk0
      obtain ⟨K, hK⟩ : ∃ K, P.extract 0 n = K := ⟨_, rfl⟩
      rw [hK] at hks
      obtain ⟨cp, bw, hcv, hbw, hcell, hfro⟩ := bytes_abs K n hks
      have Hcell := Lib.hid (hcell w1); have Hfro := Lib.hid (hfro w1)
      have HX2 := Lib.hid (HX1.out.on (hbw w1))
      have Hb2 := Lib.hid (bthen Hb1.out (hbw w1))
      have Hks := Lib.hid hks
      have Hlt := Lib.hid HX1.out.lt
      clear hbw hcell hfro hks
      have y0 := HX2.out.cell 0
      have y1 := HX2.out.cell 1
      have yl := HX2.out.lt
      simp at y0 y1
      have hn2 : (0 : Int) ≤ (n : Int) := by omega
      have hn3 : (n : Int) ≤ (P.size : Int) := by omega
      by_cases ht : torn = true ∧ 0 < n
      · obtain ⟨rfl, hn0⟩ := ht
        have Hct := Lib.hid (show crT P n true = ⟨(tornL K.data.toList).toArray⟩ by unfold crT; rw [if_pos ⟨rfl, hn0⟩, hK])
        obtain ⟨m, rfl⟩ : ∃ m, n = m + 1 := ⟨n - 1, by omega⟩
        have hcm := Hcell.out m (by omega)
        have hfm := Hfro.out m (by omega)
        have hB0 : (0 : Int) ≤ ((K.data.toList.getD m 0).toNat : Int) := by omega
        have hB1 : ((K.data.toList.getD m 0).toNat : Int) ≤ 255 := by have := UInt8.toNat_lt (K.data.toList.getD m 0); omega
        have hback := back_torn (bw w1) w1.heap.size (cp w1) m K Hks.out (255 - ((K.data.toList.getD m 0).toNat : Int)) rfl (by rw [hcm]; rfl) Hcell.out
        have HX3 := Lib.hid (HX2.out.far (p := ⟨w1.heap.size, m, none⟩) (by have := Hlt.out; simp; omega) (.int .u8 (255 - ((K.data.toList.getD m 0).toNat : Int))))
        generalize ((K.data.toList.getD m 0).toNat : Int) = B at hcm hB0 hB1 hback HX3
        rw [Hct.out] at hcs
        generalize (⟨(tornL K.data.toList).toArray⟩ : ByteArray) = Z at hback Hct hcs
        have v0 := HX3.out.cell 0
        have v1 := HX3.out.cell 1
        simp at v0 v1
        go_wp2
        go_ret2
        exact ⟨by rw [Hv.out, Hct.out] <;> rfl, bst Hb2.out Hb1.out.size _⟩
      · have Hct := Lib.hid (show crT P n torn = K by unfold crT; rw [if_neg ht, hK])
        have hback := back_whole (bw w1) w1.heap.size (cp w1) n K Hks.out Hcell.out
        rw [Hct.out] at hcs
        cases torn
        · go_wp2
          go_ret2
          exact ⟨by rw [Hv.out, Hct.out] <;> rfl, Hb2.out⟩
        · have h9 : ¬ (0 : Int) < (n : Int) := fun h8 => ht ⟨rfl, by omega⟩
          go_wp2
          go_ret2
          exact ⟨by rw [Hv.out, Hct.out] <;> rfl, Hb2.out⟩
end Go.Proofs.YtimfoodbolokdaaGreatDoor
