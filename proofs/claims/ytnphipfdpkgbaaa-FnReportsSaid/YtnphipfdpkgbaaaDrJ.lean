/- The reference's draws of lists of reports. Conditions: a slice of bytes. Printed by gen_drj.py. -/
import Derived.Test.YtnphipfdpkgbaaaDrT
import Derived.Test.YtnphipfdpkgbaaaDrR
import Derived.Test.YtnphipfdpkgbaaaApp3
namespace Go.Proofs.Ytnphipfdpkgbaaa
open Go Go.RowKit

/-- Two rows of reports of a call's own. -/
structure TwoR (w : World) (B : Nat) (e : Ending) : Prop where
  ex : ∃ (v1 : Value) (m1 : Nat) (v2 : Value) (m2 : Nat), m1 ≤ 22 ∧ m2 ≤ 22 ∧ e = .returned (.tuple #[v1, v2]) ∧ IR w B 107 7 v1 m1 ∧ IR w B 107 7 v2 m2
theorem IR.kept {w w' : World} {B : Nat} {t : TypeId} {z n : Nat} {v : Value} {r : Option Nat} (h : IR w B t z v n) (hg : w.grownBy w' r) (hne : v.ownBlock = none ∨ v.ownBlock ≠ r) : IR w' B t z v n :=
  let ⟨xs, h1, h2⟩ := h.ex; ⟨xs, World.ownsRow.kept h1 hg hne, h2⟩
/-- One row of reports of a call's own. -/
structure OneR (w : World) (B : Nat) (e : Ending) : Prop where
  ex : ∃ (v : Value) (m : Nat), m ≤ 22 ∧ e = .returned v ∧ IR w B 107 7 v m

set_option linter.unusedSimpArgs false in
set_option maxRecDepth 8000 in
set_option maxHeartbeats 16000000 in
theorem drawAre_any (A : Option Addr) (n c : Nat) (w : World) (hby : BytesAt w w.heap.size A n) :
    Calls Try.prog 105 #[.slice A n c] w fun e w' => OneR w' w.heap.size e ∧ Below w.heap.size w w' := by
  have Hb := Lib.hid hby; clear hby
  have Hgl := Lib.hid (Nat.le_refl w.heap.size)
  have Hd := Lib.hid (Dg.refl w.heap.size w)
  go_enter Try.func105, Try.ntmps105
  go_wp2_with fail
  refine (reports_any w.heap.size 0 _ (Cur.new0 Hb.out c) (by omega)).mono ?_; rintro e w1 ⟨⟨v, m, hm, rfl, hv⟩, hc1, hd1⟩
  have S1 := Lib.hid (show w.heap.size + 1 ≤ w1.heap.size by have h9 := hd1.size; (try simp only [World.size_alloc, World.size_setCell] at h9); omega)
  have Hc1 := Lib.hid (hc1.mono (j := 0 + 3000) (by omega))
  have Hd1 := Lib.hid ((Hd.out.alloc _).trans hd1)
  clear hc1 hd1
  go_wp2
  go_ret
  exact ⟨⟨v, m, hm, rfl, hv.mono (by have := S1.out; simp)⟩, Hd1.out.below (by have := S1.out; omega) (Nat.le_refl _)⟩
theorem drawWithoutContradictions_any (A : Option Addr) (n c : Nat) (w : World) (hby : BytesAt w w.heap.size A n) :
    Calls Try.prog 50 #[.slice A n c] w fun e w' => OneR w' w.heap.size e ∧ Below w.heap.size w w' := by
  go_enter Try.func50, Try.ntmps50
  go_wp2_with fail
  refine (drawAre_any A n c _ hby).mono ?_; rintro e w1 ⟨⟨v, m, hm, rfl, hv⟩, hb⟩
  go_wp2
  go_ret
  exact ⟨⟨v, m, hm, rfl, hv⟩, hb⟩
set_option linter.unusedSimpArgs false in
set_option maxRecDepth 8000 in
set_option maxHeartbeats 16000000 in
theorem drawJoin_any (A : Option Addr) (n c : Nat) (w : World) (hby : BytesAt w w.heap.size A n) :
    Calls Try.prog 40 #[.slice A n c] w fun e w' => TwoR w' w.heap.size e ∧ Below w.heap.size w w' := by
  obtain ⟨i0, hi, hz0, hz1, hz2⟩ := info_parts infoRp7
  have Hb := Lib.hid hby; clear hby
  have Hgl := Lib.hid (Nat.le_refl w.heap.size)
  have Hd := Lib.hid (Dg.refl w.heap.size w)
  go_enter Try.func40, Try.ntmps40
  go_wp2_with fail
  refine (reports_any w.heap.size 0 _ (Cur.new0 Hb.out c) (by omega)).mono ?_; rintro e w1 ⟨⟨v, m, hm, rfl, hv⟩, hc1, hd1⟩
  have S1 := Lib.hid (show w.heap.size + 1 ≤ w1.heap.size by have h9 := hd1.size; (try simp only [World.size_alloc, World.size_setCell] at h9); omega)
  have Hc1 := Lib.hid (hc1.mono (j := 0 + 3000) (by omega))
  have Hd1 := Lib.hid ((Hd.out.alloc _).trans hd1)
  clear hc1 hd1
  have HV := Lib.hid (hv.mono (B' := w.heap.size + 1) (by simp)); have GHV := Lib.hid (IR.lt (hv.mono (B' := w.heap.size + 1) (by simp)))
  clear hv
  obtain ⟨A9, c9, rfl, hmc, hcm⟩ := HV.out.form
  unfold maxLen at hcm
  go_wp2_with fail
  refine (one_any w.heap.size (0 + 3000) (2) _ Hc1.out (by omega)).mono ?_; rintro e w2 ⟨⟨o, rfl⟩, hc2, hd2⟩
  have S2 := Lib.hid (show w1.heap.size + 0 ≤ w2.heap.size by have h9 := hd2.size; (try simp only [World.size_alloc, World.size_setCell] at h9); omega)
  have HV := Lib.hid (HV.out.dg hd2 (show w.heap.size < (w.heap.size + 1) by have := Hgl.out; have := S1.out; have := S2.out; omega))
  have Hc2 := Lib.hid (hc2.mono (j := 0 + 3002) (by omega))
  have Hd2 := Lib.hid (Hd1.out.trans hd2)
  clear hc2 hd2
  cases o
  · go_wp2_with fail
    refine (reports_any w.heap.size (0 + 3002) _ Hc2.out (by omega)).mono ?_; rintro e w3 ⟨⟨v2, m2, hm2, rfl, hv2⟩, hc3, hd3⟩
    have S3 := Lib.hid (show w2.heap.size + 0 ≤ w3.heap.size by have h9 := hd3.size; (try simp only [World.size_alloc, World.size_setCell] at h9); omega)
    have HV := Lib.hid (HV.out.dg hd3 (show w.heap.size < (w.heap.size + 1) by have := Hgl.out; have := S1.out; have := S2.out; have := S3.out; omega))
    have Hc3 := Lib.hid (hc3.mono (j := 0 + 6002) (by omega))
    have Hd3 := Lib.hid (Hd2.out.trans hd3)
    clear hc3 hd3
    go_wp2
    go_ret2
    exact ⟨⟨.slice A9 m c9, m, v2, m2, hm, hm2, rfl, HV.out.mono (by omega), hv2.mono (by have := S1.out; have := S2.out; have := S3.out; simp; omega)⟩, Hd3.out.below (by have := S1.out; have := S2.out; have := S3.out; omega) (Nat.le_refl _)⟩
  · have GV2 := Lib.hid (IR.lt HV.out)
    go_wp2
    go_loopw [6, 7, 19] (fun b rs i wr => ∃ (q n1 n2 : Nat), q ≤ m ∧ i = .int .i64 (q : Int) ∧ n1 ≤ q ∧ n2 ≤ q ∧ Hid (IR wr w2.heap.size 107 7 b n1) ∧ Hid (IR wr w2.heap.size 107 7 rs n2) ∧ Hid (∀ k, b.ownBlock = some k → rs.ownBlock = some k → False) ∧ Hid (IR wr (w.heap.size + 1) 107 7 (.slice A9 m c9) m) ∧ Hid (Cur wr w.heap.size (3002 + 4 * q)) ∧ Hid (Dg w.heap.size w wr) ∧ Hid (w2.heap.size ≤ wr.heap.size)) (fun _ _ i _ => m - (intOf i).toNat)
    case atStart => exact ⟨0, 0, 0, Nat.zero_le _, rfl, Nat.zero_le _, Nat.zero_le _, Lib.hid (IR.nil _ _ _ _), Lib.hid (IR.nil _ _ _ _), Lib.hid (fun k h => by cases h), HV, Lib.hid (Hc2.out.mono (by omega)), Hd2, Lib.hid (Nat.le_refl _)⟩
    clear HV GHV
    case round =>
      obtain ⟨q, n1, n2, hqm, rfl, hn1, hn2, H1, H2, Hap, HV, Hcr, Hdr, HsB⟩ := hrel
      have Sr := Lib.hid Hdr.out.size
      have SB := Lib.hid (show w.heap.size + 1 ≤ w2.heap.size by have := S1.out; have := S2.out; omega)
      obtain ⟨A1, c1, rfl, hmc1, hcm1⟩ := H1.out.form; obtain ⟨A2, c2, rfl, hmc2, hcm2⟩ := H2.out.form
      unfold maxLen at hcm1 hcm2
      have GH1 := Lib.hid (IR.lt H1.out); have GH2 := Lib.hid (IR.lt H2.out); have GHV := GV2
      by_cases hql : q < m
      · have hqi : (q : Int) < (m : Int) := by omega
        have hq0 : (0 : Int) ≤ (q : Int) := by omega
        obtain ⟨gl, cl, hfl, hgl1, hgl2, hmcl, hcml⟩ := HV.out.pos (by omega)
        injection hfl with hf1 hf2 hf3; subst hf1; subst hf3; clear hf2
        obtain ⟨u0, hu0⟩ := HV.out.cell (j := q * 7) (by omega)
        obtain ⟨u1, hu1⟩ := HV.out.cell (j := q * 7 + 1) (by omega)
        obtain ⟨u2, hu2⟩ := HV.out.cell (j := q * 7 + 2) (by omega)
        obtain ⟨u3, hu3⟩ := HV.out.cell (j := q * 7 + 3) (by omega)
        obtain ⟨u4, hu4⟩ := HV.out.cell (j := q * 7 + 4) (by omega)
        obtain ⟨u5, hu5⟩ := HV.out.cell (j := q * 7 + 5) (by omega)
        obtain ⟨u6, hu6⟩ := HV.out.cell (j := q * 7 + 6) (by omega)
        go_wp2_with fail
        refine (one_any w.heap.size (3002 + 4 * q) (2) _ (Hcr.out.alloc _) (by omega)).mono ?_; rintro e w4 ⟨⟨o1, rfl⟩, hc4, hd4⟩
        have S4 := Lib.hid (show wr.heap.size + 1 ≤ w4.heap.size by have h9 := hd4.size; (try simp only [World.size_alloc, World.size_setCell] at h9); omega)
        have NQ := Lib.hid ((Blk.new wr 107 #[.int .i64 u0, .int .i64 u1, .int .i64 u2, .int .i64 u3, .int .i64 u4, .int .i64 u5, .int .i64 u6]).dg hd4 (show wr.heap.size ≠ w.heap.size by have := Hgl.out; have := Sr.out; have := HsB.out; have := SB.out; have := S4.out; omega))
        have Q := NQ; clear NQ
        have H1 := Lib.hid ((H1.out.alloc _).dg hd4 (show w.heap.size < w2.heap.size by have := Hgl.out; have := Sr.out; have := HsB.out; have := SB.out; have := S4.out; omega))
        have H2 := Lib.hid ((H2.out.alloc _).dg hd4 (show w.heap.size < w2.heap.size by have := Hgl.out; have := Sr.out; have := HsB.out; have := SB.out; have := S4.out; omega))
        have HV := Lib.hid ((HV.out.alloc _).dg hd4 (show w.heap.size < (w.heap.size + 1) by have := Hgl.out; have := Sr.out; have := HsB.out; have := SB.out; have := S4.out; omega))
        have Hc4 := Lib.hid (hc4.mono (j := (3002 + 4 * q) + 2) (by omega))
        have Hd4 := Lib.hid ((Hdr.out.alloc _).trans hd4)
        clear hc4 hd4
        clear hu0 hu1 hu2 hu3 hu4 hu5 hu6
        cases o1
        · go_wp2_with fail
          refine (one_any w.heap.size ((3002 + 4 * q) + 2) (3) _ Hc4.out (by omega)).mono ?_; rintro e w5 ⟨⟨o2, rfl⟩, hc5, hd5⟩
          have S5 := Lib.hid (show w4.heap.size + 0 ≤ w5.heap.size by have h9 := hd5.size; (try simp only [World.size_alloc, World.size_setCell] at h9); omega)
          have NQ := Lib.hid (Q.out.dg hd5 (show wr.heap.size ≠ w.heap.size by have := Hgl.out; have := Sr.out; have := HsB.out; have := SB.out; have := S4.out; have := S5.out; omega))
          have Q := NQ; clear NQ
          have H1 := Lib.hid (H1.out.dg hd5 (show w.heap.size < w2.heap.size by have := Hgl.out; have := Sr.out; have := HsB.out; have := SB.out; have := S4.out; have := S5.out; omega))
          have H2 := Lib.hid (H2.out.dg hd5 (show w.heap.size < w2.heap.size by have := Hgl.out; have := Sr.out; have := HsB.out; have := SB.out; have := S4.out; have := S5.out; omega))
          have HV := Lib.hid (HV.out.dg hd5 (show w.heap.size < (w.heap.size + 1) by have := Hgl.out; have := Sr.out; have := HsB.out; have := SB.out; have := S4.out; have := S5.out; omega))
          have Hc5 := Lib.hid (hc5.mono (j := (3002 + 4 * q) + 4) (by omega))
          have Hd5 := Lib.hid (Hd4.out.trans hd5)
          clear hc5 hd5
          cases o2
          · have qQ0 := Q.out.cell 0
            have qQ1 := Q.out.cell 1
            have qQ2 := Q.out.cell 2
            have qQ3 := Q.out.cell 3
            have qQ4 := Q.out.cell 4
            have qQ5 := Q.out.cell 5
            have qQ6 := Q.out.cell 6
            simp at qQ0 qQ1 qQ2 qQ3 qQ4 qQ5 qQ6
            have qQl := Q.out.lt
            obtain ⟨xs9, ho9, ha9⟩ := H2.out.ex
            go_wp2_with (at_builtin; refine wpList_append_at rfl _ _ 63 rfl w2.heap.size 107 i0 (.agg #[.int .i64 0, .int .i64 0, .int .i64 0, .int .i64 0, .int .i64 0, .int .i64 0, .int .i64 0]) 7 56 Try.underlying63 hi hz0 hz1 hz2 rfl (by decide) _ _ _ rfl (ho9.alloc _) (some ⟨w5.heap.size, 0, none⟩) 1 1 [.int .i64 u0, .int .i64 u1, .int .i64 u2, .int .i64 u3, .int .i64 u4, .int .i64 u5, .int .i64 u6] rfl rfl (fun h => by cases h) ?d1_1 ?d1_2 ?d1_3 ?d1_4 ?d1_5 ?_)
            case d1_1 =>
              intro a9 ha9 j u hj
              injection ha9 with ha9; subst ha9
              match j, hj with
              | 0, hj => simp at hj; subst hj; exact (Blk.new w5 _ _).cell 0
              | 1, hj => simp at hj; subst hj; exact (Blk.new w5 _ _).cell 1
              | 2, hj => simp at hj; subst hj; exact (Blk.new w5 _ _).cell 2
              | 3, hj => simp at hj; subst hj; exact (Blk.new w5 _ _).cell 3
              | 4, hj => simp at hj; subst hj; exact (Blk.new w5 _ _).cell 4
              | 5, hj => simp at hj; subst hj; exact (Blk.new w5 _ _).cell 5
              | 6, hj => simp at hj; subst hj; exact (Blk.new w5 _ _).cell 6
            case d1_2 => intro u hu; simp at hu; rcases hu with rfl | rfl | rfl | rfl | rfl | rfl | rfl <;> rfl
            case d1_3 => unfold maxLen; omega
            case d1_4 => omega
            case d1_5 => have := Sr.out; have := HsB.out; have := SB.out; have := S4.out; have := S5.out; simp; omega
            intro v6 w6 hown6 hgrow6 hwh6
            clear qQ0 qQ1 qQ2 qQ3 qQ4 qQ5 qQ6 qQl
            have S6 := Lib.hid (show w5.heap.size + 1 ≤ w6.heap.size by have h9 := hgrow6.size; (try simp only [World.size_alloc] at h9); omega)
            have gr6 := World.ownsRow.lt ho9
            have gl6 := IR.lt H1.out
            have Hc6 := Lib.hid ((Hc5.out.alloc _).grown hgrow6 (fun r hr => by have := (gr6 r hr).1; have := Sr.out; have := HsB.out; have := SB.out; have := S4.out; have := S5.out; omega))
            have Hd6 := Lib.hid ((Hd5.out.alloc _).grown hgrow6 (fun r hr => by have := (gr6 r hr).1; have := Sr.out; have := HsB.out; have := SB.out; have := S4.out; have := S5.out; omega))
            have KH1 := Lib.hid (IR.kept (H1.out.alloc _) hgrow6 (own_apart (fun k h1 h2 => Hap.out k h1 h2)))
            have KHV := Lib.hid (IR.kept (HV.out.alloc _) hgrow6 (own_apart (fun k h1 h2 => by have g1 := GV2.out k h1; have g2 := gr6 k h2; omega)))
            have KQ := Lib.hid (show Blk w6 (wr.heap.size) 107 #[.int .i64 u0, .int .i64 u1, .int .i64 u2, .int .i64 u3, .int .i64 u4, .int .i64 u5, .int .i64 u6] from (hgrow6.block _ (Q.out.alloc _).lt (fun e => by have g2 := GH2.out _ e.symm; have := Sr.out; have := HsB.out; have := SB.out; have := S4.out; have := S5.out; omega)).trans (Q.out.alloc _))
            have KAp := Lib.hid (show ∀ k, _ = some k → v6.ownBlock = some k → False from fun k h1 h2 => by rcases hwh6 with e | e; exact Hap.out k h1 (e.symm.trans h2); have g2 := (gl6 k h1).2; rw [h2] at e; injection e with e; (try simp only [World.size_alloc] at e); omega)
            have KN := Lib.hid (show IR w6 w2.heap.size 107 7 v6 (n2 + 1) from ⟨_, hown6, ha9.app (allI7 _ _ _ _ _ _ _)⟩)
            clear hown6 hgrow6 hwh6 gr6 gl6 ho9 ha9
            have H2 := KN; have H1 := KH1; have HV := KHV; have Q := KQ; have Hap := KAp; clear KN KH1 KHV KQ KAp
            go_wp2
            go_roundw
            case rel => exact ⟨q + 1, n1, n2 + 1, by omega, by go_num, by omega, by omega, H1, H2, Hap, HV, Lib.hid (Hc6.out.mono (by omega)), Hd6, Lib.hid (by have := Sr.out; have := HsB.out; have := SB.out; have := S4.out; have := S5.out; have := S6.out; omega)⟩
            case measure => simp [intOf]; omega
          · go_wp2
            go_roundw
            case rel => exact ⟨q + 1, n1, n2, by omega, by go_num, by omega, by omega, H1, H2, Hap, HV, Lib.hid (Hc5.out.mono (by omega)), Hd5, Lib.hid (by have := Sr.out; have := HsB.out; have := SB.out; have := S4.out; have := S5.out; omega)⟩
            case measure => simp [intOf]; omega
        · have qQ0 := Q.out.cell 0
          have qQ1 := Q.out.cell 1
          have qQ2 := Q.out.cell 2
          have qQ3 := Q.out.cell 3
          have qQ4 := Q.out.cell 4
          have qQ5 := Q.out.cell 5
          have qQ6 := Q.out.cell 6
          simp at qQ0 qQ1 qQ2 qQ3 qQ4 qQ5 qQ6
          have qQl := Q.out.lt
          obtain ⟨xs9, ho9, ha9⟩ := H1.out.ex
          go_wp2_with (at_builtin; refine wpList_append_at rfl _ _ 63 rfl w2.heap.size 107 i0 (.agg #[.int .i64 0, .int .i64 0, .int .i64 0, .int .i64 0, .int .i64 0, .int .i64 0, .int .i64 0]) 7 56 Try.underlying63 hi hz0 hz1 hz2 rfl (by decide) _ _ _ rfl (ho9.alloc _) (some ⟨w4.heap.size, 0, none⟩) 1 1 [.int .i64 u0, .int .i64 u1, .int .i64 u2, .int .i64 u3, .int .i64 u4, .int .i64 u5, .int .i64 u6] rfl rfl (fun h => by cases h) ?d2_1 ?d2_2 ?d2_3 ?d2_4 ?d2_5 ?_)
          case d2_1 =>
            intro a9 ha9 j u hj
            injection ha9 with ha9; subst ha9
            match j, hj with
            | 0, hj => simp at hj; subst hj; exact (Blk.new w4 _ _).cell 0
            | 1, hj => simp at hj; subst hj; exact (Blk.new w4 _ _).cell 1
            | 2, hj => simp at hj; subst hj; exact (Blk.new w4 _ _).cell 2
            | 3, hj => simp at hj; subst hj; exact (Blk.new w4 _ _).cell 3
            | 4, hj => simp at hj; subst hj; exact (Blk.new w4 _ _).cell 4
            | 5, hj => simp at hj; subst hj; exact (Blk.new w4 _ _).cell 5
            | 6, hj => simp at hj; subst hj; exact (Blk.new w4 _ _).cell 6
          case d2_2 => intro u hu; simp at hu; rcases hu with rfl | rfl | rfl | rfl | rfl | rfl | rfl <;> rfl
          case d2_3 => unfold maxLen; omega
          case d2_4 => omega
          case d2_5 => have := Sr.out; have := HsB.out; have := SB.out; have := S4.out; simp; omega
          intro v7 w7 hown7 hgrow7 hwh7
          clear qQ0 qQ1 qQ2 qQ3 qQ4 qQ5 qQ6 qQl
          have S7 := Lib.hid (show w4.heap.size + 1 ≤ w7.heap.size by have h9 := hgrow7.size; (try simp only [World.size_alloc] at h9); omega)
          have gr7 := World.ownsRow.lt ho9
          have gl7 := IR.lt H2.out
          have Hc7 := Lib.hid ((Hc4.out.alloc _).grown hgrow7 (fun r hr => by have := (gr7 r hr).1; have := Sr.out; have := HsB.out; have := SB.out; have := S4.out; omega))
          have Hd7 := Lib.hid ((Hd4.out.alloc _).grown hgrow7 (fun r hr => by have := (gr7 r hr).1; have := Sr.out; have := HsB.out; have := SB.out; have := S4.out; omega))
          have KH2 := Lib.hid (IR.kept (H2.out.alloc _) hgrow7 (own_apart (fun k h1 h2 => Hap.out k h2 h1)))
          have KHV := Lib.hid (IR.kept (HV.out.alloc _) hgrow7 (own_apart (fun k h1 h2 => by have g1 := GV2.out k h1; have g2 := gr7 k h2; omega)))
          have KQ := Lib.hid (show Blk w7 (wr.heap.size) 107 #[.int .i64 u0, .int .i64 u1, .int .i64 u2, .int .i64 u3, .int .i64 u4, .int .i64 u5, .int .i64 u6] from (hgrow7.block _ (Q.out.alloc _).lt (fun e => by have g2 := GH1.out _ e.symm; have := Sr.out; have := HsB.out; have := SB.out; have := S4.out; omega)).trans (Q.out.alloc _))
          have KAp := Lib.hid (show ∀ k, v7.ownBlock = some k → _ = some k → False from fun k h1 h2 => by rcases hwh7 with e | e; exact Hap.out k (e.symm.trans h1) h2; have g2 := (gl7 k h2).2; rw [h1] at e; injection e with e; (try simp only [World.size_alloc] at e); omega)
          have KN := Lib.hid (show IR w7 w2.heap.size 107 7 v7 (n1 + 1) from ⟨_, hown7, ha9.app (allI7 _ _ _ _ _ _ _)⟩)
          clear hown7 hgrow7 hwh7 gr7 gl7 ho9 ha9
          have H1 := KN; have H2 := KH2; have HV := KHV; have Q := KQ; have Hap := KAp; clear KN KH2 KHV KQ KAp
          go_wp2_with fail
          refine (one_any w.heap.size ((3002 + 4 * q) + 2) (3) _ Hc7.out (by omega)).mono ?_; rintro e w8 ⟨⟨o2, rfl⟩, hc8, hd8⟩
          have S8 := Lib.hid (show w7.heap.size + 0 ≤ w8.heap.size by have h9 := hd8.size; (try simp only [World.size_alloc, World.size_setCell] at h9); omega)
          have NQ := Lib.hid (Q.out.dg hd8 (show wr.heap.size ≠ w.heap.size by have := Hgl.out; have := Sr.out; have := HsB.out; have := SB.out; have := S4.out; have := S7.out; have := S8.out; omega))
          have Q := NQ; clear NQ
          have H1 := Lib.hid (H1.out.dg hd8 (show w.heap.size < w2.heap.size by have := Hgl.out; have := Sr.out; have := HsB.out; have := SB.out; have := S4.out; have := S7.out; have := S8.out; omega))
          have H2 := Lib.hid (H2.out.dg hd8 (show w.heap.size < w2.heap.size by have := Hgl.out; have := Sr.out; have := HsB.out; have := SB.out; have := S4.out; have := S7.out; have := S8.out; omega))
          have HV := Lib.hid (HV.out.dg hd8 (show w.heap.size < (w.heap.size + 1) by have := Hgl.out; have := Sr.out; have := HsB.out; have := SB.out; have := S4.out; have := S7.out; have := S8.out; omega))
          have Hc8 := Lib.hid (hc8.mono (j := (3002 + 4 * q) + 4) (by omega))
          have Hd8 := Lib.hid (Hd7.out.trans hd8)
          clear hc8 hd8
          cases o2
          · have qQ0 := Q.out.cell 0
            have qQ1 := Q.out.cell 1
            have qQ2 := Q.out.cell 2
            have qQ3 := Q.out.cell 3
            have qQ4 := Q.out.cell 4
            have qQ5 := Q.out.cell 5
            have qQ6 := Q.out.cell 6
            simp at qQ0 qQ1 qQ2 qQ3 qQ4 qQ5 qQ6
            have qQl := Q.out.lt
            obtain ⟨xs9, ho9, ha9⟩ := H2.out.ex
            go_wp2_with (at_builtin; refine wpList_append_at rfl _ _ 63 rfl w2.heap.size 107 i0 (.agg #[.int .i64 0, .int .i64 0, .int .i64 0, .int .i64 0, .int .i64 0, .int .i64 0, .int .i64 0]) 7 56 Try.underlying63 hi hz0 hz1 hz2 rfl (by decide) _ _ _ rfl (ho9.alloc _) (some ⟨w8.heap.size, 0, none⟩) 1 1 [.int .i64 u0, .int .i64 u1, .int .i64 u2, .int .i64 u3, .int .i64 u4, .int .i64 u5, .int .i64 u6] rfl rfl (fun h => by cases h) ?d3_1 ?d3_2 ?d3_3 ?d3_4 ?d3_5 ?_)
            case d3_1 =>
              intro a9 ha9 j u hj
              injection ha9 with ha9; subst ha9
              match j, hj with
              | 0, hj => simp at hj; subst hj; exact (Blk.new w8 _ _).cell 0
              | 1, hj => simp at hj; subst hj; exact (Blk.new w8 _ _).cell 1
              | 2, hj => simp at hj; subst hj; exact (Blk.new w8 _ _).cell 2
              | 3, hj => simp at hj; subst hj; exact (Blk.new w8 _ _).cell 3
              | 4, hj => simp at hj; subst hj; exact (Blk.new w8 _ _).cell 4
              | 5, hj => simp at hj; subst hj; exact (Blk.new w8 _ _).cell 5
              | 6, hj => simp at hj; subst hj; exact (Blk.new w8 _ _).cell 6
            case d3_2 => intro u hu; simp at hu; rcases hu with rfl | rfl | rfl | rfl | rfl | rfl | rfl <;> rfl
            case d3_3 => unfold maxLen; omega
            case d3_4 => omega
            case d3_5 => have := Sr.out; have := HsB.out; have := SB.out; have := S4.out; have := S7.out; have := S8.out; simp; omega
            intro v9 w9 hown9 hgrow9 hwh9
            clear qQ0 qQ1 qQ2 qQ3 qQ4 qQ5 qQ6 qQl
            have S9 := Lib.hid (show w8.heap.size + 1 ≤ w9.heap.size by have h9 := hgrow9.size; (try simp only [World.size_alloc] at h9); omega)
            have gr9 := World.ownsRow.lt ho9
            have gl9 := IR.lt H1.out
            have Hc9 := Lib.hid ((Hc8.out.alloc _).grown hgrow9 (fun r hr => by have := (gr9 r hr).1; have := Sr.out; have := HsB.out; have := SB.out; have := S4.out; have := S7.out; have := S8.out; omega))
            have Hd9 := Lib.hid ((Hd8.out.alloc _).grown hgrow9 (fun r hr => by have := (gr9 r hr).1; have := Sr.out; have := HsB.out; have := SB.out; have := S4.out; have := S7.out; have := S8.out; omega))
            have KH1 := Lib.hid (IR.kept (H1.out.alloc _) hgrow9 (own_apart (fun k h1 h2 => Hap.out k h1 h2)))
            have KHV := Lib.hid (IR.kept (HV.out.alloc _) hgrow9 (own_apart (fun k h1 h2 => by have g1 := GV2.out k h1; have g2 := gr9 k h2; omega)))
            have KQ := Lib.hid (show Blk w9 (wr.heap.size) 107 #[.int .i64 u0, .int .i64 u1, .int .i64 u2, .int .i64 u3, .int .i64 u4, .int .i64 u5, .int .i64 u6] from (hgrow9.block _ (Q.out.alloc _).lt (fun e => by have g2 := GH2.out _ e.symm; have := Sr.out; have := HsB.out; have := SB.out; have := S4.out; have := S7.out; have := S8.out; omega)).trans (Q.out.alloc _))
            have KAp := Lib.hid (show ∀ k, _ = some k → v9.ownBlock = some k → False from fun k h1 h2 => by rcases hwh9 with e | e; exact Hap.out k h1 (e.symm.trans h2); have g2 := (gl9 k h1).2; rw [h2] at e; injection e with e; (try simp only [World.size_alloc] at e); omega)
            have KN := Lib.hid (show IR w9 w2.heap.size 107 7 v9 (n2 + 1) from ⟨_, hown9, ha9.app (allI7 _ _ _ _ _ _ _)⟩)
            clear hown9 hgrow9 hwh9 gr9 gl9 ho9 ha9
            have H2 := KN; have H1 := KH1; have HV := KHV; have Q := KQ; have Hap := KAp; clear KN KH1 KHV KQ KAp
            go_wp2
            go_roundw
            case rel => exact ⟨q + 1, n1 + 1, n2 + 1, by omega, by go_num, by omega, by omega, H1, H2, Hap, HV, Lib.hid (Hc9.out.mono (by omega)), Hd9, Lib.hid (by have := Sr.out; have := HsB.out; have := SB.out; have := S4.out; have := S7.out; have := S8.out; have := S9.out; omega)⟩
            case measure => simp [intOf]; omega
          · go_wp2
            go_roundw
            case rel => exact ⟨q + 1, n1 + 1, n2, by omega, by go_num, by omega, by omega, H1, H2, Hap, HV, Lib.hid (Hc8.out.mono (by omega)), Hd8, Lib.hid (by have := Sr.out; have := HsB.out; have := SB.out; have := S4.out; have := S7.out; have := S8.out; omega)⟩
            case measure => simp [intOf]; omega
      · have hq2 : m = q := by omega
        subst hq2
        by_cases h10 : 0 < n1
        · obtain ⟨gb, cb, hfl, hgb1, hgb2, hmcb, hcmb⟩ := H1.out.pos h10
          injection hfl with hf1 hf2 hf3; subst hf1; subst hf3; clear hf2
          have h1i : (0 : Int) < (n1 : Int) := by omega
          go_wp2_with fail
          refine (one_any w.heap.size (3002 + 4 * m) (6) _ Hcr.out (by omega)).mono ?_; rintro e w10 ⟨⟨o3, rfl⟩, hc10, hd10⟩
          have S10 := Lib.hid (show wr.heap.size + 0 ≤ w10.heap.size by have h9 := hd10.size; (try simp only [World.size_alloc, World.size_setCell] at h9); omega)
          have H1 := Lib.hid (H1.out.dg hd10 (show w.heap.size < w2.heap.size by have := Hgl.out; have := Sr.out; have := HsB.out; have := SB.out; have := S10.out; omega))
          have H2 := Lib.hid (H2.out.dg hd10 (show w.heap.size < w2.heap.size by have := Hgl.out; have := Sr.out; have := HsB.out; have := SB.out; have := S10.out; omega))
          have HV := Lib.hid (HV.out.dg hd10 (show w.heap.size < (w.heap.size + 1) by have := Hgl.out; have := Sr.out; have := HsB.out; have := SB.out; have := S10.out; omega))
          have Hc10 := Lib.hid (hc10.mono (j := (3002 + 4 * m) + 2) (by omega))
          have Hd10 := Lib.hid (Hdr.out.trans hd10)
          clear hc10 hd10
          cases o3
          · go_wp2
            go_ret2
            exact ⟨⟨.slice A2 n2 c2, n2, .slice (some ⟨gb, 0, none⟩) n1 c1, n1, by omega, by omega, rfl, H2.out.mono (by have := Sr.out; have := HsB.out; have := SB.out; have := S10.out; omega), H1.out.mono (by have := Sr.out; have := HsB.out; have := SB.out; have := S10.out; omega)⟩, Hd10.out.below (by have := Sr.out; have := HsB.out; have := SB.out; have := S10.out; omega) (Nat.le_refl _)⟩
          · go_wp2_with fail
            refine (entry_any w.heap.size ((3002 + 4 * m) + 2) _ Hc10.out (by omega)).mono ?_; rintro e w11 ⟨⟨a, b, lo, hi9, t, b1, b2, b3, b4, rfl⟩, hc11, hd11⟩
            have S11 := Lib.hid (show w10.heap.size + 0 ≤ w11.heap.size by have h9 := hd11.size; (try simp only [World.size_alloc, World.size_setCell] at h9); omega)
            have H1 := Lib.hid (H1.out.dg hd11 (show w.heap.size < w2.heap.size by have := Hgl.out; have := Sr.out; have := HsB.out; have := SB.out; have := S10.out; have := S11.out; omega))
            have H2 := Lib.hid (H2.out.dg hd11 (show w.heap.size < w2.heap.size by have := Hgl.out; have := Sr.out; have := HsB.out; have := SB.out; have := S10.out; have := S11.out; omega))
            have HV := Lib.hid (HV.out.dg hd11 (show w.heap.size < (w.heap.size + 1) by have := Hgl.out; have := Sr.out; have := HsB.out; have := SB.out; have := S10.out; have := S11.out; omega))
            have Hc11 := Lib.hid (hc11.mono (j := (3002 + 4 * m) + 16) (by omega))
            have Hd11 := Lib.hid (Hd10.out.trans hd11)
            clear hc11 hd11
            obtain ⟨u2, hu2⟩ := H1.out.cell (j := 2) (by omega)
            obtain ⟨u3, hu3⟩ := H1.out.cell (j := 3) (by omega)
            obtain ⟨u4, hu4⟩ := H1.out.cell (j := 4) (by omega)
            obtain ⟨u5, hu5⟩ := H1.out.cell (j := 5) (by omega)
            obtain ⟨u6, hu6⟩ := H1.out.cell (j := 6) (by omega)
            have hfz := H1.out.frozen
            have hll := (H1.out.lt gb rfl).2
            go_wp2
            go_ret2
            exact ⟨⟨.slice A2 n2 c2, n2, .slice (some ⟨gb, 0, none⟩) n1 c1, n1, by omega, by omega, rfl, (((((H2.out.st (p := ⟨gb, 2, none⟩) (fun k9 hk9 e9 => Hap.out gb rfl (by rw [hk9]; exact congrArg some e9)) (.int .i64 a)).st (p := ⟨gb, 3, none⟩) (fun k9 hk9 e9 => Hap.out gb rfl (by rw [hk9]; exact congrArg some e9)) (.int .i64 b)).st (p := ⟨gb, 4, none⟩) (fun k9 hk9 e9 => Hap.out gb rfl (by rw [hk9]; exact congrArg some e9)) (.int .i64 lo)).st (p := ⟨gb, 5, none⟩) (fun k9 hk9 e9 => Hap.out gb rfl (by rw [hk9]; exact congrArg some e9)) (.int .i64 hi9)).st (p := ⟨gb, 6, none⟩) (fun k9 hk9 e9 => Hap.out gb rfl (by rw [hk9]; exact congrArg some e9)) (.int .i64 t)).mono (by have := Sr.out; have := HsB.out; have := SB.out; have := S10.out; have := S11.out; omega), (((((H1.out.set 2 a).set 3 b).set 4 lo).set 5 hi9).set 6 t).mono (by have := Sr.out; have := HsB.out; have := SB.out; have := S10.out; have := S11.out; omega)⟩, (((((Hd11.out.st (p := ⟨gb, 2, none⟩) (show w.heap.size ≤ gb by have := Hgl.out; have := hgb1; have := Sr.out; have := HsB.out; have := SB.out; have := S10.out; have := S11.out; omega) (.int .i64 a)).st (p := ⟨gb, 3, none⟩) (show w.heap.size ≤ gb by have := Hgl.out; have := hgb1; have := Sr.out; have := HsB.out; have := SB.out; have := S10.out; have := S11.out; omega) (.int .i64 b)).st (p := ⟨gb, 4, none⟩) (show w.heap.size ≤ gb by have := Hgl.out; have := hgb1; have := Sr.out; have := HsB.out; have := SB.out; have := S10.out; have := S11.out; omega) (.int .i64 lo)).st (p := ⟨gb, 5, none⟩) (show w.heap.size ≤ gb by have := Hgl.out; have := hgb1; have := Sr.out; have := HsB.out; have := SB.out; have := S10.out; have := S11.out; omega) (.int .i64 hi9)).st (p := ⟨gb, 6, none⟩) (show w.heap.size ≤ gb by have := Hgl.out; have := hgb1; have := Sr.out; have := HsB.out; have := SB.out; have := S10.out; have := S11.out; omega) (.int .i64 t)).below (by have := Sr.out; have := HsB.out; have := SB.out; have := S10.out; have := S11.out; omega) (Nat.le_refl _)⟩
        · have h1i : ¬ (0 : Int) < (n1 : Int) := by omega
          go_wp2
          go_ret2
          exact ⟨⟨.slice A2 n2 c2, n2, .slice A1 n1 c1, n1, by omega, by omega, rfl, H2.out.mono (by have := Sr.out; have := HsB.out; have := SB.out; omega), H1.out.mono (by have := Sr.out; have := HsB.out; have := SB.out; omega)⟩, Hdr.out.below (by have := Sr.out; have := HsB.out; have := SB.out; omega) (Nat.le_refl _)⟩
end Go.Proofs.Ytnphipfdpkgbaaa
