/- The program's JoinRanges: are lists some of others; up to where all is done. Conditions: none. Printed by gen_jn.py. -/
import Derived.Test.YticbmpjdcanjkaaJnE
import Derived.Test.YticbmpjdcanjkaaSet6
namespace Go.Proofs.Yticbmpjdcanjkaa
open Go Go.RowKit

theorem nrd_form {w : World} {hi : Nat} {v : Value} {ess : List (List Int)} (h : NRd w hi v ess) : ∃ A c, v = .slice A ess.length c ∧ ess.length ≤ c ∧ c ≤ maxLen := by
  obtain ⟨vs, hvl, hv, hvi⟩ := h
  obtain ⟨A', c', he, hcc, hm, hA⟩ := hv
  exact ⟨A', c', by rw [he, hvl], by omega, hm⟩
theorem nrd_cell {w : World} {hi : Nat} {A : Option Addr} {n c : Nat} {ess : List (List Int)} (h : NRd w hi (.slice A n c) ess) (h0 : 0 < ess.length) :
    ∃ (vs : List Value) (g off : Nat), A = some ⟨g, off, none⟩ ∧ g < hi ∧ (∀ k, k < ess.length → w.cell? ⟨g, off + k, none⟩ = some (vat vs k)) ∧ ∀ k, k < ess.length → Rd inS w hi (vat vs k) (cat' ess k) := by
  obtain ⟨vs, hvl, hv, hvi⟩ := h
  obtain ⟨A', c', he, hcc, hm, hA⟩ := hv
  injection he with e1 e2 e3
  subst e1
  rw [hvl] at hA
  obtain ⟨g, off, hA', hg, hcell⟩ := hA h0
  exact ⟨vs, g, off, hA', hg, fun k hk => sl_cells hcell k hk, hvi⟩
theorem smB_no {R A : List LI} {i : Nat} (hi : i < R.length) (h : cat' R i ∉ A ∨ cat' R i ∈ R.take i) : smB R A = false := by
  cases hs : smB R A with
  | false => rfl
  | true =>
    rw [smB_iff] at hs
    obtain ⟨h1, h2⟩ := hs i hi
    rcases h with h | h
    · exact absurd h1 h
    · exact absurd h h2
theorem smB_yes {R A : List LI} (h : ∀ i, i < R.length → cat' R i ∈ A ∧ cat' R i ∉ R.take i) : smB R A = true := (smB_iff R A).2 h
set_option maxRecDepth 8000 in
set_option maxHeartbeats 4000000 in
theorem areSome_any (u v : Value) (R L : List (List Int)) (w : World) (hu : NRd w w.heap.size u R) (hv : NRd w w.heap.size v L) :
    Calls Try.prog 25 #[u, v] w fun e w' => e = .returned (.bool (smB R L)) ∧ Below w.heap.size w w' := by
  obtain ⟨A, c, rfl, hc, hm⟩ := nrd_form hu
  unfold maxLen at hm
  have Hu := Lib.hid hu; have Hv := Lib.hid hv; clear hu hv
  rcases Nat.eq_zero_or_pos R.length with h0 | h0
  · obtain rfl : R = [] := List.eq_nil_of_length_eq_zero h0
    go_enter Try.func25, Try.ntmps25
    go_wp2
    refine wp_loop_rounds 1 ?_
    rw [rounds_succ]
    go_wp2
    go_ret
    exact ⟨rfl, Below.refl _ _⟩
  · obtain ⟨us, g, off, rfl, hg, hcell, hrow⟩ := nrd_cell Hu.out h0
    have Hcell := Lib.hid hcell; have Hrow := Lib.hid hrow; clear hcell hrow
    go_enter Try.func25, Try.ntmps25
    go_wp2
    go_loopw [10] (fun i wr => ∃ k : Nat, k ≤ R.length ∧ i = .int .i64 k ∧ Hid (∀ i, i < k → cat' R i ∈ L ∧ cat' R i ∉ R.take i) ∧ Below w.heap.size w wr) (fun i _ => R.length - (intOf i).toNat)
    case atStart => exact ⟨0, Nat.zero_le _, rfl, Lib.hid (fun i h => absurd h (by omega)), Below.refl _ _⟩
    case round =>
      obtain ⟨k, hk, rfl, Hok, hb⟩ := hrel
      by_cases hlt : k < R.length
      · have f0 := Hcell.out k hlt
        rw [← hb.cell (p := ⟨_, _, _⟩) hg] at f0
        have hgr : g < wr.heap.size := Nat.lt_of_lt_of_le hg hb.size
        have Hr := Lib.hid ((Hrow.out k hlt).on hb)
        generalize vat us k = x at f0 Hr
        obtain ⟨A1, c1, rfl, -⟩ := rd_form2 Hr.out
        have hi0 : (0 : Int) ≤ (k : Int) := by omega
        have hi1 : (k : Int) < (R.length : Int) := by omega
        have hi2 : (k : Int) ≤ (c : Int) := by omega
        have hbA := bal (Below.refl wr.heap.size wr) (Obj.cells #[.slice A1 (cat' R k).length c1] 44)
        have HN := Lib.hid (Blk.new wr 44 #[.slice A1 (cat' R k).length c1])
        have Hr1 := Lib.hid (Hr.out.on hbA)
        have Hv1 := Lib.hid ((Hv.out.on hb).on hbA)
        have Hu1 := Lib.hid (((Hu.out.on hb).on hbA).take (i := k) (by omega))
        have Hb1 := Lib.hid (bthen hb hbA); clear hbA
        have Hone := Lib.hid (show IsOne 49 wr.heap.size (cat' R k) (wr.alloc (Obj.cells #[.slice A1 (cat' R k).length c1] 44)) from fun W u es hW hu => areSome1_any _ u _ es _ W ((HN.out.on hW).cell 0) hu (Hr1.out.on hW))
        have Hno := Lib.hid (fun h => smB_no (A := L) hlt h)
        have Hnx := Lib.hid (fun h1 h2 => all_lt_succ Hok.out (⟨h1, h2⟩ : cat' R k ∈ L ∧ cat' R k ∉ R.take k))
        generalize cat' R k = r at f0 Hr1 Hone Hno Hnx Hr Hv1 Hu1 Hb1
        go_wp2_with fail
        refine (containsII _ enAS _ r _ L _ Hv1.out Hone.out).mono ?_; rintro e w2 ⟨rfl, hb2⟩
        clear f0
        by_cases h1 : r ∈ L
        · rw [decide_eq_true h1]
          have Hu2 := Lib.hid (Hu1.out.on hb2)
          have Hone2 := Lib.hid (show IsOne 49 wr.heap.size r w2 from fun W u es hW hu => Hone.out W u es (bthen hb2 hW) hu)
          have Hb2 := Lib.hid (bthen Hb1.out hb2); clear hb2
          have Hh1 := Lib.hid h1; clear h1
          go_wp2_with fail
          refine (containsII _ enAS _ r _ (R.take k) _ Hu2.out Hone2.out).mono ?_; rintro e w3 ⟨rfl, hb3⟩
          have Hb3 := Lib.hid (bthen Hb2.out hb3); clear hb3
          by_cases h2 : r ∈ R.take k
          · rw [decide_eq_true h2]
            have HF := Lib.hid (Hno.out (Or.inr h2))
            clear h2
            go_wp2
            go_ret
            exact ⟨ret_bool HF.out.symm, Hb3.out⟩
          · rw [decide_eq_false h2]
            have HT := Lib.hid (Hnx.out Hh1.out h2)
            clear h2
            go_wp2
            go_roundw
            case rel => exact ⟨k + 1, by omega, by go_num, HT, Hb3.out⟩
            case measure => simp [intOf]; omega
        · rw [decide_eq_false h1]
          have HF := Lib.hid (Hno.out (Or.inl h1))
          have Hb2 := Lib.hid (bthen Hb1.out hb2)
          clear h1
          go_wp2
          go_ret
          exact ⟨ret_bool HF.out.symm, Hb2.out⟩
      · obtain rfl : k = R.length := by omega
        have HT := Lib.hid (smB_yes (A := L) Hok.out)
        go_wp2
        go_ret
        exact ⟨ret_bool HT.out.symm, hb⟩
set_option linter.unusedSimpArgs false in
set_option maxRecDepth 20000 in
set_option maxHeartbeats 8000000 in
theorem implJoinR_any (a b m d t : Int) (v u : Value) (fs : List Pt) (R : List (List Int)) (w : World) (hv : Rd ptS w w.heap.size v fs) (hu : NRd w w.heap.size u R) :
    Calls Try.prog 9 #[.agg #[.int .i64 a, .int .i64 b, .int .i64 m, .int .i64 d, .int .i64 t, v], u] w fun r w' => TkRet (joinV a b m d t fs R) w.heap.size r w' ∧ Below w.heap.size w w' := by
  have Hb := Lib.hid ((Blk.new w 33 #[.int .i64 a, .int .i64 b, .int .i64 m, .int .i64 d, .int .i64 t, v]).alloc (Obj.cells #[.int .i64 0, .int .i64 0, .int .i64 0, .int .i64 0, .int .i64 0, .slice none 0 0] 33))
  have HR := Lib.hid (Blk.new1 w (Obj.cells #[.int .i64 a, .int .i64 b, .int .i64 m, .int .i64 d, .int .i64 t, v] 33) 33 #[.int .i64 0, .int .i64 0, .int .i64 0, .int .i64 0, .int .i64 0, .slice none 0 0])
  have hb0 := bal (bal (Below.refl w.heap.size w) (Obj.cells #[.int .i64 a, .int .i64 b, .int .i64 m, .int .i64 d, .int .i64 t, v] 33)) (Obj.cells #[.int .i64 0, .int .i64 0, .int .i64 0, .int .i64 0, .int .i64 0, .slice none 0 0] 33)
  have Hrd := Lib.hid (hv.on hb0)
  have Hu := Lib.hid (hu.on hb0)
  have HbA := Lib.hid hb0; clear hb0 hv
  have Hsp := Lib.hid (tkG_spec (a := a) (b := b) (m := m) (d := d) (t := t) (fs := fs))
  obtain ⟨Au, cu, rfl, hcu, hmu⟩ := nrd_form hu
  clear hu hcu hmu
  go_enter Try.func9, Try.ntmps9
  go_wp2_with fail
  refine (isTask_any _ a b m d t v fs _ Hb.out Hrd.out).mono ?_; rintro r w1 ⟨rfl, hb1⟩
  have HB1 := Lib.hid (Hb.out.on hb1); have HR1 := Lib.hid (HR.out.on hb1); have Hu1 := Lib.hid (Hu.out.on hb1); have Hb1 := Lib.hid (bthen HbA.out hb1); clear hb1
  cases hk : tkG a b m d t fs
  · have HN := Lib.hid (joinV_bad (R := R) hk)
    clear hk
    have r0 := HR1.out.cell 0
    have r1 := HR1.out.cell 1
    have r2 := HR1.out.cell 2
    have r3 := HR1.out.cell 3
    have r4 := HR1.out.cell 4
    have r5 := HR1.out.cell 5
    simp at r0 r1 r2 r3 r4 r5
    have rl := HR1.out.lt
    have rf := HR1.out.frozen
    go_wp2
    clear r0 r1 r2 r3 r4 r5 rf
    have HR6 := HR1.out.set6 (b0 := .int .i64 0) (b1 := .int .i64 0) (b2 := .int .i64 0) (b3 := .int .i64 0) (b4 := .int .i64 0) (b5 := .slice none 0 0)
    have k0 := HR6.cell 0
    have k1 := HR6.cell 1
    have k2 := HR6.cell 2
    have k3 := HR6.cell 3
    have k4 := HR6.cell 4
    have k5 := HR6.cell 5
    simp at k0 k1 k2 k3 k4 k5
    exact bodyPost_ret (v := .tuple #[.agg #[.int .i64 0, .int .i64 0, .int .i64 0, .int .i64 0, .int .i64 0, .slice none 0 0], .bool false]) (by simp [results, Try.results9, go_sem, k0, k1, k2, k3, k4, k5]) rfl ⟨TkRet.zero HN.out, bst (bst (bst (bst (bst (bst (Hb1.out) (Nat.le_succ _) _) (Nat.le_succ _) _) (Nat.le_succ _) _) (Nat.le_succ _) _) (Nat.le_succ _) _) (Nat.le_succ _) _⟩
  · have Hs := Lib.hid (Hsp.out hk)
    have Hsm := Lib.hid (fun n h => joinV_some (R := R) (n := n) hk h)
    have Hk := Lib.hid hk; clear hk
    have Hrest : Hid (0 ≤ totI m d - t) := Lib.hid (by have := Hs.out.2.1; omega)
    go_wp2
    go_loopw [6] (fun q wr => ∃ k : Nat, q = .int .i64 ((k : Int) + 1) ∧ k ≤ 8 ∧ Hid (jnF m d t R 8 1 = jnF m d t R (8 - k) ((k : Int) + 1)) ∧ Below w1.heap.size w1 wr) (fun q _ => 10 - (intOf q).toNat)
    case atStart => exact ⟨0, rfl, by omega, Lib.hid rfl, Below.refl _ _⟩
    case round =>
      obtain ⟨k, rfl, hk8, Hj, hb⟩ := hrel
      have HBr := Lib.hid (HB1.out.on hb); have HRr := Lib.hid (HR1.out.on hb); have Hur := Lib.hid (Hu1.out.on hb); have Hbr := Lib.hid (bthen Hb1.out hb)
      by_cases hlt : k < 8
      · have hq1 : (1 : Int) ≤ (k : Int) + 1 ∧ (k : Int) + 1 ≤ 8 := by omega
        have hq2 : (k : Int) + 1 ≤ 8 := hq1.2
        have Hrin := Lib.hid (rangesL_in (m := m) (d := d) (t := t) (w := (k : Int) + 1) Hrest.out hq1.1)
        obtain ⟨f, hf⟩ : ∃ f, 8 - k = f + 1 := ⟨7 - k, by omega⟩
        have Hhit := Lib.hid (fun h => Hj.out.trans (show jnF m d t R (8 - k) ((k : Int) + 1) = some (jAt R (rangesL m d t ((k : Int) + 1)) t) by rw [hf]; exact jnF_hit (m := m) (d := d) (t := t) (R := R) (f := f) (w := (k : Int) + 1) h))
        have Hmiss := Lib.hid (fun h => Hj.out.trans (show jnF m d t R (8 - k) ((k : Int) + 1) = jnF m d t R f ((k : Int) + 1 + 1) by rw [hf]; exact jnF_miss (m := m) (d := d) (t := t) (R := R) (f := f) (w := (k : Int) + 1) h))
        have Hf := Lib.hid hf; clear hf
        have Hrg := Lib.hid (ranges_any w.heap.size a b m d t ((k : Int) + 1) v wr HBr.out Hs.out.1 Hs.out.2.1 hq1)
        have hll := rangesL_len8 (m := m) (d := d) (t := t) (w := (k : Int) + 1) hq2
        generalize rangesL m d t ((k : Int) + 1) = L at Hrg Hrin Hhit Hmiss hll
        have ql := HBr.out.lt
        go_wp2_with fail
        refine Hrg.out.mono ?_; rintro r w2 ⟨⟨v2, vs2, rfl, hn2⟩, hb2⟩
        have Hn2 := Lib.hid (NRd.of_own hn2); clear hn2 ql
        have HB2 := Lib.hid (HBr.out.on hb2); have HR2 := Lib.hid (HRr.out.on hb2); have Hu2 := Lib.hid (Hur.out.on hb2); have Hb2 := Lib.hid (bthen Hbr.out hb2); have Hb12 := Lib.hid (bthen hb hb2); clear hb2
        obtain ⟨A2, c2, rfl, hc2, hm2⟩ := nrd_form Hn2.out
        go_wp2_with fail
        refine (areSome_any _ _ R L _ Hu2.out Hn2.out).mono ?_; rintro r w3 ⟨rfl, hb3⟩
        have HB3 := Lib.hid (HB2.out.on hb3); have HR3 := Lib.hid (HR2.out.on hb3); have Hu3 := Lib.hid (Hu2.out.on hb3); have Hb3 := Lib.hid (bthen Hb2.out hb3); have Hb13 := Lib.hid (bthen Hb12.out hb3); have Hn3 := Lib.hid (Hn2.out.on hb3); clear hb3
        cases hsm : smB R L
        · have Hnx := Lib.hid (Hmiss.out hsm)
          clear hsm
          go_wp2
          go_roundw
          case rel => exact ⟨k + 1, by go_num, by omega, Lib.hid (by rw [Hnx.out, show 8 - (k + 1) = f by have := Hf.out; omega, show ((k + 1 : Nat) : Int) + 1 = (k : Int) + 1 + 1 by omega]), Hb13.out⟩
          case measure => simp [intOf]; omega
        · have HV := Lib.hid (Hsm.out _ (Hhit.out hsm))
          clear hsm
          have Hbd := Lib.hid (fun i => jAt_bd R (at0 := t) (F := totI m d) (L.take i) t (fun r hr => Hrin.out.el r (List.mem_of_mem_take hr)) (Int.le_refl _) Hs.out.2.1.2)
          have Hbda := Lib.hid (jAt_bd R (at0 := t) (F := totI m d) L t Hrin.out.el (Int.le_refl _) Hs.out.2.1.2)
          have Ht0 := Lib.hid Hs.out.2.1.1
          have q4 := HB3.out.cell 4
          have ql := HB3.out.lt
          simp at q4
          have Hcl : Hid (0 < L.length → ∃ (vs : List Value) (g off : Nat), A2 = some ⟨g, off, none⟩ ∧ g < w3.heap.size ∧ (∀ k, k < L.length → w3.cell? ⟨g, off + k, none⟩ = some (vat vs k)) ∧ ∀ k, k < L.length → Rd inS w3 w3.heap.size (vat vs k) (cat' L k)) := Lib.hid (fun h0 => nrd_cell Hn3.out h0)
          go_wp2
          go_loopw [28, 8] (fun i n wr => ∃ j : Nat, j ≤ L.length ∧ i = .int .i64 j ∧ n = .int .i64 (jAt R (L.take j) t) ∧ Hid (opn R L j = true) ∧ Below w3.heap.size w3 wr) (fun i _ _ => L.length - (intOf i).toNat)
          case atStart => exact ⟨0, Nat.zero_le _, rfl, rfl, Lib.hid rfl, Below.refl _ _⟩
          case round =>
            obtain ⟨j, hj, rfl, rfl, Ho, hbj⟩ := hrel
            have HBj := Lib.hid (HB3.out.on hbj); have HRj := Lib.hid (HR3.out.on hbj); have Hbj := Lib.hid (bthen Hb3.out hbj); have Huj := Lib.hid (Hu3.out.on hbj)
            by_cases hjl : j < L.length
            · obtain ⟨vs, g, off, rfl, hg, hcell, hrow⟩ := Hcl.out (by omega)
              have f0 := hcell j hjl
              rw [← hbj.cell (p := ⟨_, _, _⟩) hg] at f0
              have hgr : g < wr.heap.size := Nat.lt_of_lt_of_le hg hbj.size
              have Hrw := Lib.hid ((hrow j hjl).on hbj)
              clear hcell hrow
              generalize vat vs j = x at f0 Hrw
              have hi0 : (0 : Int) ≤ (j : Int) := by omega
              have hi1 : (j : Int) < (L.length : Int) := by omega
              obtain ⟨X, Y, hXY, -, -, -⟩ := Hrin.out.el _ (cat_mem hjl)
              have Hstop := Lib.hid (fun h => jAt_stop (R := R) (t := t) hjl Ho.out h)
              have Hstep := Lib.hid (jAt_step (R := R) (t := t) hjl)
              have Hopn := Lib.hid (opn_step (R := R) hjl)
              rw [hXY] at Hstop Hrw Hstep Hopn
              clear hXY
              obtain ⟨A1, c1, rfl, -⟩ := rd_form2 Hrw.out
              have hbA := bal (Below.refl wr.heap.size wr) (Obj.cells #[.slice A1 [X, Y].length c1] 44)
              have HN := Lib.hid (Blk.new wr 44 #[.slice A1 [X, Y].length c1])
              have Hr1 := Lib.hid (Hrw.out.on hbA)
              have Hu1' := Lib.hid (Huj.out.on hbA)
              have HBa := Lib.hid (HBj.out.on hbA); have HRa := Lib.hid (HRj.out.on hbA); have Hba := Lib.hid (bthen Hbj.out hbA); have Hbja := Lib.hid (bthen hbj hbA); clear hbA
              have Hone := Lib.hid (show IsOne 27 wr.heap.size [X, Y] (wr.alloc (Obj.cells #[.slice A1 [X, Y].length c1] 44)) from fun W u es hW hu => join1_any _ u _ es _ W ((HN.out.on hW).cell 0) hu (Hr1.out.on hW))
              go_wp2_with fail
              refine (containsII _ enJR _ [X, Y] _ R _ Hu1'.out Hone.out).mono ?_; rintro e w5 ⟨rfl, hb5⟩
              clear f0
              have HB5 := Lib.hid (HBa.out.on hb5); have HR5 := Lib.hid (HRa.out.on hb5); have Hb5 := Lib.hid (bthen Hba.out hb5); have Hbj5 := Lib.hid (bthen Hbja.out hb5); have HN5 := Lib.hid (HN.out.on hb5); have Hr5 := Lib.hid (Hr1.out.on hb5); clear hb5
              by_cases hin : [X, Y] ∈ R
              · rw [decide_eq_true hin]
                have Hopn := Lib.hid (show opn R L (j + 1) = true by rw [Hopn.out, decide_eq_true hin, Ho.out]; rfl)
                have Hnext := Lib.hid (show jAt R (L.take (j + 1)) t = Y by rw [Hstep.out, if_pos Hopn.out]; rfl)
                clear hin
                have n0 := HN5.out.cell 0
                have nl := HN5.out.lt
                simp at n0
                obtain ⟨A6, c6, h6, hc6, hm6, hA6⟩ := Hr5.out
                injection h6 with e1 e2 e3
                subst e1; subst e3
                clear e2
                obtain ⟨g6, off6, rfl, hg6, hcell6⟩ := hA6 (by simp)
                have y1 := in_cells hcell6 1 (by simp)
                rw [show inS.get [X, Y] 1 = Y from rfl] at y1
                clear hA6 hcell6
                go_wp2
                go_roundw
                case rel => exact ⟨j + 1, by omega, by go_num, by rw [Hnext.out], Hopn, Hbj5.out⟩
                case measure => simp [intOf]; omega
              · rw [decide_eq_false hin]
                have Hst := Lib.hid (Hstop.out hin)
                clear hin
                have HV2 := Lib.hid (show joinV a b m d t fs R = (a, b, m, d, jAt R (L.take j) t, hitsZ a b m 0 (jAt R (L.take j) t), true) by rw [HV.out, Hst.out])
                have Hbdj := Lib.hid (Hbd.out j)
                generalize jAt R (L.take j) t = n at HV2 Hbdj Hst
                have bl := HB5.out.lt
                go_wp2_with fail
                refine (doneTo_any w.heap.size a b m d t n v _ HB5.out Hs.out.1 (by have h1 := Hbdj.out; have h2 := Ht0.out; omega)).mono ?_; rintro e w9 ⟨⟨v9, rfl, hown9⟩, hb9⟩
                obtain ⟨A9, c9, rfl, -, -, -⟩ := Rd.of_own (S := ptS) hown9 rfl
                have HR9 := Lib.hid (HR5.out.on hb9); have Hb9 := Lib.hid (bthen Hb5.out hb9); have Hrl := Lib.hid HR5.out.lt; have Hown9 := Lib.hid hown9; clear hown9 hb9
                have r0 := HR9.out.cell 0
                have r1 := HR9.out.cell 1
                have r2 := HR9.out.cell 2
                have r3 := HR9.out.cell 3
                have r4 := HR9.out.cell 4
                have r5 := HR9.out.cell 5
                simp at r0 r1 r2 r3 r4 r5
                have rl := HR9.out.lt
                have rf := HR9.out.frozen
                go_wp2
                clear r0 r1 r2 r3 r4 r5 rf
                have HR6 := HR9.out.set6 (b0 := .int .i64 a) (b1 := .int .i64 b) (b2 := .int .i64 m) (b3 := .int .i64 d) (b4 := .int .i64 n) (b5 := .slice A9 (hitsZ a b m 0 n).length c9)
                have k0 := HR6.cell 0
                have k1 := HR6.cell 1
                have k2 := HR6.cell 2
                have k3 := HR6.cell 3
                have k4 := HR6.cell 4
                have k5 := HR6.cell 5
                simp at k0 k1 k2 k3 k4 k5
                exact bodyPost_ret (v := .tuple #[.agg #[.int .i64 a, .int .i64 b, .int .i64 m, .int .i64 d, .int .i64 n, .slice A9 (hitsZ a b m 0 n).length c9], .bool true]) (by simp [results, Try.results9, go_sem, k0, k1, k2, k3, k4, k5]) rfl ⟨TkRet.mk HV2.out (own_far (g := w.heap.size + 1) Hown9.out (by repeat (first | (with_reducible exact grefl _ _) | (with_reducible refine only_cell ?_) | (with_reducible refine only_drew ?_))) Hrl.out) (by have := Hrl.out; omega), bst (bst (bst (bst (bst (bst (Hb9.out) (Nat.le_succ _) _) (Nat.le_succ _) _) (Nat.le_succ _) _) (Nat.le_succ _) _) (Nat.le_succ _) _) (Nat.le_succ _) _⟩
            · obtain rfl : j = L.length := by omega
              have HV2 := Lib.hid (show joinV a b m d t fs R = (a, b, m, d, jAt R (L.take L.length) t, hitsZ a b m 0 (jAt R (L.take L.length) t), true) by rw [HV.out, List.take_length])
              have Hbdj := Lib.hid (Hbd.out L.length)
              generalize jAt R (L.take L.length) t = n at HV2 Hbdj
              have bl := HBj.out.lt
              go_wp2_with fail
              refine (doneTo_any w.heap.size a b m d t n v _ HBj.out Hs.out.1 (by have h1 := Hbdj.out; have h2 := Ht0.out; omega)).mono ?_; rintro e w9 ⟨⟨v9, rfl, hown9⟩, hb9⟩
              obtain ⟨A9, c9, rfl, -, -, -⟩ := Rd.of_own (S := ptS) hown9 rfl
              have HR9 := Lib.hid (HRj.out.on hb9); have Hb9 := Lib.hid (bthen Hbj.out hb9); have Hrl := Lib.hid HRj.out.lt; have Hown9 := Lib.hid hown9; clear hown9 hb9
              have r0 := HR9.out.cell 0
              have r1 := HR9.out.cell 1
              have r2 := HR9.out.cell 2
              have r3 := HR9.out.cell 3
              have r4 := HR9.out.cell 4
              have r5 := HR9.out.cell 5
              simp at r0 r1 r2 r3 r4 r5
              have rl := HR9.out.lt
              have rf := HR9.out.frozen
              go_wp2
              clear r0 r1 r2 r3 r4 r5 rf
              have HR6 := HR9.out.set6 (b0 := .int .i64 a) (b1 := .int .i64 b) (b2 := .int .i64 m) (b3 := .int .i64 d) (b4 := .int .i64 n) (b5 := .slice A9 (hitsZ a b m 0 n).length c9)
              have k0 := HR6.cell 0
              have k1 := HR6.cell 1
              have k2 := HR6.cell 2
              have k3 := HR6.cell 3
              have k4 := HR6.cell 4
              have k5 := HR6.cell 5
              simp at k0 k1 k2 k3 k4 k5
              exact bodyPost_ret (v := .tuple #[.agg #[.int .i64 a, .int .i64 b, .int .i64 m, .int .i64 d, .int .i64 n, .slice A9 (hitsZ a b m 0 n).length c9], .bool true]) (by simp [results, Try.results9, go_sem, k0, k1, k2, k3, k4, k5]) rfl ⟨TkRet.mk HV2.out (own_far (g := w.heap.size + 1) Hown9.out (by repeat (first | (with_reducible exact grefl _ _) | (with_reducible refine only_cell ?_) | (with_reducible refine only_drew ?_))) Hrl.out) (by have := Hrl.out; omega), bst (bst (bst (bst (bst (bst (Hb9.out) (Nat.le_succ _) _) (Nat.le_succ _) _) (Nat.le_succ _) _) (Nat.le_succ _) _) (Nat.le_succ _) _) (Nat.le_succ _) _⟩
      · obtain rfl : k = 8 := by omega
        have HN := Lib.hid (joinV_none (a := a) (b := b) (fs := fs) (show jnF m d t R 8 1 = none by rw [Hj.out]; rfl))
        have r0 := HRr.out.cell 0
        have r1 := HRr.out.cell 1
        have r2 := HRr.out.cell 2
        have r3 := HRr.out.cell 3
        have r4 := HRr.out.cell 4
        have r5 := HRr.out.cell 5
        simp at r0 r1 r2 r3 r4 r5
        have rl := HRr.out.lt
        have rf := HRr.out.frozen
        go_wp2
        clear r0 r1 r2 r3 r4 r5 rf
        have HR6 := HRr.out.set6 (b0 := .int .i64 0) (b1 := .int .i64 0) (b2 := .int .i64 0) (b3 := .int .i64 0) (b4 := .int .i64 0) (b5 := .slice none 0 0)
        have k0 := HR6.cell 0
        have k1 := HR6.cell 1
        have k2 := HR6.cell 2
        have k3 := HR6.cell 3
        have k4 := HR6.cell 4
        have k5 := HR6.cell 5
        simp at k0 k1 k2 k3 k4 k5
        exact bodyPost_ret (v := .tuple #[.agg #[.int .i64 0, .int .i64 0, .int .i64 0, .int .i64 0, .int .i64 0, .slice none 0 0], .bool false]) (by simp [results, Try.results9, go_sem, k0, k1, k2, k3, k4, k5]) rfl ⟨TkRet.zero HN.out, bst (bst (bst (bst (bst (bst (Hbr.out) (Nat.le_succ _) _) (Nat.le_succ _) _) (Nat.le_succ _) _) (Nat.le_succ _) _) (Nat.le_succ _) _) (Nat.le_succ _) _⟩
end Go.Proofs.Yticbmpjdcanjkaa
