/- Own texts put together: The reference's draw of a task and of ranges. Conditions: those of each theorem. -/
import Derived.Test.YtnhgdmhiblpknaaGreatDoorWkM7
import Derived.Test.YtnhgdmhiblpknaaGreatDoorWkM8
namespace Go.Proofs.YtnhgdmhiblpknaaGreatDoor
section
open Go Go.RowKit

theorem infoSlJ : (Tryz.prog.info? 34).map (fun i => (i.zero, i.size, i.bytes)) = some (some (.slice none 0 0), 1, 24) := by kernel_rfl
/-- A task whose points are a row of a call's own, and a slice that reads as a list of lists. -/
structure TkL (w : World) (B : Nat) (e : Ending) : Prop where
  ex : ∃ (a b m d t : Int) (v : Value) (n : Nat) (l : Value) (ess : List (List Int)), n ≤ 4011 ∧ e = .returned (.tuple #[.agg #[.int .i64 a, .int .i64 b, .int .i64 m, .int .i64 d, .int .i64 t, v], l]) ∧ IR w B 117 3 v n ∧ NRd w w.heap.size l ess

theorem rangesL_le8 {m d t w : Int} (hw : w ≤ 8) : (rangesL m d t w).length ≤ 8 := by
  have := rgN_len (totI m d - t) w t w.toNat
  unfold rangesL
  omega
theorem two_cellJ {w : World} {b : Nat} {t : TypeId} {u v : Value} (h : Blk w b t #[u, v]) : ∀ j x, ([u, v] : List Value)[j]? = some x → w.cell? ((⟨b, 0, none⟩ : Addr).add j) = some x := by
  intro j x hj
  rw [Addr.add_lit, Nat.zero_add, h.cell]
  simpa using hj
theorem one_cellJ {w : World} {b : Nat} {t : TypeId} {u : Value} (h : Blk w b t #[u]) : ∀ j x, ([u] : List Value)[j]? = some x → w.cell? ((⟨b, 0, none⟩ : Addr).add j) = some x := by
  intro j x hj
  have hj0 : j = 0 := by have := (List.getElem?_eq_some_iff.1 hj).1; simp at this; exact this
  subst hj0
  rw [Addr.add_lit, h.cell]
  simpa using hj

set_option linter.unusedSimpArgs false in
set_option maxRecDepth 8000 in
set_option maxHeartbeats 16000000 in
theorem drawJoin_any (A : Option Addr) (n c : Nat) (w : World) (hby : BytesAt w w.heap.size A n) :
    Calls Tryz.prog 39 #[.slice A n c] w fun e w' => TkL w' w.heap.size e ∧ Below w.heap.size w w' := by
  have Hb := Lib.hid hby; clear hby
  have Hgl := Lib.hid (Nat.le_refl w.heap.size)
  have Hd := Lib.hid (Dg.refl (w.heap.size + 1) w)
  obtain ⟨i0, hi, hz0, hz1, hz2⟩ := info_parts infoSlJ
  go_enter Tryz.func39, Tryz.ntmps39
  go_wp2_with fail
  refine (task_any (w.heap.size + 1) 0 _ (Cur.new1 Hb.out c _) (by omega)).mono ?_; rintro e w1 ⟨⟨a, b, m, e9, t, v, nv, hnv, rfl, hv⟩, hc1, hd1⟩
  have S1 := Lib.hid (show w.heap.size + 2 ≤ w1.heap.size by have h9 := hd1.size; (try simp only [World.size_alloc, World.size_setCell] at h9); omega)
  have NR := Lib.hid (((Blk.new w 51 #[.int .i64 0, .int .i64 0, .int .i64 0, .int .i64 0, .int .i64 0, .slice none 0 0]).alloc (Obj.cells #[.slice A n c, .int .i64 0, .int .u64 0] 78)).dg hd1 (show w.heap.size ≠ (w.heap.size + 1) by have := Hgl.out; have := S1.out; omega))
  have R := NR; clear NR
  have Hc1 := Lib.hid (hc1.mono (j := 0 + 100) (by omega))
  have Hd1 := Lib.hid (((Hd.out.alloc (Obj.cells #[.int .i64 0, .int .i64 0, .int .i64 0, .int .i64 0, .int .i64 0, .slice none 0 0] 51)).alloc (Obj.cells #[.slice A n c, .int .i64 0, .int .u64 0] 78)).trans hd1)
  clear hc1 hd1
  have HV := Lib.hid (hv.mono (B' := w.heap.size + 2) (by simp)); have GHV := Lib.hid (IR.lt (hv.mono (B' := w.heap.size + 2) (by simp)))
  clear hv
  obtain ⟨A9, c9, rfl, -, -⟩ := HV.out.form
  obtain ⟨fs, hfs, opt⟩ := HV.out.pt
  have Hrp := Lib.hid (Rd.of_own (S := ptS) opt rfl)
  clear opt hfs
  go_wp2_with fail
  refine (skGood_any a b m e9 t (.slice A9 nv c9) fs _ (Hrp.out.on (bal (Below.refl _ _) _))).mono ?_; rintro e w2 ⟨rfl, hd2⟩
  have S2 := Lib.hid (show w1.heap.size + 1 ≤ w2.heap.size by have h9 := hd2.size; (try simp only [World.size_alloc, World.size_setCell] at h9); omega)
  have NR := Lib.hid ((R.out.alloc _).dg (Dg.of_below (g := (w.heap.size + 1)) hd2) (show w.heap.size ≠ (w.heap.size + 1) by have := Hgl.out; have := S1.out; have := S2.out; omega))
  have NQ := Lib.hid ((Blk.new w1 51 #[.int .i64 a, .int .i64 b, .int .i64 m, .int .i64 e9, .int .i64 t, .slice A9 nv c9]).dg (Dg.of_below (g := (w.heap.size + 1)) hd2) (show w1.heap.size ≠ (w.heap.size + 1) by have := Hgl.out; have := S1.out; have := S2.out; omega))
  have R := NR; clear NR
  have Q := NQ; clear NQ
  have HV := Lib.hid ((HV.out.alloc _).dg (Dg.of_below (g := (w.heap.size + 1)) hd2) (show (w.heap.size + 1) < (w.heap.size + 2) by have := Hgl.out; have := S1.out; have := S2.out; omega))
  have Hc2 := Lib.hid ((Hc1.out.alloc _).on hd2)
  have Hd2 := Lib.hid ((Hd1.out.alloc _).trans (Dg.of_below (g := (w.heap.size + 1)) hd2))
  clear hd2
  clear Hrp
  cases hk9 : tkG a b m e9 t fs
  · clear hk9
    have qQ0 := Q.out.cell 0
    have qQ1 := Q.out.cell 1
    have qQ2 := Q.out.cell 2
    have qQ3 := Q.out.cell 3
    have qQ4 := Q.out.cell 4
    have qQ5 := Q.out.cell 5
    simp at qQ0 qQ1 qQ2 qQ3 qQ4 qQ5
    have qQl := Q.out.lt
    have qR0 := R.out.cell 0
    have qR1 := R.out.cell 1
    have qR2 := R.out.cell 2
    have qR3 := R.out.cell 3
    have qR4 := R.out.cell 4
    have qR5 := R.out.cell 5
    simp at qR0 qR1 qR2 qR3 qR4 qR5
    have qRl := R.out.lt
    have qRf := R.out.frozen
    have nQR : w1.heap.size ≠ w.heap.size := by have := Hgl.out; have := S1.out; have := S2.out; omega
    have nRQ : w.heap.size ≠ w1.heap.size := fun e => nQR e.symm
    go_wp2
    clear qQ0 qQ1 qQ2 qQ3 qQ4 qQ5 qQl qR0 qR1 qR2 qR3 qR4 qR5 qRl qRf nQR nRQ
    have HR9 := (show Blk (World.setCell (World.setCell (World.setCell (World.setCell (World.setCell (World.setCell w2 ⟨w.heap.size, 0, none⟩ (.int .i64 a)) ⟨w.heap.size, 1, none⟩ (.int .i64 b)) ⟨w.heap.size, 2, none⟩ (.int .i64 m)) ⟨w.heap.size, 3, none⟩ (.int .i64 e9)) ⟨w.heap.size, 4, none⟩ (.int .i64 t)) ⟨w.heap.size, 5, none⟩ (.slice A9 nv c9)) (w.heap.size) 51 #[.int .i64 a, .int .i64 b, .int .i64 m, .int .i64 e9, .int .i64 t, .slice A9 nv c9] by have h9 := ((((((R.out.set 0 (.int .i64 a)).set 1 (.int .i64 b)).set 2 (.int .i64 m)).set 3 (.int .i64 e9)).set 4 (.int .i64 t)).set 5 (.slice A9 nv c9)); simpa using h9)
    have k0 := HR9.cell 0
    have k1 := HR9.cell 1
    have k2 := HR9.cell 2
    have k3 := HR9.cell 3
    have k4 := HR9.cell 4
    have k5 := HR9.cell 5
    simp at k0 k1 k2 k3 k4 k5
    obtain ⟨ess9, -, hnr9⟩ := (LR.nil _ 0 0 0).nrd
    exact bodyPost_ret (v := .tuple #[.agg #[.int .i64 a, .int .i64 b, .int .i64 m, .int .i64 e9, .int .i64 t, .slice A9 nv c9], .slice none 0 0]) (by simp [results, Tryz.results39, go_sem, k0, k1, k2, k3, k4, k5]) rfl ⟨⟨a, b, m, e9, t, .slice A9 nv c9, nv, .slice none 0 0, ess9, hnv, rfl, ((((((HV.out.st (p := ⟨w.heap.size, 0, none⟩) (by intro k9 hk9; have := GHV.out k9 hk9; show k9 ≠ w.heap.size; have := Hgl.out; have := S1.out; have := S2.out; omega) (.int .i64 a)).st (p := ⟨w.heap.size, 1, none⟩) (by intro k9 hk9; have := GHV.out k9 hk9; show k9 ≠ w.heap.size; have := Hgl.out; have := S1.out; have := S2.out; omega) (.int .i64 b)).st (p := ⟨w.heap.size, 2, none⟩) (by intro k9 hk9; have := GHV.out k9 hk9; show k9 ≠ w.heap.size; have := Hgl.out; have := S1.out; have := S2.out; omega) (.int .i64 m)).st (p := ⟨w.heap.size, 3, none⟩) (by intro k9 hk9; have := GHV.out k9 hk9; show k9 ≠ w.heap.size; have := Hgl.out; have := S1.out; have := S2.out; omega) (.int .i64 e9)).st (p := ⟨w.heap.size, 4, none⟩) (by intro k9 hk9; have := GHV.out k9 hk9; show k9 ≠ w.heap.size; have := Hgl.out; have := S1.out; have := S2.out; omega) (.int .i64 t)).st (p := ⟨w.heap.size, 5, none⟩) (by intro k9 hk9; have := GHV.out k9 hk9; show k9 ≠ w.heap.size; have := Hgl.out; have := S1.out; have := S2.out; omega) (.slice A9 nv c9)).mono (by omega), hnr9⟩, ((((((Hd2.out.st (p := ⟨w.heap.size, 0, none⟩) (show w.heap.size ≤ w.heap.size by have := Hgl.out; have := S1.out; have := S2.out; omega) (.int .i64 a)).st (p := ⟨w.heap.size, 1, none⟩) (show w.heap.size ≤ w.heap.size by have := Hgl.out; have := S1.out; have := S2.out; omega) (.int .i64 b)).st (p := ⟨w.heap.size, 2, none⟩) (show w.heap.size ≤ w.heap.size by have := Hgl.out; have := S1.out; have := S2.out; omega) (.int .i64 m)).st (p := ⟨w.heap.size, 3, none⟩) (show w.heap.size ≤ w.heap.size by have := Hgl.out; have := S1.out; have := S2.out; omega) (.int .i64 e9)).st (p := ⟨w.heap.size, 4, none⟩) (show w.heap.size ≤ w.heap.size by have := Hgl.out; have := S1.out; have := S2.out; omega) (.int .i64 t)).st (p := ⟨w.heap.size, 5, none⟩) (show w.heap.size ≤ w.heap.size by have := Hgl.out; have := S1.out; have := S2.out; omega) (.slice A9 nv c9)).below (by have := S1.out; have := S2.out; omega) (Nat.le_refl _)⟩
  · obtain ⟨htk, htt, -, hto⟩ := tkG_spec hk9
    have Htk := Lib.hid htk; have Htt := Lib.hid htt; clear htk htt hk9 hto
    have qQ0 := Q.out.cell 0
    have qQ1 := Q.out.cell 1
    have qQ2 := Q.out.cell 2
    have qQ3 := Q.out.cell 3
    have qQ4 := Q.out.cell 4
    have qQ5 := Q.out.cell 5
    simp at qQ0 qQ1 qQ2 qQ3 qQ4 qQ5
    have qQl := Q.out.lt
    go_wp2_with fail
    clear qQ0 qQ1 qQ2 qQ3 qQ4 qQ5 qQl
    have hQg : w1.heap.size ≠ (w.heap.size + 1) := by have := Hgl.out; have := S1.out; have := S2.out; omega
    refine wp_region_held_drew (S := fun w' => Blk w' (w1.heap.size) 51 #[.int .i64 a, .int .i64 b, .int .i64 m, .int .i64 e9, .int .i64 t, .slice A9 nv c9]) (by kernel_rfl) Q.out.drew (fun hH => ?_)
    refine wpAnyH_take (i := 0) (v := .agg #[.int .i64 a, .int .i64 b, .int .i64 m, .int .i64 e9, .int .i64 t, .slice A9 nv c9]) rfl (by kernel_rfl) (by kernel_rfl) (by kernel_rfl) (fun _ _ _ h => h) (Or.inl ⟨by rfl, ?_⟩) hH ?_
    · intro w hw; have f0 := hw.cell 0; have f1 := hw.cell 1; have f2 := hw.cell 2; have f3 := hw.cell 3; have f4 := hw.cell 4; have f5 := hw.cell 5; simp at f0 f1 f2 f3 f4 f5; go_simp
    try simp only [Act.put, List.setIfInBounds_toArray, List.set_cons_zero, List.set_cons_succ]
    refine wpAnyH_take (i := 1) (v := .pointer (some ⟨(w.heap.size + 1), 0, none⟩)) rfl (by kernel_rfl) (by kernel_rfl) (by kernel_rfl) (fun _ _ _ h => h) (Or.inl ⟨by rfl, ?_⟩) hH ?_
    · intro w _; go_simp
    try simp only [Act.put, List.setIfInBounds_toArray, List.set_cons_zero, List.set_cons_succ]
    refine wpAnyH_take (i := 6) (v := .int .i64 0) rfl (by kernel_rfl) (by kernel_rfl) (by kernel_rfl) (fun _ _ _ h => h) (Or.inl ⟨by rfl, ?_⟩) hH ?_
    · intro w _; go_simp
    try simp only [Act.put, List.setIfInBounds_toArray, List.set_cons_zero, List.set_cons_succ]
    refine wpAnyH_ready (rs := [2]) (by kernel_rfl) (by simp) (AllReadyH.cons rfl (fun K hK => ?_) AllReadyH.nil)
    go_simp
    refine (pick_any (w.heap.size + 1) (0 + 100) 8 _ (Hc2.out.on (Below.refl _ _).drew) (by omega)).mono ?_
    rintro e8 wp ⟨⟨x, hx0, hx1, rfl⟩, hcp, hdp⟩
    go_wp2_with fail
    refine hK.out _ _ (hH.dg hdp hQg) (fun hH2 => ?_)
    clear hK K
    try simp only [Act.put, List.setIfInBounds_toArray, List.set_cons_zero, List.set_cons_succ]
    have hx2 : x ≤ 7 := by omega
    clear hx1
    have hw1 : IntKind.i64.wrap (1 + x) = 1 + x := by rw [IntKind.wrap_i64]; omega
    refine wpAnyH_take (i := 3) (v := .int .i64 (1 + x)) rfl (by kernel_rfl) (by kernel_rfl) (by kernel_rfl) (fun _ _ _ h => h) (Or.inl ⟨by rfl, ?_⟩) hH2 ?_
    · intro w _; go_simp
    try simp only [Act.put, List.setIfInBounds_toArray, List.set_cons_zero, List.set_cons_succ]
    refine wpAnyH_ready (rs := [4]) (by kernel_rfl) (by simp) (AllReadyH.cons rfl (fun K hK => ?_) AllReadyH.nil)
    go_simp
    refine (skRanges_any a b m e9 t (1 + x) (.slice A9 nv c9) _ Htk.out Htt.out ⟨by omega, by omega⟩).mono ?_
    rintro e8 wr5 ⟨⟨v5, vs5, rfl, hn5⟩, hb5⟩
    go_wp2_with fail
    refine hK.out _ _ (hH2.on hb5) (fun hH3 => ?_)
    clear hK K
    try simp only [Act.put, List.setIfInBounds_toArray, List.set_cons_zero, List.set_cons_succ]
    have hl5 := LR.of_nown hn5 rfl rfl
    have hlen5 := rangesL_le8 (m := m) (d := e9) (t := t) (w := 1 + x) (by omega)
    generalize (rangesL m e9 t (1 + x)).length = n5 at hl5 hlen5
    clear hn5
    obtain ⟨A5, c5, rfl⟩ : ∃ A5 c5, v5 = .slice A5 n5 c5 := by rcases hl5.form with ⟨rfl, rfl⟩ | ⟨g5, c5, rfl, -⟩; exact ⟨_, _, rfl⟩; exact ⟨_, _, rfl⟩
    refine wpAnyH_take (i := 5) (oi := { dst := some 24, op := .call { callee := .builtin .len, args := #[.tmp 23], argTypes := _ }, type := _, pos := _, after := _, guard := _ }) (v := .int .i64 (n5 : Int)) rfl (by kernel_rfl) (by kernel_rfl) (by kernel_rfl) (fun _ _ _ h => h) (Or.inl ⟨by rfl, ?_⟩) hH3 ?_
    · intro w _; go_simp
    try simp only [Act.put, List.setIfInBounds_toArray, List.set_cons_zero, List.set_cons_succ]
    refine wpAnyH_done (by kernel_rfl) ?_ _
    have hd3 : Dg (w.heap.size + 1) w2 wr5 := ((Dg.drew (Dg.refl (w.heap.size + 1) w2)).trans hdp).on hb5
    have hc3 := (hcp.mono (j := (0 + 100) + 2) (by omega)).on hb5
    have Gb := Lib.hid (show (w.heap.size + 1) < wp.heap.size by have h9 := hdp.size; (try simp only [World.size_drew] at h9); have := S1.out; have := S2.out; have := Hgl.out; omega)
    have Gb2 := Lib.hid (show wp.heap.size ≤ wr5.heap.size from hb5.size)
    have GB := Lib.hid (show (w.heap.size + 1) < wr5.heap.size by have := Gb.out; have := Gb2.out; omega)
    have HN := Lib.hid hl5
    clear hl5 hH hH2 hH3 hcp hdp hb5
    have S3 := Lib.hid (show w2.heap.size + 0 ≤ wr5.heap.size by have h9 := hd3.size; (try simp only [World.size_alloc, World.size_setCell] at h9); omega)
    have NR := Lib.hid (R.out.dg hd3 (show w.heap.size ≠ (w.heap.size + 1) by have := Hgl.out; have := S1.out; have := S2.out; have := S3.out; omega))
    have NQ := Lib.hid (Q.out.dg hd3 (show w1.heap.size ≠ (w.heap.size + 1) by have := Hgl.out; have := S1.out; have := S2.out; have := S3.out; omega))
    have R := NR; clear NR
    have Q := NQ; clear NQ
    have HV := Lib.hid (HV.out.dg hd3 (show (w.heap.size + 1) < (w.heap.size + 2) by have := Hgl.out; have := S1.out; have := S2.out; have := S3.out; omega))
    have Hc3 := Lib.hid (hc3.mono (j := 0 + 102) (by omega))
    have Hd3 := Lib.hid (Hd2.out.trans hd3)
    clear hc3 hd3
    have HVlt := Lib.hid (show ∀ k, (Value.slice A9 nv c9).ownBlock = some k → k < wr5.heap.size from fun k hk => by have := (GHV.out k hk).2; have := S1.out; have := S2.out; have := S3.out; have := Gb2.out; have := Gb.out; omega)
    have hn50 : (0 : Int) ≤ (n5 : Int) := by omega
    go_wp2
    go_loopw [25, 6] (fun i l wr => ∃ (j p : Nat), j ≤ n5 ∧ i = .int .i64 (j : Int) ∧ p ≤ j ∧ Hid (wr5.heap.size ≤ wr.heap.size) ∧ Hid (LR wr wr5.heap.size wp.heap.size wr5.heap.size l p) ∧ Hid (LR wr wp.heap.size wp.heap.size wr5.heap.size (.slice A5 n5 c5) n5) ∧ Hid (Blk wr (w1.heap.size) 51 #[.int .i64 a, .int .i64 b, .int .i64 m, .int .i64 e9, .int .i64 t, .slice A9 nv c9]) ∧ Hid (Blk wr w.heap.size 51 #[.int .i64 0, .int .i64 0, .int .i64 0, .int .i64 0, .int .i64 0, .slice none 0 0]) ∧ Hid (IR wr (w.heap.size + 2) 117 3 (.slice A9 nv c9) nv) ∧ Hid (Cur wr (w.heap.size + 1) ((0 + 102) + 4 * j)) ∧ Hid (Dg (w.heap.size + 1) w wr)) (fun i _ _ => n5 - (intOf i).toNat)
    case atStart => exact ⟨0, 0, Nat.zero_le _, rfl, Nat.le_refl _, Lib.hid (Nat.le_refl _), Lib.hid (LR.nil _ _ _ _), HN, Q, R, HV, Lib.hid (Hc3.out.mono (by omega)), Hd3⟩
    case round =>
      obtain ⟨j, p, hj, rfl, hpj, Sz9, HL, HN, Q, R, HV, Hcr, Hdr⟩ := hrel
      have GHV := Lib.hid (IR.lt HV.out)
      have hp0 : (0 : Int) ≤ (p : Int) := by omega
      have hj0 : (0 : Int) ≤ (j : Int) := by omega
      have Sq := Lib.hid Q.out.lt; have Sr := Lib.hid R.out.lt
      by_cases hjn : j < n5
      · have hji : (j : Int) < (n5 : Int) := by omega
        obtain ⟨g5, rfl⟩ : ∃ g5, A5 = some ⟨g5, 0, none⟩ := by rcases HN.out.form with ⟨h1, h2⟩ | ⟨g5, c8, h1, -⟩; omega; injection h1 with h1; exact ⟨g5, h1⟩
        obtain ⟨u, hu, hIu⟩ := HN.out.cell hjn
        obtain ⟨Au, nu, cu, rfl⟩ := hIu.form
        have hul := (HN.out.lt g5 rfl).2
        have HU := Lib.hid hIu; clear hIu
        go_wp2_with fail
        refine (one_any (w.heap.size + 1) ((0 + 102) + 4 * j) 6 _ (Hcr.out) (by have := hj; have := hlen5; omega)).mono ?_; rintro e8 w4 ⟨⟨o, rfl⟩, hc4, hd4⟩
        clear hu hul
        have HU := Lib.hid (HU.out.dg hd4 Gb.out)
        have HN := Lib.hid (HN.out.dg hd4 Gb.out Gb.out)
        have HL := Lib.hid (HL.out.dg hd4 Gb.out GB.out)
        have S4 := Lib.hid (show wr.heap.size + 0 ≤ w4.heap.size by have h9 := hd4.size; (try simp only [World.size_alloc, World.size_setCell] at h9); omega)
        have NQ := Lib.hid (Q.out.dg hd4 (show w1.heap.size ≠ (w.heap.size + 1) by have := Hgl.out; have := S1.out; have := S2.out; have := S3.out; have := Gb2.out; have := Gb.out; have := Sq.out; have := Sr.out; have := Sz9.out; have := S4.out; omega))
        have NR := Lib.hid (R.out.dg hd4 (show w.heap.size ≠ (w.heap.size + 1) by have := Hgl.out; have := S1.out; have := S2.out; have := S3.out; have := Gb2.out; have := Gb.out; have := Sq.out; have := Sr.out; have := Sz9.out; have := S4.out; omega))
        have Q := NQ; clear NQ
        have R := NR; clear NR
        have HV := Lib.hid (HV.out.dg hd4 (show (w.heap.size + 1) < (w.heap.size + 2) by have := Hgl.out; have := S1.out; have := S2.out; have := S3.out; have := Gb2.out; have := Gb.out; have := Sq.out; have := Sr.out; have := Sz9.out; have := S4.out; omega))
        have Hc4 := Lib.hid (hc4.mono (j := ((0 + 102) + 4 * j) + 2) (by omega))
        have Hd4 := Lib.hid (Hdr.out.trans hd4)
        clear hc4 hd4
        cases o
        · rcases HL.out.form with ⟨rfl, rfl⟩ | ⟨gl, cl, rfl, hgl1, hgl2, hpc, hcm⟩
          · go_wp2_with fail
            refine (pick_any (w.heap.size + 1) (((0 + 102) + 4 * j) + 2) 1 _ Hc4.out (by omega)).mono ?_; rintro e w5 ⟨⟨k9, lk, uk, rfl⟩, hc5, hd5⟩
            have HU := Lib.hid (HU.out.dg hd5 Gb.out)
            have HN := Lib.hid (HN.out.dg hd5 Gb.out Gb.out)
            have HL := Lib.hid (HL.out.dg hd5 Gb.out GB.out)
            have S5 := Lib.hid (show w4.heap.size + 0 ≤ w5.heap.size by have h9 := hd5.size; (try simp only [World.size_alloc, World.size_setCell] at h9); omega)
            have NQ := Lib.hid (Q.out.dg hd5 (show w1.heap.size ≠ (w.heap.size + 1) by have := Hgl.out; have := S1.out; have := S2.out; have := S3.out; have := Gb2.out; have := Gb.out; have := Sq.out; have := Sr.out; have := Sz9.out; have := S4.out; have := S5.out; omega))
            have NR := Lib.hid (R.out.dg hd5 (show w.heap.size ≠ (w.heap.size + 1) by have := Hgl.out; have := S1.out; have := S2.out; have := S3.out; have := Gb2.out; have := Gb.out; have := Sq.out; have := Sr.out; have := Sz9.out; have := S4.out; have := S5.out; omega))
            have Q := NQ; clear NQ
            have R := NR; clear NR
            have HV := Lib.hid (HV.out.dg hd5 (show (w.heap.size + 1) < (w.heap.size + 2) by have := Hgl.out; have := S1.out; have := S2.out; have := S3.out; have := Gb2.out; have := Gb.out; have := Sq.out; have := Sr.out; have := Sz9.out; have := S4.out; have := S5.out; omega))
            have Hc5 := Lib.hid (hc5.mono (j := ((0 + 102) + 4 * j) + 4) (by omega))
            have Hd5 := Lib.hid (Hd4.out.trans hd5)
            clear hc5 hd5
            obtain rfl : k9 = 0 := by omega
            clear lk uk
            go_wp2_with fail
            obtain ⟨vs, hvo, hvi⟩ := HL.out.ex
            have Hvi := Lib.hid hvi; clear hvi
            have hvl : vs.length = 0 := by have := hvo.1; omega
            have hdt := Below.refl w5.heap.size w5
            clear hvo
            have Hm1 : Hid (0 + 0 ≤ maxLen) := Lib.hid (by unfold maxLen; omega)
            have Hy1 : Hid ((0 + 0) * 24 ≤ 140737488355328) := Lib.hid (by omega)
            have Hm2 : Hid (0 + 0 + 1 ≤ maxLen) := Lib.hid (by unfold maxLen; omega)
            have Hy2 : Hid ((0 + 0 + 1) * 24 ≤ 140737488355328) := Lib.hid (by omega)
            have Hm3 : Hid (0 + 0 + 1 + (0) ≤ maxLen) := Lib.hid (by unfold maxLen; omega)
            have Hy3 : Hid ((0 + 0 + 1 + (0)) * 24 ≤ 140737488355328) := Lib.hid (by omega)
            have Hl1 : Hid (([] : List Value).length = (0) * 1) := Lib.hid (by simp; try omega)
            have Hl3 : Hid (([] : List Value).length = (0) * 1) := Lib.hid (by simp; try omega)
            have Hone : Hid (∀ u ∈ vs, u.oneCell' = true) := Lib.hid (fun u hu => by obtain ⟨es, he⟩ := (Hvi.out u hu).ex; rcases he.2 with ⟨h1, -⟩ | ⟨g, cap, cur, h1, -⟩ <;> rw [h1] <;> rfl)
            have Hon1 : Hid ((Value.slice Au nu cu).oneCell' = true) := Lib.hid rfl
            go_region_held3 (fun w' => Below w5.heap.size w5 w') ((go_split_ands; repeat (first | (with_reducible assumption) | (with_reducible exact Below.refl _ _) | (with_reducible refine Below.drew ?_) | (with_reducible refine bal ?_ _)))) ((first | (refine step_append_src (by rfl) _ _ 54 (by rfl) 34 i0 (.slice none 0 0) 1 24 Tryz.underlying54 hi hz0 hz1 hz2 rfl (by decide) w5 (by (try go_split_ands); with_reducible assumption) _ 0 [] (by rfl) (by first | exact own_empty (by simp) | exact own_empty1 (by simp) | exact (own_empty (by simp)).alloc _) (_) (0) (_) ([] : List Value) (by rfl) Hl1.out (fun _ => rfl) (by intro a _ j u hj; simp at hj) (by intro u hu; cases hu) Hm1.out Hy1.out ?_; intro v1 w1 ho1 hbA1 hk1) | (refine step_append_src (by rfl) _ _ 54 (by rfl) 34 i0 (.slice none 0 0) 1 24 Tryz.underlying54 hi hz0 hz1 hz2 rfl (by decide) w5 (by (try go_split_ands); with_reducible assumption) v1 (0 + 0) ([] ++ ([] : List Value)) (by rfl) (by first | with_reducible exact ho1 | with_reducible exact ho1.alloc _) _ 1 _ [.slice Au nu cu] (by rfl) rfl (by intro h; cases h) (lit_src (one_cellJ (by first | exact Blk.new _ _ _ | exact hk1 _ _ _ (Blk.new1 _ _ _ _) (ob_ne (by rfl) (by first | omega | (simp; done) | (simp; omega))) | exact hk1 _ _ _ (Blk.new _ _ _) (ob_ne (by rfl) (by first | omega | (simp; done) | (simp; omega))) | exact hk1 _ _ _ (Blk.alloc (Blk.new _ _ _) _) (ob_ne (by rfl) (by first | omega | (simp; done) | (simp; omega)))))) (by intro x hx; rw [List.mem_singleton] at hx; rw [hx]; exact Hon1.out) Hm2.out Hy2.out ?_; intro v2 w2 ho2 hbA2 hk2) | (refine step_append_src (by rfl) _ _ 54 (by rfl) 34 i0 (.slice none 0 0) 1 24 Tryz.underlying54 hi hz0 hz1 hz2 rfl (by decide) w5 (by (try go_split_ands); with_reducible assumption) v2 (0 + 0 + 1) ([] ++ ([] : List Value) ++ [.slice Au nu cu]) (by rfl) (by with_reducible exact ho2) (_) (0) (_) ([] : List Value) (by rfl) Hl3.out (fun _ => (by omega)) (by intro a _ j u hj; simp at hj) (by intro u hu; cases hu) Hm3.out Hy3.out ?_; intro v3 w3 ho3 hbA3 hk3)))
            all_goals
              have hL9 := LR.ins (X := ([] : List Value)) (Y := ([] : List Value)) (k := 0) (d := 0) hbA3 ho3 Hvi.out HU.out (by intro u hu; cases hu) (by intro u hu; cases hu)
              have hL8 := hL9.mono (B' := wr5.heap.size) (by have := S1.out; have := S2.out; have := S3.out; have := Gb2.out; have := Gb.out; have := Sq.out; have := Sr.out; have := Sz9.out; have := S4.out; have := S5.out; omega)
              clear hL9 ho3
              go_wp2
              go_roundw
              case rel => exact ⟨j + 1, _, by omega, by go_num, by omega, Lib.hid (by have := hbA3.size; have := S1.out; have := S2.out; have := S3.out; have := Gb2.out; have := Gb.out; have := Sq.out; have := Sr.out; have := Sz9.out; have := S4.out; have := S5.out; omega), Lib.hid hL8, Lib.hid (HN.out.on hbA3), Lib.hid (Q.out.on hbA3), Lib.hid (R.out.on hbA3), Lib.hid (HV.out.on hbA3), Lib.hid ((Hc5.out.on hbA3).mono (by omega)), Lib.hid (Hd5.out.on hbA3)⟩
              case measure => simp [intOf]; omega
          · go_wp2_with fail
            refine (pick_any (w.heap.size + 1) (((0 + 102) + 4 * j) + 2) ((p : Int) + 1) _ Hc4.out (by omega)).mono ?_; rintro e w6 ⟨⟨k9, lk, uk, rfl⟩, hc6, hd6⟩
            have HU := Lib.hid (HU.out.dg hd6 Gb.out)
            have HN := Lib.hid (HN.out.dg hd6 Gb.out Gb.out)
            have HL := Lib.hid (HL.out.dg hd6 Gb.out GB.out)
            have S6 := Lib.hid (show w4.heap.size + 0 ≤ w6.heap.size by have h9 := hd6.size; (try simp only [World.size_alloc, World.size_setCell] at h9); omega)
            have NQ := Lib.hid (Q.out.dg hd6 (show w1.heap.size ≠ (w.heap.size + 1) by have := Hgl.out; have := S1.out; have := S2.out; have := S3.out; have := Gb2.out; have := Gb.out; have := Sq.out; have := Sr.out; have := Sz9.out; have := S4.out; have := S6.out; omega))
            have NR := Lib.hid (R.out.dg hd6 (show w.heap.size ≠ (w.heap.size + 1) by have := Hgl.out; have := S1.out; have := S2.out; have := S3.out; have := Gb2.out; have := Gb.out; have := Sq.out; have := Sr.out; have := Sz9.out; have := S4.out; have := S6.out; omega))
            have Q := NQ; clear NQ
            have R := NR; clear NR
            have HV := Lib.hid (HV.out.dg hd6 (show (w.heap.size + 1) < (w.heap.size + 2) by have := Hgl.out; have := S1.out; have := S2.out; have := S3.out; have := Gb2.out; have := Gb.out; have := Sq.out; have := Sr.out; have := Sz9.out; have := S4.out; have := S6.out; omega))
            have Hc6 := Lib.hid (hc6.mono (j := ((0 + 102) + 4 * j) + 4) (by omega))
            have Hd6 := Lib.hid (Hd4.out.trans hd6)
            clear hc6 hd6
            obtain ⟨k, rfl⟩ : ∃ q : Nat, k9 = q := ⟨k9.toNat, by omega⟩
            have hkp : k ≤ p := by omega
            clear lk uk
            have t1 : (0 : Int) ≤ (k : Int) := by omega
            have t2 : (k : Int) ≤ (cl : Int) := by omega
            have t3 : (k : Int) ≤ (p : Int) := by omega
            have hp9 : p ≤ 8 := by omega
            unfold maxLen at hcm
            by_cases hck : cl = k
            · obtain rfl : k = p := by omega
              subst hck
              go_wp2_with fail
              obtain ⟨vs, hvo, hvi⟩ := HL.out.ex
              have Hvi := Lib.hid hvi; clear hvi
              have hvl : vs.length = cl := by have := hvo.1; omega
              have hdt := Below.refl w6.heap.size w6
              have Hs1 := Lib.hid (show ∀ a, some (⟨gl, 0, none⟩ : Addr) = some a → ∀ j u, (vs.take cl)[j]? = some u → w6.cell? (a.add j) = some u from fun a ha j u hju => by cases ha; have hj9 := (List.getElem?_eq_some_iff.1 hju).1; rw [List.length_take] at hj9; rw [List.getElem?_take, if_pos (by omega)] at hju; rw [Addr.add_lit, Nat.zero_add, hvo.cellAt j (by omega)]; exact hju)
              clear hvo
              have Hm1 : Hid (0 + cl ≤ maxLen) := Lib.hid (by unfold maxLen; omega)
              have Hy1 : Hid ((0 + cl) * 24 ≤ 140737488355328) := Lib.hid (by omega)
              have Hm2 : Hid (0 + cl + 1 ≤ maxLen) := Lib.hid (by unfold maxLen; omega)
              have Hy2 : Hid ((0 + cl + 1) * 24 ≤ 140737488355328) := Lib.hid (by omega)
              have Hm3 : Hid (0 + cl + 1 + (0) ≤ maxLen) := Lib.hid (by unfold maxLen; omega)
              have Hy3 : Hid ((0 + cl + 1 + (0)) * 24 ≤ 140737488355328) := Lib.hid (by omega)
              have Hl1 : Hid ((vs.take cl).length = (cl) * 1) := Lib.hid (by simp; try omega)
              have Hl3 : Hid (([] : List Value).length = (0) * 1) := Lib.hid (by simp; try omega)
              have Hone : Hid (∀ u ∈ vs, u.oneCell' = true) := Lib.hid (fun u hu => by obtain ⟨es, he⟩ := (Hvi.out u hu).ex; rcases he.2 with ⟨h1, -⟩ | ⟨g, cap, cur, h1, -⟩ <;> rw [h1] <;> rfl)
              have Hon1 : Hid ((Value.slice Au nu cu).oneCell' = true) := Lib.hid rfl
              go_region_held3 (fun w' => Below w6.heap.size w6 w') ((go_split_ands; repeat (first | (with_reducible assumption) | (with_reducible exact Below.refl _ _) | (with_reducible refine Below.drew ?_) | (with_reducible refine bal ?_ _)))) ((first | (refine step_append_src (by rfl) _ _ 54 (by rfl) 34 i0 (.slice none 0 0) 1 24 Tryz.underlying54 hi hz0 hz1 hz2 rfl (by decide) w6 (by (try go_split_ands); with_reducible assumption) _ 0 [] (by rfl) (by first | exact own_empty (by simp) | exact own_empty1 (by simp) | exact (own_empty (by simp)).alloc _) (some ⟨gl, 0, none⟩) (cl) (_) (vs.take cl) (by rfl) Hl1.out (by intro h; cases h) (src_below (by (try go_split_ands); with_reducible assumption) Hs1.out) (fun u hu => Hone.out u (List.mem_of_mem_take hu)) Hm1.out Hy1.out ?_; intro v1 w1 ho1 hbA1 hk1) | (refine step_append_src (by rfl) _ _ 54 (by rfl) 34 i0 (.slice none 0 0) 1 24 Tryz.underlying54 hi hz0 hz1 hz2 rfl (by decide) w6 (by (try go_split_ands); with_reducible assumption) v1 (0 + cl) ([] ++ (vs.take cl)) (by rfl) (by first | with_reducible exact ho1 | with_reducible exact ho1.alloc _) _ 1 _ [.slice Au nu cu] (by rfl) rfl (by intro h; cases h) (lit_src (one_cellJ (by first | exact Blk.new _ _ _ | exact hk1 _ _ _ (Blk.new1 _ _ _ _) (ob_ne (by rfl) (by first | omega | (simp; done) | (simp; omega))) | exact hk1 _ _ _ (Blk.new _ _ _) (ob_ne (by rfl) (by first | omega | (simp; done) | (simp; omega))) | exact hk1 _ _ _ (Blk.alloc (Blk.new _ _ _) _) (ob_ne (by rfl) (by first | omega | (simp; done) | (simp; omega)))))) (by intro x hx; rw [List.mem_singleton] at hx; rw [hx]; exact Hon1.out) Hm2.out Hy2.out ?_; intro v2 w2 ho2 hbA2 hk2) | (refine step_append_src (by rfl) _ _ 54 (by rfl) 34 i0 (.slice none 0 0) 1 24 Tryz.underlying54 hi hz0 hz1 hz2 rfl (by decide) w6 (by (try go_split_ands); with_reducible assumption) v2 (0 + cl + 1) ([] ++ (vs.take cl) ++ [.slice Au nu cu]) (by rfl) (by with_reducible exact ho2) (_) (0) (_) ([] : List Value) (by rfl) Hl3.out (fun _ => (by omega)) (by intro a _ j u hj; simp at hj) (by intro u hu; cases hu) Hm3.out Hy3.out ?_; intro v3 w3 ho3 hbA3 hk3)))
              all_goals
                have hL9 := LR.ins (X := (vs.take cl)) (Y := ([] : List Value)) (k := cl) (d := 0) hbA3 ho3 Hvi.out HU.out (fun u hu => List.mem_of_mem_take hu) (by intro u hu; cases hu)
                have hL8 := hL9.mono (B' := wr5.heap.size) (by have := S1.out; have := S2.out; have := S3.out; have := Gb2.out; have := Gb.out; have := Sq.out; have := Sr.out; have := Sz9.out; have := S4.out; have := S6.out; omega)
                clear hL9 ho3
                go_wp2
                go_roundw
                case rel => exact ⟨j + 1, _, by omega, by go_num, by omega, Lib.hid (by have := hbA3.size; have := S1.out; have := S2.out; have := S3.out; have := Gb2.out; have := Gb.out; have := Sq.out; have := Sr.out; have := Sz9.out; have := S4.out; have := S6.out; omega), Lib.hid hL8, Lib.hid (HN.out.on hbA3), Lib.hid (Q.out.on hbA3), Lib.hid (R.out.on hbA3), Lib.hid (HV.out.on hbA3), Lib.hid ((Hc6.out.on hbA3).mono (by omega)), Lib.hid (Hd6.out.on hbA3)⟩
                case measure => simp [intOf]; omega
            · go_wp2_with fail
              obtain ⟨vs, hvo, hvi⟩ := HL.out.ex
              have Hvi := Lib.hid hvi; clear hvi
              have hvl : vs.length = p := by have := hvo.1; omega
              have hdt := Below.refl w6.heap.size w6
              have Hs1 := Lib.hid (show ∀ a, some (⟨gl, 0, none⟩ : Addr) = some a → ∀ j u, (vs.take k)[j]? = some u → w6.cell? (a.add j) = some u from fun a ha j u hju => by cases ha; have hj9 := (List.getElem?_eq_some_iff.1 hju).1; rw [List.length_take] at hj9; rw [List.getElem?_take, if_pos (by omega)] at hju; rw [Addr.add_lit, Nat.zero_add, hvo.cellAt j (by omega)]; exact hju)
              have Hs3 := Lib.hid (show ∀ a, some (⟨gl, k, none⟩ : Addr) = some a → ∀ j u, (vs.drop k)[j]? = some u → w6.cell? (a.add j) = some u from fun a ha j u hju => by cases ha; have hj9 := (List.getElem?_eq_some_iff.1 hju).1; rw [List.length_drop] at hj9; rw [List.getElem?_drop] at hju; rw [Addr.add_lit, hvo.cellAt _ (by omega)]; exact hju)
              clear hvo
              have Hm1 : Hid (0 + k ≤ maxLen) := Lib.hid (by unfold maxLen; omega)
              have Hy1 : Hid ((0 + k) * 24 ≤ 140737488355328) := Lib.hid (by omega)
              have Hm2 : Hid (0 + k + 1 ≤ maxLen) := Lib.hid (by unfold maxLen; omega)
              have Hy2 : Hid ((0 + k + 1) * 24 ≤ 140737488355328) := Lib.hid (by omega)
              have Hm3 : Hid (0 + k + 1 + (p - k) ≤ maxLen) := Lib.hid (by unfold maxLen; omega)
              have Hy3 : Hid ((0 + k + 1 + (p - k)) * 24 ≤ 140737488355328) := Lib.hid (by omega)
              have Hl1 : Hid ((vs.take k).length = (k) * 1) := Lib.hid (by simp; try omega)
              have Hl3 : Hid ((vs.drop k).length = (p - k) * 1) := Lib.hid (by simp; try omega)
              have Hone : Hid (∀ u ∈ vs, u.oneCell' = true) := Lib.hid (fun u hu => by obtain ⟨es, he⟩ := (Hvi.out u hu).ex; rcases he.2 with ⟨h1, -⟩ | ⟨g, cap, cur, h1, -⟩ <;> rw [h1] <;> rfl)
              have Hon1 : Hid ((Value.slice Au nu cu).oneCell' = true) := Lib.hid rfl
              go_region_held3 (fun w' => Below w6.heap.size w6 w') ((go_split_ands; repeat (first | (with_reducible assumption) | (with_reducible exact Below.refl _ _) | (with_reducible refine Below.drew ?_) | (with_reducible refine bal ?_ _)))) ((first | (refine step_append_src (by rfl) _ _ 54 (by rfl) 34 i0 (.slice none 0 0) 1 24 Tryz.underlying54 hi hz0 hz1 hz2 rfl (by decide) w6 (by (try go_split_ands); with_reducible assumption) _ 0 [] (by rfl) (by first | exact own_empty (by simp) | exact own_empty1 (by simp) | exact (own_empty (by simp)).alloc _) (some ⟨gl, 0, none⟩) (k) (cl) (vs.take k) (by rfl) Hl1.out (by intro h; cases h) (src_below (by (try go_split_ands); with_reducible assumption) Hs1.out) (fun u hu => Hone.out u (List.mem_of_mem_take hu)) Hm1.out Hy1.out ?_; intro v1 w1 ho1 hbA1 hk1) | (refine step_append_src (by rfl) _ _ 54 (by rfl) 34 i0 (.slice none 0 0) 1 24 Tryz.underlying54 hi hz0 hz1 hz2 rfl (by decide) w6 (by (try go_split_ands); with_reducible assumption) v1 (0 + k) ([] ++ (vs.take k)) (by rfl) (by first | with_reducible exact ho1 | with_reducible exact ho1.alloc _) _ 1 _ [.slice Au nu cu] (by rfl) rfl (by intro h; cases h) (lit_src (one_cellJ (by first | exact Blk.new _ _ _ | exact hk1 _ _ _ (Blk.new1 _ _ _ _) (ob_ne (by rfl) (by first | omega | (simp; done) | (simp; omega))) | exact hk1 _ _ _ (Blk.new _ _ _) (ob_ne (by rfl) (by first | omega | (simp; done) | (simp; omega))) | exact hk1 _ _ _ (Blk.alloc (Blk.new _ _ _) _) (ob_ne (by rfl) (by first | omega | (simp; done) | (simp; omega)))))) (by intro x hx; rw [List.mem_singleton] at hx; rw [hx]; exact Hon1.out) Hm2.out Hy2.out ?_; intro v2 w2 ho2 hbA2 hk2) | (refine step_append_src (by rfl) _ _ 54 (by rfl) 34 i0 (.slice none 0 0) 1 24 Tryz.underlying54 hi hz0 hz1 hz2 rfl (by decide) w6 (by (try go_split_ands); with_reducible assumption) v2 (0 + k + 1) ([] ++ (vs.take k) ++ [.slice Au nu cu]) (by rfl) (by with_reducible exact ho2) (some ⟨gl, k, none⟩) (p - k) (cl - k) (vs.drop k) (by rfl) Hl3.out (by intro h; cases h) (src_below (by (try go_split_ands); with_reducible assumption) Hs3.out) (fun u hu => Hone.out u (List.mem_of_mem_drop hu)) Hm3.out Hy3.out ?_; intro v3 w3 ho3 hbA3 hk3)))
              all_goals
                have hL9 := LR.ins (X := (vs.take k)) (Y := (vs.drop k)) (k := k) (d := p - k) hbA3 ho3 Hvi.out HU.out (fun u hu => List.mem_of_mem_take hu) (fun u hu => List.mem_of_mem_drop hu)
                have hL8 := hL9.mono (B' := wr5.heap.size) (by have := S1.out; have := S2.out; have := S3.out; have := Gb2.out; have := Gb.out; have := Sq.out; have := Sr.out; have := Sz9.out; have := S4.out; have := S6.out; omega)
                clear hL9 ho3
                go_wp2
                go_roundw
                case rel => exact ⟨j + 1, _, by omega, by go_num, by omega, Lib.hid (by have := hbA3.size; have := S1.out; have := S2.out; have := S3.out; have := Gb2.out; have := Gb.out; have := Sq.out; have := Sr.out; have := Sz9.out; have := S4.out; have := S6.out; omega), Lib.hid hL8, Lib.hid (HN.out.on hbA3), Lib.hid (Q.out.on hbA3), Lib.hid (R.out.on hbA3), Lib.hid (HV.out.on hbA3), Lib.hid ((Hc6.out.on hbA3).mono (by omega)), Lib.hid (Hd6.out.on hbA3)⟩
                case measure => simp [intOf]; omega
        · clear HU
          go_wp2
          go_roundw
          case rel => exact ⟨j + 1, p, by omega, by go_num, by omega, Lib.hid (by have := S1.out; have := S2.out; have := S3.out; have := Gb2.out; have := Gb.out; have := Sq.out; have := Sr.out; have := Sz9.out; have := S4.out; omega), HL, HN, Q, R, HV, Lib.hid (Hc4.out.mono (by omega)), Hd4⟩
          case measure => simp [intOf]; omega
      · obtain rfl : j = n5 := by omega
        clear hjn HN
        have Hc9 := Lib.hid (Hcr.out.mono (j := (0 + 142)) (by omega)); clear Hcr
        go_wp2_with fail
        refine (pick_any (w.heap.size + 1) (0 + 142) (16) _ Hc9.out (by omega)).mono ?_; rintro e w7 ⟨⟨y, ly, uy, rfl⟩, hc7, hd7⟩
        have HL := Lib.hid (HL.out.dg hd7 Gb.out GB.out)
        have S7 := Lib.hid (show wr.heap.size + 0 ≤ w7.heap.size by have h9 := hd7.size; (try simp only [World.size_alloc, World.size_setCell] at h9); omega)
        have NQ := Lib.hid (Q.out.dg hd7 (show w1.heap.size ≠ (w.heap.size + 1) by have := Hgl.out; have := S1.out; have := S2.out; have := S3.out; have := Gb2.out; have := Gb.out; have := Sq.out; have := Sr.out; have := Sz9.out; have := S7.out; omega))
        have NR := Lib.hid (R.out.dg hd7 (show w.heap.size ≠ (w.heap.size + 1) by have := Hgl.out; have := S1.out; have := S2.out; have := S3.out; have := Gb2.out; have := Gb.out; have := Sq.out; have := Sr.out; have := Sz9.out; have := S7.out; omega))
        have Q := NQ; clear NQ
        have R := NR; clear NR
        have HV := Lib.hid (HV.out.dg hd7 (show (w.heap.size + 1) < (w.heap.size + 2) by have := Hgl.out; have := S1.out; have := S2.out; have := S3.out; have := Gb2.out; have := Gb.out; have := Sq.out; have := Sr.out; have := Sz9.out; have := S7.out; omega))
        have Hc7 := Lib.hid (hc7.mono (j := 0 + 144) (by omega))
        have Hd7 := Lib.hid (Hdr.out.trans hd7)
        clear hc7 hd7
        by_cases ey0 : y = 0
        · have zy0 : (y == 0) = true := by rw [ey0]; rfl
          clear ey0
          have hp9 : p ≤ 8 := by omega
          obtain ⟨vs, hvo, hvi⟩ := (((HL.out.alloc (Obj.cells #[.int .i64 t, .int .i64 t] 3)).alloc (Obj.cells #[.slice (some ⟨w7.heap.size, 0, none⟩) 2 2] 34))).ex
          have hlb := HL.out.lt
          have qQ0 := Q.out.cell 0
          have qQ1 := Q.out.cell 1
          have qQ2 := Q.out.cell 2
          have qQ3 := Q.out.cell 3
          have qQ4 := Q.out.cell 4
          have qQ5 := Q.out.cell 5
          simp at qQ0 qQ1 qQ2 qQ3 qQ4 qQ5
          have qQl := Q.out.lt
          go_wp2_with (at_builtin; refine wpList_append_own _ rfl _ _ 54 rfl wr5.heap.size 34 i0 (.slice none 0 0) 1 24 Tryz.underlying54 hi hz0 hz1 hz2 rfl (by decide) _ _ _ rfl hvo ⟨w7.heap.size + 1, 0, none⟩ 1 1 [.slice (some ⟨w7.heap.size, 0, none⟩) 2 2] rfl rfl ?c1 ?c2 ?c3 ?c4 ?c5 ?_)
          case c1 => exact one_cellJ (show Blk (World.alloc (World.alloc w7 (Obj.cells #[.int .i64 t, .int .i64 t] 3)) (Obj.cells #[.slice (some ⟨w7.heap.size, 0, none⟩) 2 2] 34)) (w7.heap.size + 1) 34 #[.slice (some ⟨w7.heap.size, 0, none⟩) 2 2] by have h9 := Blk.new (World.alloc w7 (Obj.cells #[.int .i64 t, .int .i64 t] 3)) 34 #[.slice (some ⟨w7.heap.size, 0, none⟩) 2 2]; (try simp only [World.size_alloc] at h9); exact h9)
          case c2 => intro x hx; simp at hx; rcases hx with rfl <;> rfl
          case c3 => unfold maxLen; omega
          case c4 => omega
          case c5 => (try simp only [World.size_alloc]); have := S1.out; have := S2.out; have := S3.out; have := Gb2.out; have := Gb.out; have := Sq.out; have := Sr.out; have := Sz9.out; have := S7.out; omega
          intro v9 w9 hown9 hgrow9 _
          clear qQ0 qQ1 qQ2 qQ3 qQ4 qQ5 qQl
          have gr9 : ∀ r, Value.ownBlock _ = some r → wr5.heap.size ≤ r := fun r hr => (hlb r hr).1
          have S99 := Lib.hid (show w7.heap.size + 2 ≤ w9.heap.size by have h9 := hgrow9.size; (try simp only [World.size_alloc] at h9); omega)
          have hnew9 : ∀ x ∈ ([.slice (some ⟨w7.heap.size, 0, none⟩) 2 2] : List Value), In1 w9 wp.heap.size (w7.heap.size + 1) x := by
            intro x hx
            simp only [List.mem_cons, List.not_mem_nil, or_false] at hx
            rcases hx with rfl
            · exact (((In1.lit (b := wp.heap.size) w7 [t, t] (by have := S1.out; have := S2.out; have := S3.out; have := Gb2.out; have := Gb.out; have := Sq.out; have := Sr.out; have := Sz9.out; have := S7.out; omega) (by simp)).on (bal (Below.refl _ _) _)).fresh hgrow9 (fun g k hg hk => by have := (hlb g hg).2; simp [Value.ownBlock] at hk; omega))
          have HL := Lib.hid (LR.app (H' := w7.heap.size + 1) hown9 hvi hgrow9 gr9 hnew9 (by have := S1.out; have := S2.out; have := S3.out; have := Gb2.out; have := Gb.out; have := Sq.out; have := Sr.out; have := Sz9.out; have := S7.out; omega)); clear hnew9
          have Q := Lib.hid (Blk.grownK ((Q.out.alloc (Obj.cells #[.int .i64 t, .int .i64 t] 3)).alloc (Obj.cells #[.slice (some ⟨w7.heap.size, 0, none⟩) 2 2] 34)) hgrow9 (fun r hr => by have := gr9 r hr; have := Hgl.out; have := S1.out; have := S2.out; have := S3.out; have := Gb2.out; have := Gb.out; have := Sq.out; have := Sr.out; have := Sz9.out; have := S7.out; omega))
          have R := Lib.hid (Blk.grownK ((R.out.alloc (Obj.cells #[.int .i64 t, .int .i64 t] 3)).alloc (Obj.cells #[.slice (some ⟨w7.heap.size, 0, none⟩) 2 2] 34)) hgrow9 (fun r hr => by have := gr9 r hr; have := Hgl.out; have := S1.out; have := S2.out; have := S3.out; have := Gb2.out; have := Gb.out; have := Sq.out; have := Sr.out; have := Sz9.out; have := S7.out; omega))
          have HV := Lib.hid (IR.grownL ((HV.out.alloc (Obj.cells #[.int .i64 t, .int .i64 t] 3)).alloc (Obj.cells #[.slice (some ⟨w7.heap.size, 0, none⟩) 2 2] 34)) hgrow9 (fun g k hg hk => by have := gr9 g hg; have := HVlt.out k hk; omega))
          have Hc99 := Lib.hid (((Hc7.out.alloc (Obj.cells #[.int .i64 t, .int .i64 t] 3)).alloc (Obj.cells #[.slice (some ⟨w7.heap.size, 0, none⟩) 2 2] 34)).grown hgrow9 (fun r hr => by have := gr9 r hr; have := Hgl.out; have := S1.out; have := S2.out; have := S3.out; have := Gb2.out; have := Gb.out; have := Sq.out; have := Sr.out; have := Sz9.out; have := S7.out; omega))
          have Hd99 := Lib.hid (((Hd7.out.alloc (Obj.cells #[.int .i64 t, .int .i64 t] 3)).alloc (Obj.cells #[.slice (some ⟨w7.heap.size, 0, none⟩) 2 2] 34)).grown hgrow9 (fun r hr => by have := gr9 r hr; have := S1.out; have := S2.out; have := S3.out; have := Gb2.out; have := Gb.out; have := Sq.out; have := Sr.out; have := Sz9.out; have := S7.out; omega))
          clear hown9 hgrow9 gr9 hvo hvi hlb
          have qQ0 := Q.out.cell 0
          have qQ1 := Q.out.cell 1
          have qQ2 := Q.out.cell 2
          have qQ3 := Q.out.cell 3
          have qQ4 := Q.out.cell 4
          have qQ5 := Q.out.cell 5
          simp at qQ0 qQ1 qQ2 qQ3 qQ4 qQ5
          have qQl := Q.out.lt
          have qR0 := R.out.cell 0
          have qR1 := R.out.cell 1
          have qR2 := R.out.cell 2
          have qR3 := R.out.cell 3
          have qR4 := R.out.cell 4
          have qR5 := R.out.cell 5
          simp at qR0 qR1 qR2 qR3 qR4 qR5
          have qRl := R.out.lt
          have qRf := R.out.frozen
          have nQR : w1.heap.size ≠ w.heap.size := by have := Hgl.out; have := S1.out; have := S2.out; have := S3.out; have := Gb2.out; have := Gb.out; have := Sq.out; have := Sr.out; have := Sz9.out; have := S7.out; have := S99.out; omega
          have nRQ : w.heap.size ≠ w1.heap.size := fun e => nQR e.symm
          go_wp2
          clear qQ0 qQ1 qQ2 qQ3 qQ4 qQ5 qQl qR0 qR1 qR2 qR3 qR4 qR5 qRl qRf nQR nRQ
          have HR9 := (show Blk (World.setCell (World.setCell (World.setCell (World.setCell (World.setCell (World.setCell w9 ⟨w.heap.size, 0, none⟩ (.int .i64 a)) ⟨w.heap.size, 1, none⟩ (.int .i64 b)) ⟨w.heap.size, 2, none⟩ (.int .i64 m)) ⟨w.heap.size, 3, none⟩ (.int .i64 e9)) ⟨w.heap.size, 4, none⟩ (.int .i64 t)) ⟨w.heap.size, 5, none⟩ (.slice A9 nv c9)) (w.heap.size) 51 #[.int .i64 a, .int .i64 b, .int .i64 m, .int .i64 e9, .int .i64 t, .slice A9 nv c9] by have h9 := ((((((R.out.set 0 (.int .i64 a)).set 1 (.int .i64 b)).set 2 (.int .i64 m)).set 3 (.int .i64 e9)).set 4 (.int .i64 t)).set 5 (.slice A9 nv c9)); simpa using h9)
          have k0 := HR9.cell 0
          have k1 := HR9.cell 1
          have k2 := HR9.cell 2
          have k3 := HR9.cell 3
          have k4 := HR9.cell 4
          have k5 := HR9.cell 5
          simp at k0 k1 k2 k3 k4 k5
          obtain ⟨ess9, -, hnr9⟩ := (((((((HL.out.st (p := ⟨w.heap.size, 0, none⟩) (show w.heap.size < wp.heap.size by have := Hgl.out; have := S1.out; have := S2.out; have := S3.out; have := Gb2.out; have := Gb.out; have := Sq.out; have := Sr.out; have := Sz9.out; have := S7.out; have := S99.out; omega) (show w.heap.size < wr5.heap.size by have := Hgl.out; have := S1.out; have := S2.out; have := S3.out; have := Gb2.out; have := Gb.out; have := Sq.out; have := Sr.out; have := Sz9.out; have := S7.out; have := S99.out; omega) (.int .i64 a)).st (p := ⟨w.heap.size, 1, none⟩) (show w.heap.size < wp.heap.size by have := Hgl.out; have := S1.out; have := S2.out; have := S3.out; have := Gb2.out; have := Gb.out; have := Sq.out; have := Sr.out; have := Sz9.out; have := S7.out; have := S99.out; omega) (show w.heap.size < wr5.heap.size by have := Hgl.out; have := S1.out; have := S2.out; have := S3.out; have := Gb2.out; have := Gb.out; have := Sq.out; have := Sr.out; have := Sz9.out; have := S7.out; have := S99.out; omega) (.int .i64 b)).st (p := ⟨w.heap.size, 2, none⟩) (show w.heap.size < wp.heap.size by have := Hgl.out; have := S1.out; have := S2.out; have := S3.out; have := Gb2.out; have := Gb.out; have := Sq.out; have := Sr.out; have := Sz9.out; have := S7.out; have := S99.out; omega) (show w.heap.size < wr5.heap.size by have := Hgl.out; have := S1.out; have := S2.out; have := S3.out; have := Gb2.out; have := Gb.out; have := Sq.out; have := Sr.out; have := Sz9.out; have := S7.out; have := S99.out; omega) (.int .i64 m)).st (p := ⟨w.heap.size, 3, none⟩) (show w.heap.size < wp.heap.size by have := Hgl.out; have := S1.out; have := S2.out; have := S3.out; have := Gb2.out; have := Gb.out; have := Sq.out; have := Sr.out; have := Sz9.out; have := S7.out; have := S99.out; omega) (show w.heap.size < wr5.heap.size by have := Hgl.out; have := S1.out; have := S2.out; have := S3.out; have := Gb2.out; have := Gb.out; have := Sq.out; have := Sr.out; have := Sz9.out; have := S7.out; have := S99.out; omega) (.int .i64 e9)).st (p := ⟨w.heap.size, 4, none⟩) (show w.heap.size < wp.heap.size by have := Hgl.out; have := S1.out; have := S2.out; have := S3.out; have := Gb2.out; have := Gb.out; have := Sq.out; have := Sr.out; have := Sz9.out; have := S7.out; have := S99.out; omega) (show w.heap.size < wr5.heap.size by have := Hgl.out; have := S1.out; have := S2.out; have := S3.out; have := Gb2.out; have := Gb.out; have := Sq.out; have := Sr.out; have := Sz9.out; have := S7.out; have := S99.out; omega) (.int .i64 t)).st (p := ⟨w.heap.size, 5, none⟩) (show w.heap.size < wp.heap.size by have := Hgl.out; have := S1.out; have := S2.out; have := S3.out; have := Gb2.out; have := Gb.out; have := Sq.out; have := Sr.out; have := Sz9.out; have := S7.out; have := S99.out; omega) (show w.heap.size < wr5.heap.size by have := Hgl.out; have := S1.out; have := S2.out; have := S3.out; have := Gb2.out; have := Gb.out; have := Sq.out; have := Sr.out; have := Sz9.out; have := S7.out; have := S99.out; omega) (.slice A9 nv c9))).nrd
          exact bodyPost_ret (v := .tuple #[.agg #[.int .i64 a, .int .i64 b, .int .i64 m, .int .i64 e9, .int .i64 t, .slice A9 nv c9], v9]) (by simp [results, Tryz.results39, go_sem, k0, k1, k2, k3, k4, k5]) rfl ⟨⟨⟨a, b, m, e9, t, .slice A9 nv c9, nv, v9, ess9, hnv, rfl, ((((((HV.out.st (p := ⟨w.heap.size, 0, none⟩) (by intro k9 hk9; have := GHV.out k9 hk9; show k9 ≠ w.heap.size; have := Hgl.out; have := S1.out; have := S2.out; have := S3.out; have := Gb2.out; have := Gb.out; have := Sq.out; have := Sr.out; have := Sz9.out; have := S7.out; have := S99.out; omega) (.int .i64 a)).st (p := ⟨w.heap.size, 1, none⟩) (by intro k9 hk9; have := GHV.out k9 hk9; show k9 ≠ w.heap.size; have := Hgl.out; have := S1.out; have := S2.out; have := S3.out; have := Gb2.out; have := Gb.out; have := Sq.out; have := Sr.out; have := Sz9.out; have := S7.out; have := S99.out; omega) (.int .i64 b)).st (p := ⟨w.heap.size, 2, none⟩) (by intro k9 hk9; have := GHV.out k9 hk9; show k9 ≠ w.heap.size; have := Hgl.out; have := S1.out; have := S2.out; have := S3.out; have := Gb2.out; have := Gb.out; have := Sq.out; have := Sr.out; have := Sz9.out; have := S7.out; have := S99.out; omega) (.int .i64 m)).st (p := ⟨w.heap.size, 3, none⟩) (by intro k9 hk9; have := GHV.out k9 hk9; show k9 ≠ w.heap.size; have := Hgl.out; have := S1.out; have := S2.out; have := S3.out; have := Gb2.out; have := Gb.out; have := Sq.out; have := Sr.out; have := Sz9.out; have := S7.out; have := S99.out; omega) (.int .i64 e9)).st (p := ⟨w.heap.size, 4, none⟩) (by intro k9 hk9; have := GHV.out k9 hk9; show k9 ≠ w.heap.size; have := Hgl.out; have := S1.out; have := S2.out; have := S3.out; have := Gb2.out; have := Gb.out; have := Sq.out; have := Sr.out; have := Sz9.out; have := S7.out; have := S99.out; omega) (.int .i64 t)).st (p := ⟨w.heap.size, 5, none⟩) (by intro k9 hk9; have := GHV.out k9 hk9; show k9 ≠ w.heap.size; have := Hgl.out; have := S1.out; have := S2.out; have := S3.out; have := Gb2.out; have := Gb.out; have := Sq.out; have := Sr.out; have := Sz9.out; have := S7.out; have := S99.out; omega) (.slice A9 nv c9)).mono (by omega), hnr9⟩⟩, ((((((Hd99.out.st (p := ⟨w.heap.size, 0, none⟩) (show w.heap.size ≤ w.heap.size by have := Hgl.out; have := S1.out; have := S2.out; have := S3.out; have := Gb2.out; have := Gb.out; have := Sq.out; have := Sr.out; have := Sz9.out; have := S7.out; have := S99.out; omega) (.int .i64 a)).st (p := ⟨w.heap.size, 1, none⟩) (show w.heap.size ≤ w.heap.size by have := Hgl.out; have := S1.out; have := S2.out; have := S3.out; have := Gb2.out; have := Gb.out; have := Sq.out; have := Sr.out; have := Sz9.out; have := S7.out; have := S99.out; omega) (.int .i64 b)).st (p := ⟨w.heap.size, 2, none⟩) (show w.heap.size ≤ w.heap.size by have := Hgl.out; have := S1.out; have := S2.out; have := S3.out; have := Gb2.out; have := Gb.out; have := Sq.out; have := Sr.out; have := Sz9.out; have := S7.out; have := S99.out; omega) (.int .i64 m)).st (p := ⟨w.heap.size, 3, none⟩) (show w.heap.size ≤ w.heap.size by have := Hgl.out; have := S1.out; have := S2.out; have := S3.out; have := Gb2.out; have := Gb.out; have := Sq.out; have := Sr.out; have := Sz9.out; have := S7.out; have := S99.out; omega) (.int .i64 e9)).st (p := ⟨w.heap.size, 4, none⟩) (show w.heap.size ≤ w.heap.size by have := Hgl.out; have := S1.out; have := S2.out; have := S3.out; have := Gb2.out; have := Gb.out; have := Sq.out; have := Sr.out; have := Sz9.out; have := S7.out; have := S99.out; omega) (.int .i64 t)).st (p := ⟨w.heap.size, 5, none⟩) (show w.heap.size ≤ w.heap.size by have := Hgl.out; have := S1.out; have := S2.out; have := S3.out; have := Gb2.out; have := Gb.out; have := Sq.out; have := Sr.out; have := Sz9.out; have := S7.out; have := S99.out; omega) (.slice A9 nv c9)).below (by have := S1.out; have := S2.out; have := S3.out; have := Gb2.out; have := Gb.out; have := Sq.out; have := Sr.out; have := Sz9.out; have := S7.out; have := S99.out; omega) (Nat.le_refl _)⟩
        · by_cases ey1 : y = 1
          · have zy1 : (y == 1) = true := by rw [ey1]; rfl
            have zy0 : (y == 0) = false := by rw [ey1]; rfl
            clear ey0 ey1
            have hp9 : p ≤ 8 := by omega
            rcases HL.out.form with ⟨rfl, rfl⟩ | ⟨gl, cl, rfl, hgl1, hgl2, hpc, hcm⟩
            · have qQ0 := Q.out.cell 0
              have qQ1 := Q.out.cell 1
              have qQ2 := Q.out.cell 2
              have qQ3 := Q.out.cell 3
              have qQ4 := Q.out.cell 4
              have qQ5 := Q.out.cell 5
              simp at qQ0 qQ1 qQ2 qQ3 qQ4 qQ5
              have qQl := Q.out.lt
              have qR0 := R.out.cell 0
              have qR1 := R.out.cell 1
              have qR2 := R.out.cell 2
              have qR3 := R.out.cell 3
              have qR4 := R.out.cell 4
              have qR5 := R.out.cell 5
              simp at qR0 qR1 qR2 qR3 qR4 qR5
              have qRl := R.out.lt
              have qRf := R.out.frozen
              have nQR : w1.heap.size ≠ w.heap.size := by have := Hgl.out; have := S1.out; have := S2.out; have := S3.out; have := Gb2.out; have := Gb.out; have := Sq.out; have := Sr.out; have := Sz9.out; have := S7.out; omega
              have nRQ : w.heap.size ≠ w1.heap.size := fun e => nQR e.symm
              go_wp2
              clear qQ0 qQ1 qQ2 qQ3 qQ4 qQ5 qQl qR0 qR1 qR2 qR3 qR4 qR5 qRl qRf nQR nRQ
              have HR9 := (show Blk (World.setCell (World.setCell (World.setCell (World.setCell (World.setCell (World.setCell w7 ⟨w.heap.size, 0, none⟩ (.int .i64 a)) ⟨w.heap.size, 1, none⟩ (.int .i64 b)) ⟨w.heap.size, 2, none⟩ (.int .i64 m)) ⟨w.heap.size, 3, none⟩ (.int .i64 e9)) ⟨w.heap.size, 4, none⟩ (.int .i64 t)) ⟨w.heap.size, 5, none⟩ (.slice A9 nv c9)) (w.heap.size) 51 #[.int .i64 a, .int .i64 b, .int .i64 m, .int .i64 e9, .int .i64 t, .slice A9 nv c9] by have h9 := ((((((R.out.set 0 (.int .i64 a)).set 1 (.int .i64 b)).set 2 (.int .i64 m)).set 3 (.int .i64 e9)).set 4 (.int .i64 t)).set 5 (.slice A9 nv c9)); simpa using h9)
              have k0 := HR9.cell 0
              have k1 := HR9.cell 1
              have k2 := HR9.cell 2
              have k3 := HR9.cell 3
              have k4 := HR9.cell 4
              have k5 := HR9.cell 5
              simp at k0 k1 k2 k3 k4 k5
              obtain ⟨ess9, -, hnr9⟩ := (((((((HL.out.st (p := ⟨w.heap.size, 0, none⟩) (show w.heap.size < wp.heap.size by have := Hgl.out; have := S1.out; have := S2.out; have := S3.out; have := Gb2.out; have := Gb.out; have := Sq.out; have := Sr.out; have := Sz9.out; have := S7.out; omega) (show w.heap.size < wr5.heap.size by have := Hgl.out; have := S1.out; have := S2.out; have := S3.out; have := Gb2.out; have := Gb.out; have := Sq.out; have := Sr.out; have := Sz9.out; have := S7.out; omega) (.int .i64 a)).st (p := ⟨w.heap.size, 1, none⟩) (show w.heap.size < wp.heap.size by have := Hgl.out; have := S1.out; have := S2.out; have := S3.out; have := Gb2.out; have := Gb.out; have := Sq.out; have := Sr.out; have := Sz9.out; have := S7.out; omega) (show w.heap.size < wr5.heap.size by have := Hgl.out; have := S1.out; have := S2.out; have := S3.out; have := Gb2.out; have := Gb.out; have := Sq.out; have := Sr.out; have := Sz9.out; have := S7.out; omega) (.int .i64 b)).st (p := ⟨w.heap.size, 2, none⟩) (show w.heap.size < wp.heap.size by have := Hgl.out; have := S1.out; have := S2.out; have := S3.out; have := Gb2.out; have := Gb.out; have := Sq.out; have := Sr.out; have := Sz9.out; have := S7.out; omega) (show w.heap.size < wr5.heap.size by have := Hgl.out; have := S1.out; have := S2.out; have := S3.out; have := Gb2.out; have := Gb.out; have := Sq.out; have := Sr.out; have := Sz9.out; have := S7.out; omega) (.int .i64 m)).st (p := ⟨w.heap.size, 3, none⟩) (show w.heap.size < wp.heap.size by have := Hgl.out; have := S1.out; have := S2.out; have := S3.out; have := Gb2.out; have := Gb.out; have := Sq.out; have := Sr.out; have := Sz9.out; have := S7.out; omega) (show w.heap.size < wr5.heap.size by have := Hgl.out; have := S1.out; have := S2.out; have := S3.out; have := Gb2.out; have := Gb.out; have := Sq.out; have := Sr.out; have := Sz9.out; have := S7.out; omega) (.int .i64 e9)).st (p := ⟨w.heap.size, 4, none⟩) (show w.heap.size < wp.heap.size by have := Hgl.out; have := S1.out; have := S2.out; have := S3.out; have := Gb2.out; have := Gb.out; have := Sq.out; have := Sr.out; have := Sz9.out; have := S7.out; omega) (show w.heap.size < wr5.heap.size by have := Hgl.out; have := S1.out; have := S2.out; have := S3.out; have := Gb2.out; have := Gb.out; have := Sq.out; have := Sr.out; have := Sz9.out; have := S7.out; omega) (.int .i64 t)).st (p := ⟨w.heap.size, 5, none⟩) (show w.heap.size < wp.heap.size by have := Hgl.out; have := S1.out; have := S2.out; have := S3.out; have := Gb2.out; have := Gb.out; have := Sq.out; have := Sr.out; have := Sz9.out; have := S7.out; omega) (show w.heap.size < wr5.heap.size by have := Hgl.out; have := S1.out; have := S2.out; have := S3.out; have := Gb2.out; have := Gb.out; have := Sq.out; have := Sr.out; have := Sz9.out; have := S7.out; omega) (.slice A9 nv c9))).nrd
              exact bodyPost_ret (v := .tuple #[.agg #[.int .i64 a, .int .i64 b, .int .i64 m, .int .i64 e9, .int .i64 t, .slice A9 nv c9], .slice none 0 0]) (by simp [results, Tryz.results39, go_sem, k0, k1, k2, k3, k4, k5]) rfl ⟨⟨⟨a, b, m, e9, t, .slice A9 nv c9, nv, .slice none 0 0, ess9, hnv, rfl, ((((((HV.out.st (p := ⟨w.heap.size, 0, none⟩) (by intro k9 hk9; have := GHV.out k9 hk9; show k9 ≠ w.heap.size; have := Hgl.out; have := S1.out; have := S2.out; have := S3.out; have := Gb2.out; have := Gb.out; have := Sq.out; have := Sr.out; have := Sz9.out; have := S7.out; omega) (.int .i64 a)).st (p := ⟨w.heap.size, 1, none⟩) (by intro k9 hk9; have := GHV.out k9 hk9; show k9 ≠ w.heap.size; have := Hgl.out; have := S1.out; have := S2.out; have := S3.out; have := Gb2.out; have := Gb.out; have := Sq.out; have := Sr.out; have := Sz9.out; have := S7.out; omega) (.int .i64 b)).st (p := ⟨w.heap.size, 2, none⟩) (by intro k9 hk9; have := GHV.out k9 hk9; show k9 ≠ w.heap.size; have := Hgl.out; have := S1.out; have := S2.out; have := S3.out; have := Gb2.out; have := Gb.out; have := Sq.out; have := Sr.out; have := Sz9.out; have := S7.out; omega) (.int .i64 m)).st (p := ⟨w.heap.size, 3, none⟩) (by intro k9 hk9; have := GHV.out k9 hk9; show k9 ≠ w.heap.size; have := Hgl.out; have := S1.out; have := S2.out; have := S3.out; have := Gb2.out; have := Gb.out; have := Sq.out; have := Sr.out; have := Sz9.out; have := S7.out; omega) (.int .i64 e9)).st (p := ⟨w.heap.size, 4, none⟩) (by intro k9 hk9; have := GHV.out k9 hk9; show k9 ≠ w.heap.size; have := Hgl.out; have := S1.out; have := S2.out; have := S3.out; have := Gb2.out; have := Gb.out; have := Sq.out; have := Sr.out; have := Sz9.out; have := S7.out; omega) (.int .i64 t)).st (p := ⟨w.heap.size, 5, none⟩) (by intro k9 hk9; have := GHV.out k9 hk9; show k9 ≠ w.heap.size; have := Hgl.out; have := S1.out; have := S2.out; have := S3.out; have := Gb2.out; have := Gb.out; have := Sq.out; have := Sr.out; have := Sz9.out; have := S7.out; omega) (.slice A9 nv c9)).mono (by omega), hnr9⟩⟩, ((((((Hd7.out.st (p := ⟨w.heap.size, 0, none⟩) (show w.heap.size ≤ w.heap.size by have := Hgl.out; have := S1.out; have := S2.out; have := S3.out; have := Gb2.out; have := Gb.out; have := Sq.out; have := Sr.out; have := Sz9.out; have := S7.out; omega) (.int .i64 a)).st (p := ⟨w.heap.size, 1, none⟩) (show w.heap.size ≤ w.heap.size by have := Hgl.out; have := S1.out; have := S2.out; have := S3.out; have := Gb2.out; have := Gb.out; have := Sq.out; have := Sr.out; have := Sz9.out; have := S7.out; omega) (.int .i64 b)).st (p := ⟨w.heap.size, 2, none⟩) (show w.heap.size ≤ w.heap.size by have := Hgl.out; have := S1.out; have := S2.out; have := S3.out; have := Gb2.out; have := Gb.out; have := Sq.out; have := Sr.out; have := Sz9.out; have := S7.out; omega) (.int .i64 m)).st (p := ⟨w.heap.size, 3, none⟩) (show w.heap.size ≤ w.heap.size by have := Hgl.out; have := S1.out; have := S2.out; have := S3.out; have := Gb2.out; have := Gb.out; have := Sq.out; have := Sr.out; have := Sz9.out; have := S7.out; omega) (.int .i64 e9)).st (p := ⟨w.heap.size, 4, none⟩) (show w.heap.size ≤ w.heap.size by have := Hgl.out; have := S1.out; have := S2.out; have := S3.out; have := Gb2.out; have := Gb.out; have := Sq.out; have := Sr.out; have := Sz9.out; have := S7.out; omega) (.int .i64 t)).st (p := ⟨w.heap.size, 5, none⟩) (show w.heap.size ≤ w.heap.size by have := Hgl.out; have := S1.out; have := S2.out; have := S3.out; have := Gb2.out; have := Gb.out; have := Sq.out; have := Sr.out; have := Sz9.out; have := S7.out; omega) (.slice A9 nv c9)).below (by have := S1.out; have := S2.out; have := S3.out; have := Gb2.out; have := Gb.out; have := Sq.out; have := Sr.out; have := Sz9.out; have := S7.out; omega) (Nat.le_refl _)⟩
            · by_cases hp1 : 0 < p
              · have hpi : (0 : Int) < (p : Int) := by omega
                obtain ⟨x0, hx0, hIx⟩ := HL.out.cell hp1
                obtain ⟨Ax, nx, cx, rfl⟩ := hIx.form
                have HX := Lib.hid hIx; clear hIx
                have hll := hgl2
                obtain ⟨vs, hvo, hvi⟩ := ((HL.out.alloc (Obj.cells #[.slice Ax nx cx] 34))).ex
                have hlb := HL.out.lt
                have qQ0 := Q.out.cell 0
                have qQ1 := Q.out.cell 1
                have qQ2 := Q.out.cell 2
                have qQ3 := Q.out.cell 3
                have qQ4 := Q.out.cell 4
                have qQ5 := Q.out.cell 5
                simp at qQ0 qQ1 qQ2 qQ3 qQ4 qQ5
                have qQl := Q.out.lt
                go_wp2_with (at_builtin; refine wpList_append_own _ rfl _ _ 54 rfl wr5.heap.size 34 i0 (.slice none 0 0) 1 24 Tryz.underlying54 hi hz0 hz1 hz2 rfl (by decide) _ _ _ rfl hvo ⟨w7.heap.size, 0, none⟩ 1 1 [.slice Ax nx cx] rfl rfl ?c1 ?c2 ?c3 ?c4 ?c5 ?_)
                case c1 => exact one_cellJ (show Blk (World.alloc w7 (Obj.cells #[.slice Ax nx cx] 34)) (w7.heap.size) 34 #[.slice Ax nx cx] by have h9 := Blk.new w7 34 #[.slice Ax nx cx]; (try simp only [World.size_alloc] at h9); exact h9)
                case c2 => intro x hx; simp at hx; rcases hx with rfl <;> rfl
                case c3 => unfold maxLen; omega
                case c4 => omega
                case c5 => (try simp only [World.size_alloc]); have := S1.out; have := S2.out; have := S3.out; have := Gb2.out; have := Gb.out; have := Sq.out; have := Sr.out; have := Sz9.out; have := S7.out; omega
                intro v9 w9 hown9 hgrow9 _
                clear qQ0 qQ1 qQ2 qQ3 qQ4 qQ5 qQl
                have gr9 : ∀ r, Value.ownBlock _ = some r → wr5.heap.size ≤ r := fun r hr => (hlb r hr).1
                have S99 := Lib.hid (show w7.heap.size + 1 ≤ w9.heap.size by have h9 := hgrow9.size; (try simp only [World.size_alloc] at h9); omega)
                have hnew9 : ∀ x ∈ ([.slice Ax nx cx] : List Value), In1 w9 wp.heap.size (w7.heap.size + 1) x := by
                  intro x hx
                  simp only [List.mem_cons, List.not_mem_nil, or_false] at hx
                  rcases hx with rfl
                  · exact (((HX.out.on (bal (Below.refl _ _) _)).grown hgrow9 gr9).more (by have := S1.out; have := S2.out; have := S3.out; have := Gb2.out; have := Gb.out; have := Sq.out; have := Sr.out; have := Sz9.out; have := S7.out; omega))
                have HL := Lib.hid (LR.app (H' := w7.heap.size + 1) hown9 hvi hgrow9 gr9 hnew9 (by have := S1.out; have := S2.out; have := S3.out; have := Gb2.out; have := Gb.out; have := Sq.out; have := Sr.out; have := Sz9.out; have := S7.out; omega)); clear hnew9
                have Q := Lib.hid (Blk.grownK (Q.out.alloc _) hgrow9 (fun r hr => by have := gr9 r hr; have := Hgl.out; have := S1.out; have := S2.out; have := S3.out; have := Gb2.out; have := Gb.out; have := Sq.out; have := Sr.out; have := Sz9.out; have := S7.out; omega))
                have R := Lib.hid (Blk.grownK (R.out.alloc _) hgrow9 (fun r hr => by have := gr9 r hr; have := Hgl.out; have := S1.out; have := S2.out; have := S3.out; have := Gb2.out; have := Gb.out; have := Sq.out; have := Sr.out; have := Sz9.out; have := S7.out; omega))
                have HV := Lib.hid (IR.grownL (HV.out.alloc _) hgrow9 (fun g k hg hk => by have := gr9 g hg; have := HVlt.out k hk; omega))
                have Hc99 := Lib.hid ((Hc7.out.alloc _).grown hgrow9 (fun r hr => by have := gr9 r hr; have := Hgl.out; have := S1.out; have := S2.out; have := S3.out; have := Gb2.out; have := Gb.out; have := Sq.out; have := Sr.out; have := Sz9.out; have := S7.out; omega))
                have Hd99 := Lib.hid ((Hd7.out.alloc _).grown hgrow9 (fun r hr => by have := gr9 r hr; have := S1.out; have := S2.out; have := S3.out; have := Gb2.out; have := Gb.out; have := Sq.out; have := Sr.out; have := Sz9.out; have := S7.out; omega))
                clear hown9 hgrow9 gr9 hvo hvi hlb
                have qQ0 := Q.out.cell 0
                have qQ1 := Q.out.cell 1
                have qQ2 := Q.out.cell 2
                have qQ3 := Q.out.cell 3
                have qQ4 := Q.out.cell 4
                have qQ5 := Q.out.cell 5
                simp at qQ0 qQ1 qQ2 qQ3 qQ4 qQ5
                have qQl := Q.out.lt
                have qR0 := R.out.cell 0
                have qR1 := R.out.cell 1
                have qR2 := R.out.cell 2
                have qR3 := R.out.cell 3
                have qR4 := R.out.cell 4
                have qR5 := R.out.cell 5
                simp at qR0 qR1 qR2 qR3 qR4 qR5
                have qRl := R.out.lt
                have qRf := R.out.frozen
                have nQR : w1.heap.size ≠ w.heap.size := by have := Hgl.out; have := S1.out; have := S2.out; have := S3.out; have := Gb2.out; have := Gb.out; have := Sq.out; have := Sr.out; have := Sz9.out; have := S7.out; have := S99.out; omega
                have nRQ : w.heap.size ≠ w1.heap.size := fun e => nQR e.symm
                go_wp2
                clear qQ0 qQ1 qQ2 qQ3 qQ4 qQ5 qQl qR0 qR1 qR2 qR3 qR4 qR5 qRl qRf nQR nRQ
                have HR9 := (show Blk (World.setCell (World.setCell (World.setCell (World.setCell (World.setCell (World.setCell w9 ⟨w.heap.size, 0, none⟩ (.int .i64 a)) ⟨w.heap.size, 1, none⟩ (.int .i64 b)) ⟨w.heap.size, 2, none⟩ (.int .i64 m)) ⟨w.heap.size, 3, none⟩ (.int .i64 e9)) ⟨w.heap.size, 4, none⟩ (.int .i64 t)) ⟨w.heap.size, 5, none⟩ (.slice A9 nv c9)) (w.heap.size) 51 #[.int .i64 a, .int .i64 b, .int .i64 m, .int .i64 e9, .int .i64 t, .slice A9 nv c9] by have h9 := ((((((R.out.set 0 (.int .i64 a)).set 1 (.int .i64 b)).set 2 (.int .i64 m)).set 3 (.int .i64 e9)).set 4 (.int .i64 t)).set 5 (.slice A9 nv c9)); simpa using h9)
                have k0 := HR9.cell 0
                have k1 := HR9.cell 1
                have k2 := HR9.cell 2
                have k3 := HR9.cell 3
                have k4 := HR9.cell 4
                have k5 := HR9.cell 5
                simp at k0 k1 k2 k3 k4 k5
                obtain ⟨ess9, -, hnr9⟩ := (((((((HL.out.st (p := ⟨w.heap.size, 0, none⟩) (show w.heap.size < wp.heap.size by have := Hgl.out; have := S1.out; have := S2.out; have := S3.out; have := Gb2.out; have := Gb.out; have := Sq.out; have := Sr.out; have := Sz9.out; have := S7.out; have := S99.out; omega) (show w.heap.size < wr5.heap.size by have := Hgl.out; have := S1.out; have := S2.out; have := S3.out; have := Gb2.out; have := Gb.out; have := Sq.out; have := Sr.out; have := Sz9.out; have := S7.out; have := S99.out; omega) (.int .i64 a)).st (p := ⟨w.heap.size, 1, none⟩) (show w.heap.size < wp.heap.size by have := Hgl.out; have := S1.out; have := S2.out; have := S3.out; have := Gb2.out; have := Gb.out; have := Sq.out; have := Sr.out; have := Sz9.out; have := S7.out; have := S99.out; omega) (show w.heap.size < wr5.heap.size by have := Hgl.out; have := S1.out; have := S2.out; have := S3.out; have := Gb2.out; have := Gb.out; have := Sq.out; have := Sr.out; have := Sz9.out; have := S7.out; have := S99.out; omega) (.int .i64 b)).st (p := ⟨w.heap.size, 2, none⟩) (show w.heap.size < wp.heap.size by have := Hgl.out; have := S1.out; have := S2.out; have := S3.out; have := Gb2.out; have := Gb.out; have := Sq.out; have := Sr.out; have := Sz9.out; have := S7.out; have := S99.out; omega) (show w.heap.size < wr5.heap.size by have := Hgl.out; have := S1.out; have := S2.out; have := S3.out; have := Gb2.out; have := Gb.out; have := Sq.out; have := Sr.out; have := Sz9.out; have := S7.out; have := S99.out; omega) (.int .i64 m)).st (p := ⟨w.heap.size, 3, none⟩) (show w.heap.size < wp.heap.size by have := Hgl.out; have := S1.out; have := S2.out; have := S3.out; have := Gb2.out; have := Gb.out; have := Sq.out; have := Sr.out; have := Sz9.out; have := S7.out; have := S99.out; omega) (show w.heap.size < wr5.heap.size by have := Hgl.out; have := S1.out; have := S2.out; have := S3.out; have := Gb2.out; have := Gb.out; have := Sq.out; have := Sr.out; have := Sz9.out; have := S7.out; have := S99.out; omega) (.int .i64 e9)).st (p := ⟨w.heap.size, 4, none⟩) (show w.heap.size < wp.heap.size by have := Hgl.out; have := S1.out; have := S2.out; have := S3.out; have := Gb2.out; have := Gb.out; have := Sq.out; have := Sr.out; have := Sz9.out; have := S7.out; have := S99.out; omega) (show w.heap.size < wr5.heap.size by have := Hgl.out; have := S1.out; have := S2.out; have := S3.out; have := Gb2.out; have := Gb.out; have := Sq.out; have := Sr.out; have := Sz9.out; have := S7.out; have := S99.out; omega) (.int .i64 t)).st (p := ⟨w.heap.size, 5, none⟩) (show w.heap.size < wp.heap.size by have := Hgl.out; have := S1.out; have := S2.out; have := S3.out; have := Gb2.out; have := Gb.out; have := Sq.out; have := Sr.out; have := Sz9.out; have := S7.out; have := S99.out; omega) (show w.heap.size < wr5.heap.size by have := Hgl.out; have := S1.out; have := S2.out; have := S3.out; have := Gb2.out; have := Gb.out; have := Sq.out; have := Sr.out; have := Sz9.out; have := S7.out; have := S99.out; omega) (.slice A9 nv c9))).nrd
                exact bodyPost_ret (v := .tuple #[.agg #[.int .i64 a, .int .i64 b, .int .i64 m, .int .i64 e9, .int .i64 t, .slice A9 nv c9], v9]) (by simp [results, Tryz.results39, go_sem, k0, k1, k2, k3, k4, k5]) rfl ⟨⟨⟨a, b, m, e9, t, .slice A9 nv c9, nv, v9, ess9, hnv, rfl, ((((((HV.out.st (p := ⟨w.heap.size, 0, none⟩) (by intro k9 hk9; have := GHV.out k9 hk9; show k9 ≠ w.heap.size; have := Hgl.out; have := S1.out; have := S2.out; have := S3.out; have := Gb2.out; have := Gb.out; have := Sq.out; have := Sr.out; have := Sz9.out; have := S7.out; have := S99.out; omega) (.int .i64 a)).st (p := ⟨w.heap.size, 1, none⟩) (by intro k9 hk9; have := GHV.out k9 hk9; show k9 ≠ w.heap.size; have := Hgl.out; have := S1.out; have := S2.out; have := S3.out; have := Gb2.out; have := Gb.out; have := Sq.out; have := Sr.out; have := Sz9.out; have := S7.out; have := S99.out; omega) (.int .i64 b)).st (p := ⟨w.heap.size, 2, none⟩) (by intro k9 hk9; have := GHV.out k9 hk9; show k9 ≠ w.heap.size; have := Hgl.out; have := S1.out; have := S2.out; have := S3.out; have := Gb2.out; have := Gb.out; have := Sq.out; have := Sr.out; have := Sz9.out; have := S7.out; have := S99.out; omega) (.int .i64 m)).st (p := ⟨w.heap.size, 3, none⟩) (by intro k9 hk9; have := GHV.out k9 hk9; show k9 ≠ w.heap.size; have := Hgl.out; have := S1.out; have := S2.out; have := S3.out; have := Gb2.out; have := Gb.out; have := Sq.out; have := Sr.out; have := Sz9.out; have := S7.out; have := S99.out; omega) (.int .i64 e9)).st (p := ⟨w.heap.size, 4, none⟩) (by intro k9 hk9; have := GHV.out k9 hk9; show k9 ≠ w.heap.size; have := Hgl.out; have := S1.out; have := S2.out; have := S3.out; have := Gb2.out; have := Gb.out; have := Sq.out; have := Sr.out; have := Sz9.out; have := S7.out; have := S99.out; omega) (.int .i64 t)).st (p := ⟨w.heap.size, 5, none⟩) (by intro k9 hk9; have := GHV.out k9 hk9; show k9 ≠ w.heap.size; have := Hgl.out; have := S1.out; have := S2.out; have := S3.out; have := Gb2.out; have := Gb.out; have := Sq.out; have := Sr.out; have := Sz9.out; have := S7.out; have := S99.out; omega) (.slice A9 nv c9)).mono (by omega), hnr9⟩⟩, ((((((Hd99.out.st (p := ⟨w.heap.size, 0, none⟩) (show w.heap.size ≤ w.heap.size by have := Hgl.out; have := S1.out; have := S2.out; have := S3.out; have := Gb2.out; have := Gb.out; have := Sq.out; have := Sr.out; have := Sz9.out; have := S7.out; have := S99.out; omega) (.int .i64 a)).st (p := ⟨w.heap.size, 1, none⟩) (show w.heap.size ≤ w.heap.size by have := Hgl.out; have := S1.out; have := S2.out; have := S3.out; have := Gb2.out; have := Gb.out; have := Sq.out; have := Sr.out; have := Sz9.out; have := S7.out; have := S99.out; omega) (.int .i64 b)).st (p := ⟨w.heap.size, 2, none⟩) (show w.heap.size ≤ w.heap.size by have := Hgl.out; have := S1.out; have := S2.out; have := S3.out; have := Gb2.out; have := Gb.out; have := Sq.out; have := Sr.out; have := Sz9.out; have := S7.out; have := S99.out; omega) (.int .i64 m)).st (p := ⟨w.heap.size, 3, none⟩) (show w.heap.size ≤ w.heap.size by have := Hgl.out; have := S1.out; have := S2.out; have := S3.out; have := Gb2.out; have := Gb.out; have := Sq.out; have := Sr.out; have := Sz9.out; have := S7.out; have := S99.out; omega) (.int .i64 e9)).st (p := ⟨w.heap.size, 4, none⟩) (show w.heap.size ≤ w.heap.size by have := Hgl.out; have := S1.out; have := S2.out; have := S3.out; have := Gb2.out; have := Gb.out; have := Sq.out; have := Sr.out; have := Sz9.out; have := S7.out; have := S99.out; omega) (.int .i64 t)).st (p := ⟨w.heap.size, 5, none⟩) (show w.heap.size ≤ w.heap.size by have := Hgl.out; have := S1.out; have := S2.out; have := S3.out; have := Gb2.out; have := Gb.out; have := Sq.out; have := Sr.out; have := Sz9.out; have := S7.out; have := S99.out; omega) (.slice A9 nv c9)).below (by have := S1.out; have := S2.out; have := S3.out; have := Gb2.out; have := Gb.out; have := Sq.out; have := Sr.out; have := Sz9.out; have := S7.out; have := S99.out; omega) (Nat.le_refl _)⟩
              · have hpi : ¬ (0 : Int) < (p : Int) := by omega
                have qQ0 := Q.out.cell 0
                have qQ1 := Q.out.cell 1
                have qQ2 := Q.out.cell 2
                have qQ3 := Q.out.cell 3
                have qQ4 := Q.out.cell 4
                have qQ5 := Q.out.cell 5
                simp at qQ0 qQ1 qQ2 qQ3 qQ4 qQ5
                have qQl := Q.out.lt
                have qR0 := R.out.cell 0
                have qR1 := R.out.cell 1
                have qR2 := R.out.cell 2
                have qR3 := R.out.cell 3
                have qR4 := R.out.cell 4
                have qR5 := R.out.cell 5
                simp at qR0 qR1 qR2 qR3 qR4 qR5
                have qRl := R.out.lt
                have qRf := R.out.frozen
                have nQR : w1.heap.size ≠ w.heap.size := by have := Hgl.out; have := S1.out; have := S2.out; have := S3.out; have := Gb2.out; have := Gb.out; have := Sq.out; have := Sr.out; have := Sz9.out; have := S7.out; omega
                have nRQ : w.heap.size ≠ w1.heap.size := fun e => nQR e.symm
                go_wp2
                clear qQ0 qQ1 qQ2 qQ3 qQ4 qQ5 qQl qR0 qR1 qR2 qR3 qR4 qR5 qRl qRf nQR nRQ
                have HR9 := (show Blk (World.setCell (World.setCell (World.setCell (World.setCell (World.setCell (World.setCell w7 ⟨w.heap.size, 0, none⟩ (.int .i64 a)) ⟨w.heap.size, 1, none⟩ (.int .i64 b)) ⟨w.heap.size, 2, none⟩ (.int .i64 m)) ⟨w.heap.size, 3, none⟩ (.int .i64 e9)) ⟨w.heap.size, 4, none⟩ (.int .i64 t)) ⟨w.heap.size, 5, none⟩ (.slice A9 nv c9)) (w.heap.size) 51 #[.int .i64 a, .int .i64 b, .int .i64 m, .int .i64 e9, .int .i64 t, .slice A9 nv c9] by have h9 := ((((((R.out.set 0 (.int .i64 a)).set 1 (.int .i64 b)).set 2 (.int .i64 m)).set 3 (.int .i64 e9)).set 4 (.int .i64 t)).set 5 (.slice A9 nv c9)); simpa using h9)
                have k0 := HR9.cell 0
                have k1 := HR9.cell 1
                have k2 := HR9.cell 2
                have k3 := HR9.cell 3
                have k4 := HR9.cell 4
                have k5 := HR9.cell 5
                simp at k0 k1 k2 k3 k4 k5
                obtain ⟨ess9, -, hnr9⟩ := (((((((HL.out.st (p := ⟨w.heap.size, 0, none⟩) (show w.heap.size < wp.heap.size by have := Hgl.out; have := S1.out; have := S2.out; have := S3.out; have := Gb2.out; have := Gb.out; have := Sq.out; have := Sr.out; have := Sz9.out; have := S7.out; omega) (show w.heap.size < wr5.heap.size by have := Hgl.out; have := S1.out; have := S2.out; have := S3.out; have := Gb2.out; have := Gb.out; have := Sq.out; have := Sr.out; have := Sz9.out; have := S7.out; omega) (.int .i64 a)).st (p := ⟨w.heap.size, 1, none⟩) (show w.heap.size < wp.heap.size by have := Hgl.out; have := S1.out; have := S2.out; have := S3.out; have := Gb2.out; have := Gb.out; have := Sq.out; have := Sr.out; have := Sz9.out; have := S7.out; omega) (show w.heap.size < wr5.heap.size by have := Hgl.out; have := S1.out; have := S2.out; have := S3.out; have := Gb2.out; have := Gb.out; have := Sq.out; have := Sr.out; have := Sz9.out; have := S7.out; omega) (.int .i64 b)).st (p := ⟨w.heap.size, 2, none⟩) (show w.heap.size < wp.heap.size by have := Hgl.out; have := S1.out; have := S2.out; have := S3.out; have := Gb2.out; have := Gb.out; have := Sq.out; have := Sr.out; have := Sz9.out; have := S7.out; omega) (show w.heap.size < wr5.heap.size by have := Hgl.out; have := S1.out; have := S2.out; have := S3.out; have := Gb2.out; have := Gb.out; have := Sq.out; have := Sr.out; have := Sz9.out; have := S7.out; omega) (.int .i64 m)).st (p := ⟨w.heap.size, 3, none⟩) (show w.heap.size < wp.heap.size by have := Hgl.out; have := S1.out; have := S2.out; have := S3.out; have := Gb2.out; have := Gb.out; have := Sq.out; have := Sr.out; have := Sz9.out; have := S7.out; omega) (show w.heap.size < wr5.heap.size by have := Hgl.out; have := S1.out; have := S2.out; have := S3.out; have := Gb2.out; have := Gb.out; have := Sq.out; have := Sr.out; have := Sz9.out; have := S7.out; omega) (.int .i64 e9)).st (p := ⟨w.heap.size, 4, none⟩) (show w.heap.size < wp.heap.size by have := Hgl.out; have := S1.out; have := S2.out; have := S3.out; have := Gb2.out; have := Gb.out; have := Sq.out; have := Sr.out; have := Sz9.out; have := S7.out; omega) (show w.heap.size < wr5.heap.size by have := Hgl.out; have := S1.out; have := S2.out; have := S3.out; have := Gb2.out; have := Gb.out; have := Sq.out; have := Sr.out; have := Sz9.out; have := S7.out; omega) (.int .i64 t)).st (p := ⟨w.heap.size, 5, none⟩) (show w.heap.size < wp.heap.size by have := Hgl.out; have := S1.out; have := S2.out; have := S3.out; have := Gb2.out; have := Gb.out; have := Sq.out; have := Sr.out; have := Sz9.out; have := S7.out; omega) (show w.heap.size < wr5.heap.size by have := Hgl.out; have := S1.out; have := S2.out; have := S3.out; have := Gb2.out; have := Gb.out; have := Sq.out; have := Sr.out; have := Sz9.out; have := S7.out; omega) (.slice A9 nv c9))).nrd
                exact bodyPost_ret (v := .tuple #[.agg #[.int .i64 a, .int .i64 b, .int .i64 m, .int .i64 e9, .int .i64 t, .slice A9 nv c9], .slice (some ⟨gl, 0, none⟩) p cl]) (by simp [results, Tryz.results39, go_sem, k0, k1, k2, k3, k4, k5]) rfl ⟨⟨⟨a, b, m, e9, t, .slice A9 nv c9, nv, .slice (some ⟨gl, 0, none⟩) p cl, ess9, hnv, rfl, ((((((HV.out.st (p := ⟨w.heap.size, 0, none⟩) (by intro k9 hk9; have := GHV.out k9 hk9; show k9 ≠ w.heap.size; have := Hgl.out; have := S1.out; have := S2.out; have := S3.out; have := Gb2.out; have := Gb.out; have := Sq.out; have := Sr.out; have := Sz9.out; have := S7.out; omega) (.int .i64 a)).st (p := ⟨w.heap.size, 1, none⟩) (by intro k9 hk9; have := GHV.out k9 hk9; show k9 ≠ w.heap.size; have := Hgl.out; have := S1.out; have := S2.out; have := S3.out; have := Gb2.out; have := Gb.out; have := Sq.out; have := Sr.out; have := Sz9.out; have := S7.out; omega) (.int .i64 b)).st (p := ⟨w.heap.size, 2, none⟩) (by intro k9 hk9; have := GHV.out k9 hk9; show k9 ≠ w.heap.size; have := Hgl.out; have := S1.out; have := S2.out; have := S3.out; have := Gb2.out; have := Gb.out; have := Sq.out; have := Sr.out; have := Sz9.out; have := S7.out; omega) (.int .i64 m)).st (p := ⟨w.heap.size, 3, none⟩) (by intro k9 hk9; have := GHV.out k9 hk9; show k9 ≠ w.heap.size; have := Hgl.out; have := S1.out; have := S2.out; have := S3.out; have := Gb2.out; have := Gb.out; have := Sq.out; have := Sr.out; have := Sz9.out; have := S7.out; omega) (.int .i64 e9)).st (p := ⟨w.heap.size, 4, none⟩) (by intro k9 hk9; have := GHV.out k9 hk9; show k9 ≠ w.heap.size; have := Hgl.out; have := S1.out; have := S2.out; have := S3.out; have := Gb2.out; have := Gb.out; have := Sq.out; have := Sr.out; have := Sz9.out; have := S7.out; omega) (.int .i64 t)).st (p := ⟨w.heap.size, 5, none⟩) (by intro k9 hk9; have := GHV.out k9 hk9; show k9 ≠ w.heap.size; have := Hgl.out; have := S1.out; have := S2.out; have := S3.out; have := Gb2.out; have := Gb.out; have := Sq.out; have := Sr.out; have := Sz9.out; have := S7.out; omega) (.slice A9 nv c9)).mono (by omega), hnr9⟩⟩, ((((((Hd7.out.st (p := ⟨w.heap.size, 0, none⟩) (show w.heap.size ≤ w.heap.size by have := Hgl.out; have := S1.out; have := S2.out; have := S3.out; have := Gb2.out; have := Gb.out; have := Sq.out; have := Sr.out; have := Sz9.out; have := S7.out; omega) (.int .i64 a)).st (p := ⟨w.heap.size, 1, none⟩) (show w.heap.size ≤ w.heap.size by have := Hgl.out; have := S1.out; have := S2.out; have := S3.out; have := Gb2.out; have := Gb.out; have := Sq.out; have := Sr.out; have := Sz9.out; have := S7.out; omega) (.int .i64 b)).st (p := ⟨w.heap.size, 2, none⟩) (show w.heap.size ≤ w.heap.size by have := Hgl.out; have := S1.out; have := S2.out; have := S3.out; have := Gb2.out; have := Gb.out; have := Sq.out; have := Sr.out; have := Sz9.out; have := S7.out; omega) (.int .i64 m)).st (p := ⟨w.heap.size, 3, none⟩) (show w.heap.size ≤ w.heap.size by have := Hgl.out; have := S1.out; have := S2.out; have := S3.out; have := Gb2.out; have := Gb.out; have := Sq.out; have := Sr.out; have := Sz9.out; have := S7.out; omega) (.int .i64 e9)).st (p := ⟨w.heap.size, 4, none⟩) (show w.heap.size ≤ w.heap.size by have := Hgl.out; have := S1.out; have := S2.out; have := S3.out; have := Gb2.out; have := Gb.out; have := Sq.out; have := Sr.out; have := Sz9.out; have := S7.out; omega) (.int .i64 t)).st (p := ⟨w.heap.size, 5, none⟩) (show w.heap.size ≤ w.heap.size by have := Hgl.out; have := S1.out; have := S2.out; have := S3.out; have := Gb2.out; have := Gb.out; have := Sq.out; have := Sr.out; have := Sz9.out; have := S7.out; omega) (.slice A9 nv c9)).below (by have := S1.out; have := S2.out; have := S3.out; have := Gb2.out; have := Gb.out; have := Sq.out; have := Sr.out; have := Sz9.out; have := S7.out; omega) (Nat.le_refl _)⟩
          · by_cases ey2 : y = 2
            · have zy2 : (y == 2) = true := by rw [ey2]; rfl
              have zy0 : (y == 0) = false := by rw [ey2]; rfl
              have zy1 : (y == 1) = false := by rw [ey2]; rfl
              clear ey0 ey1 ey2
              have hp9 : p ≤ 8 := by omega
              obtain ⟨vs, hvo, hvi⟩ := (((HL.out.alloc (Obj.cells #[.int .i64 0] 3)).alloc (Obj.cells #[.slice (some ⟨w7.heap.size, 0, none⟩) 1 1, .slice none 0 0] 34))).ex
              have hlb := HL.out.lt
              have qQ0 := Q.out.cell 0
              have qQ1 := Q.out.cell 1
              have qQ2 := Q.out.cell 2
              have qQ3 := Q.out.cell 3
              have qQ4 := Q.out.cell 4
              have qQ5 := Q.out.cell 5
              simp at qQ0 qQ1 qQ2 qQ3 qQ4 qQ5
              have qQl := Q.out.lt
              go_wp2_with (at_builtin; refine wpList_append_own _ rfl _ _ 54 rfl wr5.heap.size 34 i0 (.slice none 0 0) 1 24 Tryz.underlying54 hi hz0 hz1 hz2 rfl (by decide) _ _ _ rfl hvo ⟨w7.heap.size + 1, 0, none⟩ 2 2 [.slice (some ⟨w7.heap.size, 0, none⟩) 1 1, .slice none 0 0] rfl rfl ?c1 ?c2 ?c3 ?c4 ?c5 ?_)
              case c1 => exact two_cellJ (show Blk (World.alloc (World.alloc w7 (Obj.cells #[.int .i64 0] 3)) (Obj.cells #[.slice (some ⟨w7.heap.size, 0, none⟩) 1 1, .slice none 0 0] 34)) (w7.heap.size + 1) 34 #[.slice (some ⟨w7.heap.size, 0, none⟩) 1 1, .slice none 0 0] by have h9 := Blk.new (World.alloc w7 (Obj.cells #[.int .i64 0] 3)) 34 #[.slice (some ⟨w7.heap.size, 0, none⟩) 1 1, .slice none 0 0]; (try simp only [World.size_alloc] at h9); exact h9)
              case c2 => intro x hx; simp at hx; rcases hx with rfl | rfl <;> rfl
              case c3 => unfold maxLen; omega
              case c4 => omega
              case c5 => (try simp only [World.size_alloc]); have := S1.out; have := S2.out; have := S3.out; have := Gb2.out; have := Gb.out; have := Sq.out; have := Sr.out; have := Sz9.out; have := S7.out; omega
              intro v9 w9 hown9 hgrow9 _
              clear qQ0 qQ1 qQ2 qQ3 qQ4 qQ5 qQl
              have gr9 : ∀ r, Value.ownBlock _ = some r → wr5.heap.size ≤ r := fun r hr => (hlb r hr).1
              have S99 := Lib.hid (show w7.heap.size + 2 ≤ w9.heap.size by have h9 := hgrow9.size; (try simp only [World.size_alloc] at h9); omega)
              have hnew9 : ∀ x ∈ ([.slice (some ⟨w7.heap.size, 0, none⟩) 1 1, .slice none 0 0] : List Value), In1 w9 wp.heap.size (w7.heap.size + 1) x := by
                intro x hx
                simp only [List.mem_cons, List.not_mem_nil, or_false] at hx
                rcases hx with rfl | rfl
                · exact (((In1.lit (b := wp.heap.size) w7 [0] (by have := S1.out; have := S2.out; have := S3.out; have := Gb2.out; have := Gb.out; have := Sq.out; have := Sr.out; have := Sz9.out; have := S7.out; omega) (by simp)).on (bal (Below.refl _ _) _)).fresh hgrow9 (fun g k hg hk => by have := (hlb g hg).2; simp [Value.ownBlock] at hk; omega))
                · exact In1.nil _ _ _
              have HL := Lib.hid (LR.app (H' := w7.heap.size + 1) hown9 hvi hgrow9 gr9 hnew9 (by have := S1.out; have := S2.out; have := S3.out; have := Gb2.out; have := Gb.out; have := Sq.out; have := Sr.out; have := Sz9.out; have := S7.out; omega)); clear hnew9
              have Q := Lib.hid (Blk.grownK ((Q.out.alloc (Obj.cells #[.int .i64 0] 3)).alloc (Obj.cells #[.slice (some ⟨w7.heap.size, 0, none⟩) 1 1, .slice none 0 0] 34)) hgrow9 (fun r hr => by have := gr9 r hr; have := Hgl.out; have := S1.out; have := S2.out; have := S3.out; have := Gb2.out; have := Gb.out; have := Sq.out; have := Sr.out; have := Sz9.out; have := S7.out; omega))
              have R := Lib.hid (Blk.grownK ((R.out.alloc (Obj.cells #[.int .i64 0] 3)).alloc (Obj.cells #[.slice (some ⟨w7.heap.size, 0, none⟩) 1 1, .slice none 0 0] 34)) hgrow9 (fun r hr => by have := gr9 r hr; have := Hgl.out; have := S1.out; have := S2.out; have := S3.out; have := Gb2.out; have := Gb.out; have := Sq.out; have := Sr.out; have := Sz9.out; have := S7.out; omega))
              have HV := Lib.hid (IR.grownL ((HV.out.alloc (Obj.cells #[.int .i64 0] 3)).alloc (Obj.cells #[.slice (some ⟨w7.heap.size, 0, none⟩) 1 1, .slice none 0 0] 34)) hgrow9 (fun g k hg hk => by have := gr9 g hg; have := HVlt.out k hk; omega))
              have Hc99 := Lib.hid (((Hc7.out.alloc (Obj.cells #[.int .i64 0] 3)).alloc (Obj.cells #[.slice (some ⟨w7.heap.size, 0, none⟩) 1 1, .slice none 0 0] 34)).grown hgrow9 (fun r hr => by have := gr9 r hr; have := Hgl.out; have := S1.out; have := S2.out; have := S3.out; have := Gb2.out; have := Gb.out; have := Sq.out; have := Sr.out; have := Sz9.out; have := S7.out; omega))
              have Hd99 := Lib.hid (((Hd7.out.alloc (Obj.cells #[.int .i64 0] 3)).alloc (Obj.cells #[.slice (some ⟨w7.heap.size, 0, none⟩) 1 1, .slice none 0 0] 34)).grown hgrow9 (fun r hr => by have := gr9 r hr; have := S1.out; have := S2.out; have := S3.out; have := Gb2.out; have := Gb.out; have := Sq.out; have := Sr.out; have := Sz9.out; have := S7.out; omega))
              clear hown9 hgrow9 gr9 hvo hvi hlb
              have qQ0 := Q.out.cell 0
              have qQ1 := Q.out.cell 1
              have qQ2 := Q.out.cell 2
              have qQ3 := Q.out.cell 3
              have qQ4 := Q.out.cell 4
              have qQ5 := Q.out.cell 5
              simp at qQ0 qQ1 qQ2 qQ3 qQ4 qQ5
              have qQl := Q.out.lt
              have qR0 := R.out.cell 0
              have qR1 := R.out.cell 1
              have qR2 := R.out.cell 2
              have qR3 := R.out.cell 3
              have qR4 := R.out.cell 4
              have qR5 := R.out.cell 5
              simp at qR0 qR1 qR2 qR3 qR4 qR5
              have qRl := R.out.lt
              have qRf := R.out.frozen
              have nQR : w1.heap.size ≠ w.heap.size := by have := Hgl.out; have := S1.out; have := S2.out; have := S3.out; have := Gb2.out; have := Gb.out; have := Sq.out; have := Sr.out; have := Sz9.out; have := S7.out; have := S99.out; omega
              have nRQ : w.heap.size ≠ w1.heap.size := fun e => nQR e.symm
              go_wp2
              clear qQ0 qQ1 qQ2 qQ3 qQ4 qQ5 qQl qR0 qR1 qR2 qR3 qR4 qR5 qRl qRf nQR nRQ
              have HR9 := (show Blk (World.setCell (World.setCell (World.setCell (World.setCell (World.setCell (World.setCell w9 ⟨w.heap.size, 0, none⟩ (.int .i64 a)) ⟨w.heap.size, 1, none⟩ (.int .i64 b)) ⟨w.heap.size, 2, none⟩ (.int .i64 m)) ⟨w.heap.size, 3, none⟩ (.int .i64 e9)) ⟨w.heap.size, 4, none⟩ (.int .i64 t)) ⟨w.heap.size, 5, none⟩ (.slice A9 nv c9)) (w.heap.size) 51 #[.int .i64 a, .int .i64 b, .int .i64 m, .int .i64 e9, .int .i64 t, .slice A9 nv c9] by have h9 := ((((((R.out.set 0 (.int .i64 a)).set 1 (.int .i64 b)).set 2 (.int .i64 m)).set 3 (.int .i64 e9)).set 4 (.int .i64 t)).set 5 (.slice A9 nv c9)); simpa using h9)
              have k0 := HR9.cell 0
              have k1 := HR9.cell 1
              have k2 := HR9.cell 2
              have k3 := HR9.cell 3
              have k4 := HR9.cell 4
              have k5 := HR9.cell 5
              simp at k0 k1 k2 k3 k4 k5
              obtain ⟨ess9, -, hnr9⟩ := (((((((HL.out.st (p := ⟨w.heap.size, 0, none⟩) (show w.heap.size < wp.heap.size by have := Hgl.out; have := S1.out; have := S2.out; have := S3.out; have := Gb2.out; have := Gb.out; have := Sq.out; have := Sr.out; have := Sz9.out; have := S7.out; have := S99.out; omega) (show w.heap.size < wr5.heap.size by have := Hgl.out; have := S1.out; have := S2.out; have := S3.out; have := Gb2.out; have := Gb.out; have := Sq.out; have := Sr.out; have := Sz9.out; have := S7.out; have := S99.out; omega) (.int .i64 a)).st (p := ⟨w.heap.size, 1, none⟩) (show w.heap.size < wp.heap.size by have := Hgl.out; have := S1.out; have := S2.out; have := S3.out; have := Gb2.out; have := Gb.out; have := Sq.out; have := Sr.out; have := Sz9.out; have := S7.out; have := S99.out; omega) (show w.heap.size < wr5.heap.size by have := Hgl.out; have := S1.out; have := S2.out; have := S3.out; have := Gb2.out; have := Gb.out; have := Sq.out; have := Sr.out; have := Sz9.out; have := S7.out; have := S99.out; omega) (.int .i64 b)).st (p := ⟨w.heap.size, 2, none⟩) (show w.heap.size < wp.heap.size by have := Hgl.out; have := S1.out; have := S2.out; have := S3.out; have := Gb2.out; have := Gb.out; have := Sq.out; have := Sr.out; have := Sz9.out; have := S7.out; have := S99.out; omega) (show w.heap.size < wr5.heap.size by have := Hgl.out; have := S1.out; have := S2.out; have := S3.out; have := Gb2.out; have := Gb.out; have := Sq.out; have := Sr.out; have := Sz9.out; have := S7.out; have := S99.out; omega) (.int .i64 m)).st (p := ⟨w.heap.size, 3, none⟩) (show w.heap.size < wp.heap.size by have := Hgl.out; have := S1.out; have := S2.out; have := S3.out; have := Gb2.out; have := Gb.out; have := Sq.out; have := Sr.out; have := Sz9.out; have := S7.out; have := S99.out; omega) (show w.heap.size < wr5.heap.size by have := Hgl.out; have := S1.out; have := S2.out; have := S3.out; have := Gb2.out; have := Gb.out; have := Sq.out; have := Sr.out; have := Sz9.out; have := S7.out; have := S99.out; omega) (.int .i64 e9)).st (p := ⟨w.heap.size, 4, none⟩) (show w.heap.size < wp.heap.size by have := Hgl.out; have := S1.out; have := S2.out; have := S3.out; have := Gb2.out; have := Gb.out; have := Sq.out; have := Sr.out; have := Sz9.out; have := S7.out; have := S99.out; omega) (show w.heap.size < wr5.heap.size by have := Hgl.out; have := S1.out; have := S2.out; have := S3.out; have := Gb2.out; have := Gb.out; have := Sq.out; have := Sr.out; have := Sz9.out; have := S7.out; have := S99.out; omega) (.int .i64 t)).st (p := ⟨w.heap.size, 5, none⟩) (show w.heap.size < wp.heap.size by have := Hgl.out; have := S1.out; have := S2.out; have := S3.out; have := Gb2.out; have := Gb.out; have := Sq.out; have := Sr.out; have := Sz9.out; have := S7.out; have := S99.out; omega) (show w.heap.size < wr5.heap.size by have := Hgl.out; have := S1.out; have := S2.out; have := S3.out; have := Gb2.out; have := Gb.out; have := Sq.out; have := Sr.out; have := Sz9.out; have := S7.out; have := S99.out; omega) (.slice A9 nv c9))).nrd
              exact bodyPost_ret (v := .tuple #[.agg #[.int .i64 a, .int .i64 b, .int .i64 m, .int .i64 e9, .int .i64 t, .slice A9 nv c9], v9]) (by simp [results, Tryz.results39, go_sem, k0, k1, k2, k3, k4, k5]) rfl ⟨⟨⟨a, b, m, e9, t, .slice A9 nv c9, nv, v9, ess9, hnv, rfl, ((((((HV.out.st (p := ⟨w.heap.size, 0, none⟩) (by intro k9 hk9; have := GHV.out k9 hk9; show k9 ≠ w.heap.size; have := Hgl.out; have := S1.out; have := S2.out; have := S3.out; have := Gb2.out; have := Gb.out; have := Sq.out; have := Sr.out; have := Sz9.out; have := S7.out; have := S99.out; omega) (.int .i64 a)).st (p := ⟨w.heap.size, 1, none⟩) (by intro k9 hk9; have := GHV.out k9 hk9; show k9 ≠ w.heap.size; have := Hgl.out; have := S1.out; have := S2.out; have := S3.out; have := Gb2.out; have := Gb.out; have := Sq.out; have := Sr.out; have := Sz9.out; have := S7.out; have := S99.out; omega) (.int .i64 b)).st (p := ⟨w.heap.size, 2, none⟩) (by intro k9 hk9; have := GHV.out k9 hk9; show k9 ≠ w.heap.size; have := Hgl.out; have := S1.out; have := S2.out; have := S3.out; have := Gb2.out; have := Gb.out; have := Sq.out; have := Sr.out; have := Sz9.out; have := S7.out; have := S99.out; omega) (.int .i64 m)).st (p := ⟨w.heap.size, 3, none⟩) (by intro k9 hk9; have := GHV.out k9 hk9; show k9 ≠ w.heap.size; have := Hgl.out; have := S1.out; have := S2.out; have := S3.out; have := Gb2.out; have := Gb.out; have := Sq.out; have := Sr.out; have := Sz9.out; have := S7.out; have := S99.out; omega) (.int .i64 e9)).st (p := ⟨w.heap.size, 4, none⟩) (by intro k9 hk9; have := GHV.out k9 hk9; show k9 ≠ w.heap.size; have := Hgl.out; have := S1.out; have := S2.out; have := S3.out; have := Gb2.out; have := Gb.out; have := Sq.out; have := Sr.out; have := Sz9.out; have := S7.out; have := S99.out; omega) (.int .i64 t)).st (p := ⟨w.heap.size, 5, none⟩) (by intro k9 hk9; have := GHV.out k9 hk9; show k9 ≠ w.heap.size; have := Hgl.out; have := S1.out; have := S2.out; have := S3.out; have := Gb2.out; have := Gb.out; have := Sq.out; have := Sr.out; have := Sz9.out; have := S7.out; have := S99.out; omega) (.slice A9 nv c9)).mono (by omega), hnr9⟩⟩, ((((((Hd99.out.st (p := ⟨w.heap.size, 0, none⟩) (show w.heap.size ≤ w.heap.size by have := Hgl.out; have := S1.out; have := S2.out; have := S3.out; have := Gb2.out; have := Gb.out; have := Sq.out; have := Sr.out; have := Sz9.out; have := S7.out; have := S99.out; omega) (.int .i64 a)).st (p := ⟨w.heap.size, 1, none⟩) (show w.heap.size ≤ w.heap.size by have := Hgl.out; have := S1.out; have := S2.out; have := S3.out; have := Gb2.out; have := Gb.out; have := Sq.out; have := Sr.out; have := Sz9.out; have := S7.out; have := S99.out; omega) (.int .i64 b)).st (p := ⟨w.heap.size, 2, none⟩) (show w.heap.size ≤ w.heap.size by have := Hgl.out; have := S1.out; have := S2.out; have := S3.out; have := Gb2.out; have := Gb.out; have := Sq.out; have := Sr.out; have := Sz9.out; have := S7.out; have := S99.out; omega) (.int .i64 m)).st (p := ⟨w.heap.size, 3, none⟩) (show w.heap.size ≤ w.heap.size by have := Hgl.out; have := S1.out; have := S2.out; have := S3.out; have := Gb2.out; have := Gb.out; have := Sq.out; have := Sr.out; have := Sz9.out; have := S7.out; have := S99.out; omega) (.int .i64 e9)).st (p := ⟨w.heap.size, 4, none⟩) (show w.heap.size ≤ w.heap.size by have := Hgl.out; have := S1.out; have := S2.out; have := S3.out; have := Gb2.out; have := Gb.out; have := Sq.out; have := Sr.out; have := Sz9.out; have := S7.out; have := S99.out; omega) (.int .i64 t)).st (p := ⟨w.heap.size, 5, none⟩) (show w.heap.size ≤ w.heap.size by have := Hgl.out; have := S1.out; have := S2.out; have := S3.out; have := Gb2.out; have := Gb.out; have := Sq.out; have := Sr.out; have := Sz9.out; have := S7.out; have := S99.out; omega) (.slice A9 nv c9)).below (by have := S1.out; have := S2.out; have := S3.out; have := Gb2.out; have := Gb.out; have := Sq.out; have := Sr.out; have := Sz9.out; have := S7.out; have := S99.out; omega) (Nat.le_refl _)⟩
            · have zy0 : (y == 0) = false := beq_eq_false_iff_ne.2 ey0
              have zy1 : (y == 1) = false := beq_eq_false_iff_ne.2 ey1
              have zy2 : (y == 2) = false := beq_eq_false_iff_ne.2 ey2
              clear ey0 ey1 ey2
              have qQ0 := Q.out.cell 0
              have qQ1 := Q.out.cell 1
              have qQ2 := Q.out.cell 2
              have qQ3 := Q.out.cell 3
              have qQ4 := Q.out.cell 4
              have qQ5 := Q.out.cell 5
              simp at qQ0 qQ1 qQ2 qQ3 qQ4 qQ5
              have qQl := Q.out.lt
              have qR0 := R.out.cell 0
              have qR1 := R.out.cell 1
              have qR2 := R.out.cell 2
              have qR3 := R.out.cell 3
              have qR4 := R.out.cell 4
              have qR5 := R.out.cell 5
              simp at qR0 qR1 qR2 qR3 qR4 qR5
              have qRl := R.out.lt
              have qRf := R.out.frozen
              have nQR : w1.heap.size ≠ w.heap.size := by have := Hgl.out; have := S1.out; have := S2.out; have := S3.out; have := Gb2.out; have := Gb.out; have := Sq.out; have := Sr.out; have := Sz9.out; have := S7.out; omega
              have nRQ : w.heap.size ≠ w1.heap.size := fun e => nQR e.symm
              go_wp2
              clear qQ0 qQ1 qQ2 qQ3 qQ4 qQ5 qQl qR0 qR1 qR2 qR3 qR4 qR5 qRl qRf nQR nRQ
              have HR9 := (show Blk (World.setCell (World.setCell (World.setCell (World.setCell (World.setCell (World.setCell w7 ⟨w.heap.size, 0, none⟩ (.int .i64 a)) ⟨w.heap.size, 1, none⟩ (.int .i64 b)) ⟨w.heap.size, 2, none⟩ (.int .i64 m)) ⟨w.heap.size, 3, none⟩ (.int .i64 e9)) ⟨w.heap.size, 4, none⟩ (.int .i64 t)) ⟨w.heap.size, 5, none⟩ (.slice A9 nv c9)) (w.heap.size) 51 #[.int .i64 a, .int .i64 b, .int .i64 m, .int .i64 e9, .int .i64 t, .slice A9 nv c9] by have h9 := ((((((R.out.set 0 (.int .i64 a)).set 1 (.int .i64 b)).set 2 (.int .i64 m)).set 3 (.int .i64 e9)).set 4 (.int .i64 t)).set 5 (.slice A9 nv c9)); simpa using h9)
              have k0 := HR9.cell 0
              have k1 := HR9.cell 1
              have k2 := HR9.cell 2
              have k3 := HR9.cell 3
              have k4 := HR9.cell 4
              have k5 := HR9.cell 5
              simp at k0 k1 k2 k3 k4 k5
              obtain ⟨ess9, -, hnr9⟩ := (((((((HL.out.st (p := ⟨w.heap.size, 0, none⟩) (show w.heap.size < wp.heap.size by have := Hgl.out; have := S1.out; have := S2.out; have := S3.out; have := Gb2.out; have := Gb.out; have := Sq.out; have := Sr.out; have := Sz9.out; have := S7.out; omega) (show w.heap.size < wr5.heap.size by have := Hgl.out; have := S1.out; have := S2.out; have := S3.out; have := Gb2.out; have := Gb.out; have := Sq.out; have := Sr.out; have := Sz9.out; have := S7.out; omega) (.int .i64 a)).st (p := ⟨w.heap.size, 1, none⟩) (show w.heap.size < wp.heap.size by have := Hgl.out; have := S1.out; have := S2.out; have := S3.out; have := Gb2.out; have := Gb.out; have := Sq.out; have := Sr.out; have := Sz9.out; have := S7.out; omega) (show w.heap.size < wr5.heap.size by have := Hgl.out; have := S1.out; have := S2.out; have := S3.out; have := Gb2.out; have := Gb.out; have := Sq.out; have := Sr.out; have := Sz9.out; have := S7.out; omega) (.int .i64 b)).st (p := ⟨w.heap.size, 2, none⟩) (show w.heap.size < wp.heap.size by have := Hgl.out; have := S1.out; have := S2.out; have := S3.out; have := Gb2.out; have := Gb.out; have := Sq.out; have := Sr.out; have := Sz9.out; have := S7.out; omega) (show w.heap.size < wr5.heap.size by have := Hgl.out; have := S1.out; have := S2.out; have := S3.out; have := Gb2.out; have := Gb.out; have := Sq.out; have := Sr.out; have := Sz9.out; have := S7.out; omega) (.int .i64 m)).st (p := ⟨w.heap.size, 3, none⟩) (show w.heap.size < wp.heap.size by have := Hgl.out; have := S1.out; have := S2.out; have := S3.out; have := Gb2.out; have := Gb.out; have := Sq.out; have := Sr.out; have := Sz9.out; have := S7.out; omega) (show w.heap.size < wr5.heap.size by have := Hgl.out; have := S1.out; have := S2.out; have := S3.out; have := Gb2.out; have := Gb.out; have := Sq.out; have := Sr.out; have := Sz9.out; have := S7.out; omega) (.int .i64 e9)).st (p := ⟨w.heap.size, 4, none⟩) (show w.heap.size < wp.heap.size by have := Hgl.out; have := S1.out; have := S2.out; have := S3.out; have := Gb2.out; have := Gb.out; have := Sq.out; have := Sr.out; have := Sz9.out; have := S7.out; omega) (show w.heap.size < wr5.heap.size by have := Hgl.out; have := S1.out; have := S2.out; have := S3.out; have := Gb2.out; have := Gb.out; have := Sq.out; have := Sr.out; have := Sz9.out; have := S7.out; omega) (.int .i64 t)).st (p := ⟨w.heap.size, 5, none⟩) (show w.heap.size < wp.heap.size by have := Hgl.out; have := S1.out; have := S2.out; have := S3.out; have := Gb2.out; have := Gb.out; have := Sq.out; have := Sr.out; have := Sz9.out; have := S7.out; omega) (show w.heap.size < wr5.heap.size by have := Hgl.out; have := S1.out; have := S2.out; have := S3.out; have := Gb2.out; have := Gb.out; have := Sq.out; have := Sr.out; have := Sz9.out; have := S7.out; omega) (.slice A9 nv c9))).nrd
              exact bodyPost_ret (v := .tuple #[.agg #[.int .i64 a, .int .i64 b, .int .i64 m, .int .i64 e9, .int .i64 t, .slice A9 nv c9], u6]) (by simp [results, Tryz.results39, go_sem, k0, k1, k2, k3, k4, k5]) rfl ⟨⟨⟨a, b, m, e9, t, .slice A9 nv c9, nv, u6, ess9, hnv, rfl, ((((((HV.out.st (p := ⟨w.heap.size, 0, none⟩) (by intro k9 hk9; have := GHV.out k9 hk9; show k9 ≠ w.heap.size; have := Hgl.out; have := S1.out; have := S2.out; have := S3.out; have := Gb2.out; have := Gb.out; have := Sq.out; have := Sr.out; have := Sz9.out; have := S7.out; omega) (.int .i64 a)).st (p := ⟨w.heap.size, 1, none⟩) (by intro k9 hk9; have := GHV.out k9 hk9; show k9 ≠ w.heap.size; have := Hgl.out; have := S1.out; have := S2.out; have := S3.out; have := Gb2.out; have := Gb.out; have := Sq.out; have := Sr.out; have := Sz9.out; have := S7.out; omega) (.int .i64 b)).st (p := ⟨w.heap.size, 2, none⟩) (by intro k9 hk9; have := GHV.out k9 hk9; show k9 ≠ w.heap.size; have := Hgl.out; have := S1.out; have := S2.out; have := S3.out; have := Gb2.out; have := Gb.out; have := Sq.out; have := Sr.out; have := Sz9.out; have := S7.out; omega) (.int .i64 m)).st (p := ⟨w.heap.size, 3, none⟩) (by intro k9 hk9; have := GHV.out k9 hk9; show k9 ≠ w.heap.size; have := Hgl.out; have := S1.out; have := S2.out; have := S3.out; have := Gb2.out; have := Gb.out; have := Sq.out; have := Sr.out; have := Sz9.out; have := S7.out; omega) (.int .i64 e9)).st (p := ⟨w.heap.size, 4, none⟩) (by intro k9 hk9; have := GHV.out k9 hk9; show k9 ≠ w.heap.size; have := Hgl.out; have := S1.out; have := S2.out; have := S3.out; have := Gb2.out; have := Gb.out; have := Sq.out; have := Sr.out; have := Sz9.out; have := S7.out; omega) (.int .i64 t)).st (p := ⟨w.heap.size, 5, none⟩) (by intro k9 hk9; have := GHV.out k9 hk9; show k9 ≠ w.heap.size; have := Hgl.out; have := S1.out; have := S2.out; have := S3.out; have := Gb2.out; have := Gb.out; have := Sq.out; have := Sr.out; have := Sz9.out; have := S7.out; omega) (.slice A9 nv c9)).mono (by omega), hnr9⟩⟩, ((((((Hd7.out.st (p := ⟨w.heap.size, 0, none⟩) (show w.heap.size ≤ w.heap.size by have := Hgl.out; have := S1.out; have := S2.out; have := S3.out; have := Gb2.out; have := Gb.out; have := Sq.out; have := Sr.out; have := Sz9.out; have := S7.out; omega) (.int .i64 a)).st (p := ⟨w.heap.size, 1, none⟩) (show w.heap.size ≤ w.heap.size by have := Hgl.out; have := S1.out; have := S2.out; have := S3.out; have := Gb2.out; have := Gb.out; have := Sq.out; have := Sr.out; have := Sz9.out; have := S7.out; omega) (.int .i64 b)).st (p := ⟨w.heap.size, 2, none⟩) (show w.heap.size ≤ w.heap.size by have := Hgl.out; have := S1.out; have := S2.out; have := S3.out; have := Gb2.out; have := Gb.out; have := Sq.out; have := Sr.out; have := Sz9.out; have := S7.out; omega) (.int .i64 m)).st (p := ⟨w.heap.size, 3, none⟩) (show w.heap.size ≤ w.heap.size by have := Hgl.out; have := S1.out; have := S2.out; have := S3.out; have := Gb2.out; have := Gb.out; have := Sq.out; have := Sr.out; have := Sz9.out; have := S7.out; omega) (.int .i64 e9)).st (p := ⟨w.heap.size, 4, none⟩) (show w.heap.size ≤ w.heap.size by have := Hgl.out; have := S1.out; have := S2.out; have := S3.out; have := Gb2.out; have := Gb.out; have := Sq.out; have := Sr.out; have := Sz9.out; have := S7.out; omega) (.int .i64 t)).st (p := ⟨w.heap.size, 5, none⟩) (show w.heap.size ≤ w.heap.size by have := Hgl.out; have := S1.out; have := S2.out; have := S3.out; have := Gb2.out; have := Gb.out; have := Sq.out; have := Sr.out; have := Sz9.out; have := S7.out; omega) (.slice A9 nv c9)).below (by have := S1.out; have := S2.out; have := S3.out; have := Gb2.out; have := Gb.out; have := Sq.out; have := Sr.out; have := Sz9.out; have := S7.out; omega) (Nat.le_refl _)⟩
end
end Go.Proofs.YtnhgdmhiblpknaaGreatDoor
