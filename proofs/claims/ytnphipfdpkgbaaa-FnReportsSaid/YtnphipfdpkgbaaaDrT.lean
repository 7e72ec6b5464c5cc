/- The reference's draws of catalogues: a catalogue and an entry, two catalogues. Conditions: a slice of bytes. Printed by gen_drt.py. -/
import Derived.Test.YtnphipfdpkgbaaaDrD
import Derived.Test.YtnphipfdpkgbaaaApp2
namespace Go.Proofs.Ytnphipfdpkgbaaa
open Go Go.RowKit

theorem BytesAt.mono {w : World} {g g' : Nat} {A : Option Addr} {n : Nat} (h : BytesAt w g A n) (hg : g ≤ g') : BytesAt w g' A n :=
  ⟨h.1, fun h0 => let ⟨gc, off, hA, h1, h2, hc⟩ := h.2 h0; ⟨gc, off, hA, Nat.lt_of_lt_of_le h1 hg, h2, hc⟩⟩
theorem BytesAt.on {w w' : World} {A : Option Addr} {n : Nat} (h : BytesAt w w.heap.size A n) (hb : Below w.heap.size w w') : BytesAt w' w'.heap.size A n :=
  (h.dg (Dg.of_below hb)).mono hb.size
theorem BytesAt.al {w : World} {A : Option Addr} {n : Nat} (h : BytesAt w w.heap.size A n) (o : Obj) : BytesAt (w.alloc o) (w.alloc o).heap.size A n := h.on (bal (Below.refl _ _) o)
theorem Cur.new0 {w : World} {A : Option Addr} {n : Nat} (h : BytesAt w w.heap.size A n) (c : Nat) : Cur (w.alloc (.cells #[.slice A n c, .int .i64 0, .int .u64 0] 77)) w.heap.size 0 :=
  ⟨A, n, c, 0, 0, Blk.new w _ _, Nat.le_refl _, h.dg (Dg.of_below (bal (Below.refl _ _) _))⟩
theorem Cur.new1 {w : World} {A : Option Addr} {n : Nat} (h : BytesAt w w.heap.size A n) (c : Nat) (o : Obj) : Cur ((w.alloc o).alloc (.cells #[.slice A n c, .int .i64 0, .int .u64 0] 77)) (w.heap.size + 1) 0 := by
  have := Cur.new0 (h.al o) c
  rwa [World.size_alloc] at this
/-- Two rows of entries of a call's own. -/
structure Two (w : World) (B : Nat) (e : Ending) : Prop where
  ex : ∃ (v1 : Value) (m1 : Nat) (v2 : Value) (m2 : Nat), m1 ≤ 20 ∧ m2 ≤ 20 ∧ e = .returned (.tuple #[v1, v2]) ∧ IR w B 36 5 v1 m1 ∧ IR w B 36 5 v2 m2
/-- The cells of a row as a source. -/
theorem IR.src {w : World} {B : Nat} {t : TypeId} {z n : Nat} {A : Option Addr} {c : Nat} (h : IR w B t z (.slice A n c) n) :
    ∃ xs, AllI xs ∧ xs.length = n * z ∧ (A = none → n = 0) ∧ ∀ a, A = some a → ∀ j u, xs[j]? = some u → w.cell? (a.add j) = some u := by
  obtain ⟨xs, h1, h2⟩ := h.ex
  refine ⟨xs, h2, h1.1, fun e => ?_, fun a e j u hu => ?_⟩
  · by_cases h0 : 0 < n
    · obtain ⟨g, c', h3, -⟩ := h.pos h0
      rw [e] at h3; cases h3
    · omega
  · have hj : j < xs.length := (List.getElem?_eq_some_iff.1 hu).1
    have h0 : 0 < n := by rcases Nat.eq_zero_or_pos n with h9 | h9; · rw [h1.1, h9] at hj; simp at hj
                          · exact h9
    obtain ⟨g, c', h3, -⟩ := h.pos h0
    rw [e] at h3
    injection h3 with h4 h5 h6
    injection h4 with h4
    subst h4
    rw [e] at h1
    have h7 := h1.cellAt j (by rw [← h1.1]; exact hj)
    rw [hu] at h7
    by_cases h8 : j = 0
    · subst h8; simpa [Addr.add] using h7
    · simpa [Addr.add, h8] using h7


set_option linter.unusedSimpArgs false in
set_option maxRecDepth 8000 in
set_option maxHeartbeats 8000000 in
theorem drawTight_any (A : Option Addr) (n c : Nat) (w : World) (hby : BytesAt w w.heap.size A n) :
    Calls Try.prog 13 #[.slice A n c] w fun e w' => (∃ (v : Value) (m : Nat) (a b lo hi t : Int), m ≤ 20 ∧ e = .returned (.tuple #[v, .agg #[.int .i64 a, .int .i64 b, .int .i64 lo, .int .i64 hi, .int .i64 t]]) ∧ IR w' w.heap.size 36 5 v m) ∧ Below w.heap.size w w' := by
  have Hb := Lib.hid hby; clear hby
  have Hgl := Lib.hid (Nat.le_refl w.heap.size)
  have Hd := Lib.hid (Dg.refl (w.heap.size + 1) w)
  go_enter Try.func13, Try.ntmps13
  go_wp2_with fail
  refine (catalogue_any (w.heap.size + 1) 0 _ (Cur.new1 Hb.out c _) (by omega)).mono ?_; rintro e w1 ⟨⟨v, m, hm, rfl, hv⟩, hc1, hd1⟩
  have S1 := Lib.hid (show w.heap.size + 2 ≤ w1.heap.size by have h9 := hd1.size; (try simp only [World.size_alloc, World.size_setCell] at h9); omega)
  have NR := Lib.hid (((Blk.new w 36 #[.int .i64 0, .int .i64 0, .int .i64 0, .int .i64 0, .int .i64 0]).alloc _).dg hd1 (show w.heap.size ≠ (w.heap.size + 1) by have := Hgl.out; have := S1.out; omega))
  have R := NR; clear NR
  have Hc1 := Lib.hid (hc1.mono (j := 0 + 500) (by omega))
  have Hd1 := Lib.hid (((Hd.out.alloc _).alloc _).trans hd1)
  clear hc1 hd1
  have HV := Lib.hid (hv.mono (B' := w.heap.size + 2) (by simp)); have GHV := Lib.hid (IR.lt (hv.mono (B' := w.heap.size + 2) (by simp)))
  clear hv
  have qR0 := R.out.cell 0
  have qR1 := R.out.cell 1
  have qR2 := R.out.cell 2
  have qR3 := R.out.cell 3
  have qR4 := R.out.cell 4
  simp at qR0 qR1 qR2 qR3 qR4
  have qRl := R.out.lt
  go_wp2_with fail
  refine (anyEntry_any (w.heap.size + 1) (0 + 500) _ Hc1.out (by omega)).mono ?_; rintro e w2 ⟨⟨a, b, lo, hi9, t, rfl⟩, hc2, hd2⟩
  clear qR0 qR1 qR2 qR3 qR4 qRl
  have S2 := Lib.hid (show w1.heap.size + 0 ≤ w2.heap.size by have h9 := hd2.size; (try simp only [World.size_alloc, World.size_setCell] at h9); omega)
  have NR := Lib.hid (R.out.dg hd2 (show w.heap.size ≠ (w.heap.size + 1) by have := Hgl.out; have := S1.out; have := S2.out; omega))
  have R := NR; clear NR
  have HV := Lib.hid (HV.out.dg hd2 (show (w.heap.size + 1) < (w.heap.size + 2) by have := Hgl.out; have := S1.out; have := S2.out; omega))
  have Hc2 := Lib.hid (hc2.mono (j := 0 + 560) (by omega))
  have Hd2 := Lib.hid (Hd1.out.trans hd2)
  clear hc2 hd2
  have qR0 := R.out.cell 0
  have qR1 := R.out.cell 1
  have qR2 := R.out.cell 2
  have qR3 := R.out.cell 3
  have qR4 := R.out.cell 4
  simp at qR0 qR1 qR2 qR3 qR4
  have qRl := R.out.lt
  have qRf := R.out.frozen
  go_wp2
  clear qR0 qR1 qR2 qR3 qR4 qRl qRf
  have HR9 := (show Blk (World.setCell (World.setCell (World.setCell (World.setCell (World.setCell w2 ⟨w.heap.size, 0, none⟩ (.int .i64 a)) ⟨w.heap.size, 1, none⟩ (.int .i64 b)) ⟨w.heap.size, 2, none⟩ (.int .i64 lo)) ⟨w.heap.size, 3, none⟩ (.int .i64 hi9)) ⟨w.heap.size, 4, none⟩ (.int .i64 t)) (w.heap.size) 36 #[.int .i64 a, .int .i64 b, .int .i64 lo, .int .i64 hi9, .int .i64 t] by have h9 := (((((R.out.set 0 (.int .i64 a)).set 1 (.int .i64 b)).set 2 (.int .i64 lo)).set 3 (.int .i64 hi9)).set 4 (.int .i64 t)); simpa using h9)
  have k0 := HR9.cell 0
  have k1 := HR9.cell 1
  have k2 := HR9.cell 2
  have k3 := HR9.cell 3
  have k4 := HR9.cell 4
  simp at k0 k1 k2 k3 k4
  exact bodyPost_ret (v := .tuple #[v, .agg #[.int .i64 a, .int .i64 b, .int .i64 lo, .int .i64 hi9, .int .i64 t]]) (by simp [results, Try.results13, go_sem, k0, k1, k2, k3, k4]) rfl ⟨⟨v, m, a, b, lo, hi9, t, hm, rfl, (((((HV.out.st (p := ⟨w.heap.size, 0, none⟩) (by intro k9 hk9; have := GHV.out k9 hk9; show k9 ≠ w.heap.size; have := Hgl.out; have := S1.out; have := S2.out; omega) (.int .i64 a)).st (p := ⟨w.heap.size, 1, none⟩) (by intro k9 hk9; have := GHV.out k9 hk9; show k9 ≠ w.heap.size; have := Hgl.out; have := S1.out; have := S2.out; omega) (.int .i64 b)).st (p := ⟨w.heap.size, 2, none⟩) (by intro k9 hk9; have := GHV.out k9 hk9; show k9 ≠ w.heap.size; have := Hgl.out; have := S1.out; have := S2.out; omega) (.int .i64 lo)).st (p := ⟨w.heap.size, 3, none⟩) (by intro k9 hk9; have := GHV.out k9 hk9; show k9 ≠ w.heap.size; have := Hgl.out; have := S1.out; have := S2.out; omega) (.int .i64 hi9)).st (p := ⟨w.heap.size, 4, none⟩) (by intro k9 hk9; have := GHV.out k9 hk9; show k9 ≠ w.heap.size; have := Hgl.out; have := S1.out; have := S2.out; omega) (.int .i64 t)).mono (by omega)⟩, (((((Hd2.out.st (p := ⟨w.heap.size, 0, none⟩) (show w.heap.size ≤ w.heap.size by have := Hgl.out; have := S1.out; have := S2.out; omega) (.int .i64 a)).st (p := ⟨w.heap.size, 1, none⟩) (show w.heap.size ≤ w.heap.size by have := Hgl.out; have := S1.out; have := S2.out; omega) (.int .i64 b)).st (p := ⟨w.heap.size, 2, none⟩) (show w.heap.size ≤ w.heap.size by have := Hgl.out; have := S1.out; have := S2.out; omega) (.int .i64 lo)).st (p := ⟨w.heap.size, 3, none⟩) (show w.heap.size ≤ w.heap.size by have := Hgl.out; have := S1.out; have := S2.out; omega) (.int .i64 hi9)).st (p := ⟨w.heap.size, 4, none⟩) (show w.heap.size ≤ w.heap.size by have := Hgl.out; have := S1.out; have := S2.out; omega) (.int .i64 t)).below (by have := S1.out; have := S2.out; omega) (Nat.le_refl _)⟩


set_option linter.unusedSimpArgs false in
set_option maxRecDepth 8000 in
set_option maxHeartbeats 8000000 in
theorem drawMerge_any (A : Option Addr) (n c : Nat) (w : World) (hby : BytesAt w w.heap.size A n) :
    Calls Try.prog 6 #[.slice A n c] w fun e w' => Two w' w.heap.size e ∧ Below w.heap.size w w' := by
  obtain ⟨i0, hi, hz0, hz1, hz2⟩ := info_parts infoEn7
  have Hb := Lib.hid hby; clear hby
  have Hgl := Lib.hid (Nat.le_refl w.heap.size)
  have Hd := Lib.hid (Dg.refl w.heap.size w)
  go_enter Try.func6, Try.ntmps6
  go_wp2_with fail
  refine (catalogue_any w.heap.size 0 _ (Cur.new0 Hb.out c) (by omega)).mono ?_; rintro e w1 ⟨⟨v, m, hm, rfl, hv⟩, hc1, hd1⟩
  have S1 := Lib.hid (show w.heap.size + 1 ≤ w1.heap.size by have h9 := hd1.size; (try simp only [World.size_alloc, World.size_setCell] at h9); omega)
  have Hc1 := Lib.hid (hc1.mono (j := 0 + 500) (by omega))
  have Hd1 := Lib.hid ((Hd.out.alloc _).trans hd1)
  clear hc1 hd1
  have HV := Lib.hid (hv.mono (B' := w.heap.size + 1) (by simp)); have GHV := Lib.hid (IR.lt (hv.mono (B' := w.heap.size + 1) (by simp)))
  clear hv
  obtain ⟨A9, c9, rfl, hmc, hcm⟩ := HV.out.form
  go_wp2_with fail
  refine (one_any w.heap.size (0 + 500) (3) _ Hc1.out (by omega)).mono ?_; rintro e w2 ⟨⟨o, rfl⟩, hc2, hd2⟩
  have S2 := Lib.hid (show w1.heap.size + 0 ≤ w2.heap.size by have h9 := hd2.size; (try simp only [World.size_alloc, World.size_setCell] at h9); omega)
  have HV := Lib.hid (HV.out.dg hd2 (show w.heap.size < (w.heap.size + 1) by have := Hgl.out; have := S1.out; have := S2.out; omega))
  have Hc2 := Lib.hid (hc2.mono (j := 0 + 502) (by omega))
  have Hd2 := Lib.hid (Hd1.out.trans hd2)
  clear hc2 hd2
  cases o
  · go_wp2_with fail
    refine (catalogue_any w.heap.size (0 + 502) _ Hc2.out (by omega)).mono ?_; rintro e w3 ⟨⟨v2, m2, hm2, rfl, hv2⟩, hc3, hd3⟩
    have S3 := Lib.hid (show w2.heap.size + 0 ≤ w3.heap.size by have h9 := hd3.size; (try simp only [World.size_alloc, World.size_setCell] at h9); omega)
    have HV := Lib.hid (HV.out.dg hd3 (show w.heap.size < (w.heap.size + 1) by have := Hgl.out; have := S1.out; have := S2.out; have := S3.out; omega))
    have Hc3 := Lib.hid (hc3.mono (j := 0 + 1002) (by omega))
    have Hd3 := Lib.hid (Hd2.out.trans hd3)
    clear hc3 hd3
    go_wp2
    go_ret2
    exact ⟨⟨_, m, _, m2, hm, hm2, rfl, HV.out.mono (by omega), hv2.mono (by have := S1.out; have := S2.out; have := S3.out; simp; omega)⟩, Hd3.out.below (by have := S1.out; have := S2.out; have := S3.out; omega) (Nat.le_refl _)⟩
  · have GV2 := Lib.hid (IR.lt HV.out)
    obtain ⟨xs9, ha9, hl9, hA9, hs9⟩ := (HV.out.alloc (Obj.cells #[] 36)).src
    have Hl9 := Lib.hid hl9; have HA9 := Lib.hid hA9; have Hs9 := Lib.hid hs9; clear hl9 hA9 hs9
    go_wp2_with (at_builtin; refine wpList_append_src rfl _ _ 23 rfl w2.heap.size 36 i0 (.agg #[.int .i64 0, .int .i64 0, .int .i64 0, .int .i64 0, .int .i64 0]) 5 40 Try.underlying23 hi hz0 hz1 hz2 rfl (by decide) _ _ _ rfl (own_empty (Nat.le_refl _)) A9 m c9 xs9 rfl Hl9.out HA9.out Hs9.out ha9.one ?c3 ?c4 (by simp) ?_)
    case c3 => unfold maxLen; omega
    case c4 => omega
    intro v2 w4 hown hgrow
    have hd4 : Below w2.heap.size w2 w4 := Below.grown (bal (Below.refl _ _) _) hgrow (by simp) (fun k hk => by simp [Value.ownBlock] at hk; omega)
    have hw2 : IR w4 w2.heap.size 36 5 v2 m := ⟨_, hown, ha9⟩
    clear hown hgrow ha9 Hl9 HA9 Hs9
    have S4 := Lib.hid (show w2.heap.size + 0 ≤ w4.heap.size by have h9 := hd4.size; (try simp only [World.size_alloc, World.size_setCell] at h9); omega)
    have HV := Lib.hid (HV.out.dg (Dg.of_below (g := w.heap.size) hd4) (show w.heap.size < (w.heap.size + 1) by have := Hgl.out; have := S1.out; have := S2.out; have := S4.out; omega))
    have Hc4 := Lib.hid (Hc2.out.on hd4)
    have Hd4 := Lib.hid (Hd2.out.trans (Dg.of_below (g := w.heap.size) hd4))
    clear hd4
    have HW := Lib.hid hw2; have GHW := Lib.hid (IR.lt hw2)
    clear hw2
    obtain ⟨A8, c8, rfl, hmc8, hcm8⟩ := HW.out.form
    by_cases hm0 : 0 < m
    · obtain ⟨gl, cl, hfl, hgl1, hgl2, hmcl, hcml⟩ := HW.out.pos hm0
      injection hfl with hf1 hf2 hf3; subst hf1; subst hf3; clear hf2
      have hmi : (0 : Int) < (m : Int) := by omega
      go_wp2_with fail
      refine (pick_any w.heap.size (0 + 502) (m : Int) _ Hc4.out (by omega)).mono ?_; rintro e w5 ⟨⟨y, ly, uy, rfl⟩, hc5, hd5⟩
      have S5 := Lib.hid (show w4.heap.size + 0 ≤ w5.heap.size by have h9 := hd5.size; (try simp only [World.size_alloc, World.size_setCell] at h9); omega)
      have HV := Lib.hid (HV.out.dg hd5 (show w.heap.size < (w.heap.size + 1) by have := Hgl.out; have := hgl1; have := S1.out; have := S2.out; have := S4.out; have := S5.out; omega))
      have HW := Lib.hid (HW.out.dg hd5 (show w.heap.size < w2.heap.size by have := Hgl.out; have := hgl1; have := S1.out; have := S2.out; have := S4.out; have := S5.out; omega))
      have Hc5 := Lib.hid (hc5.mono (j := 0 + 504) (by omega))
      have Hd5 := Lib.hid (Hd4.out.trans hd5)
      clear hc5 hd5
      obtain ⟨y, rfl⟩ : ∃ q : Nat, y = q := ⟨y.toNat, by omega⟩
      have hym : y < m := by omega
      clear ly uy
      have hyi : (0 : Int) ≤ (y : Int) := by omega
      have hyj : (y : Int) < (m : Int) := by omega
      go_wp2_with fail
      refine (pick_any w.heap.size (0 + 504) (3) _ Hc5.out (by omega)).mono ?_; rintro e w6 ⟨⟨p1, lp1, up1, rfl⟩, hc6, hd6⟩
      have S6 := Lib.hid (show w5.heap.size + 0 ≤ w6.heap.size by have h9 := hd6.size; (try simp only [World.size_alloc, World.size_setCell] at h9); omega)
      have HV := Lib.hid (HV.out.dg hd6 (show w.heap.size < (w.heap.size + 1) by have := Hgl.out; have := hgl1; have := S1.out; have := S2.out; have := S4.out; have := S5.out; have := S6.out; omega))
      have HW := Lib.hid (HW.out.dg hd6 (show w.heap.size < w2.heap.size by have := Hgl.out; have := hgl1; have := S1.out; have := S2.out; have := S4.out; have := S5.out; have := S6.out; omega))
      have Hc6 := Lib.hid (hc6.mono (j := 0 + 506) (by omega))
      have Hd6 := Lib.hid (Hd5.out.trans hd6)
      clear hc6 hd6
      obtain ⟨u2, hu2⟩ := HW.out.cell (j := y * 5 + 2) (by omega)
      have hfz := HW.out.frozen
      have hll := (HW.out.lt gl rfl).2
      have GHV := GV2
      go_wp2_with fail
      refine (pick_any w.heap.size (0 + 506) (3) _ (Hc6.out.st (p := ⟨gl, y * 5 + 2, none⟩) (show w.heap.size < gl by have := Hgl.out; have := hgl1; have := S1.out; have := S2.out; have := S4.out; have := S5.out; have := S6.out; omega) (.int .i64 p1)) (by omega)).mono ?_; rintro e w7 ⟨⟨p2, lp2, up2, rfl⟩, hc7, hd7⟩
      have S7 := Lib.hid (show w6.heap.size + 0 ≤ w7.heap.size by have h9 := hd7.size; (try simp only [World.size_alloc, World.size_setCell] at h9); omega)
      have HV := Lib.hid ((HV.out.st (p := ⟨gl, y * 5 + 2, none⟩) (by intro k9 hk9; have := GHV.out k9 hk9; show k9 ≠ gl; have := Hgl.out; have := hgl1; have := S1.out; have := S2.out; have := S4.out; have := S5.out; have := S6.out; have := S7.out; omega) (.int .i64 p1)).dg hd7 (show w.heap.size < (w.heap.size + 1) by have := Hgl.out; have := hgl1; have := S1.out; have := S2.out; have := S4.out; have := S5.out; have := S6.out; have := S7.out; omega))
      have HW := Lib.hid ((HW.out.set (y * 5 + 2) p1).dg hd7 (show w.heap.size < w2.heap.size by have := Hgl.out; have := hgl1; have := S1.out; have := S2.out; have := S4.out; have := S5.out; have := S6.out; have := S7.out; omega))
      have Hc7 := Lib.hid (hc7.mono (j := 0 + 508) (by omega))
      have Hd7 := Lib.hid ((Hd6.out.st (p := ⟨gl, y * 5 + 2, none⟩) (show w.heap.size ≤ gl by have := Hgl.out; have := hgl1; have := S1.out; have := S2.out; have := S4.out; have := S5.out; have := S6.out; have := S7.out; omega) (.int .i64 p1)).trans hd7)
      clear hc7 hd7
      clear hu2 hfz hll
      obtain ⟨u4, hu4⟩ := HW.out.cell (j := y * 5 + 4) (by omega)
      have hfz := HW.out.frozen
      have hll := (HW.out.lt gl rfl).2
      go_wp2
      go_ret2
      exact ⟨⟨.slice A9 m c9, m, .slice (some ⟨gl, 0, none⟩) m c8, m, hm, hm, rfl, (HV.out.st (p := ⟨gl, y * 5 + 4, none⟩) (by intro k9 hk9; have := GHV.out k9 hk9; show k9 ≠ gl; have := Hgl.out; have := hgl1; have := S1.out; have := S2.out; have := S4.out; have := S5.out; have := S6.out; have := S7.out; omega) (.int .i64 p2)).mono (by omega), (HW.out.set (y * 5 + 4) p2).mono (by have := S1.out; have := S2.out; have := S4.out; have := S5.out; have := S6.out; have := S7.out; omega)⟩, (Hd7.out.st (p := ⟨gl, y * 5 + 4, none⟩) (show w.heap.size ≤ gl by have := Hgl.out; have := hgl1; have := S1.out; have := S2.out; have := S4.out; have := S5.out; have := S6.out; have := S7.out; omega) (.int .i64 p2)).below (by have := S1.out; have := S2.out; have := S4.out; have := S5.out; have := S6.out; have := S7.out; omega) (Nat.le_refl _)⟩
    · have hmi : ¬ (0 : Int) < (m : Int) := by omega
      go_wp2
      go_ret2
      exact ⟨⟨.slice A9 m c9, m, .slice A8 m c8, m, hm, hm, rfl, HV.out.mono (by omega), HW.out.mono (by have := S1.out; have := S2.out; have := S4.out; omega)⟩, Hd4.out.below (by have := S1.out; have := S2.out; have := S4.out; omega) (Nat.le_refl _)⟩


theorem mergeG_len20 {xs bs z : List En} {b : Bool} (h : mergeG xs bs = (z, b)) : z.length ≤ 20 := Nat.le_trans (mergeG_len z b h) (by decide)
set_option linter.unusedSimpArgs false in
set_option maxRecDepth 8000 in
set_option maxHeartbeats 8000000 in
theorem drawBetter_any (A : Option Addr) (n c : Nat) (w : World) (hby : BytesAt w w.heap.size A n) :
    Calls Try.prog 16 #[.slice A n c] w fun e w' => Two w' w.heap.size e ∧ Below w.heap.size w w' := by
  have Hb := Lib.hid hby; clear hby
  have Hgl := Lib.hid (Nat.le_refl w.heap.size)
  have Hd := Lib.hid (Dg.refl w.heap.size w)
  go_enter Try.func16, Try.ntmps16
  go_wp2_with fail
  refine (drawMerge_any A n c _ (Hb.out.al _)).mono ?_; rintro e w1 ⟨⟨⟨v1, m1, v2, m2, hm1, hm2, rfl, hv1, hv2⟩⟩, hd1⟩
  have S1 := Lib.hid (show w.heap.size + 1 ≤ w1.heap.size by have h9 := hd1.size; (try simp only [World.size_alloc, World.size_setCell] at h9); omega)
  have Hc1 := Lib.hid ((Cur.new0 Hb.out c).on hd1)
  have Hd1 := Lib.hid ((Hd.out.alloc _).trans (Dg.of_below (g := w.heap.size) hd1))
  clear hd1
  have H1 := Lib.hid (hv1.mono (B' := w.heap.size + 1) (by simp)); have GH1 := Lib.hid (IR.lt (hv1.mono (B' := w.heap.size + 1) (by simp)))
  have H2 := Lib.hid (hv2.mono (B' := w.heap.size + 1) (by simp)); have GH2 := Lib.hid (IR.lt (hv2.mono (B' := w.heap.size + 1) (by simp)))
  clear hv1 hv2
  obtain ⟨xs, hxs, ho1⟩ := H1.out.en
  obtain ⟨bs, hbs, ho2⟩ := H2.out.en
  have R1 := Lib.hid (Rd.of_own (S := enS) ho1 rfl); have R2 := Lib.hid (Rd.of_own (S := enS) ho2 rfl); clear hxs hbs ho1 ho2
  go_wp2_with fail
  refine (specMerge_any _ xs _ bs _ R1.out R2.out).mono ?_; rintro e w2 ⟨⟨v3, z, ok, rfl, hz3, ho3⟩, hd2⟩
  have S2 := Lib.hid (show w1.heap.size + 0 ≤ w2.heap.size by have h9 := hd2.size; (try simp only [World.size_alloc, World.size_setCell] at h9); omega)
  have H1 := Lib.hid (H1.out.dg (Dg.of_below (g := w.heap.size) hd2) (show w.heap.size < (w.heap.size + 1) by have := Hgl.out; have := S1.out; have := S2.out; omega))
  have H2 := Lib.hid (H2.out.dg (Dg.of_below (g := w.heap.size) hd2) (show w.heap.size < (w.heap.size + 1) by have := Hgl.out; have := S1.out; have := S2.out; omega))
  have Hc2 := Lib.hid (Hc1.out.on hd2)
  have Hd2 := Lib.hid (Hd1.out.trans (Dg.of_below (g := w.heap.size) hd2))
  clear hd2
  have H3 := Lib.hid ((IR.of_en ho3).mono (B' := w.heap.size + 1) (by have := S1.out; omega)); have GH3 := Lib.hid (IR.lt ((IR.of_en ho3).mono (B' := w.heap.size + 1) (by have := S1.out; omega)))
  clear ho3 R1 R2
  have hz12 : z.length ≤ 20 := mergeG_len20 hz3
  clear hz3
  cases ok
  · go_wp2
    go_ret2
    exact ⟨⟨_, m1, _, m2, hm1, hm2, rfl, H1.out.mono (by omega), H2.out.mono (by omega)⟩, Hd2.out.below (by have := S1.out; have := S2.out; omega) (Nat.le_refl _)⟩
  · go_wp2_with fail
    refine (one_any w.heap.size 0 (2) _ Hc2.out (by omega)).mono ?_; rintro e w3 ⟨⟨o, rfl⟩, hc3, hd3⟩
    have S3 := Lib.hid (show w2.heap.size + 0 ≤ w3.heap.size by have h9 := hd3.size; (try simp only [World.size_alloc, World.size_setCell] at h9); omega)
    have H1 := Lib.hid (H1.out.dg hd3 (show w.heap.size < (w.heap.size + 1) by have := Hgl.out; have := S1.out; have := S2.out; have := S3.out; omega))
    have H2 := Lib.hid (H2.out.dg hd3 (show w.heap.size < (w.heap.size + 1) by have := Hgl.out; have := S1.out; have := S2.out; have := S3.out; omega))
    have H3 := Lib.hid (H3.out.dg hd3 (show w.heap.size < (w.heap.size + 1) by have := Hgl.out; have := S1.out; have := S2.out; have := S3.out; omega))
    have Hc3 := Lib.hid (hc3.mono (j := 0 + 2) (by omega))
    have Hd3 := Lib.hid (Hd2.out.trans hd3)
    clear hc3 hd3
    cases o
    · go_wp2
      go_ret2
      exact ⟨⟨_, m1, _, m2, hm1, hm2, rfl, H1.out.mono (by omega), H2.out.mono (by omega)⟩, Hd3.out.below (by have := S1.out; have := S2.out; have := S3.out; omega) (Nat.le_refl _)⟩
    · go_wp2
      go_ret2
      exact ⟨⟨_, _, _, m2, hz12, hm2, rfl, H3.out.mono (by omega), H2.out.mono (by omega)⟩, Hd3.out.below (by have := S1.out; have := S2.out; have := S3.out; omega) (Nat.le_refl _)⟩
end Go.Proofs.Ytnphipfdpkgbaaa
