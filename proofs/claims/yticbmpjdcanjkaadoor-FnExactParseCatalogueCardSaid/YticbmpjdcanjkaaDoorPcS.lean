/- The walk of the reference's reader of a catalogue's line. Conditions: a bound on the text's length. -/
import Derived.Test.YticbmpjdcanjkaaDoorPcT
import Derived.Test.YticbmpjdcanjkaaDoorPcI
import Derived.Deep.RegionHeld3
import Derived.Deep.DeepCutAuto
namespace Go.Proofs.YticbmpjdcanjkaaDoor
open Go Go.RowKit

section
variable {w : World} {g : Nat} {t : TypeId}
theorem Blk.cells5 {a0 a1 a2 a3 a4 : Value} (h : Blk w g t #[a0, a1, a2, a3, a4]) : w.cell? ⟨g, 0, none⟩ = some a0 ∧ w.cell? ⟨g, 1, none⟩ = some a1 ∧ w.cell? ⟨g, 2, none⟩ = some a2 ∧ w.cell? ⟨g, 3, none⟩ = some a3 ∧ w.cell? ⟨g, 4, none⟩ = some a4 :=
  ⟨h.cell 0, h.cell 1, h.cell 2, h.cell 3, h.cell 4⟩
end
theorem drewK {w : World} {a : Addr} {v : Value} (h : w.cell? a = some v) : w.drew.cell? a = some v := h
theorem farK {w : World} {g o b j : Nat} {v u : Value} (h : w.cell? ⟨b, j, none⟩ = some u) (hne : b ≠ g) : (w.setCell ⟨g, o, none⟩ v).cell? ⟨b, j, none⟩ = some u := by
  rw [World.cell?_setCell_other _ _ _ _ (by intro e; injection e with e1; exact hne e1.symm)]
  exact h
def ClP (l : List UInt8) (e : Ending) : Prop :=
  (∃ x : En, clS l = some x ∧ e = .returned (.tuple #[.agg #[.int .i64 x.a, .int .i64 x.b, .int .i64 x.lo, .int .i64 x.hi, .int .i64 x.to], .bool true])) ∨
  (clS l = none ∧ e = .returned (.tuple #[.agg #[.int .i64 0, .int .i64 0, .int .i64 0, .int .i64 0, .int .i64 0], .bool false]))
theorem ClP.no {l : List UInt8} (h : clS l = none) : ClP l (.returned (.tuple #[.agg #[.int .i64 0, .int .i64 0, .int .i64 0, .int .i64 0, .int .i64 0], .bool false])) := Or.inr ⟨h, rfl⟩
theorem ClP.yes {l : List UInt8} {a b lo hi t : Int} (h : clS l = some ⟨a, b, lo, hi, t⟩) : ClP l (.returned (.tuple #[.agg #[.int .i64 a, .int .i64 b, .int .i64 lo, .int .i64 hi, .int .i64 t], .bool true])) := Or.inl ⟨_, h, rfl⟩
theorem clS_not4 {l : List UInt8} (h : (spl 32 l).length ≠ 4) : clS l = none := by
  unfold clS
  split
  · rename_i hh; rw [hh] at h; exact absurd rfl h
  · rfl
theorem clS_four {l w0 w1 w2 w3 : List UInt8} (h : spl 32 l = [w0, w1, w2, w3]) : clS l = rd4S w0 w1 w2 w3 := by
  unfold clS; rw [h]
theorem rd4S_pc {w0 w1 w2 w3 : List UInt8} (h : (pcV (w0 ++ 32 :: w1)).2.2 = false) : rd4S w0 w1 w2 w3 = none := by
  unfold rd4S
  have : paC (w0 ++ 32 :: w1) = none := by
    unfold pcV at h
    cases hp : paC (w0 ++ 32 :: w1) with
    | none => rfl
    | some p => rw [hp] at h; cases h
  rw [this]
theorem rd4S_len {w0 w1 w2 w3 : List UInt8} (h : (spl 46 w2).length ≠ 3) : rd4S w0 w1 w2 w3 = none := by
  unfold rd4S
  split
  · rename_i h1 h2
    rw [h2] at h; exact absurd rfl h
  · rfl
theorem rd4S_yes {w0 w1 w2 w3 x y z : List UInt8} (hc : (pcV (w0 ++ 32 :: w1)).2.2 = true) (h : spl 46 w2 = [x, z, y]) :
    rd4S w0 w1 w2 w3 = some ⟨(pcV (w0 ++ 32 :: w1)).1, (pcV (w0 ++ 32 :: w1)).2.1, rdN x, rdN y, rdN w3⟩ := by
  unfold rd4S
  rw [pcV_paC hc, h]
theorem list3g {E : Type} {l : List E} (h : l.length = 3) : ∃ a b c, l = [a, b, c] := by
  match l, h with
  | [a, b, c], _ => exact ⟨a, b, c, rfl⟩
set_option linter.unusedSimpArgs false in
set_option maxRecDepth 20000 in
set_option maxHeartbeats 4000000 in
theorem caLine_any (s : ByteArray) (w : World) (hs : s.size ≤ 1900000) :
    Calls Tryd.prog 10 #[.string s] w fun e w' => ClP s.data.toList e ∧ Below w.heap.size w w' := by
  have hlen : s.data.toList.length = s.size := rfl
  have HR := Lib.hid (Blk.new w 33 #[.int .i64 0, .int .i64 0, .int .i64 0, .int .i64 0, .int .i64 0])
  have hA := bal (Below.refl w.heap.size w) (Obj.cells #[.int .i64 0, .int .i64 0, .int .i64 0, .int .i64 0, .int .i64 0] 33)
  have HbA := Lib.hid hA; clear hA
  have Hsp := Lib.hid (fun W => l1Split_any s 32 W (by omega))
  have hspl := spl_len 32 s.data.toList
  have Hmem := Lib.hid (fun x hx => spl_mem 32 s.data.toList x hx)
  have Hn4 := Lib.hid (fun h => ClP.no (clS_not4 (l := s.data.toList) h))
  have H4 := Lib.hid (fun w0 w1 w2 w3 h => clS_four (l := s.data.toList) (w0 := w0) (w1 := w1) (w2 := w2) (w3 := w3) h)
  rw [hlen] at hspl
  generalize spl 32 s.data.toList = ps at Hsp hspl Hmem Hn4 H4
  go_enter Tryd.func10, Tryd.ntmps10
  go_wp2_with fail
  refine (Hsp.out _).mono ?_; rintro e w1 ⟨⟨v1, rfl, hown⟩, hb1⟩
  have HR1 := Lib.hid (HR.out.on hb1); have Hb1 := Lib.hid (bthen HbA.out hb1); clear hb1
  obtain ⟨A1, c1, rfl⟩ := own_form hown
  have Hown := Lib.hid hown; clear hown
  by_cases h4 : ps.length = 4
  · obtain ⟨x0, x1, x2, x3, rfl⟩ := list4r h4
    clear h4 Hn4
    have Hc := Lib.hid (H4.out x0 x1 x2 x3 rfl)
    have sz : ∀ x ∈ [x0, x1, x2, x3], (⟨x.toArray⟩ : ByteArray).size ≤ 1900000 := fun x hx => by
      have h7 := Hmem.out x hx
      show x.toArray.size ≤ _
      rw [List.size_toArray]
      exact Nat.le_trans h7 (by omega)
    have z0 := sz x0 (by simp)
    have z1 := sz x1 (by simp)
    have z2 := sz x2 (by simp)
    have z3 := sz x3 (by simp)
    clear sz Hmem hspl H4
    have Hcap := Lib.hid (own_cap Hown.out)
    rcases own_two Hown.out with ⟨h0, -, -⟩ | ⟨g1, rfl, hbg, hlg1⟩
    · cases h0
    have f0 := Hown.out.cellAt 0 (show 0 < 4 * 1 by decide)
    have f1 := Hown.out.cellAt 1 (show 1 < 4 * 1 by decide)
    have f2 := Hown.out.cellAt 2 (show 2 < 4 * 1 by decide)
    have f3 := Hown.out.cellAt 3 (show 3 < 4 * 1 by decide)
    clear Hown
    simp only [bsv, List.map_cons, List.map_nil, List.getElem?_cons_zero, List.getElem?_cons_succ] at f0 f1 f2 f3
    rw [show [x0, x1, x2, x3].length = 4 from rfl] at Hcap ⊢
    have hcap := Hcap.out
    have hgne : Hid (g1 ≠ w.heap.size) := Lib.hid (by have := HR.out.lt; omega)
    have hT : ((⟨x0.toArray⟩ : ByteArray) ++ (⟨#[32]⟩ : ByteArray) ++ (⟨x1.toArray⟩ : ByteArray)).data.toList = x0 ++ 32 :: x1 := by simp
    have s1 : ((⟨x0.toArray⟩ : ByteArray) ++ (⟨#[32]⟩ : ByteArray)).size ≤ 1900001 := by rw [ByteArray.size_append]; exact Nat.add_le_add z0 (Nat.le_refl _)
    have s2 : ((⟨x0.toArray⟩ : ByteArray) ++ (⟨#[32]⟩ : ByteArray) ++ (⟨x1.toArray⟩ : ByteArray)).size ≤ 4000000 := by rw [ByteArray.size_append]; omega
    have Hec := Lib.hid (fun W => ecParse_det ((⟨x0.toArray⟩ : ByteArray) ++ (⟨#[32]⟩ : ByteArray) ++ (⟨x1.toArray⟩ : ByteArray)) W s2)
    rw [hT] at Hec
    have a1 := str_add (⟨x0.toArray⟩ : ByteArray) (⟨#[32]⟩ : ByteArray) (by omega) (by decide)
    have a2 := str_add ((⟨x0.toArray⟩ : ByteArray) ++ (⟨#[32]⟩ : ByteArray)) (⟨x1.toArray⟩ : ByteArray) (by omega) (by omega)
    clear hT
    have Hsp2 := Lib.hid (fun W => l1Split_any ⟨x2.toArray⟩ 46 W (by omega))
    rw [show (⟨x2.toArray⟩ : ByteArray).data.toList = x2 from rfl] at Hsp2
    have Hmem2 := Lib.hid (fun y hy => Nat.le_trans (spl_mem 46 x2 y hy) (show x2.length ≤ 1900000 from by rw [← List.size_toArray]; exact z2))
    have hsl2 := spl_len 46 x2
    have hx2l : x2.length ≤ 1900000 := by rw [← List.size_toArray]; exact z2
    have H3 := Lib.hid (fun W => l1Read_any ⟨x3.toArray⟩ W (by omega))
    rw [show (⟨x3.toArray⟩ : ByteArray).data.toList = x3 from rfl] at H3
    have Hpn := Lib.hid (fun h => ClP.no (Hc.out.trans (rd4S_pc (w0 := x0) (w1 := x1) (w2 := x2) (w3 := x3) h)))
    have Hln := Lib.hid (fun h => ClP.no (Hc.out.trans (rd4S_len (w0 := x0) (w1 := x1) (w2 := x2) (w3 := x3) h)))
    have Hye := Lib.hid (fun x y z hc h => ClP.yes (Hc.out.trans (rd4S_yes (w0 := x0) (w1 := x1) (w2 := x2) (w3 := x3) (x := x) (y := y) (z := z) hc h)))
    generalize pcV (x0 ++ 32 :: x1) = pv at Hec Hpn Hye
    obtain ⟨a, b, ok⟩ := pv
    simp only at Hec Hpn Hye
    generalize spl 46 x2 = es at Hsp2 Hmem2 hsl2 Hln Hye
    generalize ((⟨x0.toArray⟩ : ByteArray) ++ (⟨#[32]⟩ : ByteArray) ++ (⟨x1.toArray⟩ : ByteArray)) = T at Hec a2 s2
    generalize ((⟨x0.toArray⟩ : ByteArray) ++ (⟨#[32]⟩ : ByteArray)) = Y at a1 a2 s1
    generalize (⟨x0.toArray⟩ : ByteArray) = X0 at a1 f0 z0
    generalize (⟨x1.toArray⟩ : ByteArray) = X1 at a2 f1 z1
    generalize (⟨x2.toArray⟩ : ByteArray) = X2 at Hsp2 f2 z2
    generalize (⟨x3.toArray⟩ : ByteArray) = X3 at H3 f3 z3
    clear Hc
    have HS : Hid (∀ w', Below w1.heap.size w1 w' → (w'.cell? ⟨g1, 0, none⟩ = some (.string X0) ∧ w'.cell? ⟨g1, 1, none⟩ = some (.string X1) ∧ Below w1.heap.size w1 w')) := Lib.hid (fun w' hw => ⟨(hw.cell (p := ⟨g1, 0, none⟩) hlg1).trans f0, (hw.cell (p := ⟨g1, 1, none⟩) hlg1).trans f1, hw⟩)
    have F2 := Lib.hid f2; have F3 := Lib.hid f3; clear f2 f3
    go_wp2_with fail
    go_cut [5, 6] (fun p o wx => ∃ (q : Nat), p = .pointer (some ⟨q, 0, none⟩) ∧ o = .bool ok ∧ Blk wx q 31 #[.int .i64 a, .int .i64 b] ∧ w1.heap.size ≤ q ∧ Below w1.heap.size w1 wx)
    case first =>
      go_region_held3 (fun w' => w'.cell? ⟨g1, 0, none⟩ = some (.string X0) ∧ w'.cell? ⟨g1, 1, none⟩ = some (.string X1) ∧ Below w1.heap.size w1 w')
        ((go_split_ands; refine HS.out _ ?_; repeat (first | (with_reducible assumption) | (with_reducible exact Below.refl _ _) | (with_reducible refine Below.drew ?_) | (with_reducible refine bal ?_ _) | (with_reducible refine bst ?_ (by first | omega | (simp; done) | (simp; omega)) _) | (with_reducible refine bthen ?_ (by with_reducible assumption)))))
        ((first
          | (go_at_call 22; (with_reducible refine (Hec.out _).mono ?_); rintro e w3 ⟨rfl, hb3⟩; (try (have hz3 : Blk w3 w1.heap.size 31 #[.int .i64 0, .int .i64 0] := (Blk.drew (Blk.new w1 31 #[.int .i64 0, .int .i64 0])).on hb3; have zc0 := hz3.cell 0; have zc1 := hz3.cell 1; have zf0 := hz3.frozen 0; have zf1 := hz3.frozen 1; have zl := hz3.lt; have Hz3 := Lib.hid hz3; clear hz3)))))
      all_goals
        go_wp2_with fail
        go_meet
        have hsz3 : Hid (w1.drew.heap.size ≤ w3.heap.size → w1.heap.size ≤ w3.heap.size) := Lib.hid (fun h => h)
        first
          | with_reducible exact ⟨_, rfl, rfl, Blk.new _ _ _, hsz3.out hb3.size, by repeat (with_reducible first | exact Below.refl _ _ | refine Below.drew ?_ | refine bal ?_ _ | refine bthen ?_ hb3)⟩
          | exact ⟨_, rfl, rfl, Blk.set2 Hz3.out, Nat.le_refl _, by repeat (with_reducible first | exact Below.refl _ _ | refine Below.drew ?_ | refine bal ?_ _ | (refine bst ?_ (by first | omega | (simp; done) | (simp; omega)) _) | refine bthen ?_ hb3)⟩
    obtain ⟨q, rfl, rfl, hBq, hq, hbc⟩ := hcut
    have HR3 := Lib.hid (HR1.out.on hbc); have Hb3 := Lib.hid (bthen Hb1.out hbc)
    have f2 := (hbc.cell (p := ⟨g1, 2, none⟩) hlg1).trans F2.out
    have F3' := Lib.hid ((hbc.cell (p := ⟨g1, 3, none⟩) hlg1).trans F3.out)
    have hlg3 := Nat.lt_of_lt_of_le hlg1 hbc.size
    have HBq := Lib.hid hBq
    have hqne : Hid (q ≠ w.heap.size) := Lib.hid (by have := HR1.out.lt; omega)
    clear HS F2 F3 f0 f1 a1 a2 hBq hq hbc Hec s1 s2
    go_wp2_with fail
    refine (Hsp2.out _).mono ?_; rintro e w4 ⟨⟨v4, rfl, hown4⟩, hb4⟩
    have F3 := Lib.hid ((hb4.cell (p := ⟨g1, 3, none⟩) hlg3).trans F3'.out)
    have hlg4 := Nat.lt_of_lt_of_le hlg3 hb4.size
    have HR4 := Lib.hid (HR3.out.on hb4); have HBq4 := Lib.hid (HBq.out.on hb4); have Hb4 := Lib.hid (bthen Hb3.out hb4); clear hb4 f2 F3'
    obtain ⟨A4, c4, rfl⟩ := own_form hown4
    have Hown4 := Lib.hid hown4; clear hown4
    cases ok
    · have HN := Lib.hid (Hpn.out rfl)
      have r := HR4.out.cells5
      obtain ⟨r0, r1, r2, r3, r4⟩ := r
      have rl := HR4.out.lt
      have rf := HR4.out.frozen
      go_wp2
      have HR5 := HR4.out.set5 (b0 := .int .i64 0) (b1 := .int .i64 0) (b2 := .int .i64 0) (b3 := .int .i64 0) (b4 := .int .i64 0)
      obtain ⟨q0, q1, q2, q3, q4⟩ := HR5.cells5
      exact bodyPost_ret (v := .tuple #[.agg #[.int .i64 0, .int .i64 0, .int .i64 0, .int .i64 0, .int .i64 0], .bool false]) (by simp [results, Tryd.results10, go_sem, q0, q1, q2, q3, q4]) rfl ⟨HN.out, bst (bst (bst (bst (bst Hb4.out (Nat.le_refl _) _) (Nat.le_refl _) _) (Nat.le_refl _) _) (Nat.le_refl _) _) (Nat.le_refl _) _⟩
    · by_cases h3 : es.length = 3
      · obtain ⟨y0, y1, y2, rfl⟩ := list3g h3
        clear h3 hsl2 Hln Hpn
        have HN := Lib.hid (Hye.out y0 y2 y1 rfl rfl)
        clear Hye
        have y0s : (⟨y0.toArray⟩ : ByteArray).size ≤ 4000000 := by show y0.toArray.size ≤ _; rw [List.size_toArray]; exact Nat.le_trans (Hmem2.out y0 (by simp)) (by decide)
        have y2s : (⟨y2.toArray⟩ : ByteArray).size ≤ 4000000 := by show y2.toArray.size ≤ _; rw [List.size_toArray]; exact Nat.le_trans (Hmem2.out y2 (by simp)) (by decide)
        have H1 := Lib.hid (fun W => l1Read_any ⟨y0.toArray⟩ W y0s)
        have H2 := Lib.hid (fun W => l1Read_any ⟨y2.toArray⟩ W y2s)
        rw [show (⟨y0.toArray⟩ : ByteArray).data.toList = y0 from rfl] at H1
        rw [show (⟨y2.toArray⟩ : ByteArray).data.toList = y2 from rfl] at H2
        clear Hmem2 y0s y2s
        have hcap4 := own_cap Hown4.out
        rcases own_two Hown4.out with ⟨h0, -, -⟩ | ⟨g4, rfl, hbg4, hl4⟩
        · cases h0
        have e0 := Hown4.out.cellAt 0 (show 0 < 3 * 1 by decide)
        have e2 := Hown4.out.cellAt 2 (show 2 < 3 * 1 by decide)
        have hg4ne : Hid (g4 ≠ w.heap.size) := Lib.hid (by have := HR3.out.lt; omega)
        clear Hown4 Hsp2
        simp only [bsv, List.map_cons, List.map_nil, List.getElem?_cons_zero, List.getElem?_cons_succ] at e0 e2
        rw [show [y0, y1, y2].length = 3 from rfl] at hcap4 ⊢
        generalize (⟨y0.toArray⟩ : ByteArray) = Y0 at H1 e0
        generalize (⟨y2.toArray⟩ : ByteArray) = Y2 at H2 e2
        generalize rdN y0 = lo at H1 HN
        generalize rdN y2 = hi at H2 HN
        generalize rdN x3 = to9 at H3 HN
        have f3 := F3.out
        have b0 := HBq4.out.cell 0
        have b1 := HBq4.out.cell 1
        simp at b0 b1
        have bl := HBq4.out.lt
        obtain ⟨r0, r1, r2, r3, r4⟩ := HR4.out.cells5
        have rl := HR4.out.lt
        have rf := HR4.out.frozen
        go_wp2_with fail
        go_region_held3 (fun w' => w'.cell? ⟨g1, 3, none⟩ = some (.string X3) ∧ w'.cell? ⟨g4, 0, none⟩ = some (.string Y0) ∧ w'.cell? ⟨g4, 2, none⟩ = some (.string Y2) ∧ w'.cell? ⟨q, 0, none⟩ = some (.int .i64 a) ∧ w'.cell? ⟨q, 1, none⟩ = some (.int .i64 b))
          ((go_split_ands; refine ⟨?_, ?_, ?_, ?_, ?_⟩ <;> repeat (first | (with_reducible assumption) | (with_reducible refine drewK ?_) | (with_reducible refine farK ?_ hgne.out) | (with_reducible refine farK ?_ hg4ne.out) | (with_reducible refine farK ?_ hqne.out))))
          ((first
            | (go_at_call 23; (with_reducible refine (H1.out _).mono ?_); rintro e wa ⟨rfl, rfl⟩)
            | (go_at_call 23; (with_reducible refine (H2.out _).mono ?_); rintro e wa ⟨rfl, rfl⟩)
            | (go_at_call 23; (with_reducible refine (H3.out _).mono ?_); rintro e wa ⟨rfl, rfl⟩)))
        all_goals
          go_wp2
          have HR5 := (HR4.out.set5 (b0 := .int .i64 a) (b1 := .int .i64 b) (b2 := .int .i64 lo) (b3 := .int .i64 hi) (b4 := .int .i64 to9)).drew
          have Hbf := Below.drew (bst (bst (bst (bst (bst Hb4.out (p := ⟨w.heap.size, 0, none⟩) (Nat.le_refl _) (.int .i64 a)) (p := ⟨w.heap.size, 1, none⟩) (Nat.le_refl _) (.int .i64 b)) (p := ⟨w.heap.size, 2, none⟩) (Nat.le_refl _) (.int .i64 lo)) (p := ⟨w.heap.size, 3, none⟩) (Nat.le_refl _) (.int .i64 hi)) (p := ⟨w.heap.size, 4, none⟩) (Nat.le_refl _) (.int .i64 to9))
          generalize World.drew (World.setCell (World.setCell (World.setCell (World.setCell (World.setCell w4 ⟨w.heap.size, 0, none⟩ (.int .i64 a)) ⟨w.heap.size, 1, none⟩ (.int .i64 b)) ⟨w.heap.size, 2, none⟩ (.int .i64 lo)) ⟨w.heap.size, 3, none⟩ (.int .i64 hi)) ⟨w.heap.size, 4, none⟩ (.int .i64 to9)) = wf at HR5 Hbf ⊢
          obtain ⟨q0, q1, q2, q3, q4⟩ := HR5.cells5
          exact bodyPost_ret (v := .tuple #[.agg #[.int .i64 a, .int .i64 b, .int .i64 lo, .int .i64 hi, .int .i64 to9], .bool true]) (by simp [results, Tryd.results10, go_sem, q0, q1, q2, q3, q4]) rfl ⟨HN.out, Hbf⟩
      · have HN := Lib.hid (Hln.out h3)
        have h5 : ((es.length : Int) == 3) = false := beq_eq_false_iff_ne.2 (by omega)
        have h6 : ((es.length : Int) != 3) = true := by simp [bne, h5]
        have r := HR4.out.cells5
        obtain ⟨r0, r1, r2, r3, r4⟩ := r
        have rl := HR4.out.lt
        have rf := HR4.out.frozen
        go_wp2
        have HR5 := HR4.out.set5 (b0 := .int .i64 0) (b1 := .int .i64 0) (b2 := .int .i64 0) (b3 := .int .i64 0) (b4 := .int .i64 0)
        obtain ⟨q0, q1, q2, q3, q4⟩ := HR5.cells5
        exact bodyPost_ret (v := .tuple #[.agg #[.int .i64 0, .int .i64 0, .int .i64 0, .int .i64 0, .int .i64 0], .bool false]) (by simp [results, Tryd.results10, go_sem, q0, q1, q2, q3, q4]) rfl ⟨HN.out, bst (bst (bst (bst (bst Hb4.out (Nat.le_refl _) _) (Nat.le_refl _) _) (Nat.le_refl _) _) (Nat.le_refl _) _) (Nat.le_refl _) _⟩
  · have h3 : ((ps.length : Int) == 4) = false := beq_eq_false_iff_ne.2 (by omega)
    have h5 : ((ps.length : Int) != 4) = true := by simp [bne, h3]
    have HN := Lib.hid (Hn4.out h4)
    obtain ⟨r0, r1, r2, r3, r4⟩ := HR1.out.cells5
    have rl := HR1.out.lt
    have rf := HR1.out.frozen
    go_wp2
    have HR5 := HR1.out.set5 (b0 := .int .i64 0) (b1 := .int .i64 0) (b2 := .int .i64 0) (b3 := .int .i64 0) (b4 := .int .i64 0)
    obtain ⟨q0, q1, q2, q3, q4⟩ := HR5.cells5
    exact bodyPost_ret (v := .tuple #[.agg #[.int .i64 0, .int .i64 0, .int .i64 0, .int .i64 0, .int .i64 0], .bool false]) (by simp [results, Tryd.results10, go_sem, q0, q1, q2, q3, q4]) rfl ⟨HN.out, bst (bst (bst (bst (bst Hb1.out (Nat.le_refl _) _) (Nat.le_refl _) _) (Nat.le_refl _) _) (Nat.le_refl _) _) (Nat.le_refl _) _⟩
end Go.Proofs.YticbmpjdcanjkaaDoor
