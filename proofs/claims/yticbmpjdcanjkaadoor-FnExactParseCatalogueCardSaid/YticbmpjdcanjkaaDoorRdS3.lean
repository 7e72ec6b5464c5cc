/- The reference's reader of a curve's text: the walk. Conditions: a bound on the text's length. -/
import Derived.Test.YticbmpjdcanjkaaDoorRdS2
namespace Go.Proofs.YticbmpjdcanjkaaDoor
open Go Go.RowKit

def PaP (s : List UInt8) (e : Ending) : Prop :=
  (∃ a b : Int, paC s = some (a, b) ∧ e = .returned (.tuple #[.agg #[.int .i64 a, .int .i64 b], .bool true])) ∨
  (paC s = none ∧ e = .returned (.tuple #[.agg #[.int .i64 0, .int .i64 0], .bool false]))
theorem PaP.no {s : List UInt8} (h : paC s = none) : PaP s (.returned (.tuple #[.agg #[.int .i64 0, .int .i64 0], .bool false])) := Or.inr ⟨h, rfl⟩
theorem PaP.yes {s : List UInt8} {a b : Int} (h : paC s = some (a, b)) : PaP s (.returned (.tuple #[.agg #[.int .i64 a, .int .i64 b], .bool true])) := Or.inl ⟨a, b, h, rfl⟩
theorem paC_two {s : List UInt8} {x y : List UInt8} (h : spl 32 s = [x, y]) : paC s = if curveB (sgN x) (sgN y) = true ∧ (nText [sgN x, sgN y]).data.toList = s then some (sgN x, sgN y) else none := by
  unfold paC; rw [h]
theorem paC_not2 {s : List UInt8} (h : (spl 32 s).length ≠ 2) : paC s = none := by
  unfold paC
  split
  · rename_i hh; rw [hh] at h; exact absurd rfl h
  · rfl
theorem list2g {E : Type} {l : List E} (h : l.length = 2) : ∃ a b, l = [a, b] := by
  match l, h with
  | [a, b], _ => exact ⟨a, b, rfl⟩
theorem list5g {E : Type} {l : List E} (h : l.length = 5) : ∃ a b c d e, l = [a, b, c, d, e] := by
  match l, h with
  | [a, b, c, d, e], _ => exact ⟨a, b, c, d, e, rfl⟩
theorem own_cap {w : World} {b : Nat} {t : TypeId} {z n c : Nat} {A : Option Addr} {xs : List Value} (h : w.ownsRow b t z (.slice A n c) n xs) : n ≤ c := by
  rcases h.2 with ⟨h', hn⟩ | ⟨g, cap, cur, h', hb, hg, hnc, -⟩
  · cases h'; omega
  · cases h'; exact hnc
set_option linter.unusedSimpArgs false in
set_option maxRecDepth 8000 in
set_option maxHeartbeats 4000000 in
theorem ecParse_any (s : ByteArray) (w : World) (hs : s.size ≤ 4000000) :
    Calls Tryd.prog 22 #[.string s] w fun e w' => PaP s.data.toList e ∧ Below w.heap.size w w' := by
  have hlen : s.data.toList.length = s.size := rfl
  have HR := Lib.hid (Blk.new w 31 #[.int .i64 0, .int .i64 0])
  have hA := bal (Below.refl w.heap.size w) (Obj.cells #[.int .i64 0, .int .i64 0] 31)
  have HbA := Lib.hid hA; clear hA
  have Hsp := Lib.hid (fun W => l1Split_any s 32 W hs)
  have hspl := spl_len 32 s.data.toList
  have Hmem := Lib.hid (spl_mem 32 s.data.toList)
  have Hno := Lib.hid (fun h => PaP.no (paC_long (s := s.data.toList) h))
  have Hno2 := Lib.hid (fun h => PaP.no (paC_not2 (s := s.data.toList) h))
  have H2 := Lib.hid (fun x y h => paC_two (s := s.data.toList) (x := x) (y := y) h)
  generalize spl 32 s.data.toList = ps at Hsp hspl Hmem Hno2 H2
  go_enter Tryd.func22, Tryd.ntmps22
  go_wp2_with fail
  refine (Hsp.out _).mono ?_; rintro e w1 ⟨⟨v1, rfl, hown⟩, hb1⟩
  have HR1 := Lib.hid (HR.out.on hb1); have Hb1 := Lib.hid (bthen HbA.out hb1); clear hb1
  obtain ⟨A1, c1, rfl⟩ := own_form hown
  have Hown := Lib.hid hown; clear hown
  have r0 := HR1.out.cell 0
  have r1 := HR1.out.cell 1
  have rl := HR1.out.lt
  have rf := HR1.out.frozen
  simp at r0 r1
  by_cases hlg : 12 < s.size
  · have hlg1 : (12 : Int) < (s.size : Int) := by omega
    have HN := Lib.hid (Hno.out (by omega))
    go_wp2
    have HR4 := HR1.out.set2 (b0 := .int .i64 0) (b1 := .int .i64 0)
    have q0 := HR4.cell 0
    have q1 := HR4.cell 1
    simp at q0 q1
    exact bodyPost_ret (v := .tuple #[.agg #[.int .i64 0, .int .i64 0], .bool false]) (by simp [results, Tryd.results22, go_sem, q0, q1]) rfl ⟨HN.out, bst (bst Hb1.out (Nat.le_refl _) _) (Nat.le_refl _) _⟩
  · have hlg1 : ¬ (12 : Int) < (s.size : Int) := by omega
    by_cases h2 : ps.length = 2
    · obtain ⟨x, y, rfl⟩ := list2g h2
      clear h2
      have Hv := Lib.hid (H2.out x y rfl)
      clear hspl Hno2
      have hxs : (⟨x.toArray⟩ : ByteArray).size ≤ 4000000 := by have h7 := Hmem.out x (by simp); show x.toArray.size ≤ _; rw [List.size_toArray]; omega
      have hys : (⟨y.toArray⟩ : ByteArray).size ≤ 4000000 := by have h7 := Hmem.out y (by simp); show y.toArray.size ≤ _; rw [List.size_toArray]; omega
      have Hx := Lib.hid (fun W => ecSigned_any ⟨x.toArray⟩ W hxs)
      have Hy := Lib.hid (fun W => ecSigned_any ⟨y.toArray⟩ W hys)
      have hx9 := sgN_bd x
      have hy9 := sgN_bd y
      rw [show (⟨x.toArray⟩ : ByteArray).data.toList = x from rfl] at Hx
      rw [show (⟨y.toArray⟩ : ByteArray).data.toList = y from rfl] at Hy
      clear hxs hys Hmem
      have Hcap := Lib.hid (own_cap Hown.out)
      rcases own_two Hown.out with ⟨h0, -, -⟩ | ⟨g1, rfl, hbg, hlg2⟩
      · cases h0
      have f0 := Hown.out.cellAt 0 (show 0 < 2 * 1 by decide)
      have f1 := Hown.out.cellAt 1 (show 1 < 2 * 1 by decide)
      clear Hown
      simp only [bsv, List.map_cons, List.map_nil, List.getElem?_cons_zero, List.getElem?_cons_succ] at f0 f1
      rw [show [x, y].length = 2 from rfl] at Hcap ⊢
      generalize (⟨x.toArray⟩ : ByteArray) = X at Hx f0
      generalize (⟨y.toArray⟩ : ByteArray) = Y at Hy f1
      generalize sgN x = a at Hx Hv hx9
      generalize sgN y = b at Hy Hv hy9
      have hcap := Hcap.out
      have HS : Hid (∀ w', Below w1.heap.size w1 w' → ((w'.cell? ⟨g1, 0, none⟩ = some (.string X) ∧ w'.cell? ⟨g1, 1, none⟩ = some (.string Y)) ∧ Below w1.heap.size w1 w')) := Lib.hid (fun w' hw => ⟨⟨(hw.cell (p := ⟨g1, 0, none⟩) hlg2).trans f0, (hw.cell (p := ⟨g1, 1, none⟩) hlg2).trans f1⟩, hw⟩)
      have hb0 := Below.refl w1.heap.size w1
      clear r0 r1 rl rf
      go_wp2
      go_region_held3 (fun w' => (w'.cell? ⟨g1, 0, none⟩ = some (.string X) ∧ w'.cell? ⟨g1, 1, none⟩ = some (.string Y)) ∧ Below w1.heap.size w1 w') (((go_split_ands; refine HS.out _ ?_; repeat (first | (with_reducible assumption) | (with_reducible exact Below.refl _ _) | (with_reducible refine Below.drew ?_) | (with_reducible refine bal ?_ _) | (with_reducible refine bst ?_ (by exact Nat.le_refl _) _) | (with_reducible refine bthen ?_ (by with_reducible assumption)))))) ((first | (go_at_call 40; (with_reducible refine (Hx.out _).mono ?_); rintro e wa ⟨rfl, rfl⟩) | (go_at_call 40; (with_reducible refine (Hy.out _).mono ?_); rintro e wa ⟨rfl, rfl⟩)))
      all_goals (
        have HB := (Blk.new w1 31 #[.int .i64 a, .int .i64 b]).drew
        have HZ := (HR1.out.alloc (Obj.cells #[.int .i64 a, .int .i64 b] 31)).drew
        have Hbq := (bal Hb1.out (Obj.cells #[.int .i64 a, .int .i64 b] 31)).drew
        generalize World.drew (w1.alloc (Obj.cells #[.int .i64 a, .int .i64 b] 31)) = wq at HB HZ Hbq ⊢
        clear HS hb0 f0 f1 Hx Hy
        replace HB := Lib.hid HB; replace HZ := Lib.hid HZ; replace Hbq := Lib.hid Hbq
        have g0 := HB.out.cell 0
        have g1' := HB.out.cell 1
        have gl := HB.out.lt
        simp at g0 g1'
        go_wp2_with fail
        refine (ecGood_any a b _).mono ?_; rintro e w2 ⟨rfl, hb2⟩
        clear g0 g1' gl
        have HB2 := Lib.hid (HB.out.on hb2); have HZ2 := Lib.hid (HZ.out.on hb2); have Hb2 := Lib.hid (bthen Hbq.out hb2); clear hb2
        cases hcv : curveB a b
        · have HN := Lib.hid (show paC s.data.toList = none by rw [Hv.out, if_neg (fun hh => by rw [hcv] at hh; cases hh.1)])
          have HN := Lib.hid (PaP.no HN.out)
          have z0 := HZ2.out.cell 0
          have z1 := HZ2.out.cell 1
          have zl := HZ2.out.lt
          have zf := HZ2.out.frozen
          simp at z0 z1
          go_wp2
          have HR4 := HZ2.out.set2 (b0 := .int .i64 0) (b1 := .int .i64 0)
          have q0 := HR4.cell 0
          have q1 := HR4.cell 1
          simp at q0 q1
          exact bodyPost_ret (v := .tuple #[.agg #[.int .i64 0, .int .i64 0], .bool false]) (by simp [results, Tryd.results22, go_sem, q0, q1]) rfl ⟨HN.out, bst (bst Hb2.out (Nat.le_refl _) _) (Nat.le_refl _) _⟩
        · have g0 := HB2.out.cell 0
          have g1' := HB2.out.cell 1
          have gl := HB2.out.lt
          simp at g0 g1'
          go_wp2_with fail
          refine (ecText_any a b _ (by omega) (by omega)).mono ?_; rintro e w3 ⟨rfl, hb3⟩
          clear g0 g1' gl
          have HB3 := Lib.hid (HB2.out.on hb3); have HZ3 := Lib.hid (HZ2.out.on hb3); have Hb3 := Lib.hid (bthen Hb2.out hb3); clear hb3
          have z0 := HZ3.out.cell 0
          have z1 := HZ3.out.cell 1
          have zl := HZ3.out.lt
          have zf := HZ3.out.frozen
          have g0 := HB3.out.cell 0
          have g1' := HB3.out.cell 1
          simp at z0 z1 g0 g1'
          by_cases htx : nText [a, b] = s
          · have HN := Lib.hid (PaP.yes (show paC s.data.toList = some (a, b) by rw [Hv.out, if_pos ⟨hcv, by rw [htx]⟩]))
            have hq : ((nText [a, b]).toList == s.toList) = true := by rw [htx]; simp
            clear htx
            go_wp2
            have HR4 := HZ3.out.set2 (b0 := .int .i64 a) (b1 := .int .i64 b)
            have q0 := HR4.cell 0
            have q1 := HR4.cell 1
            simp at q0 q1
            exact bodyPost_ret (v := .tuple #[.agg #[.int .i64 a, .int .i64 b], .bool true]) (by simp [results, Tryd.results22, go_sem, q0, q1]) rfl ⟨HN.out, bst (bst Hb3.out (Nat.le_refl _) _) (Nat.le_refl _) _⟩
          · have HN := Lib.hid (show paC s.data.toList = none by rw [Hv.out, if_neg (fun hh => htx (bytes_ext hh.2))])
            have HN := Lib.hid (PaP.no HN.out)
            have hq : ((nText [a, b]).toList == s.toList) = false := beq_eq_false_iff_ne.2 (fun e => htx (bytes_inj e))
            clear htx
            go_wp2
            have HR4 := HZ3.out.set2 (b0 := .int .i64 0) (b1 := .int .i64 0)
            have q0 := HR4.cell 0
            have q1 := HR4.cell 1
            simp at q0 q1
            exact bodyPost_ret (v := .tuple #[.agg #[.int .i64 0, .int .i64 0], .bool false]) (by simp [results, Tryd.results22, go_sem, q0, q1]) rfl ⟨HN.out, bst (bst Hb3.out (Nat.le_refl _) _) (Nat.le_refl _) _⟩)
    · have h3 : ((ps.length : Int) == 2) = false := beq_eq_false_iff_ne.2 (by omega)
      have h4 : ((ps.length : Int) != 2) = true := by simp [bne, h3]
      have HN := Lib.hid (Hno2.out h2)
      go_wp2
      have HR4 := HR1.out.set2 (b0 := .int .i64 0) (b1 := .int .i64 0)
      have q0 := HR4.cell 0
      have q1 := HR4.cell 1
      simp at q0 q1
      exact bodyPost_ret (v := .tuple #[.agg #[.int .i64 0, .int .i64 0], .bool false]) (by simp [results, Tryd.results22, go_sem, q0, q1]) rfl ⟨HN.out, bst (bst Hb1.out (Nat.le_refl _) _) (Nat.le_refl _) _⟩
/-- What it hands back. -/
def pcV (s : List UInt8) : Int × Int × Bool := match paC s with | some (a, b) => (a, b, true) | none => (0, 0, false)
theorem ecParse_det (s : ByteArray) (w : World) (hs : s.size ≤ 4000000) :
    Calls Tryd.prog 22 #[.string s] w fun e w' => e = .returned (.tuple #[.agg #[.int .i64 (pcV s.data.toList).1, .int .i64 (pcV s.data.toList).2.1], .bool (pcV s.data.toList).2.2]) ∧ Below w.heap.size w w' := by
  refine (ecParse_any s w hs).mono fun e w' hh => ?_
  obtain ⟨h1, h2⟩ := hh
  refine ⟨?_, h2⟩
  unfold pcV
  rcases h1 with ⟨a, b, hp, rfl⟩ | ⟨hp, rfl⟩
  · rw [hp]
  · rw [hp]
end Go.Proofs.YticbmpjdcanjkaaDoor
