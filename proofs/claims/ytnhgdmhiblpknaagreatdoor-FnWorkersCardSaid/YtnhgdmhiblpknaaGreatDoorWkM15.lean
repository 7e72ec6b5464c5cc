/- Own texts put together: The reference's reader of a curve's text: the walk; The walk of the reference's ParseTask; The reference's source: a string of a list, a string spoilt. Conditions: those of each theorem. -/
import Derived.Test.YtnhgdmhiblpknaaGreatDoorWkM14
import Derived.Test.YtnhgdmhiblpknaaGreatDoorWkM3
import Derived.Test.YtnhgdmhiblpknaaGreatDoorWkM2
import Derived.Test.YtnhgdmhiblpknaaGreatDoorWkM1
import Derived.Deep.DeepCutAuto
namespace Go.Proofs.YtnhgdmhiblpknaaGreatDoor
section
open Go Go.RowKit

def PaP (s : List UInt8) (e : Ending) : Prop :=
  (∃ a b : Int, paC s = some (a, b) ∧ e = .returned (.tuple #[.agg #[.int .i64 a, .int .i64 b], .bool true])) ∨
  (paC s = none ∧ e = .returned (.tuple #[.agg #[.int .i64 0, .int .i64 0], .bool false]))
theorem PaP.no {s : List UInt8} (h : paC s = none) : PaP s (.returned (.tuple #[.agg #[.int .i64 0, .int .i64 0], .bool false])) := Or.inr ⟨h, rfl⟩
theorem PaP.yes {s : List UInt8} {a b : Int} (h : paC s = some (a, b)) : PaP s (.returned (.tuple #[.agg #[.int .i64 a, .int .i64 b], .bool true])) := Or.inl ⟨a, b, h, rfl⟩
theorem paC_two {s : List UInt8} {x y : List UInt8} (h : spl 32 s = [x, y]) : paC s = if curveB (sgN x) (sgN y) = true ∧ (nText [sgN x, sgN y]).data.toList = s then some (sgN x, sgN y) else none := by
  unfold paC; rw [h]
theorem paC_not2 {s : List UInt8} (h : (spl 32 s).length ≠ 2) : paC s = none := by
  unfold paC
  split
  · rename_i hh; rw [hh] at h; exact absurd rfl h
  · rfl
theorem list2g {E : Type} {l : List E} (h : l.length = 2) : ∃ a b, l = [a, b] := by
  match l, h with
  | [a, b], _ => exact ⟨a, b, rfl⟩
theorem list5g {E : Type} {l : List E} (h : l.length = 5) : ∃ a b c d e, l = [a, b, c, d, e] := by
  match l, h with
  | [a, b, c, d, e], _ => exact ⟨a, b, c, d, e, rfl⟩
theorem own_cap {w : World} {b : Nat} {t : TypeId} {z n c : Nat} {A : Option Addr} {xs : List Value} (h : w.ownsRow b t z (.slice A n c) n xs) : n ≤ c := by
  rcases h.2 with ⟨h', hn⟩ | ⟨g, cap, cur, h', hb, hg, hnc, -⟩
  · cases h'; omega
  · cases h'; exact hnc
set_option linter.unusedSimpArgs false in
set_option maxRecDepth 8000 in
set_option maxHeartbeats 4000000 in
theorem ecParse_any (s : ByteArray) (w : World) (hs : s.size ≤ 4000000) :
    Calls Tryz.prog 100 #[.string s] w fun e w' => PaP s.data.toList e ∧ Below w.heap.size w w' := by
  have hlen : s.data.toList.length = s.size := rfl
  have HR := Lib.hid (Blk.new w 25 #[.int .i64 0, .int .i64 0])
  have hA := bal (Below.refl w.heap.size w) (Obj.cells #[.int .i64 0, .int .i64 0] 25)
  have HbA := Lib.hid hA; clear hA
  have Hsp := Lib.hid (fun W => l1Split_any s 32 W hs)
  have hspl := spl_len 32 s.data.toList
  have Hmem := Lib.hid (spl_mem 32 s.data.toList)
  have Hno := Lib.hid (fun h => PaP.no (paC_long (s := s.data.toList) h))
  have Hno2 := Lib.hid (fun h => PaP.no (paC_not2 (s := s.data.toList) h))
  have H2 := Lib.hid (fun x y h => paC_two (s := s.data.toList) (x := x) (y := y) h)
  generalize spl 32 s.data.toList = ps at Hsp hspl Hmem Hno2 H2
  go_enter Tryz.func100, Tryz.ntmps100
  go_wp2_with fail
  refine (Hsp.out _).mono ?_; rintro e w1 ⟨⟨v1, rfl, hown⟩, hb1⟩
  have HR1 := Lib.hid (HR.out.on hb1); have Hb1 := Lib.hid (bthen HbA.out hb1); clear hb1
  obtain ⟨A1, c1, rfl⟩ := own_form hown
  have Hown := Lib.hid hown; clear hown
  have r0 := HR1.out.cell 0
  have r1 := HR1.out.cell 1
  have rl := HR1.out.lt
  have rf := HR1.out.frozen
  simp at r0 r1
  by_cases hlg : 12 < s.size
  · have hlg1 : (12 : Int) < (s.size : Int) := by omega
    have HN := Lib.hid (Hno.out (by omega))
    go_wp2
    have HR4 := HR1.out.set2 (b0 := .int .i64 0) (b1 := .int .i64 0)
    have q0 := HR4.cell 0
    have q1 := HR4.cell 1
    simp at q0 q1
    exact bodyPost_ret (v := .tuple #[.agg #[.int .i64 0, .int .i64 0], .bool false]) (by simp [results, Tryz.results100, go_sem, q0, q1]) rfl ⟨HN.out, bst (bst Hb1.out (Nat.le_refl _) _) (Nat.le_refl _) _⟩
  · have hlg1 : ¬ (12 : Int) < (s.size : Int) := by omega
    by_cases h2 : ps.length = 2
    · obtain ⟨x, y, rfl⟩ := list2g h2
      clear h2
      have Hv := Lib.hid (H2.out x y rfl)
      clear hspl Hno2
      have hxs : (⟨x.toArray⟩ : ByteArray).size ≤ 4000000 := by have h7 := Hmem.out x (by simp); show x.toArray.size ≤ _; rw [List.size_toArray]; omega
      have hys : (⟨y.toArray⟩ : ByteArray).size ≤ 4000000 := by have h7 := Hmem.out y (by simp); show y.toArray.size ≤ _; rw [List.size_toArray]; omega
      have Hx := Lib.hid (fun W => ecSigned_any ⟨x.toArray⟩ W hxs)
      have Hy := Lib.hid (fun W => ecSigned_any ⟨y.toArray⟩ W hys)
      have hx9 := sgN_bd x
      have hy9 := sgN_bd y
      rw [show (⟨x.toArray⟩ : ByteArray).data.toList = x from rfl] at Hx
      rw [show (⟨y.toArray⟩ : ByteArray).data.toList = y from rfl] at Hy
      clear hxs hys Hmem
      have Hcap := Lib.hid (own_cap Hown.out)
      rcases own_two Hown.out with ⟨h0, -, -⟩ | ⟨g1, rfl, hbg, hlg2⟩
      · cases h0
      have f0 := Hown.out.cellAt 0 (show 0 < 2 * 1 by decide)
      have f1 := Hown.out.cellAt 1 (show 1 < 2 * 1 by decide)
      clear Hown
      simp only [bsv, List.map_cons, List.map_nil, List.getElem?_cons_zero, List.getElem?_cons_succ] at f0 f1
      rw [show [x, y].length = 2 from rfl] at Hcap ⊢
      generalize (⟨x.toArray⟩ : ByteArray) = X at Hx f0
      generalize (⟨y.toArray⟩ : ByteArray) = Y at Hy f1
      generalize sgN x = a at Hx Hv hx9
      generalize sgN y = b at Hy Hv hy9
      have hcap := Hcap.out
      have HS : Hid (∀ w', Below w1.heap.size w1 w' → ((w'.cell? ⟨g1, 0, none⟩ = some (.string X) ∧ w'.cell? ⟨g1, 1, none⟩ = some (.string Y)) ∧ Below w1.heap.size w1 w')) := Lib.hid (fun w' hw => ⟨⟨(hw.cell (p := ⟨g1, 0, none⟩) hlg2).trans f0, (hw.cell (p := ⟨g1, 1, none⟩) hlg2).trans f1⟩, hw⟩)
      have hb0 := Below.refl w1.heap.size w1
      clear r0 r1 rl rf
      go_wp2
      go_region_held3 (fun w' => (w'.cell? ⟨g1, 0, none⟩ = some (.string X) ∧ w'.cell? ⟨g1, 1, none⟩ = some (.string Y)) ∧ Below w1.heap.size w1 w') (((go_split_ands; refine HS.out _ ?_; repeat (first | (with_reducible assumption) | (with_reducible exact Below.refl _ _) | (with_reducible refine Below.drew ?_) | (with_reducible refine bal ?_ _) | (with_reducible refine bst ?_ (by exact Nat.le_refl _) _) | (with_reducible refine bthen ?_ (by with_reducible assumption)))))) ((first | (go_at_call 139; (with_reducible refine (Hx.out _).mono ?_); rintro e wa ⟨rfl, rfl⟩) | (go_at_call 139; (with_reducible refine (Hy.out _).mono ?_); rintro e wa ⟨rfl, rfl⟩)))
      all_goals (
        have HB := (Blk.new w1 25 #[.int .i64 a, .int .i64 b]).drew
        have HZ := (HR1.out.alloc (Obj.cells #[.int .i64 a, .int .i64 b] 25)).drew
        have Hbq := (bal Hb1.out (Obj.cells #[.int .i64 a, .int .i64 b] 25)).drew
        generalize World.drew (w1.alloc (Obj.cells #[.int .i64 a, .int .i64 b] 25)) = wq at HB HZ Hbq ⊢
        clear HS hb0 f0 f1 Hx Hy
        replace HB := Lib.hid HB; replace HZ := Lib.hid HZ; replace Hbq := Lib.hid Hbq
        have g0 := HB.out.cell 0
        have g1' := HB.out.cell 1
        have gl := HB.out.lt
        simp at g0 g1'
        go_wp2_with fail
        refine (ecGood_any a b _).mono ?_; rintro e w2 ⟨rfl, hb2⟩
        clear g0 g1' gl
        have HB2 := Lib.hid (HB.out.on hb2); have HZ2 := Lib.hid (HZ.out.on hb2); have Hb2 := Lib.hid (bthen Hbq.out hb2); clear hb2
        cases hcv : curveB a b
        · have HN := Lib.hid (show paC s.data.toList = none by rw [Hv.out, if_neg (fun hh => by rw [hcv] at hh; cases hh.1)])
          have HN := Lib.hid (PaP.no HN.out)
          have z0 := HZ2.out.cell 0
          have z1 := HZ2.out.cell 1
          have zl := HZ2.out.lt
          have zf := HZ2.out.frozen
          simp at z0 z1
          go_wp2
          have HR4 := HZ2.out.set2 (b0 := .int .i64 0) (b1 := .int .i64 0)
          have q0 := HR4.cell 0
          have q1 := HR4.cell 1
          simp at q0 q1
          exact bodyPost_ret (v := .tuple #[.agg #[.int .i64 0, .int .i64 0], .bool false]) (by simp [results, Tryz.results100, go_sem, q0, q1]) rfl ⟨HN.out, bst (bst Hb2.out (Nat.le_refl _) _) (Nat.le_refl _) _⟩
        · have g0 := HB2.out.cell 0
          have g1' := HB2.out.cell 1
          have gl := HB2.out.lt
          simp at g0 g1'
          go_wp2_with fail
          refine (ecText_any a b _ (by omega) (by omega)).mono ?_; rintro e w3 ⟨rfl, hb3⟩
          clear g0 g1' gl
          have HB3 := Lib.hid (HB2.out.on hb3); have HZ3 := Lib.hid (HZ2.out.on hb3); have Hb3 := Lib.hid (bthen Hb2.out hb3); clear hb3
          have z0 := HZ3.out.cell 0
          have z1 := HZ3.out.cell 1
          have zl := HZ3.out.lt
          have zf := HZ3.out.frozen
          have g0 := HB3.out.cell 0
          have g1' := HB3.out.cell 1
          simp at z0 z1 g0 g1'
          by_cases htx : nText [a, b] = s
          · have HN := Lib.hid (PaP.yes (show paC s.data.toList = some (a, b) by rw [Hv.out, if_pos ⟨hcv, by rw [htx]⟩]))
            have hq : ((nText [a, b]).toList == s.toList) = true := by rw [htx]; simp
            clear htx
            go_wp2
            have HR4 := HZ3.out.set2 (b0 := .int .i64 a) (b1 := .int .i64 b)
            have q0 := HR4.cell 0
            have q1 := HR4.cell 1
            simp at q0 q1
            exact bodyPost_ret (v := .tuple #[.agg #[.int .i64 a, .int .i64 b], .bool true]) (by simp [results, Tryz.results100, go_sem, q0, q1]) rfl ⟨HN.out, bst (bst Hb3.out (Nat.le_refl _) _) (Nat.le_refl _) _⟩
          · have HN := Lib.hid (show paC s.data.toList = none by rw [Hv.out, if_neg (fun hh => htx (bytes_ext hh.2))])
            have HN := Lib.hid (PaP.no HN.out)
            have hq : ((nText [a, b]).toList == s.toList) = false := beq_eq_false_iff_ne.2 (fun e => htx (bytes_inj e))
            clear htx
            go_wp2
            have HR4 := HZ3.out.set2 (b0 := .int .i64 0) (b1 := .int .i64 0)
            have q0 := HR4.cell 0
            have q1 := HR4.cell 1
            simp at q0 q1
            exact bodyPost_ret (v := .tuple #[.agg #[.int .i64 0, .int .i64 0], .bool false]) (by simp [results, Tryz.results100, go_sem, q0, q1]) rfl ⟨HN.out, bst (bst Hb3.out (Nat.le_refl _) _) (Nat.le_refl _) _⟩)
    · have h3 : ((ps.length : Int) == 2) = false := beq_eq_false_iff_ne.2 (by omega)
      have h4 : ((ps.length : Int) != 2) = true := by simp [bne, h3]
      have HN := Lib.hid (Hno2.out h2)
      go_wp2
      have HR4 := HR1.out.set2 (b0 := .int .i64 0) (b1 := .int .i64 0)
      have q0 := HR4.cell 0
      have q1 := HR4.cell 1
      simp at q0 q1
      exact bodyPost_ret (v := .tuple #[.agg #[.int .i64 0, .int .i64 0], .bool false]) (by simp [results, Tryz.results100, go_sem, q0, q1]) rfl ⟨HN.out, bst (bst Hb1.out (Nat.le_refl _) _) (Nat.le_refl _) _⟩
/-- What it hands back. -/
def pcV (s : List UInt8) : Int × Int × Bool := match paC s with | some (a, b) => (a, b, true) | none => (0, 0, false)
theorem ecParse_det (s : ByteArray) (w : World) (hs : s.size ≤ 4000000) :
    Calls Tryz.prog 100 #[.string s] w fun e w' => e = .returned (.tuple #[.agg #[.int .i64 (pcV s.data.toList).1, .int .i64 (pcV s.data.toList).2.1], .bool (pcV s.data.toList).2.2]) ∧ Below w.heap.size w w' := by
  refine (ecParse_any s w hs).mono fun e w' hh => ?_
  obtain ⟨h1, h2⟩ := hh
  refine ⟨?_, h2⟩
  unfold pcV
  rcases h1 with ⟨a, b, hp, rfl⟩ | ⟨hp, rfl⟩
  · rw [hp]
  · rw [hp]
end
section
open Go Go.RowKit

theorem str_add5 (a b : ByteArray) (ha : a.size ≤ 8388608) (hb : b.size ≤ 8388608) : ∀ W, (Op.stringOp .add a b).run Tryz.prog W = .ok (.string (a ++ b)) W := fun W =>
  run_string_add W a b (by omega) (by omega)
theorem psS_not5 {s : ByteArray} (h : (spl 32 s.data.toList).length ≠ 5) : psV s = zeroT := by
  refine psV_none ?_
  rw [← ps_eq]
  unfold psS
  split
  · rename_i hh; rw [hh] at h; exact absurd rfl h
  · rfl
theorem psS_five {s : ByteArray} {x0 x1 x2 x3 x4 : List UInt8} (h : spl 32 s.data.toList = [x0, x1, x2, x3, x4]) : psI s = match paC (x0 ++ 32 :: x1) with
    | none => none
    | some (a, b) => if tk5 a b (rdN x2) (rdN x3) (rdN x4) = true ∧ (nText [a, b, rdN x2, rdN x3, rdN x4]).data.toList = s.data.toList then some (a, b, rdN x2, rdN x3, rdN x4) else none := by
  rw [← ps_eq]; unfold psS; rw [h]; rfl
theorem psS_pc {s : ByteArray} {x0 x1 x2 x3 x4 : List UInt8} (h : spl 32 s.data.toList = [x0, x1, x2, x3, x4]) (hp : (pcV (x0 ++ 32 :: x1)).2.2 = false) : psV s = zeroT := by
  refine psV_none ?_
  rw [psS_five h]
  unfold pcV at hp
  cases hc : paC (x0 ++ 32 :: x1) with
  | none => rfl
  | some p => rw [hc] at hp; cases hp
theorem psS_pc1 {s : ByteArray} {x0 x1 x2 x3 x4 : List UInt8} (h : spl 32 s.data.toList = [x0, x1, x2, x3, x4]) (hp : (pcV (x0 ++ 32 :: x1)).2.2 = true) :
    psI s = if tk5 (pcV (x0 ++ 32 :: x1)).1 (pcV (x0 ++ 32 :: x1)).2.1 (rdN x2) (rdN x3) (rdN x4) = true ∧ (nText [(pcV (x0 ++ 32 :: x1)).1, (pcV (x0 ++ 32 :: x1)).2.1, rdN x2, rdN x3, rdN x4]).data.toList = s.data.toList then some ((pcV (x0 ++ 32 :: x1)).1, (pcV (x0 ++ 32 :: x1)).2.1, rdN x2, rdN x3, rdN x4) else none := by
  rw [psS_five h]
  unfold pcV at hp ⊢
  cases hc : paC (x0 ++ 32 :: x1) with
  | none => rw [hc] at hp; cases hp
  | some p => rfl
set_option linter.unusedSimpArgs false in
set_option maxRecDepth 20000 in
set_option maxHeartbeats 4000000 in
theorem specParse_any (s : ByteArray) (w : World) (hs : s.size ≤ 2000000) :
    Calls Tryz.prog 46 #[.string s] w fun r w' => TkRet (psV s) w.heap.size r w' ∧ Below w.heap.size w w' := by
  have hlen : s.data.toList.length = s.size := rfl
  have HR := Lib.hid (Blk.new w 51 #[.int .i64 0, .int .i64 0, .int .i64 0, .int .i64 0, .int .i64 0, .slice none 0 0])
  have hA := bal (Below.refl w.heap.size w) (Obj.cells #[.int .i64 0, .int .i64 0, .int .i64 0, .int .i64 0, .int .i64 0, .slice none 0 0] 51)
  have HbA := Lib.hid hA; clear hA
  have Hsp := Lib.hid (fun W => l1Split_any s 32 W (by omega))
  have Hno := Lib.hid (psS_not5 (s := s))
  have Hlong := Lib.hid (fun h => psV_none (ps_long (s := s) h))
  have Hmem := Lib.hid (spl_mem 32 s.data.toList)
  have hspl := spl_len 32 s.data.toList
  rw [hlen] at hspl
  have Hpc := Lib.hid (fun x0 x1 x2 x3 x4 h hp => psS_pc (s := s) (x0 := x0) (x1 := x1) (x2 := x2) (x3 := x3) (x4 := x4) h hp)
  have Hpc1 := Lib.hid (fun x0 x1 x2 x3 x4 h hp => psS_pc1 (s := s) (x0 := x0) (x1 := x1) (x2 := x2) (x3 := x3) (x4 := x4) h hp)
  generalize spl 32 s.data.toList = ps at Hsp Hno Hmem hspl Hpc Hpc1
  go_enter Tryz.func46, Tryz.ntmps46
  go_wp2_with fail
  refine (Hsp.out _).mono ?_; rintro e w2 ⟨⟨v2, rfl, hown⟩, hb1⟩
  have HR2 := Lib.hid (HR.out.on hb1); have Hb2 := Lib.hid (bthen HbA.out hb1); clear hb1
  obtain ⟨A2, c2, rfl⟩ := own_form hown
  have Hown2 := Lib.hid hown; clear hown
  by_cases h40 : 40 < s.size
  · have HN := Lib.hid (Hlong.out h40)
    have h41 : (40 : Int) < (s.size : Int) := by omega
    have h42 : decide ((40 : Int) < (s.size : Int)) = true := decide_eq_true h41
    clear Hpc Hpc1 Hno Hlong
    have r0 := HR2.out.cell 0
    have r1 := HR2.out.cell 1
    have r2 := HR2.out.cell 2
    have r3 := HR2.out.cell 3
    have r4 := HR2.out.cell 4
    have r5 := HR2.out.cell 5
    simp at r0 r1 r2 r3 r4 r5
    have rl := HR2.out.lt
    have rf := HR2.out.frozen
    go_wp2
    clear r0 r1 r2 r3 r4 r5 rf
    have HR6 := HR2.out.set6 (b0 := .int .i64 0) (b1 := .int .i64 0) (b2 := .int .i64 0) (b3 := .int .i64 0) (b4 := .int .i64 0) (b5 := .slice none 0 0)
    have k0 := HR6.cell 0
    have k1 := HR6.cell 1
    have k2 := HR6.cell 2
    have k3 := HR6.cell 3
    have k4 := HR6.cell 4
    have k5 := HR6.cell 5
    simp at k0 k1 k2 k3 k4 k5
    exact bodyPost_ret (v := .tuple #[.agg #[.int .i64 0, .int .i64 0, .int .i64 0, .int .i64 0, .int .i64 0, .slice none 0 0], .bool false]) (by simp [results, Tryz.results46, go_sem, k0, k1, k2, k3, k4, k5]) rfl ⟨TkRet.zero HN.out, bst (bst (bst (bst (bst (bst (Hb2.out) (Nat.le_refl _) _) (Nat.le_refl _) _) (Nat.le_refl _) _) (Nat.le_refl _) _) (Nat.le_refl _) _) (Nat.le_refl _) _⟩
  · have h41 : ¬ (40 : Int) < (s.size : Int) := by omega
    have h42 : decide ((40 : Int) < (s.size : Int)) = false := decide_eq_false h41
    by_cases h5 : ps.length = 5
    · obtain ⟨x0, x1, x2, x3, x4, rfl⟩ := list5g h5
      clear h5
      have Hp0 := Lib.hid (Hpc.out x0 x1 x2 x3 x4 rfl)
      have Hp1 := Lib.hid (Hpc1.out x0 x1 x2 x3 x4 rfl)
      have hx0 : (⟨x0.toArray⟩ : ByteArray).size ≤ 40 := by have h7 := Hmem.out x0 (by simp); show x0.toArray.size ≤ _; rw [List.size_toArray]; omega
      have hx1 : (⟨x1.toArray⟩ : ByteArray).size ≤ 40 := by have h7 := Hmem.out x1 (by simp); show x1.toArray.size ≤ _; rw [List.size_toArray]; omega
      have hx2 : (⟨x2.toArray⟩ : ByteArray).size ≤ 40 := by have h7 := Hmem.out x2 (by simp); show x2.toArray.size ≤ _; rw [List.size_toArray]; omega
      have hx3 : (⟨x3.toArray⟩ : ByteArray).size ≤ 40 := by have h7 := Hmem.out x3 (by simp); show x3.toArray.size ≤ _; rw [List.size_toArray]; omega
      have hx4 : (⟨x4.toArray⟩ : ByteArray).size ≤ 40 := by have h7 := Hmem.out x4 (by simp); show x4.toArray.size ≤ _; rw [List.size_toArray]; omega
      have H2 := Lib.hid (fun W => l1Read_any ⟨x2.toArray⟩ W (by omega))
      rw [show (⟨x2.toArray⟩ : ByteArray).data.toList = x2 from rfl] at H2
      have H3 := Lib.hid (fun W => l1Read_any ⟨x3.toArray⟩ W (by omega))
      rw [show (⟨x3.toArray⟩ : ByteArray).data.toList = x3 from rfl] at H3
      have H4 := Lib.hid (fun W => l1Read_any ⟨x4.toArray⟩ W (by omega))
      rw [show (⟨x4.toArray⟩ : ByteArray).data.toList = x4 from rfl] at H4
      have hT : ((⟨x0.toArray⟩ : ByteArray) ++ (⟨#[32]⟩ : ByteArray) ++ (⟨x1.toArray⟩ : ByteArray)).data.toList = x0 ++ 32 :: x1 := by simp
      have s1 : ((⟨x0.toArray⟩ : ByteArray) ++ (⟨#[32]⟩ : ByteArray)).size ≤ 41 := by rw [ByteArray.size_append]; exact Nat.add_le_add hx0 (Nat.le_refl _)
      have s2 : ((⟨x0.toArray⟩ : ByteArray) ++ (⟨#[32]⟩ : ByteArray) ++ (⟨x1.toArray⟩ : ByteArray)).size ≤ 4000000 := by rw [ByteArray.size_append]; omega
      have Hec := Lib.hid (fun W => ecParse_det ((⟨x0.toArray⟩ : ByteArray) ++ (⟨#[32]⟩ : ByteArray) ++ (⟨x1.toArray⟩ : ByteArray)) W s2)
      rw [hT] at Hec
      have a1 := str_add5 (⟨x0.toArray⟩ : ByteArray) (⟨#[32]⟩ : ByteArray) (by omega) (by decide)
      have a2 := str_add5 ((⟨x0.toArray⟩ : ByteArray) ++ (⟨#[32]⟩ : ByteArray)) (⟨x1.toArray⟩ : ByteArray) (by omega) (by omega)
      clear hT Hmem hspl Hno Hpc Hpc1 Hlong
      have hcap := own_cap Hown2.out
      rcases own_two Hown2.out with ⟨h0, -, -⟩ | ⟨g2, rfl, hbg, hlg⟩
      · cases h0
      have f0 := Hown2.out.cellAt 0 (show 0 < 5 * 1 by decide)
      have f1 := Hown2.out.cellAt 1 (show 1 < 5 * 1 by decide)
      have f2 := Hown2.out.cellAt 2 (show 2 < 5 * 1 by decide)
      have f3 := Hown2.out.cellAt 3 (show 3 < 5 * 1 by decide)
      have f4 := Hown2.out.cellAt 4 (show 4 < 5 * 1 by decide)
      clear Hown2
      simp only [bsv, List.map_cons, List.map_nil, List.getElem?_cons_zero, List.getElem?_cons_succ] at f0 f1 f2 f3 f4
      rw [show [x0, x1, x2, x3, x4].length = 5 from rfl] at hcap ⊢
      generalize ((⟨x0.toArray⟩ : ByteArray) ++ (⟨#[32]⟩ : ByteArray) ++ (⟨x1.toArray⟩ : ByteArray)) = T at Hec a2 s2
      generalize ((⟨x0.toArray⟩ : ByteArray) ++ (⟨#[32]⟩ : ByteArray)) = Y at a1 a2 s1
      generalize (⟨x0.toArray⟩ : ByteArray) = X0 at a1 f0 hx0
      generalize (⟨x1.toArray⟩ : ByteArray) = X1 at a2 f1 hx1
      generalize (⟨x2.toArray⟩ : ByteArray) = X2 at H2 f2 hx2
      generalize (⟨x3.toArray⟩ : ByteArray) = X3 at H3 f3 hx3
      generalize (⟨x4.toArray⟩ : ByteArray) = X4 at H4 f4 hx4
      generalize rdN x2 = m at H2 Hp1
      generalize rdN x3 = d at H3 Hp1
      generalize rdN x4 = t at H4 Hp1
      generalize pcV (x0 ++ 32 :: x1) = pv at Hec Hp0 Hp1
      obtain ⟨a, b, ok⟩ := pv
      simp only at Hec Hp0 Hp1
      have HS : Hid (∀ w', Below w2.heap.size w2 w' → (w'.cell? ⟨g2, 0, none⟩ = some (.string X0) ∧ w'.cell? ⟨g2, 1, none⟩ = some (.string X1) ∧ Below w2.heap.size w2 w')) := Lib.hid (fun w' hw => ⟨(hw.cell (p := ⟨g2, 0, none⟩) hlg).trans f0, (hw.cell (p := ⟨g2, 1, none⟩) hlg).trans f1, hw⟩)
      have F2 := Lib.hid f2; have F3 := Lib.hid f3; have F4 := Lib.hid f4; clear f2 f3 f4
      go_wp2_with fail
      go_cut [5, 6] (fun p o wx => ∃ (q : Nat), p = .pointer (some ⟨q, 0, none⟩) ∧ o = .bool ok ∧ Blk wx q 25 #[.int .i64 a, .int .i64 b] ∧ w2.heap.size ≤ q ∧ Below w2.heap.size w2 wx)
      case first =>
        go_region_held3 (fun w' => w'.cell? ⟨g2, 0, none⟩ = some (.string X0) ∧ w'.cell? ⟨g2, 1, none⟩ = some (.string X1) ∧ Below w2.heap.size w2 w')
          ((go_split_ands; refine HS.out _ ?_; repeat (first | (with_reducible assumption) | (with_reducible exact Below.refl _ _) | (with_reducible refine Below.drew ?_) | (with_reducible refine bal ?_ _) | (with_reducible refine bst ?_ (by first | omega | (simp; done) | (simp; omega)) _) | (with_reducible refine bthen ?_ (by with_reducible assumption)))))
          ((first | (go_at_call 100; (with_reducible refine (Hec.out _).mono ?_); rintro e w3 ⟨rfl, hb3⟩; (try (have hz3 : Blk w3 w2.heap.size 25 #[.int .i64 0, .int .i64 0] := (Blk.drew (Blk.new w2 25 #[.int .i64 0, .int .i64 0])).on hb3; have zc0 := hz3.cell 0; have zc1 := hz3.cell 1; have zf0 := hz3.frozen 0; have zf1 := hz3.frozen 1; have zl := hz3.lt; have Hz3 := Lib.hid hz3; clear hz3)))))
        all_goals
          go_wp2_with fail
          go_meet
          have hsz3 : Hid (w2.drew.heap.size ≤ w3.heap.size → w2.heap.size ≤ w3.heap.size) := Lib.hid (fun h => h)
          first
            | with_reducible exact ⟨_, rfl, rfl, Blk.new _ _ _, hsz3.out hb3.size, by repeat (with_reducible first | exact Below.refl _ _ | refine Below.drew ?_ | refine bal ?_ _ | refine bthen ?_ hb3)⟩
            | exact ⟨_, rfl, rfl, Blk.set2 Hz3.out, Nat.le_refl _, by repeat (with_reducible first | exact Below.refl _ _ | refine Below.drew ?_ | refine bal ?_ _ | (refine bst ?_ (by first | omega | (simp; done) | (simp; omega)) _) | refine bthen ?_ hb3)⟩
      obtain ⟨q, rfl, rfl, hBq, hq, hbc⟩ := hcut
      have HR3 := Lib.hid (HR2.out.on hbc); have Hb3 := Lib.hid (bthen Hb2.out hbc)
      have f2 := (hbc.cell (p := ⟨g2, 2, none⟩) hlg).trans F2.out
      have f3 := (hbc.cell (p := ⟨g2, 3, none⟩) hlg).trans F3.out
      have f4 := (hbc.cell (p := ⟨g2, 4, none⟩) hlg).trans F4.out
      have hlg3 := Nat.lt_of_lt_of_le hlg hbc.size
      have c0 := hBq.cell 0
      have c1' := hBq.cell 1
      have hql := hBq.lt
      simp at c0 c1'
      clear HS F2 F3 F4 f0 f1 a1 a2 hBq hq hbc Hec hbg hlg
      cases ok
      · have HN := Lib.hid (Hp0.out rfl)
        have r0 := HR3.out.cell 0
        have r1 := HR3.out.cell 1
        have r2 := HR3.out.cell 2
        have r3 := HR3.out.cell 3
        have r4 := HR3.out.cell 4
        have r5 := HR3.out.cell 5
        simp at r0 r1 r2 r3 r4 r5
        have rl := HR3.out.lt
        have rf := HR3.out.frozen
        go_wp2
        clear r0 r1 r2 r3 r4 r5 rf
        have HR6 := HR3.out.set6 (b0 := .int .i64 0) (b1 := .int .i64 0) (b2 := .int .i64 0) (b3 := .int .i64 0) (b4 := .int .i64 0) (b5 := .slice none 0 0)
        have k0 := HR6.cell 0
        have k1 := HR6.cell 1
        have k2 := HR6.cell 2
        have k3 := HR6.cell 3
        have k4 := HR6.cell 4
        have k5 := HR6.cell 5
        simp at k0 k1 k2 k3 k4 k5
        exact bodyPost_ret (v := .tuple #[.agg #[.int .i64 0, .int .i64 0, .int .i64 0, .int .i64 0, .int .i64 0, .slice none 0 0], .bool false]) (by simp [results, Tryz.results46, go_sem, k0, k1, k2, k3, k4, k5]) rfl ⟨TkRet.zero HN.out, bst (bst (bst (bst (bst (bst (Hb3.out) (Nat.le_refl _) _) (Nat.le_refl _) _) (Nat.le_refl _) _) (Nat.le_refl _) _) (Nat.le_refl _) _) (Nat.le_refl _) _⟩
      · have Hq := Lib.hid (Hp1.out rfl)
        have HS : Hid (∀ w', Below wc.heap.size wc w' → (w'.cell? ⟨g2, 2, none⟩ = some (.string X2) ∧ w'.cell? ⟨g2, 3, none⟩ = some (.string X3) ∧ w'.cell? ⟨g2, 4, none⟩ = some (.string X4) ∧ w'.cell? ⟨q, 0, none⟩ = some (.int .i64 a) ∧ w'.cell? ⟨q, 1, none⟩ = some (.int .i64 b) ∧ Below wc.heap.size wc w')) := Lib.hid (fun w' hw => ⟨(hw.cell (p := ⟨g2, 2, none⟩) hlg3).trans f2, (hw.cell (p := ⟨g2, 3, none⟩) hlg3).trans f3, (hw.cell (p := ⟨g2, 4, none⟩) hlg3).trans f4, (hw.cell (p := ⟨q, 0, none⟩) hql).trans c0, (hw.cell (p := ⟨q, 1, none⟩) hql).trans c1', hw⟩)
        go_wp2_with fail
        go_cut [7] (fun p wx => ∃ (q7 : Nat), p = .pointer (some ⟨q7, 0, none⟩) ∧ Blk wx q7 51 #[.int .i64 a, .int .i64 b, .int .i64 m, .int .i64 d, .int .i64 t, .slice none 0 0] ∧ wc.heap.size ≤ q7 ∧ Below wc.heap.size wc wx)
        case first =>
          go_region_held3 (fun w' => w'.cell? ⟨g2, 2, none⟩ = some (.string X2) ∧ w'.cell? ⟨g2, 3, none⟩ = some (.string X3) ∧ w'.cell? ⟨g2, 4, none⟩ = some (.string X4) ∧ w'.cell? ⟨q, 0, none⟩ = some (.int .i64 a) ∧ w'.cell? ⟨q, 1, none⟩ = some (.int .i64 b) ∧ Below wc.heap.size wc w')
            ((go_split_ands; refine HS.out _ ?_; repeat (first | (with_reducible assumption) | (with_reducible exact Below.refl _ _) | (with_reducible refine Below.drew ?_) | (with_reducible refine bal ?_ _) | (with_reducible refine bst ?_ (by first | omega | (simp; done) | (simp; omega)) _) | (with_reducible refine bthen ?_ (by with_reducible assumption)))))
            ((first | (go_at_call 101; (with_reducible refine (H2.out _).mono ?_); rintro e wa ⟨rfl, rfl⟩) | (go_at_call 101; (with_reducible refine (H3.out _).mono ?_); rintro e wa ⟨rfl, rfl⟩) | (go_at_call 101; (with_reducible refine (H4.out _).mono ?_); rintro e wa ⟨rfl, rfl⟩)))
          all_goals
            go_wp2_with fail
            go_meet
            first
              | with_reducible exact ⟨_, rfl, Blk.new _ _ _, Nat.le_refl _, by repeat (first | (with_reducible assumption) | (with_reducible exact Below.refl _ _) | (with_reducible refine Below.drew ?_) | (with_reducible refine bal ?_ _) | (with_reducible refine bst ?_ (by first | omega | (simp; done) | (simp; omega)) _) | (with_reducible refine bthen ?_ (by with_reducible assumption)))⟩
              | with_reducible exact ⟨_, rfl, (Blk.new _ _ _).drew, Nat.le_refl _, by repeat (first | (with_reducible assumption) | (with_reducible exact Below.refl _ _) | (with_reducible refine Below.drew ?_) | (with_reducible refine bal ?_ _) | (with_reducible refine bst ?_ (by first | omega | (simp; done) | (simp; omega)) _) | (with_reducible refine bthen ?_ (by with_reducible assumption)))⟩
              | exact ⟨_, rfl, Blk.set6 (Blk.drew (Blk.new _ _ _)), Nat.le_refl _, by repeat (first | (with_reducible assumption) | (with_reducible exact Below.refl _ _) | (with_reducible refine Below.drew ?_) | (with_reducible refine bal ?_ _) | (with_reducible refine bst ?_ (by first | omega | (simp; done) | (simp; omega)) _) | (with_reducible refine bthen ?_ (by with_reducible assumption)))⟩
        obtain ⟨q7, rfl, hB7, hq7, hbd⟩ := hcut
        have HR4 := Lib.hid (HR3.out.on hbd); have Hb4 := Lib.hid (bthen Hb3.out hbd); have HB7 := Lib.hid hB7
        clear HS f2 f3 f4 c0 c1' hlg3 hql hbd H2 H3 H4 hB7 hq7
        skip
        have b0 := HB7.out.cell 0
        have b1 := HB7.out.cell 1
        have b2 := HB7.out.cell 2
        have b3 := HB7.out.cell 3
        have b4 := HB7.out.cell 4
        have b5 := HB7.out.cell 5
        simp at b0 b1 b2 b3 b4 b5
        have bl := HB7.out.lt
        have HB8 := Lib.hid (fun w' => skBounds_any a b m d t (.slice none 0 0) w')
        cases hk : tkB a b m d
        all_goals rw [hk] at HB8
        · have HN := Lib.hid (psV_none (show psI s = none by rw [Hq.out, if_neg (fun hh => by have h9 := hh.1; unfold tk5 at h9; rw [hk] at h9; cases h9)]))
          clear hk
          go_wp2
          refine wp_region_tame (by kernel_rfl) (by kernel_rfl) (fun T _ W hT => ?_)
          have hx := hT.cell
          repeat (go_big_quiet_step ((first | (go_at_call 102; exact hT.call (HB8.out _)))))
          refine wpQuiet_nil ?_
          intro tt
          clear hx
          have hbt := hT.below tt
          have HR5 := Lib.hid (HR4.out.on hbt); have Hb5 := Lib.hid (bthen Hb4.out hbt); clear hbt b0 b1 b2 b3 b4 b5
          have r0 := HR5.out.cell 0
          have r1 := HR5.out.cell 1
          have r2 := HR5.out.cell 2
          have r3 := HR5.out.cell 3
          have r4 := HR5.out.cell 4
          have r5 := HR5.out.cell 5
          simp at r0 r1 r2 r3 r4 r5
          have rl := HR5.out.lt
          have rf := HR5.out.frozen
          go_wp2
          clear r0 r1 r2 r3 r4 r5 rf
          have HR6 := HR5.out.set6 (b0 := .int .i64 0) (b1 := .int .i64 0) (b2 := .int .i64 0) (b3 := .int .i64 0) (b4 := .int .i64 0) (b5 := .slice none 0 0)
          have k0 := HR6.cell 0
          have k1 := HR6.cell 1
          have k2 := HR6.cell 2
          have k3 := HR6.cell 3
          have k4 := HR6.cell 4
          have k5 := HR6.cell 5
          simp at k0 k1 k2 k3 k4 k5
          exact bodyPost_ret (v := .tuple #[.agg #[.int .i64 0, .int .i64 0, .int .i64 0, .int .i64 0, .int .i64 0, .slice none 0 0], .bool false]) (by simp [results, Tryz.results46, go_sem, k0, k1, k2, k3, k4, k5]) rfl ⟨TkRet.zero HN.out, bst (bst (bst (bst (bst (bst (Hb5.out) (Nat.le_refl _) _) (Nat.le_refl _) _) (Nat.le_refl _) _) (Nat.le_refl _) _) (Nat.le_refl _) _) (Nat.le_refl _) _⟩
        · have Htk := Lib.hid (tkB_tk hk)
          have HC8 := Lib.hid (fun w' => skCount_any a b m d t (.slice none 0 0) w' Htk.out)
          have inB : ∀ (n lo hi : Int) (w' : World), Calls Tryz.prog 83 #[.int .i64 n, .int .i64 lo, .int .i64 hi] w' fun r w'' => r = .returned (.bool (insB n lo hi)) ∧ Below w'.heap.size w' w'' := fun n lo hi w' => (l1In_any n lo hi w').mono (fun _ _ h => ⟨h.1, h.2 ▸ Below.refl _ _⟩)
          have HL8 := Lib.hid (fun w' => inB t 0 (totI m d) w')
          clear inB
          cases hin : insB t 0 (totI m d)
          all_goals rw [hin] at HL8
          · have HN := Lib.hid (psV_none (show psI s = none by rw [Hq.out, if_neg (fun hh => by have h9 := hh.1; unfold tk5 at h9; rw [hin] at h9; simp at h9)]))
            clear hk hin
            go_wp2
            refine wp_region_tame (by kernel_rfl) (by kernel_rfl) (fun T _ W hT => ?_)
            have hx := hT.cell
            repeat (go_big_quiet_step ((first | (go_at_call 102; exact hT.call (HB8.out _)) | (go_at_call 83; with_reducible exact hT.call (HL8.out _)) | (go_at_call 88; exact hT.call (HC8.out _)))))
            refine wpQuiet_nil ?_
            intro tt
            clear hx
            have hbt := hT.below tt
            have HR5 := Lib.hid (HR4.out.on hbt); have Hb5 := Lib.hid (bthen Hb4.out hbt); clear hbt b0 b1 b2 b3 b4 b5
            have r0 := HR5.out.cell 0
            have r1 := HR5.out.cell 1
            have r2 := HR5.out.cell 2
            have r3 := HR5.out.cell 3
            have r4 := HR5.out.cell 4
            have r5 := HR5.out.cell 5
            simp at r0 r1 r2 r3 r4 r5
            have rl := HR5.out.lt
            have rf := HR5.out.frozen
            go_wp2
            clear r0 r1 r2 r3 r4 r5 rf
            have HR6 := HR5.out.set6 (b0 := .int .i64 0) (b1 := .int .i64 0) (b2 := .int .i64 0) (b3 := .int .i64 0) (b4 := .int .i64 0) (b5 := .slice none 0 0)
            have k0 := HR6.cell 0
            have k1 := HR6.cell 1
            have k2 := HR6.cell 2
            have k3 := HR6.cell 3
            have k4 := HR6.cell 4
            have k5 := HR6.cell 5
            simp at k0 k1 k2 k3 k4 k5
            exact bodyPost_ret (v := .tuple #[.agg #[.int .i64 0, .int .i64 0, .int .i64 0, .int .i64 0, .int .i64 0, .slice none 0 0], .bool false]) (by simp [results, Tryz.results46, go_sem, k0, k1, k2, k3, k4, k5]) rfl ⟨TkRet.zero HN.out, bst (bst (bst (bst (bst (bst (Hb5.out) (Nat.le_refl _) _) (Nat.le_refl _) _) (Nat.le_refl _) _) (Nat.le_refl _) _) (Nat.le_refl _) _) (Nat.le_refl _) _⟩
          · have Hin := Lib.hid (insB_true hin)
            have h5k := Lib.hid (show tk5 a b m d t = true by unfold tk5; rw [hk, hin]; rfl)
            clear hk hin
            have HT8 := Lib.hid (fun w' => skText_any a b m d t (.slice none 0 0) w' Htk.out (tk5_small h5k.out).2.2.2.2)
            by_cases htx : nText [a, b, m, d, t] = s
            · have HV := Lib.hid (psV_some (show psI s = some (a, b, m, d, t) by rw [Hq.out, if_pos ⟨h5k.out, by rw [htx]⟩]))
              have hq : ((nText [a, b, m, d, t]).toList == s.toList) = true := by rw [htx]; simp
              clear htx
              go_wp2
              refine wp_region_tame (by kernel_rfl) (by kernel_rfl) (fun T _ W hT => ?_)
              have hx := hT.cell
              repeat (go_big_quiet_step ((first | (go_at_call 102; exact hT.call (HB8.out _)) | (go_at_call 83; with_reducible exact hT.call (HL8.out _)) | (go_at_call 88; exact hT.call (HC8.out _)) | (go_at_call 99; exact hT.call (HT8.out _)))))
              refine wpQuiet_nil ?_
              intro tt
              clear hx
              have hbt := hT.below tt
              have HR5 := Lib.hid (HR4.out.on hbt); have Hb5 := Lib.hid (bthen Hb4.out hbt); have HB5 := Lib.hid (HB7.out.on hbt); clear hbt b0 b1 b2 b3 b4 b5 bl
              have b0 := HB5.out.cell 0
              have b1 := HB5.out.cell 1
              have b2 := HB5.out.cell 2
              have b3 := HB5.out.cell 3
              have b4 := HB5.out.cell 4
              have b5 := HB5.out.cell 5
              simp at b0 b1 b2 b3 b4 b5
              have bl := HB5.out.lt
              go_wp2_with fail
              refine (skAt_any a b m d t t (.slice none 0 0) _ Htk.out Hin.out).mono ?_; rintro e w6 ⟨⟨v6, rfl, hown6⟩, hb6⟩
              obtain ⟨A6, c6, rfl⟩ := own_form hown6
              have HR6 := Lib.hid (HR5.out.on hb6); have Hb6 := Lib.hid (bthen Hb5.out hb6); have Hrl := Lib.hid HR5.out.lt
              have Hown6 := Lib.hid hown6; clear hown6 hb6 b0 b1 b2 b3 b4 b5 bl
              have r0 := HR6.out.cell 0
              have r1 := HR6.out.cell 1
              have r2 := HR6.out.cell 2
              have r3 := HR6.out.cell 3
              have r4 := HR6.out.cell 4
              have r5 := HR6.out.cell 5
              simp at r0 r1 r2 r3 r4 r5
              have rl := HR6.out.lt
              have rf := HR6.out.frozen
              go_wp2
              clear r0 r1 r2 r3 r4 r5 rf
              have HR6 := HR6.out.set6 (b0 := .int .i64 a) (b1 := .int .i64 b) (b2 := .int .i64 m) (b3 := .int .i64 d) (b4 := .int .i64 t) (b5 := .slice A6 (hitsZ a b m 0 t).length c6)
              have k0 := HR6.cell 0
              have k1 := HR6.cell 1
              have k2 := HR6.cell 2
              have k3 := HR6.cell 3
              have k4 := HR6.cell 4
              have k5 := HR6.cell 5
              simp at k0 k1 k2 k3 k4 k5
              exact bodyPost_ret (v := .tuple #[.agg #[.int .i64 a, .int .i64 b, .int .i64 m, .int .i64 d, .int .i64 t, .slice A6 (hitsZ a b m 0 t).length c6], .bool true]) (by simp [results, Tryz.results46, go_sem, k0, k1, k2, k3, k4, k5]) rfl ⟨TkRet.mk HV.out (own_far (g := w.heap.size) Hown6.out (by repeat (first | (with_reducible exact grefl _ _) | (with_reducible refine only_cell ?_) | (with_reducible refine only_drew ?_))) Hrl.out) (Nat.le_of_lt Hrl.out), bst (bst (bst (bst (bst (bst (Hb6.out) (Nat.le_refl _) _) (Nat.le_refl _) _) (Nat.le_refl _) _) (Nat.le_refl _) _) (Nat.le_refl _) _) (Nat.le_refl _) _⟩
            · have HN := Lib.hid (psV_none (show psI s = none by rw [Hq.out, if_neg (fun hh => htx (bytes_ext hh.2))]))
              have hq : ((nText [a, b, m, d, t]).toList == s.toList) = false := beq_eq_false_iff_ne.2 (fun e => htx (bytes_inj e))
              clear htx
              go_wp2
              refine wp_region_tame (by kernel_rfl) (by kernel_rfl) (fun T _ W hT => ?_)
              have hx := hT.cell
              repeat (go_big_quiet_step ((first | (go_at_call 102; exact hT.call (HB8.out _)) | (go_at_call 83; with_reducible exact hT.call (HL8.out _)) | (go_at_call 88; exact hT.call (HC8.out _)) | (go_at_call 99; exact hT.call (HT8.out _)))))
              refine wpQuiet_nil ?_
              intro tt
              clear hx
              have hbt := hT.below tt
              have HR5 := Lib.hid (HR4.out.on hbt); have Hb5 := Lib.hid (bthen Hb4.out hbt); clear hbt b0 b1 b2 b3 b4 b5
              have r0 := HR5.out.cell 0
              have r1 := HR5.out.cell 1
              have r2 := HR5.out.cell 2
              have r3 := HR5.out.cell 3
              have r4 := HR5.out.cell 4
              have r5 := HR5.out.cell 5
              simp at r0 r1 r2 r3 r4 r5
              have rl := HR5.out.lt
              have rf := HR5.out.frozen
              go_wp2
              clear r0 r1 r2 r3 r4 r5 rf
              have HR6 := HR5.out.set6 (b0 := .int .i64 0) (b1 := .int .i64 0) (b2 := .int .i64 0) (b3 := .int .i64 0) (b4 := .int .i64 0) (b5 := .slice none 0 0)
              have k0 := HR6.cell 0
              have k1 := HR6.cell 1
              have k2 := HR6.cell 2
              have k3 := HR6.cell 3
              have k4 := HR6.cell 4
              have k5 := HR6.cell 5
              simp at k0 k1 k2 k3 k4 k5
              exact bodyPost_ret (v := .tuple #[.agg #[.int .i64 0, .int .i64 0, .int .i64 0, .int .i64 0, .int .i64 0, .slice none 0 0], .bool false]) (by simp [results, Tryz.results46, go_sem, k0, k1, k2, k3, k4, k5]) rfl ⟨TkRet.zero HN.out, bst (bst (bst (bst (bst (bst (Hb5.out) (Nat.le_refl _) _) (Nat.le_refl _) _) (Nat.le_refl _) _) (Nat.le_refl _) _) (Nat.le_refl _) _) (Nat.le_refl _) _⟩
    · have HN := Lib.hid (Hno.out h5)
      have h3 : ((ps.length : Int) == 5) = false := beq_eq_false_iff_ne.2 (by omega)
      have h4 : ((ps.length : Int) != 5) = true := by simp [bne, h3]
      have r0 := HR2.out.cell 0
      have r1 := HR2.out.cell 1
      have r2 := HR2.out.cell 2
      have r3 := HR2.out.cell 3
      have r4 := HR2.out.cell 4
      have r5 := HR2.out.cell 5
      simp at r0 r1 r2 r3 r4 r5
      have rl := HR2.out.lt
      have rf := HR2.out.frozen
      go_wp2
      clear r0 r1 r2 r3 r4 r5 rf
      have HR6 := HR2.out.set6 (b0 := .int .i64 0) (b1 := .int .i64 0) (b2 := .int .i64 0) (b3 := .int .i64 0) (b4 := .int .i64 0) (b5 := .slice none 0 0)
      have k0 := HR6.cell 0
      have k1 := HR6.cell 1
      have k2 := HR6.cell 2
      have k3 := HR6.cell 3
      have k4 := HR6.cell 4
      have k5 := HR6.cell 5
      simp at k0 k1 k2 k3 k4 k5
      exact bodyPost_ret (v := .tuple #[.agg #[.int .i64 0, .int .i64 0, .int .i64 0, .int .i64 0, .int .i64 0, .slice none 0 0], .bool false]) (by simp [results, Tryz.results46, go_sem, k0, k1, k2, k3, k4, k5]) rfl ⟨TkRet.zero HN.out, bst (bst (bst (bst (bst (bst (Hb2.out) (Nat.le_refl _) _) (Nat.le_refl _) _) (Nat.le_refl _) _) (Nat.le_refl _) _) (Nat.le_refl _) _) (Nat.le_refl _) _⟩
end
section
open Go Go.RowKit

set_option maxRecDepth 8000 in
set_option maxHeartbeats 1600000 in
/-- A string of a block of strings. -/
theorem of_blk (g k b : Nat) (ss : List ByteArray) (n : Nat) (hn : n = ss.length) (w : World) (hB : Blk w b 9 (ss.map Value.string).toArray) (hc : Cur w g k) (hb : b ≠ g) (hne : ss ≠ []) (hl : ss.length ≤ 1000) (hk : k ≤ 800000) :
    Calls Tryz.prog 64 #[.pointer (some ⟨g, 0, none⟩), .slice (some ⟨b, 0, none⟩) n n] w fun e w' => (∃ s : ByteArray, s ∈ ss ∧ e = .returned (.string s)) ∧ Cur w' g (k + 2) ∧ Dg g w w' := by
  subst hn
  have h0 : 0 < ss.length := by cases ss with | nil => exact absurd rfl hne | cons _ _ => simp
  have HB := Lib.hid hB; have Hc := Lib.hid hc; clear hB hc
  have hli : (0 : Int) < (ss.length : Int) := by omega
  go_enter Tryz.func64, Tryz.ntmps64
  go_wp2_with fail
  refine (pick_any g k (ss.length : Int) _ Hc.out (by omega)).mono ?_; rintro e w1 ⟨⟨p, hp0, hp1, rfl⟩, hc1, hd1⟩
  have hp2 : p < (ss.length : Int) := by omega
  clear hp1
  obtain ⟨q, rfl⟩ : ∃ q : Nat, p = (q : Int) := ⟨p.toNat, by omega⟩
  have hq : q < ss.length := by omega
  have hcell := (HB.out.dg hd1 hb).cell q
  have hg : (ss.map Value.string).toArray[q]? = some (.string ss[q]) := by simp [hq]
  rw [hg] at hcell
  have hbl := (HB.out.dg hd1 hb).lt
  have hm : ss[q] ∈ ss := List.getElem_mem hq
  generalize ss[q] = s at hcell hm
  have Hc1 := Lib.hid hc1; have Hd1 := Lib.hid hd1; clear hc1 hd1
  go_wp2
  go_ret
  exact ⟨⟨s, hm, rfl⟩, Hc1.out, Hd1.out⟩
set_option linter.unusedSimpArgs false in
set_option maxRecDepth 8000 in
set_option maxHeartbeats 4000000 in
theorem spoilt_any (g k : Nat) (t x : ByteArray) (w : World) (hc : Cur w g k) (hk : k ≤ 500000) (hx0 : 0 < x.size) (hx1 : x.size ≤ 100) (ht : t.size ≤ 4000000) :
    Calls Tryz.prog 65 #[.pointer (some ⟨g, 0, none⟩), .string t, .string x] w fun e w' => (∃ s : ByteArray, s.size ≤ t.size + 2 ∧ e = .returned (.string s)) ∧ Cur w' g (k + 20) ∧ Dg g w w' := by
  have Hgl := Lib.hid hc.lt
  have Hc := Lib.hid hc; have Hk := Lib.hid hk; clear hc hk
  have hx2 : (0 : Int) ≤ (x.size : Int) := by omega
  go_enter Tryz.func65, Tryz.ntmps65
  go_wp2_with fail
  refine (pick_any g k 2 _ Hc.out (by have := Hk.out; omega)).mono ?_; rintro e w1 ⟨⟨n, hn0, hn1, rfl⟩, hc1, hd1⟩
  have hn2 : n ≤ 1 := by omega
  clear hn1
  have Hc1 := Lib.hid hc1; have Hd1 := Lib.hid hd1; clear hc1 hd1
  go_wp2
  go_loopw [1, 7] (fun s i wr => ∃ (t' : ByteArray) (j : Nat), (j : Int) ≤ 1 + n ∧ i = .int .i64 (1 + n - j) ∧ s = .string t' ∧ t'.size ≤ t.size + j ∧ Hid (Cur wr g (k + 2 + 6 * j)) ∧ Hid (Dg g w wr)) (fun _ i _ => (intOf i).toNat)
  case atStart => exact ⟨t, 0, by omega, by first | rfl | (congr 1; omega) | go_num, rfl, by omega, Hc1, Hd1⟩
  case round =>
    obtain ⟨t', j, hj, rfl, rfl, hts, Hcr, Hdr⟩ := hrel
    have hj2 : j ≤ 2 := by omega
    obtain ⟨i, hi⟩ : ∃ i : Int, 1 + n - (j : Int) = i := ⟨_, rfl⟩
    rw [hi]
    have Hi := Lib.hid hi
    have hi2 : 0 ≤ i ∧ i ≤ 2 := by omega
    clear hi
    obtain ⟨hi3, hi4⟩ := hi2
    by_cases h0 : 0 < i
    · by_cases h1 : 0 < t'.size
      · have h1i : (0 : Int) < (t'.size : Int) := by omega
        go_wp2_with fail
        refine (pick_any g (k + 2 + 6 * j) (t'.size : Int) _ Hcr.out (by have := Hk.out; omega)).mono ?_; rintro e w2 ⟨⟨p, hp0, hp1, rfl⟩, hc2, hd2⟩
        have hp2 : p < (t'.size : Int) := by omega
        clear hp1
        have Hc2 := Lib.hid hc2; have Hd2 := Lib.hid (Hdr.out.trans hd2); clear hc2 hd2
        go_wp2_with fail
        refine (pick_any g (k + 2 + 6 * j + 2) (x.size : Int) _ Hc2.out (by have := Hk.out; omega)).mono ?_; rintro e w3 ⟨⟨q, hq0, hq1, rfl⟩, hc3, hd3⟩
        have hq2 : q < (x.size : Int) := by omega
        clear hq1
        have Hc3 := Lib.hid hc3; have Hd3 := Lib.hid (Hd2.out.trans hd3); clear hc3 hd3
        go_wp2_with fail
        generalize x[q.toNat] = b
        rw [conv_cell (w3.alloc (Obj.cells #[.int .u8 ((b.toNat : Nat) : Int)] 5)) w3.heap.size b.toNat b.toNat_lt ((Blk.new w3 5 #[.int .u8 ((b.toNat : Nat) : Int)]).cell 0)]
        obtain ⟨y, hy⟩ : ∃ y : ByteArray, y = ⟨#[UInt8.ofNat b.toNat]⟩ := ⟨_, rfl⟩
        rw [← hy]
        have hys : y.size ≤ 1 := by rw [hy]; exact Nat.le_refl _
        clear hy
        go_wp2_with fail
        refine (pick_any g (k + 2 + 6 * j + 4) 3 _ ((Hc3.out.mono (j := k + 2 + 6 * j + 4) (by omega)).alloc _) (by have := Hk.out; omega)).mono ?_; rintro e w4 ⟨⟨z, hz0, hz1, rfl⟩, hc4, hd4⟩
        clear hz1
        have Hc4 := Lib.hid hc4; have Hd4 := Lib.hid ((Hd3.out.alloc _).trans hd4); clear hc4 hd4
        by_cases e0 : z = 0
        · have z0 : (z == 0) = true := by rw [e0]; rfl
          clear e0
          go_wp2
          refine wp_region_tame (by kernel_rfl) (by kernel_rfl) (fun T _ W hT => ?_)
          have hx := hT.cell
          repeat (go_big_quiet_step (fail))
          refine wpQuiet_nil ?_
          intro tt
          clear hx
          have hb5 := hT.below tt
          generalize W tt = w5 at hb5 ⊢
          clear hT
          have Hc5 := Lib.hid (Hc4.out.on hb5); have Hd5 := Lib.hid (Hd4.out.on hb5); clear hb5
          go_wp2
          go_roundw
          case rel => exact ⟨_, j + 1, by have h9 := Hi.out; omega, by have h9 := Hi.out; first | (congr 1; omega) | go_num, rfl, by (first | rw [ByteArray.size_append, ByteArray.size_append, ByteArray.size_extract, ByteArray.size_extract] | rw [ByteArray.size_append, ByteArray.size_extract, ByteArray.size_extract]); omega, Lib.hid (Hc5.out.mono (by omega)), Hd5⟩
          case measure => simp [intOf]; omega
        · have z0 : (z == 0) = false := beq_eq_false_iff_ne.2 e0
          clear e0
          by_cases e1 : z = 1
          · have z1 : (z == 1) = true := by rw [e1]; rfl
            clear e1
            go_wp2
            refine wp_region_tame (by kernel_rfl) (by kernel_rfl) (fun T _ W hT => ?_)
            have hx := hT.cell
            repeat (go_big_quiet_step (fail))
            refine wpQuiet_nil ?_
            intro tt
            clear hx
            have hb5 := hT.below tt
            generalize W tt = w5 at hb5 ⊢
            clear hT
            have Hc5 := Lib.hid (Hc4.out.on hb5); have Hd5 := Lib.hid (Hd4.out.on hb5); clear hb5
            go_wp2
            go_roundw
            case rel => exact ⟨_, j + 1, by have h9 := Hi.out; omega, by have h9 := Hi.out; first | (congr 1; omega) | go_num, rfl, by (first | rw [ByteArray.size_append, ByteArray.size_append, ByteArray.size_extract, ByteArray.size_extract] | rw [ByteArray.size_append, ByteArray.size_extract, ByteArray.size_extract]); omega, Lib.hid (Hc5.out.mono (by omega)), Hd5⟩
            case measure => simp [intOf]; omega
          · have z1 : (z == 1) = false := beq_eq_false_iff_ne.2 e1
            clear e1
            go_wp2
            refine wp_region_tame (by kernel_rfl) (by kernel_rfl) (fun T _ W hT => ?_)
            have hx := hT.cell
            repeat (go_big_quiet_step (fail))
            refine wpQuiet_nil ?_
            intro tt
            clear hx
            have hb5 := hT.below tt
            generalize W tt = w5 at hb5 ⊢
            clear hT
            have Hc5 := Lib.hid (Hc4.out.on hb5); have Hd5 := Lib.hid (Hd4.out.on hb5); clear hb5
            go_wp2
            go_roundw
            case rel => exact ⟨_, j + 1, by have h9 := Hi.out; omega, by have h9 := Hi.out; first | (congr 1; omega) | go_num, rfl, by (first | rw [ByteArray.size_append, ByteArray.size_append, ByteArray.size_extract, ByteArray.size_extract] | rw [ByteArray.size_append, ByteArray.size_extract, ByteArray.size_extract]); omega, Lib.hid (Hc5.out.mono (by omega)), Hd5⟩
            case measure => simp [intOf]; omega
      · have h1i : ¬ (0 : Int) < (t'.size : Int) := by omega
        go_wp2
        go_ret
        exact ⟨⟨t', by omega, rfl⟩, Hcr.out.mono (by omega), Hdr.out⟩
    · go_wp2
      go_ret
      exact ⟨⟨t', by omega, rfl⟩, Hcr.out.mono (by omega), Hdr.out⟩
end
end Go.Proofs.YtnhgdmhiblpknaaGreatDoor
