/- Own texts put together: The reference's source of drawn tasks. Conditions: those of each theorem. -/
import Derived.Test.YtnhgdmhiblpknaaGreatDoorWkM3
import Derived.Test.YtnhgdmhiblpknaaGreatDoorWkM4
import Derived.Test.YtnhgdmhiblpknaaGreatDoorWkM5
import Derived.Deep.DeepCutAuto
import Derived.Deep.RegionHeld3
namespace Go.Proofs.YtnhgdmhiblpknaaGreatDoor
section
open Go Go.RowKit

def ptMk9 (c : Nat → Int) : Pt := ⟨c 0, c 1, c 2⟩
theorem ptMk9_cell (c : Nat → Int) (j : Nat) (hj : j < ptS.size) : ptS.cell (ptMk9 c) j = .int .i64 (c j) := by
  match j, hj with
  | 0, _ => rfl
  | 1, _ => rfl
  | 2, _ => rfl
theorem IR.pt {w : World} {B : Nat} {t : TypeId} {v : Value} {n : Nat} (h : IR w B t 3 v n) : ∃ es : List Pt, es.length = n ∧ w.ownsRow B t 3 v es.length (ptS.flat es) := by
  obtain ⟨xs, h1, h2⟩ := h.ex
  obtain ⟨es, h3, h4⟩ := flat_ex ptS ptMk9 ptMk9_cell n xs h1.1 h2
  exact ⟨es, h3, by rw [h3, h4]; exact h1⟩
theorem pt_allI (es : List Pt) : AllI (ptS.flat es) := by
  intro u hu
  unfold Shape.flat at hu
  obtain ⟨p, -, hp⟩ := List.mem_flatMap.1 hu
  rw [show ptS.cells p = [.int .i64 p.x, .int .i64 p.y, .int .i64 p.e] by simp [Shape.cells, ptS, List.range_succ]] at hp
  simp only [List.mem_cons, List.not_mem_nil, or_false] at hp
  rcases hp with rfl | rfl | rfl <;> exact ⟨_, rfl⟩
theorem allI3 (a b c : Int) : AllI [.int .i64 a, .int .i64 b, .int .i64 c] := by
  intro u hu
  simp only [List.mem_cons, List.not_mem_nil, or_false] at hu
  rcases hu with rfl | rfl | rfl <;> exact ⟨_, rfl⟩
theorem IR.of_pt {w : World} {B : Nat} {t : TypeId} {v : Value} {es : List Pt} (h : w.ownsRow B t 3 v es.length (ptS.flat es)) : IR w B t 3 v es.length := ⟨_, h, pt_allI es⟩

set_option linter.unusedSimpArgs false in
set_option maxRecDepth 8000 in
set_option maxHeartbeats 16000000 in
theorem wealthy_any (g k : Nat) (w : World) (hc : Cur w g k) (hk : k ≤ 600000) :
    Calls Tryz.prog 103 #[.pointer (some ⟨g, 0, none⟩)] w fun e w' => (∃ a b : Int, e = .returned (.agg #[.int .i64 a, .int .i64 b])) ∧ Cur w' g (k + 50) ∧ Dg g w w' := by
  have Hgl := Lib.hid hc.lt
  have Hc := Lib.hid hc; have Hk := Lib.hid hk; have Hd := Lib.hid (Dg.refl g w); clear hc hk
  go_enter Tryz.func103, Tryz.ntmps103
  go_wp2_with fail
  refine (one_any g k (4) _ (Hc.out.alloc _) (by have := Hk.out; omega)).mono ?_; rintro e w1 ⟨⟨o, rfl⟩, hc1, hd1⟩
  have S1 := Lib.hid (show w.heap.size + 1 ≤ w1.heap.size by have h9 := hd1.size; (try simp only [World.size_alloc, World.size_setCell] at h9); omega)
  have NR := Lib.hid ((Blk.new w 25 #[.int .i64 0, .int .i64 0]).dg hd1 (show w.heap.size ≠ g by have := Hgl.out; have := S1.out; omega))
  have R := NR; clear NR
  have Hc1 := Lib.hid (hc1.mono (j := k + 2) (by omega))
  have Hd1 := Lib.hid ((Hd.out.alloc _).trans hd1)
  clear hc1 hd1
  cases o
  · go_wp2_with fail
    refine (pick_any g (k + 2) (13) _ Hc1.out (by have := Hk.out; omega)).mono ?_; rintro e w2 ⟨⟨p1, lp1, up1, rfl⟩, hc2, hd2⟩
    have S2 := Lib.hid (show w1.heap.size + 0 ≤ w2.heap.size by have h9 := hd2.size; (try simp only [World.size_alloc, World.size_setCell] at h9); omega)
    have NR := Lib.hid (R.out.dg hd2 (show w.heap.size ≠ g by have := Hgl.out; have := S1.out; have := S2.out; omega))
    have R := NR; clear NR
    have Hc2 := Lib.hid (hc2.mono (j := k + 4) (by omega))
    have Hd2 := Lib.hid (Hd1.out.trans hd2)
    clear hc2 hd2
    obtain ⟨x, hx⟩ : ∃ x, p1 - 6 = x := ⟨_, rfl⟩
    have hp1 : p1 = x + 6 := by omega
    subst hp1
    have bx : -6 ≤ x ∧ x ≤ 6 := by omega
    clear hx lp1 up1
    obtain ⟨bx1, bx2⟩ := bx
    go_wp2_with fail
    refine (pick_any g (k + 4) (21) _ Hc2.out (by have := Hk.out; omega)).mono ?_; rintro e w3 ⟨⟨p2, lp2, up2, rfl⟩, hc3, hd3⟩
    have S3 := Lib.hid (show w2.heap.size + 0 ≤ w3.heap.size by have h9 := hd3.size; (try simp only [World.size_alloc, World.size_setCell] at h9); omega)
    have NR := Lib.hid (R.out.dg hd3 (show w.heap.size ≠ g by have := Hgl.out; have := S1.out; have := S2.out; have := S3.out; omega))
    have R := NR; clear NR
    have Hc3 := Lib.hid (hc3.mono (j := k + 6) (by omega))
    have Hd3 := Lib.hid (Hd2.out.trans hd3)
    clear hc3 hd3
    obtain ⟨y, hy⟩ : ∃ y, p2 - 10 = y := ⟨_, rfl⟩
    have hp2 : p2 = y + 10 := by omega
    subst hp2
    have bz : -10 ≤ y ∧ y ≤ 10 := by omega
    clear hy lp2 up2
    obtain ⟨by1, by2⟩ := bz
    go_wp2_with fail
    refine (pick_any g (k + 6) (61) _ Hc3.out (by have := Hk.out; omega)).mono ?_; rintro e w4 ⟨⟨p3, lp3, up3, rfl⟩, hc4, hd4⟩
    have S4 := Lib.hid (show w3.heap.size + 0 ≤ w4.heap.size by have h9 := hd4.size; (try simp only [World.size_alloc, World.size_setCell] at h9); omega)
    have NR := Lib.hid (R.out.dg hd4 (show w.heap.size ≠ g by have := Hgl.out; have := S1.out; have := S2.out; have := S3.out; have := S4.out; omega))
    have R := NR; clear NR
    have Hc4 := Lib.hid (hc4.mono (j := k + 8) (by omega))
    have Hd4 := Lib.hid (Hd3.out.trans hd4)
    clear hc4 hd4
    obtain ⟨z, hz⟩ : ∃ z, p3 - 30 = z := ⟨_, rfl⟩
    have hp3 : p3 = z + 30 := by omega
    subst hp3
    have bz : -30 ≤ z ∧ z ≤ 30 := by omega
    clear hz lp3 up3
    obtain ⟨bz1, bz2⟩ := bz
    have m1 := mul_sb by1 by2 by1 by2
    have m2 := mul_sb bx1 bx2 bx1 bx2
    have m3 := mul_sb m2.1 m2.2 bx1 bx2
    have m4 := mul_sb bz1 bz2 bx1 bx2
    obtain ⟨m11, m12⟩ := m1; obtain ⟨m21, m22⟩ := m2; obtain ⟨m31, m32⟩ := m3; obtain ⟨m41, m42⟩ := m4
    simp only [Int.reduceMul] at m11 m12 m21 m22 m31 m32 m41 m42
    have ex : x + 6 - 6 = x := by omega
    have ey : y + 10 - 10 = y := by omega
    have ez : z + 30 - 30 = z := by omega
    go_wp2_with fail
    refine (ecGood_any z (y * y - x * x * x - z * x) _).mono ?_; rintro e w5 ⟨rfl, hd5⟩
    have S5 := Lib.hid (show w4.heap.size + 1 ≤ w5.heap.size by have h9 := hd5.size; (try simp only [World.size_alloc, World.size_setCell] at h9); omega)
    have NR := Lib.hid ((R.out.alloc _).dg (Dg.of_below (g := g) hd5) (show w.heap.size ≠ g by have := Hgl.out; have := S1.out; have := S2.out; have := S3.out; have := S4.out; have := S5.out; omega))
    have NE := Lib.hid ((Blk.new w4 25 #[.int .i64 z, .int .i64 (y * y - x * x * x - z * x)]).dg (Dg.of_below (g := g) hd5) (show w4.heap.size ≠ g by have := Hgl.out; have := S1.out; have := S2.out; have := S3.out; have := S4.out; have := S5.out; omega))
    have R := NR; clear NR
    have E := NE; clear NE
    have Hc5 := Lib.hid ((Hc4.out.alloc _).on hd5)
    have Hd5 := Lib.hid ((Hd4.out.alloc _).trans (Dg.of_below (g := g) hd5))
    clear hd5
    clear m11 m12 m21 m22 m31 m32 m41 m42 ex ey ez bx1 bx2 by1 by2 bz1 bz2
    generalize (y * y - x * x * x - z * x) = b at E ⊢
    cases hg : curveB z b
    · clear hg
      have qE0 := E.out.cell 0
      have qE1 := E.out.cell 1
      simp at qE0 qE1
      have qEl := E.out.lt
      have qR0 := R.out.cell 0
      have qR1 := R.out.cell 1
      simp at qR0 qR1
      have qRl := R.out.lt
      have qRf := R.out.frozen
      have nER : w4.heap.size ≠ w.heap.size := by have := Hgl.out; have := S1.out; have := S2.out; have := S3.out; have := S4.out; have := S5.out; omega
      have nRE : w.heap.size ≠ w4.heap.size := fun e => nER e.symm
      go_wp2
      clear qE0 qE1 qEl qR0 qR1 qRl qRf nER nRE
      have HR9 := (show Blk (World.setCell (World.setCell w5 ⟨w.heap.size, 0, none⟩ (.int .i64 (-16))) ⟨w.heap.size, 1, none⟩ (.int .i64 16)) (w.heap.size) 25 #[.int .i64 (-16), .int .i64 16] by have h9 := ((R.out.set 0 (.int .i64 (-16))).set 1 (.int .i64 16)); simpa using h9)
      have k0 := HR9.cell 0
      have k1 := HR9.cell 1
      simp at k0 k1
      exact bodyPost_ret (v := .agg #[.int .i64 (-16), .int .i64 16]) (by simp [results, Tryz.results103, go_sem, k0, k1]) rfl ⟨⟨-16, 16, rfl⟩, ((Hc5.out.st (p := ⟨w.heap.size, 0, none⟩) (show g < w.heap.size by have := Hgl.out; have := S1.out; have := S2.out; have := S3.out; have := S4.out; have := S5.out; omega) (.int .i64 (-16))).st (p := ⟨w.heap.size, 1, none⟩) (show g < w.heap.size by have := Hgl.out; have := S1.out; have := S2.out; have := S3.out; have := S4.out; have := S5.out; omega) (.int .i64 16)).mono (by omega), ((Hd5.out.st (p := ⟨w.heap.size, 0, none⟩) (show w.heap.size ≤ w.heap.size by have := Hgl.out; have := S1.out; have := S2.out; have := S3.out; have := S4.out; have := S5.out; omega) (.int .i64 (-16))).st (p := ⟨w.heap.size, 1, none⟩) (show w.heap.size ≤ w.heap.size by have := Hgl.out; have := S1.out; have := S2.out; have := S3.out; have := S4.out; have := S5.out; omega) (.int .i64 16))⟩
    · clear hg
      have qE0 := E.out.cell 0
      have qE1 := E.out.cell 1
      simp at qE0 qE1
      have qEl := E.out.lt
      have qR0 := R.out.cell 0
      have qR1 := R.out.cell 1
      simp at qR0 qR1
      have qRl := R.out.lt
      have qRf := R.out.frozen
      have nER : w4.heap.size ≠ w.heap.size := by have := Hgl.out; have := S1.out; have := S2.out; have := S3.out; have := S4.out; have := S5.out; omega
      have nRE : w.heap.size ≠ w4.heap.size := fun e => nER e.symm
      go_wp2
      clear qE0 qE1 qEl qR0 qR1 qRl qRf nER nRE
      have HR9 := (show Blk (World.setCell (World.setCell w5 ⟨w.heap.size, 0, none⟩ (.int .i64 z)) ⟨w.heap.size, 1, none⟩ (.int .i64 b)) (w.heap.size) 25 #[.int .i64 z, .int .i64 b] by have h9 := ((R.out.set 0 (.int .i64 z)).set 1 (.int .i64 b)); simpa using h9)
      have k0 := HR9.cell 0
      have k1 := HR9.cell 1
      simp at k0 k1
      exact bodyPost_ret (v := .agg #[.int .i64 z, .int .i64 b]) (by simp [results, Tryz.results103, go_sem, k0, k1]) rfl ⟨⟨_, _, rfl⟩, ((Hc5.out.st (p := ⟨w.heap.size, 0, none⟩) (show g < w.heap.size by have := Hgl.out; have := S1.out; have := S2.out; have := S3.out; have := S4.out; have := S5.out; omega) (.int .i64 z)).st (p := ⟨w.heap.size, 1, none⟩) (show g < w.heap.size by have := Hgl.out; have := S1.out; have := S2.out; have := S3.out; have := S4.out; have := S5.out; omega) (.int .i64 b)).mono (by omega), ((Hd5.out.st (p := ⟨w.heap.size, 0, none⟩) (show w.heap.size ≤ w.heap.size by have := Hgl.out; have := S1.out; have := S2.out; have := S3.out; have := S4.out; have := S5.out; omega) (.int .i64 z)).st (p := ⟨w.heap.size, 1, none⟩) (show w.heap.size ≤ w.heap.size by have := Hgl.out; have := S1.out; have := S2.out; have := S3.out; have := S4.out; have := S5.out; omega) (.int .i64 b))⟩
  · go_wp2_with fail
    refine (anyCurve_any g (k + 2) _ Hc1.out (by have := Hk.out; omega)).mono ?_; rintro e w6 ⟨⟨a, b, rfl⟩, hc6, hd6⟩
    have S6 := Lib.hid (show w1.heap.size + 0 ≤ w6.heap.size by have h9 := hd6.size; (try simp only [World.size_alloc, World.size_setCell] at h9); omega)
    have NR := Lib.hid (R.out.dg hd6 (show w.heap.size ≠ g by have := Hgl.out; have := S1.out; have := S6.out; omega))
    have R := NR; clear NR
    have Hc6 := Lib.hid (hc6.mono (j := k + 42) (by omega))
    have Hd6 := Lib.hid (Hd1.out.trans hd6)
    clear hc6 hd6
    have qR0 := R.out.cell 0
    have qR1 := R.out.cell 1
    simp at qR0 qR1
    have qRl := R.out.lt
    have qRf := R.out.frozen
    go_wp2
    clear qR0 qR1 qRl qRf
    have HR9 := (show Blk (World.setCell (World.setCell w6 ⟨w.heap.size, 0, none⟩ (.int .i64 a)) ⟨w.heap.size, 1, none⟩ (.int .i64 b)) (w.heap.size) 25 #[.int .i64 a, .int .i64 b] by have h9 := ((R.out.set 0 (.int .i64 a)).set 1 (.int .i64 b)); simpa using h9)
    have k0 := HR9.cell 0
    have k1 := HR9.cell 1
    simp at k0 k1
    exact bodyPost_ret (v := .agg #[.int .i64 a, .int .i64 b]) (by simp [results, Tryz.results103, go_sem, k0, k1]) rfl ⟨⟨_, _, rfl⟩, ((Hc6.out.st (p := ⟨w.heap.size, 0, none⟩) (show g < w.heap.size by have := Hgl.out; have := S1.out; have := S6.out; omega) (.int .i64 a)).st (p := ⟨w.heap.size, 1, none⟩) (show g < w.heap.size by have := Hgl.out; have := S1.out; have := S6.out; omega) (.int .i64 b)).mono (by omega), ((Hd6.out.st (p := ⟨w.heap.size, 0, none⟩) (show w.heap.size ≤ w.heap.size by have := Hgl.out; have := S1.out; have := S6.out; omega) (.int .i64 a)).st (p := ⟨w.heap.size, 1, none⟩) (show w.heap.size ≤ w.heap.size by have := Hgl.out; have := S1.out; have := S6.out; omega) (.int .i64 b))⟩
theorem own_formK {w : World} {b : Nat} {t : TypeId} {z : Nat} {v : Value} {n : Nat} {xs : List Value} (h : w.ownsRow b t z v n xs) : ∃ A c, v = .slice A n c := by
  rcases h.2 with ⟨h', h0⟩ | ⟨g', cap', cur, h', _⟩
  · exact ⟨none, 0, by rw [h', h0]⟩
  · exact ⟨_, _, h'⟩
theorem Blk.grownK {x y : World} {b : Nat} {t : TypeId} {cs : Array Value} {row : Option Nat} (h : Blk x b t cs) (hg : x.grownBy y row) (hr : ∀ r, row = some r → b < r) : Blk y b t cs :=
  (hg.block b h.lt (fun e => by have := hr b e.symm; omega)).trans h
theorem Cur.drew {w : World} {g k : Nat} (h : Cur w g k) : Cur w.drew g k := h.on (Below.drew (Below.refl _ _))
/-- Among the numbers of a block. -/
theorem among_blk (g k b : Nat) (es : List Int) (n : Nat) (hn : n = es.length) (w : World) (hB : Blk w b 3 (es.map (Value.int .i64)).toArray) (hc : Cur w g k) (hb : b ≠ g) (hne : es ≠ []) (hl : es.length ≤ 1000) (hk : k ≤ 900000) :
    Calls Tryz.prog 78 #[.pointer (some ⟨g, 0, none⟩), .slice (some ⟨b, 0, none⟩) n n] w fun e w' => (∃ y : Int, y ∈ es ∧ e = .returned (.int .i64 y)) ∧ Cur w' g (k + 2) ∧ Dg g w w' := by
  subst hn
  refine among_any g k _ es _ hc ⟨_, _, rfl, Nat.le_refl _, by unfold maxLen; omega, fun h0 => ⟨b, 0, rfl, hB.lt, fun i hi j hj => ?_⟩⟩ hne (fun A n c e => ?_) hk
  · have h1 := hB.cell i
    have hj0 : j = 0 := by have : inS.size = 1 := rfl; omega
    subst hj0
    have hs : inS.size = 1 := rfl
    rw [hs, Nat.zero_add, Nat.mul_one, Nat.add_zero, h1]
    simp only [List.getElem?_toArray, List.getElem?_map, Shape.get, List.getD_eq_getElem?_getD, List.getElem?_eq_getElem hi]
    rfl
  · injection e with e1 e2 e3
    injection e1 with e1
    subst e1
    exact hb

set_option linter.unusedSimpArgs false in
set_option maxRecDepth 8000 in
set_option maxHeartbeats 16000000 in
theorem task_any (g k : Nat) (w : World) (hc : Cur w g k) (hk : k ≤ 500000) :
    Calls Tryz.prog 77 #[.pointer (some ⟨g, 0, none⟩)] w fun e w' => (∃ (a b m d t : Int) (v : Value) (n : Nat), n ≤ 4011 ∧ e = .returned (.agg #[.int .i64 a, .int .i64 b, .int .i64 m, .int .i64 d, .int .i64 t, v]) ∧ IR w' w.heap.size 117 3 v n) ∧ Cur w' g (k + 100) ∧ Dg g w w' := by
  have Hgl := Lib.hid hc.lt
  have Hc := Lib.hid hc; have Hk := Lib.hid hk; have Hd := Lib.hid (Dg.refl g w); clear hc hk
  go_enter Tryz.func77, Tryz.ntmps77
  go_wp2_with fail
  refine (wealthy_any g k _ (Hc.out.alloc _) (by have := Hk.out; omega)).mono ?_; rintro e w1 ⟨⟨a, b, rfl⟩, hc1, hd1⟩
  have S1 := Lib.hid (show w.heap.size + 1 ≤ w1.heap.size by have h9 := hd1.size; (try simp only [World.size_alloc, World.size_setCell] at h9); omega)
  have NR := Lib.hid ((Blk.new w 51 #[.int .i64 0, .int .i64 0, .int .i64 0, .int .i64 0, .int .i64 0, .slice none 0 0]).dg hd1 (show w.heap.size ≠ g by have := Hgl.out; have := S1.out; omega))
  have R := NR; clear NR
  have Hc1 := Lib.hid (hc1.mono (j := k + 50) (by omega))
  have Hd1 := Lib.hid ((Hd.out.alloc _).trans hd1)
  clear hc1 hd1
  go_wp2_with fail
  obtain ⟨wt, hw9⟩ : ∃ x, x = (World.alloc w1 (Obj.cells #[.int .i64 a, .int .i64 b] 25)) := ⟨_, rfl⟩
  rw [← hw9]
  have hd2 : Dg g (World.alloc w1 (Obj.cells #[.int .i64 a, .int .i64 b] 25)) wt := by rw [hw9]; exact Dg.refl _ _
  have hc2 : Cur wt g (k + 50) := by rw [hw9]; exact (Hc1.out.alloc _)
  have S2 := Lib.hid (show w1.heap.size + 1 ≤ wt.heap.size by have h9 := hd2.size; (try simp only [World.size_alloc, World.size_setCell] at h9); omega)
  have NR := Lib.hid ((R.out.alloc _).dg hd2 (show w.heap.size ≠ g by have := Hgl.out; have := S1.out; have := S2.out; omega))
  have NE := Lib.hid ((Blk.new w1 25 #[.int .i64 a, .int .i64 b]).dg hd2 (show w1.heap.size ≠ g by have := Hgl.out; have := S1.out; have := S2.out; omega))
  have R := NR; clear NR
  have E := NE; clear NE
  have Hc2 := Lib.hid (hc2.mono (j := k + 50) (by omega))
  have Hd2 := Lib.hid ((Hd1.out.alloc _).trans hd2)
  clear hc2 hd2
  clear hw9
  have hE0 := E.out.cell 0; have hE1 := E.out.cell 1; have hEl := E.out.lt; have hEg : w1.heap.size ≠ g := by have := Hgl.out; have := S1.out; have := S2.out; omega
  simp at hE0 hE1
  have HS : Hid (∀ w', Dg g wt w' → (w'.cell? ⟨w1.heap.size, 0, none⟩ = some (.int .i64 a) ∧ w'.cell? ⟨w1.heap.size, 1, none⟩ = some (.int .i64 b) ∧ Dg g wt w')) := Lib.hid (fun w' hw => ⟨(dcell (p := ⟨w1.heap.size, 0, none⟩) hw hEl hEg).trans hE0, (dcell (p := ⟨w1.heap.size, 1, none⟩) hw hEl hEg).trans hE1, hw⟩)
  have hdt := Dg.refl g wt
  have hgt := Lib.hid (show g < wt.heap.size by have := Hgl.out; have := S1.out; have := S2.out; omega)
  go_cut [4] (fun p wx => ∃ (q : Nat) (m e : Int), p = .pointer (some ⟨q, 0, none⟩) ∧ Blk wx q 51 #[.int .i64 a, .int .i64 b, .int .i64 m, .int .i64 e, .int .i64 0, .slice none 0 0] ∧ wt.heap.size ≤ q ∧ Cur wx g (k + 54) ∧ Dg g wt wx)
  case first =>
    go_region_held3 (fun w' => w'.cell? ⟨w1.heap.size, 0, none⟩ = some (.int .i64 a) ∧ w'.cell? ⟨w1.heap.size, 1, none⟩ = some (.int .i64 b) ∧ Dg g wt w') (((go_split_ands; refine HS.out _ ?_; repeat (first | (with_reducible assumption) | (with_reducible refine Dg.drew ?_) | (with_reducible refine Dg.alloc ?_ _) | (with_reducible refine Dg.st ?_ (by dsimp only; first | omega | (have h9 := sA.out; omega)) _) | (with_reducible refine Dg.trans ?_ (by with_reducible assumption)))))) ((first | (go_at_call 78; refine (among_blk g (k + 50) _ [0, 1, 4, 10, 25] 5 rfl _ (by first | exact Blk.new _ _ _ | exact (Blk.new _ _ _).alloc _ | exact Blk.drew (Blk.new1 _ _ _ _) | exact Blk.new1 _ _ _ _) (by repeat (first | with_reducible exact Hc2.out | (with_reducible refine Cur.drew ?_) | (with_reducible refine Cur.alloc ?_ _))) (by have := hgt.out; simp; omega) (by simp) (by simp) (by have := Hk.out; omega)).mono ?_; rintro e wa ⟨⟨m, hm, rfl⟩, hca, hda⟩; replace hca := hca.mono (j := k + 52) (by omega); have sA := Lib.hid (show wt.heap.size ≤ wa.heap.size by have h9 := hda.size; simp at h9; omega); clear hm; first | (have hz3 : Blk wa wt.heap.size 51 #[.int .i64 0, .int .i64 0, .int .i64 0, .int .i64 0, .int .i64 0, .slice none 0 0] := Blk.dg (Blk.drew (Blk.alloc (Blk.new wt 51 #[.int .i64 0, .int .i64 0, .int .i64 0, .int .i64 0, .int .i64 0, .slice none 0 0]) _)) hda (by have := hgt.out; (try simp only [World.size_alloc, World.size_drew]); omega); have Hz3 := Lib.hid hz3; clear hz3) | (have hz3 : Blk wa (wt.heap.size + 1) 51 #[.int .i64 0, .int .i64 0, .int .i64 0, .int .i64 0, .int .i64 0, .slice none 0 0] := Blk.dg (Blk.drew (Blk.new1 wt _ 51 #[.int .i64 0, .int .i64 0, .int .i64 0, .int .i64 0, .int .i64 0, .slice none 0 0])) hda (by have := hgt.out; (try simp only [World.size_alloc, World.size_drew]); omega); have Hz3 := Lib.hid hz3; clear hz3) | skip) | (go_at_call 52; refine (pick_any g (k + 52) 3 _ (by repeat (first | with_reducible exact hca | (with_reducible refine Cur.drew ?_) | (with_reducible refine Cur.alloc ?_ _))) (by have := Hk.out; omega)).mono ?_; rintro e wp ⟨⟨x, hx0, hx1, rfl⟩, hcp, hdp⟩; replace hcp := hcp.mono (j := k + 54) (by omega); have sP := Lib.hid (show wa.heap.size ≤ wp.heap.size by have h9 := hdp.size; (try simp at h9); omega); first | (have hz4 := Blk.dg Hz3.out hdp (by have := hgt.out; omega); clear Hz3; have zc0 := hz4.cell 0; have zc1 := hz4.cell 1; have zc2 := hz4.cell 2; have zc3 := hz4.cell 3; have zc4 := hz4.cell 4; have zc5 := hz4.cell 5; have zf0 := hz4.frozen 0; have zf1 := hz4.frozen 1; have zf2 := hz4.frozen 2; have zf3 := hz4.frozen 3; have zf4 := hz4.frozen 4; have zf5 := hz4.frozen 5; have zl := hz4.lt; simp at zc0 zc1 zc2 zc3 zc4 zc5; have Hz4 := Lib.hid hz4; clear hz4) | (have hz4 : Blk wp wa.heap.size 51 #[.int .i64 0, .int .i64 0, .int .i64 0, .int .i64 0, .int .i64 0, .slice none 0 0] := Blk.dg (Blk.new wa 51 #[.int .i64 0, .int .i64 0, .int .i64 0, .int .i64 0, .int .i64 0, .slice none 0 0]) hdp (by have := hgt.out; have := sA.out; omega); have zc0 := hz4.cell 0; have zc1 := hz4.cell 1; have zc2 := hz4.cell 2; have zc3 := hz4.cell 3; have zc4 := hz4.cell 4; have zc5 := hz4.cell 5; have zf0 := hz4.frozen 0; have zf1 := hz4.frozen 1; have zf2 := hz4.frozen 2; have zf3 := hz4.frozen 3; have zf4 := hz4.frozen 4; have zf5 := hz4.frozen 5; have zl := hz4.lt; simp at zc0 zc1 zc2 zc3 zc4 zc5; have Hz4 := Lib.hid hz4; clear hz4) | skip)))
    all_goals go_wp2_with fail
    all_goals go_meet
    all_goals first
      | with_reducible exact ⟨_, _, _, rfl, Blk.new _ _ _, (by have := hgt.out; have := sA.out; have := sP.out; (try simp only [World.size_alloc, World.size_drew, World.size_setCell]); omega), (by repeat (first | with_reducible exact hcp | (with_reducible refine Cur.drew ?_) | (with_reducible refine Cur.alloc ?_ _) | (with_reducible refine Cur.st ?_ (by dsimp only; have := hgt.out; have := sA.out; have := sP.out; (try simp only [World.size_alloc, World.size_drew, World.size_setCell]); omega) _))), (by repeat (first | (with_reducible assumption) | (with_reducible refine Dg.drew ?_) | (with_reducible refine Dg.alloc ?_ _) | (with_reducible refine Dg.st ?_ (by dsimp only; have := hgt.out; have := sA.out; have := sP.out; (try simp only [World.size_alloc, World.size_drew, World.size_setCell]); omega) _) | (with_reducible refine Dg.trans ?_ (by with_reducible assumption))))⟩
      | exact ⟨_, _, _, rfl, Blk.set6 Hz4.out, (by have := hgt.out; have := sA.out; have := sP.out; (try simp only [World.size_alloc, World.size_drew, World.size_setCell]); omega), (by repeat (first | with_reducible exact hcp | (with_reducible refine Cur.drew ?_) | (with_reducible refine Cur.alloc ?_ _) | (with_reducible refine Cur.st ?_ (by dsimp only; have := hgt.out; have := sA.out; have := sP.out; (try simp only [World.size_alloc, World.size_drew, World.size_setCell]); omega) _))), (by repeat (first | (with_reducible assumption) | (with_reducible refine Dg.drew ?_) | (with_reducible refine Dg.alloc ?_ _) | (with_reducible refine Dg.st ?_ (by dsimp only; have := hgt.out; have := sA.out; have := sP.out; (try simp only [World.size_alloc, World.size_drew, World.size_setCell]); omega) _) | (with_reducible refine Dg.trans ?_ (by with_reducible assumption))))⟩
  obtain ⟨q, m, e, rfl, hBq, hq, hcc, hdc⟩ := hcut
  clear HS hdt hE0 hE1 hEl hEg
  obtain ⟨w5, hw5⟩ : ∃ x, x = wc := ⟨_, rfl⟩; subst hw5
  have hc3 := hcc.mono (j := k + 54) (by omega); have hd3 := hdc; clear hcc hdc
  clear E
  have S3 := Lib.hid (show wt.heap.size + 0 ≤ w5.heap.size by have h9 := hd3.size; (try simp only [World.size_alloc, World.size_setCell] at h9); omega)
  have NR := Lib.hid (R.out.dg hd3 (show w.heap.size ≠ g by have := Hgl.out; have := S1.out; have := S2.out; have := S3.out; omega))
  have R := NR; clear NR
  have Hc3 := Lib.hid (hc3.mono (j := k + 54) (by omega))
  have Hd3 := Lib.hid (Hd2.out.trans hd3)
  clear hc3 hd3
  have Qq := Lib.hid hq; have Q := Lib.hid hBq; have Qw := Lib.hid hBq.lt; clear hq hBq
  go_wp2_with fail
  refine (one_any g (k + 54) (24) _ Hc3.out (by have := Hk.out; omega)).mono ?_; rintro e w4 ⟨⟨o, rfl⟩, hc4, hd4⟩
  have S4 := Lib.hid (show w5.heap.size + 0 ≤ w4.heap.size by have h9 := hd4.size; (try simp only [World.size_alloc, World.size_setCell] at h9); omega)
  have NR := Lib.hid (R.out.dg hd4 (show w.heap.size ≠ g by have := Hgl.out; have := S1.out; have := S2.out; have := S3.out; have := Qq.out; have := Qw.out; have := S4.out; omega))
  have NQ := Lib.hid (Q.out.dg hd4 (show q ≠ g by have := Hgl.out; have := S1.out; have := S2.out; have := S3.out; have := Qq.out; have := Qw.out; have := S4.out; omega))
  have R := NR; clear NR
  have Q := NQ; clear NQ
  have Hc4 := Lib.hid (hc4.mono (j := k + 56) (by omega))
  have Hd4 := Lib.hid (Hd3.out.trans hd4)
  clear hc4 hd4
  cases o
  · have qQ0 := Q.out.cell 0
    have qQ1 := Q.out.cell 1
    have qQ2 := Q.out.cell 2
    have qQ3 := Q.out.cell 3
    have qQ4 := Q.out.cell 4
    have qQ5 := Q.out.cell 5
    simp at qQ0 qQ1 qQ2 qQ3 qQ4 qQ5
    have qQl := Q.out.lt
    go_wp2_with fail
    refine (skBounds_any a b m e 0 (.slice none 0 0) _).mono ?_; rintro e w5 ⟨rfl, hd5⟩
    clear qQ0 qQ1 qQ2 qQ3 qQ4 qQ5 qQl
    have S5 := Lib.hid (show w4.heap.size + 0 ≤ w5.heap.size by have h9 := hd5.size; (try simp only [World.size_alloc, World.size_setCell] at h9); omega)
    have NR := Lib.hid (R.out.dg (Dg.of_below (g := g) hd5) (show w.heap.size ≠ g by have := Hgl.out; have := S1.out; have := S2.out; have := S3.out; have := Qq.out; have := Qw.out; have := S4.out; have := S5.out; omega))
    have NQ := Lib.hid (Q.out.dg (Dg.of_below (g := g) hd5) (show q ≠ g by have := Hgl.out; have := S1.out; have := S2.out; have := S3.out; have := Qq.out; have := Qw.out; have := S4.out; have := S5.out; omega))
    have R := NR; clear NR
    have Q := NQ; clear NQ
    have Hc5 := Lib.hid (Hc4.out.on hd5)
    have Hd5 := Lib.hid (Hd4.out.trans (Dg.of_below (g := g) hd5))
    clear hd5
    cases hk9 : tkB a b m e
    · clear hk9
      have qQ0 := Q.out.cell 0
      have qQ1 := Q.out.cell 1
      have qQ2 := Q.out.cell 2
      have qQ3 := Q.out.cell 3
      have qQ4 := Q.out.cell 4
      have qQ5 := Q.out.cell 5
      simp at qQ0 qQ1 qQ2 qQ3 qQ4 qQ5
      have qQl := Q.out.lt
      have qR0 := R.out.cell 0
      have qR1 := R.out.cell 1
      have qR2 := R.out.cell 2
      have qR3 := R.out.cell 3
      have qR4 := R.out.cell 4
      have qR5 := R.out.cell 5
      simp at qR0 qR1 qR2 qR3 qR4 qR5
      have qRl := R.out.lt
      have qRf := R.out.frozen
      have nQR : q ≠ w.heap.size := by have := Hgl.out; have := S1.out; have := S2.out; have := S3.out; have := Qq.out; have := Qw.out; have := S4.out; have := S5.out; omega
      have nRQ : w.heap.size ≠ q := fun e => nQR e.symm
      go_wp2
      clear qQ0 qQ1 qQ2 qQ3 qQ4 qQ5 qQl qR0 qR1 qR2 qR3 qR4 qR5 qRl qRf nQR nRQ
      have HR9 := (show Blk (World.setCell (World.setCell (World.setCell (World.setCell (World.setCell (World.setCell w5 ⟨w.heap.size, 0, none⟩ (.int .i64 a)) ⟨w.heap.size, 1, none⟩ (.int .i64 b)) ⟨w.heap.size, 2, none⟩ (.int .i64 m)) ⟨w.heap.size, 3, none⟩ (.int .i64 e)) ⟨w.heap.size, 4, none⟩ (.int .i64 0)) ⟨w.heap.size, 5, none⟩ (.slice none 0 0)) (w.heap.size) 51 #[.int .i64 a, .int .i64 b, .int .i64 m, .int .i64 e, .int .i64 0, .slice none 0 0] by have h9 := ((((((R.out.set 0 (.int .i64 a)).set 1 (.int .i64 b)).set 2 (.int .i64 m)).set 3 (.int .i64 e)).set 4 (.int .i64 0)).set 5 (.slice none 0 0)); simpa using h9)
      have k0 := HR9.cell 0
      have k1 := HR9.cell 1
      have k2 := HR9.cell 2
      have k3 := HR9.cell 3
      have k4 := HR9.cell 4
      have k5 := HR9.cell 5
      simp at k0 k1 k2 k3 k4 k5
      exact bodyPost_ret (v := .agg #[.int .i64 a, .int .i64 b, .int .i64 m, .int .i64 e, .int .i64 0, .slice none 0 0]) (by simp [results, Tryz.results77, go_sem, k0, k1, k2, k3, k4, k5]) rfl ⟨⟨a, b, m, e, 0, .slice none 0 0, 0, by omega, rfl, IR.nil _ _ _ _⟩, ((((((Hc5.out.st (p := ⟨w.heap.size, 0, none⟩) (show g < w.heap.size by have := Hgl.out; have := S1.out; have := S2.out; have := S3.out; have := Qq.out; have := Qw.out; have := S4.out; have := S5.out; omega) (.int .i64 a)).st (p := ⟨w.heap.size, 1, none⟩) (show g < w.heap.size by have := Hgl.out; have := S1.out; have := S2.out; have := S3.out; have := Qq.out; have := Qw.out; have := S4.out; have := S5.out; omega) (.int .i64 b)).st (p := ⟨w.heap.size, 2, none⟩) (show g < w.heap.size by have := Hgl.out; have := S1.out; have := S2.out; have := S3.out; have := Qq.out; have := Qw.out; have := S4.out; have := S5.out; omega) (.int .i64 m)).st (p := ⟨w.heap.size, 3, none⟩) (show g < w.heap.size by have := Hgl.out; have := S1.out; have := S2.out; have := S3.out; have := Qq.out; have := Qw.out; have := S4.out; have := S5.out; omega) (.int .i64 e)).st (p := ⟨w.heap.size, 4, none⟩) (show g < w.heap.size by have := Hgl.out; have := S1.out; have := S2.out; have := S3.out; have := Qq.out; have := Qw.out; have := S4.out; have := S5.out; omega) (.int .i64 0)).st (p := ⟨w.heap.size, 5, none⟩) (show g < w.heap.size by have := Hgl.out; have := S1.out; have := S2.out; have := S3.out; have := Qq.out; have := Qw.out; have := S4.out; have := S5.out; omega) (.slice none 0 0)).mono (by omega), ((((((Hd5.out.st (p := ⟨w.heap.size, 0, none⟩) (show w.heap.size ≤ w.heap.size by have := Hgl.out; have := S1.out; have := S2.out; have := S3.out; have := Qq.out; have := Qw.out; have := S4.out; have := S5.out; omega) (.int .i64 a)).st (p := ⟨w.heap.size, 1, none⟩) (show w.heap.size ≤ w.heap.size by have := Hgl.out; have := S1.out; have := S2.out; have := S3.out; have := Qq.out; have := Qw.out; have := S4.out; have := S5.out; omega) (.int .i64 b)).st (p := ⟨w.heap.size, 2, none⟩) (show w.heap.size ≤ w.heap.size by have := Hgl.out; have := S1.out; have := S2.out; have := S3.out; have := Qq.out; have := Qw.out; have := S4.out; have := S5.out; omega) (.int .i64 m)).st (p := ⟨w.heap.size, 3, none⟩) (show w.heap.size ≤ w.heap.size by have := Hgl.out; have := S1.out; have := S2.out; have := S3.out; have := Qq.out; have := Qw.out; have := S4.out; have := S5.out; omega) (.int .i64 e)).st (p := ⟨w.heap.size, 4, none⟩) (show w.heap.size ≤ w.heap.size by have := Hgl.out; have := S1.out; have := S2.out; have := S3.out; have := Qq.out; have := Qw.out; have := S4.out; have := S5.out; omega) (.int .i64 0)).st (p := ⟨w.heap.size, 5, none⟩) (show w.heap.size ≤ w.heap.size by have := Hgl.out; have := S1.out; have := S2.out; have := S3.out; have := Qq.out; have := Qw.out; have := S4.out; have := S5.out; omega) (.slice none 0 0))⟩
    · have Htk := Lib.hid (tkB_tk hk9); clear hk9
      obtain ⟨tt, htt⟩ : ∃ tt, totI m e = tt := ⟨_, rfl⟩
      have htb := totI_bd Htk.out.m Htk.out.d
      rw [htt] at htb
      obtain ⟨ht0, ht1⟩ := htb
      have Hsk : Hid (∀ (t : Int) (v : Value) (w9 : World), Calls Tryz.prog 88 #[.agg #[.int .i64 a, .int .i64 b, .int .i64 m, .int .i64 e, .int .i64 t, v]] w9 fun r w8 => r = .returned (.int .i64 tt) ∧ Below w9.heap.size w9 w8) := Lib.hid (fun t v w9 => by rw [← htt]; exact skCount_any a b m e t v w9 Htk.out)
      have Hat : Hid (∀ (t n : Int) (v : Value) (w9 : World), 0 ≤ n ∧ n ≤ tt → Calls Tryz.prog 96 #[.agg #[.int .i64 a, .int .i64 b, .int .i64 m, .int .i64 e, .int .i64 t, v], .int .i64 n] w9 fun r w8 => (∃ A c, r = .returned (.agg #[.int .i64 a, .int .i64 b, .int .i64 m, .int .i64 e, .int .i64 n, .slice A (hitsZ a b m 0 n).length c]) ∧ IR w8 w9.heap.size 117 3 (.slice A (hitsZ a b m 0 n).length c) (hitsZ a b m 0 n).length) ∧ Below w9.heap.size w9 w8) := Lib.hid (fun t n v w9 hn => (skAt_any a b m e t n v w9 Htk.out (by rw [htt]; exact hn)).mono (fun r w8 h => by obtain ⟨⟨v9, rfl, ho⟩, hb9⟩ := h; obtain ⟨A9, c9, rfl⟩ := own_formK ho; exact ⟨⟨A9, c9, rfl, IR.of_pt ho⟩, hb9⟩))
      have qQ0 := Q.out.cell 0
      have qQ1 := Q.out.cell 1
      have qQ2 := Q.out.cell 2
      have qQ3 := Q.out.cell 3
      have qQ4 := Q.out.cell 4
      have qQ5 := Q.out.cell 5
      simp at qQ0 qQ1 qQ2 qQ3 qQ4 qQ5
      have qQl := Q.out.lt
      have qQf := Q.out.frozen
      go_wp2_with fail
      clear qQ0 qQ1 qQ2 qQ3 qQ4 qQ5 qQl qQf
      have qQ0 := Q.out.cell 0
      have qQ1 := Q.out.cell 1
      have qQ2 := Q.out.cell 2
      have qQ3 := Q.out.cell 3
      have qQ4 := Q.out.cell 4
      have qQ5 := Q.out.cell 5
      simp at qQ0 qQ1 qQ2 qQ3 qQ4 qQ5
      have qQl := Q.out.lt
      have hqg : q ≠ g := by have := Hgl.out; have := S1.out; have := S2.out; have := S3.out; have := Qq.out; have := Qw.out; have := S4.out; have := S5.out; omega
      have Hqg := Lib.hid hqg; clear hqg
      have Hgw := Lib.hid (show g < w5.heap.size by have := Hgl.out; have := S1.out; have := S2.out; have := S3.out; have := Qq.out; have := Qw.out; have := S4.out; have := S5.out; omega)
      clear qQ0 qQ1 qQ2 qQ3 qQ4 qQ5 qQl
      refine wp_region_heldT (z := 12) (S := fun w' => Blk w' q 51 #[.int .i64 a, .int .i64 b, .int .i64 m, .int .i64 e, .int .i64 0, .slice none 0 0]) (by kernel_rfl) Q.out.drew (fun hH => ?_)
      refine wpAnyT_take (i := 0) (v := .agg #[.int .i64 a, .int .i64 b, .int .i64 m, .int .i64 e, .int .i64 0, .slice none 0 0]) rfl (by kernel_rfl) (by kernel_rfl) (by kernel_rfl) (by kernel_rfl) (fun _ _ _ h => h) (Or.inl ⟨by rfl, ?_⟩) hH ?_
      · intro w hw; have f0 := hw.cell 0; have f1 := hw.cell 1; have f2 := hw.cell 2; have f3 := hw.cell 3; have f4 := hw.cell 4; have f5 := hw.cell 5; simp at f0 f1 f2 f3 f4 f5; go_simp
      try simp only [Act.put, List.setIfInBounds_toArray, List.set_cons_zero, List.set_cons_succ]
      refine wpAnyT_take (i := 1) (v := .pointer (some ⟨g, 0, none⟩)) rfl (by kernel_rfl) (by kernel_rfl) (by kernel_rfl) (by kernel_rfl) (fun _ _ _ h => h) (Or.inl ⟨by rfl, ?_⟩) hH ?_
      · intro w _; go_simp
      try simp only [Act.put, List.setIfInBounds_toArray, List.set_cons_zero, List.set_cons_succ]
      refine wpAnyT_take (i := 2) (v := .pointer (some ⟨g, 0, none⟩)) rfl (by kernel_rfl) (by kernel_rfl) (by kernel_rfl) (by kernel_rfl) (fun _ _ _ h => h) (Or.inl ⟨by rfl, ?_⟩) hH ?_
      · intro w _; go_simp
      try simp only [Act.put, List.setIfInBounds_toArray, List.set_cons_zero, List.set_cons_succ]
      refine wpAnyT_take (i := 3) (v := .agg #[.int .i64 a, .int .i64 b, .int .i64 m, .int .i64 e, .int .i64 0, .slice none 0 0]) rfl (by kernel_rfl) (by kernel_rfl) (by kernel_rfl) (by kernel_rfl) (fun _ _ _ h => h) (Or.inl ⟨by rfl, ?_⟩) hH ?_
      · intro w hw; have f0 := hw.cell 0; have f1 := hw.cell 1; have f2 := hw.cell 2; have f3 := hw.cell 3; have f4 := hw.cell 4; have f5 := hw.cell 5; simp at f0 f1 f2 f3 f4 f5; go_simp
      try simp only [Act.put, List.setIfInBounds_toArray, List.set_cons_zero, List.set_cons_succ]
      refine wpAnyT_take (i := 7) (v := .agg #[.int .i64 a, .int .i64 b, .int .i64 m, .int .i64 e, .int .i64 0, .slice none 0 0]) rfl (by kernel_rfl) (by kernel_rfl) (by kernel_rfl) (by kernel_rfl) (fun _ _ _ h => h) (Or.inl ⟨by rfl, ?_⟩) hH ?_
      · intro w hw; have f0 := hw.cell 0; have f1 := hw.cell 1; have f2 := hw.cell 2; have f3 := hw.cell 3; have f4 := hw.cell 4; have f5 := hw.cell 5; simp at f0 f1 f2 f3 f4 f5; go_simp
      try simp only [Act.put, List.setIfInBounds_toArray, List.set_cons_zero, List.set_cons_succ]
      refine wpAnyT_one (i := 4) (by kernel_rfl) rfl (fun K hK => ?_)
      go_simp
      refine (Hsk.out _ _ _).mono ?_
      rintro e9 wk ⟨rfl, hbk⟩
      go_wp2_with fail
      have hH2 := hH.on hbk
      refine hK.out _ _ (fun _ => hH2) ?_
      clear hK K
      try simp only [Act.put, List.setIfInBounds_toArray, List.set_cons_zero, List.set_cons_succ]
      have hc2 := (Cur.drew Hc5.out).on hbk
      have hd2 := (Dg.drew (Dg.refl g w5)).on hbk
      clear hbk
      have hw1 : IntKind.i64.wrap (tt + 1) = tt + 1 := by rw [IntKind.wrap_i64]; omega
      refine wpAnyT_take (i := 5) (v := .int .i64 (tt + 1)) rfl (by kernel_rfl) (by kernel_rfl) (by kernel_rfl) (by kernel_rfl) (fun _ _ _ h => h) (Or.inl ⟨by rfl, ?_⟩) hH2 ?_
      · intro w _; go_simp
      try simp only [Act.put, List.setIfInBounds_toArray, List.set_cons_zero, List.set_cons_succ]
      clear hw1
      refine wpAnyT_one (i := 6) (by kernel_rfl) rfl (fun K hK => ?_)
      go_simp
      refine (pick_any g (k + 56) (tt + 1) _ hc2 (by have := Hk.out; omega)).mono ?_
      rintro e9 wp ⟨⟨x, hx0, hx1, rfl⟩, hc3, hd3⟩
      go_wp2_with fail
      have hH3 := hH2.dg hd3 Hqg.out
      refine hK.out _ _ (fun _ => hH3) ?_
      clear hK K
      try simp only [Act.put, List.setIfInBounds_toArray, List.set_cons_zero, List.set_cons_succ]
      replace hc3 := hc3.mono (j := (k + 56) + 2) (by omega)
      replace hd3 := hd2.trans hd3
      clear hc2 hd2
      refine wpAnyT_one (i := 8) (by kernel_rfl) rfl (fun K hK => ?_)
      go_simp
      refine (Hsk.out _ _ _).mono ?_
      rintro e9 wl ⟨rfl, hbl⟩
      go_wp2_with fail
      have hH4 := hH3.on hbl
      refine hK.out _ _ (fun _ => hH4) ?_
      clear hK K
      try simp only [Act.put, List.setIfInBounds_toArray, List.set_cons_zero, List.set_cons_succ]
      replace hc3 := hc3.on hbl
      replace hd3 := hd3.on hbl
      clear hbl
      refine wpAnyT_one (i := 9) (by kernel_rfl) rfl (fun K hK => ?_)
      go_simp
      have hH5 := hH4.alloc (Obj.cells #[.int .i64 0, .int .i64 x, .int .i64 tt] 3)
      refine hK.out _ _ (fun _ => hH5) ?_
      clear hK K
      try simp only [Act.put, List.setIfInBounds_toArray, List.set_cons_zero, List.set_cons_succ]
      refine wpAnyT_one (i := 10) (by kernel_rfl) rfl (fun K hK => ?_)
      go_simp
      refine (among_blk g ((k + 56) + 2) _ [0, x, tt] 3 rfl _ (Blk.new wl _ _) (hc3.alloc _) (by have := hd3.size; have := Hgw.out; simp at *; omega) (by simp) (by simp) (by have := Hk.out; omega)).mono ?_
      rintro e9 wa ⟨⟨y, hy, rfl⟩, hc4, hd4⟩
      go_wp2_with fail
      have hH6 := hH5.dg hd4 Hqg.out
      refine hK.out _ _ (fun _ => hH6) ?_
      clear hK K
      try simp only [Act.put, List.setIfInBounds_toArray, List.set_cons_zero, List.set_cons_succ]
      have hyb : 0 ≤ y ∧ y ≤ tt := ag2 hy (lo := 0) (hi := tt) (by simp; omega)
      clear hy
      replace hc4 := hc4.mono (j := (k + 56) + 4) (by omega)
      replace hd4 := (hd3.alloc _).trans hd4
      clear hc3 hd3
      refine wpAnyT_one (i := 11) (by kernel_rfl) rfl (fun K hK => ?_)
      go_simp
      refine (Hat.out _ y _ _ hyb).mono ?_
      rintro e9 ws ⟨⟨A9, c9, rfl, hIR⟩, hbs⟩
      go_wp2_with fail
      have hH7 := hH6.on hbs
      refine hK.out _ _ (fun _ => hH7) ?_
      clear hK K
      try simp only [Act.put, List.setIfInBounds_toArray, List.set_cons_zero, List.set_cons_succ]
      have hIR9 := hIR.mono (B' := w5.heap.size) hd4.size
      replace hc4 := hc4.on hbs
      replace hd4 := hd4.on hbs
      clear hbs hIR hH hH2 hH3 hH4 hH5 hH6
      have y0 := hH7.cell 0
      have y1 := hH7.cell 1
      have y2 := hH7.cell 2
      have y3 := hH7.cell 3
      have y4 := hH7.cell 4
      have y5 := hH7.cell 5
      simp at y0 y1 y2 y3 y4 y5
      have yf0 := hH7.frozen 0
      have yf1 := hH7.frozen 1
      have yf2 := hH7.frozen 2
      have yf3 := hH7.frozen 3
      have yf4 := hH7.frozen 4
      have yf5 := hH7.frozen 5
      have yl := hH7.lt
      refine wpAnyT_one (i := 12) (by kernel_rfl) rfl (fun K hK => ?_)
      go_simp
      refine hK.out _ _ (fun h9 => absurd rfl h9) ?_
      clear hK K
      try simp only [Act.put, List.setIfInBounds_toArray, List.set_cons_zero, List.set_cons_succ]
      refine wpAnyT_done (by kernel_rfl) ?_ _
      clear y0 y1 y2 y3 y4 y5 yf0 yf1 yf2 yf3 yf4 yf5 yl hH7
      have hlen : (hitsZ a b m 0 y).length ≤ 4010 := by have h9 := hitsZ_len a b m 0 y; omega
      generalize (hitsZ a b m 0 y).length = hn at hIR9 hlen ⊢
      have hc6 := hc4.mono (j := k + 60) (by omega); have hd6 := hd4; have hIR := hIR9; clear hc4 hd4 hIR9
      have S6 := Lib.hid (show w5.heap.size + 0 ≤ ws.heap.size by have h9 := hd6.size; (try simp only [World.size_alloc, World.size_setCell] at h9); omega)
      have NR := Lib.hid (R.out.dg hd6 (show w.heap.size ≠ g by have := Hgl.out; have := S1.out; have := S2.out; have := S3.out; have := Qq.out; have := Qw.out; have := S4.out; have := S5.out; have := S6.out; omega))
      have NQ := Lib.hid (Q.out.dg hd6 (show q ≠ g by have := Hgl.out; have := S1.out; have := S2.out; have := S3.out; have := Qq.out; have := Qw.out; have := S4.out; have := S5.out; have := S6.out; omega))
      have R := NR; clear NR
      have Q := NQ; clear NQ
      have Hc6 := Lib.hid (hc6.mono (j := k + 60) (by omega))
      have Hd6 := Lib.hid (Hd5.out.trans hd6)
      clear hc6 hd6
      have HV := Lib.hid hIR; have GHV := Lib.hid (IR.lt hIR)
      clear hIR
      obtain ⟨hy0, hy1⟩ := hyb
      have qQ0 := Q.out.cell 0
      have qQ1 := Q.out.cell 1
      have qQ2 := Q.out.cell 2
      have qQ3 := Q.out.cell 3
      have qQ4 := Q.out.cell 4
      have qQ5 := Q.out.cell 5
      simp at qQ0 qQ1 qQ2 qQ3 qQ4 qQ5
      have qQl := Q.out.lt
      have qQf := Q.out.frozen
      go_wp2_with fail
      refine (pick_any g (k + 60) (40) _ ((((((Hc6.out.st (p := ⟨q, 0, none⟩) (show g < q by have := Hgl.out; have := S1.out; have := S2.out; have := S3.out; have := Qq.out; have := Qw.out; have := S4.out; have := S5.out; have := S6.out; omega) (.int .i64 a)).st (p := ⟨q, 1, none⟩) (show g < q by have := Hgl.out; have := S1.out; have := S2.out; have := S3.out; have := Qq.out; have := Qw.out; have := S4.out; have := S5.out; have := S6.out; omega) (.int .i64 b)).st (p := ⟨q, 2, none⟩) (show g < q by have := Hgl.out; have := S1.out; have := S2.out; have := S3.out; have := Qq.out; have := Qw.out; have := S4.out; have := S5.out; have := S6.out; omega) (.int .i64 m)).st (p := ⟨q, 3, none⟩) (show g < q by have := Hgl.out; have := S1.out; have := S2.out; have := S3.out; have := Qq.out; have := Qw.out; have := S4.out; have := S5.out; have := S6.out; omega) (.int .i64 e)).st (p := ⟨q, 4, none⟩) (show g < q by have := Hgl.out; have := S1.out; have := S2.out; have := S3.out; have := Qq.out; have := Qw.out; have := S4.out; have := S5.out; have := S6.out; omega) (.int .i64 y)).st (p := ⟨q, 5, none⟩) (show g < q by have := Hgl.out; have := S1.out; have := S2.out; have := S3.out; have := Qq.out; have := Qw.out; have := S4.out; have := S5.out; have := S6.out; omega) (.slice A9 hn c9)) (by have := Hk.out; omega)).mono ?_; rintro e w7 ⟨⟨p4, lp4, up4, rfl⟩, hc7, hd7⟩
      clear qQ0 qQ1 qQ2 qQ3 qQ4 qQ5 qQl qQf
      have S7 := Lib.hid (show ws.heap.size + 0 ≤ w7.heap.size by have h9 := hd7.size; (try simp only [World.size_alloc, World.size_setCell] at h9); omega)
      have NR := Lib.hid (((((((R.out.far (p := ⟨q, 0, none⟩) (show w.heap.size ≠ q by have := Hgl.out; have := S1.out; have := S2.out; have := S3.out; have := Qq.out; have := Qw.out; have := S4.out; have := S5.out; have := S6.out; have := S7.out; omega) (.int .i64 a)).far (p := ⟨q, 1, none⟩) (show w.heap.size ≠ q by have := Hgl.out; have := S1.out; have := S2.out; have := S3.out; have := Qq.out; have := Qw.out; have := S4.out; have := S5.out; have := S6.out; have := S7.out; omega) (.int .i64 b)).far (p := ⟨q, 2, none⟩) (show w.heap.size ≠ q by have := Hgl.out; have := S1.out; have := S2.out; have := S3.out; have := Qq.out; have := Qw.out; have := S4.out; have := S5.out; have := S6.out; have := S7.out; omega) (.int .i64 m)).far (p := ⟨q, 3, none⟩) (show w.heap.size ≠ q by have := Hgl.out; have := S1.out; have := S2.out; have := S3.out; have := Qq.out; have := Qw.out; have := S4.out; have := S5.out; have := S6.out; have := S7.out; omega) (.int .i64 e)).far (p := ⟨q, 4, none⟩) (show w.heap.size ≠ q by have := Hgl.out; have := S1.out; have := S2.out; have := S3.out; have := Qq.out; have := Qw.out; have := S4.out; have := S5.out; have := S6.out; have := S7.out; omega) (.int .i64 y)).far (p := ⟨q, 5, none⟩) (show w.heap.size ≠ q by have := Hgl.out; have := S1.out; have := S2.out; have := S3.out; have := Qq.out; have := Qw.out; have := S4.out; have := S5.out; have := S6.out; have := S7.out; omega) (.slice A9 hn c9)).dg hd7 (show w.heap.size ≠ g by have := Hgl.out; have := S1.out; have := S2.out; have := S3.out; have := Qq.out; have := Qw.out; have := S4.out; have := S5.out; have := S6.out; have := S7.out; omega))
      have NQ := Lib.hid ((show Blk (World.setCell (World.setCell (World.setCell (World.setCell (World.setCell (World.setCell ws ⟨q, 0, none⟩ (.int .i64 a)) ⟨q, 1, none⟩ (.int .i64 b)) ⟨q, 2, none⟩ (.int .i64 m)) ⟨q, 3, none⟩ (.int .i64 e)) ⟨q, 4, none⟩ (.int .i64 y)) ⟨q, 5, none⟩ (.slice A9 hn c9)) (q) 51 #[.int .i64 a, .int .i64 b, .int .i64 m, .int .i64 e, .int .i64 y, .slice A9 hn c9] by have h9 := ((((((Q.out.set 0 (.int .i64 a)).set 1 (.int .i64 b)).set 2 (.int .i64 m)).set 3 (.int .i64 e)).set 4 (.int .i64 y)).set 5 (.slice A9 hn c9)); simpa using h9).dg hd7 (show q ≠ g by have := Hgl.out; have := S1.out; have := S2.out; have := S3.out; have := Qq.out; have := Qw.out; have := S4.out; have := S5.out; have := S6.out; have := S7.out; omega))
      have R := NR; clear NR
      have Q := NQ; clear NQ
      have HV := Lib.hid (((((((HV.out.st (p := ⟨q, 0, none⟩) (by intro k9 hk9; have := GHV.out k9 hk9; show k9 ≠ q; have := Hgl.out; have := S1.out; have := S2.out; have := S3.out; have := Qq.out; have := Qw.out; have := S4.out; have := S5.out; have := S6.out; have := S7.out; omega) (.int .i64 a)).st (p := ⟨q, 1, none⟩) (by intro k9 hk9; have := GHV.out k9 hk9; show k9 ≠ q; have := Hgl.out; have := S1.out; have := S2.out; have := S3.out; have := Qq.out; have := Qw.out; have := S4.out; have := S5.out; have := S6.out; have := S7.out; omega) (.int .i64 b)).st (p := ⟨q, 2, none⟩) (by intro k9 hk9; have := GHV.out k9 hk9; show k9 ≠ q; have := Hgl.out; have := S1.out; have := S2.out; have := S3.out; have := Qq.out; have := Qw.out; have := S4.out; have := S5.out; have := S6.out; have := S7.out; omega) (.int .i64 m)).st (p := ⟨q, 3, none⟩) (by intro k9 hk9; have := GHV.out k9 hk9; show k9 ≠ q; have := Hgl.out; have := S1.out; have := S2.out; have := S3.out; have := Qq.out; have := Qw.out; have := S4.out; have := S5.out; have := S6.out; have := S7.out; omega) (.int .i64 e)).st (p := ⟨q, 4, none⟩) (by intro k9 hk9; have := GHV.out k9 hk9; show k9 ≠ q; have := Hgl.out; have := S1.out; have := S2.out; have := S3.out; have := Qq.out; have := Qw.out; have := S4.out; have := S5.out; have := S6.out; have := S7.out; omega) (.int .i64 y)).st (p := ⟨q, 5, none⟩) (by intro k9 hk9; have := GHV.out k9 hk9; show k9 ≠ q; have := Hgl.out; have := S1.out; have := S2.out; have := S3.out; have := Qq.out; have := Qw.out; have := S4.out; have := S5.out; have := S6.out; have := S7.out; omega) (.slice A9 hn c9)).dg hd7 (show g < w5.heap.size by have := Hgl.out; have := S1.out; have := S2.out; have := S3.out; have := Qq.out; have := Qw.out; have := S4.out; have := S5.out; have := S6.out; have := S7.out; omega))
      have Hc7 := Lib.hid (hc7.mono (j := k + 62) (by omega))
      have Hd7 := Lib.hid (((((((Hd6.out.st (p := ⟨q, 0, none⟩) (show w.heap.size ≤ q by have := Hgl.out; have := S1.out; have := S2.out; have := S3.out; have := Qq.out; have := Qw.out; have := S4.out; have := S5.out; have := S6.out; have := S7.out; omega) (.int .i64 a)).st (p := ⟨q, 1, none⟩) (show w.heap.size ≤ q by have := Hgl.out; have := S1.out; have := S2.out; have := S3.out; have := Qq.out; have := Qw.out; have := S4.out; have := S5.out; have := S6.out; have := S7.out; omega) (.int .i64 b)).st (p := ⟨q, 2, none⟩) (show w.heap.size ≤ q by have := Hgl.out; have := S1.out; have := S2.out; have := S3.out; have := Qq.out; have := Qw.out; have := S4.out; have := S5.out; have := S6.out; have := S7.out; omega) (.int .i64 m)).st (p := ⟨q, 3, none⟩) (show w.heap.size ≤ q by have := Hgl.out; have := S1.out; have := S2.out; have := S3.out; have := Qq.out; have := Qw.out; have := S4.out; have := S5.out; have := S6.out; have := S7.out; omega) (.int .i64 e)).st (p := ⟨q, 4, none⟩) (show w.heap.size ≤ q by have := Hgl.out; have := S1.out; have := S2.out; have := S3.out; have := Qq.out; have := Qw.out; have := S4.out; have := S5.out; have := S6.out; have := S7.out; omega) (.int .i64 y)).st (p := ⟨q, 5, none⟩) (show w.heap.size ≤ q by have := Hgl.out; have := S1.out; have := S2.out; have := S3.out; have := Qq.out; have := Qw.out; have := S4.out; have := S5.out; have := S6.out; have := S7.out; omega) (.slice A9 hn c9)).trans hd7)
      clear hc7 hd7
      by_cases ep40 : p4 = 0
      · have zp40 : (p4 == 0) = true := by rw [ep40]; rfl
        clear ep40
        go_wp2_with fail
        refine (among_lit g (k + 62) (w7.heap.size) [-1, 201] w7 (by simp) Hc7.out (by simp) (by simp) (by have := Hk.out; omega)).mono ?_; rintro e w8 ⟨⟨x2, hx2, rfl⟩, hc8, hd8⟩
        have S8 := Lib.hid (show w7.heap.size + 1 ≤ w8.heap.size by have h9 := hd8.size; (try simp only [World.size_alloc, World.size_setCell] at h9); omega)
        have NR := Lib.hid ((R.out.alloc _).dg hd8 (show w.heap.size ≠ g by have := Hgl.out; have := S1.out; have := S2.out; have := S3.out; have := Qq.out; have := Qw.out; have := S4.out; have := S5.out; have := S6.out; have := S7.out; have := S8.out; omega))
        have NQ := Lib.hid ((Q.out.alloc _).dg hd8 (show q ≠ g by have := Hgl.out; have := S1.out; have := S2.out; have := S3.out; have := Qq.out; have := Qw.out; have := S4.out; have := S5.out; have := S6.out; have := S7.out; have := S8.out; omega))
        have R := NR; clear NR
        have Q := NQ; clear NQ
        have HV := Lib.hid ((HV.out.alloc _).dg hd8 (show g < w5.heap.size by have := Hgl.out; have := S1.out; have := S2.out; have := S3.out; have := Qq.out; have := Qw.out; have := S4.out; have := S5.out; have := S6.out; have := S7.out; have := S8.out; omega))
        have Hc8 := Lib.hid (hc8.mono (j := k + 64) (by omega))
        have Hd8 := Lib.hid ((Hd7.out.alloc _).trans hd8)
        clear hc8 hd8
        clear hx2
        have qQ0 := Q.out.cell 0
        have qQ1 := Q.out.cell 1
        have qQ2 := Q.out.cell 2
        have qQ3 := Q.out.cell 3
        have qQ4 := Q.out.cell 4
        have qQ5 := Q.out.cell 5
        simp at qQ0 qQ1 qQ2 qQ3 qQ4 qQ5
        have qQl := Q.out.lt
        have qQf := Q.out.frozen
        have qR0 := R.out.cell 0
        have qR1 := R.out.cell 1
        have qR2 := R.out.cell 2
        have qR3 := R.out.cell 3
        have qR4 := R.out.cell 4
        have qR5 := R.out.cell 5
        simp at qR0 qR1 qR2 qR3 qR4 qR5
        have qRl := R.out.lt
        have qRf := R.out.frozen
        have nQR : q ≠ w.heap.size := by have := Hgl.out; have := S1.out; have := S2.out; have := S3.out; have := Qq.out; have := Qw.out; have := S4.out; have := S5.out; have := S6.out; have := S7.out; have := S8.out; omega
        have nRQ : w.heap.size ≠ q := fun e => nQR e.symm
        go_wp2
        clear qQ0 qQ1 qQ2 qQ3 qQ4 qQ5 qQl qQf qR0 qR1 qR2 qR3 qR4 qR5 qRl qRf nQR nRQ
        have HR9 := (show Blk (World.setCell (World.setCell (World.setCell (World.setCell (World.setCell (World.setCell (World.setCell w8 ⟨q, 2, none⟩ (.int .i64 x2)) ⟨w.heap.size, 0, none⟩ (.int .i64 a)) ⟨w.heap.size, 1, none⟩ (.int .i64 b)) ⟨w.heap.size, 2, none⟩ (.int .i64 x2)) ⟨w.heap.size, 3, none⟩ (.int .i64 e)) ⟨w.heap.size, 4, none⟩ (.int .i64 y)) ⟨w.heap.size, 5, none⟩ (.slice A9 hn c9)) (w.heap.size) 51 #[.int .i64 a, .int .i64 b, .int .i64 x2, .int .i64 e, .int .i64 y, .slice A9 hn c9] by have h9 := (((((((R.out.far (p := ⟨q, 2, none⟩) (show w.heap.size ≠ q by have := Hgl.out; have := S1.out; have := S2.out; have := S3.out; have := Qq.out; have := Qw.out; have := S4.out; have := S5.out; have := S6.out; have := S7.out; have := S8.out; omega) (.int .i64 x2)).set 0 (.int .i64 a)).set 1 (.int .i64 b)).set 2 (.int .i64 x2)).set 3 (.int .i64 e)).set 4 (.int .i64 y)).set 5 (.slice A9 hn c9)); simpa using h9)
        have k0 := HR9.cell 0
        have k1 := HR9.cell 1
        have k2 := HR9.cell 2
        have k3 := HR9.cell 3
        have k4 := HR9.cell 4
        have k5 := HR9.cell 5
        simp at k0 k1 k2 k3 k4 k5
        exact bodyPost_ret (v := .agg #[.int .i64 a, .int .i64 b, .int .i64 x2, .int .i64 e, .int .i64 y, .slice A9 hn c9]) (by simp [results, Tryz.results77, go_sem, k0, k1, k2, k3, k4, k5]) rfl ⟨⟨_, _, _, _, _, _, hn, by omega, rfl, ((((((((HV.out.st (p := ⟨q, 2, none⟩) (by intro k9 hk9; have := GHV.out k9 hk9; show k9 ≠ q; have := Hgl.out; have := S1.out; have := S2.out; have := S3.out; have := Qq.out; have := Qw.out; have := S4.out; have := S5.out; have := S6.out; have := S7.out; have := S8.out; omega) (.int .i64 x2)).st (p := ⟨w.heap.size, 0, none⟩) (by intro k9 hk9; have := GHV.out k9 hk9; show k9 ≠ w.heap.size; have := Hgl.out; have := S1.out; have := S2.out; have := S3.out; have := Qq.out; have := Qw.out; have := S4.out; have := S5.out; have := S6.out; have := S7.out; have := S8.out; omega) (.int .i64 a)).st (p := ⟨w.heap.size, 1, none⟩) (by intro k9 hk9; have := GHV.out k9 hk9; show k9 ≠ w.heap.size; have := Hgl.out; have := S1.out; have := S2.out; have := S3.out; have := Qq.out; have := Qw.out; have := S4.out; have := S5.out; have := S6.out; have := S7.out; have := S8.out; omega) (.int .i64 b)).st (p := ⟨w.heap.size, 2, none⟩) (by intro k9 hk9; have := GHV.out k9 hk9; show k9 ≠ w.heap.size; have := Hgl.out; have := S1.out; have := S2.out; have := S3.out; have := Qq.out; have := Qw.out; have := S4.out; have := S5.out; have := S6.out; have := S7.out; have := S8.out; omega) (.int .i64 x2)).st (p := ⟨w.heap.size, 3, none⟩) (by intro k9 hk9; have := GHV.out k9 hk9; show k9 ≠ w.heap.size; have := Hgl.out; have := S1.out; have := S2.out; have := S3.out; have := Qq.out; have := Qw.out; have := S4.out; have := S5.out; have := S6.out; have := S7.out; have := S8.out; omega) (.int .i64 e)).st (p := ⟨w.heap.size, 4, none⟩) (by intro k9 hk9; have := GHV.out k9 hk9; show k9 ≠ w.heap.size; have := Hgl.out; have := S1.out; have := S2.out; have := S3.out; have := Qq.out; have := Qw.out; have := S4.out; have := S5.out; have := S6.out; have := S7.out; have := S8.out; omega) (.int .i64 y)).st (p := ⟨w.heap.size, 5, none⟩) (by intro k9 hk9; have := GHV.out k9 hk9; show k9 ≠ w.heap.size; have := Hgl.out; have := S1.out; have := S2.out; have := S3.out; have := Qq.out; have := Qw.out; have := S4.out; have := S5.out; have := S6.out; have := S7.out; have := S8.out; omega) (.slice A9 hn c9))).mono (by have := S1.out; have := S2.out; have := S3.out; have := Qq.out; have := Qw.out; have := S4.out; have := S5.out; have := S6.out; have := S7.out; have := S8.out; omega)⟩, (((((((Hc8.out.st (p := ⟨q, 2, none⟩) (show g < q by have := Hgl.out; have := S1.out; have := S2.out; have := S3.out; have := Qq.out; have := Qw.out; have := S4.out; have := S5.out; have := S6.out; have := S7.out; have := S8.out; omega) (.int .i64 x2)).st (p := ⟨w.heap.size, 0, none⟩) (show g < w.heap.size by have := Hgl.out; have := S1.out; have := S2.out; have := S3.out; have := Qq.out; have := Qw.out; have := S4.out; have := S5.out; have := S6.out; have := S7.out; have := S8.out; omega) (.int .i64 a)).st (p := ⟨w.heap.size, 1, none⟩) (show g < w.heap.size by have := Hgl.out; have := S1.out; have := S2.out; have := S3.out; have := Qq.out; have := Qw.out; have := S4.out; have := S5.out; have := S6.out; have := S7.out; have := S8.out; omega) (.int .i64 b)).st (p := ⟨w.heap.size, 2, none⟩) (show g < w.heap.size by have := Hgl.out; have := S1.out; have := S2.out; have := S3.out; have := Qq.out; have := Qw.out; have := S4.out; have := S5.out; have := S6.out; have := S7.out; have := S8.out; omega) (.int .i64 x2)).st (p := ⟨w.heap.size, 3, none⟩) (show g < w.heap.size by have := Hgl.out; have := S1.out; have := S2.out; have := S3.out; have := Qq.out; have := Qw.out; have := S4.out; have := S5.out; have := S6.out; have := S7.out; have := S8.out; omega) (.int .i64 e)).st (p := ⟨w.heap.size, 4, none⟩) (show g < w.heap.size by have := Hgl.out; have := S1.out; have := S2.out; have := S3.out; have := Qq.out; have := Qw.out; have := S4.out; have := S5.out; have := S6.out; have := S7.out; have := S8.out; omega) (.int .i64 y)).st (p := ⟨w.heap.size, 5, none⟩) (show g < w.heap.size by have := Hgl.out; have := S1.out; have := S2.out; have := S3.out; have := Qq.out; have := Qw.out; have := S4.out; have := S5.out; have := S6.out; have := S7.out; have := S8.out; omega) (.slice A9 hn c9)).mono (by omega), (((((((Hd8.out.st (p := ⟨q, 2, none⟩) (show w.heap.size ≤ q by have := Hgl.out; have := S1.out; have := S2.out; have := S3.out; have := Qq.out; have := Qw.out; have := S4.out; have := S5.out; have := S6.out; have := S7.out; have := S8.out; omega) (.int .i64 x2)).st (p := ⟨w.heap.size, 0, none⟩) (show w.heap.size ≤ w.heap.size by have := Hgl.out; have := S1.out; have := S2.out; have := S3.out; have := Qq.out; have := Qw.out; have := S4.out; have := S5.out; have := S6.out; have := S7.out; have := S8.out; omega) (.int .i64 a)).st (p := ⟨w.heap.size, 1, none⟩) (show w.heap.size ≤ w.heap.size by have := Hgl.out; have := S1.out; have := S2.out; have := S3.out; have := Qq.out; have := Qw.out; have := S4.out; have := S5.out; have := S6.out; have := S7.out; have := S8.out; omega) (.int .i64 b)).st (p := ⟨w.heap.size, 2, none⟩) (show w.heap.size ≤ w.heap.size by have := Hgl.out; have := S1.out; have := S2.out; have := S3.out; have := Qq.out; have := Qw.out; have := S4.out; have := S5.out; have := S6.out; have := S7.out; have := S8.out; omega) (.int .i64 x2)).st (p := ⟨w.heap.size, 3, none⟩) (show w.heap.size ≤ w.heap.size by have := Hgl.out; have := S1.out; have := S2.out; have := S3.out; have := Qq.out; have := Qw.out; have := S4.out; have := S5.out; have := S6.out; have := S7.out; have := S8.out; omega) (.int .i64 e)).st (p := ⟨w.heap.size, 4, none⟩) (show w.heap.size ≤ w.heap.size by have := Hgl.out; have := S1.out; have := S2.out; have := S3.out; have := Qq.out; have := Qw.out; have := S4.out; have := S5.out; have := S6.out; have := S7.out; have := S8.out; omega) (.int .i64 y)).st (p := ⟨w.heap.size, 5, none⟩) (show w.heap.size ≤ w.heap.size by have := Hgl.out; have := S1.out; have := S2.out; have := S3.out; have := Qq.out; have := Qw.out; have := S4.out; have := S5.out; have := S6.out; have := S7.out; have := S8.out; omega) (.slice A9 hn c9))⟩
      · by_cases ep41 : p4 = 1
        · have zp41 : (p4 == 1) = true := by rw [ep41]; rfl
          have zp40 : (p4 == 0) = false := by rw [ep41]; rfl
          clear ep40 ep41
          go_wp2_with fail
          refine (among_lit g (k + 62) (w7.heap.size) [0, 11] w7 (by simp) Hc7.out (by simp) (by simp) (by have := Hk.out; omega)).mono ?_; rintro e w9 ⟨⟨x2, hx2, rfl⟩, hc9, hd9⟩
          have S9 := Lib.hid (show w7.heap.size + 1 ≤ w9.heap.size by have h9 := hd9.size; (try simp only [World.size_alloc, World.size_setCell] at h9); omega)
          have NR := Lib.hid ((R.out.alloc _).dg hd9 (show w.heap.size ≠ g by have := Hgl.out; have := S1.out; have := S2.out; have := S3.out; have := Qq.out; have := Qw.out; have := S4.out; have := S5.out; have := S6.out; have := S7.out; have := S9.out; omega))
          have NQ := Lib.hid ((Q.out.alloc _).dg hd9 (show q ≠ g by have := Hgl.out; have := S1.out; have := S2.out; have := S3.out; have := Qq.out; have := Qw.out; have := S4.out; have := S5.out; have := S6.out; have := S7.out; have := S9.out; omega))
          have R := NR; clear NR
          have Q := NQ; clear NQ
          have HV := Lib.hid ((HV.out.alloc _).dg hd9 (show g < w5.heap.size by have := Hgl.out; have := S1.out; have := S2.out; have := S3.out; have := Qq.out; have := Qw.out; have := S4.out; have := S5.out; have := S6.out; have := S7.out; have := S9.out; omega))
          have Hc9 := Lib.hid (hc9.mono (j := k + 64) (by omega))
          have Hd9 := Lib.hid ((Hd7.out.alloc _).trans hd9)
          clear hc9 hd9
          clear hx2
          have qQ0 := Q.out.cell 0
          have qQ1 := Q.out.cell 1
          have qQ2 := Q.out.cell 2
          have qQ3 := Q.out.cell 3
          have qQ4 := Q.out.cell 4
          have qQ5 := Q.out.cell 5
          simp at qQ0 qQ1 qQ2 qQ3 qQ4 qQ5
          have qQl := Q.out.lt
          have qQf := Q.out.frozen
          have qR0 := R.out.cell 0
          have qR1 := R.out.cell 1
          have qR2 := R.out.cell 2
          have qR3 := R.out.cell 3
          have qR4 := R.out.cell 4
          have qR5 := R.out.cell 5
          simp at qR0 qR1 qR2 qR3 qR4 qR5
          have qRl := R.out.lt
          have qRf := R.out.frozen
          have nQR : q ≠ w.heap.size := by have := Hgl.out; have := S1.out; have := S2.out; have := S3.out; have := Qq.out; have := Qw.out; have := S4.out; have := S5.out; have := S6.out; have := S7.out; have := S9.out; omega
          have nRQ : w.heap.size ≠ q := fun e => nQR e.symm
          go_wp2
          clear qQ0 qQ1 qQ2 qQ3 qQ4 qQ5 qQl qQf qR0 qR1 qR2 qR3 qR4 qR5 qRl qRf nQR nRQ
          have HR9 := (show Blk (World.setCell (World.setCell (World.setCell (World.setCell (World.setCell (World.setCell (World.setCell w9 ⟨q, 3, none⟩ (.int .i64 x2)) ⟨w.heap.size, 0, none⟩ (.int .i64 a)) ⟨w.heap.size, 1, none⟩ (.int .i64 b)) ⟨w.heap.size, 2, none⟩ (.int .i64 m)) ⟨w.heap.size, 3, none⟩ (.int .i64 x2)) ⟨w.heap.size, 4, none⟩ (.int .i64 y)) ⟨w.heap.size, 5, none⟩ (.slice A9 hn c9)) (w.heap.size) 51 #[.int .i64 a, .int .i64 b, .int .i64 m, .int .i64 x2, .int .i64 y, .slice A9 hn c9] by have h9 := (((((((R.out.far (p := ⟨q, 3, none⟩) (show w.heap.size ≠ q by have := Hgl.out; have := S1.out; have := S2.out; have := S3.out; have := Qq.out; have := Qw.out; have := S4.out; have := S5.out; have := S6.out; have := S7.out; have := S9.out; omega) (.int .i64 x2)).set 0 (.int .i64 a)).set 1 (.int .i64 b)).set 2 (.int .i64 m)).set 3 (.int .i64 x2)).set 4 (.int .i64 y)).set 5 (.slice A9 hn c9)); simpa using h9)
          have k0 := HR9.cell 0
          have k1 := HR9.cell 1
          have k2 := HR9.cell 2
          have k3 := HR9.cell 3
          have k4 := HR9.cell 4
          have k5 := HR9.cell 5
          simp at k0 k1 k2 k3 k4 k5
          exact bodyPost_ret (v := .agg #[.int .i64 a, .int .i64 b, .int .i64 m, .int .i64 x2, .int .i64 y, .slice A9 hn c9]) (by simp [results, Tryz.results77, go_sem, k0, k1, k2, k3, k4, k5]) rfl ⟨⟨_, _, _, _, _, _, hn, by omega, rfl, ((((((((HV.out.st (p := ⟨q, 3, none⟩) (by intro k9 hk9; have := GHV.out k9 hk9; show k9 ≠ q; have := Hgl.out; have := S1.out; have := S2.out; have := S3.out; have := Qq.out; have := Qw.out; have := S4.out; have := S5.out; have := S6.out; have := S7.out; have := S9.out; omega) (.int .i64 x2)).st (p := ⟨w.heap.size, 0, none⟩) (by intro k9 hk9; have := GHV.out k9 hk9; show k9 ≠ w.heap.size; have := Hgl.out; have := S1.out; have := S2.out; have := S3.out; have := Qq.out; have := Qw.out; have := S4.out; have := S5.out; have := S6.out; have := S7.out; have := S9.out; omega) (.int .i64 a)).st (p := ⟨w.heap.size, 1, none⟩) (by intro k9 hk9; have := GHV.out k9 hk9; show k9 ≠ w.heap.size; have := Hgl.out; have := S1.out; have := S2.out; have := S3.out; have := Qq.out; have := Qw.out; have := S4.out; have := S5.out; have := S6.out; have := S7.out; have := S9.out; omega) (.int .i64 b)).st (p := ⟨w.heap.size, 2, none⟩) (by intro k9 hk9; have := GHV.out k9 hk9; show k9 ≠ w.heap.size; have := Hgl.out; have := S1.out; have := S2.out; have := S3.out; have := Qq.out; have := Qw.out; have := S4.out; have := S5.out; have := S6.out; have := S7.out; have := S9.out; omega) (.int .i64 m)).st (p := ⟨w.heap.size, 3, none⟩) (by intro k9 hk9; have := GHV.out k9 hk9; show k9 ≠ w.heap.size; have := Hgl.out; have := S1.out; have := S2.out; have := S3.out; have := Qq.out; have := Qw.out; have := S4.out; have := S5.out; have := S6.out; have := S7.out; have := S9.out; omega) (.int .i64 x2)).st (p := ⟨w.heap.size, 4, none⟩) (by intro k9 hk9; have := GHV.out k9 hk9; show k9 ≠ w.heap.size; have := Hgl.out; have := S1.out; have := S2.out; have := S3.out; have := Qq.out; have := Qw.out; have := S4.out; have := S5.out; have := S6.out; have := S7.out; have := S9.out; omega) (.int .i64 y)).st (p := ⟨w.heap.size, 5, none⟩) (by intro k9 hk9; have := GHV.out k9 hk9; show k9 ≠ w.heap.size; have := Hgl.out; have := S1.out; have := S2.out; have := S3.out; have := Qq.out; have := Qw.out; have := S4.out; have := S5.out; have := S6.out; have := S7.out; have := S9.out; omega) (.slice A9 hn c9))).mono (by have := S1.out; have := S2.out; have := S3.out; have := Qq.out; have := Qw.out; have := S4.out; have := S5.out; have := S6.out; have := S7.out; have := S9.out; omega)⟩, (((((((Hc9.out.st (p := ⟨q, 3, none⟩) (show g < q by have := Hgl.out; have := S1.out; have := S2.out; have := S3.out; have := Qq.out; have := Qw.out; have := S4.out; have := S5.out; have := S6.out; have := S7.out; have := S9.out; omega) (.int .i64 x2)).st (p := ⟨w.heap.size, 0, none⟩) (show g < w.heap.size by have := Hgl.out; have := S1.out; have := S2.out; have := S3.out; have := Qq.out; have := Qw.out; have := S4.out; have := S5.out; have := S6.out; have := S7.out; have := S9.out; omega) (.int .i64 a)).st (p := ⟨w.heap.size, 1, none⟩) (show g < w.heap.size by have := Hgl.out; have := S1.out; have := S2.out; have := S3.out; have := Qq.out; have := Qw.out; have := S4.out; have := S5.out; have := S6.out; have := S7.out; have := S9.out; omega) (.int .i64 b)).st (p := ⟨w.heap.size, 2, none⟩) (show g < w.heap.size by have := Hgl.out; have := S1.out; have := S2.out; have := S3.out; have := Qq.out; have := Qw.out; have := S4.out; have := S5.out; have := S6.out; have := S7.out; have := S9.out; omega) (.int .i64 m)).st (p := ⟨w.heap.size, 3, none⟩) (show g < w.heap.size by have := Hgl.out; have := S1.out; have := S2.out; have := S3.out; have := Qq.out; have := Qw.out; have := S4.out; have := S5.out; have := S6.out; have := S7.out; have := S9.out; omega) (.int .i64 x2)).st (p := ⟨w.heap.size, 4, none⟩) (show g < w.heap.size by have := Hgl.out; have := S1.out; have := S2.out; have := S3.out; have := Qq.out; have := Qw.out; have := S4.out; have := S5.out; have := S6.out; have := S7.out; have := S9.out; omega) (.int .i64 y)).st (p := ⟨w.heap.size, 5, none⟩) (show g < w.heap.size by have := Hgl.out; have := S1.out; have := S2.out; have := S3.out; have := Qq.out; have := Qw.out; have := S4.out; have := S5.out; have := S6.out; have := S7.out; have := S9.out; omega) (.slice A9 hn c9)).mono (by omega), (((((((Hd9.out.st (p := ⟨q, 3, none⟩) (show w.heap.size ≤ q by have := Hgl.out; have := S1.out; have := S2.out; have := S3.out; have := Qq.out; have := Qw.out; have := S4.out; have := S5.out; have := S6.out; have := S7.out; have := S9.out; omega) (.int .i64 x2)).st (p := ⟨w.heap.size, 0, none⟩) (show w.heap.size ≤ w.heap.size by have := Hgl.out; have := S1.out; have := S2.out; have := S3.out; have := Qq.out; have := Qw.out; have := S4.out; have := S5.out; have := S6.out; have := S7.out; have := S9.out; omega) (.int .i64 a)).st (p := ⟨w.heap.size, 1, none⟩) (show w.heap.size ≤ w.heap.size by have := Hgl.out; have := S1.out; have := S2.out; have := S3.out; have := Qq.out; have := Qw.out; have := S4.out; have := S5.out; have := S6.out; have := S7.out; have := S9.out; omega) (.int .i64 b)).st (p := ⟨w.heap.size, 2, none⟩) (show w.heap.size ≤ w.heap.size by have := Hgl.out; have := S1.out; have := S2.out; have := S3.out; have := Qq.out; have := Qw.out; have := S4.out; have := S5.out; have := S6.out; have := S7.out; have := S9.out; omega) (.int .i64 m)).st (p := ⟨w.heap.size, 3, none⟩) (show w.heap.size ≤ w.heap.size by have := Hgl.out; have := S1.out; have := S2.out; have := S3.out; have := Qq.out; have := Qw.out; have := S4.out; have := S5.out; have := S6.out; have := S7.out; have := S9.out; omega) (.int .i64 x2)).st (p := ⟨w.heap.size, 4, none⟩) (show w.heap.size ≤ w.heap.size by have := Hgl.out; have := S1.out; have := S2.out; have := S3.out; have := Qq.out; have := Qw.out; have := S4.out; have := S5.out; have := S6.out; have := S7.out; have := S9.out; omega) (.int .i64 y)).st (p := ⟨w.heap.size, 5, none⟩) (show w.heap.size ≤ w.heap.size by have := Hgl.out; have := S1.out; have := S2.out; have := S3.out; have := Qq.out; have := Qw.out; have := S4.out; have := S5.out; have := S6.out; have := S7.out; have := S9.out; omega) (.slice A9 hn c9))⟩
        · by_cases ep42 : p4 = 2
          · have zp42 : (p4 == 2) = true := by rw [ep42]; rfl
            have zp40 : (p4 == 0) = false := by rw [ep42]; rfl
            have zp41 : (p4 == 1) = false := by rw [ep42]; rfl
            clear ep40 ep41 ep42
            have qQ0 := Q.out.cell 0
            have qQ1 := Q.out.cell 1
            have qQ2 := Q.out.cell 2
            have qQ3 := Q.out.cell 3
            have qQ4 := Q.out.cell 4
            have qQ5 := Q.out.cell 5
            simp at qQ0 qQ1 qQ2 qQ3 qQ4 qQ5
            have qQl := Q.out.lt
            go_wp2_with fail
            refine (Hsk.out _ _ _).mono ?_; rintro e w10 ⟨rfl, hd10⟩
            clear qQ0 qQ1 qQ2 qQ3 qQ4 qQ5 qQl
            have S10 := Lib.hid (show w7.heap.size + 0 ≤ w10.heap.size by have h9 := hd10.size; (try simp only [World.size_alloc, World.size_setCell] at h9); omega)
            have NR := Lib.hid (R.out.dg (Dg.of_below (g := g) hd10) (show w.heap.size ≠ g by have := Hgl.out; have := S1.out; have := S2.out; have := S3.out; have := Qq.out; have := Qw.out; have := S4.out; have := S5.out; have := S6.out; have := S7.out; have := S10.out; omega))
            have NQ := Lib.hid (Q.out.dg (Dg.of_below (g := g) hd10) (show q ≠ g by have := Hgl.out; have := S1.out; have := S2.out; have := S3.out; have := Qq.out; have := Qw.out; have := S4.out; have := S5.out; have := S6.out; have := S7.out; have := S10.out; omega))
            have R := NR; clear NR
            have Q := NQ; clear NQ
            have HV := Lib.hid (HV.out.dg (Dg.of_below (g := g) hd10) (show g < w5.heap.size by have := Hgl.out; have := S1.out; have := S2.out; have := S3.out; have := Qq.out; have := Qw.out; have := S4.out; have := S5.out; have := S6.out; have := S7.out; have := S10.out; omega))
            have Hc10 := Lib.hid (Hc7.out.on hd10)
            have Hd10 := Lib.hid (Hd7.out.trans (Dg.of_below (g := g) hd10))
            clear hd10
            go_wp2_with fail
            refine (among_lit g (k + 62) (w10.heap.size) [-1, (tt + 1)] w10 (by simp) Hc10.out (by simp) (by simp) (by have := Hk.out; omega)).mono ?_; rintro e w11 ⟨⟨x2, hx2, rfl⟩, hc11, hd11⟩
            have S11 := Lib.hid (show w10.heap.size + 1 ≤ w11.heap.size by have h9 := hd11.size; (try simp only [World.size_alloc, World.size_setCell] at h9); omega)
            have NR := Lib.hid ((R.out.alloc _).dg hd11 (show w.heap.size ≠ g by have := Hgl.out; have := S1.out; have := S2.out; have := S3.out; have := Qq.out; have := Qw.out; have := S4.out; have := S5.out; have := S6.out; have := S7.out; have := S10.out; have := S11.out; omega))
            have NQ := Lib.hid ((Q.out.alloc _).dg hd11 (show q ≠ g by have := Hgl.out; have := S1.out; have := S2.out; have := S3.out; have := Qq.out; have := Qw.out; have := S4.out; have := S5.out; have := S6.out; have := S7.out; have := S10.out; have := S11.out; omega))
            have R := NR; clear NR
            have Q := NQ; clear NQ
            have HV := Lib.hid ((HV.out.alloc _).dg hd11 (show g < w5.heap.size by have := Hgl.out; have := S1.out; have := S2.out; have := S3.out; have := Qq.out; have := Qw.out; have := S4.out; have := S5.out; have := S6.out; have := S7.out; have := S10.out; have := S11.out; omega))
            have Hc11 := Lib.hid (hc11.mono (j := k + 64) (by omega))
            have Hd11 := Lib.hid ((Hd10.out.alloc _).trans hd11)
            clear hc11 hd11
            clear hx2
            have qQ0 := Q.out.cell 0
            have qQ1 := Q.out.cell 1
            have qQ2 := Q.out.cell 2
            have qQ3 := Q.out.cell 3
            have qQ4 := Q.out.cell 4
            have qQ5 := Q.out.cell 5
            simp at qQ0 qQ1 qQ2 qQ3 qQ4 qQ5
            have qQl := Q.out.lt
            have qQf := Q.out.frozen
            have qR0 := R.out.cell 0
            have qR1 := R.out.cell 1
            have qR2 := R.out.cell 2
            have qR3 := R.out.cell 3
            have qR4 := R.out.cell 4
            have qR5 := R.out.cell 5
            simp at qR0 qR1 qR2 qR3 qR4 qR5
            have qRl := R.out.lt
            have qRf := R.out.frozen
            have nQR : q ≠ w.heap.size := by have := Hgl.out; have := S1.out; have := S2.out; have := S3.out; have := Qq.out; have := Qw.out; have := S4.out; have := S5.out; have := S6.out; have := S7.out; have := S10.out; have := S11.out; omega
            have nRQ : w.heap.size ≠ q := fun e => nQR e.symm
            go_wp2
            clear qQ0 qQ1 qQ2 qQ3 qQ4 qQ5 qQl qQf qR0 qR1 qR2 qR3 qR4 qR5 qRl qRf nQR nRQ
            have HR9 := (show Blk (World.setCell (World.setCell (World.setCell (World.setCell (World.setCell (World.setCell (World.setCell w11 ⟨q, 4, none⟩ (.int .i64 x2)) ⟨w.heap.size, 0, none⟩ (.int .i64 a)) ⟨w.heap.size, 1, none⟩ (.int .i64 b)) ⟨w.heap.size, 2, none⟩ (.int .i64 m)) ⟨w.heap.size, 3, none⟩ (.int .i64 e)) ⟨w.heap.size, 4, none⟩ (.int .i64 x2)) ⟨w.heap.size, 5, none⟩ (.slice A9 hn c9)) (w.heap.size) 51 #[.int .i64 a, .int .i64 b, .int .i64 m, .int .i64 e, .int .i64 x2, .slice A9 hn c9] by have h9 := (((((((R.out.far (p := ⟨q, 4, none⟩) (show w.heap.size ≠ q by have := Hgl.out; have := S1.out; have := S2.out; have := S3.out; have := Qq.out; have := Qw.out; have := S4.out; have := S5.out; have := S6.out; have := S7.out; have := S10.out; have := S11.out; omega) (.int .i64 x2)).set 0 (.int .i64 a)).set 1 (.int .i64 b)).set 2 (.int .i64 m)).set 3 (.int .i64 e)).set 4 (.int .i64 x2)).set 5 (.slice A9 hn c9)); simpa using h9)
            have k0 := HR9.cell 0
            have k1 := HR9.cell 1
            have k2 := HR9.cell 2
            have k3 := HR9.cell 3
            have k4 := HR9.cell 4
            have k5 := HR9.cell 5
            simp at k0 k1 k2 k3 k4 k5
            exact bodyPost_ret (v := .agg #[.int .i64 a, .int .i64 b, .int .i64 m, .int .i64 e, .int .i64 x2, .slice A9 hn c9]) (by simp [results, Tryz.results77, go_sem, k0, k1, k2, k3, k4, k5]) rfl ⟨⟨_, _, _, _, _, _, hn, by omega, rfl, ((((((((HV.out.st (p := ⟨q, 4, none⟩) (by intro k9 hk9; have := GHV.out k9 hk9; show k9 ≠ q; have := Hgl.out; have := S1.out; have := S2.out; have := S3.out; have := Qq.out; have := Qw.out; have := S4.out; have := S5.out; have := S6.out; have := S7.out; have := S10.out; have := S11.out; omega) (.int .i64 x2)).st (p := ⟨w.heap.size, 0, none⟩) (by intro k9 hk9; have := GHV.out k9 hk9; show k9 ≠ w.heap.size; have := Hgl.out; have := S1.out; have := S2.out; have := S3.out; have := Qq.out; have := Qw.out; have := S4.out; have := S5.out; have := S6.out; have := S7.out; have := S10.out; have := S11.out; omega) (.int .i64 a)).st (p := ⟨w.heap.size, 1, none⟩) (by intro k9 hk9; have := GHV.out k9 hk9; show k9 ≠ w.heap.size; have := Hgl.out; have := S1.out; have := S2.out; have := S3.out; have := Qq.out; have := Qw.out; have := S4.out; have := S5.out; have := S6.out; have := S7.out; have := S10.out; have := S11.out; omega) (.int .i64 b)).st (p := ⟨w.heap.size, 2, none⟩) (by intro k9 hk9; have := GHV.out k9 hk9; show k9 ≠ w.heap.size; have := Hgl.out; have := S1.out; have := S2.out; have := S3.out; have := Qq.out; have := Qw.out; have := S4.out; have := S5.out; have := S6.out; have := S7.out; have := S10.out; have := S11.out; omega) (.int .i64 m)).st (p := ⟨w.heap.size, 3, none⟩) (by intro k9 hk9; have := GHV.out k9 hk9; show k9 ≠ w.heap.size; have := Hgl.out; have := S1.out; have := S2.out; have := S3.out; have := Qq.out; have := Qw.out; have := S4.out; have := S5.out; have := S6.out; have := S7.out; have := S10.out; have := S11.out; omega) (.int .i64 e)).st (p := ⟨w.heap.size, 4, none⟩) (by intro k9 hk9; have := GHV.out k9 hk9; show k9 ≠ w.heap.size; have := Hgl.out; have := S1.out; have := S2.out; have := S3.out; have := Qq.out; have := Qw.out; have := S4.out; have := S5.out; have := S6.out; have := S7.out; have := S10.out; have := S11.out; omega) (.int .i64 x2)).st (p := ⟨w.heap.size, 5, none⟩) (by intro k9 hk9; have := GHV.out k9 hk9; show k9 ≠ w.heap.size; have := Hgl.out; have := S1.out; have := S2.out; have := S3.out; have := Qq.out; have := Qw.out; have := S4.out; have := S5.out; have := S6.out; have := S7.out; have := S10.out; have := S11.out; omega) (.slice A9 hn c9))).mono (by have := S1.out; have := S2.out; have := S3.out; have := Qq.out; have := Qw.out; have := S4.out; have := S5.out; have := S6.out; have := S7.out; have := S10.out; have := S11.out; omega)⟩, (((((((Hc11.out.st (p := ⟨q, 4, none⟩) (show g < q by have := Hgl.out; have := S1.out; have := S2.out; have := S3.out; have := Qq.out; have := Qw.out; have := S4.out; have := S5.out; have := S6.out; have := S7.out; have := S10.out; have := S11.out; omega) (.int .i64 x2)).st (p := ⟨w.heap.size, 0, none⟩) (show g < w.heap.size by have := Hgl.out; have := S1.out; have := S2.out; have := S3.out; have := Qq.out; have := Qw.out; have := S4.out; have := S5.out; have := S6.out; have := S7.out; have := S10.out; have := S11.out; omega) (.int .i64 a)).st (p := ⟨w.heap.size, 1, none⟩) (show g < w.heap.size by have := Hgl.out; have := S1.out; have := S2.out; have := S3.out; have := Qq.out; have := Qw.out; have := S4.out; have := S5.out; have := S6.out; have := S7.out; have := S10.out; have := S11.out; omega) (.int .i64 b)).st (p := ⟨w.heap.size, 2, none⟩) (show g < w.heap.size by have := Hgl.out; have := S1.out; have := S2.out; have := S3.out; have := Qq.out; have := Qw.out; have := S4.out; have := S5.out; have := S6.out; have := S7.out; have := S10.out; have := S11.out; omega) (.int .i64 m)).st (p := ⟨w.heap.size, 3, none⟩) (show g < w.heap.size by have := Hgl.out; have := S1.out; have := S2.out; have := S3.out; have := Qq.out; have := Qw.out; have := S4.out; have := S5.out; have := S6.out; have := S7.out; have := S10.out; have := S11.out; omega) (.int .i64 e)).st (p := ⟨w.heap.size, 4, none⟩) (show g < w.heap.size by have := Hgl.out; have := S1.out; have := S2.out; have := S3.out; have := Qq.out; have := Qw.out; have := S4.out; have := S5.out; have := S6.out; have := S7.out; have := S10.out; have := S11.out; omega) (.int .i64 x2)).st (p := ⟨w.heap.size, 5, none⟩) (show g < w.heap.size by have := Hgl.out; have := S1.out; have := S2.out; have := S3.out; have := Qq.out; have := Qw.out; have := S4.out; have := S5.out; have := S6.out; have := S7.out; have := S10.out; have := S11.out; omega) (.slice A9 hn c9)).mono (by omega), (((((((Hd11.out.st (p := ⟨q, 4, none⟩) (show w.heap.size ≤ q by have := Hgl.out; have := S1.out; have := S2.out; have := S3.out; have := Qq.out; have := Qw.out; have := S4.out; have := S5.out; have := S6.out; have := S7.out; have := S10.out; have := S11.out; omega) (.int .i64 x2)).st (p := ⟨w.heap.size, 0, none⟩) (show w.heap.size ≤ w.heap.size by have := Hgl.out; have := S1.out; have := S2.out; have := S3.out; have := Qq.out; have := Qw.out; have := S4.out; have := S5.out; have := S6.out; have := S7.out; have := S10.out; have := S11.out; omega) (.int .i64 a)).st (p := ⟨w.heap.size, 1, none⟩) (show w.heap.size ≤ w.heap.size by have := Hgl.out; have := S1.out; have := S2.out; have := S3.out; have := Qq.out; have := Qw.out; have := S4.out; have := S5.out; have := S6.out; have := S7.out; have := S10.out; have := S11.out; omega) (.int .i64 b)).st (p := ⟨w.heap.size, 2, none⟩) (show w.heap.size ≤ w.heap.size by have := Hgl.out; have := S1.out; have := S2.out; have := S3.out; have := Qq.out; have := Qw.out; have := S4.out; have := S5.out; have := S6.out; have := S7.out; have := S10.out; have := S11.out; omega) (.int .i64 m)).st (p := ⟨w.heap.size, 3, none⟩) (show w.heap.size ≤ w.heap.size by have := Hgl.out; have := S1.out; have := S2.out; have := S3.out; have := Qq.out; have := Qw.out; have := S4.out; have := S5.out; have := S6.out; have := S7.out; have := S10.out; have := S11.out; omega) (.int .i64 e)).st (p := ⟨w.heap.size, 4, none⟩) (show w.heap.size ≤ w.heap.size by have := Hgl.out; have := S1.out; have := S2.out; have := S3.out; have := Qq.out; have := Qw.out; have := S4.out; have := S5.out; have := S6.out; have := S7.out; have := S10.out; have := S11.out; omega) (.int .i64 x2)).st (p := ⟨w.heap.size, 5, none⟩) (show w.heap.size ≤ w.heap.size by have := Hgl.out; have := S1.out; have := S2.out; have := S3.out; have := Qq.out; have := Qw.out; have := S4.out; have := S5.out; have := S6.out; have := S7.out; have := S10.out; have := S11.out; omega) (.slice A9 hn c9))⟩
          · by_cases ep43 : p4 = 3
            · have zp43 : (p4 == 3) = true := by rw [ep43]; rfl
              have zp40 : (p4 == 0) = false := by rw [ep43]; rfl
              have zp41 : (p4 == 1) = false := by rw [ep43]; rfl
              have zp42 : (p4 == 2) = false := by rw [ep43]; rfl
              clear ep40 ep41 ep42 ep43
              obtain ⟨i0, hi, hz0, hz1, hz2⟩ := info_parts infoPt2
              obtain ⟨xs9, ho9, ha9⟩ := HV.out.ex
              have qQ0 := Q.out.cell 0
              have qQ1 := Q.out.cell 1
              have qQ2 := Q.out.cell 2
              have qQ3 := Q.out.cell 3
              have qQ4 := Q.out.cell 4
              have qQ5 := Q.out.cell 5
              simp at qQ0 qQ1 qQ2 qQ3 qQ4 qQ5
              have qQl := Q.out.lt
              have qQf := Q.out.frozen
              go_wp2_with (at_builtin; refine wpList_append_own _ rfl _ _ 49 rfl w5.heap.size 117 i0 (.agg #[.int .i64 0, .int .i64 0, .int .i64 0]) 3 24 Tryz.underlying49 hi hz0 hz1 hz2 rfl (by decide) _ _ _ rfl (ho9.alloc _) ⟨w7.heap.size, 0, none⟩ 1 1 [.int .i64 1, .int .i64 1, .int .i64 1] rfl rfl ?c1 ?c2 ?c3 ?c4 ?c5 ?_)
              case c1 =>
                intro j u hj
                match j, hj with
                | 0, hj => simp at hj; subst hj; exact (Blk.new w7 _ _).cell 0
                | 1, hj => simp at hj; subst hj; exact (Blk.new w7 _ _).cell 1
                | 2, hj => simp at hj; subst hj; exact (Blk.new w7 _ _).cell 2
              case c2 => intro u hu; simp at hu; rcases hu with rfl | rfl | rfl <;> rfl
              case c3 => unfold maxLen; omega
              case c4 => omega
              case c5 => have := Hgl.out; have := S1.out; have := S2.out; have := S3.out; have := Qq.out; have := Qw.out; have := S4.out; have := S5.out; have := S6.out; have := S7.out; simp; omega
              intro v12 w12 hown12 hgrow12 _
              clear qQ0 qQ1 qQ2 qQ3 qQ4 qQ5 qQl qQf
              have S12 := Lib.hid (show w7.heap.size + 1 ≤ w12.heap.size by have h9 := hgrow12.size; (try simp only [World.size_alloc, World.size_setCell] at h9); omega)
              have gr12 : ∀ r, Value.ownBlock _ = some r → w5.heap.size ≤ r := fun r hr => (World.ownsRow.lt ho9 r hr).1
              have Hc12 := Lib.hid ((Hc7.out.alloc _).grown hgrow12 (fun r hr => by have := gr12 r hr; have := Hgl.out; have := S1.out; have := S2.out; have := S3.out; have := Qq.out; have := Qw.out; have := S4.out; have := S5.out; have := S6.out; have := S7.out; omega))
              have Hd12 := Lib.hid ((Hd7.out.alloc _).grown hgrow12 (fun r hr => by have := gr12 r hr; have := S1.out; have := S2.out; have := S3.out; have := Qq.out; have := Qw.out; have := S4.out; have := S5.out; have := S6.out; have := S7.out; omega))
              have R12 := Lib.hid (show IR w12 w5.heap.size 117 3 v12 (hn + 1) from ⟨_, hown12, ha9.app (by first | exact allI3 _ _ _ | exact allI5 _ _ _ _ _ | exact allI7 _ _ _ _ _ _ _)⟩)
              have R := Lib.hid (Blk.grownK (R.out.alloc _) hgrow12 (fun r hr => by have := gr12 r hr; have := Hgl.out; have := S1.out; have := S2.out; have := S3.out; have := Qq.out; have := Qw.out; have := S4.out; have := S5.out; have := S6.out; have := S7.out; have := S12.out; omega))
              have Q := Lib.hid (Blk.grownK (Q.out.alloc _) hgrow12 (fun r hr => by have := gr12 r hr; have := Hgl.out; have := S1.out; have := S2.out; have := S3.out; have := Qq.out; have := Qw.out; have := S4.out; have := S5.out; have := S6.out; have := S7.out; have := S12.out; omega))
              clear hown12 hgrow12 gr12 ho9 ha9
              have GR12 := Lib.hid (IR.lt R12.out)
              obtain ⟨A8, c8, hv8, -, -⟩ := R12.out.form
              subst hv8
              have qQ0 := Q.out.cell 0
              have qQ1 := Q.out.cell 1
              have qQ2 := Q.out.cell 2
              have qQ3 := Q.out.cell 3
              have qQ4 := Q.out.cell 4
              have qQ5 := Q.out.cell 5
              simp at qQ0 qQ1 qQ2 qQ3 qQ4 qQ5
              have qQl := Q.out.lt
              have qQf := Q.out.frozen
              have qR0 := R.out.cell 0
              have qR1 := R.out.cell 1
              have qR2 := R.out.cell 2
              have qR3 := R.out.cell 3
              have qR4 := R.out.cell 4
              have qR5 := R.out.cell 5
              simp at qR0 qR1 qR2 qR3 qR4 qR5
              have qRl := R.out.lt
              have qRf := R.out.frozen
              have nQR : q ≠ w.heap.size := by have := Hgl.out; have := S1.out; have := S2.out; have := S3.out; have := Qq.out; have := Qw.out; have := S4.out; have := S5.out; have := S6.out; have := S7.out; have := S12.out; omega
              have nRQ : w.heap.size ≠ q := fun e => nQR e.symm
              go_wp2
              clear qQ0 qQ1 qQ2 qQ3 qQ4 qQ5 qQl qQf qR0 qR1 qR2 qR3 qR4 qR5 qRl qRf nQR nRQ
              have HR9 := (show Blk (World.setCell (World.setCell (World.setCell (World.setCell (World.setCell (World.setCell (World.setCell w12 ⟨q, 5, none⟩ (.slice A8 (hn + 1) c8)) ⟨w.heap.size, 0, none⟩ (.int .i64 a)) ⟨w.heap.size, 1, none⟩ (.int .i64 b)) ⟨w.heap.size, 2, none⟩ (.int .i64 m)) ⟨w.heap.size, 3, none⟩ (.int .i64 e)) ⟨w.heap.size, 4, none⟩ (.int .i64 y)) ⟨w.heap.size, 5, none⟩ (.slice A8 (hn + 1) c8)) (w.heap.size) 51 #[.int .i64 a, .int .i64 b, .int .i64 m, .int .i64 e, .int .i64 y, .slice A8 (hn + 1) c8] by have h9 := (((((((R.out.far (p := ⟨q, 5, none⟩) (show w.heap.size ≠ q by have := Hgl.out; have := S1.out; have := S2.out; have := S3.out; have := Qq.out; have := Qw.out; have := S4.out; have := S5.out; have := S6.out; have := S7.out; have := S12.out; omega) (.slice A8 (hn + 1) c8)).set 0 (.int .i64 a)).set 1 (.int .i64 b)).set 2 (.int .i64 m)).set 3 (.int .i64 e)).set 4 (.int .i64 y)).set 5 (.slice A8 (hn + 1) c8)); simpa using h9)
              have k0 := HR9.cell 0
              have k1 := HR9.cell 1
              have k2 := HR9.cell 2
              have k3 := HR9.cell 3
              have k4 := HR9.cell 4
              have k5 := HR9.cell 5
              simp at k0 k1 k2 k3 k4 k5
              exact bodyPost_ret (v := .agg #[.int .i64 a, .int .i64 b, .int .i64 m, .int .i64 e, .int .i64 y, .slice A8 (hn + 1) c8]) (by simp [results, Tryz.results77, go_sem, k0, k1, k2, k3, k4, k5]) rfl ⟨⟨_, _, _, _, _, _, hn + 1, by omega, rfl, ((((((((R12.out.st (p := ⟨q, 5, none⟩) (by intro k9 hk9; have := GR12.out k9 hk9; show k9 ≠ q; have := Hgl.out; have := S1.out; have := S2.out; have := S3.out; have := Qq.out; have := Qw.out; have := S4.out; have := S5.out; have := S6.out; have := S7.out; have := S12.out; omega) (.slice A8 (hn + 1) c8)).st (p := ⟨w.heap.size, 0, none⟩) (by intro k9 hk9; have := GR12.out k9 hk9; show k9 ≠ w.heap.size; have := Hgl.out; have := S1.out; have := S2.out; have := S3.out; have := Qq.out; have := Qw.out; have := S4.out; have := S5.out; have := S6.out; have := S7.out; have := S12.out; omega) (.int .i64 a)).st (p := ⟨w.heap.size, 1, none⟩) (by intro k9 hk9; have := GR12.out k9 hk9; show k9 ≠ w.heap.size; have := Hgl.out; have := S1.out; have := S2.out; have := S3.out; have := Qq.out; have := Qw.out; have := S4.out; have := S5.out; have := S6.out; have := S7.out; have := S12.out; omega) (.int .i64 b)).st (p := ⟨w.heap.size, 2, none⟩) (by intro k9 hk9; have := GR12.out k9 hk9; show k9 ≠ w.heap.size; have := Hgl.out; have := S1.out; have := S2.out; have := S3.out; have := Qq.out; have := Qw.out; have := S4.out; have := S5.out; have := S6.out; have := S7.out; have := S12.out; omega) (.int .i64 m)).st (p := ⟨w.heap.size, 3, none⟩) (by intro k9 hk9; have := GR12.out k9 hk9; show k9 ≠ w.heap.size; have := Hgl.out; have := S1.out; have := S2.out; have := S3.out; have := Qq.out; have := Qw.out; have := S4.out; have := S5.out; have := S6.out; have := S7.out; have := S12.out; omega) (.int .i64 e)).st (p := ⟨w.heap.size, 4, none⟩) (by intro k9 hk9; have := GR12.out k9 hk9; show k9 ≠ w.heap.size; have := Hgl.out; have := S1.out; have := S2.out; have := S3.out; have := Qq.out; have := Qw.out; have := S4.out; have := S5.out; have := S6.out; have := S7.out; have := S12.out; omega) (.int .i64 y)).st (p := ⟨w.heap.size, 5, none⟩) (by intro k9 hk9; have := GR12.out k9 hk9; show k9 ≠ w.heap.size; have := Hgl.out; have := S1.out; have := S2.out; have := S3.out; have := Qq.out; have := Qw.out; have := S4.out; have := S5.out; have := S6.out; have := S7.out; have := S12.out; omega) (.slice A8 (hn + 1) c8))).mono (by have := S1.out; have := S2.out; have := S3.out; have := Qq.out; have := Qw.out; have := S4.out; have := S5.out; have := S6.out; have := S7.out; have := S12.out; omega)⟩, (((((((Hc12.out.st (p := ⟨q, 5, none⟩) (show g < q by have := Hgl.out; have := S1.out; have := S2.out; have := S3.out; have := Qq.out; have := Qw.out; have := S4.out; have := S5.out; have := S6.out; have := S7.out; have := S12.out; omega) (.slice A8 (hn + 1) c8)).st (p := ⟨w.heap.size, 0, none⟩) (show g < w.heap.size by have := Hgl.out; have := S1.out; have := S2.out; have := S3.out; have := Qq.out; have := Qw.out; have := S4.out; have := S5.out; have := S6.out; have := S7.out; have := S12.out; omega) (.int .i64 a)).st (p := ⟨w.heap.size, 1, none⟩) (show g < w.heap.size by have := Hgl.out; have := S1.out; have := S2.out; have := S3.out; have := Qq.out; have := Qw.out; have := S4.out; have := S5.out; have := S6.out; have := S7.out; have := S12.out; omega) (.int .i64 b)).st (p := ⟨w.heap.size, 2, none⟩) (show g < w.heap.size by have := Hgl.out; have := S1.out; have := S2.out; have := S3.out; have := Qq.out; have := Qw.out; have := S4.out; have := S5.out; have := S6.out; have := S7.out; have := S12.out; omega) (.int .i64 m)).st (p := ⟨w.heap.size, 3, none⟩) (show g < w.heap.size by have := Hgl.out; have := S1.out; have := S2.out; have := S3.out; have := Qq.out; have := Qw.out; have := S4.out; have := S5.out; have := S6.out; have := S7.out; have := S12.out; omega) (.int .i64 e)).st (p := ⟨w.heap.size, 4, none⟩) (show g < w.heap.size by have := Hgl.out; have := S1.out; have := S2.out; have := S3.out; have := Qq.out; have := Qw.out; have := S4.out; have := S5.out; have := S6.out; have := S7.out; have := S12.out; omega) (.int .i64 y)).st (p := ⟨w.heap.size, 5, none⟩) (show g < w.heap.size by have := Hgl.out; have := S1.out; have := S2.out; have := S3.out; have := Qq.out; have := Qw.out; have := S4.out; have := S5.out; have := S6.out; have := S7.out; have := S12.out; omega) (.slice A8 (hn + 1) c8)).mono (by omega), (((((((Hd12.out.st (p := ⟨q, 5, none⟩) (show w.heap.size ≤ q by have := Hgl.out; have := S1.out; have := S2.out; have := S3.out; have := Qq.out; have := Qw.out; have := S4.out; have := S5.out; have := S6.out; have := S7.out; have := S12.out; omega) (.slice A8 (hn + 1) c8)).st (p := ⟨w.heap.size, 0, none⟩) (show w.heap.size ≤ w.heap.size by have := Hgl.out; have := S1.out; have := S2.out; have := S3.out; have := Qq.out; have := Qw.out; have := S4.out; have := S5.out; have := S6.out; have := S7.out; have := S12.out; omega) (.int .i64 a)).st (p := ⟨w.heap.size, 1, none⟩) (show w.heap.size ≤ w.heap.size by have := Hgl.out; have := S1.out; have := S2.out; have := S3.out; have := Qq.out; have := Qw.out; have := S4.out; have := S5.out; have := S6.out; have := S7.out; have := S12.out; omega) (.int .i64 b)).st (p := ⟨w.heap.size, 2, none⟩) (show w.heap.size ≤ w.heap.size by have := Hgl.out; have := S1.out; have := S2.out; have := S3.out; have := Qq.out; have := Qw.out; have := S4.out; have := S5.out; have := S6.out; have := S7.out; have := S12.out; omega) (.int .i64 m)).st (p := ⟨w.heap.size, 3, none⟩) (show w.heap.size ≤ w.heap.size by have := Hgl.out; have := S1.out; have := S2.out; have := S3.out; have := Qq.out; have := Qw.out; have := S4.out; have := S5.out; have := S6.out; have := S7.out; have := S12.out; omega) (.int .i64 e)).st (p := ⟨w.heap.size, 4, none⟩) (show w.heap.size ≤ w.heap.size by have := Hgl.out; have := S1.out; have := S2.out; have := S3.out; have := Qq.out; have := Qw.out; have := S4.out; have := S5.out; have := S6.out; have := S7.out; have := S12.out; omega) (.int .i64 y)).st (p := ⟨w.heap.size, 5, none⟩) (show w.heap.size ≤ w.heap.size by have := Hgl.out; have := S1.out; have := S2.out; have := S3.out; have := Qq.out; have := Qw.out; have := S4.out; have := S5.out; have := S6.out; have := S7.out; have := S12.out; omega) (.slice A8 (hn + 1) c8))⟩
            · by_cases ep44 : p4 = 4
              · have zp44 : (p4 == 4) = true := by rw [ep44]; rfl
                have zp40 : (p4 == 0) = false := by rw [ep44]; rfl
                have zp41 : (p4 == 1) = false := by rw [ep44]; rfl
                have zp42 : (p4 == 2) = false := by rw [ep44]; rfl
                have zp43 : (p4 == 3) = false := by rw [ep44]; rfl
                clear ep40 ep41 ep42 ep43 ep44
                by_cases h0 : 0 < hn
                · obtain ⟨gl, cl, hfl, hgl1, hgl2, hmcl, hcml⟩ := HV.out.pos h0
                  injection hfl with hf1 hf2 hf3; subst hf1; subst hf3; clear hf2
                  have h0i : (0 : Int) < (hn : Int) := by omega
                  obtain ⟨u1, hu1⟩ := HV.out.cell (j := 1) (by omega)
                  have hfz := HV.out.frozen
                  have hll := (HV.out.lt gl rfl).2
                  have qQ0 := Q.out.cell 0
                  have qQ1 := Q.out.cell 1
                  have qQ2 := Q.out.cell 2
                  have qQ3 := Q.out.cell 3
                  have qQ4 := Q.out.cell 4
                  have qQ5 := Q.out.cell 5
                  simp at qQ0 qQ1 qQ2 qQ3 qQ4 qQ5
                  have qQl := Q.out.lt
                  have qQf := Q.out.frozen
                  go_wp2_with fail
                  go_region
                  clear hu1 hfz hll qQ0 qQ1 qQ2 qQ3 qQ4 qQ5 qQl qQf
                  generalize wrap64 (wrap64 (-u1) - 1) = i9
                  obtain ⟨wz, hw9⟩ : ∃ x, x = World.drew (World.setCell w7 ⟨gl, 1, none⟩ (.int .i64 i9)) := ⟨_, rfl⟩
                  rw [← hw9]
                  have hd13 : Dg g (World.setCell w7 ⟨gl, 1, none⟩ (.int .i64 i9)) wz := by rw [hw9]; exact Dg.drew (Dg.refl _ _)
                  have hc13 : Cur wz g (k + 62) := by rw [hw9]; exact Cur.drew (Hc7.out.st (p := ⟨gl, 1, none⟩) (show g < gl by have := Hgl.out; have := hgl1; have := S1.out; have := S2.out; have := S3.out; have := Qq.out; have := Qw.out; have := S4.out; have := S5.out; have := S6.out; have := S7.out; omega) (.int .i64 i9))
                  have S13 := Lib.hid (show w7.heap.size + 0 ≤ wz.heap.size by have h9 := hd13.size; (try simp only [World.size_alloc, World.size_setCell] at h9); omega)
                  have NR := Lib.hid ((R.out.far (p := ⟨gl, 1, none⟩) (show w.heap.size ≠ gl by have := Hgl.out; have := hgl1; have := S1.out; have := S2.out; have := S3.out; have := Qq.out; have := Qw.out; have := S4.out; have := S5.out; have := S6.out; have := S7.out; have := S13.out; omega) (.int .i64 i9)).dg hd13 (show w.heap.size ≠ g by have := Hgl.out; have := hgl1; have := S1.out; have := S2.out; have := S3.out; have := Qq.out; have := Qw.out; have := S4.out; have := S5.out; have := S6.out; have := S7.out; have := S13.out; omega))
                  have NQ := Lib.hid ((Q.out.far (p := ⟨gl, 1, none⟩) (show q ≠ gl by have := Hgl.out; have := hgl1; have := S1.out; have := S2.out; have := S3.out; have := Qq.out; have := Qw.out; have := S4.out; have := S5.out; have := S6.out; have := S7.out; have := S13.out; omega) (.int .i64 i9)).dg hd13 (show q ≠ g by have := Hgl.out; have := hgl1; have := S1.out; have := S2.out; have := S3.out; have := Qq.out; have := Qw.out; have := S4.out; have := S5.out; have := S6.out; have := S7.out; have := S13.out; omega))
                  have R := NR; clear NR
                  have Q := NQ; clear NQ
                  have HV := Lib.hid ((HV.out.set (1) i9).dg hd13 (show g < w5.heap.size by have := Hgl.out; have := hgl1; have := S1.out; have := S2.out; have := S3.out; have := Qq.out; have := Qw.out; have := S4.out; have := S5.out; have := S6.out; have := S7.out; have := S13.out; omega))
                  have Hc13 := Lib.hid (hc13.mono (j := k + 62) (by omega))
                  have Hd13 := Lib.hid ((Hd7.out.st (p := ⟨gl, 1, none⟩) (show w.heap.size ≤ gl by have := Hgl.out; have := hgl1; have := S1.out; have := S2.out; have := S3.out; have := Qq.out; have := Qw.out; have := S4.out; have := S5.out; have := S6.out; have := S7.out; have := S13.out; omega) (.int .i64 i9)).trans hd13)
                  clear hc13 hd13
                  clear hw9
                  have qQ0 := Q.out.cell 0
                  have qQ1 := Q.out.cell 1
                  have qQ2 := Q.out.cell 2
                  have qQ3 := Q.out.cell 3
                  have qQ4 := Q.out.cell 4
                  have qQ5 := Q.out.cell 5
                  simp at qQ0 qQ1 qQ2 qQ3 qQ4 qQ5
                  have qQl := Q.out.lt
                  have qR0 := R.out.cell 0
                  have qR1 := R.out.cell 1
                  have qR2 := R.out.cell 2
                  have qR3 := R.out.cell 3
                  have qR4 := R.out.cell 4
                  have qR5 := R.out.cell 5
                  simp at qR0 qR1 qR2 qR3 qR4 qR5
                  have qRl := R.out.lt
                  have qRf := R.out.frozen
                  have nQR : q ≠ w.heap.size := by have := Hgl.out; have := hgl1; have := S1.out; have := S2.out; have := S3.out; have := Qq.out; have := Qw.out; have := S4.out; have := S5.out; have := S6.out; have := S7.out; have := S13.out; omega
                  have nRQ : w.heap.size ≠ q := fun e => nQR e.symm
                  go_wp2
                  clear qQ0 qQ1 qQ2 qQ3 qQ4 qQ5 qQl qR0 qR1 qR2 qR3 qR4 qR5 qRl qRf nQR nRQ
                  have HR9 := (show Blk (World.setCell (World.setCell (World.setCell (World.setCell (World.setCell (World.setCell wz ⟨w.heap.size, 0, none⟩ (.int .i64 a)) ⟨w.heap.size, 1, none⟩ (.int .i64 b)) ⟨w.heap.size, 2, none⟩ (.int .i64 m)) ⟨w.heap.size, 3, none⟩ (.int .i64 e)) ⟨w.heap.size, 4, none⟩ (.int .i64 y)) ⟨w.heap.size, 5, none⟩ (.slice (some ⟨gl, 0, none⟩) hn c9)) (w.heap.size) 51 #[.int .i64 a, .int .i64 b, .int .i64 m, .int .i64 e, .int .i64 y, .slice (some ⟨gl, 0, none⟩) hn c9] by have h9 := ((((((R.out.set 0 (.int .i64 a)).set 1 (.int .i64 b)).set 2 (.int .i64 m)).set 3 (.int .i64 e)).set 4 (.int .i64 y)).set 5 (.slice (some ⟨gl, 0, none⟩) hn c9)); simpa using h9)
                  have k0 := HR9.cell 0
                  have k1 := HR9.cell 1
                  have k2 := HR9.cell 2
                  have k3 := HR9.cell 3
                  have k4 := HR9.cell 4
                  have k5 := HR9.cell 5
                  simp at k0 k1 k2 k3 k4 k5
                  exact bodyPost_ret (v := .agg #[.int .i64 a, .int .i64 b, .int .i64 m, .int .i64 e, .int .i64 y, .slice (some ⟨gl, 0, none⟩) hn c9]) (by simp [results, Tryz.results77, go_sem, k0, k1, k2, k3, k4, k5]) rfl ⟨⟨_, _, _, _, _, _, hn, by omega, rfl, (((((((HV.out.st (p := ⟨w.heap.size, 0, none⟩) (by intro k9 hk9; have := GHV.out k9 hk9; show k9 ≠ w.heap.size; have := Hgl.out; have := hgl1; have := S1.out; have := S2.out; have := S3.out; have := Qq.out; have := Qw.out; have := S4.out; have := S5.out; have := S6.out; have := S7.out; have := S13.out; omega) (.int .i64 a)).st (p := ⟨w.heap.size, 1, none⟩) (by intro k9 hk9; have := GHV.out k9 hk9; show k9 ≠ w.heap.size; have := Hgl.out; have := hgl1; have := S1.out; have := S2.out; have := S3.out; have := Qq.out; have := Qw.out; have := S4.out; have := S5.out; have := S6.out; have := S7.out; have := S13.out; omega) (.int .i64 b)).st (p := ⟨w.heap.size, 2, none⟩) (by intro k9 hk9; have := GHV.out k9 hk9; show k9 ≠ w.heap.size; have := Hgl.out; have := hgl1; have := S1.out; have := S2.out; have := S3.out; have := Qq.out; have := Qw.out; have := S4.out; have := S5.out; have := S6.out; have := S7.out; have := S13.out; omega) (.int .i64 m)).st (p := ⟨w.heap.size, 3, none⟩) (by intro k9 hk9; have := GHV.out k9 hk9; show k9 ≠ w.heap.size; have := Hgl.out; have := hgl1; have := S1.out; have := S2.out; have := S3.out; have := Qq.out; have := Qw.out; have := S4.out; have := S5.out; have := S6.out; have := S7.out; have := S13.out; omega) (.int .i64 e)).st (p := ⟨w.heap.size, 4, none⟩) (by intro k9 hk9; have := GHV.out k9 hk9; show k9 ≠ w.heap.size; have := Hgl.out; have := hgl1; have := S1.out; have := S2.out; have := S3.out; have := Qq.out; have := Qw.out; have := S4.out; have := S5.out; have := S6.out; have := S7.out; have := S13.out; omega) (.int .i64 y)).st (p := ⟨w.heap.size, 5, none⟩) (by intro k9 hk9; have := GHV.out k9 hk9; show k9 ≠ w.heap.size; have := Hgl.out; have := hgl1; have := S1.out; have := S2.out; have := S3.out; have := Qq.out; have := Qw.out; have := S4.out; have := S5.out; have := S6.out; have := S7.out; have := S13.out; omega) (.slice (some ⟨gl, 0, none⟩) hn c9))).mono (by have := S1.out; have := S2.out; have := S3.out; have := Qq.out; have := Qw.out; have := S4.out; have := S5.out; have := S6.out; have := S7.out; have := S13.out; omega)⟩, ((((((Hc13.out.st (p := ⟨w.heap.size, 0, none⟩) (show g < w.heap.size by have := Hgl.out; have := hgl1; have := S1.out; have := S2.out; have := S3.out; have := Qq.out; have := Qw.out; have := S4.out; have := S5.out; have := S6.out; have := S7.out; have := S13.out; omega) (.int .i64 a)).st (p := ⟨w.heap.size, 1, none⟩) (show g < w.heap.size by have := Hgl.out; have := hgl1; have := S1.out; have := S2.out; have := S3.out; have := Qq.out; have := Qw.out; have := S4.out; have := S5.out; have := S6.out; have := S7.out; have := S13.out; omega) (.int .i64 b)).st (p := ⟨w.heap.size, 2, none⟩) (show g < w.heap.size by have := Hgl.out; have := hgl1; have := S1.out; have := S2.out; have := S3.out; have := Qq.out; have := Qw.out; have := S4.out; have := S5.out; have := S6.out; have := S7.out; have := S13.out; omega) (.int .i64 m)).st (p := ⟨w.heap.size, 3, none⟩) (show g < w.heap.size by have := Hgl.out; have := hgl1; have := S1.out; have := S2.out; have := S3.out; have := Qq.out; have := Qw.out; have := S4.out; have := S5.out; have := S6.out; have := S7.out; have := S13.out; omega) (.int .i64 e)).st (p := ⟨w.heap.size, 4, none⟩) (show g < w.heap.size by have := Hgl.out; have := hgl1; have := S1.out; have := S2.out; have := S3.out; have := Qq.out; have := Qw.out; have := S4.out; have := S5.out; have := S6.out; have := S7.out; have := S13.out; omega) (.int .i64 y)).st (p := ⟨w.heap.size, 5, none⟩) (show g < w.heap.size by have := Hgl.out; have := hgl1; have := S1.out; have := S2.out; have := S3.out; have := Qq.out; have := Qw.out; have := S4.out; have := S5.out; have := S6.out; have := S7.out; have := S13.out; omega) (.slice (some ⟨gl, 0, none⟩) hn c9)).mono (by omega), ((((((Hd13.out.st (p := ⟨w.heap.size, 0, none⟩) (show w.heap.size ≤ w.heap.size by have := Hgl.out; have := hgl1; have := S1.out; have := S2.out; have := S3.out; have := Qq.out; have := Qw.out; have := S4.out; have := S5.out; have := S6.out; have := S7.out; have := S13.out; omega) (.int .i64 a)).st (p := ⟨w.heap.size, 1, none⟩) (show w.heap.size ≤ w.heap.size by have := Hgl.out; have := hgl1; have := S1.out; have := S2.out; have := S3.out; have := Qq.out; have := Qw.out; have := S4.out; have := S5.out; have := S6.out; have := S7.out; have := S13.out; omega) (.int .i64 b)).st (p := ⟨w.heap.size, 2, none⟩) (show w.heap.size ≤ w.heap.size by have := Hgl.out; have := hgl1; have := S1.out; have := S2.out; have := S3.out; have := Qq.out; have := Qw.out; have := S4.out; have := S5.out; have := S6.out; have := S7.out; have := S13.out; omega) (.int .i64 m)).st (p := ⟨w.heap.size, 3, none⟩) (show w.heap.size ≤ w.heap.size by have := Hgl.out; have := hgl1; have := S1.out; have := S2.out; have := S3.out; have := Qq.out; have := Qw.out; have := S4.out; have := S5.out; have := S6.out; have := S7.out; have := S13.out; omega) (.int .i64 e)).st (p := ⟨w.heap.size, 4, none⟩) (show w.heap.size ≤ w.heap.size by have := Hgl.out; have := hgl1; have := S1.out; have := S2.out; have := S3.out; have := Qq.out; have := Qw.out; have := S4.out; have := S5.out; have := S6.out; have := S7.out; have := S13.out; omega) (.int .i64 y)).st (p := ⟨w.heap.size, 5, none⟩) (show w.heap.size ≤ w.heap.size by have := Hgl.out; have := hgl1; have := S1.out; have := S2.out; have := S3.out; have := Qq.out; have := Qw.out; have := S4.out; have := S5.out; have := S6.out; have := S7.out; have := S13.out; omega) (.slice (some ⟨gl, 0, none⟩) hn c9))⟩
                · have h0i : ¬ (0 : Int) < (hn : Int) := by omega
                  have qQ0 := Q.out.cell 0
                  have qQ1 := Q.out.cell 1
                  have qQ2 := Q.out.cell 2
                  have qQ3 := Q.out.cell 3
                  have qQ4 := Q.out.cell 4
                  have qQ5 := Q.out.cell 5
                  simp at qQ0 qQ1 qQ2 qQ3 qQ4 qQ5
                  have qQl := Q.out.lt
                  have qR0 := R.out.cell 0
                  have qR1 := R.out.cell 1
                  have qR2 := R.out.cell 2
                  have qR3 := R.out.cell 3
                  have qR4 := R.out.cell 4
                  have qR5 := R.out.cell 5
                  simp at qR0 qR1 qR2 qR3 qR4 qR5
                  have qRl := R.out.lt
                  have qRf := R.out.frozen
                  have nQR : q ≠ w.heap.size := by have := Hgl.out; have := S1.out; have := S2.out; have := S3.out; have := Qq.out; have := Qw.out; have := S4.out; have := S5.out; have := S6.out; have := S7.out; omega
                  have nRQ : w.heap.size ≠ q := fun e => nQR e.symm
                  go_wp2
                  clear qQ0 qQ1 qQ2 qQ3 qQ4 qQ5 qQl qR0 qR1 qR2 qR3 qR4 qR5 qRl qRf nQR nRQ
                  have HR9 := (show Blk (World.setCell (World.setCell (World.setCell (World.setCell (World.setCell (World.setCell w7 ⟨w.heap.size, 0, none⟩ (.int .i64 a)) ⟨w.heap.size, 1, none⟩ (.int .i64 b)) ⟨w.heap.size, 2, none⟩ (.int .i64 m)) ⟨w.heap.size, 3, none⟩ (.int .i64 e)) ⟨w.heap.size, 4, none⟩ (.int .i64 y)) ⟨w.heap.size, 5, none⟩ (.slice A9 hn c9)) (w.heap.size) 51 #[.int .i64 a, .int .i64 b, .int .i64 m, .int .i64 e, .int .i64 y, .slice A9 hn c9] by have h9 := ((((((R.out.set 0 (.int .i64 a)).set 1 (.int .i64 b)).set 2 (.int .i64 m)).set 3 (.int .i64 e)).set 4 (.int .i64 y)).set 5 (.slice A9 hn c9)); simpa using h9)
                  have k0 := HR9.cell 0
                  have k1 := HR9.cell 1
                  have k2 := HR9.cell 2
                  have k3 := HR9.cell 3
                  have k4 := HR9.cell 4
                  have k5 := HR9.cell 5
                  simp at k0 k1 k2 k3 k4 k5
                  exact bodyPost_ret (v := .agg #[.int .i64 a, .int .i64 b, .int .i64 m, .int .i64 e, .int .i64 y, .slice A9 hn c9]) (by simp [results, Tryz.results77, go_sem, k0, k1, k2, k3, k4, k5]) rfl ⟨⟨_, _, _, _, _, _, hn, by omega, rfl, (((((((HV.out.st (p := ⟨w.heap.size, 0, none⟩) (by intro k9 hk9; have := GHV.out k9 hk9; show k9 ≠ w.heap.size; have := Hgl.out; have := S1.out; have := S2.out; have := S3.out; have := Qq.out; have := Qw.out; have := S4.out; have := S5.out; have := S6.out; have := S7.out; omega) (.int .i64 a)).st (p := ⟨w.heap.size, 1, none⟩) (by intro k9 hk9; have := GHV.out k9 hk9; show k9 ≠ w.heap.size; have := Hgl.out; have := S1.out; have := S2.out; have := S3.out; have := Qq.out; have := Qw.out; have := S4.out; have := S5.out; have := S6.out; have := S7.out; omega) (.int .i64 b)).st (p := ⟨w.heap.size, 2, none⟩) (by intro k9 hk9; have := GHV.out k9 hk9; show k9 ≠ w.heap.size; have := Hgl.out; have := S1.out; have := S2.out; have := S3.out; have := Qq.out; have := Qw.out; have := S4.out; have := S5.out; have := S6.out; have := S7.out; omega) (.int .i64 m)).st (p := ⟨w.heap.size, 3, none⟩) (by intro k9 hk9; have := GHV.out k9 hk9; show k9 ≠ w.heap.size; have := Hgl.out; have := S1.out; have := S2.out; have := S3.out; have := Qq.out; have := Qw.out; have := S4.out; have := S5.out; have := S6.out; have := S7.out; omega) (.int .i64 e)).st (p := ⟨w.heap.size, 4, none⟩) (by intro k9 hk9; have := GHV.out k9 hk9; show k9 ≠ w.heap.size; have := Hgl.out; have := S1.out; have := S2.out; have := S3.out; have := Qq.out; have := Qw.out; have := S4.out; have := S5.out; have := S6.out; have := S7.out; omega) (.int .i64 y)).st (p := ⟨w.heap.size, 5, none⟩) (by intro k9 hk9; have := GHV.out k9 hk9; show k9 ≠ w.heap.size; have := Hgl.out; have := S1.out; have := S2.out; have := S3.out; have := Qq.out; have := Qw.out; have := S4.out; have := S5.out; have := S6.out; have := S7.out; omega) (.slice A9 hn c9))).mono (by have := S1.out; have := S2.out; have := S3.out; have := Qq.out; have := Qw.out; have := S4.out; have := S5.out; have := S6.out; have := S7.out; omega)⟩, ((((((Hc7.out.st (p := ⟨w.heap.size, 0, none⟩) (show g < w.heap.size by have := Hgl.out; have := S1.out; have := S2.out; have := S3.out; have := Qq.out; have := Qw.out; have := S4.out; have := S5.out; have := S6.out; have := S7.out; omega) (.int .i64 a)).st (p := ⟨w.heap.size, 1, none⟩) (show g < w.heap.size by have := Hgl.out; have := S1.out; have := S2.out; have := S3.out; have := Qq.out; have := Qw.out; have := S4.out; have := S5.out; have := S6.out; have := S7.out; omega) (.int .i64 b)).st (p := ⟨w.heap.size, 2, none⟩) (show g < w.heap.size by have := Hgl.out; have := S1.out; have := S2.out; have := S3.out; have := Qq.out; have := Qw.out; have := S4.out; have := S5.out; have := S6.out; have := S7.out; omega) (.int .i64 m)).st (p := ⟨w.heap.size, 3, none⟩) (show g < w.heap.size by have := Hgl.out; have := S1.out; have := S2.out; have := S3.out; have := Qq.out; have := Qw.out; have := S4.out; have := S5.out; have := S6.out; have := S7.out; omega) (.int .i64 e)).st (p := ⟨w.heap.size, 4, none⟩) (show g < w.heap.size by have := Hgl.out; have := S1.out; have := S2.out; have := S3.out; have := Qq.out; have := Qw.out; have := S4.out; have := S5.out; have := S6.out; have := S7.out; omega) (.int .i64 y)).st (p := ⟨w.heap.size, 5, none⟩) (show g < w.heap.size by have := Hgl.out; have := S1.out; have := S2.out; have := S3.out; have := Qq.out; have := Qw.out; have := S4.out; have := S5.out; have := S6.out; have := S7.out; omega) (.slice A9 hn c9)).mono (by omega), ((((((Hd7.out.st (p := ⟨w.heap.size, 0, none⟩) (show w.heap.size ≤ w.heap.size by have := Hgl.out; have := S1.out; have := S2.out; have := S3.out; have := Qq.out; have := Qw.out; have := S4.out; have := S5.out; have := S6.out; have := S7.out; omega) (.int .i64 a)).st (p := ⟨w.heap.size, 1, none⟩) (show w.heap.size ≤ w.heap.size by have := Hgl.out; have := S1.out; have := S2.out; have := S3.out; have := Qq.out; have := Qw.out; have := S4.out; have := S5.out; have := S6.out; have := S7.out; omega) (.int .i64 b)).st (p := ⟨w.heap.size, 2, none⟩) (show w.heap.size ≤ w.heap.size by have := Hgl.out; have := S1.out; have := S2.out; have := S3.out; have := Qq.out; have := Qw.out; have := S4.out; have := S5.out; have := S6.out; have := S7.out; omega) (.int .i64 m)).st (p := ⟨w.heap.size, 3, none⟩) (show w.heap.size ≤ w.heap.size by have := Hgl.out; have := S1.out; have := S2.out; have := S3.out; have := Qq.out; have := Qw.out; have := S4.out; have := S5.out; have := S6.out; have := S7.out; omega) (.int .i64 e)).st (p := ⟨w.heap.size, 4, none⟩) (show w.heap.size ≤ w.heap.size by have := Hgl.out; have := S1.out; have := S2.out; have := S3.out; have := Qq.out; have := Qw.out; have := S4.out; have := S5.out; have := S6.out; have := S7.out; omega) (.int .i64 y)).st (p := ⟨w.heap.size, 5, none⟩) (show w.heap.size ≤ w.heap.size by have := Hgl.out; have := S1.out; have := S2.out; have := S3.out; have := Qq.out; have := Qw.out; have := S4.out; have := S5.out; have := S6.out; have := S7.out; omega) (.slice A9 hn c9))⟩
              · have zp40 : (p4 == 0) = false := beq_eq_false_iff_ne.2 ep40
                have zp41 : (p4 == 1) = false := beq_eq_false_iff_ne.2 ep41
                have zp42 : (p4 == 2) = false := beq_eq_false_iff_ne.2 ep42
                have zp43 : (p4 == 3) = false := beq_eq_false_iff_ne.2 ep43
                have zp44 : (p4 == 4) = false := beq_eq_false_iff_ne.2 ep44
                clear ep40 ep41 ep42 ep43 ep44
                have qQ0 := Q.out.cell 0
                have qQ1 := Q.out.cell 1
                have qQ2 := Q.out.cell 2
                have qQ3 := Q.out.cell 3
                have qQ4 := Q.out.cell 4
                have qQ5 := Q.out.cell 5
                simp at qQ0 qQ1 qQ2 qQ3 qQ4 qQ5
                have qQl := Q.out.lt
                have qR0 := R.out.cell 0
                have qR1 := R.out.cell 1
                have qR2 := R.out.cell 2
                have qR3 := R.out.cell 3
                have qR4 := R.out.cell 4
                have qR5 := R.out.cell 5
                simp at qR0 qR1 qR2 qR3 qR4 qR5
                have qRl := R.out.lt
                have qRf := R.out.frozen
                have nQR : q ≠ w.heap.size := by have := Hgl.out; have := S1.out; have := S2.out; have := S3.out; have := Qq.out; have := Qw.out; have := S4.out; have := S5.out; have := S6.out; have := S7.out; omega
                have nRQ : w.heap.size ≠ q := fun e => nQR e.symm
                go_wp2
                clear qQ0 qQ1 qQ2 qQ3 qQ4 qQ5 qQl qR0 qR1 qR2 qR3 qR4 qR5 qRl qRf nQR nRQ
                have HR9 := (show Blk (World.setCell (World.setCell (World.setCell (World.setCell (World.setCell (World.setCell w7 ⟨w.heap.size, 0, none⟩ (.int .i64 a)) ⟨w.heap.size, 1, none⟩ (.int .i64 b)) ⟨w.heap.size, 2, none⟩ (.int .i64 m)) ⟨w.heap.size, 3, none⟩ (.int .i64 e)) ⟨w.heap.size, 4, none⟩ (.int .i64 y)) ⟨w.heap.size, 5, none⟩ (.slice A9 hn c9)) (w.heap.size) 51 #[.int .i64 a, .int .i64 b, .int .i64 m, .int .i64 e, .int .i64 y, .slice A9 hn c9] by have h9 := ((((((R.out.set 0 (.int .i64 a)).set 1 (.int .i64 b)).set 2 (.int .i64 m)).set 3 (.int .i64 e)).set 4 (.int .i64 y)).set 5 (.slice A9 hn c9)); simpa using h9)
                have k0 := HR9.cell 0
                have k1 := HR9.cell 1
                have k2 := HR9.cell 2
                have k3 := HR9.cell 3
                have k4 := HR9.cell 4
                have k5 := HR9.cell 5
                simp at k0 k1 k2 k3 k4 k5
                exact bodyPost_ret (v := .agg #[.int .i64 a, .int .i64 b, .int .i64 m, .int .i64 e, .int .i64 y, .slice A9 hn c9]) (by simp [results, Tryz.results77, go_sem, k0, k1, k2, k3, k4, k5]) rfl ⟨⟨_, _, _, _, _, _, hn, by omega, rfl, (((((((HV.out.st (p := ⟨w.heap.size, 0, none⟩) (by intro k9 hk9; have := GHV.out k9 hk9; show k9 ≠ w.heap.size; have := Hgl.out; have := S1.out; have := S2.out; have := S3.out; have := Qq.out; have := Qw.out; have := S4.out; have := S5.out; have := S6.out; have := S7.out; omega) (.int .i64 a)).st (p := ⟨w.heap.size, 1, none⟩) (by intro k9 hk9; have := GHV.out k9 hk9; show k9 ≠ w.heap.size; have := Hgl.out; have := S1.out; have := S2.out; have := S3.out; have := Qq.out; have := Qw.out; have := S4.out; have := S5.out; have := S6.out; have := S7.out; omega) (.int .i64 b)).st (p := ⟨w.heap.size, 2, none⟩) (by intro k9 hk9; have := GHV.out k9 hk9; show k9 ≠ w.heap.size; have := Hgl.out; have := S1.out; have := S2.out; have := S3.out; have := Qq.out; have := Qw.out; have := S4.out; have := S5.out; have := S6.out; have := S7.out; omega) (.int .i64 m)).st (p := ⟨w.heap.size, 3, none⟩) (by intro k9 hk9; have := GHV.out k9 hk9; show k9 ≠ w.heap.size; have := Hgl.out; have := S1.out; have := S2.out; have := S3.out; have := Qq.out; have := Qw.out; have := S4.out; have := S5.out; have := S6.out; have := S7.out; omega) (.int .i64 e)).st (p := ⟨w.heap.size, 4, none⟩) (by intro k9 hk9; have := GHV.out k9 hk9; show k9 ≠ w.heap.size; have := Hgl.out; have := S1.out; have := S2.out; have := S3.out; have := Qq.out; have := Qw.out; have := S4.out; have := S5.out; have := S6.out; have := S7.out; omega) (.int .i64 y)).st (p := ⟨w.heap.size, 5, none⟩) (by intro k9 hk9; have := GHV.out k9 hk9; show k9 ≠ w.heap.size; have := Hgl.out; have := S1.out; have := S2.out; have := S3.out; have := Qq.out; have := Qw.out; have := S4.out; have := S5.out; have := S6.out; have := S7.out; omega) (.slice A9 hn c9))).mono (by have := S1.out; have := S2.out; have := S3.out; have := Qq.out; have := Qw.out; have := S4.out; have := S5.out; have := S6.out; have := S7.out; omega)⟩, ((((((Hc7.out.st (p := ⟨w.heap.size, 0, none⟩) (show g < w.heap.size by have := Hgl.out; have := S1.out; have := S2.out; have := S3.out; have := Qq.out; have := Qw.out; have := S4.out; have := S5.out; have := S6.out; have := S7.out; omega) (.int .i64 a)).st (p := ⟨w.heap.size, 1, none⟩) (show g < w.heap.size by have := Hgl.out; have := S1.out; have := S2.out; have := S3.out; have := Qq.out; have := Qw.out; have := S4.out; have := S5.out; have := S6.out; have := S7.out; omega) (.int .i64 b)).st (p := ⟨w.heap.size, 2, none⟩) (show g < w.heap.size by have := Hgl.out; have := S1.out; have := S2.out; have := S3.out; have := Qq.out; have := Qw.out; have := S4.out; have := S5.out; have := S6.out; have := S7.out; omega) (.int .i64 m)).st (p := ⟨w.heap.size, 3, none⟩) (show g < w.heap.size by have := Hgl.out; have := S1.out; have := S2.out; have := S3.out; have := Qq.out; have := Qw.out; have := S4.out; have := S5.out; have := S6.out; have := S7.out; omega) (.int .i64 e)).st (p := ⟨w.heap.size, 4, none⟩) (show g < w.heap.size by have := Hgl.out; have := S1.out; have := S2.out; have := S3.out; have := Qq.out; have := Qw.out; have := S4.out; have := S5.out; have := S6.out; have := S7.out; omega) (.int .i64 y)).st (p := ⟨w.heap.size, 5, none⟩) (show g < w.heap.size by have := Hgl.out; have := S1.out; have := S2.out; have := S3.out; have := Qq.out; have := Qw.out; have := S4.out; have := S5.out; have := S6.out; have := S7.out; omega) (.slice A9 hn c9)).mono (by omega), ((((((Hd7.out.st (p := ⟨w.heap.size, 0, none⟩) (show w.heap.size ≤ w.heap.size by have := Hgl.out; have := S1.out; have := S2.out; have := S3.out; have := Qq.out; have := Qw.out; have := S4.out; have := S5.out; have := S6.out; have := S7.out; omega) (.int .i64 a)).st (p := ⟨w.heap.size, 1, none⟩) (show w.heap.size ≤ w.heap.size by have := Hgl.out; have := S1.out; have := S2.out; have := S3.out; have := Qq.out; have := Qw.out; have := S4.out; have := S5.out; have := S6.out; have := S7.out; omega) (.int .i64 b)).st (p := ⟨w.heap.size, 2, none⟩) (show w.heap.size ≤ w.heap.size by have := Hgl.out; have := S1.out; have := S2.out; have := S3.out; have := Qq.out; have := Qw.out; have := S4.out; have := S5.out; have := S6.out; have := S7.out; omega) (.int .i64 m)).st (p := ⟨w.heap.size, 3, none⟩) (show w.heap.size ≤ w.heap.size by have := Hgl.out; have := S1.out; have := S2.out; have := S3.out; have := Qq.out; have := Qw.out; have := S4.out; have := S5.out; have := S6.out; have := S7.out; omega) (.int .i64 e)).st (p := ⟨w.heap.size, 4, none⟩) (show w.heap.size ≤ w.heap.size by have := Hgl.out; have := S1.out; have := S2.out; have := S3.out; have := Qq.out; have := Qw.out; have := S4.out; have := S5.out; have := S6.out; have := S7.out; omega) (.int .i64 y)).st (p := ⟨w.heap.size, 5, none⟩) (show w.heap.size ≤ w.heap.size by have := Hgl.out; have := S1.out; have := S2.out; have := S3.out; have := Qq.out; have := Qw.out; have := S4.out; have := S5.out; have := S6.out; have := S7.out; omega) (.slice A9 hn c9))⟩
  · have qQ0 := Q.out.cell 0
    have qQ1 := Q.out.cell 1
    have qQ2 := Q.out.cell 2
    have qQ3 := Q.out.cell 3
    have qQ4 := Q.out.cell 4
    have qQ5 := Q.out.cell 5
    simp at qQ0 qQ1 qQ2 qQ3 qQ4 qQ5
    have qQl := Q.out.lt
    have qQf := Q.out.frozen
    go_wp2_with fail
    refine (skBounds_any a b 200 10 0 (.slice none 0 0) _).mono ?_; rintro e w14 ⟨rfl, hd14⟩
    clear qQ0 qQ1 qQ2 qQ3 qQ4 qQ5 qQl qQf
    have S14 := Lib.hid (show w4.heap.size + 0 ≤ w14.heap.size by have h9 := hd14.size; (try simp only [World.size_alloc, World.size_setCell] at h9); omega)
    have NR := Lib.hid (((R.out.far (p := ⟨q, 2, none⟩) (show w.heap.size ≠ q by have := Hgl.out; have := S1.out; have := S2.out; have := S3.out; have := Qq.out; have := Qw.out; have := S4.out; have := S14.out; omega) (.int .i64 200)).far (p := ⟨q, 3, none⟩) (show w.heap.size ≠ q by have := Hgl.out; have := S1.out; have := S2.out; have := S3.out; have := Qq.out; have := Qw.out; have := S4.out; have := S14.out; omega) (.int .i64 10)).dg (Dg.of_below (g := g) hd14) (show w.heap.size ≠ g by have := Hgl.out; have := S1.out; have := S2.out; have := S3.out; have := Qq.out; have := Qw.out; have := S4.out; have := S14.out; omega))
    have NQ := Lib.hid ((show Blk (World.setCell (World.setCell w4 ⟨q, 2, none⟩ (.int .i64 200)) ⟨q, 3, none⟩ (.int .i64 10)) (q) 51 #[.int .i64 a, .int .i64 b, .int .i64 200, .int .i64 10, .int .i64 0, .slice none 0 0] by have h9 := ((Q.out.set 2 (.int .i64 200)).set 3 (.int .i64 10)); simpa using h9).dg (Dg.of_below (g := g) hd14) (show q ≠ g by have := Hgl.out; have := S1.out; have := S2.out; have := S3.out; have := Qq.out; have := Qw.out; have := S4.out; have := S14.out; omega))
    have R := NR; clear NR
    have Q := NQ; clear NQ
    have Hc14 := Lib.hid (((Hc4.out.st (p := ⟨q, 2, none⟩) (show g < q by have := Hgl.out; have := S1.out; have := S2.out; have := S3.out; have := Qq.out; have := Qw.out; have := S4.out; have := S14.out; omega) (.int .i64 200)).st (p := ⟨q, 3, none⟩) (show g < q by have := Hgl.out; have := S1.out; have := S2.out; have := S3.out; have := Qq.out; have := Qw.out; have := S4.out; have := S14.out; omega) (.int .i64 10)).on hd14)
    have Hd14 := Lib.hid (((Hd4.out.st (p := ⟨q, 2, none⟩) (show w.heap.size ≤ q by have := Hgl.out; have := S1.out; have := S2.out; have := S3.out; have := Qq.out; have := Qw.out; have := S4.out; have := S14.out; omega) (.int .i64 200)).st (p := ⟨q, 3, none⟩) (show w.heap.size ≤ q by have := Hgl.out; have := S1.out; have := S2.out; have := S3.out; have := Qq.out; have := Qw.out; have := S4.out; have := S14.out; omega) (.int .i64 10)).trans (Dg.of_below (g := g) hd14))
    clear hd14
    cases hk9 : tkB a b 200 10
    · clear hk9
      have qQ0 := Q.out.cell 0
      have qQ1 := Q.out.cell 1
      have qQ2 := Q.out.cell 2
      have qQ3 := Q.out.cell 3
      have qQ4 := Q.out.cell 4
      have qQ5 := Q.out.cell 5
      simp at qQ0 qQ1 qQ2 qQ3 qQ4 qQ5
      have qQl := Q.out.lt
      have qR0 := R.out.cell 0
      have qR1 := R.out.cell 1
      have qR2 := R.out.cell 2
      have qR3 := R.out.cell 3
      have qR4 := R.out.cell 4
      have qR5 := R.out.cell 5
      simp at qR0 qR1 qR2 qR3 qR4 qR5
      have qRl := R.out.lt
      have qRf := R.out.frozen
      have nQR : q ≠ w.heap.size := by have := Hgl.out; have := S1.out; have := S2.out; have := S3.out; have := Qq.out; have := Qw.out; have := S4.out; have := S14.out; omega
      have nRQ : w.heap.size ≠ q := fun e => nQR e.symm
      go_wp2
      clear qQ0 qQ1 qQ2 qQ3 qQ4 qQ5 qQl qR0 qR1 qR2 qR3 qR4 qR5 qRl qRf nQR nRQ
      have HR9 := (show Blk (World.setCell (World.setCell (World.setCell (World.setCell (World.setCell (World.setCell w14 ⟨w.heap.size, 0, none⟩ (.int .i64 a)) ⟨w.heap.size, 1, none⟩ (.int .i64 b)) ⟨w.heap.size, 2, none⟩ (.int .i64 200)) ⟨w.heap.size, 3, none⟩ (.int .i64 10)) ⟨w.heap.size, 4, none⟩ (.int .i64 0)) ⟨w.heap.size, 5, none⟩ (.slice none 0 0)) (w.heap.size) 51 #[.int .i64 a, .int .i64 b, .int .i64 200, .int .i64 10, .int .i64 0, .slice none 0 0] by have h9 := ((((((R.out.set 0 (.int .i64 a)).set 1 (.int .i64 b)).set 2 (.int .i64 200)).set 3 (.int .i64 10)).set 4 (.int .i64 0)).set 5 (.slice none 0 0)); simpa using h9)
      have k0 := HR9.cell 0
      have k1 := HR9.cell 1
      have k2 := HR9.cell 2
      have k3 := HR9.cell 3
      have k4 := HR9.cell 4
      have k5 := HR9.cell 5
      simp at k0 k1 k2 k3 k4 k5
      exact bodyPost_ret (v := .agg #[.int .i64 a, .int .i64 b, .int .i64 200, .int .i64 10, .int .i64 0, .slice none 0 0]) (by simp [results, Tryz.results77, go_sem, k0, k1, k2, k3, k4, k5]) rfl ⟨⟨a, b, 200, 10, 0, .slice none 0 0, 0, by omega, rfl, IR.nil _ _ _ _⟩, ((((((Hc14.out.st (p := ⟨w.heap.size, 0, none⟩) (show g < w.heap.size by have := Hgl.out; have := S1.out; have := S2.out; have := S3.out; have := Qq.out; have := Qw.out; have := S4.out; have := S14.out; omega) (.int .i64 a)).st (p := ⟨w.heap.size, 1, none⟩) (show g < w.heap.size by have := Hgl.out; have := S1.out; have := S2.out; have := S3.out; have := Qq.out; have := Qw.out; have := S4.out; have := S14.out; omega) (.int .i64 b)).st (p := ⟨w.heap.size, 2, none⟩) (show g < w.heap.size by have := Hgl.out; have := S1.out; have := S2.out; have := S3.out; have := Qq.out; have := Qw.out; have := S4.out; have := S14.out; omega) (.int .i64 200)).st (p := ⟨w.heap.size, 3, none⟩) (show g < w.heap.size by have := Hgl.out; have := S1.out; have := S2.out; have := S3.out; have := Qq.out; have := Qw.out; have := S4.out; have := S14.out; omega) (.int .i64 10)).st (p := ⟨w.heap.size, 4, none⟩) (show g < w.heap.size by have := Hgl.out; have := S1.out; have := S2.out; have := S3.out; have := Qq.out; have := Qw.out; have := S4.out; have := S14.out; omega) (.int .i64 0)).st (p := ⟨w.heap.size, 5, none⟩) (show g < w.heap.size by have := Hgl.out; have := S1.out; have := S2.out; have := S3.out; have := Qq.out; have := Qw.out; have := S4.out; have := S14.out; omega) (.slice none 0 0)).mono (by omega), ((((((Hd14.out.st (p := ⟨w.heap.size, 0, none⟩) (show w.heap.size ≤ w.heap.size by have := Hgl.out; have := S1.out; have := S2.out; have := S3.out; have := Qq.out; have := Qw.out; have := S4.out; have := S14.out; omega) (.int .i64 a)).st (p := ⟨w.heap.size, 1, none⟩) (show w.heap.size ≤ w.heap.size by have := Hgl.out; have := S1.out; have := S2.out; have := S3.out; have := Qq.out; have := Qw.out; have := S4.out; have := S14.out; omega) (.int .i64 b)).st (p := ⟨w.heap.size, 2, none⟩) (show w.heap.size ≤ w.heap.size by have := Hgl.out; have := S1.out; have := S2.out; have := S3.out; have := Qq.out; have := Qw.out; have := S4.out; have := S14.out; omega) (.int .i64 200)).st (p := ⟨w.heap.size, 3, none⟩) (show w.heap.size ≤ w.heap.size by have := Hgl.out; have := S1.out; have := S2.out; have := S3.out; have := Qq.out; have := Qw.out; have := S4.out; have := S14.out; omega) (.int .i64 10)).st (p := ⟨w.heap.size, 4, none⟩) (show w.heap.size ≤ w.heap.size by have := Hgl.out; have := S1.out; have := S2.out; have := S3.out; have := Qq.out; have := Qw.out; have := S4.out; have := S14.out; omega) (.int .i64 0)).st (p := ⟨w.heap.size, 5, none⟩) (show w.heap.size ≤ w.heap.size by have := Hgl.out; have := S1.out; have := S2.out; have := S3.out; have := Qq.out; have := Qw.out; have := S4.out; have := S14.out; omega) (.slice none 0 0))⟩
    · have Htk := Lib.hid (tkB_tk hk9); clear hk9
      obtain ⟨tt, htt⟩ : ∃ tt, totI 200 10 = tt := ⟨_, rfl⟩
      have htb := totI_bd Htk.out.m Htk.out.d
      rw [htt] at htb
      obtain ⟨ht0, ht1⟩ := htb
      have Hsk : Hid (∀ (t : Int) (v : Value) (w9 : World), Calls Tryz.prog 88 #[.agg #[.int .i64 a, .int .i64 b, .int .i64 200, .int .i64 10, .int .i64 t, v]] w9 fun r w8 => r = .returned (.int .i64 tt) ∧ Below w9.heap.size w9 w8) := Lib.hid (fun t v w9 => by rw [← htt]; exact skCount_any a b 200 10 t v w9 Htk.out)
      have Hat : Hid (∀ (t n : Int) (v : Value) (w9 : World), 0 ≤ n ∧ n ≤ tt → Calls Tryz.prog 96 #[.agg #[.int .i64 a, .int .i64 b, .int .i64 200, .int .i64 10, .int .i64 t, v], .int .i64 n] w9 fun r w8 => (∃ A c, r = .returned (.agg #[.int .i64 a, .int .i64 b, .int .i64 200, .int .i64 10, .int .i64 n, .slice A (hitsZ a b 200 0 n).length c]) ∧ IR w8 w9.heap.size 117 3 (.slice A (hitsZ a b 200 0 n).length c) (hitsZ a b 200 0 n).length) ∧ Below w9.heap.size w9 w8) := Lib.hid (fun t n v w9 hn => (skAt_any a b 200 10 t n v w9 Htk.out (by rw [htt]; exact hn)).mono (fun r w8 h => by obtain ⟨⟨v9, rfl, ho⟩, hb9⟩ := h; obtain ⟨A9, c9, rfl⟩ := own_formK ho; exact ⟨⟨A9, c9, rfl, IR.of_pt ho⟩, hb9⟩))
      have qQ0 := Q.out.cell 0
      have qQ1 := Q.out.cell 1
      have qQ2 := Q.out.cell 2
      have qQ3 := Q.out.cell 3
      have qQ4 := Q.out.cell 4
      have qQ5 := Q.out.cell 5
      simp at qQ0 qQ1 qQ2 qQ3 qQ4 qQ5
      have qQl := Q.out.lt
      have qQf := Q.out.frozen
      go_wp2_with fail
      clear qQ0 qQ1 qQ2 qQ3 qQ4 qQ5 qQl qQf
      have qQ0 := Q.out.cell 0
      have qQ1 := Q.out.cell 1
      have qQ2 := Q.out.cell 2
      have qQ3 := Q.out.cell 3
      have qQ4 := Q.out.cell 4
      have qQ5 := Q.out.cell 5
      simp at qQ0 qQ1 qQ2 qQ3 qQ4 qQ5
      have qQl := Q.out.lt
      have hqg : q ≠ g := by have := Hgl.out; have := S1.out; have := S2.out; have := S3.out; have := Qq.out; have := Qw.out; have := S4.out; have := S14.out; omega
      have Hqg := Lib.hid hqg; clear hqg
      have Hgw := Lib.hid (show g < w14.heap.size by have := Hgl.out; have := S1.out; have := S2.out; have := S3.out; have := Qq.out; have := Qw.out; have := S4.out; have := S14.out; omega)
      clear qQ0 qQ1 qQ2 qQ3 qQ4 qQ5 qQl
      refine wp_region_heldT (z := 12) (S := fun w' => Blk w' q 51 #[.int .i64 a, .int .i64 b, .int .i64 200, .int .i64 10, .int .i64 0, .slice none 0 0]) (by kernel_rfl) Q.out.drew (fun hH => ?_)
      refine wpAnyT_take (i := 0) (v := .agg #[.int .i64 a, .int .i64 b, .int .i64 200, .int .i64 10, .int .i64 0, .slice none 0 0]) rfl (by kernel_rfl) (by kernel_rfl) (by kernel_rfl) (by kernel_rfl) (fun _ _ _ h => h) (Or.inl ⟨by rfl, ?_⟩) hH ?_
      · intro w hw; have f0 := hw.cell 0; have f1 := hw.cell 1; have f2 := hw.cell 2; have f3 := hw.cell 3; have f4 := hw.cell 4; have f5 := hw.cell 5; simp at f0 f1 f2 f3 f4 f5; go_simp
      try simp only [Act.put, List.setIfInBounds_toArray, List.set_cons_zero, List.set_cons_succ]
      refine wpAnyT_take (i := 1) (v := .pointer (some ⟨g, 0, none⟩)) rfl (by kernel_rfl) (by kernel_rfl) (by kernel_rfl) (by kernel_rfl) (fun _ _ _ h => h) (Or.inl ⟨by rfl, ?_⟩) hH ?_
      · intro w _; go_simp
      try simp only [Act.put, List.setIfInBounds_toArray, List.set_cons_zero, List.set_cons_succ]
      refine wpAnyT_take (i := 2) (v := .pointer (some ⟨g, 0, none⟩)) rfl (by kernel_rfl) (by kernel_rfl) (by kernel_rfl) (by kernel_rfl) (fun _ _ _ h => h) (Or.inl ⟨by rfl, ?_⟩) hH ?_
      · intro w _; go_simp
      try simp only [Act.put, List.setIfInBounds_toArray, List.set_cons_zero, List.set_cons_succ]
      refine wpAnyT_take (i := 3) (v := .agg #[.int .i64 a, .int .i64 b, .int .i64 200, .int .i64 10, .int .i64 0, .slice none 0 0]) rfl (by kernel_rfl) (by kernel_rfl) (by kernel_rfl) (by kernel_rfl) (fun _ _ _ h => h) (Or.inl ⟨by rfl, ?_⟩) hH ?_
      · intro w hw; have f0 := hw.cell 0; have f1 := hw.cell 1; have f2 := hw.cell 2; have f3 := hw.cell 3; have f4 := hw.cell 4; have f5 := hw.cell 5; simp at f0 f1 f2 f3 f4 f5; go_simp
      try simp only [Act.put, List.setIfInBounds_toArray, List.set_cons_zero, List.set_cons_succ]
      refine wpAnyT_take (i := 7) (v := .agg #[.int .i64 a, .int .i64 b, .int .i64 200, .int .i64 10, .int .i64 0, .slice none 0 0]) rfl (by kernel_rfl) (by kernel_rfl) (by kernel_rfl) (by kernel_rfl) (fun _ _ _ h => h) (Or.inl ⟨by rfl, ?_⟩) hH ?_
      · intro w hw; have f0 := hw.cell 0; have f1 := hw.cell 1; have f2 := hw.cell 2; have f3 := hw.cell 3; have f4 := hw.cell 4; have f5 := hw.cell 5; simp at f0 f1 f2 f3 f4 f5; go_simp
      try simp only [Act.put, List.setIfInBounds_toArray, List.set_cons_zero, List.set_cons_succ]
      refine wpAnyT_one (i := 4) (by kernel_rfl) rfl (fun K hK => ?_)
      go_simp
      refine (Hsk.out _ _ _).mono ?_
      rintro e9 wk ⟨rfl, hbk⟩
      go_wp2_with fail
      have hH2 := hH.on hbk
      refine hK.out _ _ (fun _ => hH2) ?_
      clear hK K
      try simp only [Act.put, List.setIfInBounds_toArray, List.set_cons_zero, List.set_cons_succ]
      have hc2 := (Cur.drew Hc14.out).on hbk
      have hd2 := (Dg.drew (Dg.refl g w14)).on hbk
      clear hbk
      have hw1 : IntKind.i64.wrap (tt + 1) = tt + 1 := by rw [IntKind.wrap_i64]; omega
      refine wpAnyT_take (i := 5) (v := .int .i64 (tt + 1)) rfl (by kernel_rfl) (by kernel_rfl) (by kernel_rfl) (by kernel_rfl) (fun _ _ _ h => h) (Or.inl ⟨by rfl, ?_⟩) hH2 ?_
      · intro w _; go_simp
      try simp only [Act.put, List.setIfInBounds_toArray, List.set_cons_zero, List.set_cons_succ]
      clear hw1
      refine wpAnyT_one (i := 6) (by kernel_rfl) rfl (fun K hK => ?_)
      go_simp
      refine (pick_any g (k + 56) (tt + 1) _ hc2 (by have := Hk.out; omega)).mono ?_
      rintro e9 wp ⟨⟨x, hx0, hx1, rfl⟩, hc3, hd3⟩
      go_wp2_with fail
      have hH3 := hH2.dg hd3 Hqg.out
      refine hK.out _ _ (fun _ => hH3) ?_
      clear hK K
      try simp only [Act.put, List.setIfInBounds_toArray, List.set_cons_zero, List.set_cons_succ]
      replace hc3 := hc3.mono (j := (k + 56) + 2) (by omega)
      replace hd3 := hd2.trans hd3
      clear hc2 hd2
      refine wpAnyT_one (i := 8) (by kernel_rfl) rfl (fun K hK => ?_)
      go_simp
      refine (Hsk.out _ _ _).mono ?_
      rintro e9 wl ⟨rfl, hbl⟩
      go_wp2_with fail
      have hH4 := hH3.on hbl
      refine hK.out _ _ (fun _ => hH4) ?_
      clear hK K
      try simp only [Act.put, List.setIfInBounds_toArray, List.set_cons_zero, List.set_cons_succ]
      replace hc3 := hc3.on hbl
      replace hd3 := hd3.on hbl
      clear hbl
      refine wpAnyT_one (i := 9) (by kernel_rfl) rfl (fun K hK => ?_)
      go_simp
      have hH5 := hH4.alloc (Obj.cells #[.int .i64 0, .int .i64 x, .int .i64 tt] 3)
      refine hK.out _ _ (fun _ => hH5) ?_
      clear hK K
      try simp only [Act.put, List.setIfInBounds_toArray, List.set_cons_zero, List.set_cons_succ]
      refine wpAnyT_one (i := 10) (by kernel_rfl) rfl (fun K hK => ?_)
      go_simp
      refine (among_blk g ((k + 56) + 2) _ [0, x, tt] 3 rfl _ (Blk.new wl _ _) (hc3.alloc _) (by have := hd3.size; have := Hgw.out; simp at *; omega) (by simp) (by simp) (by have := Hk.out; omega)).mono ?_
      rintro e9 wa ⟨⟨y, hy, rfl⟩, hc4, hd4⟩
      go_wp2_with fail
      have hH6 := hH5.dg hd4 Hqg.out
      refine hK.out _ _ (fun _ => hH6) ?_
      clear hK K
      try simp only [Act.put, List.setIfInBounds_toArray, List.set_cons_zero, List.set_cons_succ]
      have hyb : 0 ≤ y ∧ y ≤ tt := ag2 hy (lo := 0) (hi := tt) (by simp; omega)
      clear hy
      replace hc4 := hc4.mono (j := (k + 56) + 4) (by omega)
      replace hd4 := (hd3.alloc _).trans hd4
      clear hc3 hd3
      refine wpAnyT_one (i := 11) (by kernel_rfl) rfl (fun K hK => ?_)
      go_simp
      refine (Hat.out _ y _ _ hyb).mono ?_
      rintro e9 ws ⟨⟨A9, c9, rfl, hIR⟩, hbs⟩
      go_wp2_with fail
      have hH7 := hH6.on hbs
      refine hK.out _ _ (fun _ => hH7) ?_
      clear hK K
      try simp only [Act.put, List.setIfInBounds_toArray, List.set_cons_zero, List.set_cons_succ]
      have hIR9 := hIR.mono (B' := w14.heap.size) hd4.size
      replace hc4 := hc4.on hbs
      replace hd4 := hd4.on hbs
      clear hbs hIR hH hH2 hH3 hH4 hH5 hH6
      have y0 := hH7.cell 0
      have y1 := hH7.cell 1
      have y2 := hH7.cell 2
      have y3 := hH7.cell 3
      have y4 := hH7.cell 4
      have y5 := hH7.cell 5
      simp at y0 y1 y2 y3 y4 y5
      have yf0 := hH7.frozen 0
      have yf1 := hH7.frozen 1
      have yf2 := hH7.frozen 2
      have yf3 := hH7.frozen 3
      have yf4 := hH7.frozen 4
      have yf5 := hH7.frozen 5
      have yl := hH7.lt
      refine wpAnyT_one (i := 12) (by kernel_rfl) rfl (fun K hK => ?_)
      go_simp
      refine hK.out _ _ (fun h9 => absurd rfl h9) ?_
      clear hK K
      try simp only [Act.put, List.setIfInBounds_toArray, List.set_cons_zero, List.set_cons_succ]
      refine wpAnyT_done (by kernel_rfl) ?_ _
      clear y0 y1 y2 y3 y4 y5 yf0 yf1 yf2 yf3 yf4 yf5 yl hH7
      have hlen : (hitsZ a b 200 0 y).length ≤ 4010 := by have h9 := hitsZ_len a b 200 0 y; omega
      generalize (hitsZ a b 200 0 y).length = hn at hIR9 hlen ⊢
      have hc15 := hc4.mono (j := k + 60) (by omega); have hd15 := hd4; have hIR := hIR9; clear hc4 hd4 hIR9
      have S15 := Lib.hid (show w14.heap.size + 0 ≤ ws.heap.size by have h9 := hd15.size; (try simp only [World.size_alloc, World.size_setCell] at h9); omega)
      have NR := Lib.hid (R.out.dg hd15 (show w.heap.size ≠ g by have := Hgl.out; have := S1.out; have := S2.out; have := S3.out; have := Qq.out; have := Qw.out; have := S4.out; have := S14.out; have := S15.out; omega))
      have NQ := Lib.hid (Q.out.dg hd15 (show q ≠ g by have := Hgl.out; have := S1.out; have := S2.out; have := S3.out; have := Qq.out; have := Qw.out; have := S4.out; have := S14.out; have := S15.out; omega))
      have R := NR; clear NR
      have Q := NQ; clear NQ
      have Hc15 := Lib.hid (hc15.mono (j := k + 60) (by omega))
      have Hd15 := Lib.hid (Hd14.out.trans hd15)
      clear hc15 hd15
      have HV := Lib.hid hIR; have GHV := Lib.hid (IR.lt hIR)
      clear hIR
      obtain ⟨hy0, hy1⟩ := hyb
      have qQ0 := Q.out.cell 0
      have qQ1 := Q.out.cell 1
      have qQ2 := Q.out.cell 2
      have qQ3 := Q.out.cell 3
      have qQ4 := Q.out.cell 4
      have qQ5 := Q.out.cell 5
      simp at qQ0 qQ1 qQ2 qQ3 qQ4 qQ5
      have qQl := Q.out.lt
      have qQf := Q.out.frozen
      go_wp2_with fail
      refine (pick_any g (k + 60) (40) _ ((((((Hc15.out.st (p := ⟨q, 0, none⟩) (show g < q by have := Hgl.out; have := S1.out; have := S2.out; have := S3.out; have := Qq.out; have := Qw.out; have := S4.out; have := S14.out; have := S15.out; omega) (.int .i64 a)).st (p := ⟨q, 1, none⟩) (show g < q by have := Hgl.out; have := S1.out; have := S2.out; have := S3.out; have := Qq.out; have := Qw.out; have := S4.out; have := S14.out; have := S15.out; omega) (.int .i64 b)).st (p := ⟨q, 2, none⟩) (show g < q by have := Hgl.out; have := S1.out; have := S2.out; have := S3.out; have := Qq.out; have := Qw.out; have := S4.out; have := S14.out; have := S15.out; omega) (.int .i64 200)).st (p := ⟨q, 3, none⟩) (show g < q by have := Hgl.out; have := S1.out; have := S2.out; have := S3.out; have := Qq.out; have := Qw.out; have := S4.out; have := S14.out; have := S15.out; omega) (.int .i64 10)).st (p := ⟨q, 4, none⟩) (show g < q by have := Hgl.out; have := S1.out; have := S2.out; have := S3.out; have := Qq.out; have := Qw.out; have := S4.out; have := S14.out; have := S15.out; omega) (.int .i64 y)).st (p := ⟨q, 5, none⟩) (show g < q by have := Hgl.out; have := S1.out; have := S2.out; have := S3.out; have := Qq.out; have := Qw.out; have := S4.out; have := S14.out; have := S15.out; omega) (.slice A9 hn c9)) (by have := Hk.out; omega)).mono ?_; rintro e w16 ⟨⟨p4, lp4, up4, rfl⟩, hc16, hd16⟩
      clear qQ0 qQ1 qQ2 qQ3 qQ4 qQ5 qQl qQf
      have S16 := Lib.hid (show ws.heap.size + 0 ≤ w16.heap.size by have h9 := hd16.size; (try simp only [World.size_alloc, World.size_setCell] at h9); omega)
      have NR := Lib.hid (((((((R.out.far (p := ⟨q, 0, none⟩) (show w.heap.size ≠ q by have := Hgl.out; have := S1.out; have := S2.out; have := S3.out; have := Qq.out; have := Qw.out; have := S4.out; have := S14.out; have := S15.out; have := S16.out; omega) (.int .i64 a)).far (p := ⟨q, 1, none⟩) (show w.heap.size ≠ q by have := Hgl.out; have := S1.out; have := S2.out; have := S3.out; have := Qq.out; have := Qw.out; have := S4.out; have := S14.out; have := S15.out; have := S16.out; omega) (.int .i64 b)).far (p := ⟨q, 2, none⟩) (show w.heap.size ≠ q by have := Hgl.out; have := S1.out; have := S2.out; have := S3.out; have := Qq.out; have := Qw.out; have := S4.out; have := S14.out; have := S15.out; have := S16.out; omega) (.int .i64 200)).far (p := ⟨q, 3, none⟩) (show w.heap.size ≠ q by have := Hgl.out; have := S1.out; have := S2.out; have := S3.out; have := Qq.out; have := Qw.out; have := S4.out; have := S14.out; have := S15.out; have := S16.out; omega) (.int .i64 10)).far (p := ⟨q, 4, none⟩) (show w.heap.size ≠ q by have := Hgl.out; have := S1.out; have := S2.out; have := S3.out; have := Qq.out; have := Qw.out; have := S4.out; have := S14.out; have := S15.out; have := S16.out; omega) (.int .i64 y)).far (p := ⟨q, 5, none⟩) (show w.heap.size ≠ q by have := Hgl.out; have := S1.out; have := S2.out; have := S3.out; have := Qq.out; have := Qw.out; have := S4.out; have := S14.out; have := S15.out; have := S16.out; omega) (.slice A9 hn c9)).dg hd16 (show w.heap.size ≠ g by have := Hgl.out; have := S1.out; have := S2.out; have := S3.out; have := Qq.out; have := Qw.out; have := S4.out; have := S14.out; have := S15.out; have := S16.out; omega))
      have NQ := Lib.hid ((show Blk (World.setCell (World.setCell (World.setCell (World.setCell (World.setCell (World.setCell ws ⟨q, 0, none⟩ (.int .i64 a)) ⟨q, 1, none⟩ (.int .i64 b)) ⟨q, 2, none⟩ (.int .i64 200)) ⟨q, 3, none⟩ (.int .i64 10)) ⟨q, 4, none⟩ (.int .i64 y)) ⟨q, 5, none⟩ (.slice A9 hn c9)) (q) 51 #[.int .i64 a, .int .i64 b, .int .i64 200, .int .i64 10, .int .i64 y, .slice A9 hn c9] by have h9 := ((((((Q.out.set 0 (.int .i64 a)).set 1 (.int .i64 b)).set 2 (.int .i64 200)).set 3 (.int .i64 10)).set 4 (.int .i64 y)).set 5 (.slice A9 hn c9)); simpa using h9).dg hd16 (show q ≠ g by have := Hgl.out; have := S1.out; have := S2.out; have := S3.out; have := Qq.out; have := Qw.out; have := S4.out; have := S14.out; have := S15.out; have := S16.out; omega))
      have R := NR; clear NR
      have Q := NQ; clear NQ
      have HV := Lib.hid (((((((HV.out.st (p := ⟨q, 0, none⟩) (by intro k9 hk9; have := GHV.out k9 hk9; show k9 ≠ q; have := Hgl.out; have := S1.out; have := S2.out; have := S3.out; have := Qq.out; have := Qw.out; have := S4.out; have := S14.out; have := S15.out; have := S16.out; omega) (.int .i64 a)).st (p := ⟨q, 1, none⟩) (by intro k9 hk9; have := GHV.out k9 hk9; show k9 ≠ q; have := Hgl.out; have := S1.out; have := S2.out; have := S3.out; have := Qq.out; have := Qw.out; have := S4.out; have := S14.out; have := S15.out; have := S16.out; omega) (.int .i64 b)).st (p := ⟨q, 2, none⟩) (by intro k9 hk9; have := GHV.out k9 hk9; show k9 ≠ q; have := Hgl.out; have := S1.out; have := S2.out; have := S3.out; have := Qq.out; have := Qw.out; have := S4.out; have := S14.out; have := S15.out; have := S16.out; omega) (.int .i64 200)).st (p := ⟨q, 3, none⟩) (by intro k9 hk9; have := GHV.out k9 hk9; show k9 ≠ q; have := Hgl.out; have := S1.out; have := S2.out; have := S3.out; have := Qq.out; have := Qw.out; have := S4.out; have := S14.out; have := S15.out; have := S16.out; omega) (.int .i64 10)).st (p := ⟨q, 4, none⟩) (by intro k9 hk9; have := GHV.out k9 hk9; show k9 ≠ q; have := Hgl.out; have := S1.out; have := S2.out; have := S3.out; have := Qq.out; have := Qw.out; have := S4.out; have := S14.out; have := S15.out; have := S16.out; omega) (.int .i64 y)).st (p := ⟨q, 5, none⟩) (by intro k9 hk9; have := GHV.out k9 hk9; show k9 ≠ q; have := Hgl.out; have := S1.out; have := S2.out; have := S3.out; have := Qq.out; have := Qw.out; have := S4.out; have := S14.out; have := S15.out; have := S16.out; omega) (.slice A9 hn c9)).dg hd16 (show g < w14.heap.size by have := Hgl.out; have := S1.out; have := S2.out; have := S3.out; have := Qq.out; have := Qw.out; have := S4.out; have := S14.out; have := S15.out; have := S16.out; omega))
      have Hc16 := Lib.hid (hc16.mono (j := k + 62) (by omega))
      have Hd16 := Lib.hid (((((((Hd15.out.st (p := ⟨q, 0, none⟩) (show w.heap.size ≤ q by have := Hgl.out; have := S1.out; have := S2.out; have := S3.out; have := Qq.out; have := Qw.out; have := S4.out; have := S14.out; have := S15.out; have := S16.out; omega) (.int .i64 a)).st (p := ⟨q, 1, none⟩) (show w.heap.size ≤ q by have := Hgl.out; have := S1.out; have := S2.out; have := S3.out; have := Qq.out; have := Qw.out; have := S4.out; have := S14.out; have := S15.out; have := S16.out; omega) (.int .i64 b)).st (p := ⟨q, 2, none⟩) (show w.heap.size ≤ q by have := Hgl.out; have := S1.out; have := S2.out; have := S3.out; have := Qq.out; have := Qw.out; have := S4.out; have := S14.out; have := S15.out; have := S16.out; omega) (.int .i64 200)).st (p := ⟨q, 3, none⟩) (show w.heap.size ≤ q by have := Hgl.out; have := S1.out; have := S2.out; have := S3.out; have := Qq.out; have := Qw.out; have := S4.out; have := S14.out; have := S15.out; have := S16.out; omega) (.int .i64 10)).st (p := ⟨q, 4, none⟩) (show w.heap.size ≤ q by have := Hgl.out; have := S1.out; have := S2.out; have := S3.out; have := Qq.out; have := Qw.out; have := S4.out; have := S14.out; have := S15.out; have := S16.out; omega) (.int .i64 y)).st (p := ⟨q, 5, none⟩) (show w.heap.size ≤ q by have := Hgl.out; have := S1.out; have := S2.out; have := S3.out; have := Qq.out; have := Qw.out; have := S4.out; have := S14.out; have := S15.out; have := S16.out; omega) (.slice A9 hn c9)).trans hd16)
      clear hc16 hd16
      by_cases ep40 : p4 = 0
      · have zp40 : (p4 == 0) = true := by rw [ep40]; rfl
        clear ep40
        go_wp2_with fail
        refine (among_lit g (k + 62) (w16.heap.size) [-1, 201] w16 (by simp) Hc16.out (by simp) (by simp) (by have := Hk.out; omega)).mono ?_; rintro e w17 ⟨⟨x2, hx2, rfl⟩, hc17, hd17⟩
        have S17 := Lib.hid (show w16.heap.size + 1 ≤ w17.heap.size by have h9 := hd17.size; (try simp only [World.size_alloc, World.size_setCell] at h9); omega)
        have NR := Lib.hid ((R.out.alloc _).dg hd17 (show w.heap.size ≠ g by have := Hgl.out; have := S1.out; have := S2.out; have := S3.out; have := Qq.out; have := Qw.out; have := S4.out; have := S14.out; have := S15.out; have := S16.out; have := S17.out; omega))
        have NQ := Lib.hid ((Q.out.alloc _).dg hd17 (show q ≠ g by have := Hgl.out; have := S1.out; have := S2.out; have := S3.out; have := Qq.out; have := Qw.out; have := S4.out; have := S14.out; have := S15.out; have := S16.out; have := S17.out; omega))
        have R := NR; clear NR
        have Q := NQ; clear NQ
        have HV := Lib.hid ((HV.out.alloc _).dg hd17 (show g < w14.heap.size by have := Hgl.out; have := S1.out; have := S2.out; have := S3.out; have := Qq.out; have := Qw.out; have := S4.out; have := S14.out; have := S15.out; have := S16.out; have := S17.out; omega))
        have Hc17 := Lib.hid (hc17.mono (j := k + 64) (by omega))
        have Hd17 := Lib.hid ((Hd16.out.alloc _).trans hd17)
        clear hc17 hd17
        clear hx2
        have qQ0 := Q.out.cell 0
        have qQ1 := Q.out.cell 1
        have qQ2 := Q.out.cell 2
        have qQ3 := Q.out.cell 3
        have qQ4 := Q.out.cell 4
        have qQ5 := Q.out.cell 5
        simp at qQ0 qQ1 qQ2 qQ3 qQ4 qQ5
        have qQl := Q.out.lt
        have qQf := Q.out.frozen
        have qR0 := R.out.cell 0
        have qR1 := R.out.cell 1
        have qR2 := R.out.cell 2
        have qR3 := R.out.cell 3
        have qR4 := R.out.cell 4
        have qR5 := R.out.cell 5
        simp at qR0 qR1 qR2 qR3 qR4 qR5
        have qRl := R.out.lt
        have qRf := R.out.frozen
        have nQR : q ≠ w.heap.size := by have := Hgl.out; have := S1.out; have := S2.out; have := S3.out; have := Qq.out; have := Qw.out; have := S4.out; have := S14.out; have := S15.out; have := S16.out; have := S17.out; omega
        have nRQ : w.heap.size ≠ q := fun e => nQR e.symm
        go_wp2
        clear qQ0 qQ1 qQ2 qQ3 qQ4 qQ5 qQl qQf qR0 qR1 qR2 qR3 qR4 qR5 qRl qRf nQR nRQ
        have HR9 := (show Blk (World.setCell (World.setCell (World.setCell (World.setCell (World.setCell (World.setCell (World.setCell w17 ⟨q, 2, none⟩ (.int .i64 x2)) ⟨w.heap.size, 0, none⟩ (.int .i64 a)) ⟨w.heap.size, 1, none⟩ (.int .i64 b)) ⟨w.heap.size, 2, none⟩ (.int .i64 x2)) ⟨w.heap.size, 3, none⟩ (.int .i64 10)) ⟨w.heap.size, 4, none⟩ (.int .i64 y)) ⟨w.heap.size, 5, none⟩ (.slice A9 hn c9)) (w.heap.size) 51 #[.int .i64 a, .int .i64 b, .int .i64 x2, .int .i64 10, .int .i64 y, .slice A9 hn c9] by have h9 := (((((((R.out.far (p := ⟨q, 2, none⟩) (show w.heap.size ≠ q by have := Hgl.out; have := S1.out; have := S2.out; have := S3.out; have := Qq.out; have := Qw.out; have := S4.out; have := S14.out; have := S15.out; have := S16.out; have := S17.out; omega) (.int .i64 x2)).set 0 (.int .i64 a)).set 1 (.int .i64 b)).set 2 (.int .i64 x2)).set 3 (.int .i64 10)).set 4 (.int .i64 y)).set 5 (.slice A9 hn c9)); simpa using h9)
        have k0 := HR9.cell 0
        have k1 := HR9.cell 1
        have k2 := HR9.cell 2
        have k3 := HR9.cell 3
        have k4 := HR9.cell 4
        have k5 := HR9.cell 5
        simp at k0 k1 k2 k3 k4 k5
        exact bodyPost_ret (v := .agg #[.int .i64 a, .int .i64 b, .int .i64 x2, .int .i64 10, .int .i64 y, .slice A9 hn c9]) (by simp [results, Tryz.results77, go_sem, k0, k1, k2, k3, k4, k5]) rfl ⟨⟨_, _, _, _, _, _, hn, by omega, rfl, ((((((((HV.out.st (p := ⟨q, 2, none⟩) (by intro k9 hk9; have := GHV.out k9 hk9; show k9 ≠ q; have := Hgl.out; have := S1.out; have := S2.out; have := S3.out; have := Qq.out; have := Qw.out; have := S4.out; have := S14.out; have := S15.out; have := S16.out; have := S17.out; omega) (.int .i64 x2)).st (p := ⟨w.heap.size, 0, none⟩) (by intro k9 hk9; have := GHV.out k9 hk9; show k9 ≠ w.heap.size; have := Hgl.out; have := S1.out; have := S2.out; have := S3.out; have := Qq.out; have := Qw.out; have := S4.out; have := S14.out; have := S15.out; have := S16.out; have := S17.out; omega) (.int .i64 a)).st (p := ⟨w.heap.size, 1, none⟩) (by intro k9 hk9; have := GHV.out k9 hk9; show k9 ≠ w.heap.size; have := Hgl.out; have := S1.out; have := S2.out; have := S3.out; have := Qq.out; have := Qw.out; have := S4.out; have := S14.out; have := S15.out; have := S16.out; have := S17.out; omega) (.int .i64 b)).st (p := ⟨w.heap.size, 2, none⟩) (by intro k9 hk9; have := GHV.out k9 hk9; show k9 ≠ w.heap.size; have := Hgl.out; have := S1.out; have := S2.out; have := S3.out; have := Qq.out; have := Qw.out; have := S4.out; have := S14.out; have := S15.out; have := S16.out; have := S17.out; omega) (.int .i64 x2)).st (p := ⟨w.heap.size, 3, none⟩) (by intro k9 hk9; have := GHV.out k9 hk9; show k9 ≠ w.heap.size; have := Hgl.out; have := S1.out; have := S2.out; have := S3.out; have := Qq.out; have := Qw.out; have := S4.out; have := S14.out; have := S15.out; have := S16.out; have := S17.out; omega) (.int .i64 10)).st (p := ⟨w.heap.size, 4, none⟩) (by intro k9 hk9; have := GHV.out k9 hk9; show k9 ≠ w.heap.size; have := Hgl.out; have := S1.out; have := S2.out; have := S3.out; have := Qq.out; have := Qw.out; have := S4.out; have := S14.out; have := S15.out; have := S16.out; have := S17.out; omega) (.int .i64 y)).st (p := ⟨w.heap.size, 5, none⟩) (by intro k9 hk9; have := GHV.out k9 hk9; show k9 ≠ w.heap.size; have := Hgl.out; have := S1.out; have := S2.out; have := S3.out; have := Qq.out; have := Qw.out; have := S4.out; have := S14.out; have := S15.out; have := S16.out; have := S17.out; omega) (.slice A9 hn c9))).mono (by have := S1.out; have := S2.out; have := S3.out; have := Qq.out; have := Qw.out; have := S4.out; have := S14.out; have := S15.out; have := S16.out; have := S17.out; omega)⟩, (((((((Hc17.out.st (p := ⟨q, 2, none⟩) (show g < q by have := Hgl.out; have := S1.out; have := S2.out; have := S3.out; have := Qq.out; have := Qw.out; have := S4.out; have := S14.out; have := S15.out; have := S16.out; have := S17.out; omega) (.int .i64 x2)).st (p := ⟨w.heap.size, 0, none⟩) (show g < w.heap.size by have := Hgl.out; have := S1.out; have := S2.out; have := S3.out; have := Qq.out; have := Qw.out; have := S4.out; have := S14.out; have := S15.out; have := S16.out; have := S17.out; omega) (.int .i64 a)).st (p := ⟨w.heap.size, 1, none⟩) (show g < w.heap.size by have := Hgl.out; have := S1.out; have := S2.out; have := S3.out; have := Qq.out; have := Qw.out; have := S4.out; have := S14.out; have := S15.out; have := S16.out; have := S17.out; omega) (.int .i64 b)).st (p := ⟨w.heap.size, 2, none⟩) (show g < w.heap.size by have := Hgl.out; have := S1.out; have := S2.out; have := S3.out; have := Qq.out; have := Qw.out; have := S4.out; have := S14.out; have := S15.out; have := S16.out; have := S17.out; omega) (.int .i64 x2)).st (p := ⟨w.heap.size, 3, none⟩) (show g < w.heap.size by have := Hgl.out; have := S1.out; have := S2.out; have := S3.out; have := Qq.out; have := Qw.out; have := S4.out; have := S14.out; have := S15.out; have := S16.out; have := S17.out; omega) (.int .i64 10)).st (p := ⟨w.heap.size, 4, none⟩) (show g < w.heap.size by have := Hgl.out; have := S1.out; have := S2.out; have := S3.out; have := Qq.out; have := Qw.out; have := S4.out; have := S14.out; have := S15.out; have := S16.out; have := S17.out; omega) (.int .i64 y)).st (p := ⟨w.heap.size, 5, none⟩) (show g < w.heap.size by have := Hgl.out; have := S1.out; have := S2.out; have := S3.out; have := Qq.out; have := Qw.out; have := S4.out; have := S14.out; have := S15.out; have := S16.out; have := S17.out; omega) (.slice A9 hn c9)).mono (by omega), (((((((Hd17.out.st (p := ⟨q, 2, none⟩) (show w.heap.size ≤ q by have := Hgl.out; have := S1.out; have := S2.out; have := S3.out; have := Qq.out; have := Qw.out; have := S4.out; have := S14.out; have := S15.out; have := S16.out; have := S17.out; omega) (.int .i64 x2)).st (p := ⟨w.heap.size, 0, none⟩) (show w.heap.size ≤ w.heap.size by have := Hgl.out; have := S1.out; have := S2.out; have := S3.out; have := Qq.out; have := Qw.out; have := S4.out; have := S14.out; have := S15.out; have := S16.out; have := S17.out; omega) (.int .i64 a)).st (p := ⟨w.heap.size, 1, none⟩) (show w.heap.size ≤ w.heap.size by have := Hgl.out; have := S1.out; have := S2.out; have := S3.out; have := Qq.out; have := Qw.out; have := S4.out; have := S14.out; have := S15.out; have := S16.out; have := S17.out; omega) (.int .i64 b)).st (p := ⟨w.heap.size, 2, none⟩) (show w.heap.size ≤ w.heap.size by have := Hgl.out; have := S1.out; have := S2.out; have := S3.out; have := Qq.out; have := Qw.out; have := S4.out; have := S14.out; have := S15.out; have := S16.out; have := S17.out; omega) (.int .i64 x2)).st (p := ⟨w.heap.size, 3, none⟩) (show w.heap.size ≤ w.heap.size by have := Hgl.out; have := S1.out; have := S2.out; have := S3.out; have := Qq.out; have := Qw.out; have := S4.out; have := S14.out; have := S15.out; have := S16.out; have := S17.out; omega) (.int .i64 10)).st (p := ⟨w.heap.size, 4, none⟩) (show w.heap.size ≤ w.heap.size by have := Hgl.out; have := S1.out; have := S2.out; have := S3.out; have := Qq.out; have := Qw.out; have := S4.out; have := S14.out; have := S15.out; have := S16.out; have := S17.out; omega) (.int .i64 y)).st (p := ⟨w.heap.size, 5, none⟩) (show w.heap.size ≤ w.heap.size by have := Hgl.out; have := S1.out; have := S2.out; have := S3.out; have := Qq.out; have := Qw.out; have := S4.out; have := S14.out; have := S15.out; have := S16.out; have := S17.out; omega) (.slice A9 hn c9))⟩
      · by_cases ep41 : p4 = 1
        · have zp41 : (p4 == 1) = true := by rw [ep41]; rfl
          have zp40 : (p4 == 0) = false := by rw [ep41]; rfl
          clear ep40 ep41
          go_wp2_with fail
          refine (among_lit g (k + 62) (w16.heap.size) [0, 11] w16 (by simp) Hc16.out (by simp) (by simp) (by have := Hk.out; omega)).mono ?_; rintro e w18 ⟨⟨x2, hx2, rfl⟩, hc18, hd18⟩
          have S18 := Lib.hid (show w16.heap.size + 1 ≤ w18.heap.size by have h9 := hd18.size; (try simp only [World.size_alloc, World.size_setCell] at h9); omega)
          have NR := Lib.hid ((R.out.alloc _).dg hd18 (show w.heap.size ≠ g by have := Hgl.out; have := S1.out; have := S2.out; have := S3.out; have := Qq.out; have := Qw.out; have := S4.out; have := S14.out; have := S15.out; have := S16.out; have := S18.out; omega))
          have NQ := Lib.hid ((Q.out.alloc _).dg hd18 (show q ≠ g by have := Hgl.out; have := S1.out; have := S2.out; have := S3.out; have := Qq.out; have := Qw.out; have := S4.out; have := S14.out; have := S15.out; have := S16.out; have := S18.out; omega))
          have R := NR; clear NR
          have Q := NQ; clear NQ
          have HV := Lib.hid ((HV.out.alloc _).dg hd18 (show g < w14.heap.size by have := Hgl.out; have := S1.out; have := S2.out; have := S3.out; have := Qq.out; have := Qw.out; have := S4.out; have := S14.out; have := S15.out; have := S16.out; have := S18.out; omega))
          have Hc18 := Lib.hid (hc18.mono (j := k + 64) (by omega))
          have Hd18 := Lib.hid ((Hd16.out.alloc _).trans hd18)
          clear hc18 hd18
          clear hx2
          have qQ0 := Q.out.cell 0
          have qQ1 := Q.out.cell 1
          have qQ2 := Q.out.cell 2
          have qQ3 := Q.out.cell 3
          have qQ4 := Q.out.cell 4
          have qQ5 := Q.out.cell 5
          simp at qQ0 qQ1 qQ2 qQ3 qQ4 qQ5
          have qQl := Q.out.lt
          have qQf := Q.out.frozen
          have qR0 := R.out.cell 0
          have qR1 := R.out.cell 1
          have qR2 := R.out.cell 2
          have qR3 := R.out.cell 3
          have qR4 := R.out.cell 4
          have qR5 := R.out.cell 5
          simp at qR0 qR1 qR2 qR3 qR4 qR5
          have qRl := R.out.lt
          have qRf := R.out.frozen
          have nQR : q ≠ w.heap.size := by have := Hgl.out; have := S1.out; have := S2.out; have := S3.out; have := Qq.out; have := Qw.out; have := S4.out; have := S14.out; have := S15.out; have := S16.out; have := S18.out; omega
          have nRQ : w.heap.size ≠ q := fun e => nQR e.symm
          go_wp2
          clear qQ0 qQ1 qQ2 qQ3 qQ4 qQ5 qQl qQf qR0 qR1 qR2 qR3 qR4 qR5 qRl qRf nQR nRQ
          have HR9 := (show Blk (World.setCell (World.setCell (World.setCell (World.setCell (World.setCell (World.setCell (World.setCell w18 ⟨q, 3, none⟩ (.int .i64 x2)) ⟨w.heap.size, 0, none⟩ (.int .i64 a)) ⟨w.heap.size, 1, none⟩ (.int .i64 b)) ⟨w.heap.size, 2, none⟩ (.int .i64 200)) ⟨w.heap.size, 3, none⟩ (.int .i64 x2)) ⟨w.heap.size, 4, none⟩ (.int .i64 y)) ⟨w.heap.size, 5, none⟩ (.slice A9 hn c9)) (w.heap.size) 51 #[.int .i64 a, .int .i64 b, .int .i64 200, .int .i64 x2, .int .i64 y, .slice A9 hn c9] by have h9 := (((((((R.out.far (p := ⟨q, 3, none⟩) (show w.heap.size ≠ q by have := Hgl.out; have := S1.out; have := S2.out; have := S3.out; have := Qq.out; have := Qw.out; have := S4.out; have := S14.out; have := S15.out; have := S16.out; have := S18.out; omega) (.int .i64 x2)).set 0 (.int .i64 a)).set 1 (.int .i64 b)).set 2 (.int .i64 200)).set 3 (.int .i64 x2)).set 4 (.int .i64 y)).set 5 (.slice A9 hn c9)); simpa using h9)
          have k0 := HR9.cell 0
          have k1 := HR9.cell 1
          have k2 := HR9.cell 2
          have k3 := HR9.cell 3
          have k4 := HR9.cell 4
          have k5 := HR9.cell 5
          simp at k0 k1 k2 k3 k4 k5
          exact bodyPost_ret (v := .agg #[.int .i64 a, .int .i64 b, .int .i64 200, .int .i64 x2, .int .i64 y, .slice A9 hn c9]) (by simp [results, Tryz.results77, go_sem, k0, k1, k2, k3, k4, k5]) rfl ⟨⟨_, _, _, _, _, _, hn, by omega, rfl, ((((((((HV.out.st (p := ⟨q, 3, none⟩) (by intro k9 hk9; have := GHV.out k9 hk9; show k9 ≠ q; have := Hgl.out; have := S1.out; have := S2.out; have := S3.out; have := Qq.out; have := Qw.out; have := S4.out; have := S14.out; have := S15.out; have := S16.out; have := S18.out; omega) (.int .i64 x2)).st (p := ⟨w.heap.size, 0, none⟩) (by intro k9 hk9; have := GHV.out k9 hk9; show k9 ≠ w.heap.size; have := Hgl.out; have := S1.out; have := S2.out; have := S3.out; have := Qq.out; have := Qw.out; have := S4.out; have := S14.out; have := S15.out; have := S16.out; have := S18.out; omega) (.int .i64 a)).st (p := ⟨w.heap.size, 1, none⟩) (by intro k9 hk9; have := GHV.out k9 hk9; show k9 ≠ w.heap.size; have := Hgl.out; have := S1.out; have := S2.out; have := S3.out; have := Qq.out; have := Qw.out; have := S4.out; have := S14.out; have := S15.out; have := S16.out; have := S18.out; omega) (.int .i64 b)).st (p := ⟨w.heap.size, 2, none⟩) (by intro k9 hk9; have := GHV.out k9 hk9; show k9 ≠ w.heap.size; have := Hgl.out; have := S1.out; have := S2.out; have := S3.out; have := Qq.out; have := Qw.out; have := S4.out; have := S14.out; have := S15.out; have := S16.out; have := S18.out; omega) (.int .i64 200)).st (p := ⟨w.heap.size, 3, none⟩) (by intro k9 hk9; have := GHV.out k9 hk9; show k9 ≠ w.heap.size; have := Hgl.out; have := S1.out; have := S2.out; have := S3.out; have := Qq.out; have := Qw.out; have := S4.out; have := S14.out; have := S15.out; have := S16.out; have := S18.out; omega) (.int .i64 x2)).st (p := ⟨w.heap.size, 4, none⟩) (by intro k9 hk9; have := GHV.out k9 hk9; show k9 ≠ w.heap.size; have := Hgl.out; have := S1.out; have := S2.out; have := S3.out; have := Qq.out; have := Qw.out; have := S4.out; have := S14.out; have := S15.out; have := S16.out; have := S18.out; omega) (.int .i64 y)).st (p := ⟨w.heap.size, 5, none⟩) (by intro k9 hk9; have := GHV.out k9 hk9; show k9 ≠ w.heap.size; have := Hgl.out; have := S1.out; have := S2.out; have := S3.out; have := Qq.out; have := Qw.out; have := S4.out; have := S14.out; have := S15.out; have := S16.out; have := S18.out; omega) (.slice A9 hn c9))).mono (by have := S1.out; have := S2.out; have := S3.out; have := Qq.out; have := Qw.out; have := S4.out; have := S14.out; have := S15.out; have := S16.out; have := S18.out; omega)⟩, (((((((Hc18.out.st (p := ⟨q, 3, none⟩) (show g < q by have := Hgl.out; have := S1.out; have := S2.out; have := S3.out; have := Qq.out; have := Qw.out; have := S4.out; have := S14.out; have := S15.out; have := S16.out; have := S18.out; omega) (.int .i64 x2)).st (p := ⟨w.heap.size, 0, none⟩) (show g < w.heap.size by have := Hgl.out; have := S1.out; have := S2.out; have := S3.out; have := Qq.out; have := Qw.out; have := S4.out; have := S14.out; have := S15.out; have := S16.out; have := S18.out; omega) (.int .i64 a)).st (p := ⟨w.heap.size, 1, none⟩) (show g < w.heap.size by have := Hgl.out; have := S1.out; have := S2.out; have := S3.out; have := Qq.out; have := Qw.out; have := S4.out; have := S14.out; have := S15.out; have := S16.out; have := S18.out; omega) (.int .i64 b)).st (p := ⟨w.heap.size, 2, none⟩) (show g < w.heap.size by have := Hgl.out; have := S1.out; have := S2.out; have := S3.out; have := Qq.out; have := Qw.out; have := S4.out; have := S14.out; have := S15.out; have := S16.out; have := S18.out; omega) (.int .i64 200)).st (p := ⟨w.heap.size, 3, none⟩) (show g < w.heap.size by have := Hgl.out; have := S1.out; have := S2.out; have := S3.out; have := Qq.out; have := Qw.out; have := S4.out; have := S14.out; have := S15.out; have := S16.out; have := S18.out; omega) (.int .i64 x2)).st (p := ⟨w.heap.size, 4, none⟩) (show g < w.heap.size by have := Hgl.out; have := S1.out; have := S2.out; have := S3.out; have := Qq.out; have := Qw.out; have := S4.out; have := S14.out; have := S15.out; have := S16.out; have := S18.out; omega) (.int .i64 y)).st (p := ⟨w.heap.size, 5, none⟩) (show g < w.heap.size by have := Hgl.out; have := S1.out; have := S2.out; have := S3.out; have := Qq.out; have := Qw.out; have := S4.out; have := S14.out; have := S15.out; have := S16.out; have := S18.out; omega) (.slice A9 hn c9)).mono (by omega), (((((((Hd18.out.st (p := ⟨q, 3, none⟩) (show w.heap.size ≤ q by have := Hgl.out; have := S1.out; have := S2.out; have := S3.out; have := Qq.out; have := Qw.out; have := S4.out; have := S14.out; have := S15.out; have := S16.out; have := S18.out; omega) (.int .i64 x2)).st (p := ⟨w.heap.size, 0, none⟩) (show w.heap.size ≤ w.heap.size by have := Hgl.out; have := S1.out; have := S2.out; have := S3.out; have := Qq.out; have := Qw.out; have := S4.out; have := S14.out; have := S15.out; have := S16.out; have := S18.out; omega) (.int .i64 a)).st (p := ⟨w.heap.size, 1, none⟩) (show w.heap.size ≤ w.heap.size by have := Hgl.out; have := S1.out; have := S2.out; have := S3.out; have := Qq.out; have := Qw.out; have := S4.out; have := S14.out; have := S15.out; have := S16.out; have := S18.out; omega) (.int .i64 b)).st (p := ⟨w.heap.size, 2, none⟩) (show w.heap.size ≤ w.heap.size by have := Hgl.out; have := S1.out; have := S2.out; have := S3.out; have := Qq.out; have := Qw.out; have := S4.out; have := S14.out; have := S15.out; have := S16.out; have := S18.out; omega) (.int .i64 200)).st (p := ⟨w.heap.size, 3, none⟩) (show w.heap.size ≤ w.heap.size by have := Hgl.out; have := S1.out; have := S2.out; have := S3.out; have := Qq.out; have := Qw.out; have := S4.out; have := S14.out; have := S15.out; have := S16.out; have := S18.out; omega) (.int .i64 x2)).st (p := ⟨w.heap.size, 4, none⟩) (show w.heap.size ≤ w.heap.size by have := Hgl.out; have := S1.out; have := S2.out; have := S3.out; have := Qq.out; have := Qw.out; have := S4.out; have := S14.out; have := S15.out; have := S16.out; have := S18.out; omega) (.int .i64 y)).st (p := ⟨w.heap.size, 5, none⟩) (show w.heap.size ≤ w.heap.size by have := Hgl.out; have := S1.out; have := S2.out; have := S3.out; have := Qq.out; have := Qw.out; have := S4.out; have := S14.out; have := S15.out; have := S16.out; have := S18.out; omega) (.slice A9 hn c9))⟩
        · by_cases ep42 : p4 = 2
          · have zp42 : (p4 == 2) = true := by rw [ep42]; rfl
            have zp40 : (p4 == 0) = false := by rw [ep42]; rfl
            have zp41 : (p4 == 1) = false := by rw [ep42]; rfl
            clear ep40 ep41 ep42
            have qQ0 := Q.out.cell 0
            have qQ1 := Q.out.cell 1
            have qQ2 := Q.out.cell 2
            have qQ3 := Q.out.cell 3
            have qQ4 := Q.out.cell 4
            have qQ5 := Q.out.cell 5
            simp at qQ0 qQ1 qQ2 qQ3 qQ4 qQ5
            have qQl := Q.out.lt
            go_wp2_with fail
            refine (Hsk.out _ _ _).mono ?_; rintro e w19 ⟨rfl, hd19⟩
            clear qQ0 qQ1 qQ2 qQ3 qQ4 qQ5 qQl
            have S19 := Lib.hid (show w16.heap.size + 0 ≤ w19.heap.size by have h9 := hd19.size; (try simp only [World.size_alloc, World.size_setCell] at h9); omega)
            have NR := Lib.hid (R.out.dg (Dg.of_below (g := g) hd19) (show w.heap.size ≠ g by have := Hgl.out; have := S1.out; have := S2.out; have := S3.out; have := Qq.out; have := Qw.out; have := S4.out; have := S14.out; have := S15.out; have := S16.out; have := S19.out; omega))
            have NQ := Lib.hid (Q.out.dg (Dg.of_below (g := g) hd19) (show q ≠ g by have := Hgl.out; have := S1.out; have := S2.out; have := S3.out; have := Qq.out; have := Qw.out; have := S4.out; have := S14.out; have := S15.out; have := S16.out; have := S19.out; omega))
            have R := NR; clear NR
            have Q := NQ; clear NQ
            have HV := Lib.hid (HV.out.dg (Dg.of_below (g := g) hd19) (show g < w14.heap.size by have := Hgl.out; have := S1.out; have := S2.out; have := S3.out; have := Qq.out; have := Qw.out; have := S4.out; have := S14.out; have := S15.out; have := S16.out; have := S19.out; omega))
            have Hc19 := Lib.hid (Hc16.out.on hd19)
            have Hd19 := Lib.hid (Hd16.out.trans (Dg.of_below (g := g) hd19))
            clear hd19
            go_wp2_with fail
            refine (among_lit g (k + 62) (w19.heap.size) [-1, (tt + 1)] w19 (by simp) Hc19.out (by simp) (by simp) (by have := Hk.out; omega)).mono ?_; rintro e w20 ⟨⟨x2, hx2, rfl⟩, hc20, hd20⟩
            have S20 := Lib.hid (show w19.heap.size + 1 ≤ w20.heap.size by have h9 := hd20.size; (try simp only [World.size_alloc, World.size_setCell] at h9); omega)
            have NR := Lib.hid ((R.out.alloc _).dg hd20 (show w.heap.size ≠ g by have := Hgl.out; have := S1.out; have := S2.out; have := S3.out; have := Qq.out; have := Qw.out; have := S4.out; have := S14.out; have := S15.out; have := S16.out; have := S19.out; have := S20.out; omega))
            have NQ := Lib.hid ((Q.out.alloc _).dg hd20 (show q ≠ g by have := Hgl.out; have := S1.out; have := S2.out; have := S3.out; have := Qq.out; have := Qw.out; have := S4.out; have := S14.out; have := S15.out; have := S16.out; have := S19.out; have := S20.out; omega))
            have R := NR; clear NR
            have Q := NQ; clear NQ
            have HV := Lib.hid ((HV.out.alloc _).dg hd20 (show g < w14.heap.size by have := Hgl.out; have := S1.out; have := S2.out; have := S3.out; have := Qq.out; have := Qw.out; have := S4.out; have := S14.out; have := S15.out; have := S16.out; have := S19.out; have := S20.out; omega))
            have Hc20 := Lib.hid (hc20.mono (j := k + 64) (by omega))
            have Hd20 := Lib.hid ((Hd19.out.alloc _).trans hd20)
            clear hc20 hd20
            clear hx2
            have qQ0 := Q.out.cell 0
            have qQ1 := Q.out.cell 1
            have qQ2 := Q.out.cell 2
            have qQ3 := Q.out.cell 3
            have qQ4 := Q.out.cell 4
            have qQ5 := Q.out.cell 5
            simp at qQ0 qQ1 qQ2 qQ3 qQ4 qQ5
            have qQl := Q.out.lt
            have qQf := Q.out.frozen
            have qR0 := R.out.cell 0
            have qR1 := R.out.cell 1
            have qR2 := R.out.cell 2
            have qR3 := R.out.cell 3
            have qR4 := R.out.cell 4
            have qR5 := R.out.cell 5
            simp at qR0 qR1 qR2 qR3 qR4 qR5
            have qRl := R.out.lt
            have qRf := R.out.frozen
            have nQR : q ≠ w.heap.size := by have := Hgl.out; have := S1.out; have := S2.out; have := S3.out; have := Qq.out; have := Qw.out; have := S4.out; have := S14.out; have := S15.out; have := S16.out; have := S19.out; have := S20.out; omega
            have nRQ : w.heap.size ≠ q := fun e => nQR e.symm
            go_wp2
            clear qQ0 qQ1 qQ2 qQ3 qQ4 qQ5 qQl qQf qR0 qR1 qR2 qR3 qR4 qR5 qRl qRf nQR nRQ
            have HR9 := (show Blk (World.setCell (World.setCell (World.setCell (World.setCell (World.setCell (World.setCell (World.setCell w20 ⟨q, 4, none⟩ (.int .i64 x2)) ⟨w.heap.size, 0, none⟩ (.int .i64 a)) ⟨w.heap.size, 1, none⟩ (.int .i64 b)) ⟨w.heap.size, 2, none⟩ (.int .i64 200)) ⟨w.heap.size, 3, none⟩ (.int .i64 10)) ⟨w.heap.size, 4, none⟩ (.int .i64 x2)) ⟨w.heap.size, 5, none⟩ (.slice A9 hn c9)) (w.heap.size) 51 #[.int .i64 a, .int .i64 b, .int .i64 200, .int .i64 10, .int .i64 x2, .slice A9 hn c9] by have h9 := (((((((R.out.far (p := ⟨q, 4, none⟩) (show w.heap.size ≠ q by have := Hgl.out; have := S1.out; have := S2.out; have := S3.out; have := Qq.out; have := Qw.out; have := S4.out; have := S14.out; have := S15.out; have := S16.out; have := S19.out; have := S20.out; omega) (.int .i64 x2)).set 0 (.int .i64 a)).set 1 (.int .i64 b)).set 2 (.int .i64 200)).set 3 (.int .i64 10)).set 4 (.int .i64 x2)).set 5 (.slice A9 hn c9)); simpa using h9)
            have k0 := HR9.cell 0
            have k1 := HR9.cell 1
            have k2 := HR9.cell 2
            have k3 := HR9.cell 3
            have k4 := HR9.cell 4
            have k5 := HR9.cell 5
            simp at k0 k1 k2 k3 k4 k5
            exact bodyPost_ret (v := .agg #[.int .i64 a, .int .i64 b, .int .i64 200, .int .i64 10, .int .i64 x2, .slice A9 hn c9]) (by simp [results, Tryz.results77, go_sem, k0, k1, k2, k3, k4, k5]) rfl ⟨⟨_, _, _, _, _, _, hn, by omega, rfl, ((((((((HV.out.st (p := ⟨q, 4, none⟩) (by intro k9 hk9; have := GHV.out k9 hk9; show k9 ≠ q; have := Hgl.out; have := S1.out; have := S2.out; have := S3.out; have := Qq.out; have := Qw.out; have := S4.out; have := S14.out; have := S15.out; have := S16.out; have := S19.out; have := S20.out; omega) (.int .i64 x2)).st (p := ⟨w.heap.size, 0, none⟩) (by intro k9 hk9; have := GHV.out k9 hk9; show k9 ≠ w.heap.size; have := Hgl.out; have := S1.out; have := S2.out; have := S3.out; have := Qq.out; have := Qw.out; have := S4.out; have := S14.out; have := S15.out; have := S16.out; have := S19.out; have := S20.out; omega) (.int .i64 a)).st (p := ⟨w.heap.size, 1, none⟩) (by intro k9 hk9; have := GHV.out k9 hk9; show k9 ≠ w.heap.size; have := Hgl.out; have := S1.out; have := S2.out; have := S3.out; have := Qq.out; have := Qw.out; have := S4.out; have := S14.out; have := S15.out; have := S16.out; have := S19.out; have := S20.out; omega) (.int .i64 b)).st (p := ⟨w.heap.size, 2, none⟩) (by intro k9 hk9; have := GHV.out k9 hk9; show k9 ≠ w.heap.size; have := Hgl.out; have := S1.out; have := S2.out; have := S3.out; have := Qq.out; have := Qw.out; have := S4.out; have := S14.out; have := S15.out; have := S16.out; have := S19.out; have := S20.out; omega) (.int .i64 200)).st (p := ⟨w.heap.size, 3, none⟩) (by intro k9 hk9; have := GHV.out k9 hk9; show k9 ≠ w.heap.size; have := Hgl.out; have := S1.out; have := S2.out; have := S3.out; have := Qq.out; have := Qw.out; have := S4.out; have := S14.out; have := S15.out; have := S16.out; have := S19.out; have := S20.out; omega) (.int .i64 10)).st (p := ⟨w.heap.size, 4, none⟩) (by intro k9 hk9; have := GHV.out k9 hk9; show k9 ≠ w.heap.size; have := Hgl.out; have := S1.out; have := S2.out; have := S3.out; have := Qq.out; have := Qw.out; have := S4.out; have := S14.out; have := S15.out; have := S16.out; have := S19.out; have := S20.out; omega) (.int .i64 x2)).st (p := ⟨w.heap.size, 5, none⟩) (by intro k9 hk9; have := GHV.out k9 hk9; show k9 ≠ w.heap.size; have := Hgl.out; have := S1.out; have := S2.out; have := S3.out; have := Qq.out; have := Qw.out; have := S4.out; have := S14.out; have := S15.out; have := S16.out; have := S19.out; have := S20.out; omega) (.slice A9 hn c9))).mono (by have := S1.out; have := S2.out; have := S3.out; have := Qq.out; have := Qw.out; have := S4.out; have := S14.out; have := S15.out; have := S16.out; have := S19.out; have := S20.out; omega)⟩, (((((((Hc20.out.st (p := ⟨q, 4, none⟩) (show g < q by have := Hgl.out; have := S1.out; have := S2.out; have := S3.out; have := Qq.out; have := Qw.out; have := S4.out; have := S14.out; have := S15.out; have := S16.out; have := S19.out; have := S20.out; omega) (.int .i64 x2)).st (p := ⟨w.heap.size, 0, none⟩) (show g < w.heap.size by have := Hgl.out; have := S1.out; have := S2.out; have := S3.out; have := Qq.out; have := Qw.out; have := S4.out; have := S14.out; have := S15.out; have := S16.out; have := S19.out; have := S20.out; omega) (.int .i64 a)).st (p := ⟨w.heap.size, 1, none⟩) (show g < w.heap.size by have := Hgl.out; have := S1.out; have := S2.out; have := S3.out; have := Qq.out; have := Qw.out; have := S4.out; have := S14.out; have := S15.out; have := S16.out; have := S19.out; have := S20.out; omega) (.int .i64 b)).st (p := ⟨w.heap.size, 2, none⟩) (show g < w.heap.size by have := Hgl.out; have := S1.out; have := S2.out; have := S3.out; have := Qq.out; have := Qw.out; have := S4.out; have := S14.out; have := S15.out; have := S16.out; have := S19.out; have := S20.out; omega) (.int .i64 200)).st (p := ⟨w.heap.size, 3, none⟩) (show g < w.heap.size by have := Hgl.out; have := S1.out; have := S2.out; have := S3.out; have := Qq.out; have := Qw.out; have := S4.out; have := S14.out; have := S15.out; have := S16.out; have := S19.out; have := S20.out; omega) (.int .i64 10)).st (p := ⟨w.heap.size, 4, none⟩) (show g < w.heap.size by have := Hgl.out; have := S1.out; have := S2.out; have := S3.out; have := Qq.out; have := Qw.out; have := S4.out; have := S14.out; have := S15.out; have := S16.out; have := S19.out; have := S20.out; omega) (.int .i64 x2)).st (p := ⟨w.heap.size, 5, none⟩) (show g < w.heap.size by have := Hgl.out; have := S1.out; have := S2.out; have := S3.out; have := Qq.out; have := Qw.out; have := S4.out; have := S14.out; have := S15.out; have := S16.out; have := S19.out; have := S20.out; omega) (.slice A9 hn c9)).mono (by omega), (((((((Hd20.out.st (p := ⟨q, 4, none⟩) (show w.heap.size ≤ q by have := Hgl.out; have := S1.out; have := S2.out; have := S3.out; have := Qq.out; have := Qw.out; have := S4.out; have := S14.out; have := S15.out; have := S16.out; have := S19.out; have := S20.out; omega) (.int .i64 x2)).st (p := ⟨w.heap.size, 0, none⟩) (show w.heap.size ≤ w.heap.size by have := Hgl.out; have := S1.out; have := S2.out; have := S3.out; have := Qq.out; have := Qw.out; have := S4.out; have := S14.out; have := S15.out; have := S16.out; have := S19.out; have := S20.out; omega) (.int .i64 a)).st (p := ⟨w.heap.size, 1, none⟩) (show w.heap.size ≤ w.heap.size by have := Hgl.out; have := S1.out; have := S2.out; have := S3.out; have := Qq.out; have := Qw.out; have := S4.out; have := S14.out; have := S15.out; have := S16.out; have := S19.out; have := S20.out; omega) (.int .i64 b)).st (p := ⟨w.heap.size, 2, none⟩) (show w.heap.size ≤ w.heap.size by have := Hgl.out; have := S1.out; have := S2.out; have := S3.out; have := Qq.out; have := Qw.out; have := S4.out; have := S14.out; have := S15.out; have := S16.out; have := S19.out; have := S20.out; omega) (.int .i64 200)).st (p := ⟨w.heap.size, 3, none⟩) (show w.heap.size ≤ w.heap.size by have := Hgl.out; have := S1.out; have := S2.out; have := S3.out; have := Qq.out; have := Qw.out; have := S4.out; have := S14.out; have := S15.out; have := S16.out; have := S19.out; have := S20.out; omega) (.int .i64 10)).st (p := ⟨w.heap.size, 4, none⟩) (show w.heap.size ≤ w.heap.size by have := Hgl.out; have := S1.out; have := S2.out; have := S3.out; have := Qq.out; have := Qw.out; have := S4.out; have := S14.out; have := S15.out; have := S16.out; have := S19.out; have := S20.out; omega) (.int .i64 x2)).st (p := ⟨w.heap.size, 5, none⟩) (show w.heap.size ≤ w.heap.size by have := Hgl.out; have := S1.out; have := S2.out; have := S3.out; have := Qq.out; have := Qw.out; have := S4.out; have := S14.out; have := S15.out; have := S16.out; have := S19.out; have := S20.out; omega) (.slice A9 hn c9))⟩
          · by_cases ep43 : p4 = 3
            · have zp43 : (p4 == 3) = true := by rw [ep43]; rfl
              have zp40 : (p4 == 0) = false := by rw [ep43]; rfl
              have zp41 : (p4 == 1) = false := by rw [ep43]; rfl
              have zp42 : (p4 == 2) = false := by rw [ep43]; rfl
              clear ep40 ep41 ep42 ep43
              obtain ⟨i0, hi, hz0, hz1, hz2⟩ := info_parts infoPt2
              obtain ⟨xs9, ho9, ha9⟩ := HV.out.ex
              have qQ0 := Q.out.cell 0
              have qQ1 := Q.out.cell 1
              have qQ2 := Q.out.cell 2
              have qQ3 := Q.out.cell 3
              have qQ4 := Q.out.cell 4
              have qQ5 := Q.out.cell 5
              simp at qQ0 qQ1 qQ2 qQ3 qQ4 qQ5
              have qQl := Q.out.lt
              have qQf := Q.out.frozen
              go_wp2_with (at_builtin; refine wpList_append_own _ rfl _ _ 49 rfl w14.heap.size 117 i0 (.agg #[.int .i64 0, .int .i64 0, .int .i64 0]) 3 24 Tryz.underlying49 hi hz0 hz1 hz2 rfl (by decide) _ _ _ rfl (ho9.alloc _) ⟨w16.heap.size, 0, none⟩ 1 1 [.int .i64 1, .int .i64 1, .int .i64 1] rfl rfl ?c1 ?c2 ?c3 ?c4 ?c5 ?_)
              case c1 =>
                intro j u hj
                match j, hj with
                | 0, hj => simp at hj; subst hj; exact (Blk.new w16 _ _).cell 0
                | 1, hj => simp at hj; subst hj; exact (Blk.new w16 _ _).cell 1
                | 2, hj => simp at hj; subst hj; exact (Blk.new w16 _ _).cell 2
              case c2 => intro u hu; simp at hu; rcases hu with rfl | rfl | rfl <;> rfl
              case c3 => unfold maxLen; omega
              case c4 => omega
              case c5 => have := Hgl.out; have := S1.out; have := S2.out; have := S3.out; have := Qq.out; have := Qw.out; have := S4.out; have := S14.out; have := S15.out; have := S16.out; simp; omega
              intro v21 w21 hown21 hgrow21 _
              clear qQ0 qQ1 qQ2 qQ3 qQ4 qQ5 qQl qQf
              have S21 := Lib.hid (show w16.heap.size + 1 ≤ w21.heap.size by have h9 := hgrow21.size; (try simp only [World.size_alloc, World.size_setCell] at h9); omega)
              have gr21 : ∀ r, Value.ownBlock _ = some r → w14.heap.size ≤ r := fun r hr => (World.ownsRow.lt ho9 r hr).1
              have Hc21 := Lib.hid ((Hc16.out.alloc _).grown hgrow21 (fun r hr => by have := gr21 r hr; have := Hgl.out; have := S1.out; have := S2.out; have := S3.out; have := Qq.out; have := Qw.out; have := S4.out; have := S14.out; have := S15.out; have := S16.out; omega))
              have Hd21 := Lib.hid ((Hd16.out.alloc _).grown hgrow21 (fun r hr => by have := gr21 r hr; have := S1.out; have := S2.out; have := S3.out; have := Qq.out; have := Qw.out; have := S4.out; have := S14.out; have := S15.out; have := S16.out; omega))
              have R21 := Lib.hid (show IR w21 w14.heap.size 117 3 v21 (hn + 1) from ⟨_, hown21, ha9.app (by first | exact allI3 _ _ _ | exact allI5 _ _ _ _ _ | exact allI7 _ _ _ _ _ _ _)⟩)
              have R := Lib.hid (Blk.grownK (R.out.alloc _) hgrow21 (fun r hr => by have := gr21 r hr; have := Hgl.out; have := S1.out; have := S2.out; have := S3.out; have := Qq.out; have := Qw.out; have := S4.out; have := S14.out; have := S15.out; have := S16.out; have := S21.out; omega))
              have Q := Lib.hid (Blk.grownK (Q.out.alloc _) hgrow21 (fun r hr => by have := gr21 r hr; have := Hgl.out; have := S1.out; have := S2.out; have := S3.out; have := Qq.out; have := Qw.out; have := S4.out; have := S14.out; have := S15.out; have := S16.out; have := S21.out; omega))
              clear hown21 hgrow21 gr21 ho9 ha9
              have GR21 := Lib.hid (IR.lt R21.out)
              obtain ⟨A8, c8, hv8, -, -⟩ := R21.out.form
              subst hv8
              have qQ0 := Q.out.cell 0
              have qQ1 := Q.out.cell 1
              have qQ2 := Q.out.cell 2
              have qQ3 := Q.out.cell 3
              have qQ4 := Q.out.cell 4
              have qQ5 := Q.out.cell 5
              simp at qQ0 qQ1 qQ2 qQ3 qQ4 qQ5
              have qQl := Q.out.lt
              have qQf := Q.out.frozen
              have qR0 := R.out.cell 0
              have qR1 := R.out.cell 1
              have qR2 := R.out.cell 2
              have qR3 := R.out.cell 3
              have qR4 := R.out.cell 4
              have qR5 := R.out.cell 5
              simp at qR0 qR1 qR2 qR3 qR4 qR5
              have qRl := R.out.lt
              have qRf := R.out.frozen
              have nQR : q ≠ w.heap.size := by have := Hgl.out; have := S1.out; have := S2.out; have := S3.out; have := Qq.out; have := Qw.out; have := S4.out; have := S14.out; have := S15.out; have := S16.out; have := S21.out; omega
              have nRQ : w.heap.size ≠ q := fun e => nQR e.symm
              go_wp2
              clear qQ0 qQ1 qQ2 qQ3 qQ4 qQ5 qQl qQf qR0 qR1 qR2 qR3 qR4 qR5 qRl qRf nQR nRQ
              have HR9 := (show Blk (World.setCell (World.setCell (World.setCell (World.setCell (World.setCell (World.setCell (World.setCell w21 ⟨q, 5, none⟩ (.slice A8 (hn + 1) c8)) ⟨w.heap.size, 0, none⟩ (.int .i64 a)) ⟨w.heap.size, 1, none⟩ (.int .i64 b)) ⟨w.heap.size, 2, none⟩ (.int .i64 200)) ⟨w.heap.size, 3, none⟩ (.int .i64 10)) ⟨w.heap.size, 4, none⟩ (.int .i64 y)) ⟨w.heap.size, 5, none⟩ (.slice A8 (hn + 1) c8)) (w.heap.size) 51 #[.int .i64 a, .int .i64 b, .int .i64 200, .int .i64 10, .int .i64 y, .slice A8 (hn + 1) c8] by have h9 := (((((((R.out.far (p := ⟨q, 5, none⟩) (show w.heap.size ≠ q by have := Hgl.out; have := S1.out; have := S2.out; have := S3.out; have := Qq.out; have := Qw.out; have := S4.out; have := S14.out; have := S15.out; have := S16.out; have := S21.out; omega) (.slice A8 (hn + 1) c8)).set 0 (.int .i64 a)).set 1 (.int .i64 b)).set 2 (.int .i64 200)).set 3 (.int .i64 10)).set 4 (.int .i64 y)).set 5 (.slice A8 (hn + 1) c8)); simpa using h9)
              have k0 := HR9.cell 0
              have k1 := HR9.cell 1
              have k2 := HR9.cell 2
              have k3 := HR9.cell 3
              have k4 := HR9.cell 4
              have k5 := HR9.cell 5
              simp at k0 k1 k2 k3 k4 k5
              exact bodyPost_ret (v := .agg #[.int .i64 a, .int .i64 b, .int .i64 200, .int .i64 10, .int .i64 y, .slice A8 (hn + 1) c8]) (by simp [results, Tryz.results77, go_sem, k0, k1, k2, k3, k4, k5]) rfl ⟨⟨_, _, _, _, _, _, hn + 1, by omega, rfl, ((((((((R21.out.st (p := ⟨q, 5, none⟩) (by intro k9 hk9; have := GR21.out k9 hk9; show k9 ≠ q; have := Hgl.out; have := S1.out; have := S2.out; have := S3.out; have := Qq.out; have := Qw.out; have := S4.out; have := S14.out; have := S15.out; have := S16.out; have := S21.out; omega) (.slice A8 (hn + 1) c8)).st (p := ⟨w.heap.size, 0, none⟩) (by intro k9 hk9; have := GR21.out k9 hk9; show k9 ≠ w.heap.size; have := Hgl.out; have := S1.out; have := S2.out; have := S3.out; have := Qq.out; have := Qw.out; have := S4.out; have := S14.out; have := S15.out; have := S16.out; have := S21.out; omega) (.int .i64 a)).st (p := ⟨w.heap.size, 1, none⟩) (by intro k9 hk9; have := GR21.out k9 hk9; show k9 ≠ w.heap.size; have := Hgl.out; have := S1.out; have := S2.out; have := S3.out; have := Qq.out; have := Qw.out; have := S4.out; have := S14.out; have := S15.out; have := S16.out; have := S21.out; omega) (.int .i64 b)).st (p := ⟨w.heap.size, 2, none⟩) (by intro k9 hk9; have := GR21.out k9 hk9; show k9 ≠ w.heap.size; have := Hgl.out; have := S1.out; have := S2.out; have := S3.out; have := Qq.out; have := Qw.out; have := S4.out; have := S14.out; have := S15.out; have := S16.out; have := S21.out; omega) (.int .i64 200)).st (p := ⟨w.heap.size, 3, none⟩) (by intro k9 hk9; have := GR21.out k9 hk9; show k9 ≠ w.heap.size; have := Hgl.out; have := S1.out; have := S2.out; have := S3.out; have := Qq.out; have := Qw.out; have := S4.out; have := S14.out; have := S15.out; have := S16.out; have := S21.out; omega) (.int .i64 10)).st (p := ⟨w.heap.size, 4, none⟩) (by intro k9 hk9; have := GR21.out k9 hk9; show k9 ≠ w.heap.size; have := Hgl.out; have := S1.out; have := S2.out; have := S3.out; have := Qq.out; have := Qw.out; have := S4.out; have := S14.out; have := S15.out; have := S16.out; have := S21.out; omega) (.int .i64 y)).st (p := ⟨w.heap.size, 5, none⟩) (by intro k9 hk9; have := GR21.out k9 hk9; show k9 ≠ w.heap.size; have := Hgl.out; have := S1.out; have := S2.out; have := S3.out; have := Qq.out; have := Qw.out; have := S4.out; have := S14.out; have := S15.out; have := S16.out; have := S21.out; omega) (.slice A8 (hn + 1) c8))).mono (by have := S1.out; have := S2.out; have := S3.out; have := Qq.out; have := Qw.out; have := S4.out; have := S14.out; have := S15.out; have := S16.out; have := S21.out; omega)⟩, (((((((Hc21.out.st (p := ⟨q, 5, none⟩) (show g < q by have := Hgl.out; have := S1.out; have := S2.out; have := S3.out; have := Qq.out; have := Qw.out; have := S4.out; have := S14.out; have := S15.out; have := S16.out; have := S21.out; omega) (.slice A8 (hn + 1) c8)).st (p := ⟨w.heap.size, 0, none⟩) (show g < w.heap.size by have := Hgl.out; have := S1.out; have := S2.out; have := S3.out; have := Qq.out; have := Qw.out; have := S4.out; have := S14.out; have := S15.out; have := S16.out; have := S21.out; omega) (.int .i64 a)).st (p := ⟨w.heap.size, 1, none⟩) (show g < w.heap.size by have := Hgl.out; have := S1.out; have := S2.out; have := S3.out; have := Qq.out; have := Qw.out; have := S4.out; have := S14.out; have := S15.out; have := S16.out; have := S21.out; omega) (.int .i64 b)).st (p := ⟨w.heap.size, 2, none⟩) (show g < w.heap.size by have := Hgl.out; have := S1.out; have := S2.out; have := S3.out; have := Qq.out; have := Qw.out; have := S4.out; have := S14.out; have := S15.out; have := S16.out; have := S21.out; omega) (.int .i64 200)).st (p := ⟨w.heap.size, 3, none⟩) (show g < w.heap.size by have := Hgl.out; have := S1.out; have := S2.out; have := S3.out; have := Qq.out; have := Qw.out; have := S4.out; have := S14.out; have := S15.out; have := S16.out; have := S21.out; omega) (.int .i64 10)).st (p := ⟨w.heap.size, 4, none⟩) (show g < w.heap.size by have := Hgl.out; have := S1.out; have := S2.out; have := S3.out; have := Qq.out; have := Qw.out; have := S4.out; have := S14.out; have := S15.out; have := S16.out; have := S21.out; omega) (.int .i64 y)).st (p := ⟨w.heap.size, 5, none⟩) (show g < w.heap.size by have := Hgl.out; have := S1.out; have := S2.out; have := S3.out; have := Qq.out; have := Qw.out; have := S4.out; have := S14.out; have := S15.out; have := S16.out; have := S21.out; omega) (.slice A8 (hn + 1) c8)).mono (by omega), (((((((Hd21.out.st (p := ⟨q, 5, none⟩) (show w.heap.size ≤ q by have := Hgl.out; have := S1.out; have := S2.out; have := S3.out; have := Qq.out; have := Qw.out; have := S4.out; have := S14.out; have := S15.out; have := S16.out; have := S21.out; omega) (.slice A8 (hn + 1) c8)).st (p := ⟨w.heap.size, 0, none⟩) (show w.heap.size ≤ w.heap.size by have := Hgl.out; have := S1.out; have := S2.out; have := S3.out; have := Qq.out; have := Qw.out; have := S4.out; have := S14.out; have := S15.out; have := S16.out; have := S21.out; omega) (.int .i64 a)).st (p := ⟨w.heap.size, 1, none⟩) (show w.heap.size ≤ w.heap.size by have := Hgl.out; have := S1.out; have := S2.out; have := S3.out; have := Qq.out; have := Qw.out; have := S4.out; have := S14.out; have := S15.out; have := S16.out; have := S21.out; omega) (.int .i64 b)).st (p := ⟨w.heap.size, 2, none⟩) (show w.heap.size ≤ w.heap.size by have := Hgl.out; have := S1.out; have := S2.out; have := S3.out; have := Qq.out; have := Qw.out; have := S4.out; have := S14.out; have := S15.out; have := S16.out; have := S21.out; omega) (.int .i64 200)).st (p := ⟨w.heap.size, 3, none⟩) (show w.heap.size ≤ w.heap.size by have := Hgl.out; have := S1.out; have := S2.out; have := S3.out; have := Qq.out; have := Qw.out; have := S4.out; have := S14.out; have := S15.out; have := S16.out; have := S21.out; omega) (.int .i64 10)).st (p := ⟨w.heap.size, 4, none⟩) (show w.heap.size ≤ w.heap.size by have := Hgl.out; have := S1.out; have := S2.out; have := S3.out; have := Qq.out; have := Qw.out; have := S4.out; have := S14.out; have := S15.out; have := S16.out; have := S21.out; omega) (.int .i64 y)).st (p := ⟨w.heap.size, 5, none⟩) (show w.heap.size ≤ w.heap.size by have := Hgl.out; have := S1.out; have := S2.out; have := S3.out; have := Qq.out; have := Qw.out; have := S4.out; have := S14.out; have := S15.out; have := S16.out; have := S21.out; omega) (.slice A8 (hn + 1) c8))⟩
            · by_cases ep44 : p4 = 4
              · have zp44 : (p4 == 4) = true := by rw [ep44]; rfl
                have zp40 : (p4 == 0) = false := by rw [ep44]; rfl
                have zp41 : (p4 == 1) = false := by rw [ep44]; rfl
                have zp42 : (p4 == 2) = false := by rw [ep44]; rfl
                have zp43 : (p4 == 3) = false := by rw [ep44]; rfl
                clear ep40 ep41 ep42 ep43 ep44
                by_cases h0 : 0 < hn
                · obtain ⟨gl, cl, hfl, hgl1, hgl2, hmcl, hcml⟩ := HV.out.pos h0
                  injection hfl with hf1 hf2 hf3; subst hf1; subst hf3; clear hf2
                  have h0i : (0 : Int) < (hn : Int) := by omega
                  obtain ⟨u1, hu1⟩ := HV.out.cell (j := 1) (by omega)
                  have hfz := HV.out.frozen
                  have hll := (HV.out.lt gl rfl).2
                  have qQ0 := Q.out.cell 0
                  have qQ1 := Q.out.cell 1
                  have qQ2 := Q.out.cell 2
                  have qQ3 := Q.out.cell 3
                  have qQ4 := Q.out.cell 4
                  have qQ5 := Q.out.cell 5
                  simp at qQ0 qQ1 qQ2 qQ3 qQ4 qQ5
                  have qQl := Q.out.lt
                  have qQf := Q.out.frozen
                  go_wp2_with fail
                  go_region
                  clear hu1 hfz hll qQ0 qQ1 qQ2 qQ3 qQ4 qQ5 qQl qQf
                  generalize wrap64 (wrap64 (-u1) - 1) = i9
                  obtain ⟨wz, hw9⟩ : ∃ x, x = World.drew (World.setCell w16 ⟨gl, 1, none⟩ (.int .i64 i9)) := ⟨_, rfl⟩
                  rw [← hw9]
                  have hd22 : Dg g (World.setCell w16 ⟨gl, 1, none⟩ (.int .i64 i9)) wz := by rw [hw9]; exact Dg.drew (Dg.refl _ _)
                  have hc22 : Cur wz g (k + 62) := by rw [hw9]; exact Cur.drew (Hc16.out.st (p := ⟨gl, 1, none⟩) (show g < gl by have := Hgl.out; have := hgl1; have := S1.out; have := S2.out; have := S3.out; have := Qq.out; have := Qw.out; have := S4.out; have := S14.out; have := S15.out; have := S16.out; omega) (.int .i64 i9))
                  have S22 := Lib.hid (show w16.heap.size + 0 ≤ wz.heap.size by have h9 := hd22.size; (try simp only [World.size_alloc, World.size_setCell] at h9); omega)
                  have NR := Lib.hid ((R.out.far (p := ⟨gl, 1, none⟩) (show w.heap.size ≠ gl by have := Hgl.out; have := hgl1; have := S1.out; have := S2.out; have := S3.out; have := Qq.out; have := Qw.out; have := S4.out; have := S14.out; have := S15.out; have := S16.out; have := S22.out; omega) (.int .i64 i9)).dg hd22 (show w.heap.size ≠ g by have := Hgl.out; have := hgl1; have := S1.out; have := S2.out; have := S3.out; have := Qq.out; have := Qw.out; have := S4.out; have := S14.out; have := S15.out; have := S16.out; have := S22.out; omega))
                  have NQ := Lib.hid ((Q.out.far (p := ⟨gl, 1, none⟩) (show q ≠ gl by have := Hgl.out; have := hgl1; have := S1.out; have := S2.out; have := S3.out; have := Qq.out; have := Qw.out; have := S4.out; have := S14.out; have := S15.out; have := S16.out; have := S22.out; omega) (.int .i64 i9)).dg hd22 (show q ≠ g by have := Hgl.out; have := hgl1; have := S1.out; have := S2.out; have := S3.out; have := Qq.out; have := Qw.out; have := S4.out; have := S14.out; have := S15.out; have := S16.out; have := S22.out; omega))
                  have R := NR; clear NR
                  have Q := NQ; clear NQ
                  have HV := Lib.hid ((HV.out.set (1) i9).dg hd22 (show g < w14.heap.size by have := Hgl.out; have := hgl1; have := S1.out; have := S2.out; have := S3.out; have := Qq.out; have := Qw.out; have := S4.out; have := S14.out; have := S15.out; have := S16.out; have := S22.out; omega))
                  have Hc22 := Lib.hid (hc22.mono (j := k + 62) (by omega))
                  have Hd22 := Lib.hid ((Hd16.out.st (p := ⟨gl, 1, none⟩) (show w.heap.size ≤ gl by have := Hgl.out; have := hgl1; have := S1.out; have := S2.out; have := S3.out; have := Qq.out; have := Qw.out; have := S4.out; have := S14.out; have := S15.out; have := S16.out; have := S22.out; omega) (.int .i64 i9)).trans hd22)
                  clear hc22 hd22
                  clear hw9
                  have qQ0 := Q.out.cell 0
                  have qQ1 := Q.out.cell 1
                  have qQ2 := Q.out.cell 2
                  have qQ3 := Q.out.cell 3
                  have qQ4 := Q.out.cell 4
                  have qQ5 := Q.out.cell 5
                  simp at qQ0 qQ1 qQ2 qQ3 qQ4 qQ5
                  have qQl := Q.out.lt
                  have qR0 := R.out.cell 0
                  have qR1 := R.out.cell 1
                  have qR2 := R.out.cell 2
                  have qR3 := R.out.cell 3
                  have qR4 := R.out.cell 4
                  have qR5 := R.out.cell 5
                  simp at qR0 qR1 qR2 qR3 qR4 qR5
                  have qRl := R.out.lt
                  have qRf := R.out.frozen
                  have nQR : q ≠ w.heap.size := by have := Hgl.out; have := hgl1; have := S1.out; have := S2.out; have := S3.out; have := Qq.out; have := Qw.out; have := S4.out; have := S14.out; have := S15.out; have := S16.out; have := S22.out; omega
                  have nRQ : w.heap.size ≠ q := fun e => nQR e.symm
                  go_wp2
                  clear qQ0 qQ1 qQ2 qQ3 qQ4 qQ5 qQl qR0 qR1 qR2 qR3 qR4 qR5 qRl qRf nQR nRQ
                  have HR9 := (show Blk (World.setCell (World.setCell (World.setCell (World.setCell (World.setCell (World.setCell wz ⟨w.heap.size, 0, none⟩ (.int .i64 a)) ⟨w.heap.size, 1, none⟩ (.int .i64 b)) ⟨w.heap.size, 2, none⟩ (.int .i64 200)) ⟨w.heap.size, 3, none⟩ (.int .i64 10)) ⟨w.heap.size, 4, none⟩ (.int .i64 y)) ⟨w.heap.size, 5, none⟩ (.slice (some ⟨gl, 0, none⟩) hn c9)) (w.heap.size) 51 #[.int .i64 a, .int .i64 b, .int .i64 200, .int .i64 10, .int .i64 y, .slice (some ⟨gl, 0, none⟩) hn c9] by have h9 := ((((((R.out.set 0 (.int .i64 a)).set 1 (.int .i64 b)).set 2 (.int .i64 200)).set 3 (.int .i64 10)).set 4 (.int .i64 y)).set 5 (.slice (some ⟨gl, 0, none⟩) hn c9)); simpa using h9)
                  have k0 := HR9.cell 0
                  have k1 := HR9.cell 1
                  have k2 := HR9.cell 2
                  have k3 := HR9.cell 3
                  have k4 := HR9.cell 4
                  have k5 := HR9.cell 5
                  simp at k0 k1 k2 k3 k4 k5
                  exact bodyPost_ret (v := .agg #[.int .i64 a, .int .i64 b, .int .i64 200, .int .i64 10, .int .i64 y, .slice (some ⟨gl, 0, none⟩) hn c9]) (by simp [results, Tryz.results77, go_sem, k0, k1, k2, k3, k4, k5]) rfl ⟨⟨_, _, _, _, _, _, hn, by omega, rfl, (((((((HV.out.st (p := ⟨w.heap.size, 0, none⟩) (by intro k9 hk9; have := GHV.out k9 hk9; show k9 ≠ w.heap.size; have := Hgl.out; have := hgl1; have := S1.out; have := S2.out; have := S3.out; have := Qq.out; have := Qw.out; have := S4.out; have := S14.out; have := S15.out; have := S16.out; have := S22.out; omega) (.int .i64 a)).st (p := ⟨w.heap.size, 1, none⟩) (by intro k9 hk9; have := GHV.out k9 hk9; show k9 ≠ w.heap.size; have := Hgl.out; have := hgl1; have := S1.out; have := S2.out; have := S3.out; have := Qq.out; have := Qw.out; have := S4.out; have := S14.out; have := S15.out; have := S16.out; have := S22.out; omega) (.int .i64 b)).st (p := ⟨w.heap.size, 2, none⟩) (by intro k9 hk9; have := GHV.out k9 hk9; show k9 ≠ w.heap.size; have := Hgl.out; have := hgl1; have := S1.out; have := S2.out; have := S3.out; have := Qq.out; have := Qw.out; have := S4.out; have := S14.out; have := S15.out; have := S16.out; have := S22.out; omega) (.int .i64 200)).st (p := ⟨w.heap.size, 3, none⟩) (by intro k9 hk9; have := GHV.out k9 hk9; show k9 ≠ w.heap.size; have := Hgl.out; have := hgl1; have := S1.out; have := S2.out; have := S3.out; have := Qq.out; have := Qw.out; have := S4.out; have := S14.out; have := S15.out; have := S16.out; have := S22.out; omega) (.int .i64 10)).st (p := ⟨w.heap.size, 4, none⟩) (by intro k9 hk9; have := GHV.out k9 hk9; show k9 ≠ w.heap.size; have := Hgl.out; have := hgl1; have := S1.out; have := S2.out; have := S3.out; have := Qq.out; have := Qw.out; have := S4.out; have := S14.out; have := S15.out; have := S16.out; have := S22.out; omega) (.int .i64 y)).st (p := ⟨w.heap.size, 5, none⟩) (by intro k9 hk9; have := GHV.out k9 hk9; show k9 ≠ w.heap.size; have := Hgl.out; have := hgl1; have := S1.out; have := S2.out; have := S3.out; have := Qq.out; have := Qw.out; have := S4.out; have := S14.out; have := S15.out; have := S16.out; have := S22.out; omega) (.slice (some ⟨gl, 0, none⟩) hn c9))).mono (by have := S1.out; have := S2.out; have := S3.out; have := Qq.out; have := Qw.out; have := S4.out; have := S14.out; have := S15.out; have := S16.out; have := S22.out; omega)⟩, ((((((Hc22.out.st (p := ⟨w.heap.size, 0, none⟩) (show g < w.heap.size by have := Hgl.out; have := hgl1; have := S1.out; have := S2.out; have := S3.out; have := Qq.out; have := Qw.out; have := S4.out; have := S14.out; have := S15.out; have := S16.out; have := S22.out; omega) (.int .i64 a)).st (p := ⟨w.heap.size, 1, none⟩) (show g < w.heap.size by have := Hgl.out; have := hgl1; have := S1.out; have := S2.out; have := S3.out; have := Qq.out; have := Qw.out; have := S4.out; have := S14.out; have := S15.out; have := S16.out; have := S22.out; omega) (.int .i64 b)).st (p := ⟨w.heap.size, 2, none⟩) (show g < w.heap.size by have := Hgl.out; have := hgl1; have := S1.out; have := S2.out; have := S3.out; have := Qq.out; have := Qw.out; have := S4.out; have := S14.out; have := S15.out; have := S16.out; have := S22.out; omega) (.int .i64 200)).st (p := ⟨w.heap.size, 3, none⟩) (show g < w.heap.size by have := Hgl.out; have := hgl1; have := S1.out; have := S2.out; have := S3.out; have := Qq.out; have := Qw.out; have := S4.out; have := S14.out; have := S15.out; have := S16.out; have := S22.out; omega) (.int .i64 10)).st (p := ⟨w.heap.size, 4, none⟩) (show g < w.heap.size by have := Hgl.out; have := hgl1; have := S1.out; have := S2.out; have := S3.out; have := Qq.out; have := Qw.out; have := S4.out; have := S14.out; have := S15.out; have := S16.out; have := S22.out; omega) (.int .i64 y)).st (p := ⟨w.heap.size, 5, none⟩) (show g < w.heap.size by have := Hgl.out; have := hgl1; have := S1.out; have := S2.out; have := S3.out; have := Qq.out; have := Qw.out; have := S4.out; have := S14.out; have := S15.out; have := S16.out; have := S22.out; omega) (.slice (some ⟨gl, 0, none⟩) hn c9)).mono (by omega), ((((((Hd22.out.st (p := ⟨w.heap.size, 0, none⟩) (show w.heap.size ≤ w.heap.size by have := Hgl.out; have := hgl1; have := S1.out; have := S2.out; have := S3.out; have := Qq.out; have := Qw.out; have := S4.out; have := S14.out; have := S15.out; have := S16.out; have := S22.out; omega) (.int .i64 a)).st (p := ⟨w.heap.size, 1, none⟩) (show w.heap.size ≤ w.heap.size by have := Hgl.out; have := hgl1; have := S1.out; have := S2.out; have := S3.out; have := Qq.out; have := Qw.out; have := S4.out; have := S14.out; have := S15.out; have := S16.out; have := S22.out; omega) (.int .i64 b)).st (p := ⟨w.heap.size, 2, none⟩) (show w.heap.size ≤ w.heap.size by have := Hgl.out; have := hgl1; have := S1.out; have := S2.out; have := S3.out; have := Qq.out; have := Qw.out; have := S4.out; have := S14.out; have := S15.out; have := S16.out; have := S22.out; omega) (.int .i64 200)).st (p := ⟨w.heap.size, 3, none⟩) (show w.heap.size ≤ w.heap.size by have := Hgl.out; have := hgl1; have := S1.out; have := S2.out; have := S3.out; have := Qq.out; have := Qw.out; have := S4.out; have := S14.out; have := S15.out; have := S16.out; have := S22.out; omega) (.int .i64 10)).st (p := ⟨w.heap.size, 4, none⟩) (show w.heap.size ≤ w.heap.size by have := Hgl.out; have := hgl1; have := S1.out; have := S2.out; have := S3.out; have := Qq.out; have := Qw.out; have := S4.out; have := S14.out; have := S15.out; have := S16.out; have := S22.out; omega) (.int .i64 y)).st (p := ⟨w.heap.size, 5, none⟩) (show w.heap.size ≤ w.heap.size by have := Hgl.out; have := hgl1; have := S1.out; have := S2.out; have := S3.out; have := Qq.out; have := Qw.out; have := S4.out; have := S14.out; have := S15.out; have := S16.out; have := S22.out; omega) (.slice (some ⟨gl, 0, none⟩) hn c9))⟩
                · have h0i : ¬ (0 : Int) < (hn : Int) := by omega
                  have qQ0 := Q.out.cell 0
                  have qQ1 := Q.out.cell 1
                  have qQ2 := Q.out.cell 2
                  have qQ3 := Q.out.cell 3
                  have qQ4 := Q.out.cell 4
                  have qQ5 := Q.out.cell 5
                  simp at qQ0 qQ1 qQ2 qQ3 qQ4 qQ5
                  have qQl := Q.out.lt
                  have qR0 := R.out.cell 0
                  have qR1 := R.out.cell 1
                  have qR2 := R.out.cell 2
                  have qR3 := R.out.cell 3
                  have qR4 := R.out.cell 4
                  have qR5 := R.out.cell 5
                  simp at qR0 qR1 qR2 qR3 qR4 qR5
                  have qRl := R.out.lt
                  have qRf := R.out.frozen
                  have nQR : q ≠ w.heap.size := by have := Hgl.out; have := S1.out; have := S2.out; have := S3.out; have := Qq.out; have := Qw.out; have := S4.out; have := S14.out; have := S15.out; have := S16.out; omega
                  have nRQ : w.heap.size ≠ q := fun e => nQR e.symm
                  go_wp2
                  clear qQ0 qQ1 qQ2 qQ3 qQ4 qQ5 qQl qR0 qR1 qR2 qR3 qR4 qR5 qRl qRf nQR nRQ
                  have HR9 := (show Blk (World.setCell (World.setCell (World.setCell (World.setCell (World.setCell (World.setCell w16 ⟨w.heap.size, 0, none⟩ (.int .i64 a)) ⟨w.heap.size, 1, none⟩ (.int .i64 b)) ⟨w.heap.size, 2, none⟩ (.int .i64 200)) ⟨w.heap.size, 3, none⟩ (.int .i64 10)) ⟨w.heap.size, 4, none⟩ (.int .i64 y)) ⟨w.heap.size, 5, none⟩ (.slice A9 hn c9)) (w.heap.size) 51 #[.int .i64 a, .int .i64 b, .int .i64 200, .int .i64 10, .int .i64 y, .slice A9 hn c9] by have h9 := ((((((R.out.set 0 (.int .i64 a)).set 1 (.int .i64 b)).set 2 (.int .i64 200)).set 3 (.int .i64 10)).set 4 (.int .i64 y)).set 5 (.slice A9 hn c9)); simpa using h9)
                  have k0 := HR9.cell 0
                  have k1 := HR9.cell 1
                  have k2 := HR9.cell 2
                  have k3 := HR9.cell 3
                  have k4 := HR9.cell 4
                  have k5 := HR9.cell 5
                  simp at k0 k1 k2 k3 k4 k5
                  exact bodyPost_ret (v := .agg #[.int .i64 a, .int .i64 b, .int .i64 200, .int .i64 10, .int .i64 y, .slice A9 hn c9]) (by simp [results, Tryz.results77, go_sem, k0, k1, k2, k3, k4, k5]) rfl ⟨⟨_, _, _, _, _, _, hn, by omega, rfl, (((((((HV.out.st (p := ⟨w.heap.size, 0, none⟩) (by intro k9 hk9; have := GHV.out k9 hk9; show k9 ≠ w.heap.size; have := Hgl.out; have := S1.out; have := S2.out; have := S3.out; have := Qq.out; have := Qw.out; have := S4.out; have := S14.out; have := S15.out; have := S16.out; omega) (.int .i64 a)).st (p := ⟨w.heap.size, 1, none⟩) (by intro k9 hk9; have := GHV.out k9 hk9; show k9 ≠ w.heap.size; have := Hgl.out; have := S1.out; have := S2.out; have := S3.out; have := Qq.out; have := Qw.out; have := S4.out; have := S14.out; have := S15.out; have := S16.out; omega) (.int .i64 b)).st (p := ⟨w.heap.size, 2, none⟩) (by intro k9 hk9; have := GHV.out k9 hk9; show k9 ≠ w.heap.size; have := Hgl.out; have := S1.out; have := S2.out; have := S3.out; have := Qq.out; have := Qw.out; have := S4.out; have := S14.out; have := S15.out; have := S16.out; omega) (.int .i64 200)).st (p := ⟨w.heap.size, 3, none⟩) (by intro k9 hk9; have := GHV.out k9 hk9; show k9 ≠ w.heap.size; have := Hgl.out; have := S1.out; have := S2.out; have := S3.out; have := Qq.out; have := Qw.out; have := S4.out; have := S14.out; have := S15.out; have := S16.out; omega) (.int .i64 10)).st (p := ⟨w.heap.size, 4, none⟩) (by intro k9 hk9; have := GHV.out k9 hk9; show k9 ≠ w.heap.size; have := Hgl.out; have := S1.out; have := S2.out; have := S3.out; have := Qq.out; have := Qw.out; have := S4.out; have := S14.out; have := S15.out; have := S16.out; omega) (.int .i64 y)).st (p := ⟨w.heap.size, 5, none⟩) (by intro k9 hk9; have := GHV.out k9 hk9; show k9 ≠ w.heap.size; have := Hgl.out; have := S1.out; have := S2.out; have := S3.out; have := Qq.out; have := Qw.out; have := S4.out; have := S14.out; have := S15.out; have := S16.out; omega) (.slice A9 hn c9))).mono (by have := S1.out; have := S2.out; have := S3.out; have := Qq.out; have := Qw.out; have := S4.out; have := S14.out; have := S15.out; have := S16.out; omega)⟩, ((((((Hc16.out.st (p := ⟨w.heap.size, 0, none⟩) (show g < w.heap.size by have := Hgl.out; have := S1.out; have := S2.out; have := S3.out; have := Qq.out; have := Qw.out; have := S4.out; have := S14.out; have := S15.out; have := S16.out; omega) (.int .i64 a)).st (p := ⟨w.heap.size, 1, none⟩) (show g < w.heap.size by have := Hgl.out; have := S1.out; have := S2.out; have := S3.out; have := Qq.out; have := Qw.out; have := S4.out; have := S14.out; have := S15.out; have := S16.out; omega) (.int .i64 b)).st (p := ⟨w.heap.size, 2, none⟩) (show g < w.heap.size by have := Hgl.out; have := S1.out; have := S2.out; have := S3.out; have := Qq.out; have := Qw.out; have := S4.out; have := S14.out; have := S15.out; have := S16.out; omega) (.int .i64 200)).st (p := ⟨w.heap.size, 3, none⟩) (show g < w.heap.size by have := Hgl.out; have := S1.out; have := S2.out; have := S3.out; have := Qq.out; have := Qw.out; have := S4.out; have := S14.out; have := S15.out; have := S16.out; omega) (.int .i64 10)).st (p := ⟨w.heap.size, 4, none⟩) (show g < w.heap.size by have := Hgl.out; have := S1.out; have := S2.out; have := S3.out; have := Qq.out; have := Qw.out; have := S4.out; have := S14.out; have := S15.out; have := S16.out; omega) (.int .i64 y)).st (p := ⟨w.heap.size, 5, none⟩) (show g < w.heap.size by have := Hgl.out; have := S1.out; have := S2.out; have := S3.out; have := Qq.out; have := Qw.out; have := S4.out; have := S14.out; have := S15.out; have := S16.out; omega) (.slice A9 hn c9)).mono (by omega), ((((((Hd16.out.st (p := ⟨w.heap.size, 0, none⟩) (show w.heap.size ≤ w.heap.size by have := Hgl.out; have := S1.out; have := S2.out; have := S3.out; have := Qq.out; have := Qw.out; have := S4.out; have := S14.out; have := S15.out; have := S16.out; omega) (.int .i64 a)).st (p := ⟨w.heap.size, 1, none⟩) (show w.heap.size ≤ w.heap.size by have := Hgl.out; have := S1.out; have := S2.out; have := S3.out; have := Qq.out; have := Qw.out; have := S4.out; have := S14.out; have := S15.out; have := S16.out; omega) (.int .i64 b)).st (p := ⟨w.heap.size, 2, none⟩) (show w.heap.size ≤ w.heap.size by have := Hgl.out; have := S1.out; have := S2.out; have := S3.out; have := Qq.out; have := Qw.out; have := S4.out; have := S14.out; have := S15.out; have := S16.out; omega) (.int .i64 200)).st (p := ⟨w.heap.size, 3, none⟩) (show w.heap.size ≤ w.heap.size by have := Hgl.out; have := S1.out; have := S2.out; have := S3.out; have := Qq.out; have := Qw.out; have := S4.out; have := S14.out; have := S15.out; have := S16.out; omega) (.int .i64 10)).st (p := ⟨w.heap.size, 4, none⟩) (show w.heap.size ≤ w.heap.size by have := Hgl.out; have := S1.out; have := S2.out; have := S3.out; have := Qq.out; have := Qw.out; have := S4.out; have := S14.out; have := S15.out; have := S16.out; omega) (.int .i64 y)).st (p := ⟨w.heap.size, 5, none⟩) (show w.heap.size ≤ w.heap.size by have := Hgl.out; have := S1.out; have := S2.out; have := S3.out; have := Qq.out; have := Qw.out; have := S4.out; have := S14.out; have := S15.out; have := S16.out; omega) (.slice A9 hn c9))⟩
              · have zp40 : (p4 == 0) = false := beq_eq_false_iff_ne.2 ep40
                have zp41 : (p4 == 1) = false := beq_eq_false_iff_ne.2 ep41
                have zp42 : (p4 == 2) = false := beq_eq_false_iff_ne.2 ep42
                have zp43 : (p4 == 3) = false := beq_eq_false_iff_ne.2 ep43
                have zp44 : (p4 == 4) = false := beq_eq_false_iff_ne.2 ep44
                clear ep40 ep41 ep42 ep43 ep44
                have qQ0 := Q.out.cell 0
                have qQ1 := Q.out.cell 1
                have qQ2 := Q.out.cell 2
                have qQ3 := Q.out.cell 3
                have qQ4 := Q.out.cell 4
                have qQ5 := Q.out.cell 5
                simp at qQ0 qQ1 qQ2 qQ3 qQ4 qQ5
                have qQl := Q.out.lt
                have qR0 := R.out.cell 0
                have qR1 := R.out.cell 1
                have qR2 := R.out.cell 2
                have qR3 := R.out.cell 3
                have qR4 := R.out.cell 4
                have qR5 := R.out.cell 5
                simp at qR0 qR1 qR2 qR3 qR4 qR5
                have qRl := R.out.lt
                have qRf := R.out.frozen
                have nQR : q ≠ w.heap.size := by have := Hgl.out; have := S1.out; have := S2.out; have := S3.out; have := Qq.out; have := Qw.out; have := S4.out; have := S14.out; have := S15.out; have := S16.out; omega
                have nRQ : w.heap.size ≠ q := fun e => nQR e.symm
                go_wp2
                clear qQ0 qQ1 qQ2 qQ3 qQ4 qQ5 qQl qR0 qR1 qR2 qR3 qR4 qR5 qRl qRf nQR nRQ
                have HR9 := (show Blk (World.setCell (World.setCell (World.setCell (World.setCell (World.setCell (World.setCell w16 ⟨w.heap.size, 0, none⟩ (.int .i64 a)) ⟨w.heap.size, 1, none⟩ (.int .i64 b)) ⟨w.heap.size, 2, none⟩ (.int .i64 200)) ⟨w.heap.size, 3, none⟩ (.int .i64 10)) ⟨w.heap.size, 4, none⟩ (.int .i64 y)) ⟨w.heap.size, 5, none⟩ (.slice A9 hn c9)) (w.heap.size) 51 #[.int .i64 a, .int .i64 b, .int .i64 200, .int .i64 10, .int .i64 y, .slice A9 hn c9] by have h9 := ((((((R.out.set 0 (.int .i64 a)).set 1 (.int .i64 b)).set 2 (.int .i64 200)).set 3 (.int .i64 10)).set 4 (.int .i64 y)).set 5 (.slice A9 hn c9)); simpa using h9)
                have k0 := HR9.cell 0
                have k1 := HR9.cell 1
                have k2 := HR9.cell 2
                have k3 := HR9.cell 3
                have k4 := HR9.cell 4
                have k5 := HR9.cell 5
                simp at k0 k1 k2 k3 k4 k5
                exact bodyPost_ret (v := .agg #[.int .i64 a, .int .i64 b, .int .i64 200, .int .i64 10, .int .i64 y, .slice A9 hn c9]) (by simp [results, Tryz.results77, go_sem, k0, k1, k2, k3, k4, k5]) rfl ⟨⟨_, _, _, _, _, _, hn, by omega, rfl, (((((((HV.out.st (p := ⟨w.heap.size, 0, none⟩) (by intro k9 hk9; have := GHV.out k9 hk9; show k9 ≠ w.heap.size; have := Hgl.out; have := S1.out; have := S2.out; have := S3.out; have := Qq.out; have := Qw.out; have := S4.out; have := S14.out; have := S15.out; have := S16.out; omega) (.int .i64 a)).st (p := ⟨w.heap.size, 1, none⟩) (by intro k9 hk9; have := GHV.out k9 hk9; show k9 ≠ w.heap.size; have := Hgl.out; have := S1.out; have := S2.out; have := S3.out; have := Qq.out; have := Qw.out; have := S4.out; have := S14.out; have := S15.out; have := S16.out; omega) (.int .i64 b)).st (p := ⟨w.heap.size, 2, none⟩) (by intro k9 hk9; have := GHV.out k9 hk9; show k9 ≠ w.heap.size; have := Hgl.out; have := S1.out; have := S2.out; have := S3.out; have := Qq.out; have := Qw.out; have := S4.out; have := S14.out; have := S15.out; have := S16.out; omega) (.int .i64 200)).st (p := ⟨w.heap.size, 3, none⟩) (by intro k9 hk9; have := GHV.out k9 hk9; show k9 ≠ w.heap.size; have := Hgl.out; have := S1.out; have := S2.out; have := S3.out; have := Qq.out; have := Qw.out; have := S4.out; have := S14.out; have := S15.out; have := S16.out; omega) (.int .i64 10)).st (p := ⟨w.heap.size, 4, none⟩) (by intro k9 hk9; have := GHV.out k9 hk9; show k9 ≠ w.heap.size; have := Hgl.out; have := S1.out; have := S2.out; have := S3.out; have := Qq.out; have := Qw.out; have := S4.out; have := S14.out; have := S15.out; have := S16.out; omega) (.int .i64 y)).st (p := ⟨w.heap.size, 5, none⟩) (by intro k9 hk9; have := GHV.out k9 hk9; show k9 ≠ w.heap.size; have := Hgl.out; have := S1.out; have := S2.out; have := S3.out; have := Qq.out; have := Qw.out; have := S4.out; have := S14.out; have := S15.out; have := S16.out; omega) (.slice A9 hn c9))).mono (by have := S1.out; have := S2.out; have := S3.out; have := Qq.out; have := Qw.out; have := S4.out; have := S14.out; have := S15.out; have := S16.out; omega)⟩, ((((((Hc16.out.st (p := ⟨w.heap.size, 0, none⟩) (show g < w.heap.size by have := Hgl.out; have := S1.out; have := S2.out; have := S3.out; have := Qq.out; have := Qw.out; have := S4.out; have := S14.out; have := S15.out; have := S16.out; omega) (.int .i64 a)).st (p := ⟨w.heap.size, 1, none⟩) (show g < w.heap.size by have := Hgl.out; have := S1.out; have := S2.out; have := S3.out; have := Qq.out; have := Qw.out; have := S4.out; have := S14.out; have := S15.out; have := S16.out; omega) (.int .i64 b)).st (p := ⟨w.heap.size, 2, none⟩) (show g < w.heap.size by have := Hgl.out; have := S1.out; have := S2.out; have := S3.out; have := Qq.out; have := Qw.out; have := S4.out; have := S14.out; have := S15.out; have := S16.out; omega) (.int .i64 200)).st (p := ⟨w.heap.size, 3, none⟩) (show g < w.heap.size by have := Hgl.out; have := S1.out; have := S2.out; have := S3.out; have := Qq.out; have := Qw.out; have := S4.out; have := S14.out; have := S15.out; have := S16.out; omega) (.int .i64 10)).st (p := ⟨w.heap.size, 4, none⟩) (show g < w.heap.size by have := Hgl.out; have := S1.out; have := S2.out; have := S3.out; have := Qq.out; have := Qw.out; have := S4.out; have := S14.out; have := S15.out; have := S16.out; omega) (.int .i64 y)).st (p := ⟨w.heap.size, 5, none⟩) (show g < w.heap.size by have := Hgl.out; have := S1.out; have := S2.out; have := S3.out; have := Qq.out; have := Qw.out; have := S4.out; have := S14.out; have := S15.out; have := S16.out; omega) (.slice A9 hn c9)).mono (by omega), ((((((Hd16.out.st (p := ⟨w.heap.size, 0, none⟩) (show w.heap.size ≤ w.heap.size by have := Hgl.out; have := S1.out; have := S2.out; have := S3.out; have := Qq.out; have := Qw.out; have := S4.out; have := S14.out; have := S15.out; have := S16.out; omega) (.int .i64 a)).st (p := ⟨w.heap.size, 1, none⟩) (show w.heap.size ≤ w.heap.size by have := Hgl.out; have := S1.out; have := S2.out; have := S3.out; have := Qq.out; have := Qw.out; have := S4.out; have := S14.out; have := S15.out; have := S16.out; omega) (.int .i64 b)).st (p := ⟨w.heap.size, 2, none⟩) (show w.heap.size ≤ w.heap.size by have := Hgl.out; have := S1.out; have := S2.out; have := S3.out; have := Qq.out; have := Qw.out; have := S4.out; have := S14.out; have := S15.out; have := S16.out; omega) (.int .i64 200)).st (p := ⟨w.heap.size, 3, none⟩) (show w.heap.size ≤ w.heap.size by have := Hgl.out; have := S1.out; have := S2.out; have := S3.out; have := Qq.out; have := Qw.out; have := S4.out; have := S14.out; have := S15.out; have := S16.out; omega) (.int .i64 10)).st (p := ⟨w.heap.size, 4, none⟩) (show w.heap.size ≤ w.heap.size by have := Hgl.out; have := S1.out; have := S2.out; have := S3.out; have := Qq.out; have := Qw.out; have := S4.out; have := S14.out; have := S15.out; have := S16.out; omega) (.int .i64 y)).st (p := ⟨w.heap.size, 5, none⟩) (show w.heap.size ≤ w.heap.size by have := Hgl.out; have := S1.out; have := S2.out; have := S3.out; have := Qq.out; have := Qw.out; have := S4.out; have := S14.out; have := S15.out; have := S16.out; omega) (.slice A9 hn c9))⟩
end
end Go.Proofs.YtnhgdmhiblpknaaGreatDoor
