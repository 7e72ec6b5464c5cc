/- Own texts put together: The test of a carried point: the walk of icOn. Conditions: those of each theorem. -/
import Derived.Test.YtacehhcpfollnaaGreatIsM8
namespace Go.Proofs.YtacehhcpfollnaaGreat
section
open Go Go.RowKit

theorem FrQ.of_some {f : Fq} {x y : Int} {b : Bool} (h : FrQ (some f) x y b) : x = f.1 ∧ y = f.2 ∧ b = true := h
theorem pair_dec (a b c d : Int) : (decide (a = c) && decide (b = d)) = decide ((a, b) = ((c, d) : Fq)) := by
  rw [Bool.eq_iff_iff, Bool.and_eq_true, decide_eq_true_eq, decide_eq_true_eq, decide_eq_true_eq, Prod.mk.injEq]

set_option linter.unusedSimpArgs false in
set_option maxRecDepth 8000 in
set_option maxHeartbeats 16000000 in
theorem icOn_any (a b x1 x2 y1 y2 : Int) (w : World) (ha : -1000 ≤ a ∧ a ≤ 1000) (hb : -10000 ≤ b ∧ b ≤ 10000) (hx : good (x1, x2)) (hy : good (y1, y2)) :
    Calls Tryz.prog 72 #[.agg #[.int .i64 a, .int .i64 b], .agg #[.int .i64 x1, .int .i64 x2], .agg #[.int .i64 y1, .int .i64 y2]] w fun e w' => (∃ p q : Bool, e = .returned (.tuple #[.bool p, .bool q]) ∧ (p && q) = onV a b (x1, x2) (y1, y2)) ∧ Below w.heap.size w w' := by
  have Hx := Lib.hid hx; have Hy := Lib.hid hy; clear hx hy
  have Ha := Lib.hid (frB_int (n := a) (by omega) (by omega)); have Hb := Lib.hid (frB_int (n := b) (by omega) (by omega))
  obtain ⟨l1, l2, o1, h1⟩ := FrQ.ex (mulF 1000000000 (y1, y2) (y1, y2))
  have F1 := Lib.hid h1; clear h1
  obtain ⟨s1, s2, o2, h2⟩ := FrQ.ex (mulF 1000000000 (x1, x2) (x1, x2))
  have F2 := Lib.hid h2; clear h2
  go_enter Tryz.func72, Tryz.ntmps72
  go_wp2_with fail
  refine (mulS_lit F1.out Hy.out Hy.out _).mono ?_; rintro e w1 ⟨rfl, hb1⟩
  have S1 := Lib.hid (show w.heap.size + 3 ≤ w1.heap.size by have h9 := hb1.size; (try simp only [World.size_alloc, World.size_setCell, World.size_drew] at h9); omega)
  have NC := Lib.hid ((((Blk.new w 25 #[.int .i64 a, .int .i64 b]).alloc (Obj.cells #[.int .i64 x1, .int .i64 x2] 42)).alloc (Obj.cells #[.int .i64 y1, .int .i64 y2] 42)).on hb1)
  have NX := Lib.hid (((show Blk (World.alloc (World.alloc w (Obj.cells #[.int .i64 a, .int .i64 b] 25)) (Obj.cells #[.int .i64 x1, .int .i64 x2] 42)) (w.heap.size + 1) 42 #[.int .i64 x1, .int .i64 x2] by have h9 := (Blk.new (World.alloc w (Obj.cells #[.int .i64 a, .int .i64 b] 25)) 42 #[.int .i64 x1, .int .i64 x2]); (try simp only [World.size_alloc, World.size_setCell] at h9); exact h9).alloc (Obj.cells #[.int .i64 y1, .int .i64 y2] 42)).on hb1)
  have NY := Lib.hid ((show Blk (World.alloc (World.alloc (World.alloc w (Obj.cells #[.int .i64 a, .int .i64 b] 25)) (Obj.cells #[.int .i64 x1, .int .i64 x2] 42)) (Obj.cells #[.int .i64 y1, .int .i64 y2] 42)) (w.heap.size + 1 + 1) 42 #[.int .i64 y1, .int .i64 y2] by have h9 := (Blk.new (World.alloc (World.alloc w (Obj.cells #[.int .i64 a, .int .i64 b] 25)) (Obj.cells #[.int .i64 x1, .int .i64 x2] 42)) 42 #[.int .i64 y1, .int .i64 y2]); (try simp only [World.size_alloc, World.size_setCell] at h9); exact h9).on hb1)
  have C := NC; clear NC
  have X := NX; clear NX
  have Y := NY; clear NY
  have Hb1 := Lib.hid (bthen (bal (bal (bal (Below.refl w.heap.size w) (Obj.cells #[.int .i64 a, .int .i64 b] 25)) (Obj.cells #[.int .i64 x1, .int .i64 x2] 42)) (Obj.cells #[.int .i64 y1, .int .i64 y2] 42)) hb1)
  clear hb1
  have qX0 : w1.cell? ⟨w.heap.size + 1, 0, none⟩ = some (.int .i64 x1) := X.out.cell 0
  have qX1 : w1.cell? ⟨w.heap.size + 1, 1, none⟩ = some (.int .i64 x2) := X.out.cell 1
  have qXl := X.out.lt
  go_wp2_with fail
  clear qX0 qX1 qXl
  refine (mulS_lit F2.out Hx.out Hx.out _).mono ?_; rintro e w2 ⟨rfl, hb2⟩
  have S2 := Lib.hid (show w1.heap.size + 1 ≤ w2.heap.size by have h9 := hb2.size; (try simp only [World.size_alloc, World.size_setCell, World.size_drew] at h9); omega)
  have NC := Lib.hid ((C.out.alloc (Obj.cells #[.int .i64 l1, .int .i64 l2] 42)).on hb2)
  have NX := Lib.hid ((X.out.alloc (Obj.cells #[.int .i64 l1, .int .i64 l2] 42)).on hb2)
  have NY := Lib.hid ((Y.out.alloc (Obj.cells #[.int .i64 l1, .int .i64 l2] 42)).on hb2)
  have NL := Lib.hid ((Blk.new w1 42 #[.int .i64 l1, .int .i64 l2]).on hb2)
  have C := NC; clear NC
  have X := NX; clear NX
  have Y := NY; clear NY
  have L := NL; clear NL
  have Hb2 := Lib.hid (bthen (bal Hb1.out (Obj.cells #[.int .i64 l1, .int .i64 l2] 42)) hb2)
  clear hb2
  cases o1
  · go_wp2
    go_ret2
    exact ⟨⟨_, _, rfl, by unfold onV; rw [(F1.out.no rfl).1]; rfl⟩, (bal Hb2.out (Obj.cells #[.int .i64 s1, .int .i64 s2] 42))⟩
  · cases o2
    · go_wp2
      go_ret2
      exact ⟨⟨_, _, rfl, by unfold onV rhsV; rw [F1.out.yes rfl, (F2.out.no rfl).1]; rfl⟩, (bal Hb2.out (Obj.cells #[.int .i64 s1, .int .i64 s2] 42))⟩
    · have E1 := Lib.hid (F1.out.yes rfl); have E2 := Lib.hid (F2.out.yes rfl)
      obtain ⟨t1, t2, o3, h3⟩ := FrQ.ex (addF 1000000000 (s1, s2) (a, 1))
      have F3 := Lib.hid h3; clear h3
      have G2 := Lib.hid (mulF_good E2.out)
      go_wp2_with fail
      obtain ⟨w3, hw9⟩ : ∃ x, x = (World.alloc w2 (Obj.cells #[.int .i64 s1, .int .i64 s2] 42)) := ⟨_, rfl⟩
      rw [← hw9]
      have hb3 : Below ((World.alloc w2 (Obj.cells #[.int .i64 s1, .int .i64 s2] 42))).heap.size (World.alloc w2 (Obj.cells #[.int .i64 s1, .int .i64 s2] 42)) w3 := by rw [hw9]; exact Below.refl _ _
      have S3 := Lib.hid (show w2.heap.size + 1 ≤ w3.heap.size by have h9 := hb3.size; (try simp only [World.size_alloc, World.size_setCell, World.size_drew] at h9); omega)
      have NC := Lib.hid ((C.out.alloc (Obj.cells #[.int .i64 s1, .int .i64 s2] 42)).on hb3)
      have NX := Lib.hid ((X.out.alloc (Obj.cells #[.int .i64 s1, .int .i64 s2] 42)).on hb3)
      have NY := Lib.hid ((Y.out.alloc (Obj.cells #[.int .i64 s1, .int .i64 s2] 42)).on hb3)
      have NL := Lib.hid ((L.out.alloc (Obj.cells #[.int .i64 s1, .int .i64 s2] 42)).on hb3)
      have NS := Lib.hid ((Blk.new w2 42 #[.int .i64 s1, .int .i64 s2]).on hb3)
      have C := NC; clear NC
      have X := NX; clear NX
      have Y := NY; clear NY
      have L := NL; clear NL
      have S := NS; clear NS
      have Hb3 := Lib.hid (bthen (bal Hb2.out (Obj.cells #[.int .i64 s1, .int .i64 s2] 42)) hb3)
      clear hb3
      clear hw9
      go_wp2_with fail
      have qS0 : w3.cell? ⟨w2.heap.size, 0, none⟩ = some (.int .i64 s1) := S.out.cell 0
      have qS1 : w3.cell? ⟨w2.heap.size, 1, none⟩ = some (.int .i64 s2) := S.out.cell 1
      have qSl := S.out.lt
      have qC0 : w3.cell? ⟨w.heap.size, 0, none⟩ = some (.int .i64 a) := C.out.cell 0
      have qC1 : w3.cell? ⟨w.heap.size, 1, none⟩ = some (.int .i64 b) := C.out.cell 1
      have qCl := C.out.lt
      have HS : Hid (∀ w', Below w3.heap.size w3 w' → (w'.cell? ⟨w2.heap.size, 0, none⟩ = some (.int .i64 s1) ∧ w'.cell? ⟨w2.heap.size, 1, none⟩ = some (.int .i64 s2) ∧ w'.cell? ⟨w.heap.size, 0, none⟩ = some (.int .i64 a) ∧ w'.cell? ⟨w.heap.size, 1, none⟩ = some (.int .i64 b) ∧ Below w3.heap.size w3 w')) := Lib.hid (fun w' hw => ⟨(hw.cell (p := ⟨w2.heap.size, 0, none⟩) qSl).trans qS0, (hw.cell (p := ⟨w2.heap.size, 1, none⟩) qSl).trans qS1, (hw.cell (p := ⟨w.heap.size, 0, none⟩) qCl).trans qC0, (hw.cell (p := ⟨w.heap.size, 1, none⟩) qCl).trans qC1, hw⟩)
      have hdt : Below w3.heap.size w3 w3 := Below.refl _ _
      go_cut [12, 13] (fun p0 p1 wx => ∃ q : Nat, p0 = .pointer (some ⟨q, 0, none⟩) ∧ p1 = .bool o3 ∧ Blk wx q 42 #[.int .i64 t1, .int .i64 t2] ∧ w3.heap.size ≤ q ∧ Below w3.heap.size w3 wx)
      case first =>
        go_region_held3 (fun w' => w'.cell? ⟨w2.heap.size, 0, none⟩ = some (.int .i64 s1) ∧ w'.cell? ⟨w2.heap.size, 1, none⟩ = some (.int .i64 s2) ∧ w'.cell? ⟨w.heap.size, 0, none⟩ = some (.int .i64 a) ∧ w'.cell? ⟨w.heap.size, 1, none⟩ = some (.int .i64 b) ∧ Below w3.heap.size w3 w') ((go_split_ands; refine HS.out _ ?_; repeat (first | (with_reducible assumption) | (with_reducible exact Below.refl _ _) | (with_reducible refine Below.drew ?_) | (with_reducible refine bal ?_ _) | (with_reducible refine bst ?_ (by dsimp only; omega) _) | (with_reducible refine bthen ?_ (by with_reducible assumption))))) ((first | (go_at_call 71; with_reducible refine Calls.mono (frInt_any a _) ?_; rintro e fw1 ⟨rfl, hfw1⟩; have sfw1 : w3.heap.size ≤ fw1.heap.size := (by have h9 := hfw1.size; (try simp only [World.size_alloc, World.size_drew] at h9); omega); first | (have hz := Blk.on Hz.out hfw1; clear Hz; have Hz := Lib.hid hz; clear hz) | (have hz : Blk fw1 w3.heap.size 42 #[.int .i64 0, .int .i64 0] := Blk.on (Blk.new w3 42 #[.int .i64 0, .int .i64 0]) hfw1; have Hz := Lib.hid hz; clear hz) | (have hz : Blk fw1 w3.heap.size 42 #[.int .i64 0, .int .i64 0] := Blk.on (Blk.drew (Blk.new w3 42 #[.int .i64 0, .int .i64 0])) hfw1; have Hz := Lib.hid hz; clear hz) | (have hz : Blk fw1 w3.heap.size 42 #[.int .i64 0, .int .i64 0] := Blk.on (Blk.new (World.drew w3) 42 #[.int .i64 0, .int .i64 0]) hfw1; have Hz := Lib.hid hz; clear hz) | skip) | (go_at_call 75; with_reducible refine Calls.mono (addS_lit F3.out G2.out Ha.out _) ?_; rintro e fw2 ⟨rfl, hfw2⟩; have sfw2 : w3.heap.size ≤ fw2.heap.size := (by have h9 := hfw2.size; (try simp only [World.size_alloc, World.size_drew] at h9); omega); first | (have hz := Blk.on Hz.out hfw2; clear Hz; have zc0 := hz.cell 0; have zf0 := hz.frozen 0; have zc1 := hz.cell 1; have zf1 := hz.frozen 1; have zl := hz.lt; simp at zc0 zc1; have Hz := Lib.hid hz; clear hz) | (have hz : Blk fw2 fw1.heap.size 42 #[.int .i64 0, .int .i64 0] := Blk.on (Blk.new fw1 42 #[.int .i64 0, .int .i64 0]) hfw2; have zc0 := hz.cell 0; have zf0 := hz.frozen 0; have zc1 := hz.cell 1; have zf1 := hz.frozen 1; have zl := hz.lt; simp at zc0 zc1; have Hz := Lib.hid hz; clear hz) | skip)))
        all_goals go_wp2_with fail
        all_goals go_meet
        all_goals first
          | with_reducible exact ⟨_, rfl, rfl, Blk.new _ _ _, (by (try simp only [World.size_alloc, World.size_drew, World.size_setCell]); omega), (by repeat (first | (with_reducible assumption) | (with_reducible exact Below.refl _ _) | (with_reducible refine Below.drew ?_) | (with_reducible refine bal ?_ _) | (with_reducible refine bst ?_ (by dsimp only; (try simp only [World.size_alloc, World.size_drew, World.size_setCell]); omega) _) | (with_reducible refine bthen ?_ (by with_reducible assumption))))⟩
          | exact ⟨_, rfl, rfl, Blk.set2 Hz.out, (by (try simp only [World.size_alloc, World.size_drew, World.size_setCell]); omega), (by repeat (first | (with_reducible assumption) | (with_reducible exact Below.refl _ _) | (with_reducible refine Below.drew ?_) | (with_reducible refine bal ?_ _) | (with_reducible refine bst ?_ (by dsimp only; (try simp only [World.size_alloc, World.size_drew, World.size_setCell]); omega) _) | (with_reducible refine bthen ?_ (by with_reducible assumption))))⟩
      obtain ⟨q4, rfl, rfl, hB4, hq4, hb4⟩ := hcut
      clear HS hdt qS0 qS1 qSl qC0 qC1 qCl
      obtain ⟨w4, hw9⟩ : ∃ x, x = wc := ⟨_, rfl⟩; subst hw9
      have S4 := Lib.hid (show w3.heap.size + 0 ≤ w4.heap.size by have h9 := hb4.size; (try simp only [World.size_alloc, World.size_setCell, World.size_drew] at h9); omega)
      have NC := Lib.hid (C.out.on hb4)
      have NX := Lib.hid (X.out.on hb4)
      have NY := Lib.hid (Y.out.on hb4)
      have NL := Lib.hid (L.out.on hb4)
      have NS := Lib.hid (S.out.on hb4)
      have C := NC; clear NC
      have X := NX; clear NX
      have Y := NY; clear NY
      have L := NL; clear NL
      have S := NS; clear NS
      have Hb4 := Lib.hid (bthen Hb3.out hb4)
      clear hb4
      have Qq4 := Lib.hid hq4; have Qw4 := Lib.hid hB4.lt; have T3 := Lib.hid hB4; clear hq4 hB4
      cases o3
      · go_wp2
        go_ret2
        exact ⟨⟨_, _, rfl, by unfold onV rhsV; rw [E1.out, E2.out]; simp only [Option.bind, (F3.out.no rfl).1]; rfl⟩, Hb4.out⟩
      · have E3 := Lib.hid (F3.out.yes rfl)
        have G3 := Lib.hid (addF_good E3.out)
        obtain ⟨u1, u2, o4, h4⟩ := FrQ.ex (mulF 1000000000 (t1, t2) (x1, x2))
        have F4 := Lib.hid h4; clear h4
        have qT30 : w4.cell? ⟨q4, 0, none⟩ = some (.int .i64 t1) := T3.out.cell 0
        have qT31 : w4.cell? ⟨q4, 1, none⟩ = some (.int .i64 t2) := T3.out.cell 1
        have qT3l := T3.out.lt
        have qX0 : w4.cell? ⟨w.heap.size + 1, 0, none⟩ = some (.int .i64 x1) := X.out.cell 0
        have qX1 : w4.cell? ⟨w.heap.size + 1, 1, none⟩ = some (.int .i64 x2) := X.out.cell 1
        have qXl := X.out.lt
        go_wp2_with fail
        clear qT30 qT31 qT3l qX0 qX1 qXl
        refine (mulS_lit F4.out G3.out Hx.out _).mono ?_; rintro e w5 ⟨rfl, hb5⟩
        have S5 := Lib.hid (show w4.heap.size + 0 ≤ w5.heap.size by have h9 := hb5.size; (try simp only [World.size_alloc, World.size_setCell, World.size_drew] at h9); omega)
        have NC := Lib.hid (C.out.on hb5)
        have NX := Lib.hid (X.out.on hb5)
        have NY := Lib.hid (Y.out.on hb5)
        have NL := Lib.hid (L.out.on hb5)
        have NS := Lib.hid (S.out.on hb5)
        have NT3 := Lib.hid (T3.out.on hb5)
        have C := NC; clear NC
        have X := NX; clear NX
        have Y := NY; clear NY
        have L := NL; clear NL
        have S := NS; clear NS
        have T3 := NT3; clear NT3
        have Hb5 := Lib.hid (bthen Hb4.out hb5)
        clear hb5
        cases o4
        · go_wp2
          go_ret2
          exact ⟨⟨_, _, rfl, by unfold onV rhsV; rw [E1.out, E2.out]; simp only [Option.bind, E3.out, (F4.out.no rfl).1]; rfl⟩, (bal Hb5.out (Obj.cells #[.int .i64 u1, .int .i64 u2] 42))⟩
        · have E4 := Lib.hid (F4.out.yes rfl)
          have G4 := Lib.hid (mulF_good E4.out)
          obtain ⟨r1, r2, o5, h5⟩ := FrQ.ex (addF 1000000000 (u1, u2) (b, 1))
          have F5 := Lib.hid h5; clear h5
          go_wp2_with fail
          obtain ⟨w6, hw9⟩ : ∃ x, x = (World.alloc w5 (Obj.cells #[.int .i64 u1, .int .i64 u2] 42)) := ⟨_, rfl⟩
          rw [← hw9]
          have hb6 : Below ((World.alloc w5 (Obj.cells #[.int .i64 u1, .int .i64 u2] 42))).heap.size (World.alloc w5 (Obj.cells #[.int .i64 u1, .int .i64 u2] 42)) w6 := by rw [hw9]; exact Below.refl _ _
          have S6 := Lib.hid (show w5.heap.size + 1 ≤ w6.heap.size by have h9 := hb6.size; (try simp only [World.size_alloc, World.size_setCell, World.size_drew] at h9); omega)
          have NC := Lib.hid ((C.out.alloc (Obj.cells #[.int .i64 u1, .int .i64 u2] 42)).on hb6)
          have NX := Lib.hid ((X.out.alloc (Obj.cells #[.int .i64 u1, .int .i64 u2] 42)).on hb6)
          have NY := Lib.hid ((Y.out.alloc (Obj.cells #[.int .i64 u1, .int .i64 u2] 42)).on hb6)
          have NL := Lib.hid ((L.out.alloc (Obj.cells #[.int .i64 u1, .int .i64 u2] 42)).on hb6)
          have NS := Lib.hid ((S.out.alloc (Obj.cells #[.int .i64 u1, .int .i64 u2] 42)).on hb6)
          have NT3 := Lib.hid ((T3.out.alloc (Obj.cells #[.int .i64 u1, .int .i64 u2] 42)).on hb6)
          have NP4 := Lib.hid ((Blk.new w5 42 #[.int .i64 u1, .int .i64 u2]).on hb6)
          have C := NC; clear NC
          have X := NX; clear NX
          have Y := NY; clear NY
          have L := NL; clear NL
          have S := NS; clear NS
          have T3 := NT3; clear NT3
          have P4 := NP4; clear NP4
          have Hb6 := Lib.hid (bthen (bal Hb5.out (Obj.cells #[.int .i64 u1, .int .i64 u2] 42)) hb6)
          clear hb6
          clear hw9
          go_wp2_with fail
          have qP40 : w6.cell? ⟨w5.heap.size, 0, none⟩ = some (.int .i64 u1) := P4.out.cell 0
          have qP41 : w6.cell? ⟨w5.heap.size, 1, none⟩ = some (.int .i64 u2) := P4.out.cell 1
          have qP4l := P4.out.lt
          have qC0 : w6.cell? ⟨w.heap.size, 0, none⟩ = some (.int .i64 a) := C.out.cell 0
          have qC1 : w6.cell? ⟨w.heap.size, 1, none⟩ = some (.int .i64 b) := C.out.cell 1
          have qCl := C.out.lt
          have HS : Hid (∀ w', Below w6.heap.size w6 w' → (w'.cell? ⟨w5.heap.size, 0, none⟩ = some (.int .i64 u1) ∧ w'.cell? ⟨w5.heap.size, 1, none⟩ = some (.int .i64 u2) ∧ w'.cell? ⟨w.heap.size, 0, none⟩ = some (.int .i64 a) ∧ w'.cell? ⟨w.heap.size, 1, none⟩ = some (.int .i64 b) ∧ Below w6.heap.size w6 w')) := Lib.hid (fun w' hw => ⟨(hw.cell (p := ⟨w5.heap.size, 0, none⟩) qP4l).trans qP40, (hw.cell (p := ⟨w5.heap.size, 1, none⟩) qP4l).trans qP41, (hw.cell (p := ⟨w.heap.size, 0, none⟩) qCl).trans qC0, (hw.cell (p := ⟨w.heap.size, 1, none⟩) qCl).trans qC1, hw⟩)
          have hdt : Below w6.heap.size w6 w6 := Below.refl _ _
          go_cut [16, 17] (fun p0 p1 wx => ∃ q : Nat, p0 = .pointer (some ⟨q, 0, none⟩) ∧ p1 = .bool o5 ∧ Blk wx q 42 #[.int .i64 r1, .int .i64 r2] ∧ w6.heap.size ≤ q ∧ Below w6.heap.size w6 wx)
          case first =>
            go_region_held3 (fun w' => w'.cell? ⟨w5.heap.size, 0, none⟩ = some (.int .i64 u1) ∧ w'.cell? ⟨w5.heap.size, 1, none⟩ = some (.int .i64 u2) ∧ w'.cell? ⟨w.heap.size, 0, none⟩ = some (.int .i64 a) ∧ w'.cell? ⟨w.heap.size, 1, none⟩ = some (.int .i64 b) ∧ Below w6.heap.size w6 w') ((go_split_ands; refine HS.out _ ?_; repeat (first | (with_reducible assumption) | (with_reducible exact Below.refl _ _) | (with_reducible refine Below.drew ?_) | (with_reducible refine bal ?_ _) | (with_reducible refine bst ?_ (by dsimp only; omega) _) | (with_reducible refine bthen ?_ (by with_reducible assumption))))) ((first | (go_at_call 71; with_reducible refine Calls.mono (frInt_any b _) ?_; rintro e fw1 ⟨rfl, hfw1⟩; have sfw1 : w6.heap.size ≤ fw1.heap.size := (by have h9 := hfw1.size; (try simp only [World.size_alloc, World.size_drew] at h9); omega); first | (have hz := Blk.on Hz.out hfw1; clear Hz; have Hz := Lib.hid hz; clear hz) | (have hz : Blk fw1 w6.heap.size 42 #[.int .i64 0, .int .i64 0] := Blk.on (Blk.new w6 42 #[.int .i64 0, .int .i64 0]) hfw1; have Hz := Lib.hid hz; clear hz) | (have hz : Blk fw1 w6.heap.size 42 #[.int .i64 0, .int .i64 0] := Blk.on (Blk.drew (Blk.new w6 42 #[.int .i64 0, .int .i64 0])) hfw1; have Hz := Lib.hid hz; clear hz) | (have hz : Blk fw1 w6.heap.size 42 #[.int .i64 0, .int .i64 0] := Blk.on (Blk.new (World.drew w6) 42 #[.int .i64 0, .int .i64 0]) hfw1; have Hz := Lib.hid hz; clear hz) | skip) | (go_at_call 75; with_reducible refine Calls.mono (addS_lit F5.out G4.out Hb.out _) ?_; rintro e fw2 ⟨rfl, hfw2⟩; have sfw2 : w6.heap.size ≤ fw2.heap.size := (by have h9 := hfw2.size; (try simp only [World.size_alloc, World.size_drew] at h9); omega); first | (have hz := Blk.on Hz.out hfw2; clear Hz; have zc0 := hz.cell 0; have zf0 := hz.frozen 0; have zc1 := hz.cell 1; have zf1 := hz.frozen 1; have zl := hz.lt; simp at zc0 zc1; have Hz := Lib.hid hz; clear hz) | (have hz : Blk fw2 fw1.heap.size 42 #[.int .i64 0, .int .i64 0] := Blk.on (Blk.new fw1 42 #[.int .i64 0, .int .i64 0]) hfw2; have zc0 := hz.cell 0; have zf0 := hz.frozen 0; have zc1 := hz.cell 1; have zf1 := hz.frozen 1; have zl := hz.lt; simp at zc0 zc1; have Hz := Lib.hid hz; clear hz) | skip)))
            all_goals go_wp2_with fail
            all_goals go_meet
            all_goals first
              | with_reducible exact ⟨_, rfl, rfl, Blk.new _ _ _, (by (try simp only [World.size_alloc, World.size_drew, World.size_setCell]); omega), (by repeat (first | (with_reducible assumption) | (with_reducible exact Below.refl _ _) | (with_reducible refine Below.drew ?_) | (with_reducible refine bal ?_ _) | (with_reducible refine bst ?_ (by dsimp only; (try simp only [World.size_alloc, World.size_drew, World.size_setCell]); omega) _) | (with_reducible refine bthen ?_ (by with_reducible assumption))))⟩
              | exact ⟨_, rfl, rfl, Blk.set2 Hz.out, (by (try simp only [World.size_alloc, World.size_drew, World.size_setCell]); omega), (by repeat (first | (with_reducible assumption) | (with_reducible exact Below.refl _ _) | (with_reducible refine Below.drew ?_) | (with_reducible refine bal ?_ _) | (with_reducible refine bst ?_ (by dsimp only; (try simp only [World.size_alloc, World.size_drew, World.size_setCell]); omega) _) | (with_reducible refine bthen ?_ (by with_reducible assumption))))⟩
          obtain ⟨q7, rfl, rfl, hB7, hq7, hb7⟩ := hcut
          clear HS hdt qP40 qP41 qP4l qC0 qC1 qCl
          obtain ⟨w7, hw9⟩ : ∃ x, x = wc := ⟨_, rfl⟩; subst hw9
          have S7 := Lib.hid (show w6.heap.size + 0 ≤ w7.heap.size by have h9 := hb7.size; (try simp only [World.size_alloc, World.size_setCell, World.size_drew] at h9); omega)
          have NC := Lib.hid (C.out.on hb7)
          have NX := Lib.hid (X.out.on hb7)
          have NY := Lib.hid (Y.out.on hb7)
          have NL := Lib.hid (L.out.on hb7)
          have NS := Lib.hid (S.out.on hb7)
          have NT3 := Lib.hid (T3.out.on hb7)
          have NP4 := Lib.hid (P4.out.on hb7)
          have C := NC; clear NC
          have X := NX; clear NX
          have Y := NY; clear NY
          have L := NL; clear NL
          have S := NS; clear NS
          have T3 := NT3; clear NT3
          have P4 := NP4; clear NP4
          have Hb7 := Lib.hid (bthen Hb6.out hb7)
          clear hb7
          have Qq7 := Lib.hid hq7; have Qw7 := Lib.hid hB7.lt; have T5 := Lib.hid hB7; clear hq7 hB7
          cases o5
          · go_wp2
            go_ret2
            exact ⟨⟨_, _, rfl, by unfold onV rhsV; rw [E1.out, E2.out]; simp only [Option.bind, E3.out, E4.out, (F5.out.no rfl).1]; rfl⟩, Hb7.out⟩
          · have qL0 : w7.cell? ⟨w1.heap.size, 0, none⟩ = some (.int .i64 l1) := L.out.cell 0
            have qL1 : w7.cell? ⟨w1.heap.size, 1, none⟩ = some (.int .i64 l2) := L.out.cell 1
            have qLl := L.out.lt
            have qT50 : w7.cell? ⟨q7, 0, none⟩ = some (.int .i64 r1) := T5.out.cell 0
            have qT51 : w7.cell? ⟨q7, 1, none⟩ = some (.int .i64 r2) := T5.out.cell 1
            have qT5l := T5.out.lt
            go_wp2
            clear qL0 qL1 qLl qT50 qT51 qT5l
            all_goals go_ret2
            all_goals exact ⟨⟨_, _, rfl, by unfold onV rhsV; rw [E1.out, E2.out]; simp only [Option.bind, E3.out, E4.out, F5.out.yes rfl, Bool.and_true]; rw [← pair_dec]; simp [*]⟩, Hb7.out⟩
end
end Go.Proofs.YtacehhcpfollnaaGreat
