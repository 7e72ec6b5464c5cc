/- The reference's draws of curves with neighbours, of forms, of classes. Conditions: a slice of bytes. Printed by gen_drm.py. -/
import Derived.Test.YtnhgdmhiblpknaaDrL
import Derived.Test.YtnhgdmhiblpknaaDrB
namespace Go.Proofs.Ytnhgdmhiblpknaa
open Go Go.RowKit

def lenC : Value → Nat | .slice _ n _ => n | _ => 0
theorem allI2 (a b : Int) : AllI [.int .i64 a, .int .i64 b] := by
  intro u hu
  simp only [List.mem_cons, List.not_mem_nil, or_false] at hu
  rcases hu with rfl | rfl <;> exact ⟨_, rfl⟩
def cuMk9 (c : Nat → Int) : Cu := ⟨c 0, c 1⟩
theorem cuMk9_cell (c : Nat → Int) (j : Nat) (hj : j < cuS.size) : cuS.cell (cuMk9 c) j = .int .i64 (c j) := by
  match j, hj with
  | 0, _ => rfl
  | 1, _ => rfl
theorem cu_allI (es : List Cu) : AllI (cuS.flat es) := by
  intro u hu
  unfold Shape.flat at hu
  obtain ⟨x, -, hx⟩ := List.mem_flatMap.1 hu
  unfold Shape.cells at hx
  obtain ⟨j, hj, rfl⟩ := List.mem_map.1 hx
  have hj := List.mem_range.1 hj
  match j, hj with
  | 0, _ => exact ⟨_, rfl⟩
  | 1, _ => exact ⟨_, rfl⟩
theorem IR.cu {w : World} {B : Nat} {t : TypeId} {v : Value} {n : Nat} (h : IR w B t 2 v n) : ∃ es : List Cu, es.length = n ∧ w.ownsRow B t 2 v es.length (cuS.flat es) := by
  obtain ⟨xs, h1, h2⟩ := h.ex
  obtain ⟨es, h3, h4⟩ := flat_ex cuS cuMk9 cuMk9_cell n xs h1.1 h2
  exact ⟨es, h3, by rw [h3, h4]; exact h1⟩
theorem IR.of_cu {w : World} {B : Nat} {t : TypeId} {v : Value} {n : Nat} {es : List Cu} (h : w.ownsRow B t 2 v n (cuS.flat es)) : IR w B t 2 v n := ⟨_, h, cu_allI es⟩
theorem IR.lit2 {w : World} {B : Nat} {t : TypeId} (hB : B ≤ w.heap.size) (a b : Int) : IR (w.alloc (.cells #[.int .i64 a, .int .i64 b] t)) B t 2 (.slice (some ⟨w.heap.size, 0, none⟩) 1 1) 1 :=
  ⟨_, World.ownsRow_lit w #[.int .i64 a, .int .i64 b] 1 hB (by unfold maxLen; omega) (by simp), allI2 a b⟩

set_option linter.unusedSimpArgs false in
set_option maxRecDepth 8000 in
set_option maxHeartbeats 16000000 in
theorem drawTwo_any (A : Option Addr) (n c : Nat) (w : World) (hby : BytesAt w w.heap.size A n) :
    Calls Try.prog 45 #[.slice A n c] w fun e w' => (∃ a b : Int, e = .returned (.agg #[.int .i64 a, .int .i64 b])) ∧ Below w.heap.size w w' := by
  have Hb := Lib.hid hby; clear hby
  have Hgl := Lib.hid (Nat.le_refl w.heap.size)
  have Hd := Lib.hid (Dg.refl (w.heap.size + 1) w)
  obtain ⟨i0, hi, hz0, hz1, hz2⟩ := info_parts infoCuI
  go_enter Try.func45, Try.ntmps45
  go_wp2_with fail
  refine (linked_any (w.heap.size + 1) 0 _ (Cur.new1 Hb.out c _) (by omega)).mono ?_; rintro e w1 ⟨⟨a, b, rfl⟩, hc1, hd1⟩
  have S1 := Lib.hid (show w.heap.size + 2 ≤ w1.heap.size by have h9 := hd1.size; (try simp only [World.size_alloc, World.size_setCell] at h9); omega)
  have NR := Lib.hid (((Blk.new w 37 #[.int .i64 0, .int .i64 0]).alloc (Obj.cells #[.slice A n c, .int .i64 0, .int .u64 0] 67)).dg hd1 (show w.heap.size ≠ (w.heap.size + 1) by have := Hgl.out; have := S1.out; omega))
  have R := NR; clear NR
  have Hc1 := Lib.hid (hc1.mono (j := 0 + 50) (by omega))
  have Hd1 := Lib.hid (((Hd.out.alloc (Obj.cells #[.int .i64 0, .int .i64 0] 37)).alloc (Obj.cells #[.slice A n c, .int .i64 0, .int .u64 0] 67)).trans hd1)
  clear hc1 hd1
  have qR0 := R.out.cell 0
  have qR1 := R.out.cell 1
  simp at qR0 qR1
  have qRl := R.out.lt
  have qRf := R.out.frozen
  go_wp2
  clear qR0 qR1 qRl qRf
  have HR9 := (show Blk (World.setCell (World.setCell w1 ⟨w.heap.size, 0, none⟩ (.int .i64 a)) ⟨w.heap.size, 1, none⟩ (.int .i64 b)) (w.heap.size) 37 #[.int .i64 a, .int .i64 b] by have h9 := ((R.out.set 0 (.int .i64 a)).set 1 (.int .i64 b)); simpa using h9)
  have k0 := HR9.cell 0
  have k1 := HR9.cell 1
  simp at k0 k1
  exact bodyPost_ret (v := .agg #[.int .i64 a, .int .i64 b]) (by simp [results, Try.results45, go_sem, k0, k1]) rfl ⟨⟨_, _, rfl⟩, ((Hd1.out.st (p := ⟨w.heap.size, 0, none⟩) (show w.heap.size ≤ w.heap.size by have := Hgl.out; have := S1.out; omega) (.int .i64 a)).st (p := ⟨w.heap.size, 1, none⟩) (show w.heap.size ≤ w.heap.size by have := Hgl.out; have := S1.out; omega) (.int .i64 b)).below (by have := S1.out; omega) (Nat.le_refl _)⟩
set_option linter.unusedSimpArgs false in
set_option maxRecDepth 8000 in
set_option maxHeartbeats 16000000 in
theorem drawClass_any (A : Option Addr) (n c : Nat) (w : World) (hby : BytesAt w w.heap.size A n) :
    Calls Try.prog 15 #[.slice A n c] w fun e w' => (∃ a b : Int, e = .returned (.agg #[.int .i64 a, .int .i64 b])) ∧ Below w.heap.size w w' := by
  have Hb := Lib.hid (hby.al (Obj.cells #[.int .i64 0, .int .i64 0] 37)); clear hby
  have HR := Lib.hid (Blk.new w 37 #[.int .i64 0, .int .i64 0])
  go_enter Try.func15, Try.ntmps15
  go_wp2_with fail
  refine (drawTwo_any A n c _ Hb.out).mono ?_; rintro e w1 ⟨⟨a, b, rfl⟩, hb1⟩
  have HR1 := Lib.hid (HR.out.on hb1)
  have Hb1 := Lib.hid (bthen (bal (Below.refl _ _) _) hb1); clear hb1
  have HB0 := Lib.hid (bst (bst Hb1.out (p := ⟨w.heap.size, 0, none⟩) (by simp) (.int .i64 a)) (p := ⟨w.heap.size, 1, none⟩) (by simp) (.int .i64 b))
  have r0 := HR1.out.cell 0
  have r1 := HR1.out.cell 1
  have rl := HR1.out.lt
  have rf := HR1.out.frozen
  simp at r0 r1
  go_wp2
  clear r0 r1 rl rf
  have HR5 := HR1.out.set2 (b0 := .int .i64 a) (b1 := .int .i64 b)
  have r0 := HR5.cell 0
  have r1 := HR5.cell 1
  simp at r0 r1
  exact bodyPost_ret (v := .agg #[.int .i64 a, .int .i64 b]) (by simp [results, Try.results15, go_sem, r0, r1]) rfl ⟨⟨_, _, rfl⟩, HB0.out⟩
set_option linter.unusedSimpArgs false in
set_option maxRecDepth 8000 in
set_option maxHeartbeats 16000000 in
theorem drawForms_any (A : Option Addr) (n c : Nat) (w : World) (hby : BytesAt w w.heap.size A n) :
    Calls Try.prog 23 #[.slice A n c] w fun e w' => (∃ (v : Value) (m : Nat), m ≤ 21 ∧ e = .returned v ∧ IR w' w.heap.size 37 2 v m) ∧ Below w.heap.size w w' := by
  have Hb := Lib.hid hby; clear hby
  have Hgl := Lib.hid (Nat.le_refl w.heap.size)
  have Hd := Lib.hid (Dg.refl w.heap.size w)
  obtain ⟨i0, hi, hz0, hz1, hz2⟩ := info_parts infoCuI
  go_enter Try.func23, Try.ntmps23
  go_wp2_with fail
  refine (pick_any w.heap.size 0 (6) _ (Cur.new0 Hb.out c) (by omega)).mono ?_; rintro e w1 ⟨⟨x, lx, ux, rfl⟩, hc1, hd1⟩
  have S1 := Lib.hid (show w.heap.size + 1 ≤ w1.heap.size by have h9 := hd1.size; (try simp only [World.size_alloc, World.size_setCell] at h9); omega)
  have Hc1 := Lib.hid (hc1.mono (j := 0 + 2) (by omega))
  have Hd1 := Lib.hid ((Hd.out.alloc _).trans hd1)
  clear hc1 hd1
  obtain ⟨N, rfl⟩ : ∃ q : Nat, x = q := ⟨x.toNat, by omega⟩
  have hN : N ≤ 21 := by omega
  clear lx ux
  go_wp2_with fail
  refine (one_any w.heap.size (0 + 2) (12) _ Hc1.out (by omega)).mono ?_; rintro e w2 ⟨⟨c0, rfl⟩, hc2, hd2⟩
  have S2 := Lib.hid (show w1.heap.size + 0 ≤ w2.heap.size by have h9 := hd2.size; (try simp only [World.size_alloc, World.size_setCell] at h9); omega)
  have Hc2 := Lib.hid (hc2.mono (j := 0 + 4) (by omega))
  have Hd2 := Lib.hid (Hd1.out.trans hd2)
  clear hc2 hd2
  cases c0
  · have HcL := Lib.hid (Hc2.out.mono (j := 10 + 70 * 0) (by omega))
    go_wp2
    go_loopw [4] (fun l wr => ∃ m : Nat, m ≤ N ∧ Hid (IR wr (w.heap.size + 1) 37 2 l m) ∧ Hid (Cur wr w.heap.size (10 + 70 * m)) ∧ Hid (Dg w.heap.size w wr)) (fun l _ => N - lenC l)
    case atStart => exact ⟨0, Nat.zero_le _, Lib.hid (IR.nil _ _ _ _), HcL, Hd2⟩
    case round =>
      obtain ⟨m, hm, HO, Hcr, Hdr⟩ := hrel
      obtain ⟨A9, c9, rfl, hmc, hcm⟩ := HO.out.form
      unfold maxLen at hcm
      have Sr := Lib.hid Hdr.out.size
      have GHO := Lib.hid HO.out.lt
      have HcS := Lib.hid Hcr.out.lt
      by_cases hlt : m < N
      · have hd9 : (m : Int) < (N : Int) := by omega
        go_wp2_with fail
        refine (scalable_any w.heap.size (10 + 70 * m) _ Hcr.out (by omega)).mono ?_; rintro e w3 ⟨⟨a, b, rfl⟩, hc3, hd3⟩
        have S3 := Lib.hid (show wr.heap.size + 0 ≤ w3.heap.size by have h9 := hd3.size; (try simp only [World.size_alloc, World.size_setCell] at h9); omega)
        have HO := Lib.hid (HO.out.dg hd3 (show w.heap.size < (w.heap.size + 1) by have := Hgl.out; have := HcS.out; have := Sr.out; have := S3.out; omega))
        have Hc3 := Lib.hid (hc3.mono (j := (10 + 70 * m) + 50) (by omega))
        have Hd3 := Lib.hid (Hdr.out.trans hd3)
        clear hc3 hd3
        by_cases hm0 : 0 < m
        · have hd8 : decide ((0 : Int) < (m : Int)) = true := decide_eq_true (by omega)
          go_wp2_with fail
          refine (one_any w.heap.size ((10 + 70 * m) + 50) (2) _ (Hc3.out.alloc _) (by omega)).mono ?_; rintro e w4 ⟨⟨o, rfl⟩, hc4, hd4⟩
          have S4 := Lib.hid (show w3.heap.size + 1 ≤ w4.heap.size by have h9 := hd4.size; (try simp only [World.size_alloc, World.size_setCell] at h9); omega)
          have NE := Lib.hid ((Blk.new w3 37 #[.int .i64 a, .int .i64 b]).dg hd4 (show w3.heap.size ≠ w.heap.size by have := Hgl.out; have := HcS.out; have := Sr.out; have := S3.out; have := S4.out; omega))
          have E := NE; clear NE
          have HO := Lib.hid ((HO.out.alloc _).dg hd4 (show w.heap.size < (w.heap.size + 1) by have := Hgl.out; have := HcS.out; have := Sr.out; have := S3.out; have := S4.out; omega))
          have Hc4 := Lib.hid (hc4.mono (j := (10 + 70 * m) + 52) (by omega))
          have Hd4 := Lib.hid ((Hd3.out.alloc _).trans hd4)
          clear hc4 hd4
          clear hd8
          cases o
          · have qE0 := E.out.cell 0
            have qE1 := E.out.cell 1
            simp at qE0 qE1
            have qEl := E.out.lt
            go_wp2_with fail
            refine (ecGood_any a b _).mono ?_; rintro e w5 ⟨rfl, hd5⟩
            clear qE0 qE1 qEl
            have S5 := Lib.hid (show w4.heap.size + 0 ≤ w5.heap.size by have h9 := hd5.size; (try simp only [World.size_alloc, World.size_setCell] at h9); omega)
            have NE := Lib.hid (E.out.dg (Dg.of_below (g := w.heap.size) hd5) (show w3.heap.size ≠ w.heap.size by have := Hgl.out; have := HcS.out; have := Sr.out; have := S3.out; have := S4.out; have := S5.out; omega))
            have E := NE; clear NE
            have HO := Lib.hid (HO.out.dg (Dg.of_below (g := w.heap.size) hd5) (show w.heap.size < (w.heap.size + 1) by have := Hgl.out; have := HcS.out; have := Sr.out; have := S3.out; have := S4.out; have := S5.out; omega))
            have Hc5 := Lib.hid (Hc4.out.on hd5)
            have Hd5 := Lib.hid (Hd4.out.trans (Dg.of_below (g := w.heap.size) hd5))
            clear hd5
            cases hg : curveB a b
            · clear hg
              have qE0 := E.out.cell 0
              have qE1 := E.out.cell 1
              simp at qE0 qE1
              have qEl := E.out.lt
              go_wp2_with fail
              refine (one_any w.heap.size ((10 + 70 * m) + 52) (12) _ Hc5.out (by omega)).mono ?_; rintro e w6 ⟨⟨c2, rfl⟩, hc6, hd6⟩
              clear qE0 qE1 qEl
              have S6 := Lib.hid (show w5.heap.size + 0 ≤ w6.heap.size by have h9 := hd6.size; (try simp only [World.size_alloc, World.size_setCell] at h9); omega)
              have NE := Lib.hid (E.out.dg hd6 (show w3.heap.size ≠ w.heap.size by have := Hgl.out; have := HcS.out; have := Sr.out; have := S3.out; have := S4.out; have := S5.out; have := S6.out; omega))
              have E := NE; clear NE
              have HO := Lib.hid (HO.out.dg hd6 (show w.heap.size < (w.heap.size + 1) by have := Hgl.out; have := HcS.out; have := Sr.out; have := S3.out; have := S4.out; have := S5.out; have := S6.out; omega))
              have Hc6 := Lib.hid (hc6.mono (j := (10 + 70 * m) + 54) (by omega))
              have Hd6 := Lib.hid (Hd5.out.trans hd6)
              clear hc6 hd6
              cases c2
              · obtain ⟨xs9, ho9, ha9⟩ := HO.out.ex
                go_wp2_with (at_builtin; refine wpList_append_own _ rfl _ _ 27 rfl (w.heap.size + 1) 37 i0 (.agg #[.int .i64 0, .int .i64 0]) 2 16 Try.underlying27 hi hz0 hz1 hz2 rfl (by decide) _ _ _ rfl (ho9.alloc _) ⟨w6.heap.size, 0, none⟩ 1 1 [.int .i64 (-1), .int .i64 0] rfl rfl ?c1 ?c2 ?c3 ?c4 ?c5 ?_)
                case c1 =>
                  intro j u hj
                  match j, hj with
                  | 0, hj => simp at hj; subst hj; exact (Blk.new w6 _ _).cell 0
                  | 1, hj => simp at hj; subst hj; exact (Blk.new w6 _ _).cell 1
                case c2 => intro u hu; simp at hu; rcases hu with rfl | rfl <;> rfl
                case c3 => unfold maxLen; omega
                case c4 => omega
                case c5 => have := Hgl.out; have := Sr.out; have := S3.out; have := S4.out; have := S5.out; have := S6.out; simp; omega
                intro v7 w7 hown7 hgrow7 _
                have S7 := Lib.hid (show w6.heap.size + 1 ≤ w7.heap.size by have h9 := hgrow7.size; (try simp only [World.size_alloc, World.size_setCell] at h9); omega)
                have gr7 : ∀ r, Value.ownBlock _ = some r → (w.heap.size + 1) ≤ r := fun r hr => (World.ownsRow.lt ho9 r hr).1
                have Hc7 := Lib.hid ((Hc6.out.alloc _).grown hgrow7 (fun r hr => by have := gr7 r hr; have := Hgl.out; have := Sr.out; have := S3.out; have := S4.out; have := S5.out; have := S6.out; omega))
                have Hd7 := Lib.hid ((Hd6.out.alloc _).grown hgrow7 (fun r hr => by have := gr7 r hr; have := Sr.out; have := S3.out; have := S4.out; have := S5.out; have := S6.out; omega))
                have R7 := Lib.hid (show IR w7 (w.heap.size + 1) 37 2 v7 (m + 1) from ⟨_, hown7, ha9.app (by exact allI2 _ _)⟩)
                clear hown7 hgrow7 gr7 ho9 ha9
                obtain ⟨A8, c8, rfl, -, -⟩ := R7.out.form
                go_wp2
                go_roundw
                case rel => exact ⟨m + 1, by omega, R7, Lib.hid (Hc7.out.mono (by omega)), Hd7⟩
                case measure => simp [lenC]; omega
              · obtain ⟨xs9, ho9, ha9⟩ := HO.out.ex
                have qE0 := E.out.cell 0
                have qE1 := E.out.cell 1
                simp at qE0 qE1
                have qEl := E.out.lt
                go_wp2_with (at_builtin; refine wpList_append_own _ rfl _ _ 27 rfl (w.heap.size + 1) 37 i0 (.agg #[.int .i64 0, .int .i64 0]) 2 16 Try.underlying27 hi hz0 hz1 hz2 rfl (by decide) _ _ _ rfl (ho9.alloc _) ⟨w6.heap.size, 0, none⟩ 1 1 [.int .i64 a, .int .i64 b] rfl rfl ?c1 ?c2 ?c3 ?c4 ?c5 ?_)
                case c1 =>
                  intro j u hj
                  match j, hj with
                  | 0, hj => simp at hj; subst hj; exact (Blk.new w6 _ _).cell 0
                  | 1, hj => simp at hj; subst hj; exact (Blk.new w6 _ _).cell 1
                case c2 => intro u hu; simp at hu; rcases hu with rfl | rfl <;> rfl
                case c3 => unfold maxLen; omega
                case c4 => omega
                case c5 => have := Hgl.out; have := Sr.out; have := S3.out; have := S4.out; have := S5.out; have := S6.out; simp; omega
                intro v8 w8 hown8 hgrow8 _
                clear qE0 qE1 qEl
                have S8 := Lib.hid (show w6.heap.size + 1 ≤ w8.heap.size by have h9 := hgrow8.size; (try simp only [World.size_alloc, World.size_setCell] at h9); omega)
                have gr8 : ∀ r, Value.ownBlock _ = some r → (w.heap.size + 1) ≤ r := fun r hr => (World.ownsRow.lt ho9 r hr).1
                have Hc8 := Lib.hid ((Hc6.out.alloc _).grown hgrow8 (fun r hr => by have := gr8 r hr; have := Hgl.out; have := Sr.out; have := S3.out; have := S4.out; have := S5.out; have := S6.out; omega))
                have Hd8 := Lib.hid ((Hd6.out.alloc _).grown hgrow8 (fun r hr => by have := gr8 r hr; have := Sr.out; have := S3.out; have := S4.out; have := S5.out; have := S6.out; omega))
                have R8 := Lib.hid (show IR w8 (w.heap.size + 1) 37 2 v8 (m + 1) from ⟨_, hown8, ha9.app (by exact allI2 _ _)⟩)
                clear hown8 hgrow8 gr8 ho9 ha9
                obtain ⟨A8, c8, rfl, -, -⟩ := R8.out.form
                go_wp2
                go_roundw
                case rel => exact ⟨m + 1, by omega, R8, Lib.hid (Hc8.out.mono (by omega)), Hd8⟩
                case measure => simp [lenC]; omega
            · clear hg
              obtain ⟨xs9, ho9, ha9⟩ := HO.out.ex
              have qE0 := E.out.cell 0
              have qE1 := E.out.cell 1
              simp at qE0 qE1
              have qEl := E.out.lt
              go_wp2_with (at_builtin; refine wpList_append_own _ rfl _ _ 27 rfl (w.heap.size + 1) 37 i0 (.agg #[.int .i64 0, .int .i64 0]) 2 16 Try.underlying27 hi hz0 hz1 hz2 rfl (by decide) _ _ _ rfl (ho9.alloc _) ⟨w5.heap.size, 0, none⟩ 1 1 [.int .i64 a, .int .i64 b] rfl rfl ?c1 ?c2 ?c3 ?c4 ?c5 ?_)
              case c1 =>
                intro j u hj
                match j, hj with
                | 0, hj => simp at hj; subst hj; exact (Blk.new w5 _ _).cell 0
                | 1, hj => simp at hj; subst hj; exact (Blk.new w5 _ _).cell 1
              case c2 => intro u hu; simp at hu; rcases hu with rfl | rfl <;> rfl
              case c3 => unfold maxLen; omega
              case c4 => omega
              case c5 => have := Hgl.out; have := Sr.out; have := S3.out; have := S4.out; have := S5.out; simp; omega
              intro v9 w9 hown9 hgrow9 _
              clear qE0 qE1 qEl
              have S9 := Lib.hid (show w5.heap.size + 1 ≤ w9.heap.size by have h9 := hgrow9.size; (try simp only [World.size_alloc, World.size_setCell] at h9); omega)
              have gr9 : ∀ r, Value.ownBlock _ = some r → (w.heap.size + 1) ≤ r := fun r hr => (World.ownsRow.lt ho9 r hr).1
              have Hc9 := Lib.hid ((Hc5.out.alloc _).grown hgrow9 (fun r hr => by have := gr9 r hr; have := Hgl.out; have := Sr.out; have := S3.out; have := S4.out; have := S5.out; omega))
              have Hd9 := Lib.hid ((Hd5.out.alloc _).grown hgrow9 (fun r hr => by have := gr9 r hr; have := Sr.out; have := S3.out; have := S4.out; have := S5.out; omega))
              have R9 := Lib.hid (show IR w9 (w.heap.size + 1) 37 2 v9 (m + 1) from ⟨_, hown9, ha9.app (by exact allI2 _ _)⟩)
              clear hown9 hgrow9 gr9 ho9 ha9
              obtain ⟨A8, c8, rfl, -, -⟩ := R9.out.form
              go_wp2
              go_roundw
              case rel => exact ⟨m + 1, by omega, R9, Lib.hid (Hc9.out.mono (by omega)), Hd9⟩
              case measure => simp [lenC]; omega
          · obtain ⟨gl, cl, hfl, hgl1, hgl2, hmcl, hcml⟩ := HO.out.pos hm0
            injection hfl with hf1 hf2 hf3; subst hf1; subst hf3; clear hf2
            obtain ⟨u0, hu0⟩ := HO.out.cell (j := (m - 1) * 2) (by omega)
            obtain ⟨u1, hu1⟩ := HO.out.cell (j := (m - 1) * 2 + 1) (by omega)
            have hj9 : ((m - 1 : Nat) : Int) = (m : Int) - 1 := by omega
            have hj8 : (0 : Int) ≤ (m : Int) - 1 := by omega
            have hj7 : ((m : Int) - 1).toNat = m - 1 := by omega
            go_wp2_with fail
            refine (scale2_any u0 u1 _).mono ?_; rintro e w10 ⟨⟨x, y, ok, rfl⟩, hd10⟩
            have S10 := Lib.hid (show w4.heap.size + 0 ≤ w10.heap.size by have h9 := hd10.size; (try simp only [World.size_alloc, World.size_setCell] at h9); omega)
            have NE := Lib.hid (E.out.dg (Dg.of_below (g := w.heap.size) hd10) (show w3.heap.size ≠ w.heap.size by have := Hgl.out; have := HcS.out; have := Sr.out; have := S3.out; have := S4.out; have := S10.out; omega))
            have E := NE; clear NE
            have HO := Lib.hid (HO.out.dg (Dg.of_below (g := w.heap.size) hd10) (show w.heap.size < (w.heap.size + 1) by have := Hgl.out; have := HcS.out; have := Sr.out; have := S3.out; have := S4.out; have := S10.out; omega))
            have Hc10 := Lib.hid (Hc4.out.on hd10)
            have Hd10 := Lib.hid (Hd4.out.trans (Dg.of_below (g := w.heap.size) hd10))
            clear hd10
            clear hu0 hu1 hj9 hj8 hj7 hgl1 hgl2
            cases ok
            · have qE0 := E.out.cell 0
              have qE1 := E.out.cell 1
              simp at qE0 qE1
              have qEl := E.out.lt
              go_wp2_with fail
              refine (ecGood_any a b _).mono ?_; rintro e w11 ⟨rfl, hd11⟩
              clear qE0 qE1 qEl
              have S11 := Lib.hid (show w10.heap.size + 1 ≤ w11.heap.size by have h9 := hd11.size; (try simp only [World.size_alloc, World.size_setCell] at h9); omega)
              have NE := Lib.hid ((E.out.alloc _).dg (Dg.of_below (g := w.heap.size) hd11) (show w3.heap.size ≠ w.heap.size by have := Hgl.out; have := HcS.out; have := Sr.out; have := S3.out; have := S4.out; have := S10.out; have := S11.out; omega))
              have NE2 := Lib.hid ((Blk.new w10 37 #[.int .i64 x, .int .i64 y]).dg (Dg.of_below (g := w.heap.size) hd11) (show w10.heap.size ≠ w.heap.size by have := Hgl.out; have := HcS.out; have := Sr.out; have := S3.out; have := S4.out; have := S10.out; have := S11.out; omega))
              have E := NE; clear NE
              have E2 := NE2; clear NE2
              have HO := Lib.hid ((HO.out.alloc _).dg (Dg.of_below (g := w.heap.size) hd11) (show w.heap.size < (w.heap.size + 1) by have := Hgl.out; have := HcS.out; have := Sr.out; have := S3.out; have := S4.out; have := S10.out; have := S11.out; omega))
              have Hc11 := Lib.hid ((Hc10.out.alloc _).on hd11)
              have Hd11 := Lib.hid ((Hd10.out.alloc _).trans (Dg.of_below (g := w.heap.size) hd11))
              clear hd11
              cases hg : curveB a b
              · clear hg
                have qE0 := E.out.cell 0
                have qE1 := E.out.cell 1
                simp at qE0 qE1
                have qEl := E.out.lt
                go_wp2_with fail
                refine (one_any w.heap.size ((10 + 70 * m) + 52) (12) _ Hc11.out (by omega)).mono ?_; rintro e w12 ⟨⟨c2, rfl⟩, hc12, hd12⟩
                clear qE0 qE1 qEl
                have S12 := Lib.hid (show w11.heap.size + 0 ≤ w12.heap.size by have h9 := hd12.size; (try simp only [World.size_alloc, World.size_setCell] at h9); omega)
                have NE := Lib.hid (E.out.dg hd12 (show w3.heap.size ≠ w.heap.size by have := Hgl.out; have := HcS.out; have := Sr.out; have := S3.out; have := S4.out; have := S10.out; have := S11.out; have := S12.out; omega))
                have NE2 := Lib.hid (E2.out.dg hd12 (show w10.heap.size ≠ w.heap.size by have := Hgl.out; have := HcS.out; have := Sr.out; have := S3.out; have := S4.out; have := S10.out; have := S11.out; have := S12.out; omega))
                have E := NE; clear NE
                have E2 := NE2; clear NE2
                have HO := Lib.hid (HO.out.dg hd12 (show w.heap.size < (w.heap.size + 1) by have := Hgl.out; have := HcS.out; have := Sr.out; have := S3.out; have := S4.out; have := S10.out; have := S11.out; have := S12.out; omega))
                have Hc12 := Lib.hid (hc12.mono (j := (10 + 70 * m) + 54) (by omega))
                have Hd12 := Lib.hid (Hd11.out.trans hd12)
                clear hc12 hd12
                cases c2
                · obtain ⟨xs9, ho9, ha9⟩ := HO.out.ex
                  go_wp2_with (at_builtin; refine wpList_append_own _ rfl _ _ 27 rfl (w.heap.size + 1) 37 i0 (.agg #[.int .i64 0, .int .i64 0]) 2 16 Try.underlying27 hi hz0 hz1 hz2 rfl (by decide) _ _ _ rfl (ho9.alloc _) ⟨w12.heap.size, 0, none⟩ 1 1 [.int .i64 (-1), .int .i64 0] rfl rfl ?c1 ?c2 ?c3 ?c4 ?c5 ?_)
                  case c1 =>
                    intro j u hj
                    match j, hj with
                    | 0, hj => simp at hj; subst hj; exact (Blk.new w12 _ _).cell 0
                    | 1, hj => simp at hj; subst hj; exact (Blk.new w12 _ _).cell 1
                  case c2 => intro u hu; simp at hu; rcases hu with rfl | rfl <;> rfl
                  case c3 => unfold maxLen; omega
                  case c4 => omega
                  case c5 => have := Hgl.out; have := Sr.out; have := S3.out; have := S4.out; have := S10.out; have := S11.out; have := S12.out; simp; omega
                  intro v13 w13 hown13 hgrow13 _
                  have S13 := Lib.hid (show w12.heap.size + 1 ≤ w13.heap.size by have h9 := hgrow13.size; (try simp only [World.size_alloc, World.size_setCell] at h9); omega)
                  have gr13 : ∀ r, Value.ownBlock _ = some r → (w.heap.size + 1) ≤ r := fun r hr => (World.ownsRow.lt ho9 r hr).1
                  have Hc13 := Lib.hid ((Hc12.out.alloc _).grown hgrow13 (fun r hr => by have := gr13 r hr; have := Hgl.out; have := Sr.out; have := S3.out; have := S4.out; have := S10.out; have := S11.out; have := S12.out; omega))
                  have Hd13 := Lib.hid ((Hd12.out.alloc _).grown hgrow13 (fun r hr => by have := gr13 r hr; have := Sr.out; have := S3.out; have := S4.out; have := S10.out; have := S11.out; have := S12.out; omega))
                  have R13 := Lib.hid (show IR w13 (w.heap.size + 1) 37 2 v13 (m + 1) from ⟨_, hown13, ha9.app (by exact allI2 _ _)⟩)
                  clear hown13 hgrow13 gr13 ho9 ha9
                  obtain ⟨A8, c8, rfl, -, -⟩ := R13.out.form
                  go_wp2
                  go_roundw
                  case rel => exact ⟨m + 1, by omega, R13, Lib.hid (Hc13.out.mono (by omega)), Hd13⟩
                  case measure => simp [lenC]; omega
                · obtain ⟨xs9, ho9, ha9⟩ := HO.out.ex
                  have qE0 := E.out.cell 0
                  have qE1 := E.out.cell 1
                  simp at qE0 qE1
                  have qEl := E.out.lt
                  go_wp2_with (at_builtin; refine wpList_append_own _ rfl _ _ 27 rfl (w.heap.size + 1) 37 i0 (.agg #[.int .i64 0, .int .i64 0]) 2 16 Try.underlying27 hi hz0 hz1 hz2 rfl (by decide) _ _ _ rfl (ho9.alloc _) ⟨w12.heap.size, 0, none⟩ 1 1 [.int .i64 a, .int .i64 b] rfl rfl ?c1 ?c2 ?c3 ?c4 ?c5 ?_)
                  case c1 =>
                    intro j u hj
                    match j, hj with
                    | 0, hj => simp at hj; subst hj; exact (Blk.new w12 _ _).cell 0
                    | 1, hj => simp at hj; subst hj; exact (Blk.new w12 _ _).cell 1
                  case c2 => intro u hu; simp at hu; rcases hu with rfl | rfl <;> rfl
                  case c3 => unfold maxLen; omega
                  case c4 => omega
                  case c5 => have := Hgl.out; have := Sr.out; have := S3.out; have := S4.out; have := S10.out; have := S11.out; have := S12.out; simp; omega
                  intro v14 w14 hown14 hgrow14 _
                  clear qE0 qE1 qEl
                  have S14 := Lib.hid (show w12.heap.size + 1 ≤ w14.heap.size by have h9 := hgrow14.size; (try simp only [World.size_alloc, World.size_setCell] at h9); omega)
                  have gr14 : ∀ r, Value.ownBlock _ = some r → (w.heap.size + 1) ≤ r := fun r hr => (World.ownsRow.lt ho9 r hr).1
                  have Hc14 := Lib.hid ((Hc12.out.alloc _).grown hgrow14 (fun r hr => by have := gr14 r hr; have := Hgl.out; have := Sr.out; have := S3.out; have := S4.out; have := S10.out; have := S11.out; have := S12.out; omega))
                  have Hd14 := Lib.hid ((Hd12.out.alloc _).grown hgrow14 (fun r hr => by have := gr14 r hr; have := Sr.out; have := S3.out; have := S4.out; have := S10.out; have := S11.out; have := S12.out; omega))
                  have R14 := Lib.hid (show IR w14 (w.heap.size + 1) 37 2 v14 (m + 1) from ⟨_, hown14, ha9.app (by exact allI2 _ _)⟩)
                  clear hown14 hgrow14 gr14 ho9 ha9
                  obtain ⟨A8, c8, rfl, -, -⟩ := R14.out.form
                  go_wp2
                  go_roundw
                  case rel => exact ⟨m + 1, by omega, R14, Lib.hid (Hc14.out.mono (by omega)), Hd14⟩
                  case measure => simp [lenC]; omega
              · clear hg
                obtain ⟨xs9, ho9, ha9⟩ := HO.out.ex
                have qE0 := E.out.cell 0
                have qE1 := E.out.cell 1
                simp at qE0 qE1
                have qEl := E.out.lt
                go_wp2_with (at_builtin; refine wpList_append_own _ rfl _ _ 27 rfl (w.heap.size + 1) 37 i0 (.agg #[.int .i64 0, .int .i64 0]) 2 16 Try.underlying27 hi hz0 hz1 hz2 rfl (by decide) _ _ _ rfl (ho9.alloc _) ⟨w11.heap.size, 0, none⟩ 1 1 [.int .i64 a, .int .i64 b] rfl rfl ?c1 ?c2 ?c3 ?c4 ?c5 ?_)
                case c1 =>
                  intro j u hj
                  match j, hj with
                  | 0, hj => simp at hj; subst hj; exact (Blk.new w11 _ _).cell 0
                  | 1, hj => simp at hj; subst hj; exact (Blk.new w11 _ _).cell 1
                case c2 => intro u hu; simp at hu; rcases hu with rfl | rfl <;> rfl
                case c3 => unfold maxLen; omega
                case c4 => omega
                case c5 => have := Hgl.out; have := Sr.out; have := S3.out; have := S4.out; have := S10.out; have := S11.out; simp; omega
                intro v15 w15 hown15 hgrow15 _
                clear qE0 qE1 qEl
                have S15 := Lib.hid (show w11.heap.size + 1 ≤ w15.heap.size by have h9 := hgrow15.size; (try simp only [World.size_alloc, World.size_setCell] at h9); omega)
                have gr15 : ∀ r, Value.ownBlock _ = some r → (w.heap.size + 1) ≤ r := fun r hr => (World.ownsRow.lt ho9 r hr).1
                have Hc15 := Lib.hid ((Hc11.out.alloc _).grown hgrow15 (fun r hr => by have := gr15 r hr; have := Hgl.out; have := Sr.out; have := S3.out; have := S4.out; have := S10.out; have := S11.out; omega))
                have Hd15 := Lib.hid ((Hd11.out.alloc _).grown hgrow15 (fun r hr => by have := gr15 r hr; have := Sr.out; have := S3.out; have := S4.out; have := S10.out; have := S11.out; omega))
                have R15 := Lib.hid (show IR w15 (w.heap.size + 1) 37 2 v15 (m + 1) from ⟨_, hown15, ha9.app (by exact allI2 _ _)⟩)
                clear hown15 hgrow15 gr15 ho9 ha9
                obtain ⟨A8, c8, rfl, -, -⟩ := R15.out.form
                go_wp2
                go_roundw
                case rel => exact ⟨m + 1, by omega, R15, Lib.hid (Hc15.out.mono (by omega)), Hd15⟩
                case measure => simp [lenC]; omega
            · have qE0 := E.out.cell 0
              have qE1 := E.out.cell 1
              simp at qE0 qE1
              have qEl := E.out.lt
              have qEf := E.out.frozen
              go_wp2_with fail
              refine (ecGood_any x y _).mono ?_; rintro e w16 ⟨rfl, hd16⟩
              clear qE0 qE1 qEl qEf
              have S16 := Lib.hid (show w10.heap.size + 1 ≤ w16.heap.size by have h9 := hd16.size; (try simp only [World.size_alloc, World.size_setCell] at h9); omega)
              have NE := Lib.hid ((show Blk (World.alloc (World.setCell (World.setCell w10 ⟨w3.heap.size, 0, none⟩ (.int .i64 x)) ⟨w3.heap.size, 1, none⟩ (.int .i64 y)) (Obj.cells #[.int .i64 x, .int .i64 y] 37)) (w3.heap.size) 37 #[.int .i64 x, .int .i64 y] by have h9 := (((E.out.set 0 (.int .i64 x)).set 1 (.int .i64 y)).alloc (Obj.cells #[.int .i64 x, .int .i64 y] 37)); simpa using h9).dg (Dg.of_below (g := w.heap.size) hd16) (show w3.heap.size ≠ w.heap.size by have := Hgl.out; have := HcS.out; have := Sr.out; have := S3.out; have := S4.out; have := S10.out; have := S16.out; omega))
              have NE2 := Lib.hid ((show Blk (World.alloc (World.setCell (World.setCell w10 ⟨w3.heap.size, 0, none⟩ (.int .i64 x)) ⟨w3.heap.size, 1, none⟩ (.int .i64 y)) (Obj.cells #[.int .i64 x, .int .i64 y] 37)) (w10.heap.size) 37 #[.int .i64 x, .int .i64 y] by have h9 := (Blk.new (World.setCell (World.setCell w10 ⟨w3.heap.size, 0, none⟩ (.int .i64 x)) ⟨w3.heap.size, 1, none⟩ (.int .i64 y)) 37 #[.int .i64 x, .int .i64 y]); (try simp only [World.size_alloc, World.size_setCell] at h9); exact h9).dg (Dg.of_below (g := w.heap.size) hd16) (show w10.heap.size ≠ w.heap.size by have := Hgl.out; have := HcS.out; have := Sr.out; have := S3.out; have := S4.out; have := S10.out; have := S16.out; omega))
              have E := NE; clear NE
              have E2 := NE2; clear NE2
              have HO := Lib.hid ((((HO.out.st (p := ⟨w3.heap.size, 0, none⟩) (by intro k9 hk9; have := GHO.out k9 hk9; show k9 ≠ w3.heap.size; have := Hgl.out; have := HcS.out; have := Sr.out; have := S3.out; have := S4.out; have := S10.out; have := S16.out; omega) (.int .i64 x)).st (p := ⟨w3.heap.size, 1, none⟩) (by intro k9 hk9; have := GHO.out k9 hk9; show k9 ≠ w3.heap.size; have := Hgl.out; have := HcS.out; have := Sr.out; have := S3.out; have := S4.out; have := S10.out; have := S16.out; omega) (.int .i64 y)).alloc (Obj.cells #[.int .i64 x, .int .i64 y] 37)).dg (Dg.of_below (g := w.heap.size) hd16) (show w.heap.size < (w.heap.size + 1) by have := Hgl.out; have := HcS.out; have := Sr.out; have := S3.out; have := S4.out; have := S10.out; have := S16.out; omega))
              have Hc16 := Lib.hid ((((Hc10.out.st (p := ⟨w3.heap.size, 0, none⟩) (show w.heap.size < w3.heap.size by have := Hgl.out; have := HcS.out; have := Sr.out; have := S3.out; have := S4.out; have := S10.out; have := S16.out; omega) (.int .i64 x)).st (p := ⟨w3.heap.size, 1, none⟩) (show w.heap.size < w3.heap.size by have := Hgl.out; have := HcS.out; have := Sr.out; have := S3.out; have := S4.out; have := S10.out; have := S16.out; omega) (.int .i64 y)).alloc (Obj.cells #[.int .i64 x, .int .i64 y] 37)).on hd16)
              have Hd16 := Lib.hid ((((Hd10.out.st (p := ⟨w3.heap.size, 0, none⟩) (show w.heap.size ≤ w3.heap.size by have := Hgl.out; have := HcS.out; have := Sr.out; have := S3.out; have := S4.out; have := S10.out; have := S16.out; omega) (.int .i64 x)).st (p := ⟨w3.heap.size, 1, none⟩) (show w.heap.size ≤ w3.heap.size by have := Hgl.out; have := HcS.out; have := Sr.out; have := S3.out; have := S4.out; have := S10.out; have := S16.out; omega) (.int .i64 y)).alloc (Obj.cells #[.int .i64 x, .int .i64 y] 37)).trans (Dg.of_below (g := w.heap.size) hd16))
              clear hd16
              cases hg : curveB x y
              · clear hg
                have qE0 := E.out.cell 0
                have qE1 := E.out.cell 1
                simp at qE0 qE1
                have qEl := E.out.lt
                go_wp2_with fail
                refine (one_any w.heap.size ((10 + 70 * m) + 52) (12) _ Hc16.out (by omega)).mono ?_; rintro e w17 ⟨⟨c2, rfl⟩, hc17, hd17⟩
                clear qE0 qE1 qEl
                have S17 := Lib.hid (show w16.heap.size + 0 ≤ w17.heap.size by have h9 := hd17.size; (try simp only [World.size_alloc, World.size_setCell] at h9); omega)
                have NE := Lib.hid (E.out.dg hd17 (show w3.heap.size ≠ w.heap.size by have := Hgl.out; have := HcS.out; have := Sr.out; have := S3.out; have := S4.out; have := S10.out; have := S16.out; have := S17.out; omega))
                have NE2 := Lib.hid (E2.out.dg hd17 (show w10.heap.size ≠ w.heap.size by have := Hgl.out; have := HcS.out; have := Sr.out; have := S3.out; have := S4.out; have := S10.out; have := S16.out; have := S17.out; omega))
                have E := NE; clear NE
                have E2 := NE2; clear NE2
                have HO := Lib.hid (HO.out.dg hd17 (show w.heap.size < (w.heap.size + 1) by have := Hgl.out; have := HcS.out; have := Sr.out; have := S3.out; have := S4.out; have := S10.out; have := S16.out; have := S17.out; omega))
                have Hc17 := Lib.hid (hc17.mono (j := (10 + 70 * m) + 54) (by omega))
                have Hd17 := Lib.hid (Hd16.out.trans hd17)
                clear hc17 hd17
                cases c2
                · obtain ⟨xs9, ho9, ha9⟩ := HO.out.ex
                  go_wp2_with (at_builtin; refine wpList_append_own _ rfl _ _ 27 rfl (w.heap.size + 1) 37 i0 (.agg #[.int .i64 0, .int .i64 0]) 2 16 Try.underlying27 hi hz0 hz1 hz2 rfl (by decide) _ _ _ rfl (ho9.alloc _) ⟨w17.heap.size, 0, none⟩ 1 1 [.int .i64 (-1), .int .i64 0] rfl rfl ?c1 ?c2 ?c3 ?c4 ?c5 ?_)
                  case c1 =>
                    intro j u hj
                    match j, hj with
                    | 0, hj => simp at hj; subst hj; exact (Blk.new w17 _ _).cell 0
                    | 1, hj => simp at hj; subst hj; exact (Blk.new w17 _ _).cell 1
                  case c2 => intro u hu; simp at hu; rcases hu with rfl | rfl <;> rfl
                  case c3 => unfold maxLen; omega
                  case c4 => omega
                  case c5 => have := Hgl.out; have := Sr.out; have := S3.out; have := S4.out; have := S10.out; have := S16.out; have := S17.out; simp; omega
                  intro v18 w18 hown18 hgrow18 _
                  have S18 := Lib.hid (show w17.heap.size + 1 ≤ w18.heap.size by have h9 := hgrow18.size; (try simp only [World.size_alloc, World.size_setCell] at h9); omega)
                  have gr18 : ∀ r, Value.ownBlock _ = some r → (w.heap.size + 1) ≤ r := fun r hr => (World.ownsRow.lt ho9 r hr).1
                  have Hc18 := Lib.hid ((Hc17.out.alloc _).grown hgrow18 (fun r hr => by have := gr18 r hr; have := Hgl.out; have := Sr.out; have := S3.out; have := S4.out; have := S10.out; have := S16.out; have := S17.out; omega))
                  have Hd18 := Lib.hid ((Hd17.out.alloc _).grown hgrow18 (fun r hr => by have := gr18 r hr; have := Sr.out; have := S3.out; have := S4.out; have := S10.out; have := S16.out; have := S17.out; omega))
                  have R18 := Lib.hid (show IR w18 (w.heap.size + 1) 37 2 v18 (m + 1) from ⟨_, hown18, ha9.app (by exact allI2 _ _)⟩)
                  clear hown18 hgrow18 gr18 ho9 ha9
                  obtain ⟨A8, c8, rfl, -, -⟩ := R18.out.form
                  go_wp2
                  go_roundw
                  case rel => exact ⟨m + 1, by omega, R18, Lib.hid (Hc18.out.mono (by omega)), Hd18⟩
                  case measure => simp [lenC]; omega
                · obtain ⟨xs9, ho9, ha9⟩ := HO.out.ex
                  have qE0 := E.out.cell 0
                  have qE1 := E.out.cell 1
                  simp at qE0 qE1
                  have qEl := E.out.lt
                  go_wp2_with (at_builtin; refine wpList_append_own _ rfl _ _ 27 rfl (w.heap.size + 1) 37 i0 (.agg #[.int .i64 0, .int .i64 0]) 2 16 Try.underlying27 hi hz0 hz1 hz2 rfl (by decide) _ _ _ rfl (ho9.alloc _) ⟨w17.heap.size, 0, none⟩ 1 1 [.int .i64 x, .int .i64 y] rfl rfl ?c1 ?c2 ?c3 ?c4 ?c5 ?_)
                  case c1 =>
                    intro j u hj
                    match j, hj with
                    | 0, hj => simp at hj; subst hj; exact (Blk.new w17 _ _).cell 0
                    | 1, hj => simp at hj; subst hj; exact (Blk.new w17 _ _).cell 1
                  case c2 => intro u hu; simp at hu; rcases hu with rfl | rfl <;> rfl
                  case c3 => unfold maxLen; omega
                  case c4 => omega
                  case c5 => have := Hgl.out; have := Sr.out; have := S3.out; have := S4.out; have := S10.out; have := S16.out; have := S17.out; simp; omega
                  intro v19 w19 hown19 hgrow19 _
                  clear qE0 qE1 qEl
                  have S19 := Lib.hid (show w17.heap.size + 1 ≤ w19.heap.size by have h9 := hgrow19.size; (try simp only [World.size_alloc, World.size_setCell] at h9); omega)
                  have gr19 : ∀ r, Value.ownBlock _ = some r → (w.heap.size + 1) ≤ r := fun r hr => (World.ownsRow.lt ho9 r hr).1
                  have Hc19 := Lib.hid ((Hc17.out.alloc _).grown hgrow19 (fun r hr => by have := gr19 r hr; have := Hgl.out; have := Sr.out; have := S3.out; have := S4.out; have := S10.out; have := S16.out; have := S17.out; omega))
                  have Hd19 := Lib.hid ((Hd17.out.alloc _).grown hgrow19 (fun r hr => by have := gr19 r hr; have := Sr.out; have := S3.out; have := S4.out; have := S10.out; have := S16.out; have := S17.out; omega))
                  have R19 := Lib.hid (show IR w19 (w.heap.size + 1) 37 2 v19 (m + 1) from ⟨_, hown19, ha9.app (by exact allI2 _ _)⟩)
                  clear hown19 hgrow19 gr19 ho9 ha9
                  obtain ⟨A8, c8, rfl, -, -⟩ := R19.out.form
                  go_wp2
                  go_roundw
                  case rel => exact ⟨m + 1, by omega, R19, Lib.hid (Hc19.out.mono (by omega)), Hd19⟩
                  case measure => simp [lenC]; omega
              · clear hg
                obtain ⟨xs9, ho9, ha9⟩ := HO.out.ex
                have qE0 := E.out.cell 0
                have qE1 := E.out.cell 1
                simp at qE0 qE1
                have qEl := E.out.lt
                go_wp2_with (at_builtin; refine wpList_append_own _ rfl _ _ 27 rfl (w.heap.size + 1) 37 i0 (.agg #[.int .i64 0, .int .i64 0]) 2 16 Try.underlying27 hi hz0 hz1 hz2 rfl (by decide) _ _ _ rfl (ho9.alloc _) ⟨w16.heap.size, 0, none⟩ 1 1 [.int .i64 x, .int .i64 y] rfl rfl ?c1 ?c2 ?c3 ?c4 ?c5 ?_)
                case c1 =>
                  intro j u hj
                  match j, hj with
                  | 0, hj => simp at hj; subst hj; exact (Blk.new w16 _ _).cell 0
                  | 1, hj => simp at hj; subst hj; exact (Blk.new w16 _ _).cell 1
                case c2 => intro u hu; simp at hu; rcases hu with rfl | rfl <;> rfl
                case c3 => unfold maxLen; omega
                case c4 => omega
                case c5 => have := Hgl.out; have := Sr.out; have := S3.out; have := S4.out; have := S10.out; have := S16.out; simp; omega
                intro v20 w20 hown20 hgrow20 _
                clear qE0 qE1 qEl
                have S20 := Lib.hid (show w16.heap.size + 1 ≤ w20.heap.size by have h9 := hgrow20.size; (try simp only [World.size_alloc, World.size_setCell] at h9); omega)
                have gr20 : ∀ r, Value.ownBlock _ = some r → (w.heap.size + 1) ≤ r := fun r hr => (World.ownsRow.lt ho9 r hr).1
                have Hc20 := Lib.hid ((Hc16.out.alloc _).grown hgrow20 (fun r hr => by have := gr20 r hr; have := Hgl.out; have := Sr.out; have := S3.out; have := S4.out; have := S10.out; have := S16.out; omega))
                have Hd20 := Lib.hid ((Hd16.out.alloc _).grown hgrow20 (fun r hr => by have := gr20 r hr; have := Sr.out; have := S3.out; have := S4.out; have := S10.out; have := S16.out; omega))
                have R20 := Lib.hid (show IR w20 (w.heap.size + 1) 37 2 v20 (m + 1) from ⟨_, hown20, ha9.app (by exact allI2 _ _)⟩)
                clear hown20 hgrow20 gr20 ho9 ha9
                obtain ⟨A8, c8, rfl, -, -⟩ := R20.out.form
                go_wp2
                go_roundw
                case rel => exact ⟨m + 1, by omega, R20, Lib.hid (Hc20.out.mono (by omega)), Hd20⟩
                case measure => simp [lenC]; omega
        · have hd8 : decide ((0 : Int) < (m : Int)) = false := decide_eq_false (by omega)
          go_wp2_with fail
          refine (ecGood_any a b _).mono ?_; rintro e w21 ⟨rfl, hd21⟩
          have S21 := Lib.hid (show w3.heap.size + 1 ≤ w21.heap.size by have h9 := hd21.size; (try simp only [World.size_alloc, World.size_setCell] at h9); omega)
          have NE := Lib.hid ((Blk.new w3 37 #[.int .i64 a, .int .i64 b]).dg (Dg.of_below (g := w.heap.size) hd21) (show w3.heap.size ≠ w.heap.size by have := Hgl.out; have := HcS.out; have := Sr.out; have := S3.out; have := S21.out; omega))
          have E := NE; clear NE
          have HO := Lib.hid ((HO.out.alloc _).dg (Dg.of_below (g := w.heap.size) hd21) (show w.heap.size < (w.heap.size + 1) by have := Hgl.out; have := HcS.out; have := Sr.out; have := S3.out; have := S21.out; omega))
          have Hc21 := Lib.hid ((Hc3.out.alloc _).on hd21)
          have Hd21 := Lib.hid ((Hd3.out.alloc _).trans (Dg.of_below (g := w.heap.size) hd21))
          clear hd21
          cases hg : curveB a b
          · clear hg
            have qE0 := E.out.cell 0
            have qE1 := E.out.cell 1
            simp at qE0 qE1
            have qEl := E.out.lt
            go_wp2_with fail
            refine (one_any w.heap.size ((10 + 70 * m) + 50) (12) _ Hc21.out (by omega)).mono ?_; rintro e w22 ⟨⟨c2, rfl⟩, hc22, hd22⟩
            clear qE0 qE1 qEl
            have S22 := Lib.hid (show w21.heap.size + 0 ≤ w22.heap.size by have h9 := hd22.size; (try simp only [World.size_alloc, World.size_setCell] at h9); omega)
            have NE := Lib.hid (E.out.dg hd22 (show w3.heap.size ≠ w.heap.size by have := Hgl.out; have := HcS.out; have := Sr.out; have := S3.out; have := S21.out; have := S22.out; omega))
            have E := NE; clear NE
            have HO := Lib.hid (HO.out.dg hd22 (show w.heap.size < (w.heap.size + 1) by have := Hgl.out; have := HcS.out; have := Sr.out; have := S3.out; have := S21.out; have := S22.out; omega))
            have Hc22 := Lib.hid (hc22.mono (j := (10 + 70 * m) + 52) (by omega))
            have Hd22 := Lib.hid (Hd21.out.trans hd22)
            clear hc22 hd22
            cases c2
            · obtain ⟨xs9, ho9, ha9⟩ := HO.out.ex
              go_wp2_with (at_builtin; refine wpList_append_own _ rfl _ _ 27 rfl (w.heap.size + 1) 37 i0 (.agg #[.int .i64 0, .int .i64 0]) 2 16 Try.underlying27 hi hz0 hz1 hz2 rfl (by decide) _ _ _ rfl (ho9.alloc _) ⟨w22.heap.size, 0, none⟩ 1 1 [.int .i64 (-1), .int .i64 0] rfl rfl ?c1 ?c2 ?c3 ?c4 ?c5 ?_)
              case c1 =>
                intro j u hj
                match j, hj with
                | 0, hj => simp at hj; subst hj; exact (Blk.new w22 _ _).cell 0
                | 1, hj => simp at hj; subst hj; exact (Blk.new w22 _ _).cell 1
              case c2 => intro u hu; simp at hu; rcases hu with rfl | rfl <;> rfl
              case c3 => unfold maxLen; omega
              case c4 => omega
              case c5 => have := Hgl.out; have := Sr.out; have := S3.out; have := S21.out; have := S22.out; simp; omega
              intro v23 w23 hown23 hgrow23 _
              have S23 := Lib.hid (show w22.heap.size + 1 ≤ w23.heap.size by have h9 := hgrow23.size; (try simp only [World.size_alloc, World.size_setCell] at h9); omega)
              have gr23 : ∀ r, Value.ownBlock _ = some r → (w.heap.size + 1) ≤ r := fun r hr => (World.ownsRow.lt ho9 r hr).1
              have Hc23 := Lib.hid ((Hc22.out.alloc _).grown hgrow23 (fun r hr => by have := gr23 r hr; have := Hgl.out; have := Sr.out; have := S3.out; have := S21.out; have := S22.out; omega))
              have Hd23 := Lib.hid ((Hd22.out.alloc _).grown hgrow23 (fun r hr => by have := gr23 r hr; have := Sr.out; have := S3.out; have := S21.out; have := S22.out; omega))
              have R23 := Lib.hid (show IR w23 (w.heap.size + 1) 37 2 v23 (m + 1) from ⟨_, hown23, ha9.app (by exact allI2 _ _)⟩)
              clear hown23 hgrow23 gr23 ho9 ha9
              obtain ⟨A8, c8, rfl, -, -⟩ := R23.out.form
              go_wp2
              go_roundw
              case rel => exact ⟨m + 1, by omega, R23, Lib.hid (Hc23.out.mono (by omega)), Hd23⟩
              case measure => simp [lenC]; omega
            · obtain ⟨xs9, ho9, ha9⟩ := HO.out.ex
              have qE0 := E.out.cell 0
              have qE1 := E.out.cell 1
              simp at qE0 qE1
              have qEl := E.out.lt
              go_wp2_with (at_builtin; refine wpList_append_own _ rfl _ _ 27 rfl (w.heap.size + 1) 37 i0 (.agg #[.int .i64 0, .int .i64 0]) 2 16 Try.underlying27 hi hz0 hz1 hz2 rfl (by decide) _ _ _ rfl (ho9.alloc _) ⟨w22.heap.size, 0, none⟩ 1 1 [.int .i64 a, .int .i64 b] rfl rfl ?c1 ?c2 ?c3 ?c4 ?c5 ?_)
              case c1 =>
                intro j u hj
                match j, hj with
                | 0, hj => simp at hj; subst hj; exact (Blk.new w22 _ _).cell 0
                | 1, hj => simp at hj; subst hj; exact (Blk.new w22 _ _).cell 1
              case c2 => intro u hu; simp at hu; rcases hu with rfl | rfl <;> rfl
              case c3 => unfold maxLen; omega
              case c4 => omega
              case c5 => have := Hgl.out; have := Sr.out; have := S3.out; have := S21.out; have := S22.out; simp; omega
              intro v24 w24 hown24 hgrow24 _
              clear qE0 qE1 qEl
              have S24 := Lib.hid (show w22.heap.size + 1 ≤ w24.heap.size by have h9 := hgrow24.size; (try simp only [World.size_alloc, World.size_setCell] at h9); omega)
              have gr24 : ∀ r, Value.ownBlock _ = some r → (w.heap.size + 1) ≤ r := fun r hr => (World.ownsRow.lt ho9 r hr).1
              have Hc24 := Lib.hid ((Hc22.out.alloc _).grown hgrow24 (fun r hr => by have := gr24 r hr; have := Hgl.out; have := Sr.out; have := S3.out; have := S21.out; have := S22.out; omega))
              have Hd24 := Lib.hid ((Hd22.out.alloc _).grown hgrow24 (fun r hr => by have := gr24 r hr; have := Sr.out; have := S3.out; have := S21.out; have := S22.out; omega))
              have R24 := Lib.hid (show IR w24 (w.heap.size + 1) 37 2 v24 (m + 1) from ⟨_, hown24, ha9.app (by exact allI2 _ _)⟩)
              clear hown24 hgrow24 gr24 ho9 ha9
              obtain ⟨A8, c8, rfl, -, -⟩ := R24.out.form
              go_wp2
              go_roundw
              case rel => exact ⟨m + 1, by omega, R24, Lib.hid (Hc24.out.mono (by omega)), Hd24⟩
              case measure => simp [lenC]; omega
          · clear hg
            obtain ⟨xs9, ho9, ha9⟩ := HO.out.ex
            have qE0 := E.out.cell 0
            have qE1 := E.out.cell 1
            simp at qE0 qE1
            have qEl := E.out.lt
            go_wp2_with (at_builtin; refine wpList_append_own _ rfl _ _ 27 rfl (w.heap.size + 1) 37 i0 (.agg #[.int .i64 0, .int .i64 0]) 2 16 Try.underlying27 hi hz0 hz1 hz2 rfl (by decide) _ _ _ rfl (ho9.alloc _) ⟨w21.heap.size, 0, none⟩ 1 1 [.int .i64 a, .int .i64 b] rfl rfl ?c1 ?c2 ?c3 ?c4 ?c5 ?_)
            case c1 =>
              intro j u hj
              match j, hj with
              | 0, hj => simp at hj; subst hj; exact (Blk.new w21 _ _).cell 0
              | 1, hj => simp at hj; subst hj; exact (Blk.new w21 _ _).cell 1
            case c2 => intro u hu; simp at hu; rcases hu with rfl | rfl <;> rfl
            case c3 => unfold maxLen; omega
            case c4 => omega
            case c5 => have := Hgl.out; have := Sr.out; have := S3.out; have := S21.out; simp; omega
            intro v25 w25 hown25 hgrow25 _
            clear qE0 qE1 qEl
            have S25 := Lib.hid (show w21.heap.size + 1 ≤ w25.heap.size by have h9 := hgrow25.size; (try simp only [World.size_alloc, World.size_setCell] at h9); omega)
            have gr25 : ∀ r, Value.ownBlock _ = some r → (w.heap.size + 1) ≤ r := fun r hr => (World.ownsRow.lt ho9 r hr).1
            have Hc25 := Lib.hid ((Hc21.out.alloc _).grown hgrow25 (fun r hr => by have := gr25 r hr; have := Hgl.out; have := Sr.out; have := S3.out; have := S21.out; omega))
            have Hd25 := Lib.hid ((Hd21.out.alloc _).grown hgrow25 (fun r hr => by have := gr25 r hr; have := Sr.out; have := S3.out; have := S21.out; omega))
            have R25 := Lib.hid (show IR w25 (w.heap.size + 1) 37 2 v25 (m + 1) from ⟨_, hown25, ha9.app (by exact allI2 _ _)⟩)
            clear hown25 hgrow25 gr25 ho9 ha9
            obtain ⟨A8, c8, rfl, -, -⟩ := R25.out.form
            go_wp2
            go_roundw
            case rel => exact ⟨m + 1, by omega, R25, Lib.hid (Hc25.out.mono (by omega)), Hd25⟩
            case measure => simp [lenC]; omega
      · obtain rfl : m = N := by omega
        go_wp2
        go_ret
        exact ⟨⟨_, _, hN, rfl, HO.out.mono (by omega)⟩, Hdr.out.below (by have := Sr.out; omega) (Nat.le_refl _)⟩
  · go_wp2_with fail
    refine (pick_any w.heap.size (0 + 4) (2) _ Hc2.out (by omega)).mono ?_; rintro e w26 ⟨⟨x2, lx2, ux2, rfl⟩, hc26, hd26⟩
    have S26 := Lib.hid (show w2.heap.size + 0 ≤ w26.heap.size by have h9 := hd26.size; (try simp only [World.size_alloc, World.size_setCell] at h9); omega)
    have Hc26 := Lib.hid (hc26.mono (j := 0 + 6) (by omega))
    have Hd26 := Lib.hid (Hd2.out.trans hd26)
    clear hc26 hd26
    obtain ⟨x2, rfl⟩ : ∃ q : Nat, x2 = q := ⟨x2.toNat, by omega⟩
    clear hN
    have hN : 20 + x2 ≤ 21 := by omega
    have HNi := Lib.hid (show (20 : Int) + (x2 : Int) = ((20 + x2 : Nat) : Int) by omega)
    clear lx2 ux2
    go_wp2
    rw [HNi.out]
    clear HNi
    generalize 20 + x2 = N at hN ⊢
    have HcL := Lib.hid (Hc26.out.mono (j := 10 + 70 * 0) (by omega))
    go_wp2
    go_loopw [4] (fun l wr => ∃ m : Nat, m ≤ N ∧ Hid (IR wr (w.heap.size + 1) 37 2 l m) ∧ Hid (Cur wr w.heap.size (10 + 70 * m)) ∧ Hid (Dg w.heap.size w wr)) (fun l _ => N - lenC l)
    case atStart => exact ⟨0, Nat.zero_le _, Lib.hid (IR.nil _ _ _ _), HcL, Hd26⟩
    case round =>
      obtain ⟨m, hm, HO, Hcr, Hdr⟩ := hrel
      obtain ⟨A9, c9, rfl, hmc, hcm⟩ := HO.out.form
      unfold maxLen at hcm
      have Sr := Lib.hid Hdr.out.size
      have GHO := Lib.hid HO.out.lt
      have HcS := Lib.hid Hcr.out.lt
      by_cases hlt : m < N
      · have hd9 : (m : Int) < (N : Int) := by omega
        go_wp2_with fail
        refine (scalable_any w.heap.size (10 + 70 * m) _ Hcr.out (by omega)).mono ?_; rintro e w27 ⟨⟨a, b, rfl⟩, hc27, hd27⟩
        have S27 := Lib.hid (show wr.heap.size + 0 ≤ w27.heap.size by have h9 := hd27.size; (try simp only [World.size_alloc, World.size_setCell] at h9); omega)
        have HO := Lib.hid (HO.out.dg hd27 (show w.heap.size < (w.heap.size + 1) by have := Hgl.out; have := HcS.out; have := Sr.out; have := S27.out; omega))
        have Hc27 := Lib.hid (hc27.mono (j := (10 + 70 * m) + 50) (by omega))
        have Hd27 := Lib.hid (Hdr.out.trans hd27)
        clear hc27 hd27
        by_cases hm0 : 0 < m
        · have hd8 : decide ((0 : Int) < (m : Int)) = true := decide_eq_true (by omega)
          go_wp2_with fail
          refine (one_any w.heap.size ((10 + 70 * m) + 50) (2) _ (Hc27.out.alloc _) (by omega)).mono ?_; rintro e w28 ⟨⟨o, rfl⟩, hc28, hd28⟩
          have S28 := Lib.hid (show w27.heap.size + 1 ≤ w28.heap.size by have h9 := hd28.size; (try simp only [World.size_alloc, World.size_setCell] at h9); omega)
          have NE := Lib.hid ((Blk.new w27 37 #[.int .i64 a, .int .i64 b]).dg hd28 (show w27.heap.size ≠ w.heap.size by have := Hgl.out; have := HcS.out; have := Sr.out; have := S27.out; have := S28.out; omega))
          have E := NE; clear NE
          have HO := Lib.hid ((HO.out.alloc _).dg hd28 (show w.heap.size < (w.heap.size + 1) by have := Hgl.out; have := HcS.out; have := Sr.out; have := S27.out; have := S28.out; omega))
          have Hc28 := Lib.hid (hc28.mono (j := (10 + 70 * m) + 52) (by omega))
          have Hd28 := Lib.hid ((Hd27.out.alloc _).trans hd28)
          clear hc28 hd28
          clear hd8
          cases o
          · have qE0 := E.out.cell 0
            have qE1 := E.out.cell 1
            simp at qE0 qE1
            have qEl := E.out.lt
            go_wp2_with fail
            refine (ecGood_any a b _).mono ?_; rintro e w29 ⟨rfl, hd29⟩
            clear qE0 qE1 qEl
            have S29 := Lib.hid (show w28.heap.size + 0 ≤ w29.heap.size by have h9 := hd29.size; (try simp only [World.size_alloc, World.size_setCell] at h9); omega)
            have NE := Lib.hid (E.out.dg (Dg.of_below (g := w.heap.size) hd29) (show w27.heap.size ≠ w.heap.size by have := Hgl.out; have := HcS.out; have := Sr.out; have := S27.out; have := S28.out; have := S29.out; omega))
            have E := NE; clear NE
            have HO := Lib.hid (HO.out.dg (Dg.of_below (g := w.heap.size) hd29) (show w.heap.size < (w.heap.size + 1) by have := Hgl.out; have := HcS.out; have := Sr.out; have := S27.out; have := S28.out; have := S29.out; omega))
            have Hc29 := Lib.hid (Hc28.out.on hd29)
            have Hd29 := Lib.hid (Hd28.out.trans (Dg.of_below (g := w.heap.size) hd29))
            clear hd29
            cases hg : curveB a b
            · clear hg
              have qE0 := E.out.cell 0
              have qE1 := E.out.cell 1
              simp at qE0 qE1
              have qEl := E.out.lt
              go_wp2_with fail
              refine (one_any w.heap.size ((10 + 70 * m) + 52) (12) _ Hc29.out (by omega)).mono ?_; rintro e w30 ⟨⟨c2, rfl⟩, hc30, hd30⟩
              clear qE0 qE1 qEl
              have S30 := Lib.hid (show w29.heap.size + 0 ≤ w30.heap.size by have h9 := hd30.size; (try simp only [World.size_alloc, World.size_setCell] at h9); omega)
              have NE := Lib.hid (E.out.dg hd30 (show w27.heap.size ≠ w.heap.size by have := Hgl.out; have := HcS.out; have := Sr.out; have := S27.out; have := S28.out; have := S29.out; have := S30.out; omega))
              have E := NE; clear NE
              have HO := Lib.hid (HO.out.dg hd30 (show w.heap.size < (w.heap.size + 1) by have := Hgl.out; have := HcS.out; have := Sr.out; have := S27.out; have := S28.out; have := S29.out; have := S30.out; omega))
              have Hc30 := Lib.hid (hc30.mono (j := (10 + 70 * m) + 54) (by omega))
              have Hd30 := Lib.hid (Hd29.out.trans hd30)
              clear hc30 hd30
              cases c2
              · obtain ⟨xs9, ho9, ha9⟩ := HO.out.ex
                go_wp2_with (at_builtin; refine wpList_append_own _ rfl _ _ 27 rfl (w.heap.size + 1) 37 i0 (.agg #[.int .i64 0, .int .i64 0]) 2 16 Try.underlying27 hi hz0 hz1 hz2 rfl (by decide) _ _ _ rfl (ho9.alloc _) ⟨w30.heap.size, 0, none⟩ 1 1 [.int .i64 (-1), .int .i64 0] rfl rfl ?c1 ?c2 ?c3 ?c4 ?c5 ?_)
                case c1 =>
                  intro j u hj
                  match j, hj with
                  | 0, hj => simp at hj; subst hj; exact (Blk.new w30 _ _).cell 0
                  | 1, hj => simp at hj; subst hj; exact (Blk.new w30 _ _).cell 1
                case c2 => intro u hu; simp at hu; rcases hu with rfl | rfl <;> rfl
                case c3 => unfold maxLen; omega
                case c4 => omega
                case c5 => have := Hgl.out; have := Sr.out; have := S27.out; have := S28.out; have := S29.out; have := S30.out; simp; omega
                intro v31 w31 hown31 hgrow31 _
                have S31 := Lib.hid (show w30.heap.size + 1 ≤ w31.heap.size by have h9 := hgrow31.size; (try simp only [World.size_alloc, World.size_setCell] at h9); omega)
                have gr31 : ∀ r, Value.ownBlock _ = some r → (w.heap.size + 1) ≤ r := fun r hr => (World.ownsRow.lt ho9 r hr).1
                have Hc31 := Lib.hid ((Hc30.out.alloc _).grown hgrow31 (fun r hr => by have := gr31 r hr; have := Hgl.out; have := Sr.out; have := S27.out; have := S28.out; have := S29.out; have := S30.out; omega))
                have Hd31 := Lib.hid ((Hd30.out.alloc _).grown hgrow31 (fun r hr => by have := gr31 r hr; have := Sr.out; have := S27.out; have := S28.out; have := S29.out; have := S30.out; omega))
                have R31 := Lib.hid (show IR w31 (w.heap.size + 1) 37 2 v31 (m + 1) from ⟨_, hown31, ha9.app (by exact allI2 _ _)⟩)
                clear hown31 hgrow31 gr31 ho9 ha9
                obtain ⟨A8, c8, rfl, -, -⟩ := R31.out.form
                go_wp2
                go_roundw
                case rel => exact ⟨m + 1, by omega, R31, Lib.hid (Hc31.out.mono (by omega)), Hd31⟩
                case measure => simp [lenC]; omega
              · obtain ⟨xs9, ho9, ha9⟩ := HO.out.ex
                have qE0 := E.out.cell 0
                have qE1 := E.out.cell 1
                simp at qE0 qE1
                have qEl := E.out.lt
                go_wp2_with (at_builtin; refine wpList_append_own _ rfl _ _ 27 rfl (w.heap.size + 1) 37 i0 (.agg #[.int .i64 0, .int .i64 0]) 2 16 Try.underlying27 hi hz0 hz1 hz2 rfl (by decide) _ _ _ rfl (ho9.alloc _) ⟨w30.heap.size, 0, none⟩ 1 1 [.int .i64 a, .int .i64 b] rfl rfl ?c1 ?c2 ?c3 ?c4 ?c5 ?_)
                case c1 =>
                  intro j u hj
                  match j, hj with
                  | 0, hj => simp at hj; subst hj; exact (Blk.new w30 _ _).cell 0
                  | 1, hj => simp at hj; subst hj; exact (Blk.new w30 _ _).cell 1
                case c2 => intro u hu; simp at hu; rcases hu with rfl | rfl <;> rfl
                case c3 => unfold maxLen; omega
                case c4 => omega
                case c5 => have := Hgl.out; have := Sr.out; have := S27.out; have := S28.out; have := S29.out; have := S30.out; simp; omega
                intro v32 w32 hown32 hgrow32 _
                clear qE0 qE1 qEl
                have S32 := Lib.hid (show w30.heap.size + 1 ≤ w32.heap.size by have h9 := hgrow32.size; (try simp only [World.size_alloc, World.size_setCell] at h9); omega)
                have gr32 : ∀ r, Value.ownBlock _ = some r → (w.heap.size + 1) ≤ r := fun r hr => (World.ownsRow.lt ho9 r hr).1
                have Hc32 := Lib.hid ((Hc30.out.alloc _).grown hgrow32 (fun r hr => by have := gr32 r hr; have := Hgl.out; have := Sr.out; have := S27.out; have := S28.out; have := S29.out; have := S30.out; omega))
                have Hd32 := Lib.hid ((Hd30.out.alloc _).grown hgrow32 (fun r hr => by have := gr32 r hr; have := Sr.out; have := S27.out; have := S28.out; have := S29.out; have := S30.out; omega))
                have R32 := Lib.hid (show IR w32 (w.heap.size + 1) 37 2 v32 (m + 1) from ⟨_, hown32, ha9.app (by exact allI2 _ _)⟩)
                clear hown32 hgrow32 gr32 ho9 ha9
                obtain ⟨A8, c8, rfl, -, -⟩ := R32.out.form
                go_wp2
                go_roundw
                case rel => exact ⟨m + 1, by omega, R32, Lib.hid (Hc32.out.mono (by omega)), Hd32⟩
                case measure => simp [lenC]; omega
            · clear hg
              obtain ⟨xs9, ho9, ha9⟩ := HO.out.ex
              have qE0 := E.out.cell 0
              have qE1 := E.out.cell 1
              simp at qE0 qE1
              have qEl := E.out.lt
              go_wp2_with (at_builtin; refine wpList_append_own _ rfl _ _ 27 rfl (w.heap.size + 1) 37 i0 (.agg #[.int .i64 0, .int .i64 0]) 2 16 Try.underlying27 hi hz0 hz1 hz2 rfl (by decide) _ _ _ rfl (ho9.alloc _) ⟨w29.heap.size, 0, none⟩ 1 1 [.int .i64 a, .int .i64 b] rfl rfl ?c1 ?c2 ?c3 ?c4 ?c5 ?_)
              case c1 =>
                intro j u hj
                match j, hj with
                | 0, hj => simp at hj; subst hj; exact (Blk.new w29 _ _).cell 0
                | 1, hj => simp at hj; subst hj; exact (Blk.new w29 _ _).cell 1
              case c2 => intro u hu; simp at hu; rcases hu with rfl | rfl <;> rfl
              case c3 => unfold maxLen; omega
              case c4 => omega
              case c5 => have := Hgl.out; have := Sr.out; have := S27.out; have := S28.out; have := S29.out; simp; omega
              intro v33 w33 hown33 hgrow33 _
              clear qE0 qE1 qEl
              have S33 := Lib.hid (show w29.heap.size + 1 ≤ w33.heap.size by have h9 := hgrow33.size; (try simp only [World.size_alloc, World.size_setCell] at h9); omega)
              have gr33 : ∀ r, Value.ownBlock _ = some r → (w.heap.size + 1) ≤ r := fun r hr => (World.ownsRow.lt ho9 r hr).1
              have Hc33 := Lib.hid ((Hc29.out.alloc _).grown hgrow33 (fun r hr => by have := gr33 r hr; have := Hgl.out; have := Sr.out; have := S27.out; have := S28.out; have := S29.out; omega))
              have Hd33 := Lib.hid ((Hd29.out.alloc _).grown hgrow33 (fun r hr => by have := gr33 r hr; have := Sr.out; have := S27.out; have := S28.out; have := S29.out; omega))
              have R33 := Lib.hid (show IR w33 (w.heap.size + 1) 37 2 v33 (m + 1) from ⟨_, hown33, ha9.app (by exact allI2 _ _)⟩)
              clear hown33 hgrow33 gr33 ho9 ha9
              obtain ⟨A8, c8, rfl, -, -⟩ := R33.out.form
              go_wp2
              go_roundw
              case rel => exact ⟨m + 1, by omega, R33, Lib.hid (Hc33.out.mono (by omega)), Hd33⟩
              case measure => simp [lenC]; omega
          · obtain ⟨gl, cl, hfl, hgl1, hgl2, hmcl, hcml⟩ := HO.out.pos hm0
            injection hfl with hf1 hf2 hf3; subst hf1; subst hf3; clear hf2
            obtain ⟨u0, hu0⟩ := HO.out.cell (j := (m - 1) * 2) (by omega)
            obtain ⟨u1, hu1⟩ := HO.out.cell (j := (m - 1) * 2 + 1) (by omega)
            have hj9 : ((m - 1 : Nat) : Int) = (m : Int) - 1 := by omega
            have hj8 : (0 : Int) ≤ (m : Int) - 1 := by omega
            have hj7 : ((m : Int) - 1).toNat = m - 1 := by omega
            go_wp2_with fail
            refine (scale2_any u0 u1 _).mono ?_; rintro e w34 ⟨⟨x, y, ok, rfl⟩, hd34⟩
            have S34 := Lib.hid (show w28.heap.size + 0 ≤ w34.heap.size by have h9 := hd34.size; (try simp only [World.size_alloc, World.size_setCell] at h9); omega)
            have NE := Lib.hid (E.out.dg (Dg.of_below (g := w.heap.size) hd34) (show w27.heap.size ≠ w.heap.size by have := Hgl.out; have := HcS.out; have := Sr.out; have := S27.out; have := S28.out; have := S34.out; omega))
            have E := NE; clear NE
            have HO := Lib.hid (HO.out.dg (Dg.of_below (g := w.heap.size) hd34) (show w.heap.size < (w.heap.size + 1) by have := Hgl.out; have := HcS.out; have := Sr.out; have := S27.out; have := S28.out; have := S34.out; omega))
            have Hc34 := Lib.hid (Hc28.out.on hd34)
            have Hd34 := Lib.hid (Hd28.out.trans (Dg.of_below (g := w.heap.size) hd34))
            clear hd34
            clear hu0 hu1 hj9 hj8 hj7 hgl1 hgl2
            cases ok
            · have qE0 := E.out.cell 0
              have qE1 := E.out.cell 1
              simp at qE0 qE1
              have qEl := E.out.lt
              go_wp2_with fail
              refine (ecGood_any a b _).mono ?_; rintro e w35 ⟨rfl, hd35⟩
              clear qE0 qE1 qEl
              have S35 := Lib.hid (show w34.heap.size + 1 ≤ w35.heap.size by have h9 := hd35.size; (try simp only [World.size_alloc, World.size_setCell] at h9); omega)
              have NE := Lib.hid ((E.out.alloc _).dg (Dg.of_below (g := w.heap.size) hd35) (show w27.heap.size ≠ w.heap.size by have := Hgl.out; have := HcS.out; have := Sr.out; have := S27.out; have := S28.out; have := S34.out; have := S35.out; omega))
              have NE2 := Lib.hid ((Blk.new w34 37 #[.int .i64 x, .int .i64 y]).dg (Dg.of_below (g := w.heap.size) hd35) (show w34.heap.size ≠ w.heap.size by have := Hgl.out; have := HcS.out; have := Sr.out; have := S27.out; have := S28.out; have := S34.out; have := S35.out; omega))
              have E := NE; clear NE
              have E2 := NE2; clear NE2
              have HO := Lib.hid ((HO.out.alloc _).dg (Dg.of_below (g := w.heap.size) hd35) (show w.heap.size < (w.heap.size + 1) by have := Hgl.out; have := HcS.out; have := Sr.out; have := S27.out; have := S28.out; have := S34.out; have := S35.out; omega))
              have Hc35 := Lib.hid ((Hc34.out.alloc _).on hd35)
              have Hd35 := Lib.hid ((Hd34.out.alloc _).trans (Dg.of_below (g := w.heap.size) hd35))
              clear hd35
              cases hg : curveB a b
              · clear hg
                have qE0 := E.out.cell 0
                have qE1 := E.out.cell 1
                simp at qE0 qE1
                have qEl := E.out.lt
                go_wp2_with fail
                refine (one_any w.heap.size ((10 + 70 * m) + 52) (12) _ Hc35.out (by omega)).mono ?_; rintro e w36 ⟨⟨c2, rfl⟩, hc36, hd36⟩
                clear qE0 qE1 qEl
                have S36 := Lib.hid (show w35.heap.size + 0 ≤ w36.heap.size by have h9 := hd36.size; (try simp only [World.size_alloc, World.size_setCell] at h9); omega)
                have NE := Lib.hid (E.out.dg hd36 (show w27.heap.size ≠ w.heap.size by have := Hgl.out; have := HcS.out; have := Sr.out; have := S27.out; have := S28.out; have := S34.out; have := S35.out; have := S36.out; omega))
                have NE2 := Lib.hid (E2.out.dg hd36 (show w34.heap.size ≠ w.heap.size by have := Hgl.out; have := HcS.out; have := Sr.out; have := S27.out; have := S28.out; have := S34.out; have := S35.out; have := S36.out; omega))
                have E := NE; clear NE
                have E2 := NE2; clear NE2
                have HO := Lib.hid (HO.out.dg hd36 (show w.heap.size < (w.heap.size + 1) by have := Hgl.out; have := HcS.out; have := Sr.out; have := S27.out; have := S28.out; have := S34.out; have := S35.out; have := S36.out; omega))
                have Hc36 := Lib.hid (hc36.mono (j := (10 + 70 * m) + 54) (by omega))
                have Hd36 := Lib.hid (Hd35.out.trans hd36)
                clear hc36 hd36
                cases c2
                · obtain ⟨xs9, ho9, ha9⟩ := HO.out.ex
                  go_wp2_with (at_builtin; refine wpList_append_own _ rfl _ _ 27 rfl (w.heap.size + 1) 37 i0 (.agg #[.int .i64 0, .int .i64 0]) 2 16 Try.underlying27 hi hz0 hz1 hz2 rfl (by decide) _ _ _ rfl (ho9.alloc _) ⟨w36.heap.size, 0, none⟩ 1 1 [.int .i64 (-1), .int .i64 0] rfl rfl ?c1 ?c2 ?c3 ?c4 ?c5 ?_)
                  case c1 =>
                    intro j u hj
                    match j, hj with
                    | 0, hj => simp at hj; subst hj; exact (Blk.new w36 _ _).cell 0
                    | 1, hj => simp at hj; subst hj; exact (Blk.new w36 _ _).cell 1
                  case c2 => intro u hu; simp at hu; rcases hu with rfl | rfl <;> rfl
                  case c3 => unfold maxLen; omega
                  case c4 => omega
                  case c5 => have := Hgl.out; have := Sr.out; have := S27.out; have := S28.out; have := S34.out; have := S35.out; have := S36.out; simp; omega
                  intro v37 w37 hown37 hgrow37 _
                  have S37 := Lib.hid (show w36.heap.size + 1 ≤ w37.heap.size by have h9 := hgrow37.size; (try simp only [World.size_alloc, World.size_setCell] at h9); omega)
                  have gr37 : ∀ r, Value.ownBlock _ = some r → (w.heap.size + 1) ≤ r := fun r hr => (World.ownsRow.lt ho9 r hr).1
                  have Hc37 := Lib.hid ((Hc36.out.alloc _).grown hgrow37 (fun r hr => by have := gr37 r hr; have := Hgl.out; have := Sr.out; have := S27.out; have := S28.out; have := S34.out; have := S35.out; have := S36.out; omega))
                  have Hd37 := Lib.hid ((Hd36.out.alloc _).grown hgrow37 (fun r hr => by have := gr37 r hr; have := Sr.out; have := S27.out; have := S28.out; have := S34.out; have := S35.out; have := S36.out; omega))
                  have R37 := Lib.hid (show IR w37 (w.heap.size + 1) 37 2 v37 (m + 1) from ⟨_, hown37, ha9.app (by exact allI2 _ _)⟩)
                  clear hown37 hgrow37 gr37 ho9 ha9
                  obtain ⟨A8, c8, rfl, -, -⟩ := R37.out.form
                  go_wp2
                  go_roundw
                  case rel => exact ⟨m + 1, by omega, R37, Lib.hid (Hc37.out.mono (by omega)), Hd37⟩
                  case measure => simp [lenC]; omega
                · obtain ⟨xs9, ho9, ha9⟩ := HO.out.ex
                  have qE0 := E.out.cell 0
                  have qE1 := E.out.cell 1
                  simp at qE0 qE1
                  have qEl := E.out.lt
                  go_wp2_with (at_builtin; refine wpList_append_own _ rfl _ _ 27 rfl (w.heap.size + 1) 37 i0 (.agg #[.int .i64 0, .int .i64 0]) 2 16 Try.underlying27 hi hz0 hz1 hz2 rfl (by decide) _ _ _ rfl (ho9.alloc _) ⟨w36.heap.size, 0, none⟩ 1 1 [.int .i64 a, .int .i64 b] rfl rfl ?c1 ?c2 ?c3 ?c4 ?c5 ?_)
                  case c1 =>
                    intro j u hj
                    match j, hj with
                    | 0, hj => simp at hj; subst hj; exact (Blk.new w36 _ _).cell 0
                    | 1, hj => simp at hj; subst hj; exact (Blk.new w36 _ _).cell 1
                  case c2 => intro u hu; simp at hu; rcases hu with rfl | rfl <;> rfl
                  case c3 => unfold maxLen; omega
                  case c4 => omega
                  case c5 => have := Hgl.out; have := Sr.out; have := S27.out; have := S28.out; have := S34.out; have := S35.out; have := S36.out; simp; omega
                  intro v38 w38 hown38 hgrow38 _
                  clear qE0 qE1 qEl
                  have S38 := Lib.hid (show w36.heap.size + 1 ≤ w38.heap.size by have h9 := hgrow38.size; (try simp only [World.size_alloc, World.size_setCell] at h9); omega)
                  have gr38 : ∀ r, Value.ownBlock _ = some r → (w.heap.size + 1) ≤ r := fun r hr => (World.ownsRow.lt ho9 r hr).1
                  have Hc38 := Lib.hid ((Hc36.out.alloc _).grown hgrow38 (fun r hr => by have := gr38 r hr; have := Hgl.out; have := Sr.out; have := S27.out; have := S28.out; have := S34.out; have := S35.out; have := S36.out; omega))
                  have Hd38 := Lib.hid ((Hd36.out.alloc _).grown hgrow38 (fun r hr => by have := gr38 r hr; have := Sr.out; have := S27.out; have := S28.out; have := S34.out; have := S35.out; have := S36.out; omega))
                  have R38 := Lib.hid (show IR w38 (w.heap.size + 1) 37 2 v38 (m + 1) from ⟨_, hown38, ha9.app (by exact allI2 _ _)⟩)
                  clear hown38 hgrow38 gr38 ho9 ha9
                  obtain ⟨A8, c8, rfl, -, -⟩ := R38.out.form
                  go_wp2
                  go_roundw
                  case rel => exact ⟨m + 1, by omega, R38, Lib.hid (Hc38.out.mono (by omega)), Hd38⟩
                  case measure => simp [lenC]; omega
              · clear hg
                obtain ⟨xs9, ho9, ha9⟩ := HO.out.ex
                have qE0 := E.out.cell 0
                have qE1 := E.out.cell 1
                simp at qE0 qE1
                have qEl := E.out.lt
                go_wp2_with (at_builtin; refine wpList_append_own _ rfl _ _ 27 rfl (w.heap.size + 1) 37 i0 (.agg #[.int .i64 0, .int .i64 0]) 2 16 Try.underlying27 hi hz0 hz1 hz2 rfl (by decide) _ _ _ rfl (ho9.alloc _) ⟨w35.heap.size, 0, none⟩ 1 1 [.int .i64 a, .int .i64 b] rfl rfl ?c1 ?c2 ?c3 ?c4 ?c5 ?_)
                case c1 =>
                  intro j u hj
                  match j, hj with
                  | 0, hj => simp at hj; subst hj; exact (Blk.new w35 _ _).cell 0
                  | 1, hj => simp at hj; subst hj; exact (Blk.new w35 _ _).cell 1
                case c2 => intro u hu; simp at hu; rcases hu with rfl | rfl <;> rfl
                case c3 => unfold maxLen; omega
                case c4 => omega
                case c5 => have := Hgl.out; have := Sr.out; have := S27.out; have := S28.out; have := S34.out; have := S35.out; simp; omega
                intro v39 w39 hown39 hgrow39 _
                clear qE0 qE1 qEl
                have S39 := Lib.hid (show w35.heap.size + 1 ≤ w39.heap.size by have h9 := hgrow39.size; (try simp only [World.size_alloc, World.size_setCell] at h9); omega)
                have gr39 : ∀ r, Value.ownBlock _ = some r → (w.heap.size + 1) ≤ r := fun r hr => (World.ownsRow.lt ho9 r hr).1
                have Hc39 := Lib.hid ((Hc35.out.alloc _).grown hgrow39 (fun r hr => by have := gr39 r hr; have := Hgl.out; have := Sr.out; have := S27.out; have := S28.out; have := S34.out; have := S35.out; omega))
                have Hd39 := Lib.hid ((Hd35.out.alloc _).grown hgrow39 (fun r hr => by have := gr39 r hr; have := Sr.out; have := S27.out; have := S28.out; have := S34.out; have := S35.out; omega))
                have R39 := Lib.hid (show IR w39 (w.heap.size + 1) 37 2 v39 (m + 1) from ⟨_, hown39, ha9.app (by exact allI2 _ _)⟩)
                clear hown39 hgrow39 gr39 ho9 ha9
                obtain ⟨A8, c8, rfl, -, -⟩ := R39.out.form
                go_wp2
                go_roundw
                case rel => exact ⟨m + 1, by omega, R39, Lib.hid (Hc39.out.mono (by omega)), Hd39⟩
                case measure => simp [lenC]; omega
            · have qE0 := E.out.cell 0
              have qE1 := E.out.cell 1
              simp at qE0 qE1
              have qEl := E.out.lt
              have qEf := E.out.frozen
              go_wp2_with fail
              refine (ecGood_any x y _).mono ?_; rintro e w40 ⟨rfl, hd40⟩
              clear qE0 qE1 qEl qEf
              have S40 := Lib.hid (show w34.heap.size + 1 ≤ w40.heap.size by have h9 := hd40.size; (try simp only [World.size_alloc, World.size_setCell] at h9); omega)
              have NE := Lib.hid ((show Blk (World.alloc (World.setCell (World.setCell w34 ⟨w27.heap.size, 0, none⟩ (.int .i64 x)) ⟨w27.heap.size, 1, none⟩ (.int .i64 y)) (Obj.cells #[.int .i64 x, .int .i64 y] 37)) (w27.heap.size) 37 #[.int .i64 x, .int .i64 y] by have h9 := (((E.out.set 0 (.int .i64 x)).set 1 (.int .i64 y)).alloc (Obj.cells #[.int .i64 x, .int .i64 y] 37)); simpa using h9).dg (Dg.of_below (g := w.heap.size) hd40) (show w27.heap.size ≠ w.heap.size by have := Hgl.out; have := HcS.out; have := Sr.out; have := S27.out; have := S28.out; have := S34.out; have := S40.out; omega))
              have NE2 := Lib.hid ((show Blk (World.alloc (World.setCell (World.setCell w34 ⟨w27.heap.size, 0, none⟩ (.int .i64 x)) ⟨w27.heap.size, 1, none⟩ (.int .i64 y)) (Obj.cells #[.int .i64 x, .int .i64 y] 37)) (w34.heap.size) 37 #[.int .i64 x, .int .i64 y] by have h9 := (Blk.new (World.setCell (World.setCell w34 ⟨w27.heap.size, 0, none⟩ (.int .i64 x)) ⟨w27.heap.size, 1, none⟩ (.int .i64 y)) 37 #[.int .i64 x, .int .i64 y]); (try simp only [World.size_alloc, World.size_setCell] at h9); exact h9).dg (Dg.of_below (g := w.heap.size) hd40) (show w34.heap.size ≠ w.heap.size by have := Hgl.out; have := HcS.out; have := Sr.out; have := S27.out; have := S28.out; have := S34.out; have := S40.out; omega))
              have E := NE; clear NE
              have E2 := NE2; clear NE2
              have HO := Lib.hid ((((HO.out.st (p := ⟨w27.heap.size, 0, none⟩) (by intro k9 hk9; have := GHO.out k9 hk9; show k9 ≠ w27.heap.size; have := Hgl.out; have := HcS.out; have := Sr.out; have := S27.out; have := S28.out; have := S34.out; have := S40.out; omega) (.int .i64 x)).st (p := ⟨w27.heap.size, 1, none⟩) (by intro k9 hk9; have := GHO.out k9 hk9; show k9 ≠ w27.heap.size; have := Hgl.out; have := HcS.out; have := Sr.out; have := S27.out; have := S28.out; have := S34.out; have := S40.out; omega) (.int .i64 y)).alloc (Obj.cells #[.int .i64 x, .int .i64 y] 37)).dg (Dg.of_below (g := w.heap.size) hd40) (show w.heap.size < (w.heap.size + 1) by have := Hgl.out; have := HcS.out; have := Sr.out; have := S27.out; have := S28.out; have := S34.out; have := S40.out; omega))
              have Hc40 := Lib.hid ((((Hc34.out.st (p := ⟨w27.heap.size, 0, none⟩) (show w.heap.size < w27.heap.size by have := Hgl.out; have := HcS.out; have := Sr.out; have := S27.out; have := S28.out; have := S34.out; have := S40.out; omega) (.int .i64 x)).st (p := ⟨w27.heap.size, 1, none⟩) (show w.heap.size < w27.heap.size by have := Hgl.out; have := HcS.out; have := Sr.out; have := S27.out; have := S28.out; have := S34.out; have := S40.out; omega) (.int .i64 y)).alloc (Obj.cells #[.int .i64 x, .int .i64 y] 37)).on hd40)
              have Hd40 := Lib.hid ((((Hd34.out.st (p := ⟨w27.heap.size, 0, none⟩) (show w.heap.size ≤ w27.heap.size by have := Hgl.out; have := HcS.out; have := Sr.out; have := S27.out; have := S28.out; have := S34.out; have := S40.out; omega) (.int .i64 x)).st (p := ⟨w27.heap.size, 1, none⟩) (show w.heap.size ≤ w27.heap.size by have := Hgl.out; have := HcS.out; have := Sr.out; have := S27.out; have := S28.out; have := S34.out; have := S40.out; omega) (.int .i64 y)).alloc (Obj.cells #[.int .i64 x, .int .i64 y] 37)).trans (Dg.of_below (g := w.heap.size) hd40))
              clear hd40
              cases hg : curveB x y
              · clear hg
                have qE0 := E.out.cell 0
                have qE1 := E.out.cell 1
                simp at qE0 qE1
                have qEl := E.out.lt
                go_wp2_with fail
                refine (one_any w.heap.size ((10 + 70 * m) + 52) (12) _ Hc40.out (by omega)).mono ?_; rintro e w41 ⟨⟨c2, rfl⟩, hc41, hd41⟩
                clear qE0 qE1 qEl
                have S41 := Lib.hid (show w40.heap.size + 0 ≤ w41.heap.size by have h9 := hd41.size; (try simp only [World.size_alloc, World.size_setCell] at h9); omega)
                have NE := Lib.hid (E.out.dg hd41 (show w27.heap.size ≠ w.heap.size by have := Hgl.out; have := HcS.out; have := Sr.out; have := S27.out; have := S28.out; have := S34.out; have := S40.out; have := S41.out; omega))
                have NE2 := Lib.hid (E2.out.dg hd41 (show w34.heap.size ≠ w.heap.size by have := Hgl.out; have := HcS.out; have := Sr.out; have := S27.out; have := S28.out; have := S34.out; have := S40.out; have := S41.out; omega))
                have E := NE; clear NE
                have E2 := NE2; clear NE2
                have HO := Lib.hid (HO.out.dg hd41 (show w.heap.size < (w.heap.size + 1) by have := Hgl.out; have := HcS.out; have := Sr.out; have := S27.out; have := S28.out; have := S34.out; have := S40.out; have := S41.out; omega))
                have Hc41 := Lib.hid (hc41.mono (j := (10 + 70 * m) + 54) (by omega))
                have Hd41 := Lib.hid (Hd40.out.trans hd41)
                clear hc41 hd41
                cases c2
                · obtain ⟨xs9, ho9, ha9⟩ := HO.out.ex
                  go_wp2_with (at_builtin; refine wpList_append_own _ rfl _ _ 27 rfl (w.heap.size + 1) 37 i0 (.agg #[.int .i64 0, .int .i64 0]) 2 16 Try.underlying27 hi hz0 hz1 hz2 rfl (by decide) _ _ _ rfl (ho9.alloc _) ⟨w41.heap.size, 0, none⟩ 1 1 [.int .i64 (-1), .int .i64 0] rfl rfl ?c1 ?c2 ?c3 ?c4 ?c5 ?_)
                  case c1 =>
                    intro j u hj
                    match j, hj with
                    | 0, hj => simp at hj; subst hj; exact (Blk.new w41 _ _).cell 0
                    | 1, hj => simp at hj; subst hj; exact (Blk.new w41 _ _).cell 1
                  case c2 => intro u hu; simp at hu; rcases hu with rfl | rfl <;> rfl
                  case c3 => unfold maxLen; omega
                  case c4 => omega
                  case c5 => have := Hgl.out; have := Sr.out; have := S27.out; have := S28.out; have := S34.out; have := S40.out; have := S41.out; simp; omega
                  intro v42 w42 hown42 hgrow42 _
                  have S42 := Lib.hid (show w41.heap.size + 1 ≤ w42.heap.size by have h9 := hgrow42.size; (try simp only [World.size_alloc, World.size_setCell] at h9); omega)
                  have gr42 : ∀ r, Value.ownBlock _ = some r → (w.heap.size + 1) ≤ r := fun r hr => (World.ownsRow.lt ho9 r hr).1
                  have Hc42 := Lib.hid ((Hc41.out.alloc _).grown hgrow42 (fun r hr => by have := gr42 r hr; have := Hgl.out; have := Sr.out; have := S27.out; have := S28.out; have := S34.out; have := S40.out; have := S41.out; omega))
                  have Hd42 := Lib.hid ((Hd41.out.alloc _).grown hgrow42 (fun r hr => by have := gr42 r hr; have := Sr.out; have := S27.out; have := S28.out; have := S34.out; have := S40.out; have := S41.out; omega))
                  have R42 := Lib.hid (show IR w42 (w.heap.size + 1) 37 2 v42 (m + 1) from ⟨_, hown42, ha9.app (by exact allI2 _ _)⟩)
                  clear hown42 hgrow42 gr42 ho9 ha9
                  obtain ⟨A8, c8, rfl, -, -⟩ := R42.out.form
                  go_wp2
                  go_roundw
                  case rel => exact ⟨m + 1, by omega, R42, Lib.hid (Hc42.out.mono (by omega)), Hd42⟩
                  case measure => simp [lenC]; omega
                · obtain ⟨xs9, ho9, ha9⟩ := HO.out.ex
                  have qE0 := E.out.cell 0
                  have qE1 := E.out.cell 1
                  simp at qE0 qE1
                  have qEl := E.out.lt
                  go_wp2_with (at_builtin; refine wpList_append_own _ rfl _ _ 27 rfl (w.heap.size + 1) 37 i0 (.agg #[.int .i64 0, .int .i64 0]) 2 16 Try.underlying27 hi hz0 hz1 hz2 rfl (by decide) _ _ _ rfl (ho9.alloc _) ⟨w41.heap.size, 0, none⟩ 1 1 [.int .i64 x, .int .i64 y] rfl rfl ?c1 ?c2 ?c3 ?c4 ?c5 ?_)
                  case c1 =>
                    intro j u hj
                    match j, hj with
                    | 0, hj => simp at hj; subst hj; exact (Blk.new w41 _ _).cell 0
                    | 1, hj => simp at hj; subst hj; exact (Blk.new w41 _ _).cell 1
                  case c2 => intro u hu; simp at hu; rcases hu with rfl | rfl <;> rfl
                  case c3 => unfold maxLen; omega
                  case c4 => omega
                  case c5 => have := Hgl.out; have := Sr.out; have := S27.out; have := S28.out; have := S34.out; have := S40.out; have := S41.out; simp; omega
                  intro v43 w43 hown43 hgrow43 _
                  clear qE0 qE1 qEl
                  have S43 := Lib.hid (show w41.heap.size + 1 ≤ w43.heap.size by have h9 := hgrow43.size; (try simp only [World.size_alloc, World.size_setCell] at h9); omega)
                  have gr43 : ∀ r, Value.ownBlock _ = some r → (w.heap.size + 1) ≤ r := fun r hr => (World.ownsRow.lt ho9 r hr).1
                  have Hc43 := Lib.hid ((Hc41.out.alloc _).grown hgrow43 (fun r hr => by have := gr43 r hr; have := Hgl.out; have := Sr.out; have := S27.out; have := S28.out; have := S34.out; have := S40.out; have := S41.out; omega))
                  have Hd43 := Lib.hid ((Hd41.out.alloc _).grown hgrow43 (fun r hr => by have := gr43 r hr; have := Sr.out; have := S27.out; have := S28.out; have := S34.out; have := S40.out; have := S41.out; omega))
                  have R43 := Lib.hid (show IR w43 (w.heap.size + 1) 37 2 v43 (m + 1) from ⟨_, hown43, ha9.app (by exact allI2 _ _)⟩)
                  clear hown43 hgrow43 gr43 ho9 ha9
                  obtain ⟨A8, c8, rfl, -, -⟩ := R43.out.form
                  go_wp2
                  go_roundw
                  case rel => exact ⟨m + 1, by omega, R43, Lib.hid (Hc43.out.mono (by omega)), Hd43⟩
                  case measure => simp [lenC]; omega
              · clear hg
                obtain ⟨xs9, ho9, ha9⟩ := HO.out.ex
                have qE0 := E.out.cell 0
                have qE1 := E.out.cell 1
                simp at qE0 qE1
                have qEl := E.out.lt
                go_wp2_with (at_builtin; refine wpList_append_own _ rfl _ _ 27 rfl (w.heap.size + 1) 37 i0 (.agg #[.int .i64 0, .int .i64 0]) 2 16 Try.underlying27 hi hz0 hz1 hz2 rfl (by decide) _ _ _ rfl (ho9.alloc _) ⟨w40.heap.size, 0, none⟩ 1 1 [.int .i64 x, .int .i64 y] rfl rfl ?c1 ?c2 ?c3 ?c4 ?c5 ?_)
                case c1 =>
                  intro j u hj
                  match j, hj with
                  | 0, hj => simp at hj; subst hj; exact (Blk.new w40 _ _).cell 0
                  | 1, hj => simp at hj; subst hj; exact (Blk.new w40 _ _).cell 1
                case c2 => intro u hu; simp at hu; rcases hu with rfl | rfl <;> rfl
                case c3 => unfold maxLen; omega
                case c4 => omega
                case c5 => have := Hgl.out; have := Sr.out; have := S27.out; have := S28.out; have := S34.out; have := S40.out; simp; omega
                intro v44 w44 hown44 hgrow44 _
                clear qE0 qE1 qEl
                have S44 := Lib.hid (show w40.heap.size + 1 ≤ w44.heap.size by have h9 := hgrow44.size; (try simp only [World.size_alloc, World.size_setCell] at h9); omega)
                have gr44 : ∀ r, Value.ownBlock _ = some r → (w.heap.size + 1) ≤ r := fun r hr => (World.ownsRow.lt ho9 r hr).1
                have Hc44 := Lib.hid ((Hc40.out.alloc _).grown hgrow44 (fun r hr => by have := gr44 r hr; have := Hgl.out; have := Sr.out; have := S27.out; have := S28.out; have := S34.out; have := S40.out; omega))
                have Hd44 := Lib.hid ((Hd40.out.alloc _).grown hgrow44 (fun r hr => by have := gr44 r hr; have := Sr.out; have := S27.out; have := S28.out; have := S34.out; have := S40.out; omega))
                have R44 := Lib.hid (show IR w44 (w.heap.size + 1) 37 2 v44 (m + 1) from ⟨_, hown44, ha9.app (by exact allI2 _ _)⟩)
                clear hown44 hgrow44 gr44 ho9 ha9
                obtain ⟨A8, c8, rfl, -, -⟩ := R44.out.form
                go_wp2
                go_roundw
                case rel => exact ⟨m + 1, by omega, R44, Lib.hid (Hc44.out.mono (by omega)), Hd44⟩
                case measure => simp [lenC]; omega
        · have hd8 : decide ((0 : Int) < (m : Int)) = false := decide_eq_false (by omega)
          go_wp2_with fail
          refine (ecGood_any a b _).mono ?_; rintro e w45 ⟨rfl, hd45⟩
          have S45 := Lib.hid (show w27.heap.size + 1 ≤ w45.heap.size by have h9 := hd45.size; (try simp only [World.size_alloc, World.size_setCell] at h9); omega)
          have NE := Lib.hid ((Blk.new w27 37 #[.int .i64 a, .int .i64 b]).dg (Dg.of_below (g := w.heap.size) hd45) (show w27.heap.size ≠ w.heap.size by have := Hgl.out; have := HcS.out; have := Sr.out; have := S27.out; have := S45.out; omega))
          have E := NE; clear NE
          have HO := Lib.hid ((HO.out.alloc _).dg (Dg.of_below (g := w.heap.size) hd45) (show w.heap.size < (w.heap.size + 1) by have := Hgl.out; have := HcS.out; have := Sr.out; have := S27.out; have := S45.out; omega))
          have Hc45 := Lib.hid ((Hc27.out.alloc _).on hd45)
          have Hd45 := Lib.hid ((Hd27.out.alloc _).trans (Dg.of_below (g := w.heap.size) hd45))
          clear hd45
          cases hg : curveB a b
          · clear hg
            have qE0 := E.out.cell 0
            have qE1 := E.out.cell 1
            simp at qE0 qE1
            have qEl := E.out.lt
            go_wp2_with fail
            refine (one_any w.heap.size ((10 + 70 * m) + 50) (12) _ Hc45.out (by omega)).mono ?_; rintro e w46 ⟨⟨c2, rfl⟩, hc46, hd46⟩
            clear qE0 qE1 qEl
            have S46 := Lib.hid (show w45.heap.size + 0 ≤ w46.heap.size by have h9 := hd46.size; (try simp only [World.size_alloc, World.size_setCell] at h9); omega)
            have NE := Lib.hid (E.out.dg hd46 (show w27.heap.size ≠ w.heap.size by have := Hgl.out; have := HcS.out; have := Sr.out; have := S27.out; have := S45.out; have := S46.out; omega))
            have E := NE; clear NE
            have HO := Lib.hid (HO.out.dg hd46 (show w.heap.size < (w.heap.size + 1) by have := Hgl.out; have := HcS.out; have := Sr.out; have := S27.out; have := S45.out; have := S46.out; omega))
            have Hc46 := Lib.hid (hc46.mono (j := (10 + 70 * m) + 52) (by omega))
            have Hd46 := Lib.hid (Hd45.out.trans hd46)
            clear hc46 hd46
            cases c2
            · obtain ⟨xs9, ho9, ha9⟩ := HO.out.ex
              go_wp2_with (at_builtin; refine wpList_append_own _ rfl _ _ 27 rfl (w.heap.size + 1) 37 i0 (.agg #[.int .i64 0, .int .i64 0]) 2 16 Try.underlying27 hi hz0 hz1 hz2 rfl (by decide) _ _ _ rfl (ho9.alloc _) ⟨w46.heap.size, 0, none⟩ 1 1 [.int .i64 (-1), .int .i64 0] rfl rfl ?c1 ?c2 ?c3 ?c4 ?c5 ?_)
              case c1 =>
                intro j u hj
                match j, hj with
                | 0, hj => simp at hj; subst hj; exact (Blk.new w46 _ _).cell 0
                | 1, hj => simp at hj; subst hj; exact (Blk.new w46 _ _).cell 1
              case c2 => intro u hu; simp at hu; rcases hu with rfl | rfl <;> rfl
              case c3 => unfold maxLen; omega
              case c4 => omega
              case c5 => have := Hgl.out; have := Sr.out; have := S27.out; have := S45.out; have := S46.out; simp; omega
              intro v47 w47 hown47 hgrow47 _
              have S47 := Lib.hid (show w46.heap.size + 1 ≤ w47.heap.size by have h9 := hgrow47.size; (try simp only [World.size_alloc, World.size_setCell] at h9); omega)
              have gr47 : ∀ r, Value.ownBlock _ = some r → (w.heap.size + 1) ≤ r := fun r hr => (World.ownsRow.lt ho9 r hr).1
              have Hc47 := Lib.hid ((Hc46.out.alloc _).grown hgrow47 (fun r hr => by have := gr47 r hr; have := Hgl.out; have := Sr.out; have := S27.out; have := S45.out; have := S46.out; omega))
              have Hd47 := Lib.hid ((Hd46.out.alloc _).grown hgrow47 (fun r hr => by have := gr47 r hr; have := Sr.out; have := S27.out; have := S45.out; have := S46.out; omega))
              have R47 := Lib.hid (show IR w47 (w.heap.size + 1) 37 2 v47 (m + 1) from ⟨_, hown47, ha9.app (by exact allI2 _ _)⟩)
              clear hown47 hgrow47 gr47 ho9 ha9
              obtain ⟨A8, c8, rfl, -, -⟩ := R47.out.form
              go_wp2
              go_roundw
              case rel => exact ⟨m + 1, by omega, R47, Lib.hid (Hc47.out.mono (by omega)), Hd47⟩
              case measure => simp [lenC]; omega
            · obtain ⟨xs9, ho9, ha9⟩ := HO.out.ex
              have qE0 := E.out.cell 0
              have qE1 := E.out.cell 1
              simp at qE0 qE1
              have qEl := E.out.lt
              go_wp2_with (at_builtin; refine wpList_append_own _ rfl _ _ 27 rfl (w.heap.size + 1) 37 i0 (.agg #[.int .i64 0, .int .i64 0]) 2 16 Try.underlying27 hi hz0 hz1 hz2 rfl (by decide) _ _ _ rfl (ho9.alloc _) ⟨w46.heap.size, 0, none⟩ 1 1 [.int .i64 a, .int .i64 b] rfl rfl ?c1 ?c2 ?c3 ?c4 ?c5 ?_)
              case c1 =>
                intro j u hj
                match j, hj with
                | 0, hj => simp at hj; subst hj; exact (Blk.new w46 _ _).cell 0
                | 1, hj => simp at hj; subst hj; exact (Blk.new w46 _ _).cell 1
              case c2 => intro u hu; simp at hu; rcases hu with rfl | rfl <;> rfl
              case c3 => unfold maxLen; omega
              case c4 => omega
              case c5 => have := Hgl.out; have := Sr.out; have := S27.out; have := S45.out; have := S46.out; simp; omega
              intro v48 w48 hown48 hgrow48 _
              clear qE0 qE1 qEl
              have S48 := Lib.hid (show w46.heap.size + 1 ≤ w48.heap.size by have h9 := hgrow48.size; (try simp only [World.size_alloc, World.size_setCell] at h9); omega)
              have gr48 : ∀ r, Value.ownBlock _ = some r → (w.heap.size + 1) ≤ r := fun r hr => (World.ownsRow.lt ho9 r hr).1
              have Hc48 := Lib.hid ((Hc46.out.alloc _).grown hgrow48 (fun r hr => by have := gr48 r hr; have := Hgl.out; have := Sr.out; have := S27.out; have := S45.out; have := S46.out; omega))
              have Hd48 := Lib.hid ((Hd46.out.alloc _).grown hgrow48 (fun r hr => by have := gr48 r hr; have := Sr.out; have := S27.out; have := S45.out; have := S46.out; omega))
              have R48 := Lib.hid (show IR w48 (w.heap.size + 1) 37 2 v48 (m + 1) from ⟨_, hown48, ha9.app (by exact allI2 _ _)⟩)
              clear hown48 hgrow48 gr48 ho9 ha9
              obtain ⟨A8, c8, rfl, -, -⟩ := R48.out.form
              go_wp2
              go_roundw
              case rel => exact ⟨m + 1, by omega, R48, Lib.hid (Hc48.out.mono (by omega)), Hd48⟩
              case measure => simp [lenC]; omega
          · clear hg
            obtain ⟨xs9, ho9, ha9⟩ := HO.out.ex
            have qE0 := E.out.cell 0
            have qE1 := E.out.cell 1
            simp at qE0 qE1
            have qEl := E.out.lt
            go_wp2_with (at_builtin; refine wpList_append_own _ rfl _ _ 27 rfl (w.heap.size + 1) 37 i0 (.agg #[.int .i64 0, .int .i64 0]) 2 16 Try.underlying27 hi hz0 hz1 hz2 rfl (by decide) _ _ _ rfl (ho9.alloc _) ⟨w45.heap.size, 0, none⟩ 1 1 [.int .i64 a, .int .i64 b] rfl rfl ?c1 ?c2 ?c3 ?c4 ?c5 ?_)
            case c1 =>
              intro j u hj
              match j, hj with
              | 0, hj => simp at hj; subst hj; exact (Blk.new w45 _ _).cell 0
              | 1, hj => simp at hj; subst hj; exact (Blk.new w45 _ _).cell 1
            case c2 => intro u hu; simp at hu; rcases hu with rfl | rfl <;> rfl
            case c3 => unfold maxLen; omega
            case c4 => omega
            case c5 => have := Hgl.out; have := Sr.out; have := S27.out; have := S45.out; simp; omega
            intro v49 w49 hown49 hgrow49 _
            clear qE0 qE1 qEl
            have S49 := Lib.hid (show w45.heap.size + 1 ≤ w49.heap.size by have h9 := hgrow49.size; (try simp only [World.size_alloc, World.size_setCell] at h9); omega)
            have gr49 : ∀ r, Value.ownBlock _ = some r → (w.heap.size + 1) ≤ r := fun r hr => (World.ownsRow.lt ho9 r hr).1
            have Hc49 := Lib.hid ((Hc45.out.alloc _).grown hgrow49 (fun r hr => by have := gr49 r hr; have := Hgl.out; have := Sr.out; have := S27.out; have := S45.out; omega))
            have Hd49 := Lib.hid ((Hd45.out.alloc _).grown hgrow49 (fun r hr => by have := gr49 r hr; have := Sr.out; have := S27.out; have := S45.out; omega))
            have R49 := Lib.hid (show IR w49 (w.heap.size + 1) 37 2 v49 (m + 1) from ⟨_, hown49, ha9.app (by exact allI2 _ _)⟩)
            clear hown49 hgrow49 gr49 ho9 ha9
            obtain ⟨A8, c8, rfl, -, -⟩ := R49.out.form
            go_wp2
            go_roundw
            case rel => exact ⟨m + 1, by omega, R49, Lib.hid (Hc49.out.mono (by omega)), Hd49⟩
            case measure => simp [lenC]; omega
      · obtain rfl : m = N := by omega
        go_wp2
        go_ret
        exact ⟨⟨_, _, hN, rfl, HO.out.mono (by omega)⟩, Hdr.out.below (by have := Sr.out; omega) (Nat.le_refl _)⟩
set_option linter.unusedSimpArgs false in
set_option maxRecDepth 8000 in
set_option maxHeartbeats 16000000 in
theorem drawEdges_any (A : Option Addr) (n c : Nat) (w : World) (hby : BytesAt w w.heap.size A n) :
    Calls Try.prog 29 #[.slice A n c] w fun e w' => (∃ (v : Value) (m : Nat), m ≤ 20 ∧ e = .returned v ∧ IR w' w.heap.size 37 2 v m) ∧ Below w.heap.size w w' := by
  have Hb := Lib.hid hby; clear hby
  have Hgl := Lib.hid (Nat.le_refl w.heap.size)
  have Hd := Lib.hid (Dg.refl w.heap.size w)
  obtain ⟨i0, hi, hz0, hz1, hz2⟩ := info_parts infoCuI
  go_enter Try.func29, Try.ntmps29
  go_wp2_with fail
  refine (linked_any w.heap.size 0 _ (Cur.new0 Hb.out c) (by omega)).mono ?_; rintro e w1 ⟨⟨a, b, rfl⟩, hc1, hd1⟩
  have S1 := Lib.hid (show w.heap.size + 1 ≤ w1.heap.size by have h9 := hd1.size; (try simp only [World.size_alloc, World.size_setCell] at h9); omega)
  have Hc1 := Lib.hid (hc1.mono (j := 0 + 50) (by omega))
  have Hd1 := Lib.hid ((Hd.out.alloc _).trans hd1)
  clear hc1 hd1
  cases hcv : curveB a b
  · go_wp2_with fail
    refine (cvS_lit hcv _).mono ?_; rintro e w2 ⟨rfl, hd2⟩
    have S2 := Lib.hid (show w1.heap.size + 1 ≤ w2.heap.size by have h9 := hd2.size; (try simp only [World.size_alloc, World.size_setCell] at h9); omega)
    have NE := Lib.hid ((Blk.new w1 37 #[.int .i64 a, .int .i64 b]).dg (Dg.of_below (g := w.heap.size) hd2) (show w1.heap.size ≠ w.heap.size by have := Hgl.out; have := S1.out; have := S2.out; omega))
    have E := NE; clear NE
    have Hc2 := Lib.hid ((Hc1.out.alloc _).on hd2)
    have Hd2 := Lib.hid ((Hd1.out.alloc _).trans (Dg.of_below (g := w.heap.size) hd2))
    clear hd2
    clear hcv
    have qE0 := E.out.cell 0
    have qE1 := E.out.cell 1
    simp at qE0 qE1
    have qEl := E.out.lt
    go_wp2
    clear qE0 qE1 qEl
    have HL9 := IR.lit2 (w := w2) (B := w.heap.size) (t := 37) (by have := S1.out; have := S2.out; omega) a b
    go_ret
    exact ⟨⟨_, 1, by omega, rfl, HL9⟩, (Hd2.out.alloc _).below (by have := S1.out; have := S2.out; omega) (Nat.le_refl _)⟩
  · go_wp2_with fail
    refine (cvS_lit hcv _).mono ?_; rintro e w3 ⟨rfl, hd3⟩
    have S3 := Lib.hid (show w1.heap.size + 1 ≤ w3.heap.size by have h9 := hd3.size; (try simp only [World.size_alloc, World.size_setCell] at h9); omega)
    have NE := Lib.hid ((Blk.new w1 37 #[.int .i64 a, .int .i64 b]).dg (Dg.of_below (g := w.heap.size) hd3) (show w1.heap.size ≠ w.heap.size by have := Hgl.out; have := S1.out; have := S3.out; omega))
    have E := NE; clear NE
    have Hc3 := Lib.hid ((Hc1.out.alloc _).on hd3)
    have Hd3 := Lib.hid ((Hd1.out.alloc _).trans (Dg.of_below (g := w.heap.size) hd3))
    clear hd3
    have Hcl := Lib.hid (fun T (h : clsV a b = some T) => (cls_of hcv h).len)
    have qE0 := E.out.cell 0
    have qE1 := E.out.cell 1
    simp at qE0 qE1
    have qEl := E.out.lt
    go_wp2_with fail
    refine (clsS_any a b _ hcv).mono ?_; rintro e w4 ⟨hr, hd4⟩
    clear qE0 qE1 qEl
    have S4 := Lib.hid (show w3.heap.size + 0 ≤ w4.heap.size by have h9 := hd4.size; (try simp only [World.size_alloc, World.size_setCell] at h9); omega)
    have NE := Lib.hid (E.out.dg (Dg.of_below (g := w.heap.size) hd4) (show w1.heap.size ≠ w.heap.size by have := Hgl.out; have := S1.out; have := S3.out; have := S4.out; omega))
    have E := NE; clear NE
    have Hc4 := Lib.hid (Hc3.out.on hd4)
    have Hd4 := Lib.hid (Hd3.out.trans (Dg.of_below (g := w.heap.size) hd4))
    clear hd4
    clear hcv
    generalize clsV a b = V at hr Hcl
    cases V with
    | none =>
      have hr2 : e = .returned (.tuple #[.slice none 0 0, .slice none 0 0, .bool false]) := hr
      subst hr2
      clear hr Hcl
      have qE0 := E.out.cell 0
      have qE1 := E.out.cell 1
      simp at qE0 qE1
      have qEl := E.out.lt
      go_wp2
      clear qE0 qE1 qEl
      have HL9 := IR.lit2 (w := w4) (B := w.heap.size) (t := 37) (by have := S1.out; have := S3.out; have := S4.out; omega) a b
      go_ret
      exact ⟨⟨_, 1, by omega, rfl, HL9⟩, (Hd4.out.alloc _).below (by have := S1.out; have := S3.out; have := S4.out; omega) (Nat.le_refl _)⟩
    | some T =>
      obtain ⟨v7, v8, hr2, ho7, -⟩ := hr
      subst hr2
      have hT8 := Hcl.out T rfl
      clear Hcl
      have HT := Lib.hid (IR.of_cu ho7)
      clear ho7
      generalize T.length = nT at HT hT8
      obtain ⟨A7, c7, rfl, hm7, hc7⟩ := HT.out.form
      have MET := Lib.hid HT.out; have GMET := Lib.hid (IR.lt HT.out)
      clear HT
      have HcL := Lib.hid (Hc4.out.mono (j := 60) (by omega))
      have Lm := Lib.hid (show w.heap.size + 1 ≤ w3.heap.size by have := S1.out; have := S3.out; have := S4.out; omega)
      go_wp2
      go_loopw [33, 8] (fun i l wr => ∃ (k m : Nat), k ≤ nT ∧ m ≤ k ∧ i = .int .i64 (k : Int) ∧ Hid (IR wr (w.heap.size + 1) 37 2 l m) ∧ Hid (IR wr (w3.heap.size) 37 2 (.slice A7 nT c7) nT) ∧ Hid (Cur wr w.heap.size (60 + 10 * k)) ∧ Hid (Dg w.heap.size w wr)) (fun i _ _ => nT - (intOf i).toNat)
      case atStart => exact ⟨0, 0, Nat.zero_le _, Nat.le_refl _, rfl, Lib.hid (IR.nil _ _ _ _), MET, HcL, Hd4⟩
      case round =>
        obtain ⟨k, m, hk, hmk, rfl, HO, MR, Hcr, Hdr⟩ := hrel
        obtain ⟨A9, c9, rfl, hmc, hcm⟩ := HO.out.form
        unfold maxLen at hcm
        have Sr := Lib.hid Hdr.out.size
        have GHO := Lib.hid HO.out.lt
        have GMR := Lib.hid MR.out.lt
        have HcS := Lib.hid Hcr.out.lt
        by_cases hlt : k < nT
        · obtain ⟨gl, cl, hfl, hgl1, hgl2, hmcl, hcml⟩ := MR.out.pos (by omega)
          injection hfl with hf1 hf2 hf3; subst hf1; subst hf3; clear hf2
          obtain ⟨u0, hu0⟩ := MR.out.cell (j := k * 2) (by omega)
          obtain ⟨u1, hu1⟩ := MR.out.cell (j := k * 2 + 1) (by omega)
          have hi0 : (0 : Int) ≤ (k : Int) := by omega
          have hi1 : (k : Int) < (nT : Int) := by omega
          go_wp2_with fail
          refine (one_any w.heap.size (60 + 10 * k) (8) _ (Hcr.out.alloc _) (by omega)).mono ?_; rintro e w5 ⟨⟨o, rfl⟩, hc5, hd5⟩
          have S5 := Lib.hid (show wr.heap.size + 1 ≤ w5.heap.size by have h9 := hd5.size; (try simp only [World.size_alloc, World.size_setCell] at h9); omega)
          have NE3 := Lib.hid ((Blk.new wr 37 #[.int .i64 u0, .int .i64 u1]).dg hd5 (show wr.heap.size ≠ w.heap.size by have := Hgl.out; have := HcS.out; have := Sr.out; have := Lm.out; have := S5.out; omega))
          have E3 := NE3; clear NE3
          have HO := Lib.hid ((HO.out.alloc _).dg hd5 (show w.heap.size < (w.heap.size + 1) by have := Hgl.out; have := HcS.out; have := Sr.out; have := Lm.out; have := S5.out; omega))
          have MR := Lib.hid ((MR.out.alloc _).dg hd5 (show w.heap.size < (w3.heap.size) by have := Hgl.out; have := HcS.out; have := Sr.out; have := Lm.out; have := S5.out; omega))
          have Hc5 := Lib.hid (hc5.mono (j := (60 + 10 * k) + 2) (by omega))
          have Hd5 := Lib.hid ((Hdr.out.alloc _).trans hd5)
          clear hc5 hd5
          clear hu0 hu1 hgl1 hgl2
          cases o
          · obtain ⟨es, hes, hoe⟩ := HO.out.cu
            have Hes := Lib.hid hes; have Hoe := Lib.hid (show w5.ownsRow (w.heap.size + 1) 37 2 (.slice A9 m c9) es.length (cuS.flat es) from hoe); clear hes hoe
            have qE30 := E3.out.cell 0
            have qE31 := E3.out.cell 1
            simp at qE30 qE31
            have qE3l := E3.out.lt
            go_wp2_with fail
            refine (icPut_any (w.heap.size + 1) _ es ⟨u0, u1⟩ _ Hoe.out (by have := Sr.out; have := Lm.out; have := S5.out; omega) (by have := Hes.out; omega)).mono ?_; rintro e w6 ⟨⟨v5, rfl, hown5⟩, hd6⟩
            clear qE30 qE31 qE3l
            have S6 := Lib.hid (show w5.heap.size + 0 ≤ w6.heap.size by have h9 := hd6.size; (try simp only [World.size_alloc, World.size_setCell] at h9); omega)
            have NE3 := Lib.hid (E3.out.dg (Dg.of_below (g := w.heap.size) hd6) (show wr.heap.size ≠ w.heap.size by have := Hgl.out; have := HcS.out; have := Sr.out; have := Lm.out; have := S5.out; have := S6.out; omega))
            have E3 := NE3; clear NE3
            have HO := Lib.hid (HO.out.dg (Dg.of_below (g := w.heap.size) hd6) (show w.heap.size < (w.heap.size + 1) by have := Hgl.out; have := HcS.out; have := Sr.out; have := Lm.out; have := S5.out; have := S6.out; omega))
            have MR := Lib.hid (MR.out.dg (Dg.of_below (g := w.heap.size) hd6) (show w.heap.size < (w3.heap.size) by have := Hgl.out; have := HcS.out; have := Sr.out; have := Lm.out; have := S5.out; have := S6.out; omega))
            have Hc6 := Lib.hid (Hc5.out.on hd6)
            have Hd6 := Lib.hid (Hd5.out.trans (Dg.of_below (g := w.heap.size) hd6))
            clear hd6
            have HL5 := Lib.hid (IR.of_cu hown5)
            have hp5 := putC_len es ⟨u0, u1⟩
            rw [Hes.out] at hp5
            clear hown5 Hes Hoe
            generalize (putC es ⟨u0, u1⟩).length = m5 at HL5 hp5
            go_wp2
            go_roundw
            case rel => exact ⟨k + 1, m5, by omega, by omega, by go_num, HL5, MR, Lib.hid (Hc6.out.mono (by omega)), Hd6⟩
            case measure => simp [intOf]; omega
          · go_wp2
            go_roundw
            case rel => exact ⟨k + 1, m, by omega, by omega, by go_num, HO, MR, Lib.hid (Hc5.out.mono (by omega)), Hd5⟩
            case measure => simp [intOf]; omega
        · obtain rfl : k = nT := by omega
          have HcM := Lib.hid (Hcr.out.mono (j := 140) (by omega))
          go_wp2_with fail
          refine (pick_any w.heap.size 140 (8) _ HcM.out (by omega)).mono ?_; rintro e w7 ⟨⟨x, lx, ux, rfl⟩, hc7, hd7⟩
          have S7 := Lib.hid (show wr.heap.size + 0 ≤ w7.heap.size by have h9 := hd7.size; (try simp only [World.size_alloc, World.size_setCell] at h9); omega)
          have HO := Lib.hid (HO.out.dg hd7 (show w.heap.size < (w.heap.size + 1) by have := Hgl.out; have := HcS.out; have := Sr.out; have := Lm.out; have := S7.out; omega))
          have Hc7 := Lib.hid (hc7.mono (j := 140 + 2) (by omega))
          have Hd7 := Lib.hid (Hdr.out.trans hd7)
          clear hc7 hd7
          by_cases ex0 : x = 0
          · have zx0 : (x == 0) = true := by rw [ex0]; rfl
            clear ex0
            go_wp2_with fail
            refine (linked_any w.heap.size (140 + 2) _ Hc7.out (by omega)).mono ?_; rintro e w8 ⟨⟨a2, b2, rfl⟩, hc8, hd8⟩
            have S8 := Lib.hid (show w7.heap.size + 0 ≤ w8.heap.size by have h9 := hd8.size; (try simp only [World.size_alloc, World.size_setCell] at h9); omega)
            have HO := Lib.hid (HO.out.dg hd8 (show w.heap.size < (w.heap.size + 1) by have := Hgl.out; have := HcS.out; have := Sr.out; have := Lm.out; have := S7.out; have := S8.out; omega))
            have Hc8 := Lib.hid (hc8.mono (j := 140 + 52) (by omega))
            have Hd8 := Lib.hid (Hd7.out.trans hd8)
            clear hc8 hd8
            obtain ⟨xs9, ho9, ha9⟩ := HO.out.ex
            go_wp2_with (at_builtin; refine wpList_append_own _ rfl _ _ 27 rfl (w.heap.size + 1) 37 i0 (.agg #[.int .i64 0, .int .i64 0]) 2 16 Try.underlying27 hi hz0 hz1 hz2 rfl (by decide) _ _ _ rfl (ho9.alloc _) ⟨w8.heap.size, 0, none⟩ 1 1 [.int .i64 a2, .int .i64 b2] rfl rfl ?c1 ?c2 ?c3 ?c4 ?c5 ?_)
            case c1 =>
              intro j u hj
              match j, hj with
              | 0, hj => simp at hj; subst hj; exact (Blk.new w8 _ _).cell 0
              | 1, hj => simp at hj; subst hj; exact (Blk.new w8 _ _).cell 1
            case c2 => intro u hu; simp at hu; rcases hu with rfl | rfl <;> rfl
            case c3 => unfold maxLen; omega
            case c4 => omega
            case c5 => have := Hgl.out; have := Sr.out; have := Lm.out; have := S7.out; have := S8.out; simp; omega
            intro v9 w9 hown9 hgrow9 _
            have S9 := Lib.hid (show w8.heap.size + 1 ≤ w9.heap.size by have h9 := hgrow9.size; (try simp only [World.size_alloc, World.size_setCell] at h9); omega)
            have gr9 : ∀ r, Value.ownBlock _ = some r → (w.heap.size + 1) ≤ r := fun r hr => (World.ownsRow.lt ho9 r hr).1
            have Hc9 := Lib.hid ((Hc8.out.alloc _).grown hgrow9 (fun r hr => by have := gr9 r hr; have := Hgl.out; have := Sr.out; have := Lm.out; have := S7.out; have := S8.out; omega))
            have Hd9 := Lib.hid ((Hd8.out.alloc _).grown hgrow9 (fun r hr => by have := gr9 r hr; have := Sr.out; have := Lm.out; have := S7.out; have := S8.out; omega))
            have R9 := Lib.hid (show IR w9 (w.heap.size + 1) 37 2 v9 (m + 1) from ⟨_, hown9, ha9.app (by exact allI2 _ _)⟩)
            clear hown9 hgrow9 gr9 ho9 ha9
            go_wp2
            go_ret
            exact ⟨⟨_, m + 1, by omega, rfl, R9.out.mono (by omega)⟩, Hd9.out.below (by have := Sr.out; have := Lm.out; have := S7.out; have := S8.out; have := S9.out; omega) (Nat.le_refl _)⟩
          · by_cases ex1 : x = 1
            · have zx1 : (x == 1) = true := by rw [ex1]; rfl
              have zx0 : (x == 0) = false := by rw [ex1]; rfl
              clear ex0 ex1
              obtain ⟨es, hes, hoe⟩ := HO.out.cu
              have Hes := Lib.hid hes; have Hoe := Lib.hid (show w7.ownsRow (w.heap.size + 1) 37 2 (.slice A9 m c9) es.length (cuS.flat es) from hoe); clear hes hoe
              go_wp2_with fail
              refine (icPut_any (w.heap.size + 1) _ es ⟨1, 1⟩ _ Hoe.out (by have := HcS.out; have := Sr.out; have := Lm.out; have := S7.out; omega) (by have := Hes.out; omega)).mono ?_; rintro e w10 ⟨⟨v5, rfl, hown5⟩, hd10⟩
              have S10 := Lib.hid (show w7.heap.size + 0 ≤ w10.heap.size by have h9 := hd10.size; (try simp only [World.size_alloc, World.size_setCell] at h9); omega)
              have HO := Lib.hid (HO.out.dg (Dg.of_below (g := w.heap.size) hd10) (show w.heap.size < (w.heap.size + 1) by have := Hgl.out; have := HcS.out; have := Sr.out; have := Lm.out; have := S7.out; have := S10.out; omega))
              have Hc10 := Lib.hid (Hc7.out.on hd10)
              have Hd10 := Lib.hid (Hd7.out.trans (Dg.of_below (g := w.heap.size) hd10))
              clear hd10
              have HL5 := Lib.hid (IR.of_cu hown5)
              have hp5 := putC_len es ⟨1, 1⟩
              rw [Hes.out] at hp5
              clear hown5 Hes Hoe
              generalize (putC es ⟨1, 1⟩).length = m5 at HL5 hp5
              go_wp2
              go_ret
              exact ⟨⟨_, m5, by omega, rfl, HL5.out.mono (by omega)⟩, Hd10.out.below (by have := Sr.out; have := Lm.out; have := S7.out; have := S10.out; omega) (Nat.le_refl _)⟩
            · have zx0 : (x == 0) = false := beq_eq_false_iff_ne.2 ex0
              have zx1 : (x == 1) = false := beq_eq_false_iff_ne.2 ex1
              clear ex0 ex1
              go_wp2
              go_ret
              exact ⟨⟨_, m, by omega, rfl, HO.out.mono (by omega)⟩, Hd7.out.below (by have := Sr.out; have := Lm.out; have := S7.out; omega) (Nat.le_refl _)⟩
end Go.Proofs.Ytnhgdmhiblpknaa
