/- The reference's source of drawn reports. Conditions: a bound on how far the cursor has come. Printed by gen_drr.py. -/
import Derived.Test.YtjnghjgfhlgbiaaDoorDrI
namespace Go.Proofs.YtjnghjgfhlgbiaaDoor
open Go Go.RowKit

theorem infoRp7 : (Tryd.prog.info? 30).map (fun i => (i.zero, i.size, i.bytes)) = some (some (.agg #[.int .i64 0, .int .i64 0, .int .i64 0, .int .i64 0, .int .i64 0, .int .i64 0, .int .i64 0]), 7, 56) := by kernel_rfl
def lenR : Value → Nat | .slice _ n _ => n | _ => 0
theorem allI7 (a b c d e f g : Int) : AllI [.int .i64 a, .int .i64 b, .int .i64 c, .int .i64 d, .int .i64 e, .int .i64 f, .int .i64 g] := by
  intro u hu
  simp only [List.mem_cons, List.not_mem_nil, or_false] at hu
  rcases hu with rfl | rfl | rfl | rfl | rfl | rfl | rfl <;> exact ⟨_, rfl⟩

set_option linter.unusedSimpArgs false in
set_option maxRecDepth 8000 in
set_option maxHeartbeats 16000000 in
theorem reports_any (g k : Nat) (w : World) (hc : Cur w g k) (hk : k ≤ 500000) :
    Calls Tryd.prog 23 #[.pointer (some ⟨g, 0, none⟩)] w fun e w' => (∃ (v : Value) (n : Nat), n ≤ 22 ∧ e = .returned v ∧ IR w' w.heap.size 30 7 v n) ∧ Cur w' g (k + 3000) ∧ Dg g w w' := by
  obtain ⟨i0, hi, hz0, hz1, hz2⟩ := info_parts infoRp7
  have Hgl := Lib.hid hc.lt
  have Hc := Lib.hid hc; have Hk := Lib.hid hk; have Hd := Lib.hid (Dg.refl g w); clear hc hk
  go_enter Tryd.func23, Tryd.ntmps23
  go_wp2_with fail
  refine (pick_any g k (3) _ Hc.out (by have := Hk.out; omega)).mono ?_; rintro e w1 ⟨⟨tm, ltm, utm, rfl⟩, hc1, hd1⟩
  have S1 := Lib.hid (show w.heap.size + 0 ≤ w1.heap.size by have h9 := hd1.size; (try simp only [World.size_alloc, World.size_setCell] at h9); omega)
  have Hc1 := Lib.hid (hc1.mono (j := k + 2) (by omega))
  have Hd1 := Lib.hid (Hd.out.trans hd1)
  clear hc1 hd1
  go_wp2_with fail
  refine (pick_any g (k + 2) (7) _ Hc1.out (by have := Hk.out; omega)).mono ?_; rintro e w2 ⟨⟨x, lx, ux, rfl⟩, hc2, hd2⟩
  have S2 := Lib.hid (show w1.heap.size + 0 ≤ w2.heap.size by have h9 := hd2.size; (try simp only [World.size_alloc, World.size_setCell] at h9); omega)
  have Hc2 := Lib.hid (hc2.mono (j := k + 4) (by omega))
  have Hd2 := Lib.hid (Hd1.out.trans hd2)
  clear hc2 hd2
  obtain ⟨x, rfl⟩ : ∃ q : Nat, x = q := ⟨x.toNat, by omega⟩
  have hx6 : x ≤ 6 := by omega
  clear lx ux
  have htm2 : tm ≤ 2 := by omega
  clear utm
  go_wp2_with fail
  refine (one_any g (k + 4) (12) _ Hc2.out (by have := Hk.out; omega)).mono ?_; rintro e w3 ⟨⟨o, rfl⟩, hc3, hd3⟩
  have S3 := Lib.hid (show w2.heap.size + 0 ≤ w3.heap.size by have h9 := hd3.size; (try simp only [World.size_alloc, World.size_setCell] at h9); omega)
  have Hc3 := Lib.hid (hc3.mono (j := k + 6) (by omega))
  have Hd3 := Lib.hid (Hd2.out.trans hd3)
  clear hc3 hd3
  cases o
  · obtain ⟨nn, hnx⟩ : ∃ q : Nat, q = x := ⟨x, rfl⟩
    subst hnx
    go_wp2
    go_loopw [3, 4] (fun l tm wr => ∃ (m : Nat) (T : Int), m ≤ nn ∧ tm = .int .i64 T ∧ 0 ≤ T ∧ T ≤ 2 + 50 * (m : Int) ∧ Hid (IR wr w.heap.size 30 7 l m) ∧ Hid (Cur wr g (k + 10 + 100 * m)) ∧ Hid (Dg g w wr)) (fun l _ _ => 23 - lenR l)
    case atStart => exact ⟨0, tm, Nat.zero_le _, rfl, ltm, by omega, Lib.hid (IR.nil _ _ _ _), Lib.hid (Hc3.out.mono (by omega)), Hd3⟩
    case round =>
      obtain ⟨m, T, hmn, rfl, hT0, hT1, HO, Hcr, Hdr⟩ := hrel
      obtain ⟨A9, c9, rfl, hmc, hcm⟩ := HO.out.form
      unfold maxLen at hcm
      have Sr := Lib.hid Hdr.out.size
      have GHO := Lib.hid HO.out.lt
      by_cases hml : m < nn
      · have hmi : (m : Int) < (nn : Int) := by omega
        go_wp2_with fail
        refine (pick_any g (k + 10 + 100 * m) (4) _ Hcr.out (by have := Hk.out; omega)).mono ?_; rintro e w4 ⟨⟨mc, lmc, umc, rfl⟩, hc4, hd4⟩
        have S4 := Lib.hid (show wr.heap.size + 0 ≤ w4.heap.size by have h9 := hd4.size; (try simp only [World.size_alloc, World.size_setCell] at h9); omega)
        have HO := Lib.hid (HO.out.dg hd4 (show g < w.heap.size by have := Hgl.out; have := Sr.out; have := S4.out; omega))
        have Hc4 := Lib.hid (hc4.mono (j := (k + 10 + 100 * m) + 2) (by omega))
        have Hd4 := Lib.hid (Hdr.out.trans hd4)
        clear hc4 hd4
        go_wp2_with fail
        refine (entry_any g ((k + 10 + 100 * m) + 2) _ Hc4.out (by have := Hk.out; omega)).mono ?_; rintro e w5 ⟨⟨a, b, lo, hi9, t, b1, b2, b3, b4, rfl⟩, hc5, hd5⟩
        have S5 := Lib.hid (show w4.heap.size + 0 ≤ w5.heap.size by have h9 := hd5.size; (try simp only [World.size_alloc, World.size_setCell] at h9); omega)
        have HO := Lib.hid (HO.out.dg hd5 (show g < w.heap.size by have := Hgl.out; have := Sr.out; have := S4.out; have := S5.out; omega))
        have Hc5 := Lib.hid (hc5.mono (j := (k + 10 + 100 * m) + 16) (by omega))
        have Hd5 := Lib.hid (Hd4.out.trans hd5)
        clear hc5 hd5
        clear b1 b2 b3 b4
        go_wp2_with fail
        refine (one_any g ((k + 10 + 100 * m) + 16) (24) _ (Hc5.out.alloc _) (by have := Hk.out; omega)).mono ?_; rintro e w6 ⟨⟨o1, rfl⟩, hc6, hd6⟩
        have S6 := Lib.hid (show w5.heap.size + 1 ≤ w6.heap.size by have h9 := hd6.size; (try simp only [World.size_alloc, World.size_setCell] at h9); omega)
        have NQ := Lib.hid ((Blk.new w5 30 #[.int .i64 T, .int .i64 (1 + mc), .int .i64 a, .int .i64 b, .int .i64 lo, .int .i64 hi9, .int .i64 t]).dg hd6 (show w5.heap.size ≠ g by have := Hgl.out; have := Sr.out; have := S4.out; have := S5.out; have := S6.out; omega))
        have Q := NQ; clear NQ
        have HO := Lib.hid ((HO.out.alloc _).dg hd6 (show g < w.heap.size by have := Hgl.out; have := Sr.out; have := S4.out; have := S5.out; have := S6.out; omega))
        have Hc6 := Lib.hid (hc6.mono (j := (k + 10 + 100 * m) + 18) (by omega))
        have Hd6 := Lib.hid ((Hd5.out.alloc _).trans hd6)
        clear hc6 hd6
        cases o1
        · have qQ0 := Q.out.cell 0
          have qQ1 := Q.out.cell 1
          have qQ2 := Q.out.cell 2
          have qQ3 := Q.out.cell 3
          have qQ4 := Q.out.cell 4
          have qQ5 := Q.out.cell 5
          have qQ6 := Q.out.cell 6
          simp at qQ0 qQ1 qQ2 qQ3 qQ4 qQ5 qQ6
          have qQl := Q.out.lt
          go_wp2_with fail
          refine (one_any g ((k + 10 + 100 * m) + 18) (40) _ Hc6.out (by have := Hk.out; omega)).mono ?_; rintro e w7 ⟨⟨o2, rfl⟩, hc7, hd7⟩
          clear qQ0 qQ1 qQ2 qQ3 qQ4 qQ5 qQ6 qQl
          have S7 := Lib.hid (show w6.heap.size + 0 ≤ w7.heap.size by have h9 := hd7.size; (try simp only [World.size_alloc, World.size_setCell] at h9); omega)
          have NQ := Lib.hid (Q.out.dg hd7 (show w5.heap.size ≠ g by have := Hgl.out; have := Sr.out; have := S4.out; have := S5.out; have := S6.out; have := S7.out; omega))
          have Q := NQ; clear NQ
          have HO := Lib.hid (HO.out.dg hd7 (show g < w.heap.size by have := Hgl.out; have := Sr.out; have := S4.out; have := S5.out; have := S6.out; have := S7.out; omega))
          have Hc7 := Lib.hid (hc7.mono (j := (k + 10 + 100 * m) + 20) (by omega))
          have Hd7 := Lib.hid (Hd6.out.trans hd7)
          clear hc7 hd7
          cases o2
          · obtain ⟨xs9, ho9, ha9⟩ := HO.out.ex
            have qQ0 := Q.out.cell 0
            have qQ1 := Q.out.cell 1
            have qQ2 := Q.out.cell 2
            have qQ3 := Q.out.cell 3
            have qQ4 := Q.out.cell 4
            have qQ5 := Q.out.cell 5
            have qQ6 := Q.out.cell 6
            simp at qQ0 qQ1 qQ2 qQ3 qQ4 qQ5 qQ6
            have qQl := Q.out.lt
            go_wp2_with (at_builtin; refine wpList_append_own _ rfl _ _ 24 rfl w.heap.size 30 i0 (.agg #[.int .i64 0, .int .i64 0, .int .i64 0, .int .i64 0, .int .i64 0, .int .i64 0, .int .i64 0]) 7 56 Tryd.underlying24 hi hz0 hz1 hz2 rfl (by decide) _ _ _ rfl (ho9.alloc _) ⟨w7.heap.size, 0, none⟩ 1 1 [.int .i64 T, .int .i64 (1 + mc), .int .i64 a, .int .i64 b, .int .i64 lo, .int .i64 hi9, .int .i64 t] rfl rfl ?c1_1 ?c1_2 ?c1_3 ?c1_4 ?c1_5 ?_)
            case c1_1 =>
              intro j u hj
              match j, hj with
              | 0, hj => simp at hj; subst hj; exact (Blk.new w7 _ _).cell 0
              | 1, hj => simp at hj; subst hj; exact (Blk.new w7 _ _).cell 1
              | 2, hj => simp at hj; subst hj; exact (Blk.new w7 _ _).cell 2
              | 3, hj => simp at hj; subst hj; exact (Blk.new w7 _ _).cell 3
              | 4, hj => simp at hj; subst hj; exact (Blk.new w7 _ _).cell 4
              | 5, hj => simp at hj; subst hj; exact (Blk.new w7 _ _).cell 5
              | 6, hj => simp at hj; subst hj; exact (Blk.new w7 _ _).cell 6
            case c1_2 => intro u hu; simp at hu; rcases hu with rfl | rfl | rfl | rfl | rfl | rfl | rfl <;> rfl
            case c1_3 => unfold maxLen; omega
            case c1_4 => omega
            case c1_5 => have := Hgl.out; have := Sr.out; have := S4.out; have := S5.out; have := S6.out; have := S7.out; simp; omega
            intro v8 w8 hown8 hgrow8 _
            clear qQ0 qQ1 qQ2 qQ3 qQ4 qQ5 qQ6 qQl
            have S8 := Lib.hid (show w7.heap.size + 1 ≤ w8.heap.size by have h9 := hgrow8.size; (try simp only [World.size_alloc, World.size_setCell] at h9); omega)
            have gr8 : ∀ r, Value.ownBlock _ = some r → w.heap.size ≤ r := fun r hr => (World.ownsRow.lt ho9 r hr).1
            have Hc8 := Lib.hid ((Hc7.out.alloc _).grown hgrow8 (fun r hr => by have := gr8 r hr; have := Hgl.out; have := Sr.out; have := S4.out; have := S5.out; have := S6.out; have := S7.out; omega))
            have Hd8 := Lib.hid ((Hd7.out.alloc _).grown hgrow8 (fun r hr => by have := gr8 r hr; have := Sr.out; have := S4.out; have := S5.out; have := S6.out; have := S7.out; omega))
            have R8 := Lib.hid (show IR w8 w.heap.size 30 7 v8 (m + 1) from ⟨_, hown8, ha9.app (by first | exact allI5 _ _ _ _ _ | exact allI7 _ _ _ _ _ _ _)⟩)
            clear hown8 hgrow8 gr8 ho9 ha9
            have GR8 := Lib.hid (IR.lt R8.out)
            go_wp2_with fail
            refine (pick_any g ((k + 10 + 100 * m) + 20) (20) _ Hc8.out (by have := Hk.out; omega)).mono ?_; rintro e w9 ⟨⟨p5, lp5, up5, rfl⟩, hc9, hd9⟩
            have S9 := Lib.hid (show w8.heap.size + 0 ≤ w9.heap.size by have h9 := hd9.size; (try simp only [World.size_alloc, World.size_setCell] at h9); omega)
            have R8 := Lib.hid (R8.out.dg hd9 (show g < w.heap.size by have := Hgl.out; have := Sr.out; have := S4.out; have := S5.out; have := S6.out; have := S7.out; have := S8.out; have := S9.out; omega))
            have Hc9 := Lib.hid (hc9.mono (j := (k + 10 + 100 * m) + 22) (by omega))
            have Hd9 := Lib.hid (Hd8.out.trans hd9)
            clear hc9 hd9
            go_wp2_with fail
            refine (among_lit g ((k + 10 + 100 * m) + 22) (w9.heap.size) [1, 1, 2, 50, p5] w9 (by simp) Hc9.out (by simp) (by simp) (by have := Hk.out; omega)).mono ?_; rintro e w10 ⟨⟨x5, hx5, rfl⟩, hc10, hd10⟩
            have S10 := Lib.hid (show w9.heap.size + 1 ≤ w10.heap.size by have h9 := hd10.size; (try simp only [World.size_alloc, World.size_setCell] at h9); omega)
            have R8 := Lib.hid ((R8.out.alloc _).dg hd10 (show g < w.heap.size by have := Hgl.out; have := Sr.out; have := S4.out; have := S5.out; have := S6.out; have := S7.out; have := S8.out; have := S9.out; have := S10.out; omega))
            have Hc10 := Lib.hid (hc10.mono (j := (k + 10 + 100 * m) + 24) (by omega))
            have Hd10 := Lib.hid ((Hd9.out.alloc _).trans hd10)
            clear hc10 hd10
            have hx5b : 0 ≤ x5 ∧ x5 ≤ 50 := by simp only [List.mem_cons, List.not_mem_nil, or_false] at hx5; omega
            clear hx5 lp5 up5
            obtain ⟨hx50, hx51⟩ := hx5b
            go_wp2
            go_roundw
            case rel => exact ⟨m + 1, T + x5, by omega, by go_num, by omega, by omega, R8, Lib.hid (Hc10.out.mono (by omega)), Hd10⟩
            case measure => obtain ⟨A8, c8, rfl, -, -⟩ := R8.out.form; simp [lenR]; omega
          · go_wp2_with fail
            refine (anyEntry_any g ((k + 10 + 100 * m) + 20) _ Hc7.out (by have := Hk.out; omega)).mono ?_; rintro e w11 ⟨⟨a7, b7, lo7, hi7, t7, rfl⟩, hc11, hd11⟩
            have S11 := Lib.hid (show w7.heap.size + 0 ≤ w11.heap.size by have h9 := hd11.size; (try simp only [World.size_alloc, World.size_setCell] at h9); omega)
            have NQ := Lib.hid (Q.out.dg hd11 (show w5.heap.size ≠ g by have := Hgl.out; have := Sr.out; have := S4.out; have := S5.out; have := S6.out; have := S7.out; have := S11.out; omega))
            have Q := NQ; clear NQ
            have HO := Lib.hid (HO.out.dg hd11 (show g < w.heap.size by have := Hgl.out; have := Sr.out; have := S4.out; have := S5.out; have := S6.out; have := S7.out; have := S11.out; omega))
            have Hc11 := Lib.hid (hc11.mono (j := (k + 10 + 100 * m) + 80) (by omega))
            have Hd11 := Lib.hid (Hd7.out.trans hd11)
            clear hc11 hd11
            obtain ⟨xs9, ho9, ha9⟩ := (((((HO.out.st (p := ⟨w5.heap.size, 2, none⟩) (by intro k9 hk9; have := GHO.out k9 hk9; show k9 ≠ w5.heap.size; have := Hgl.out; have := Sr.out; have := S4.out; have := S5.out; have := S6.out; have := S7.out; have := S11.out; omega) (.int .i64 a7)).st (p := ⟨w5.heap.size, 3, none⟩) (by intro k9 hk9; have := GHO.out k9 hk9; show k9 ≠ w5.heap.size; have := Hgl.out; have := Sr.out; have := S4.out; have := S5.out; have := S6.out; have := S7.out; have := S11.out; omega) (.int .i64 b7)).st (p := ⟨w5.heap.size, 4, none⟩) (by intro k9 hk9; have := GHO.out k9 hk9; show k9 ≠ w5.heap.size; have := Hgl.out; have := Sr.out; have := S4.out; have := S5.out; have := S6.out; have := S7.out; have := S11.out; omega) (.int .i64 lo7)).st (p := ⟨w5.heap.size, 5, none⟩) (by intro k9 hk9; have := GHO.out k9 hk9; show k9 ≠ w5.heap.size; have := Hgl.out; have := Sr.out; have := S4.out; have := S5.out; have := S6.out; have := S7.out; have := S11.out; omega) (.int .i64 hi7)).st (p := ⟨w5.heap.size, 6, none⟩) (by intro k9 hk9; have := GHO.out k9 hk9; show k9 ≠ w5.heap.size; have := Hgl.out; have := Sr.out; have := S4.out; have := S5.out; have := S6.out; have := S7.out; have := S11.out; omega) (.int .i64 t7)).ex
            have qQ0 := Q.out.cell 0
            have qQ1 := Q.out.cell 1
            have qQ2 := Q.out.cell 2
            have qQ3 := Q.out.cell 3
            have qQ4 := Q.out.cell 4
            have qQ5 := Q.out.cell 5
            have qQ6 := Q.out.cell 6
            simp at qQ0 qQ1 qQ2 qQ3 qQ4 qQ5 qQ6
            have qQl := Q.out.lt
            have qQf := Q.out.frozen
            go_wp2_with (at_builtin; refine wpList_append_own _ rfl _ _ 24 rfl w.heap.size 30 i0 (.agg #[.int .i64 0, .int .i64 0, .int .i64 0, .int .i64 0, .int .i64 0, .int .i64 0, .int .i64 0]) 7 56 Tryd.underlying24 hi hz0 hz1 hz2 rfl (by decide) _ _ _ rfl (ho9.alloc _) ⟨w11.heap.size, 0, none⟩ 1 1 [.int .i64 T, .int .i64 (1 + mc), .int .i64 a7, .int .i64 b7, .int .i64 lo7, .int .i64 hi7, .int .i64 t7] rfl rfl ?c2_1 ?c2_2 ?c2_3 ?c2_4 ?c2_5 ?_)
            case c2_1 =>
              intro j u hj
              match j, hj with
              | 0, hj => simp at hj; subst hj; exact (show Blk (World.alloc (World.setCell (World.setCell (World.setCell (World.setCell (World.setCell w11 ⟨w5.heap.size, 2, none⟩ (.int .i64 a7)) ⟨w5.heap.size, 3, none⟩ (.int .i64 b7)) ⟨w5.heap.size, 4, none⟩ (.int .i64 lo7)) ⟨w5.heap.size, 5, none⟩ (.int .i64 hi7)) ⟨w5.heap.size, 6, none⟩ (.int .i64 t7)) (Obj.cells #[.int .i64 T, .int .i64 (1 + mc), .int .i64 a7, .int .i64 b7, .int .i64 lo7, .int .i64 hi7, .int .i64 t7] 30)) (w11.heap.size) 30 #[.int .i64 T, .int .i64 (1 + mc), .int .i64 a7, .int .i64 b7, .int .i64 lo7, .int .i64 hi7, .int .i64 t7] by have h9 := (Blk.new (World.setCell (World.setCell (World.setCell (World.setCell (World.setCell w11 ⟨w5.heap.size, 2, none⟩ (.int .i64 a7)) ⟨w5.heap.size, 3, none⟩ (.int .i64 b7)) ⟨w5.heap.size, 4, none⟩ (.int .i64 lo7)) ⟨w5.heap.size, 5, none⟩ (.int .i64 hi7)) ⟨w5.heap.size, 6, none⟩ (.int .i64 t7)) 30 #[.int .i64 T, .int .i64 (1 + mc), .int .i64 a7, .int .i64 b7, .int .i64 lo7, .int .i64 hi7, .int .i64 t7]); (try simp only [World.size_alloc, World.size_setCell] at h9); exact h9).cell 0
              | 1, hj => simp at hj; subst hj; exact (show Blk (World.alloc (World.setCell (World.setCell (World.setCell (World.setCell (World.setCell w11 ⟨w5.heap.size, 2, none⟩ (.int .i64 a7)) ⟨w5.heap.size, 3, none⟩ (.int .i64 b7)) ⟨w5.heap.size, 4, none⟩ (.int .i64 lo7)) ⟨w5.heap.size, 5, none⟩ (.int .i64 hi7)) ⟨w5.heap.size, 6, none⟩ (.int .i64 t7)) (Obj.cells #[.int .i64 T, .int .i64 (1 + mc), .int .i64 a7, .int .i64 b7, .int .i64 lo7, .int .i64 hi7, .int .i64 t7] 30)) (w11.heap.size) 30 #[.int .i64 T, .int .i64 (1 + mc), .int .i64 a7, .int .i64 b7, .int .i64 lo7, .int .i64 hi7, .int .i64 t7] by have h9 := (Blk.new (World.setCell (World.setCell (World.setCell (World.setCell (World.setCell w11 ⟨w5.heap.size, 2, none⟩ (.int .i64 a7)) ⟨w5.heap.size, 3, none⟩ (.int .i64 b7)) ⟨w5.heap.size, 4, none⟩ (.int .i64 lo7)) ⟨w5.heap.size, 5, none⟩ (.int .i64 hi7)) ⟨w5.heap.size, 6, none⟩ (.int .i64 t7)) 30 #[.int .i64 T, .int .i64 (1 + mc), .int .i64 a7, .int .i64 b7, .int .i64 lo7, .int .i64 hi7, .int .i64 t7]); (try simp only [World.size_alloc, World.size_setCell] at h9); exact h9).cell 1
              | 2, hj => simp at hj; subst hj; exact (show Blk (World.alloc (World.setCell (World.setCell (World.setCell (World.setCell (World.setCell w11 ⟨w5.heap.size, 2, none⟩ (.int .i64 a7)) ⟨w5.heap.size, 3, none⟩ (.int .i64 b7)) ⟨w5.heap.size, 4, none⟩ (.int .i64 lo7)) ⟨w5.heap.size, 5, none⟩ (.int .i64 hi7)) ⟨w5.heap.size, 6, none⟩ (.int .i64 t7)) (Obj.cells #[.int .i64 T, .int .i64 (1 + mc), .int .i64 a7, .int .i64 b7, .int .i64 lo7, .int .i64 hi7, .int .i64 t7] 30)) (w11.heap.size) 30 #[.int .i64 T, .int .i64 (1 + mc), .int .i64 a7, .int .i64 b7, .int .i64 lo7, .int .i64 hi7, .int .i64 t7] by have h9 := (Blk.new (World.setCell (World.setCell (World.setCell (World.setCell (World.setCell w11 ⟨w5.heap.size, 2, none⟩ (.int .i64 a7)) ⟨w5.heap.size, 3, none⟩ (.int .i64 b7)) ⟨w5.heap.size, 4, none⟩ (.int .i64 lo7)) ⟨w5.heap.size, 5, none⟩ (.int .i64 hi7)) ⟨w5.heap.size, 6, none⟩ (.int .i64 t7)) 30 #[.int .i64 T, .int .i64 (1 + mc), .int .i64 a7, .int .i64 b7, .int .i64 lo7, .int .i64 hi7, .int .i64 t7]); (try simp only [World.size_alloc, World.size_setCell] at h9); exact h9).cell 2
              | 3, hj => simp at hj; subst hj; exact (show Blk (World.alloc (World.setCell (World.setCell (World.setCell (World.setCell (World.setCell w11 ⟨w5.heap.size, 2, none⟩ (.int .i64 a7)) ⟨w5.heap.size, 3, none⟩ (.int .i64 b7)) ⟨w5.heap.size, 4, none⟩ (.int .i64 lo7)) ⟨w5.heap.size, 5, none⟩ (.int .i64 hi7)) ⟨w5.heap.size, 6, none⟩ (.int .i64 t7)) (Obj.cells #[.int .i64 T, .int .i64 (1 + mc), .int .i64 a7, .int .i64 b7, .int .i64 lo7, .int .i64 hi7, .int .i64 t7] 30)) (w11.heap.size) 30 #[.int .i64 T, .int .i64 (1 + mc), .int .i64 a7, .int .i64 b7, .int .i64 lo7, .int .i64 hi7, .int .i64 t7] by have h9 := (Blk.new (World.setCell (World.setCell (World.setCell (World.setCell (World.setCell w11 ⟨w5.heap.size, 2, none⟩ (.int .i64 a7)) ⟨w5.heap.size, 3, none⟩ (.int .i64 b7)) ⟨w5.heap.size, 4, none⟩ (.int .i64 lo7)) ⟨w5.heap.size, 5, none⟩ (.int .i64 hi7)) ⟨w5.heap.size, 6, none⟩ (.int .i64 t7)) 30 #[.int .i64 T, .int .i64 (1 + mc), .int .i64 a7, .int .i64 b7, .int .i64 lo7, .int .i64 hi7, .int .i64 t7]); (try simp only [World.size_alloc, World.size_setCell] at h9); exact h9).cell 3
              | 4, hj => simp at hj; subst hj; exact (show Blk (World.alloc (World.setCell (World.setCell (World.setCell (World.setCell (World.setCell w11 ⟨w5.heap.size, 2, none⟩ (.int .i64 a7)) ⟨w5.heap.size, 3, none⟩ (.int .i64 b7)) ⟨w5.heap.size, 4, none⟩ (.int .i64 lo7)) ⟨w5.heap.size, 5, none⟩ (.int .i64 hi7)) ⟨w5.heap.size, 6, none⟩ (.int .i64 t7)) (Obj.cells #[.int .i64 T, .int .i64 (1 + mc), .int .i64 a7, .int .i64 b7, .int .i64 lo7, .int .i64 hi7, .int .i64 t7] 30)) (w11.heap.size) 30 #[.int .i64 T, .int .i64 (1 + mc), .int .i64 a7, .int .i64 b7, .int .i64 lo7, .int .i64 hi7, .int .i64 t7] by have h9 := (Blk.new (World.setCell (World.setCell (World.setCell (World.setCell (World.setCell w11 ⟨w5.heap.size, 2, none⟩ (.int .i64 a7)) ⟨w5.heap.size, 3, none⟩ (.int .i64 b7)) ⟨w5.heap.size, 4, none⟩ (.int .i64 lo7)) ⟨w5.heap.size, 5, none⟩ (.int .i64 hi7)) ⟨w5.heap.size, 6, none⟩ (.int .i64 t7)) 30 #[.int .i64 T, .int .i64 (1 + mc), .int .i64 a7, .int .i64 b7, .int .i64 lo7, .int .i64 hi7, .int .i64 t7]); (try simp only [World.size_alloc, World.size_setCell] at h9); exact h9).cell 4
              | 5, hj => simp at hj; subst hj; exact (show Blk (World.alloc (World.setCell (World.setCell (World.setCell (World.setCell (World.setCell w11 ⟨w5.heap.size, 2, none⟩ (.int .i64 a7)) ⟨w5.heap.size, 3, none⟩ (.int .i64 b7)) ⟨w5.heap.size, 4, none⟩ (.int .i64 lo7)) ⟨w5.heap.size, 5, none⟩ (.int .i64 hi7)) ⟨w5.heap.size, 6, none⟩ (.int .i64 t7)) (Obj.cells #[.int .i64 T, .int .i64 (1 + mc), .int .i64 a7, .int .i64 b7, .int .i64 lo7, .int .i64 hi7, .int .i64 t7] 30)) (w11.heap.size) 30 #[.int .i64 T, .int .i64 (1 + mc), .int .i64 a7, .int .i64 b7, .int .i64 lo7, .int .i64 hi7, .int .i64 t7] by have h9 := (Blk.new (World.setCell (World.setCell (World.setCell (World.setCell (World.setCell w11 ⟨w5.heap.size, 2, none⟩ (.int .i64 a7)) ⟨w5.heap.size, 3, none⟩ (.int .i64 b7)) ⟨w5.heap.size, 4, none⟩ (.int .i64 lo7)) ⟨w5.heap.size, 5, none⟩ (.int .i64 hi7)) ⟨w5.heap.size, 6, none⟩ (.int .i64 t7)) 30 #[.int .i64 T, .int .i64 (1 + mc), .int .i64 a7, .int .i64 b7, .int .i64 lo7, .int .i64 hi7, .int .i64 t7]); (try simp only [World.size_alloc, World.size_setCell] at h9); exact h9).cell 5
              | 6, hj => simp at hj; subst hj; exact (show Blk (World.alloc (World.setCell (World.setCell (World.setCell (World.setCell (World.setCell w11 ⟨w5.heap.size, 2, none⟩ (.int .i64 a7)) ⟨w5.heap.size, 3, none⟩ (.int .i64 b7)) ⟨w5.heap.size, 4, none⟩ (.int .i64 lo7)) ⟨w5.heap.size, 5, none⟩ (.int .i64 hi7)) ⟨w5.heap.size, 6, none⟩ (.int .i64 t7)) (Obj.cells #[.int .i64 T, .int .i64 (1 + mc), .int .i64 a7, .int .i64 b7, .int .i64 lo7, .int .i64 hi7, .int .i64 t7] 30)) (w11.heap.size) 30 #[.int .i64 T, .int .i64 (1 + mc), .int .i64 a7, .int .i64 b7, .int .i64 lo7, .int .i64 hi7, .int .i64 t7] by have h9 := (Blk.new (World.setCell (World.setCell (World.setCell (World.setCell (World.setCell w11 ⟨w5.heap.size, 2, none⟩ (.int .i64 a7)) ⟨w5.heap.size, 3, none⟩ (.int .i64 b7)) ⟨w5.heap.size, 4, none⟩ (.int .i64 lo7)) ⟨w5.heap.size, 5, none⟩ (.int .i64 hi7)) ⟨w5.heap.size, 6, none⟩ (.int .i64 t7)) 30 #[.int .i64 T, .int .i64 (1 + mc), .int .i64 a7, .int .i64 b7, .int .i64 lo7, .int .i64 hi7, .int .i64 t7]); (try simp only [World.size_alloc, World.size_setCell] at h9); exact h9).cell 6
            case c2_2 => intro u hu; simp at hu; rcases hu with rfl | rfl | rfl | rfl | rfl | rfl | rfl <;> rfl
            case c2_3 => unfold maxLen; omega
            case c2_4 => omega
            case c2_5 => have := Hgl.out; have := Sr.out; have := S4.out; have := S5.out; have := S6.out; have := S7.out; have := S11.out; simp; omega
            intro v12 w12 hown12 hgrow12 _
            clear qQ0 qQ1 qQ2 qQ3 qQ4 qQ5 qQ6 qQl qQf
            have S12 := Lib.hid (show w11.heap.size + 1 ≤ w12.heap.size by have h9 := hgrow12.size; (try simp only [World.size_alloc, World.size_setCell] at h9); omega)
            have gr12 : ∀ r, Value.ownBlock _ = some r → w.heap.size ≤ r := fun r hr => (World.ownsRow.lt ho9 r hr).1
            have Hc12 := Lib.hid (((((((Hc11.out.st (p := ⟨w5.heap.size, 2, none⟩) (show g < w5.heap.size by have := Hgl.out; have := Sr.out; have := S4.out; have := S5.out; have := S6.out; have := S7.out; have := S11.out; omega) (.int .i64 a7)).st (p := ⟨w5.heap.size, 3, none⟩) (show g < w5.heap.size by have := Hgl.out; have := Sr.out; have := S4.out; have := S5.out; have := S6.out; have := S7.out; have := S11.out; omega) (.int .i64 b7)).st (p := ⟨w5.heap.size, 4, none⟩) (show g < w5.heap.size by have := Hgl.out; have := Sr.out; have := S4.out; have := S5.out; have := S6.out; have := S7.out; have := S11.out; omega) (.int .i64 lo7)).st (p := ⟨w5.heap.size, 5, none⟩) (show g < w5.heap.size by have := Hgl.out; have := Sr.out; have := S4.out; have := S5.out; have := S6.out; have := S7.out; have := S11.out; omega) (.int .i64 hi7)).st (p := ⟨w5.heap.size, 6, none⟩) (show g < w5.heap.size by have := Hgl.out; have := Sr.out; have := S4.out; have := S5.out; have := S6.out; have := S7.out; have := S11.out; omega) (.int .i64 t7)).alloc _).grown hgrow12 (fun r hr => by have := gr12 r hr; have := Hgl.out; have := Sr.out; have := S4.out; have := S5.out; have := S6.out; have := S7.out; have := S11.out; omega))
            have Hd12 := Lib.hid (((((((Hd11.out.st (p := ⟨w5.heap.size, 2, none⟩) (show w.heap.size ≤ w5.heap.size by have := Hgl.out; have := Sr.out; have := S4.out; have := S5.out; have := S6.out; have := S7.out; have := S11.out; omega) (.int .i64 a7)).st (p := ⟨w5.heap.size, 3, none⟩) (show w.heap.size ≤ w5.heap.size by have := Hgl.out; have := Sr.out; have := S4.out; have := S5.out; have := S6.out; have := S7.out; have := S11.out; omega) (.int .i64 b7)).st (p := ⟨w5.heap.size, 4, none⟩) (show w.heap.size ≤ w5.heap.size by have := Hgl.out; have := Sr.out; have := S4.out; have := S5.out; have := S6.out; have := S7.out; have := S11.out; omega) (.int .i64 lo7)).st (p := ⟨w5.heap.size, 5, none⟩) (show w.heap.size ≤ w5.heap.size by have := Hgl.out; have := Sr.out; have := S4.out; have := S5.out; have := S6.out; have := S7.out; have := S11.out; omega) (.int .i64 hi7)).st (p := ⟨w5.heap.size, 6, none⟩) (show w.heap.size ≤ w5.heap.size by have := Hgl.out; have := Sr.out; have := S4.out; have := S5.out; have := S6.out; have := S7.out; have := S11.out; omega) (.int .i64 t7)).alloc _).grown hgrow12 (fun r hr => by have := gr12 r hr; have := Sr.out; have := S4.out; have := S5.out; have := S6.out; have := S7.out; have := S11.out; omega))
            have R12 := Lib.hid (show IR w12 w.heap.size 30 7 v12 (m + 1) from ⟨_, hown12, ha9.app (by first | exact allI5 _ _ _ _ _ | exact allI7 _ _ _ _ _ _ _)⟩)
            clear hown12 hgrow12 gr12 ho9 ha9
            have GR12 := Lib.hid (IR.lt R12.out)
            go_wp2_with fail
            refine (pick_any g ((k + 10 + 100 * m) + 80) (20) _ Hc12.out (by have := Hk.out; omega)).mono ?_; rintro e w13 ⟨⟨p5, lp5, up5, rfl⟩, hc13, hd13⟩
            have S13 := Lib.hid (show w12.heap.size + 0 ≤ w13.heap.size by have h9 := hd13.size; (try simp only [World.size_alloc, World.size_setCell] at h9); omega)
            have R12 := Lib.hid (R12.out.dg hd13 (show g < w.heap.size by have := Hgl.out; have := Sr.out; have := S4.out; have := S5.out; have := S6.out; have := S7.out; have := S11.out; have := S12.out; have := S13.out; omega))
            have Hc13 := Lib.hid (hc13.mono (j := (k + 10 + 100 * m) + 82) (by omega))
            have Hd13 := Lib.hid (Hd12.out.trans hd13)
            clear hc13 hd13
            go_wp2_with fail
            refine (among_lit g ((k + 10 + 100 * m) + 82) (w13.heap.size) [1, 1, 2, 50, p5] w13 (by simp) Hc13.out (by simp) (by simp) (by have := Hk.out; omega)).mono ?_; rintro e w14 ⟨⟨x5, hx5, rfl⟩, hc14, hd14⟩
            have S14 := Lib.hid (show w13.heap.size + 1 ≤ w14.heap.size by have h9 := hd14.size; (try simp only [World.size_alloc, World.size_setCell] at h9); omega)
            have R12 := Lib.hid ((R12.out.alloc _).dg hd14 (show g < w.heap.size by have := Hgl.out; have := Sr.out; have := S4.out; have := S5.out; have := S6.out; have := S7.out; have := S11.out; have := S12.out; have := S13.out; have := S14.out; omega))
            have Hc14 := Lib.hid (hc14.mono (j := (k + 10 + 100 * m) + 84) (by omega))
            have Hd14 := Lib.hid ((Hd13.out.alloc _).trans hd14)
            clear hc14 hd14
            have hx5b : 0 ≤ x5 ∧ x5 ≤ 50 := by simp only [List.mem_cons, List.not_mem_nil, or_false] at hx5; omega
            clear hx5 lp5 up5
            obtain ⟨hx50, hx51⟩ := hx5b
            go_wp2
            go_roundw
            case rel => exact ⟨m + 1, T + x5, by omega, by go_num, by omega, by omega, R12, Lib.hid (Hc14.out.mono (by omega)), Hd14⟩
            case measure => obtain ⟨A8, c8, rfl, -, -⟩ := R12.out.form; simp [lenR]; omega
        · go_wp2_with fail
          refine (among_lit g ((k + 10 + 100 * m) + 18) (w6.heap.size) [0, 9, 10] w6 (by simp) Hc6.out (by simp) (by simp) (by have := Hk.out; omega)).mono ?_; rintro e w15 ⟨⟨x1, hx1, rfl⟩, hc15, hd15⟩
          have S15 := Lib.hid (show w6.heap.size + 1 ≤ w15.heap.size by have h9 := hd15.size; (try simp only [World.size_alloc, World.size_setCell] at h9); omega)
          have NQ := Lib.hid ((Q.out.alloc _).dg hd15 (show w5.heap.size ≠ g by have := Hgl.out; have := Sr.out; have := S4.out; have := S5.out; have := S6.out; have := S15.out; omega))
          have Q := NQ; clear NQ
          have HO := Lib.hid ((HO.out.alloc _).dg hd15 (show g < w.heap.size by have := Hgl.out; have := Sr.out; have := S4.out; have := S5.out; have := S6.out; have := S15.out; omega))
          have Hc15 := Lib.hid (hc15.mono (j := (k + 10 + 100 * m) + 20) (by omega))
          have Hd15 := Lib.hid ((Hd6.out.alloc _).trans hd15)
          clear hc15 hd15
          clear hx1
          have qQ0 := Q.out.cell 0
          have qQ1 := Q.out.cell 1
          have qQ2 := Q.out.cell 2
          have qQ3 := Q.out.cell 3
          have qQ4 := Q.out.cell 4
          have qQ5 := Q.out.cell 5
          have qQ6 := Q.out.cell 6
          simp at qQ0 qQ1 qQ2 qQ3 qQ4 qQ5 qQ6
          have qQl := Q.out.lt
          have qQf := Q.out.frozen
          go_wp2_with fail
          refine (one_any g ((k + 10 + 100 * m) + 20) (40) _ (Hc15.out.st (p := ⟨w5.heap.size, 1, none⟩) (show g < w5.heap.size by have := Hgl.out; have := Sr.out; have := S4.out; have := S5.out; have := S6.out; have := S15.out; omega) (.int .i64 x1)) (by have := Hk.out; omega)).mono ?_; rintro e w16 ⟨⟨o2, rfl⟩, hc16, hd16⟩
          clear qQ0 qQ1 qQ2 qQ3 qQ4 qQ5 qQ6 qQl qQf
          have S16 := Lib.hid (show w15.heap.size + 0 ≤ w16.heap.size by have h9 := hd16.size; (try simp only [World.size_alloc, World.size_setCell] at h9); omega)
          have NQ := Lib.hid ((show Blk (World.setCell w15 ⟨w5.heap.size, 1, none⟩ (.int .i64 x1)) (w5.heap.size) 30 #[.int .i64 T, .int .i64 x1, .int .i64 a, .int .i64 b, .int .i64 lo, .int .i64 hi9, .int .i64 t] by have h9 := (Q.out.set 1 (.int .i64 x1)); simpa using h9).dg hd16 (show w5.heap.size ≠ g by have := Hgl.out; have := Sr.out; have := S4.out; have := S5.out; have := S6.out; have := S15.out; have := S16.out; omega))
          have Q := NQ; clear NQ
          have HO := Lib.hid ((HO.out.st (p := ⟨w5.heap.size, 1, none⟩) (by intro k9 hk9; have := GHO.out k9 hk9; show k9 ≠ w5.heap.size; have := Hgl.out; have := Sr.out; have := S4.out; have := S5.out; have := S6.out; have := S15.out; have := S16.out; omega) (.int .i64 x1)).dg hd16 (show g < w.heap.size by have := Hgl.out; have := Sr.out; have := S4.out; have := S5.out; have := S6.out; have := S15.out; have := S16.out; omega))
          have Hc16 := Lib.hid (hc16.mono (j := (k + 10 + 100 * m) + 22) (by omega))
          have Hd16 := Lib.hid ((Hd15.out.st (p := ⟨w5.heap.size, 1, none⟩) (show w.heap.size ≤ w5.heap.size by have := Hgl.out; have := Sr.out; have := S4.out; have := S5.out; have := S6.out; have := S15.out; have := S16.out; omega) (.int .i64 x1)).trans hd16)
          clear hc16 hd16
          cases o2
          · obtain ⟨xs9, ho9, ha9⟩ := HO.out.ex
            have qQ0 := Q.out.cell 0
            have qQ1 := Q.out.cell 1
            have qQ2 := Q.out.cell 2
            have qQ3 := Q.out.cell 3
            have qQ4 := Q.out.cell 4
            have qQ5 := Q.out.cell 5
            have qQ6 := Q.out.cell 6
            simp at qQ0 qQ1 qQ2 qQ3 qQ4 qQ5 qQ6
            have qQl := Q.out.lt
            go_wp2_with (at_builtin; refine wpList_append_own _ rfl _ _ 24 rfl w.heap.size 30 i0 (.agg #[.int .i64 0, .int .i64 0, .int .i64 0, .int .i64 0, .int .i64 0, .int .i64 0, .int .i64 0]) 7 56 Tryd.underlying24 hi hz0 hz1 hz2 rfl (by decide) _ _ _ rfl (ho9.alloc _) ⟨w16.heap.size, 0, none⟩ 1 1 [.int .i64 T, .int .i64 x1, .int .i64 a, .int .i64 b, .int .i64 lo, .int .i64 hi9, .int .i64 t] rfl rfl ?c3_1 ?c3_2 ?c3_3 ?c3_4 ?c3_5 ?_)
            case c3_1 =>
              intro j u hj
              match j, hj with
              | 0, hj => simp at hj; subst hj; exact (Blk.new w16 _ _).cell 0
              | 1, hj => simp at hj; subst hj; exact (Blk.new w16 _ _).cell 1
              | 2, hj => simp at hj; subst hj; exact (Blk.new w16 _ _).cell 2
              | 3, hj => simp at hj; subst hj; exact (Blk.new w16 _ _).cell 3
              | 4, hj => simp at hj; subst hj; exact (Blk.new w16 _ _).cell 4
              | 5, hj => simp at hj; subst hj; exact (Blk.new w16 _ _).cell 5
              | 6, hj => simp at hj; subst hj; exact (Blk.new w16 _ _).cell 6
            case c3_2 => intro u hu; simp at hu; rcases hu with rfl | rfl | rfl | rfl | rfl | rfl | rfl <;> rfl
            case c3_3 => unfold maxLen; omega
            case c3_4 => omega
            case c3_5 => have := Hgl.out; have := Sr.out; have := S4.out; have := S5.out; have := S6.out; have := S15.out; have := S16.out; simp; omega
            intro v17 w17 hown17 hgrow17 _
            clear qQ0 qQ1 qQ2 qQ3 qQ4 qQ5 qQ6 qQl
            have S17 := Lib.hid (show w16.heap.size + 1 ≤ w17.heap.size by have h9 := hgrow17.size; (try simp only [World.size_alloc, World.size_setCell] at h9); omega)
            have gr17 : ∀ r, Value.ownBlock _ = some r → w.heap.size ≤ r := fun r hr => (World.ownsRow.lt ho9 r hr).1
            have Hc17 := Lib.hid ((Hc16.out.alloc _).grown hgrow17 (fun r hr => by have := gr17 r hr; have := Hgl.out; have := Sr.out; have := S4.out; have := S5.out; have := S6.out; have := S15.out; have := S16.out; omega))
            have Hd17 := Lib.hid ((Hd16.out.alloc _).grown hgrow17 (fun r hr => by have := gr17 r hr; have := Sr.out; have := S4.out; have := S5.out; have := S6.out; have := S15.out; have := S16.out; omega))
            have R17 := Lib.hid (show IR w17 w.heap.size 30 7 v17 (m + 1) from ⟨_, hown17, ha9.app (by first | exact allI5 _ _ _ _ _ | exact allI7 _ _ _ _ _ _ _)⟩)
            clear hown17 hgrow17 gr17 ho9 ha9
            have GR17 := Lib.hid (IR.lt R17.out)
            go_wp2_with fail
            refine (pick_any g ((k + 10 + 100 * m) + 22) (20) _ Hc17.out (by have := Hk.out; omega)).mono ?_; rintro e w18 ⟨⟨p5, lp5, up5, rfl⟩, hc18, hd18⟩
            have S18 := Lib.hid (show w17.heap.size + 0 ≤ w18.heap.size by have h9 := hd18.size; (try simp only [World.size_alloc, World.size_setCell] at h9); omega)
            have R17 := Lib.hid (R17.out.dg hd18 (show g < w.heap.size by have := Hgl.out; have := Sr.out; have := S4.out; have := S5.out; have := S6.out; have := S15.out; have := S16.out; have := S17.out; have := S18.out; omega))
            have Hc18 := Lib.hid (hc18.mono (j := (k + 10 + 100 * m) + 24) (by omega))
            have Hd18 := Lib.hid (Hd17.out.trans hd18)
            clear hc18 hd18
            go_wp2_with fail
            refine (among_lit g ((k + 10 + 100 * m) + 24) (w18.heap.size) [1, 1, 2, 50, p5] w18 (by simp) Hc18.out (by simp) (by simp) (by have := Hk.out; omega)).mono ?_; rintro e w19 ⟨⟨x5, hx5, rfl⟩, hc19, hd19⟩
            have S19 := Lib.hid (show w18.heap.size + 1 ≤ w19.heap.size by have h9 := hd19.size; (try simp only [World.size_alloc, World.size_setCell] at h9); omega)
            have R17 := Lib.hid ((R17.out.alloc _).dg hd19 (show g < w.heap.size by have := Hgl.out; have := Sr.out; have := S4.out; have := S5.out; have := S6.out; have := S15.out; have := S16.out; have := S17.out; have := S18.out; have := S19.out; omega))
            have Hc19 := Lib.hid (hc19.mono (j := (k + 10 + 100 * m) + 26) (by omega))
            have Hd19 := Lib.hid ((Hd18.out.alloc _).trans hd19)
            clear hc19 hd19
            have hx5b : 0 ≤ x5 ∧ x5 ≤ 50 := by simp only [List.mem_cons, List.not_mem_nil, or_false] at hx5; omega
            clear hx5 lp5 up5
            obtain ⟨hx50, hx51⟩ := hx5b
            go_wp2
            go_roundw
            case rel => exact ⟨m + 1, T + x5, by omega, by go_num, by omega, by omega, R17, Lib.hid (Hc19.out.mono (by omega)), Hd19⟩
            case measure => obtain ⟨A8, c8, rfl, -, -⟩ := R17.out.form; simp [lenR]; omega
          · go_wp2_with fail
            refine (anyEntry_any g ((k + 10 + 100 * m) + 22) _ Hc16.out (by have := Hk.out; omega)).mono ?_; rintro e w20 ⟨⟨a7, b7, lo7, hi7, t7, rfl⟩, hc20, hd20⟩
            have S20 := Lib.hid (show w16.heap.size + 0 ≤ w20.heap.size by have h9 := hd20.size; (try simp only [World.size_alloc, World.size_setCell] at h9); omega)
            have NQ := Lib.hid (Q.out.dg hd20 (show w5.heap.size ≠ g by have := Hgl.out; have := Sr.out; have := S4.out; have := S5.out; have := S6.out; have := S15.out; have := S16.out; have := S20.out; omega))
            have Q := NQ; clear NQ
            have HO := Lib.hid (HO.out.dg hd20 (show g < w.heap.size by have := Hgl.out; have := Sr.out; have := S4.out; have := S5.out; have := S6.out; have := S15.out; have := S16.out; have := S20.out; omega))
            have Hc20 := Lib.hid (hc20.mono (j := (k + 10 + 100 * m) + 82) (by omega))
            have Hd20 := Lib.hid (Hd16.out.trans hd20)
            clear hc20 hd20
            obtain ⟨xs9, ho9, ha9⟩ := (((((HO.out.st (p := ⟨w5.heap.size, 2, none⟩) (by intro k9 hk9; have := GHO.out k9 hk9; show k9 ≠ w5.heap.size; have := Hgl.out; have := Sr.out; have := S4.out; have := S5.out; have := S6.out; have := S15.out; have := S16.out; have := S20.out; omega) (.int .i64 a7)).st (p := ⟨w5.heap.size, 3, none⟩) (by intro k9 hk9; have := GHO.out k9 hk9; show k9 ≠ w5.heap.size; have := Hgl.out; have := Sr.out; have := S4.out; have := S5.out; have := S6.out; have := S15.out; have := S16.out; have := S20.out; omega) (.int .i64 b7)).st (p := ⟨w5.heap.size, 4, none⟩) (by intro k9 hk9; have := GHO.out k9 hk9; show k9 ≠ w5.heap.size; have := Hgl.out; have := Sr.out; have := S4.out; have := S5.out; have := S6.out; have := S15.out; have := S16.out; have := S20.out; omega) (.int .i64 lo7)).st (p := ⟨w5.heap.size, 5, none⟩) (by intro k9 hk9; have := GHO.out k9 hk9; show k9 ≠ w5.heap.size; have := Hgl.out; have := Sr.out; have := S4.out; have := S5.out; have := S6.out; have := S15.out; have := S16.out; have := S20.out; omega) (.int .i64 hi7)).st (p := ⟨w5.heap.size, 6, none⟩) (by intro k9 hk9; have := GHO.out k9 hk9; show k9 ≠ w5.heap.size; have := Hgl.out; have := Sr.out; have := S4.out; have := S5.out; have := S6.out; have := S15.out; have := S16.out; have := S20.out; omega) (.int .i64 t7)).ex
            have qQ0 := Q.out.cell 0
            have qQ1 := Q.out.cell 1
            have qQ2 := Q.out.cell 2
            have qQ3 := Q.out.cell 3
            have qQ4 := Q.out.cell 4
            have qQ5 := Q.out.cell 5
            have qQ6 := Q.out.cell 6
            simp at qQ0 qQ1 qQ2 qQ3 qQ4 qQ5 qQ6
            have qQl := Q.out.lt
            have qQf := Q.out.frozen
            go_wp2_with (at_builtin; refine wpList_append_own _ rfl _ _ 24 rfl w.heap.size 30 i0 (.agg #[.int .i64 0, .int .i64 0, .int .i64 0, .int .i64 0, .int .i64 0, .int .i64 0, .int .i64 0]) 7 56 Tryd.underlying24 hi hz0 hz1 hz2 rfl (by decide) _ _ _ rfl (ho9.alloc _) ⟨w20.heap.size, 0, none⟩ 1 1 [.int .i64 T, .int .i64 x1, .int .i64 a7, .int .i64 b7, .int .i64 lo7, .int .i64 hi7, .int .i64 t7] rfl rfl ?c4_1 ?c4_2 ?c4_3 ?c4_4 ?c4_5 ?_)
            case c4_1 =>
              intro j u hj
              match j, hj with
              | 0, hj => simp at hj; subst hj; exact (show Blk (World.alloc (World.setCell (World.setCell (World.setCell (World.setCell (World.setCell w20 ⟨w5.heap.size, 2, none⟩ (.int .i64 a7)) ⟨w5.heap.size, 3, none⟩ (.int .i64 b7)) ⟨w5.heap.size, 4, none⟩ (.int .i64 lo7)) ⟨w5.heap.size, 5, none⟩ (.int .i64 hi7)) ⟨w5.heap.size, 6, none⟩ (.int .i64 t7)) (Obj.cells #[.int .i64 T, .int .i64 x1, .int .i64 a7, .int .i64 b7, .int .i64 lo7, .int .i64 hi7, .int .i64 t7] 30)) (w20.heap.size) 30 #[.int .i64 T, .int .i64 x1, .int .i64 a7, .int .i64 b7, .int .i64 lo7, .int .i64 hi7, .int .i64 t7] by have h9 := (Blk.new (World.setCell (World.setCell (World.setCell (World.setCell (World.setCell w20 ⟨w5.heap.size, 2, none⟩ (.int .i64 a7)) ⟨w5.heap.size, 3, none⟩ (.int .i64 b7)) ⟨w5.heap.size, 4, none⟩ (.int .i64 lo7)) ⟨w5.heap.size, 5, none⟩ (.int .i64 hi7)) ⟨w5.heap.size, 6, none⟩ (.int .i64 t7)) 30 #[.int .i64 T, .int .i64 x1, .int .i64 a7, .int .i64 b7, .int .i64 lo7, .int .i64 hi7, .int .i64 t7]); (try simp only [World.size_alloc, World.size_setCell] at h9); exact h9).cell 0
              | 1, hj => simp at hj; subst hj; exact (show Blk (World.alloc (World.setCell (World.setCell (World.setCell (World.setCell (World.setCell w20 ⟨w5.heap.size, 2, none⟩ (.int .i64 a7)) ⟨w5.heap.size, 3, none⟩ (.int .i64 b7)) ⟨w5.heap.size, 4, none⟩ (.int .i64 lo7)) ⟨w5.heap.size, 5, none⟩ (.int .i64 hi7)) ⟨w5.heap.size, 6, none⟩ (.int .i64 t7)) (Obj.cells #[.int .i64 T, .int .i64 x1, .int .i64 a7, .int .i64 b7, .int .i64 lo7, .int .i64 hi7, .int .i64 t7] 30)) (w20.heap.size) 30 #[.int .i64 T, .int .i64 x1, .int .i64 a7, .int .i64 b7, .int .i64 lo7, .int .i64 hi7, .int .i64 t7] by have h9 := (Blk.new (World.setCell (World.setCell (World.setCell (World.setCell (World.setCell w20 ⟨w5.heap.size, 2, none⟩ (.int .i64 a7)) ⟨w5.heap.size, 3, none⟩ (.int .i64 b7)) ⟨w5.heap.size, 4, none⟩ (.int .i64 lo7)) ⟨w5.heap.size, 5, none⟩ (.int .i64 hi7)) ⟨w5.heap.size, 6, none⟩ (.int .i64 t7)) 30 #[.int .i64 T, .int .i64 x1, .int .i64 a7, .int .i64 b7, .int .i64 lo7, .int .i64 hi7, .int .i64 t7]); (try simp only [World.size_alloc, World.size_setCell] at h9); exact h9).cell 1
              | 2, hj => simp at hj; subst hj; exact (show Blk (World.alloc (World.setCell (World.setCell (World.setCell (World.setCell (World.setCell w20 ⟨w5.heap.size, 2, none⟩ (.int .i64 a7)) ⟨w5.heap.size, 3, none⟩ (.int .i64 b7)) ⟨w5.heap.size, 4, none⟩ (.int .i64 lo7)) ⟨w5.heap.size, 5, none⟩ (.int .i64 hi7)) ⟨w5.heap.size, 6, none⟩ (.int .i64 t7)) (Obj.cells #[.int .i64 T, .int .i64 x1, .int .i64 a7, .int .i64 b7, .int .i64 lo7, .int .i64 hi7, .int .i64 t7] 30)) (w20.heap.size) 30 #[.int .i64 T, .int .i64 x1, .int .i64 a7, .int .i64 b7, .int .i64 lo7, .int .i64 hi7, .int .i64 t7] by have h9 := (Blk.new (World.setCell (World.setCell (World.setCell (World.setCell (World.setCell w20 ⟨w5.heap.size, 2, none⟩ (.int .i64 a7)) ⟨w5.heap.size, 3, none⟩ (.int .i64 b7)) ⟨w5.heap.size, 4, none⟩ (.int .i64 lo7)) ⟨w5.heap.size, 5, none⟩ (.int .i64 hi7)) ⟨w5.heap.size, 6, none⟩ (.int .i64 t7)) 30 #[.int .i64 T, .int .i64 x1, .int .i64 a7, .int .i64 b7, .int .i64 lo7, .int .i64 hi7, .int .i64 t7]); (try simp only [World.size_alloc, World.size_setCell] at h9); exact h9).cell 2
              | 3, hj => simp at hj; subst hj; exact (show Blk (World.alloc (World.setCell (World.setCell (World.setCell (World.setCell (World.setCell w20 ⟨w5.heap.size, 2, none⟩ (.int .i64 a7)) ⟨w5.heap.size, 3, none⟩ (.int .i64 b7)) ⟨w5.heap.size, 4, none⟩ (.int .i64 lo7)) ⟨w5.heap.size, 5, none⟩ (.int .i64 hi7)) ⟨w5.heap.size, 6, none⟩ (.int .i64 t7)) (Obj.cells #[.int .i64 T, .int .i64 x1, .int .i64 a7, .int .i64 b7, .int .i64 lo7, .int .i64 hi7, .int .i64 t7] 30)) (w20.heap.size) 30 #[.int .i64 T, .int .i64 x1, .int .i64 a7, .int .i64 b7, .int .i64 lo7, .int .i64 hi7, .int .i64 t7] by have h9 := (Blk.new (World.setCell (World.setCell (World.setCell (World.setCell (World.setCell w20 ⟨w5.heap.size, 2, none⟩ (.int .i64 a7)) ⟨w5.heap.size, 3, none⟩ (.int .i64 b7)) ⟨w5.heap.size, 4, none⟩ (.int .i64 lo7)) ⟨w5.heap.size, 5, none⟩ (.int .i64 hi7)) ⟨w5.heap.size, 6, none⟩ (.int .i64 t7)) 30 #[.int .i64 T, .int .i64 x1, .int .i64 a7, .int .i64 b7, .int .i64 lo7, .int .i64 hi7, .int .i64 t7]); (try simp only [World.size_alloc, World.size_setCell] at h9); exact h9).cell 3
              | 4, hj => simp at hj; subst hj; exact (show Blk (World.alloc (World.setCell (World.setCell (World.setCell (World.setCell (World.setCell w20 ⟨w5.heap.size, 2, none⟩ (.int .i64 a7)) ⟨w5.heap.size, 3, none⟩ (.int .i64 b7)) ⟨w5.heap.size, 4, none⟩ (.int .i64 lo7)) ⟨w5.heap.size, 5, none⟩ (.int .i64 hi7)) ⟨w5.heap.size, 6, none⟩ (.int .i64 t7)) (Obj.cells #[.int .i64 T, .int .i64 x1, .int .i64 a7, .int .i64 b7, .int .i64 lo7, .int .i64 hi7, .int .i64 t7] 30)) (w20.heap.size) 30 #[.int .i64 T, .int .i64 x1, .int .i64 a7, .int .i64 b7, .int .i64 lo7, .int .i64 hi7, .int .i64 t7] by have h9 := (Blk.new (World.setCell (World.setCell (World.setCell (World.setCell (World.setCell w20 ⟨w5.heap.size, 2, none⟩ (.int .i64 a7)) ⟨w5.heap.size, 3, none⟩ (.int .i64 b7)) ⟨w5.heap.size, 4, none⟩ (.int .i64 lo7)) ⟨w5.heap.size, 5, none⟩ (.int .i64 hi7)) ⟨w5.heap.size, 6, none⟩ (.int .i64 t7)) 30 #[.int .i64 T, .int .i64 x1, .int .i64 a7, .int .i64 b7, .int .i64 lo7, .int .i64 hi7, .int .i64 t7]); (try simp only [World.size_alloc, World.size_setCell] at h9); exact h9).cell 4
              | 5, hj => simp at hj; subst hj; exact (show Blk (World.alloc (World.setCell (World.setCell (World.setCell (World.setCell (World.setCell w20 ⟨w5.heap.size, 2, none⟩ (.int .i64 a7)) ⟨w5.heap.size, 3, none⟩ (.int .i64 b7)) ⟨w5.heap.size, 4, none⟩ (.int .i64 lo7)) ⟨w5.heap.size, 5, none⟩ (.int .i64 hi7)) ⟨w5.heap.size, 6, none⟩ (.int .i64 t7)) (Obj.cells #[.int .i64 T, .int .i64 x1, .int .i64 a7, .int .i64 b7, .int .i64 lo7, .int .i64 hi7, .int .i64 t7] 30)) (w20.heap.size) 30 #[.int .i64 T, .int .i64 x1, .int .i64 a7, .int .i64 b7, .int .i64 lo7, .int .i64 hi7, .int .i64 t7] by have h9 := (Blk.new (World.setCell (World.setCell (World.setCell (World.setCell (World.setCell w20 ⟨w5.heap.size, 2, none⟩ (.int .i64 a7)) ⟨w5.heap.size, 3, none⟩ (.int .i64 b7)) ⟨w5.heap.size, 4, none⟩ (.int .i64 lo7)) ⟨w5.heap.size, 5, none⟩ (.int .i64 hi7)) ⟨w5.heap.size, 6, none⟩ (.int .i64 t7)) 30 #[.int .i64 T, .int .i64 x1, .int .i64 a7, .int .i64 b7, .int .i64 lo7, .int .i64 hi7, .int .i64 t7]); (try simp only [World.size_alloc, World.size_setCell] at h9); exact h9).cell 5
              | 6, hj => simp at hj; subst hj; exact (show Blk (World.alloc (World.setCell (World.setCell (World.setCell (World.setCell (World.setCell w20 ⟨w5.heap.size, 2, none⟩ (.int .i64 a7)) ⟨w5.heap.size, 3, none⟩ (.int .i64 b7)) ⟨w5.heap.size, 4, none⟩ (.int .i64 lo7)) ⟨w5.heap.size, 5, none⟩ (.int .i64 hi7)) ⟨w5.heap.size, 6, none⟩ (.int .i64 t7)) (Obj.cells #[.int .i64 T, .int .i64 x1, .int .i64 a7, .int .i64 b7, .int .i64 lo7, .int .i64 hi7, .int .i64 t7] 30)) (w20.heap.size) 30 #[.int .i64 T, .int .i64 x1, .int .i64 a7, .int .i64 b7, .int .i64 lo7, .int .i64 hi7, .int .i64 t7] by have h9 := (Blk.new (World.setCell (World.setCell (World.setCell (World.setCell (World.setCell w20 ⟨w5.heap.size, 2, none⟩ (.int .i64 a7)) ⟨w5.heap.size, 3, none⟩ (.int .i64 b7)) ⟨w5.heap.size, 4, none⟩ (.int .i64 lo7)) ⟨w5.heap.size, 5, none⟩ (.int .i64 hi7)) ⟨w5.heap.size, 6, none⟩ (.int .i64 t7)) 30 #[.int .i64 T, .int .i64 x1, .int .i64 a7, .int .i64 b7, .int .i64 lo7, .int .i64 hi7, .int .i64 t7]); (try simp only [World.size_alloc, World.size_setCell] at h9); exact h9).cell 6
            case c4_2 => intro u hu; simp at hu; rcases hu with rfl | rfl | rfl | rfl | rfl | rfl | rfl <;> rfl
            case c4_3 => unfold maxLen; omega
            case c4_4 => omega
            case c4_5 => have := Hgl.out; have := Sr.out; have := S4.out; have := S5.out; have := S6.out; have := S15.out; have := S16.out; have := S20.out; simp; omega
            intro v21 w21 hown21 hgrow21 _
            clear qQ0 qQ1 qQ2 qQ3 qQ4 qQ5 qQ6 qQl qQf
            have S21 := Lib.hid (show w20.heap.size + 1 ≤ w21.heap.size by have h9 := hgrow21.size; (try simp only [World.size_alloc, World.size_setCell] at h9); omega)
            have gr21 : ∀ r, Value.ownBlock _ = some r → w.heap.size ≤ r := fun r hr => (World.ownsRow.lt ho9 r hr).1
            have Hc21 := Lib.hid (((((((Hc20.out.st (p := ⟨w5.heap.size, 2, none⟩) (show g < w5.heap.size by have := Hgl.out; have := Sr.out; have := S4.out; have := S5.out; have := S6.out; have := S15.out; have := S16.out; have := S20.out; omega) (.int .i64 a7)).st (p := ⟨w5.heap.size, 3, none⟩) (show g < w5.heap.size by have := Hgl.out; have := Sr.out; have := S4.out; have := S5.out; have := S6.out; have := S15.out; have := S16.out; have := S20.out; omega) (.int .i64 b7)).st (p := ⟨w5.heap.size, 4, none⟩) (show g < w5.heap.size by have := Hgl.out; have := Sr.out; have := S4.out; have := S5.out; have := S6.out; have := S15.out; have := S16.out; have := S20.out; omega) (.int .i64 lo7)).st (p := ⟨w5.heap.size, 5, none⟩) (show g < w5.heap.size by have := Hgl.out; have := Sr.out; have := S4.out; have := S5.out; have := S6.out; have := S15.out; have := S16.out; have := S20.out; omega) (.int .i64 hi7)).st (p := ⟨w5.heap.size, 6, none⟩) (show g < w5.heap.size by have := Hgl.out; have := Sr.out; have := S4.out; have := S5.out; have := S6.out; have := S15.out; have := S16.out; have := S20.out; omega) (.int .i64 t7)).alloc _).grown hgrow21 (fun r hr => by have := gr21 r hr; have := Hgl.out; have := Sr.out; have := S4.out; have := S5.out; have := S6.out; have := S15.out; have := S16.out; have := S20.out; omega))
            have Hd21 := Lib.hid (((((((Hd20.out.st (p := ⟨w5.heap.size, 2, none⟩) (show w.heap.size ≤ w5.heap.size by have := Hgl.out; have := Sr.out; have := S4.out; have := S5.out; have := S6.out; have := S15.out; have := S16.out; have := S20.out; omega) (.int .i64 a7)).st (p := ⟨w5.heap.size, 3, none⟩) (show w.heap.size ≤ w5.heap.size by have := Hgl.out; have := Sr.out; have := S4.out; have := S5.out; have := S6.out; have := S15.out; have := S16.out; have := S20.out; omega) (.int .i64 b7)).st (p := ⟨w5.heap.size, 4, none⟩) (show w.heap.size ≤ w5.heap.size by have := Hgl.out; have := Sr.out; have := S4.out; have := S5.out; have := S6.out; have := S15.out; have := S16.out; have := S20.out; omega) (.int .i64 lo7)).st (p := ⟨w5.heap.size, 5, none⟩) (show w.heap.size ≤ w5.heap.size by have := Hgl.out; have := Sr.out; have := S4.out; have := S5.out; have := S6.out; have := S15.out; have := S16.out; have := S20.out; omega) (.int .i64 hi7)).st (p := ⟨w5.heap.size, 6, none⟩) (show w.heap.size ≤ w5.heap.size by have := Hgl.out; have := Sr.out; have := S4.out; have := S5.out; have := S6.out; have := S15.out; have := S16.out; have := S20.out; omega) (.int .i64 t7)).alloc _).grown hgrow21 (fun r hr => by have := gr21 r hr; have := Sr.out; have := S4.out; have := S5.out; have := S6.out; have := S15.out; have := S16.out; have := S20.out; omega))
            have R21 := Lib.hid (show IR w21 w.heap.size 30 7 v21 (m + 1) from ⟨_, hown21, ha9.app (by first | exact allI5 _ _ _ _ _ | exact allI7 _ _ _ _ _ _ _)⟩)
            clear hown21 hgrow21 gr21 ho9 ha9
            have GR21 := Lib.hid (IR.lt R21.out)
            go_wp2_with fail
            refine (pick_any g ((k + 10 + 100 * m) + 82) (20) _ Hc21.out (by have := Hk.out; omega)).mono ?_; rintro e w22 ⟨⟨p5, lp5, up5, rfl⟩, hc22, hd22⟩
            have S22 := Lib.hid (show w21.heap.size + 0 ≤ w22.heap.size by have h9 := hd22.size; (try simp only [World.size_alloc, World.size_setCell] at h9); omega)
            have R21 := Lib.hid (R21.out.dg hd22 (show g < w.heap.size by have := Hgl.out; have := Sr.out; have := S4.out; have := S5.out; have := S6.out; have := S15.out; have := S16.out; have := S20.out; have := S21.out; have := S22.out; omega))
            have Hc22 := Lib.hid (hc22.mono (j := (k + 10 + 100 * m) + 84) (by omega))
            have Hd22 := Lib.hid (Hd21.out.trans hd22)
            clear hc22 hd22
            go_wp2_with fail
            refine (among_lit g ((k + 10 + 100 * m) + 84) (w22.heap.size) [1, 1, 2, 50, p5] w22 (by simp) Hc22.out (by simp) (by simp) (by have := Hk.out; omega)).mono ?_; rintro e w23 ⟨⟨x5, hx5, rfl⟩, hc23, hd23⟩
            have S23 := Lib.hid (show w22.heap.size + 1 ≤ w23.heap.size by have h9 := hd23.size; (try simp only [World.size_alloc, World.size_setCell] at h9); omega)
            have R21 := Lib.hid ((R21.out.alloc _).dg hd23 (show g < w.heap.size by have := Hgl.out; have := Sr.out; have := S4.out; have := S5.out; have := S6.out; have := S15.out; have := S16.out; have := S20.out; have := S21.out; have := S22.out; have := S23.out; omega))
            have Hc23 := Lib.hid (hc23.mono (j := (k + 10 + 100 * m) + 86) (by omega))
            have Hd23 := Lib.hid ((Hd22.out.alloc _).trans hd23)
            clear hc23 hd23
            have hx5b : 0 ≤ x5 ∧ x5 ≤ 50 := by simp only [List.mem_cons, List.not_mem_nil, or_false] at hx5; omega
            clear hx5 lp5 up5
            obtain ⟨hx50, hx51⟩ := hx5b
            go_wp2
            go_roundw
            case rel => exact ⟨m + 1, T + x5, by omega, by go_num, by omega, by omega, R21, Lib.hid (Hc23.out.mono (by omega)), Hd23⟩
            case measure => obtain ⟨A8, c8, rfl, -, -⟩ := R21.out.form; simp [lenR]; omega
      · obtain rfl : m = nn := by omega
        clear hml hT0 hT1
        have Hc9 := Lib.hid (Hcr.out.mono (j := k + 2400) (by omega)); clear Hcr
        have h6 : ¬ (6 : Int) < (m : Int) := by omega
        by_cases hm0 : 0 < m
        · obtain ⟨gl, cl, hfl, hgl1, hgl2, hmcl, hcml⟩ := HO.out.pos hm0
          injection hfl with hf1 hf2 hf3; subst hf1; subst hf3; clear hf2
          have hm1 : (0 : Int) < (m : Int) := by omega
          go_wp2_with fail
          refine (one_any g (k + 2400) (20) _ Hc9.out (by have := Hk.out; omega)).mono ?_; rintro e w24 ⟨⟨o3, rfl⟩, hc24, hd24⟩
          have S24 := Lib.hid (show wr.heap.size + 0 ≤ w24.heap.size by have h9 := hd24.size; (try simp only [World.size_alloc, World.size_setCell] at h9); omega)
          have HO := Lib.hid (HO.out.dg hd24 (show g < w.heap.size by have := Hgl.out; have := hgl1; have := Sr.out; have := S24.out; omega))
          have Hc24 := Lib.hid (hc24.mono (j := k + 2402) (by omega))
          have Hd24 := Lib.hid (Hdr.out.trans hd24)
          clear hc24 hd24
          cases o3
          · go_wp2
            go_ret
            exact ⟨⟨_, m, by omega, rfl, HO.out⟩, Hc24.out.mono (by omega), Hd24.out⟩
          · go_wp2_with fail
            refine (among_lit g (k + 2402) (w24.heap.size) [1000000, 1000001, -1] w24 (by simp) Hc24.out (by simp) (by simp) (by have := Hk.out; omega)).mono ?_; rintro e w25 ⟨⟨x6, hx6, rfl⟩, hc25, hd25⟩
            have S25 := Lib.hid (show w24.heap.size + 1 ≤ w25.heap.size by have h9 := hd25.size; (try simp only [World.size_alloc, World.size_setCell] at h9); omega)
            have HO := Lib.hid ((HO.out.alloc _).dg hd25 (show g < w.heap.size by have := Hgl.out; have := hgl1; have := Sr.out; have := S24.out; have := S25.out; omega))
            have Hc25 := Lib.hid (hc25.mono (j := k + 2404) (by omega))
            have Hd25 := Lib.hid ((Hd24.out.alloc _).trans hd25)
            clear hc25 hd25
            clear hx6
            have hidx : (m : Int) - 1 = ((m - 1 : Nat) : Int) := by omega
            rw [hidx]
            have hyi : (0 : Int) ≤ ((m - 1 : Nat) : Int) := by omega
            have hyj : ((m - 1 : Nat) : Int) < (m : Int) := by omega
            clear hidx
            obtain ⟨u0, hu0⟩ := HO.out.cell (j := (m - 1) * 7) (by omega)
            have hfz := HO.out.frozen
            have hll := (HO.out.lt gl rfl).2
            go_wp2
            go_ret
            exact ⟨⟨_, m, by omega, rfl, (HO.out.set ((m - 1) * 7) x6)⟩, (Hc25.out.st (p := ⟨gl, (m - 1) * 7, none⟩) (show g < gl by have := Hgl.out; have := hgl1; have := Sr.out; have := S24.out; have := S25.out; omega) (.int .i64 x6)).mono (by omega), (Hd25.out.st (p := ⟨gl, (m - 1) * 7, none⟩) (show w.heap.size ≤ gl by have := Hgl.out; have := hgl1; have := Sr.out; have := S24.out; have := S25.out; omega) (.int .i64 x6))⟩
        · have hm1 : ¬ (0 : Int) < (m : Int) := by omega
          go_wp2
          go_ret
          exact ⟨⟨_, m, by omega, rfl, HO.out⟩, Hc9.out.mono (by omega), Hdr.out⟩
  · clear hx6
    go_wp2_with fail
    refine (pick_any g (k + 6) (2) _ Hc3.out (by have := Hk.out; omega)).mono ?_; rintro e w26 ⟨⟨p, lp, up, rfl⟩, hc26, hd26⟩
    have S26 := Lib.hid (show w3.heap.size + 0 ≤ w26.heap.size by have h9 := hd26.size; (try simp only [World.size_alloc, World.size_setCell] at h9); omega)
    have Hc26 := Lib.hid (hc26.mono (j := k + 8) (by omega))
    have Hd26 := Lib.hid (Hd3.out.trans hd26)
    clear hc26 hd26
    go_wp2
    obtain ⟨nn, hnn⟩ : ∃ q : Nat, (20 : Int) + p = (q : Int) := ⟨(20 + p).toNat, by omega⟩
    rw [hnn]
    have hn20 : 20 ≤ nn ∧ nn ≤ 21 := by omega
    obtain ⟨hn20, hn21⟩ := hn20
    clear hnn lp up
    go_loopw [3, 4] (fun l tm wr => ∃ (m : Nat) (T : Int), m ≤ nn ∧ tm = .int .i64 T ∧ 0 ≤ T ∧ T ≤ 2 + 50 * (m : Int) ∧ Hid (IR wr w.heap.size 30 7 l m) ∧ Hid (Cur wr g (k + 10 + 100 * m)) ∧ Hid (Dg g w wr)) (fun l _ _ => 23 - lenR l)
    case atStart => exact ⟨0, tm, Nat.zero_le _, rfl, ltm, by omega, Lib.hid (IR.nil _ _ _ _), Lib.hid (Hc26.out.mono (by omega)), Hd26⟩
    case round =>
      obtain ⟨m, T, hmn, rfl, hT0, hT1, HO, Hcr, Hdr⟩ := hrel
      obtain ⟨A9, c9, rfl, hmc, hcm⟩ := HO.out.form
      unfold maxLen at hcm
      have Sr := Lib.hid Hdr.out.size
      have GHO := Lib.hid HO.out.lt
      by_cases hml : m < nn
      · have hmi : (m : Int) < (nn : Int) := by omega
        go_wp2_with fail
        refine (pick_any g (k + 10 + 100 * m) (4) _ Hcr.out (by have := Hk.out; omega)).mono ?_; rintro e w27 ⟨⟨mc, lmc, umc, rfl⟩, hc27, hd27⟩
        have S27 := Lib.hid (show wr.heap.size + 0 ≤ w27.heap.size by have h9 := hd27.size; (try simp only [World.size_alloc, World.size_setCell] at h9); omega)
        have HO := Lib.hid (HO.out.dg hd27 (show g < w.heap.size by have := Hgl.out; have := Sr.out; have := S27.out; omega))
        have Hc27 := Lib.hid (hc27.mono (j := (k + 10 + 100 * m) + 2) (by omega))
        have Hd27 := Lib.hid (Hdr.out.trans hd27)
        clear hc27 hd27
        go_wp2_with fail
        refine (entry_any g ((k + 10 + 100 * m) + 2) _ Hc27.out (by have := Hk.out; omega)).mono ?_; rintro e w28 ⟨⟨a, b, lo, hi9, t, b1, b2, b3, b4, rfl⟩, hc28, hd28⟩
        have S28 := Lib.hid (show w27.heap.size + 0 ≤ w28.heap.size by have h9 := hd28.size; (try simp only [World.size_alloc, World.size_setCell] at h9); omega)
        have HO := Lib.hid (HO.out.dg hd28 (show g < w.heap.size by have := Hgl.out; have := Sr.out; have := S27.out; have := S28.out; omega))
        have Hc28 := Lib.hid (hc28.mono (j := (k + 10 + 100 * m) + 16) (by omega))
        have Hd28 := Lib.hid (Hd27.out.trans hd28)
        clear hc28 hd28
        clear b1 b2 b3 b4
        go_wp2_with fail
        refine (one_any g ((k + 10 + 100 * m) + 16) (24) _ (Hc28.out.alloc _) (by have := Hk.out; omega)).mono ?_; rintro e w29 ⟨⟨o1, rfl⟩, hc29, hd29⟩
        have S29 := Lib.hid (show w28.heap.size + 1 ≤ w29.heap.size by have h9 := hd29.size; (try simp only [World.size_alloc, World.size_setCell] at h9); omega)
        have NQ := Lib.hid ((Blk.new w28 30 #[.int .i64 T, .int .i64 (1 + mc), .int .i64 a, .int .i64 b, .int .i64 lo, .int .i64 hi9, .int .i64 t]).dg hd29 (show w28.heap.size ≠ g by have := Hgl.out; have := Sr.out; have := S27.out; have := S28.out; have := S29.out; omega))
        have Q := NQ; clear NQ
        have HO := Lib.hid ((HO.out.alloc _).dg hd29 (show g < w.heap.size by have := Hgl.out; have := Sr.out; have := S27.out; have := S28.out; have := S29.out; omega))
        have Hc29 := Lib.hid (hc29.mono (j := (k + 10 + 100 * m) + 18) (by omega))
        have Hd29 := Lib.hid ((Hd28.out.alloc _).trans hd29)
        clear hc29 hd29
        cases o1
        · have qQ0 := Q.out.cell 0
          have qQ1 := Q.out.cell 1
          have qQ2 := Q.out.cell 2
          have qQ3 := Q.out.cell 3
          have qQ4 := Q.out.cell 4
          have qQ5 := Q.out.cell 5
          have qQ6 := Q.out.cell 6
          simp at qQ0 qQ1 qQ2 qQ3 qQ4 qQ5 qQ6
          have qQl := Q.out.lt
          go_wp2_with fail
          refine (one_any g ((k + 10 + 100 * m) + 18) (40) _ Hc29.out (by have := Hk.out; omega)).mono ?_; rintro e w30 ⟨⟨o2, rfl⟩, hc30, hd30⟩
          clear qQ0 qQ1 qQ2 qQ3 qQ4 qQ5 qQ6 qQl
          have S30 := Lib.hid (show w29.heap.size + 0 ≤ w30.heap.size by have h9 := hd30.size; (try simp only [World.size_alloc, World.size_setCell] at h9); omega)
          have NQ := Lib.hid (Q.out.dg hd30 (show w28.heap.size ≠ g by have := Hgl.out; have := Sr.out; have := S27.out; have := S28.out; have := S29.out; have := S30.out; omega))
          have Q := NQ; clear NQ
          have HO := Lib.hid (HO.out.dg hd30 (show g < w.heap.size by have := Hgl.out; have := Sr.out; have := S27.out; have := S28.out; have := S29.out; have := S30.out; omega))
          have Hc30 := Lib.hid (hc30.mono (j := (k + 10 + 100 * m) + 20) (by omega))
          have Hd30 := Lib.hid (Hd29.out.trans hd30)
          clear hc30 hd30
          cases o2
          · obtain ⟨xs9, ho9, ha9⟩ := HO.out.ex
            have qQ0 := Q.out.cell 0
            have qQ1 := Q.out.cell 1
            have qQ2 := Q.out.cell 2
            have qQ3 := Q.out.cell 3
            have qQ4 := Q.out.cell 4
            have qQ5 := Q.out.cell 5
            have qQ6 := Q.out.cell 6
            simp at qQ0 qQ1 qQ2 qQ3 qQ4 qQ5 qQ6
            have qQl := Q.out.lt
            go_wp2_with (at_builtin; refine wpList_append_own _ rfl _ _ 24 rfl w.heap.size 30 i0 (.agg #[.int .i64 0, .int .i64 0, .int .i64 0, .int .i64 0, .int .i64 0, .int .i64 0, .int .i64 0]) 7 56 Tryd.underlying24 hi hz0 hz1 hz2 rfl (by decide) _ _ _ rfl (ho9.alloc _) ⟨w30.heap.size, 0, none⟩ 1 1 [.int .i64 T, .int .i64 (1 + mc), .int .i64 a, .int .i64 b, .int .i64 lo, .int .i64 hi9, .int .i64 t] rfl rfl ?c5_1 ?c5_2 ?c5_3 ?c5_4 ?c5_5 ?_)
            case c5_1 =>
              intro j u hj
              match j, hj with
              | 0, hj => simp at hj; subst hj; exact (Blk.new w30 _ _).cell 0
              | 1, hj => simp at hj; subst hj; exact (Blk.new w30 _ _).cell 1
              | 2, hj => simp at hj; subst hj; exact (Blk.new w30 _ _).cell 2
              | 3, hj => simp at hj; subst hj; exact (Blk.new w30 _ _).cell 3
              | 4, hj => simp at hj; subst hj; exact (Blk.new w30 _ _).cell 4
              | 5, hj => simp at hj; subst hj; exact (Blk.new w30 _ _).cell 5
              | 6, hj => simp at hj; subst hj; exact (Blk.new w30 _ _).cell 6
            case c5_2 => intro u hu; simp at hu; rcases hu with rfl | rfl | rfl | rfl | rfl | rfl | rfl <;> rfl
            case c5_3 => unfold maxLen; omega
            case c5_4 => omega
            case c5_5 => have := Hgl.out; have := Sr.out; have := S27.out; have := S28.out; have := S29.out; have := S30.out; simp; omega
            intro v31 w31 hown31 hgrow31 _
            clear qQ0 qQ1 qQ2 qQ3 qQ4 qQ5 qQ6 qQl
            have S31 := Lib.hid (show w30.heap.size + 1 ≤ w31.heap.size by have h9 := hgrow31.size; (try simp only [World.size_alloc, World.size_setCell] at h9); omega)
            have gr31 : ∀ r, Value.ownBlock _ = some r → w.heap.size ≤ r := fun r hr => (World.ownsRow.lt ho9 r hr).1
            have Hc31 := Lib.hid ((Hc30.out.alloc _).grown hgrow31 (fun r hr => by have := gr31 r hr; have := Hgl.out; have := Sr.out; have := S27.out; have := S28.out; have := S29.out; have := S30.out; omega))
            have Hd31 := Lib.hid ((Hd30.out.alloc _).grown hgrow31 (fun r hr => by have := gr31 r hr; have := Sr.out; have := S27.out; have := S28.out; have := S29.out; have := S30.out; omega))
            have R31 := Lib.hid (show IR w31 w.heap.size 30 7 v31 (m + 1) from ⟨_, hown31, ha9.app (by first | exact allI5 _ _ _ _ _ | exact allI7 _ _ _ _ _ _ _)⟩)
            clear hown31 hgrow31 gr31 ho9 ha9
            have GR31 := Lib.hid (IR.lt R31.out)
            go_wp2_with fail
            refine (pick_any g ((k + 10 + 100 * m) + 20) (20) _ Hc31.out (by have := Hk.out; omega)).mono ?_; rintro e w32 ⟨⟨p5, lp5, up5, rfl⟩, hc32, hd32⟩
            have S32 := Lib.hid (show w31.heap.size + 0 ≤ w32.heap.size by have h9 := hd32.size; (try simp only [World.size_alloc, World.size_setCell] at h9); omega)
            have R31 := Lib.hid (R31.out.dg hd32 (show g < w.heap.size by have := Hgl.out; have := Sr.out; have := S27.out; have := S28.out; have := S29.out; have := S30.out; have := S31.out; have := S32.out; omega))
            have Hc32 := Lib.hid (hc32.mono (j := (k + 10 + 100 * m) + 22) (by omega))
            have Hd32 := Lib.hid (Hd31.out.trans hd32)
            clear hc32 hd32
            go_wp2_with fail
            refine (among_lit g ((k + 10 + 100 * m) + 22) (w32.heap.size) [1, 1, 2, 50, p5] w32 (by simp) Hc32.out (by simp) (by simp) (by have := Hk.out; omega)).mono ?_; rintro e w33 ⟨⟨x5, hx5, rfl⟩, hc33, hd33⟩
            have S33 := Lib.hid (show w32.heap.size + 1 ≤ w33.heap.size by have h9 := hd33.size; (try simp only [World.size_alloc, World.size_setCell] at h9); omega)
            have R31 := Lib.hid ((R31.out.alloc _).dg hd33 (show g < w.heap.size by have := Hgl.out; have := Sr.out; have := S27.out; have := S28.out; have := S29.out; have := S30.out; have := S31.out; have := S32.out; have := S33.out; omega))
            have Hc33 := Lib.hid (hc33.mono (j := (k + 10 + 100 * m) + 24) (by omega))
            have Hd33 := Lib.hid ((Hd32.out.alloc _).trans hd33)
            clear hc33 hd33
            have hx5b : 0 ≤ x5 ∧ x5 ≤ 50 := by simp only [List.mem_cons, List.not_mem_nil, or_false] at hx5; omega
            clear hx5 lp5 up5
            obtain ⟨hx50, hx51⟩ := hx5b
            go_wp2
            go_roundw
            case rel => exact ⟨m + 1, T + x5, by omega, by go_num, by omega, by omega, R31, Lib.hid (Hc33.out.mono (by omega)), Hd33⟩
            case measure => obtain ⟨A8, c8, rfl, -, -⟩ := R31.out.form; simp [lenR]; omega
          · go_wp2_with fail
            refine (anyEntry_any g ((k + 10 + 100 * m) + 20) _ Hc30.out (by have := Hk.out; omega)).mono ?_; rintro e w34 ⟨⟨a7, b7, lo7, hi7, t7, rfl⟩, hc34, hd34⟩
            have S34 := Lib.hid (show w30.heap.size + 0 ≤ w34.heap.size by have h9 := hd34.size; (try simp only [World.size_alloc, World.size_setCell] at h9); omega)
            have NQ := Lib.hid (Q.out.dg hd34 (show w28.heap.size ≠ g by have := Hgl.out; have := Sr.out; have := S27.out; have := S28.out; have := S29.out; have := S30.out; have := S34.out; omega))
            have Q := NQ; clear NQ
            have HO := Lib.hid (HO.out.dg hd34 (show g < w.heap.size by have := Hgl.out; have := Sr.out; have := S27.out; have := S28.out; have := S29.out; have := S30.out; have := S34.out; omega))
            have Hc34 := Lib.hid (hc34.mono (j := (k + 10 + 100 * m) + 80) (by omega))
            have Hd34 := Lib.hid (Hd30.out.trans hd34)
            clear hc34 hd34
            obtain ⟨xs9, ho9, ha9⟩ := (((((HO.out.st (p := ⟨w28.heap.size, 2, none⟩) (by intro k9 hk9; have := GHO.out k9 hk9; show k9 ≠ w28.heap.size; have := Hgl.out; have := Sr.out; have := S27.out; have := S28.out; have := S29.out; have := S30.out; have := S34.out; omega) (.int .i64 a7)).st (p := ⟨w28.heap.size, 3, none⟩) (by intro k9 hk9; have := GHO.out k9 hk9; show k9 ≠ w28.heap.size; have := Hgl.out; have := Sr.out; have := S27.out; have := S28.out; have := S29.out; have := S30.out; have := S34.out; omega) (.int .i64 b7)).st (p := ⟨w28.heap.size, 4, none⟩) (by intro k9 hk9; have := GHO.out k9 hk9; show k9 ≠ w28.heap.size; have := Hgl.out; have := Sr.out; have := S27.out; have := S28.out; have := S29.out; have := S30.out; have := S34.out; omega) (.int .i64 lo7)).st (p := ⟨w28.heap.size, 5, none⟩) (by intro k9 hk9; have := GHO.out k9 hk9; show k9 ≠ w28.heap.size; have := Hgl.out; have := Sr.out; have := S27.out; have := S28.out; have := S29.out; have := S30.out; have := S34.out; omega) (.int .i64 hi7)).st (p := ⟨w28.heap.size, 6, none⟩) (by intro k9 hk9; have := GHO.out k9 hk9; show k9 ≠ w28.heap.size; have := Hgl.out; have := Sr.out; have := S27.out; have := S28.out; have := S29.out; have := S30.out; have := S34.out; omega) (.int .i64 t7)).ex
            have qQ0 := Q.out.cell 0
            have qQ1 := Q.out.cell 1
            have qQ2 := Q.out.cell 2
            have qQ3 := Q.out.cell 3
            have qQ4 := Q.out.cell 4
            have qQ5 := Q.out.cell 5
            have qQ6 := Q.out.cell 6
            simp at qQ0 qQ1 qQ2 qQ3 qQ4 qQ5 qQ6
            have qQl := Q.out.lt
            have qQf := Q.out.frozen
            go_wp2_with (at_builtin; refine wpList_append_own _ rfl _ _ 24 rfl w.heap.size 30 i0 (.agg #[.int .i64 0, .int .i64 0, .int .i64 0, .int .i64 0, .int .i64 0, .int .i64 0, .int .i64 0]) 7 56 Tryd.underlying24 hi hz0 hz1 hz2 rfl (by decide) _ _ _ rfl (ho9.alloc _) ⟨w34.heap.size, 0, none⟩ 1 1 [.int .i64 T, .int .i64 (1 + mc), .int .i64 a7, .int .i64 b7, .int .i64 lo7, .int .i64 hi7, .int .i64 t7] rfl rfl ?c6_1 ?c6_2 ?c6_3 ?c6_4 ?c6_5 ?_)
            case c6_1 =>
              intro j u hj
              match j, hj with
              | 0, hj => simp at hj; subst hj; exact (show Blk (World.alloc (World.setCell (World.setCell (World.setCell (World.setCell (World.setCell w34 ⟨w28.heap.size, 2, none⟩ (.int .i64 a7)) ⟨w28.heap.size, 3, none⟩ (.int .i64 b7)) ⟨w28.heap.size, 4, none⟩ (.int .i64 lo7)) ⟨w28.heap.size, 5, none⟩ (.int .i64 hi7)) ⟨w28.heap.size, 6, none⟩ (.int .i64 t7)) (Obj.cells #[.int .i64 T, .int .i64 (1 + mc), .int .i64 a7, .int .i64 b7, .int .i64 lo7, .int .i64 hi7, .int .i64 t7] 30)) (w34.heap.size) 30 #[.int .i64 T, .int .i64 (1 + mc), .int .i64 a7, .int .i64 b7, .int .i64 lo7, .int .i64 hi7, .int .i64 t7] by have h9 := (Blk.new (World.setCell (World.setCell (World.setCell (World.setCell (World.setCell w34 ⟨w28.heap.size, 2, none⟩ (.int .i64 a7)) ⟨w28.heap.size, 3, none⟩ (.int .i64 b7)) ⟨w28.heap.size, 4, none⟩ (.int .i64 lo7)) ⟨w28.heap.size, 5, none⟩ (.int .i64 hi7)) ⟨w28.heap.size, 6, none⟩ (.int .i64 t7)) 30 #[.int .i64 T, .int .i64 (1 + mc), .int .i64 a7, .int .i64 b7, .int .i64 lo7, .int .i64 hi7, .int .i64 t7]); (try simp only [World.size_alloc, World.size_setCell] at h9); exact h9).cell 0
              | 1, hj => simp at hj; subst hj; exact (show Blk (World.alloc (World.setCell (World.setCell (World.setCell (World.setCell (World.setCell w34 ⟨w28.heap.size, 2, none⟩ (.int .i64 a7)) ⟨w28.heap.size, 3, none⟩ (.int .i64 b7)) ⟨w28.heap.size, 4, none⟩ (.int .i64 lo7)) ⟨w28.heap.size, 5, none⟩ (.int .i64 hi7)) ⟨w28.heap.size, 6, none⟩ (.int .i64 t7)) (Obj.cells #[.int .i64 T, .int .i64 (1 + mc), .int .i64 a7, .int .i64 b7, .int .i64 lo7, .int .i64 hi7, .int .i64 t7] 30)) (w34.heap.size) 30 #[.int .i64 T, .int .i64 (1 + mc), .int .i64 a7, .int .i64 b7, .int .i64 lo7, .int .i64 hi7, .int .i64 t7] by have h9 := (Blk.new (World.setCell (World.setCell (World.setCell (World.setCell (World.setCell w34 ⟨w28.heap.size, 2, none⟩ (.int .i64 a7)) ⟨w28.heap.size, 3, none⟩ (.int .i64 b7)) ⟨w28.heap.size, 4, none⟩ (.int .i64 lo7)) ⟨w28.heap.size, 5, none⟩ (.int .i64 hi7)) ⟨w28.heap.size, 6, none⟩ (.int .i64 t7)) 30 #[.int .i64 T, .int .i64 (1 + mc), .int .i64 a7, .int .i64 b7, .int .i64 lo7, .int .i64 hi7, .int .i64 t7]); (try simp only [World.size_alloc, World.size_setCell] at h9); exact h9).cell 1
              | 2, hj => simp at hj; subst hj; exact (show Blk (World.alloc (World.setCell (World.setCell (World.setCell (World.setCell (World.setCell w34 ⟨w28.heap.size, 2, none⟩ (.int .i64 a7)) ⟨w28.heap.size, 3, none⟩ (.int .i64 b7)) ⟨w28.heap.size, 4, none⟩ (.int .i64 lo7)) ⟨w28.heap.size, 5, none⟩ (.int .i64 hi7)) ⟨w28.heap.size, 6, none⟩ (.int .i64 t7)) (Obj.cells #[.int .i64 T, .int .i64 (1 + mc), .int .i64 a7, .int .i64 b7, .int .i64 lo7, .int .i64 hi7, .int .i64 t7] 30)) (w34.heap.size) 30 #[.int .i64 T, .int .i64 (1 + mc), .int .i64 a7, .int .i64 b7, .int .i64 lo7, .int .i64 hi7, .int .i64 t7] by have h9 := (Blk.new (World.setCell (World.setCell (World.setCell (World.setCell (World.setCell w34 ⟨w28.heap.size, 2, none⟩ (.int .i64 a7)) ⟨w28.heap.size, 3, none⟩ (.int .i64 b7)) ⟨w28.heap.size, 4, none⟩ (.int .i64 lo7)) ⟨w28.heap.size, 5, none⟩ (.int .i64 hi7)) ⟨w28.heap.size, 6, none⟩ (.int .i64 t7)) 30 #[.int .i64 T, .int .i64 (1 + mc), .int .i64 a7, .int .i64 b7, .int .i64 lo7, .int .i64 hi7, .int .i64 t7]); (try simp only [World.size_alloc, World.size_setCell] at h9); exact h9).cell 2
              | 3, hj => simp at hj; subst hj; exact (show Blk (World.alloc (World.setCell (World.setCell (World.setCell (World.setCell (World.setCell w34 ⟨w28.heap.size, 2, none⟩ (.int .i64 a7)) ⟨w28.heap.size, 3, none⟩ (.int .i64 b7)) ⟨w28.heap.size, 4, none⟩ (.int .i64 lo7)) ⟨w28.heap.size, 5, none⟩ (.int .i64 hi7)) ⟨w28.heap.size, 6, none⟩ (.int .i64 t7)) (Obj.cells #[.int .i64 T, .int .i64 (1 + mc), .int .i64 a7, .int .i64 b7, .int .i64 lo7, .int .i64 hi7, .int .i64 t7] 30)) (w34.heap.size) 30 #[.int .i64 T, .int .i64 (1 + mc), .int .i64 a7, .int .i64 b7, .int .i64 lo7, .int .i64 hi7, .int .i64 t7] by have h9 := (Blk.new (World.setCell (World.setCell (World.setCell (World.setCell (World.setCell w34 ⟨w28.heap.size, 2, none⟩ (.int .i64 a7)) ⟨w28.heap.size, 3, none⟩ (.int .i64 b7)) ⟨w28.heap.size, 4, none⟩ (.int .i64 lo7)) ⟨w28.heap.size, 5, none⟩ (.int .i64 hi7)) ⟨w28.heap.size, 6, none⟩ (.int .i64 t7)) 30 #[.int .i64 T, .int .i64 (1 + mc), .int .i64 a7, .int .i64 b7, .int .i64 lo7, .int .i64 hi7, .int .i64 t7]); (try simp only [World.size_alloc, World.size_setCell] at h9); exact h9).cell 3
              | 4, hj => simp at hj; subst hj; exact (show Blk (World.alloc (World.setCell (World.setCell (World.setCell (World.setCell (World.setCell w34 ⟨w28.heap.size, 2, none⟩ (.int .i64 a7)) ⟨w28.heap.size, 3, none⟩ (.int .i64 b7)) ⟨w28.heap.size, 4, none⟩ (.int .i64 lo7)) ⟨w28.heap.size, 5, none⟩ (.int .i64 hi7)) ⟨w28.heap.size, 6, none⟩ (.int .i64 t7)) (Obj.cells #[.int .i64 T, .int .i64 (1 + mc), .int .i64 a7, .int .i64 b7, .int .i64 lo7, .int .i64 hi7, .int .i64 t7] 30)) (w34.heap.size) 30 #[.int .i64 T, .int .i64 (1 + mc), .int .i64 a7, .int .i64 b7, .int .i64 lo7, .int .i64 hi7, .int .i64 t7] by have h9 := (Blk.new (World.setCell (World.setCell (World.setCell (World.setCell (World.setCell w34 ⟨w28.heap.size, 2, none⟩ (.int .i64 a7)) ⟨w28.heap.size, 3, none⟩ (.int .i64 b7)) ⟨w28.heap.size, 4, none⟩ (.int .i64 lo7)) ⟨w28.heap.size, 5, none⟩ (.int .i64 hi7)) ⟨w28.heap.size, 6, none⟩ (.int .i64 t7)) 30 #[.int .i64 T, .int .i64 (1 + mc), .int .i64 a7, .int .i64 b7, .int .i64 lo7, .int .i64 hi7, .int .i64 t7]); (try simp only [World.size_alloc, World.size_setCell] at h9); exact h9).cell 4
              | 5, hj => simp at hj; subst hj; exact (show Blk (World.alloc (World.setCell (World.setCell (World.setCell (World.setCell (World.setCell w34 ⟨w28.heap.size, 2, none⟩ (.int .i64 a7)) ⟨w28.heap.size, 3, none⟩ (.int .i64 b7)) ⟨w28.heap.size, 4, none⟩ (.int .i64 lo7)) ⟨w28.heap.size, 5, none⟩ (.int .i64 hi7)) ⟨w28.heap.size, 6, none⟩ (.int .i64 t7)) (Obj.cells #[.int .i64 T, .int .i64 (1 + mc), .int .i64 a7, .int .i64 b7, .int .i64 lo7, .int .i64 hi7, .int .i64 t7] 30)) (w34.heap.size) 30 #[.int .i64 T, .int .i64 (1 + mc), .int .i64 a7, .int .i64 b7, .int .i64 lo7, .int .i64 hi7, .int .i64 t7] by have h9 := (Blk.new (World.setCell (World.setCell (World.setCell (World.setCell (World.setCell w34 ⟨w28.heap.size, 2, none⟩ (.int .i64 a7)) ⟨w28.heap.size, 3, none⟩ (.int .i64 b7)) ⟨w28.heap.size, 4, none⟩ (.int .i64 lo7)) ⟨w28.heap.size, 5, none⟩ (.int .i64 hi7)) ⟨w28.heap.size, 6, none⟩ (.int .i64 t7)) 30 #[.int .i64 T, .int .i64 (1 + mc), .int .i64 a7, .int .i64 b7, .int .i64 lo7, .int .i64 hi7, .int .i64 t7]); (try simp only [World.size_alloc, World.size_setCell] at h9); exact h9).cell 5
              | 6, hj => simp at hj; subst hj; exact (show Blk (World.alloc (World.setCell (World.setCell (World.setCell (World.setCell (World.setCell w34 ⟨w28.heap.size, 2, none⟩ (.int .i64 a7)) ⟨w28.heap.size, 3, none⟩ (.int .i64 b7)) ⟨w28.heap.size, 4, none⟩ (.int .i64 lo7)) ⟨w28.heap.size, 5, none⟩ (.int .i64 hi7)) ⟨w28.heap.size, 6, none⟩ (.int .i64 t7)) (Obj.cells #[.int .i64 T, .int .i64 (1 + mc), .int .i64 a7, .int .i64 b7, .int .i64 lo7, .int .i64 hi7, .int .i64 t7] 30)) (w34.heap.size) 30 #[.int .i64 T, .int .i64 (1 + mc), .int .i64 a7, .int .i64 b7, .int .i64 lo7, .int .i64 hi7, .int .i64 t7] by have h9 := (Blk.new (World.setCell (World.setCell (World.setCell (World.setCell (World.setCell w34 ⟨w28.heap.size, 2, none⟩ (.int .i64 a7)) ⟨w28.heap.size, 3, none⟩ (.int .i64 b7)) ⟨w28.heap.size, 4, none⟩ (.int .i64 lo7)) ⟨w28.heap.size, 5, none⟩ (.int .i64 hi7)) ⟨w28.heap.size, 6, none⟩ (.int .i64 t7)) 30 #[.int .i64 T, .int .i64 (1 + mc), .int .i64 a7, .int .i64 b7, .int .i64 lo7, .int .i64 hi7, .int .i64 t7]); (try simp only [World.size_alloc, World.size_setCell] at h9); exact h9).cell 6
            case c6_2 => intro u hu; simp at hu; rcases hu with rfl | rfl | rfl | rfl | rfl | rfl | rfl <;> rfl
            case c6_3 => unfold maxLen; omega
            case c6_4 => omega
            case c6_5 => have := Hgl.out; have := Sr.out; have := S27.out; have := S28.out; have := S29.out; have := S30.out; have := S34.out; simp; omega
            intro v35 w35 hown35 hgrow35 _
            clear qQ0 qQ1 qQ2 qQ3 qQ4 qQ5 qQ6 qQl qQf
            have S35 := Lib.hid (show w34.heap.size + 1 ≤ w35.heap.size by have h9 := hgrow35.size; (try simp only [World.size_alloc, World.size_setCell] at h9); omega)
            have gr35 : ∀ r, Value.ownBlock _ = some r → w.heap.size ≤ r := fun r hr => (World.ownsRow.lt ho9 r hr).1
            have Hc35 := Lib.hid (((((((Hc34.out.st (p := ⟨w28.heap.size, 2, none⟩) (show g < w28.heap.size by have := Hgl.out; have := Sr.out; have := S27.out; have := S28.out; have := S29.out; have := S30.out; have := S34.out; omega) (.int .i64 a7)).st (p := ⟨w28.heap.size, 3, none⟩) (show g < w28.heap.size by have := Hgl.out; have := Sr.out; have := S27.out; have := S28.out; have := S29.out; have := S30.out; have := S34.out; omega) (.int .i64 b7)).st (p := ⟨w28.heap.size, 4, none⟩) (show g < w28.heap.size by have := Hgl.out; have := Sr.out; have := S27.out; have := S28.out; have := S29.out; have := S30.out; have := S34.out; omega) (.int .i64 lo7)).st (p := ⟨w28.heap.size, 5, none⟩) (show g < w28.heap.size by have := Hgl.out; have := Sr.out; have := S27.out; have := S28.out; have := S29.out; have := S30.out; have := S34.out; omega) (.int .i64 hi7)).st (p := ⟨w28.heap.size, 6, none⟩) (show g < w28.heap.size by have := Hgl.out; have := Sr.out; have := S27.out; have := S28.out; have := S29.out; have := S30.out; have := S34.out; omega) (.int .i64 t7)).alloc _).grown hgrow35 (fun r hr => by have := gr35 r hr; have := Hgl.out; have := Sr.out; have := S27.out; have := S28.out; have := S29.out; have := S30.out; have := S34.out; omega))
            have Hd35 := Lib.hid (((((((Hd34.out.st (p := ⟨w28.heap.size, 2, none⟩) (show w.heap.size ≤ w28.heap.size by have := Hgl.out; have := Sr.out; have := S27.out; have := S28.out; have := S29.out; have := S30.out; have := S34.out; omega) (.int .i64 a7)).st (p := ⟨w28.heap.size, 3, none⟩) (show w.heap.size ≤ w28.heap.size by have := Hgl.out; have := Sr.out; have := S27.out; have := S28.out; have := S29.out; have := S30.out; have := S34.out; omega) (.int .i64 b7)).st (p := ⟨w28.heap.size, 4, none⟩) (show w.heap.size ≤ w28.heap.size by have := Hgl.out; have := Sr.out; have := S27.out; have := S28.out; have := S29.out; have := S30.out; have := S34.out; omega) (.int .i64 lo7)).st (p := ⟨w28.heap.size, 5, none⟩) (show w.heap.size ≤ w28.heap.size by have := Hgl.out; have := Sr.out; have := S27.out; have := S28.out; have := S29.out; have := S30.out; have := S34.out; omega) (.int .i64 hi7)).st (p := ⟨w28.heap.size, 6, none⟩) (show w.heap.size ≤ w28.heap.size by have := Hgl.out; have := Sr.out; have := S27.out; have := S28.out; have := S29.out; have := S30.out; have := S34.out; omega) (.int .i64 t7)).alloc _).grown hgrow35 (fun r hr => by have := gr35 r hr; have := Sr.out; have := S27.out; have := S28.out; have := S29.out; have := S30.out; have := S34.out; omega))
            have R35 := Lib.hid (show IR w35 w.heap.size 30 7 v35 (m + 1) from ⟨_, hown35, ha9.app (by first | exact allI5 _ _ _ _ _ | exact allI7 _ _ _ _ _ _ _)⟩)
            clear hown35 hgrow35 gr35 ho9 ha9
            have GR35 := Lib.hid (IR.lt R35.out)
            go_wp2_with fail
            refine (pick_any g ((k + 10 + 100 * m) + 80) (20) _ Hc35.out (by have := Hk.out; omega)).mono ?_; rintro e w36 ⟨⟨p5, lp5, up5, rfl⟩, hc36, hd36⟩
            have S36 := Lib.hid (show w35.heap.size + 0 ≤ w36.heap.size by have h9 := hd36.size; (try simp only [World.size_alloc, World.size_setCell] at h9); omega)
            have R35 := Lib.hid (R35.out.dg hd36 (show g < w.heap.size by have := Hgl.out; have := Sr.out; have := S27.out; have := S28.out; have := S29.out; have := S30.out; have := S34.out; have := S35.out; have := S36.out; omega))
            have Hc36 := Lib.hid (hc36.mono (j := (k + 10 + 100 * m) + 82) (by omega))
            have Hd36 := Lib.hid (Hd35.out.trans hd36)
            clear hc36 hd36
            go_wp2_with fail
            refine (among_lit g ((k + 10 + 100 * m) + 82) (w36.heap.size) [1, 1, 2, 50, p5] w36 (by simp) Hc36.out (by simp) (by simp) (by have := Hk.out; omega)).mono ?_; rintro e w37 ⟨⟨x5, hx5, rfl⟩, hc37, hd37⟩
            have S37 := Lib.hid (show w36.heap.size + 1 ≤ w37.heap.size by have h9 := hd37.size; (try simp only [World.size_alloc, World.size_setCell] at h9); omega)
            have R35 := Lib.hid ((R35.out.alloc _).dg hd37 (show g < w.heap.size by have := Hgl.out; have := Sr.out; have := S27.out; have := S28.out; have := S29.out; have := S30.out; have := S34.out; have := S35.out; have := S36.out; have := S37.out; omega))
            have Hc37 := Lib.hid (hc37.mono (j := (k + 10 + 100 * m) + 84) (by omega))
            have Hd37 := Lib.hid ((Hd36.out.alloc _).trans hd37)
            clear hc37 hd37
            have hx5b : 0 ≤ x5 ∧ x5 ≤ 50 := by simp only [List.mem_cons, List.not_mem_nil, or_false] at hx5; omega
            clear hx5 lp5 up5
            obtain ⟨hx50, hx51⟩ := hx5b
            go_wp2
            go_roundw
            case rel => exact ⟨m + 1, T + x5, by omega, by go_num, by omega, by omega, R35, Lib.hid (Hc37.out.mono (by omega)), Hd37⟩
            case measure => obtain ⟨A8, c8, rfl, -, -⟩ := R35.out.form; simp [lenR]; omega
        · go_wp2_with fail
          refine (among_lit g ((k + 10 + 100 * m) + 18) (w29.heap.size) [0, 9, 10] w29 (by simp) Hc29.out (by simp) (by simp) (by have := Hk.out; omega)).mono ?_; rintro e w38 ⟨⟨x1, hx1, rfl⟩, hc38, hd38⟩
          have S38 := Lib.hid (show w29.heap.size + 1 ≤ w38.heap.size by have h9 := hd38.size; (try simp only [World.size_alloc, World.size_setCell] at h9); omega)
          have NQ := Lib.hid ((Q.out.alloc _).dg hd38 (show w28.heap.size ≠ g by have := Hgl.out; have := Sr.out; have := S27.out; have := S28.out; have := S29.out; have := S38.out; omega))
          have Q := NQ; clear NQ
          have HO := Lib.hid ((HO.out.alloc _).dg hd38 (show g < w.heap.size by have := Hgl.out; have := Sr.out; have := S27.out; have := S28.out; have := S29.out; have := S38.out; omega))
          have Hc38 := Lib.hid (hc38.mono (j := (k + 10 + 100 * m) + 20) (by omega))
          have Hd38 := Lib.hid ((Hd29.out.alloc _).trans hd38)
          clear hc38 hd38
          clear hx1
          have qQ0 := Q.out.cell 0
          have qQ1 := Q.out.cell 1
          have qQ2 := Q.out.cell 2
          have qQ3 := Q.out.cell 3
          have qQ4 := Q.out.cell 4
          have qQ5 := Q.out.cell 5
          have qQ6 := Q.out.cell 6
          simp at qQ0 qQ1 qQ2 qQ3 qQ4 qQ5 qQ6
          have qQl := Q.out.lt
          have qQf := Q.out.frozen
          go_wp2_with fail
          refine (one_any g ((k + 10 + 100 * m) + 20) (40) _ (Hc38.out.st (p := ⟨w28.heap.size, 1, none⟩) (show g < w28.heap.size by have := Hgl.out; have := Sr.out; have := S27.out; have := S28.out; have := S29.out; have := S38.out; omega) (.int .i64 x1)) (by have := Hk.out; omega)).mono ?_; rintro e w39 ⟨⟨o2, rfl⟩, hc39, hd39⟩
          clear qQ0 qQ1 qQ2 qQ3 qQ4 qQ5 qQ6 qQl qQf
          have S39 := Lib.hid (show w38.heap.size + 0 ≤ w39.heap.size by have h9 := hd39.size; (try simp only [World.size_alloc, World.size_setCell] at h9); omega)
          have NQ := Lib.hid ((show Blk (World.setCell w38 ⟨w28.heap.size, 1, none⟩ (.int .i64 x1)) (w28.heap.size) 30 #[.int .i64 T, .int .i64 x1, .int .i64 a, .int .i64 b, .int .i64 lo, .int .i64 hi9, .int .i64 t] by have h9 := (Q.out.set 1 (.int .i64 x1)); simpa using h9).dg hd39 (show w28.heap.size ≠ g by have := Hgl.out; have := Sr.out; have := S27.out; have := S28.out; have := S29.out; have := S38.out; have := S39.out; omega))
          have Q := NQ; clear NQ
          have HO := Lib.hid ((HO.out.st (p := ⟨w28.heap.size, 1, none⟩) (by intro k9 hk9; have := GHO.out k9 hk9; show k9 ≠ w28.heap.size; have := Hgl.out; have := Sr.out; have := S27.out; have := S28.out; have := S29.out; have := S38.out; have := S39.out; omega) (.int .i64 x1)).dg hd39 (show g < w.heap.size by have := Hgl.out; have := Sr.out; have := S27.out; have := S28.out; have := S29.out; have := S38.out; have := S39.out; omega))
          have Hc39 := Lib.hid (hc39.mono (j := (k + 10 + 100 * m) + 22) (by omega))
          have Hd39 := Lib.hid ((Hd38.out.st (p := ⟨w28.heap.size, 1, none⟩) (show w.heap.size ≤ w28.heap.size by have := Hgl.out; have := Sr.out; have := S27.out; have := S28.out; have := S29.out; have := S38.out; have := S39.out; omega) (.int .i64 x1)).trans hd39)
          clear hc39 hd39
          cases o2
          · obtain ⟨xs9, ho9, ha9⟩ := HO.out.ex
            have qQ0 := Q.out.cell 0
            have qQ1 := Q.out.cell 1
            have qQ2 := Q.out.cell 2
            have qQ3 := Q.out.cell 3
            have qQ4 := Q.out.cell 4
            have qQ5 := Q.out.cell 5
            have qQ6 := Q.out.cell 6
            simp at qQ0 qQ1 qQ2 qQ3 qQ4 qQ5 qQ6
            have qQl := Q.out.lt
            go_wp2_with (at_builtin; refine wpList_append_own _ rfl _ _ 24 rfl w.heap.size 30 i0 (.agg #[.int .i64 0, .int .i64 0, .int .i64 0, .int .i64 0, .int .i64 0, .int .i64 0, .int .i64 0]) 7 56 Tryd.underlying24 hi hz0 hz1 hz2 rfl (by decide) _ _ _ rfl (ho9.alloc _) ⟨w39.heap.size, 0, none⟩ 1 1 [.int .i64 T, .int .i64 x1, .int .i64 a, .int .i64 b, .int .i64 lo, .int .i64 hi9, .int .i64 t] rfl rfl ?c7_1 ?c7_2 ?c7_3 ?c7_4 ?c7_5 ?_)
            case c7_1 =>
              intro j u hj
              match j, hj with
              | 0, hj => simp at hj; subst hj; exact (Blk.new w39 _ _).cell 0
              | 1, hj => simp at hj; subst hj; exact (Blk.new w39 _ _).cell 1
              | 2, hj => simp at hj; subst hj; exact (Blk.new w39 _ _).cell 2
              | 3, hj => simp at hj; subst hj; exact (Blk.new w39 _ _).cell 3
              | 4, hj => simp at hj; subst hj; exact (Blk.new w39 _ _).cell 4
              | 5, hj => simp at hj; subst hj; exact (Blk.new w39 _ _).cell 5
              | 6, hj => simp at hj; subst hj; exact (Blk.new w39 _ _).cell 6
            case c7_2 => intro u hu; simp at hu; rcases hu with rfl | rfl | rfl | rfl | rfl | rfl | rfl <;> rfl
            case c7_3 => unfold maxLen; omega
            case c7_4 => omega
            case c7_5 => have := Hgl.out; have := Sr.out; have := S27.out; have := S28.out; have := S29.out; have := S38.out; have := S39.out; simp; omega
            intro v40 w40 hown40 hgrow40 _
            clear qQ0 qQ1 qQ2 qQ3 qQ4 qQ5 qQ6 qQl
            have S40 := Lib.hid (show w39.heap.size + 1 ≤ w40.heap.size by have h9 := hgrow40.size; (try simp only [World.size_alloc, World.size_setCell] at h9); omega)
            have gr40 : ∀ r, Value.ownBlock _ = some r → w.heap.size ≤ r := fun r hr => (World.ownsRow.lt ho9 r hr).1
            have Hc40 := Lib.hid ((Hc39.out.alloc _).grown hgrow40 (fun r hr => by have := gr40 r hr; have := Hgl.out; have := Sr.out; have := S27.out; have := S28.out; have := S29.out; have := S38.out; have := S39.out; omega))
            have Hd40 := Lib.hid ((Hd39.out.alloc _).grown hgrow40 (fun r hr => by have := gr40 r hr; have := Sr.out; have := S27.out; have := S28.out; have := S29.out; have := S38.out; have := S39.out; omega))
            have R40 := Lib.hid (show IR w40 w.heap.size 30 7 v40 (m + 1) from ⟨_, hown40, ha9.app (by first | exact allI5 _ _ _ _ _ | exact allI7 _ _ _ _ _ _ _)⟩)
            clear hown40 hgrow40 gr40 ho9 ha9
            have GR40 := Lib.hid (IR.lt R40.out)
            go_wp2_with fail
            refine (pick_any g ((k + 10 + 100 * m) + 22) (20) _ Hc40.out (by have := Hk.out; omega)).mono ?_; rintro e w41 ⟨⟨p5, lp5, up5, rfl⟩, hc41, hd41⟩
            have S41 := Lib.hid (show w40.heap.size + 0 ≤ w41.heap.size by have h9 := hd41.size; (try simp only [World.size_alloc, World.size_setCell] at h9); omega)
            have R40 := Lib.hid (R40.out.dg hd41 (show g < w.heap.size by have := Hgl.out; have := Sr.out; have := S27.out; have := S28.out; have := S29.out; have := S38.out; have := S39.out; have := S40.out; have := S41.out; omega))
            have Hc41 := Lib.hid (hc41.mono (j := (k + 10 + 100 * m) + 24) (by omega))
            have Hd41 := Lib.hid (Hd40.out.trans hd41)
            clear hc41 hd41
            go_wp2_with fail
            refine (among_lit g ((k + 10 + 100 * m) + 24) (w41.heap.size) [1, 1, 2, 50, p5] w41 (by simp) Hc41.out (by simp) (by simp) (by have := Hk.out; omega)).mono ?_; rintro e w42 ⟨⟨x5, hx5, rfl⟩, hc42, hd42⟩
            have S42 := Lib.hid (show w41.heap.size + 1 ≤ w42.heap.size by have h9 := hd42.size; (try simp only [World.size_alloc, World.size_setCell] at h9); omega)
            have R40 := Lib.hid ((R40.out.alloc _).dg hd42 (show g < w.heap.size by have := Hgl.out; have := Sr.out; have := S27.out; have := S28.out; have := S29.out; have := S38.out; have := S39.out; have := S40.out; have := S41.out; have := S42.out; omega))
            have Hc42 := Lib.hid (hc42.mono (j := (k + 10 + 100 * m) + 26) (by omega))
            have Hd42 := Lib.hid ((Hd41.out.alloc _).trans hd42)
            clear hc42 hd42
            have hx5b : 0 ≤ x5 ∧ x5 ≤ 50 := by simp only [List.mem_cons, List.not_mem_nil, or_false] at hx5; omega
            clear hx5 lp5 up5
            obtain ⟨hx50, hx51⟩ := hx5b
            go_wp2
            go_roundw
            case rel => exact ⟨m + 1, T + x5, by omega, by go_num, by omega, by omega, R40, Lib.hid (Hc42.out.mono (by omega)), Hd42⟩
            case measure => obtain ⟨A8, c8, rfl, -, -⟩ := R40.out.form; simp [lenR]; omega
          · go_wp2_with fail
            refine (anyEntry_any g ((k + 10 + 100 * m) + 22) _ Hc39.out (by have := Hk.out; omega)).mono ?_; rintro e w43 ⟨⟨a7, b7, lo7, hi7, t7, rfl⟩, hc43, hd43⟩
            have S43 := Lib.hid (show w39.heap.size + 0 ≤ w43.heap.size by have h9 := hd43.size; (try simp only [World.size_alloc, World.size_setCell] at h9); omega)
            have NQ := Lib.hid (Q.out.dg hd43 (show w28.heap.size ≠ g by have := Hgl.out; have := Sr.out; have := S27.out; have := S28.out; have := S29.out; have := S38.out; have := S39.out; have := S43.out; omega))
            have Q := NQ; clear NQ
            have HO := Lib.hid (HO.out.dg hd43 (show g < w.heap.size by have := Hgl.out; have := Sr.out; have := S27.out; have := S28.out; have := S29.out; have := S38.out; have := S39.out; have := S43.out; omega))
            have Hc43 := Lib.hid (hc43.mono (j := (k + 10 + 100 * m) + 82) (by omega))
            have Hd43 := Lib.hid (Hd39.out.trans hd43)
            clear hc43 hd43
            obtain ⟨xs9, ho9, ha9⟩ := (((((HO.out.st (p := ⟨w28.heap.size, 2, none⟩) (by intro k9 hk9; have := GHO.out k9 hk9; show k9 ≠ w28.heap.size; have := Hgl.out; have := Sr.out; have := S27.out; have := S28.out; have := S29.out; have := S38.out; have := S39.out; have := S43.out; omega) (.int .i64 a7)).st (p := ⟨w28.heap.size, 3, none⟩) (by intro k9 hk9; have := GHO.out k9 hk9; show k9 ≠ w28.heap.size; have := Hgl.out; have := Sr.out; have := S27.out; have := S28.out; have := S29.out; have := S38.out; have := S39.out; have := S43.out; omega) (.int .i64 b7)).st (p := ⟨w28.heap.size, 4, none⟩) (by intro k9 hk9; have := GHO.out k9 hk9; show k9 ≠ w28.heap.size; have := Hgl.out; have := Sr.out; have := S27.out; have := S28.out; have := S29.out; have := S38.out; have := S39.out; have := S43.out; omega) (.int .i64 lo7)).st (p := ⟨w28.heap.size, 5, none⟩) (by intro k9 hk9; have := GHO.out k9 hk9; show k9 ≠ w28.heap.size; have := Hgl.out; have := Sr.out; have := S27.out; have := S28.out; have := S29.out; have := S38.out; have := S39.out; have := S43.out; omega) (.int .i64 hi7)).st (p := ⟨w28.heap.size, 6, none⟩) (by intro k9 hk9; have := GHO.out k9 hk9; show k9 ≠ w28.heap.size; have := Hgl.out; have := Sr.out; have := S27.out; have := S28.out; have := S29.out; have := S38.out; have := S39.out; have := S43.out; omega) (.int .i64 t7)).ex
            have qQ0 := Q.out.cell 0
            have qQ1 := Q.out.cell 1
            have qQ2 := Q.out.cell 2
            have qQ3 := Q.out.cell 3
            have qQ4 := Q.out.cell 4
            have qQ5 := Q.out.cell 5
            have qQ6 := Q.out.cell 6
            simp at qQ0 qQ1 qQ2 qQ3 qQ4 qQ5 qQ6
            have qQl := Q.out.lt
            have qQf := Q.out.frozen
            go_wp2_with (at_builtin; refine wpList_append_own _ rfl _ _ 24 rfl w.heap.size 30 i0 (.agg #[.int .i64 0, .int .i64 0, .int .i64 0, .int .i64 0, .int .i64 0, .int .i64 0, .int .i64 0]) 7 56 Tryd.underlying24 hi hz0 hz1 hz2 rfl (by decide) _ _ _ rfl (ho9.alloc _) ⟨w43.heap.size, 0, none⟩ 1 1 [.int .i64 T, .int .i64 x1, .int .i64 a7, .int .i64 b7, .int .i64 lo7, .int .i64 hi7, .int .i64 t7] rfl rfl ?c8_1 ?c8_2 ?c8_3 ?c8_4 ?c8_5 ?_)
            case c8_1 =>
              intro j u hj
              match j, hj with
              | 0, hj => simp at hj; subst hj; exact (show Blk (World.alloc (World.setCell (World.setCell (World.setCell (World.setCell (World.setCell w43 ⟨w28.heap.size, 2, none⟩ (.int .i64 a7)) ⟨w28.heap.size, 3, none⟩ (.int .i64 b7)) ⟨w28.heap.size, 4, none⟩ (.int .i64 lo7)) ⟨w28.heap.size, 5, none⟩ (.int .i64 hi7)) ⟨w28.heap.size, 6, none⟩ (.int .i64 t7)) (Obj.cells #[.int .i64 T, .int .i64 x1, .int .i64 a7, .int .i64 b7, .int .i64 lo7, .int .i64 hi7, .int .i64 t7] 30)) (w43.heap.size) 30 #[.int .i64 T, .int .i64 x1, .int .i64 a7, .int .i64 b7, .int .i64 lo7, .int .i64 hi7, .int .i64 t7] by have h9 := (Blk.new (World.setCell (World.setCell (World.setCell (World.setCell (World.setCell w43 ⟨w28.heap.size, 2, none⟩ (.int .i64 a7)) ⟨w28.heap.size, 3, none⟩ (.int .i64 b7)) ⟨w28.heap.size, 4, none⟩ (.int .i64 lo7)) ⟨w28.heap.size, 5, none⟩ (.int .i64 hi7)) ⟨w28.heap.size, 6, none⟩ (.int .i64 t7)) 30 #[.int .i64 T, .int .i64 x1, .int .i64 a7, .int .i64 b7, .int .i64 lo7, .int .i64 hi7, .int .i64 t7]); (try simp only [World.size_alloc, World.size_setCell] at h9); exact h9).cell 0
              | 1, hj => simp at hj; subst hj; exact (show Blk (World.alloc (World.setCell (World.setCell (World.setCell (World.setCell (World.setCell w43 ⟨w28.heap.size, 2, none⟩ (.int .i64 a7)) ⟨w28.heap.size, 3, none⟩ (.int .i64 b7)) ⟨w28.heap.size, 4, none⟩ (.int .i64 lo7)) ⟨w28.heap.size, 5, none⟩ (.int .i64 hi7)) ⟨w28.heap.size, 6, none⟩ (.int .i64 t7)) (Obj.cells #[.int .i64 T, .int .i64 x1, .int .i64 a7, .int .i64 b7, .int .i64 lo7, .int .i64 hi7, .int .i64 t7] 30)) (w43.heap.size) 30 #[.int .i64 T, .int .i64 x1, .int .i64 a7, .int .i64 b7, .int .i64 lo7, .int .i64 hi7, .int .i64 t7] by have h9 := (Blk.new (World.setCell (World.setCell (World.setCell (World.setCell (World.setCell w43 ⟨w28.heap.size, 2, none⟩ (.int .i64 a7)) ⟨w28.heap.size, 3, none⟩ (.int .i64 b7)) ⟨w28.heap.size, 4, none⟩ (.int .i64 lo7)) ⟨w28.heap.size, 5, none⟩ (.int .i64 hi7)) ⟨w28.heap.size, 6, none⟩ (.int .i64 t7)) 30 #[.int .i64 T, .int .i64 x1, .int .i64 a7, .int .i64 b7, .int .i64 lo7, .int .i64 hi7, .int .i64 t7]); (try simp only [World.size_alloc, World.size_setCell] at h9); exact h9).cell 1
              | 2, hj => simp at hj; subst hj; exact (show Blk (World.alloc (World.setCell (World.setCell (World.setCell (World.setCell (World.setCell w43 ⟨w28.heap.size, 2, none⟩ (.int .i64 a7)) ⟨w28.heap.size, 3, none⟩ (.int .i64 b7)) ⟨w28.heap.size, 4, none⟩ (.int .i64 lo7)) ⟨w28.heap.size, 5, none⟩ (.int .i64 hi7)) ⟨w28.heap.size, 6, none⟩ (.int .i64 t7)) (Obj.cells #[.int .i64 T, .int .i64 x1, .int .i64 a7, .int .i64 b7, .int .i64 lo7, .int .i64 hi7, .int .i64 t7] 30)) (w43.heap.size) 30 #[.int .i64 T, .int .i64 x1, .int .i64 a7, .int .i64 b7, .int .i64 lo7, .int .i64 hi7, .int .i64 t7] by have h9 := (Blk.new (World.setCell (World.setCell (World.setCell (World.setCell (World.setCell w43 ⟨w28.heap.size, 2, none⟩ (.int .i64 a7)) ⟨w28.heap.size, 3, none⟩ (.int .i64 b7)) ⟨w28.heap.size, 4, none⟩ (.int .i64 lo7)) ⟨w28.heap.size, 5, none⟩ (.int .i64 hi7)) ⟨w28.heap.size, 6, none⟩ (.int .i64 t7)) 30 #[.int .i64 T, .int .i64 x1, .int .i64 a7, .int .i64 b7, .int .i64 lo7, .int .i64 hi7, .int .i64 t7]); (try simp only [World.size_alloc, World.size_setCell] at h9); exact h9).cell 2
              | 3, hj => simp at hj; subst hj; exact (show Blk (World.alloc (World.setCell (World.setCell (World.setCell (World.setCell (World.setCell w43 ⟨w28.heap.size, 2, none⟩ (.int .i64 a7)) ⟨w28.heap.size, 3, none⟩ (.int .i64 b7)) ⟨w28.heap.size, 4, none⟩ (.int .i64 lo7)) ⟨w28.heap.size, 5, none⟩ (.int .i64 hi7)) ⟨w28.heap.size, 6, none⟩ (.int .i64 t7)) (Obj.cells #[.int .i64 T, .int .i64 x1, .int .i64 a7, .int .i64 b7, .int .i64 lo7, .int .i64 hi7, .int .i64 t7] 30)) (w43.heap.size) 30 #[.int .i64 T, .int .i64 x1, .int .i64 a7, .int .i64 b7, .int .i64 lo7, .int .i64 hi7, .int .i64 t7] by have h9 := (Blk.new (World.setCell (World.setCell (World.setCell (World.setCell (World.setCell w43 ⟨w28.heap.size, 2, none⟩ (.int .i64 a7)) ⟨w28.heap.size, 3, none⟩ (.int .i64 b7)) ⟨w28.heap.size, 4, none⟩ (.int .i64 lo7)) ⟨w28.heap.size, 5, none⟩ (.int .i64 hi7)) ⟨w28.heap.size, 6, none⟩ (.int .i64 t7)) 30 #[.int .i64 T, .int .i64 x1, .int .i64 a7, .int .i64 b7, .int .i64 lo7, .int .i64 hi7, .int .i64 t7]); (try simp only [World.size_alloc, World.size_setCell] at h9); exact h9).cell 3
              | 4, hj => simp at hj; subst hj; exact (show Blk (World.alloc (World.setCell (World.setCell (World.setCell (World.setCell (World.setCell w43 ⟨w28.heap.size, 2, none⟩ (.int .i64 a7)) ⟨w28.heap.size, 3, none⟩ (.int .i64 b7)) ⟨w28.heap.size, 4, none⟩ (.int .i64 lo7)) ⟨w28.heap.size, 5, none⟩ (.int .i64 hi7)) ⟨w28.heap.size, 6, none⟩ (.int .i64 t7)) (Obj.cells #[.int .i64 T, .int .i64 x1, .int .i64 a7, .int .i64 b7, .int .i64 lo7, .int .i64 hi7, .int .i64 t7] 30)) (w43.heap.size) 30 #[.int .i64 T, .int .i64 x1, .int .i64 a7, .int .i64 b7, .int .i64 lo7, .int .i64 hi7, .int .i64 t7] by have h9 := (Blk.new (World.setCell (World.setCell (World.setCell (World.setCell (World.setCell w43 ⟨w28.heap.size, 2, none⟩ (.int .i64 a7)) ⟨w28.heap.size, 3, none⟩ (.int .i64 b7)) ⟨w28.heap.size, 4, none⟩ (.int .i64 lo7)) ⟨w28.heap.size, 5, none⟩ (.int .i64 hi7)) ⟨w28.heap.size, 6, none⟩ (.int .i64 t7)) 30 #[.int .i64 T, .int .i64 x1, .int .i64 a7, .int .i64 b7, .int .i64 lo7, .int .i64 hi7, .int .i64 t7]); (try simp only [World.size_alloc, World.size_setCell] at h9); exact h9).cell 4
              | 5, hj => simp at hj; subst hj; exact (show Blk (World.alloc (World.setCell (World.setCell (World.setCell (World.setCell (World.setCell w43 ⟨w28.heap.size, 2, none⟩ (.int .i64 a7)) ⟨w28.heap.size, 3, none⟩ (.int .i64 b7)) ⟨w28.heap.size, 4, none⟩ (.int .i64 lo7)) ⟨w28.heap.size, 5, none⟩ (.int .i64 hi7)) ⟨w28.heap.size, 6, none⟩ (.int .i64 t7)) (Obj.cells #[.int .i64 T, .int .i64 x1, .int .i64 a7, .int .i64 b7, .int .i64 lo7, .int .i64 hi7, .int .i64 t7] 30)) (w43.heap.size) 30 #[.int .i64 T, .int .i64 x1, .int .i64 a7, .int .i64 b7, .int .i64 lo7, .int .i64 hi7, .int .i64 t7] by have h9 := (Blk.new (World.setCell (World.setCell (World.setCell (World.setCell (World.setCell w43 ⟨w28.heap.size, 2, none⟩ (.int .i64 a7)) ⟨w28.heap.size, 3, none⟩ (.int .i64 b7)) ⟨w28.heap.size, 4, none⟩ (.int .i64 lo7)) ⟨w28.heap.size, 5, none⟩ (.int .i64 hi7)) ⟨w28.heap.size, 6, none⟩ (.int .i64 t7)) 30 #[.int .i64 T, .int .i64 x1, .int .i64 a7, .int .i64 b7, .int .i64 lo7, .int .i64 hi7, .int .i64 t7]); (try simp only [World.size_alloc, World.size_setCell] at h9); exact h9).cell 5
              | 6, hj => simp at hj; subst hj; exact (show Blk (World.alloc (World.setCell (World.setCell (World.setCell (World.setCell (World.setCell w43 ⟨w28.heap.size, 2, none⟩ (.int .i64 a7)) ⟨w28.heap.size, 3, none⟩ (.int .i64 b7)) ⟨w28.heap.size, 4, none⟩ (.int .i64 lo7)) ⟨w28.heap.size, 5, none⟩ (.int .i64 hi7)) ⟨w28.heap.size, 6, none⟩ (.int .i64 t7)) (Obj.cells #[.int .i64 T, .int .i64 x1, .int .i64 a7, .int .i64 b7, .int .i64 lo7, .int .i64 hi7, .int .i64 t7] 30)) (w43.heap.size) 30 #[.int .i64 T, .int .i64 x1, .int .i64 a7, .int .i64 b7, .int .i64 lo7, .int .i64 hi7, .int .i64 t7] by have h9 := (Blk.new (World.setCell (World.setCell (World.setCell (World.setCell (World.setCell w43 ⟨w28.heap.size, 2, none⟩ (.int .i64 a7)) ⟨w28.heap.size, 3, none⟩ (.int .i64 b7)) ⟨w28.heap.size, 4, none⟩ (.int .i64 lo7)) ⟨w28.heap.size, 5, none⟩ (.int .i64 hi7)) ⟨w28.heap.size, 6, none⟩ (.int .i64 t7)) 30 #[.int .i64 T, .int .i64 x1, .int .i64 a7, .int .i64 b7, .int .i64 lo7, .int .i64 hi7, .int .i64 t7]); (try simp only [World.size_alloc, World.size_setCell] at h9); exact h9).cell 6
            case c8_2 => intro u hu; simp at hu; rcases hu with rfl | rfl | rfl | rfl | rfl | rfl | rfl <;> rfl
            case c8_3 => unfold maxLen; omega
            case c8_4 => omega
            case c8_5 => have := Hgl.out; have := Sr.out; have := S27.out; have := S28.out; have := S29.out; have := S38.out; have := S39.out; have := S43.out; simp; omega
            intro v44 w44 hown44 hgrow44 _
            clear qQ0 qQ1 qQ2 qQ3 qQ4 qQ5 qQ6 qQl qQf
            have S44 := Lib.hid (show w43.heap.size + 1 ≤ w44.heap.size by have h9 := hgrow44.size; (try simp only [World.size_alloc, World.size_setCell] at h9); omega)
            have gr44 : ∀ r, Value.ownBlock _ = some r → w.heap.size ≤ r := fun r hr => (World.ownsRow.lt ho9 r hr).1
            have Hc44 := Lib.hid (((((((Hc43.out.st (p := ⟨w28.heap.size, 2, none⟩) (show g < w28.heap.size by have := Hgl.out; have := Sr.out; have := S27.out; have := S28.out; have := S29.out; have := S38.out; have := S39.out; have := S43.out; omega) (.int .i64 a7)).st (p := ⟨w28.heap.size, 3, none⟩) (show g < w28.heap.size by have := Hgl.out; have := Sr.out; have := S27.out; have := S28.out; have := S29.out; have := S38.out; have := S39.out; have := S43.out; omega) (.int .i64 b7)).st (p := ⟨w28.heap.size, 4, none⟩) (show g < w28.heap.size by have := Hgl.out; have := Sr.out; have := S27.out; have := S28.out; have := S29.out; have := S38.out; have := S39.out; have := S43.out; omega) (.int .i64 lo7)).st (p := ⟨w28.heap.size, 5, none⟩) (show g < w28.heap.size by have := Hgl.out; have := Sr.out; have := S27.out; have := S28.out; have := S29.out; have := S38.out; have := S39.out; have := S43.out; omega) (.int .i64 hi7)).st (p := ⟨w28.heap.size, 6, none⟩) (show g < w28.heap.size by have := Hgl.out; have := Sr.out; have := S27.out; have := S28.out; have := S29.out; have := S38.out; have := S39.out; have := S43.out; omega) (.int .i64 t7)).alloc _).grown hgrow44 (fun r hr => by have := gr44 r hr; have := Hgl.out; have := Sr.out; have := S27.out; have := S28.out; have := S29.out; have := S38.out; have := S39.out; have := S43.out; omega))
            have Hd44 := Lib.hid (((((((Hd43.out.st (p := ⟨w28.heap.size, 2, none⟩) (show w.heap.size ≤ w28.heap.size by have := Hgl.out; have := Sr.out; have := S27.out; have := S28.out; have := S29.out; have := S38.out; have := S39.out; have := S43.out; omega) (.int .i64 a7)).st (p := ⟨w28.heap.size, 3, none⟩) (show w.heap.size ≤ w28.heap.size by have := Hgl.out; have := Sr.out; have := S27.out; have := S28.out; have := S29.out; have := S38.out; have := S39.out; have := S43.out; omega) (.int .i64 b7)).st (p := ⟨w28.heap.size, 4, none⟩) (show w.heap.size ≤ w28.heap.size by have := Hgl.out; have := Sr.out; have := S27.out; have := S28.out; have := S29.out; have := S38.out; have := S39.out; have := S43.out; omega) (.int .i64 lo7)).st (p := ⟨w28.heap.size, 5, none⟩) (show w.heap.size ≤ w28.heap.size by have := Hgl.out; have := Sr.out; have := S27.out; have := S28.out; have := S29.out; have := S38.out; have := S39.out; have := S43.out; omega) (.int .i64 hi7)).st (p := ⟨w28.heap.size, 6, none⟩) (show w.heap.size ≤ w28.heap.size by have := Hgl.out; have := Sr.out; have := S27.out; have := S28.out; have := S29.out; have := S38.out; have := S39.out; have := S43.out; omega) (.int .i64 t7)).alloc _).grown hgrow44 (fun r hr => by have := gr44 r hr; have := Sr.out; have := S27.out; have := S28.out; have := S29.out; have := S38.out; have := S39.out; have := S43.out; omega))
            have R44 := Lib.hid (show IR w44 w.heap.size 30 7 v44 (m + 1) from ⟨_, hown44, ha9.app (by first | exact allI5 _ _ _ _ _ | exact allI7 _ _ _ _ _ _ _)⟩)
            clear hown44 hgrow44 gr44 ho9 ha9
            have GR44 := Lib.hid (IR.lt R44.out)
            go_wp2_with fail
            refine (pick_any g ((k + 10 + 100 * m) + 82) (20) _ Hc44.out (by have := Hk.out; omega)).mono ?_; rintro e w45 ⟨⟨p5, lp5, up5, rfl⟩, hc45, hd45⟩
            have S45 := Lib.hid (show w44.heap.size + 0 ≤ w45.heap.size by have h9 := hd45.size; (try simp only [World.size_alloc, World.size_setCell] at h9); omega)
            have R44 := Lib.hid (R44.out.dg hd45 (show g < w.heap.size by have := Hgl.out; have := Sr.out; have := S27.out; have := S28.out; have := S29.out; have := S38.out; have := S39.out; have := S43.out; have := S44.out; have := S45.out; omega))
            have Hc45 := Lib.hid (hc45.mono (j := (k + 10 + 100 * m) + 84) (by omega))
            have Hd45 := Lib.hid (Hd44.out.trans hd45)
            clear hc45 hd45
            go_wp2_with fail
            refine (among_lit g ((k + 10 + 100 * m) + 84) (w45.heap.size) [1, 1, 2, 50, p5] w45 (by simp) Hc45.out (by simp) (by simp) (by have := Hk.out; omega)).mono ?_; rintro e w46 ⟨⟨x5, hx5, rfl⟩, hc46, hd46⟩
            have S46 := Lib.hid (show w45.heap.size + 1 ≤ w46.heap.size by have h9 := hd46.size; (try simp only [World.size_alloc, World.size_setCell] at h9); omega)
            have R44 := Lib.hid ((R44.out.alloc _).dg hd46 (show g < w.heap.size by have := Hgl.out; have := Sr.out; have := S27.out; have := S28.out; have := S29.out; have := S38.out; have := S39.out; have := S43.out; have := S44.out; have := S45.out; have := S46.out; omega))
            have Hc46 := Lib.hid (hc46.mono (j := (k + 10 + 100 * m) + 86) (by omega))
            have Hd46 := Lib.hid ((Hd45.out.alloc _).trans hd46)
            clear hc46 hd46
            have hx5b : 0 ≤ x5 ∧ x5 ≤ 50 := by simp only [List.mem_cons, List.not_mem_nil, or_false] at hx5; omega
            clear hx5 lp5 up5
            obtain ⟨hx50, hx51⟩ := hx5b
            go_wp2
            go_roundw
            case rel => exact ⟨m + 1, T + x5, by omega, by go_num, by omega, by omega, R44, Lib.hid (Hc46.out.mono (by omega)), Hd46⟩
            case measure => obtain ⟨A8, c8, rfl, -, -⟩ := R44.out.form; simp [lenR]; omega
      · obtain rfl : m = nn := by omega
        clear hml hT0 hT1
        have Hc9 := Lib.hid (Hcr.out.mono (j := k + 2400) (by omega)); clear Hcr
        have h6 : (6 : Int) < (m : Int) := by omega
        obtain ⟨gl, cl, hfl, hgl1, hgl2, hmcl, hcml⟩ := HO.out.pos (by omega)
        injection hfl with hf1 hf2 hf3; subst hf1; subst hf3; clear hf2
        go_wp2
        go_loopw [54] (fun i wr => ∃ q : Nat, q ≤ m ∧ i = .int .i64 (q : Int) ∧ Hid (IR wr w.heap.size 30 7 (.slice (some ⟨gl, 0, none⟩) m c9) m) ∧ Hid (Cur wr g (k + 2400 + 4 * q)) ∧ Hid (Dg g w wr)) (fun i _ => m - (intOf i).toNat)
        case atStart => exact ⟨0, Nat.zero_le _, rfl, HO, Lib.hid (Hc9.out.mono (by omega)), Hdr⟩
        clear HO GHO
        case round =>
          obtain ⟨q, hqm, rfl, HO, Hcr, Hdr⟩ := hrel
          have Sr := Lib.hid Hdr.out.size
          have GHO := Lib.hid HO.out.lt
          by_cases hql : q < m
          · have hqi : (q : Int) < (m : Int) := by omega
            have hq0 : (0 : Int) ≤ (q : Int) := by omega
            go_wp2_with fail
            refine (among_lit g (k + 2400 + 4 * q) (wr.heap.size) [1, -2] wr (by simp) Hcr.out (by simp) (by simp) (by have := Hk.out; omega)).mono ?_; rintro e w47 ⟨⟨x8, hx8, rfl⟩, hc47, hd47⟩
            have S47 := Lib.hid (show wr.heap.size + 1 ≤ w47.heap.size by have h9 := hd47.size; (try simp only [World.size_alloc, World.size_setCell] at h9); omega)
            have HO := Lib.hid ((HO.out.alloc _).dg hd47 (show g < w.heap.size by have := Hgl.out; have := hgl1; have := Sr.out; have := S47.out; omega))
            have Hc47 := Lib.hid (hc47.mono (j := (k + 2400 + 4 * q) + 2) (by omega))
            have Hd47 := Lib.hid ((Hdr.out.alloc _).trans hd47)
            clear hc47 hd47
            clear hx8
            go_wp2_with fail
            refine (pick_any g ((k + 2400 + 4 * q) + 2) (8) _ Hc47.out (by have := Hk.out; omega)).mono ?_; rintro e w48 ⟨⟨y8, ly8, uy8, rfl⟩, hc48, hd48⟩
            have S48 := Lib.hid (show w47.heap.size + 0 ≤ w48.heap.size by have h9 := hd48.size; (try simp only [World.size_alloc, World.size_setCell] at h9); omega)
            have HO := Lib.hid (HO.out.dg hd48 (show g < w.heap.size by have := Hgl.out; have := hgl1; have := Sr.out; have := S47.out; have := S48.out; omega))
            have Hc48 := Lib.hid (hc48.mono (j := (k + 2400 + 4 * q) + 4) (by omega))
            have Hd48 := Lib.hid (Hd47.out.trans hd48)
            clear hc48 hd48
            obtain ⟨u2, hu2⟩ := HO.out.cell (j := q * 7 + 2) (by omega)
            obtain ⟨u3, hu3⟩ := HO.out.cell (j := q * 7 + 3) (by omega)
            obtain ⟨u4, hu4⟩ := HO.out.cell (j := q * 7 + 4) (by omega)
            obtain ⟨u6, hu6⟩ := HO.out.cell (j := q * 7 + 6) (by omega)
            have hfz := HO.out.frozen
            have hll := (HO.out.lt gl rfl).2
            go_wp2
            go_roundw
            case rel => exact ⟨q + 1, by omega, by go_num, Lib.hid ((((HO.out.set (q * 7 + 2) x8).set (q * 7 + 3) (1 + y8)).set (q * 7 + 4) 0).set (q * 7 + 6) 0), Lib.hid (((((Hc48.out.st (p := ⟨gl, q * 7 + 2, none⟩) (show g < gl by have := Hgl.out; have := hgl1; have := Sr.out; have := S47.out; have := S48.out; omega) (.int .i64 x8)).st (p := ⟨gl, q * 7 + 3, none⟩) (show g < gl by have := Hgl.out; have := hgl1; have := Sr.out; have := S47.out; have := S48.out; omega) (.int .i64 (1 + y8))).st (p := ⟨gl, q * 7 + 4, none⟩) (show g < gl by have := Hgl.out; have := hgl1; have := Sr.out; have := S47.out; have := S48.out; omega) (.int .i64 0)).st (p := ⟨gl, q * 7 + 6, none⟩) (show g < gl by have := Hgl.out; have := hgl1; have := Sr.out; have := S47.out; have := S48.out; omega) (.int .i64 0)).mono (by omega)), Lib.hid ((((Hd48.out.st (p := ⟨gl, q * 7 + 2, none⟩) (show w.heap.size ≤ gl by have := Hgl.out; have := hgl1; have := Sr.out; have := S47.out; have := S48.out; omega) (.int .i64 x8)).st (p := ⟨gl, q * 7 + 3, none⟩) (show w.heap.size ≤ gl by have := Hgl.out; have := hgl1; have := Sr.out; have := S47.out; have := S48.out; omega) (.int .i64 (1 + y8))).st (p := ⟨gl, q * 7 + 4, none⟩) (show w.heap.size ≤ gl by have := Hgl.out; have := hgl1; have := Sr.out; have := S47.out; have := S48.out; omega) (.int .i64 0)).st (p := ⟨gl, q * 7 + 6, none⟩) (show w.heap.size ≤ gl by have := Hgl.out; have := hgl1; have := Sr.out; have := S47.out; have := S48.out; omega) (.int .i64 0))⟩
            case measure => simp [intOf]; omega
          · have hqm2 : m = q := by omega
            subst hqm2
            have Hc9 := Lib.hid (Hcr.out.mono (j := k + 2600) (by omega)); clear Hcr
            have hm1 : (0 : Int) < (m : Int) := by omega
            go_wp2_with fail
            refine (one_any g (k + 2600) (20) _ Hc9.out (by have := Hk.out; omega)).mono ?_; rintro e w49 ⟨⟨o3, rfl⟩, hc49, hd49⟩
            have S49 := Lib.hid (show wr.heap.size + 0 ≤ w49.heap.size by have h9 := hd49.size; (try simp only [World.size_alloc, World.size_setCell] at h9); omega)
            have HO := Lib.hid (HO.out.dg hd49 (show g < w.heap.size by have := Hgl.out; have := hgl1; have := Sr.out; have := S49.out; omega))
            have Hc49 := Lib.hid (hc49.mono (j := k + 2602) (by omega))
            have Hd49 := Lib.hid (Hdr.out.trans hd49)
            clear hc49 hd49
            cases o3
            · go_wp2
              go_ret
              exact ⟨⟨_, m, by omega, rfl, HO.out⟩, Hc49.out.mono (by omega), Hd49.out⟩
            · go_wp2_with fail
              refine (among_lit g (k + 2602) (w49.heap.size) [1000000, 1000001, -1] w49 (by simp) Hc49.out (by simp) (by simp) (by have := Hk.out; omega)).mono ?_; rintro e w50 ⟨⟨x6, hx6, rfl⟩, hc50, hd50⟩
              have S50 := Lib.hid (show w49.heap.size + 1 ≤ w50.heap.size by have h9 := hd50.size; (try simp only [World.size_alloc, World.size_setCell] at h9); omega)
              have HO := Lib.hid ((HO.out.alloc _).dg hd50 (show g < w.heap.size by have := Hgl.out; have := hgl1; have := Sr.out; have := S49.out; have := S50.out; omega))
              have Hc50 := Lib.hid (hc50.mono (j := k + 2604) (by omega))
              have Hd50 := Lib.hid ((Hd49.out.alloc _).trans hd50)
              clear hc50 hd50
              clear hx6
              have hidx : (m : Int) - 1 = ((m - 1 : Nat) : Int) := by omega
              rw [hidx]
              have hyi : (0 : Int) ≤ ((m - 1 : Nat) : Int) := by omega
              have hyj : ((m - 1 : Nat) : Int) < (m : Int) := by omega
              clear hidx
              obtain ⟨u0, hu0⟩ := HO.out.cell (j := (m - 1) * 7) (by omega)
              have hfz := HO.out.frozen
              have hll := (HO.out.lt gl rfl).2
              go_wp2
              go_ret
              exact ⟨⟨_, m, by omega, rfl, (HO.out.set ((m - 1) * 7) x6)⟩, (Hc50.out.st (p := ⟨gl, (m - 1) * 7, none⟩) (show g < gl by have := Hgl.out; have := hgl1; have := Sr.out; have := S49.out; have := S50.out; omega) (.int .i64 x6)).mono (by omega), (Hd50.out.st (p := ⟨gl, (m - 1) * 7, none⟩) (show w.heap.size ≤ gl by have := Hgl.out; have := hgl1; have := Sr.out; have := S49.out; have := S50.out; omega) (.int .i64 x6))⟩
end Go.Proofs.YtjnghjgfhlgbiaaDoor
