/- The reference's source of drawn catalogues. Conditions: a bound on how far the cursor has come. Printed by gen_drd.py. -/
import Derived.Test.YtnphipfdpkgbaaaDrI
import Derived.Test.YtnphipfdpkgbaaaMergeL
namespace Go.Proofs.Ytnphipfdpkgbaaa
open Go Go.RowKit

theorem infoEn7 : (Try.prog.info? 36).map (fun i => (i.zero, i.size, i.bytes)) = some (some (.agg #[.int .i64 0, .int .i64 0, .int .i64 0, .int .i64 0, .int .i64 0]), 5, 40) := by kernel_rfl
theorem tightG_len' {es : List En} {y : En} {z : List En} {b : Bool} (h : tightG es y = (z, b)) : z.length ≤ 12 := tightG_len z b h
def lenV : Value → Nat | .slice _ n _ => n | _ => 0
theorem allI5 (a b c d e : Int) : AllI [.int .i64 a, .int .i64 b, .int .i64 c, .int .i64 d, .int .i64 e] := by
  intro u hu
  simp only [List.mem_cons, List.not_mem_nil, or_false] at hu
  rcases hu with rfl | rfl | rfl | rfl | rfl <;> exact ⟨_, rfl⟩

set_option linter.unusedSimpArgs false in
set_option maxRecDepth 8000 in
set_option maxHeartbeats 8000000 in
theorem catalogue_any (g k : Nat) (w : World) (hc : Cur w g k) (hk : k ≤ 500000) :
    Calls Try.prog 55 #[.pointer (some ⟨g, 0, none⟩)] w fun e w' => (∃ (v : Value) (n : Nat), n ≤ 20 ∧ e = .returned v ∧ IR w' w.heap.size 36 5 v n) ∧ Cur w' g (k + 500) ∧ Dg g w w' := by
  obtain ⟨i0, hi, hz0, hz1, hz2⟩ := info_parts infoEn7
  have Hgl := Lib.hid hc.lt
  have Hc := Lib.hid hc; have Hk := Lib.hid hk; have Hd := Lib.hid (Dg.refl g w); clear hc hk
  go_enter Try.func55, Try.ntmps55
  go_wp2_with fail
  refine (pick_any g k (7) _ Hc.out (by have := Hk.out; omega)).mono ?_; rintro e w1 ⟨⟨x, lx, ux, rfl⟩, hc1, hd1⟩
  have S1 := Lib.hid (show w.heap.size + 0 ≤ w1.heap.size by have h9 := hd1.size; (try simp only [World.size_alloc, World.size_setCell] at h9); omega)
  have Hc1 := Lib.hid (hc1.mono (j := k + 2) (by omega))
  have Hd1 := Lib.hid (Hd.out.trans hd1)
  clear hc1 hd1
  obtain ⟨x, rfl⟩ : ∃ q : Nat, x = q := ⟨x.toNat, by omega⟩
  have hx6 : x ≤ 6 := by omega
  clear lx ux
  go_wp2
  go_loopw [4, 3] (fun n l wr => ∃ (q m : Nat), q ≤ x ∧ n = .int .i64 (q : Int) ∧ m ≤ 12 ∧ Hid (IR wr w.heap.size 36 5 l m) ∧ Hid (Cur wr g (k + 2 + 14 * (x - q))) ∧ Hid (Dg g w wr)) (fun n _ _ => (intOf n).toNat)
  case atStart => exact ⟨x, 0, Nat.le_refl _, rfl, Nat.zero_le _, Lib.hid (IR.nil _ _ _ _), Lib.hid (Hc1.out.mono (by omega)), Hd1⟩
  case round =>
    obtain ⟨q, m, hqx, rfl, hm12, HO, Hcr, Hdr⟩ := hrel
    obtain ⟨A9, c9, rfl, hmc, hcm⟩ := HO.out.form
    unfold maxLen at hcm
    have Sr := Lib.hid Hdr.out.size
    have GHO := Lib.hid HO.out.lt
    by_cases hq0 : 0 < q
    · have hq1 : (0 : Int) < (q : Int) := by omega
      go_wp2_with fail
      refine (entry_any g (k + 2 + 14 * (x - q)) _ Hcr.out (by have := Hk.out; omega)).mono ?_; rintro e w2 ⟨⟨a, b, lo, hi9, t, b1, b2, b3, b4, rfl⟩, hc2, hd2⟩
      have S2 := Lib.hid (show wr.heap.size + 0 ≤ w2.heap.size by have h9 := hd2.size; (try simp only [World.size_alloc, World.size_setCell] at h9); omega)
      have HO := Lib.hid (HO.out.dg hd2 (show g < w.heap.size by have := Hgl.out; have := Sr.out; have := S2.out; omega))
      have Hc2 := Lib.hid (hc2.mono (j := (k + 2 + 14 * (x - q)) + 14) (by omega))
      have Hd2 := Lib.hid (Hdr.out.trans hd2)
      clear hc2 hd2
      obtain ⟨es, hes, ho1⟩ := HO.out.en
      have HRd := Lib.hid (Rd.of_own (S := enS) ho1 rfl)
      have Hes := Lib.hid hes; clear hes ho1
      go_wp2_with fail
      refine (specTight_ints _ es a b lo hi9 t _ HRd.out).mono ?_; rintro e w3 ⟨⟨v2, z2, ok2, rfl, hz2v, ho2⟩, hd3⟩
      have S3 := Lib.hid (show w2.heap.size + 0 ≤ w3.heap.size by have h9 := hd3.size; (try simp only [World.size_alloc, World.size_setCell] at h9); omega)
      have HO := Lib.hid (HO.out.dg (Dg.of_below (g := g) hd3) (show g < w.heap.size by have := Hgl.out; have := Sr.out; have := S2.out; have := S3.out; omega))
      have Hc3 := Lib.hid (Hc2.out.on hd3)
      have Hd3 := Lib.hid (Hd2.out.trans (Dg.of_below (g := g) hd3))
      clear hd3
      have hz12 := tightG_len' hz2v
      have HI := Lib.hid (IR.of_en ho2)
      clear hz2v ho2
      obtain ⟨A2, c2, rfl, hmc2, hcm2⟩ := HI.out.form
      generalize z2.length = m2 at HI hz12 hmc2 ⊢
      cases ok2
      · go_wp2
        go_roundw
        case rel => exact ⟨q - 1, m, by omega, by go_num, hm12, HO, Lib.hid (Hc3.out.mono (by omega)), Hd3⟩
        case measure => simp [intOf]; omega
      · go_wp2
        go_roundw
        case rel => exact ⟨q - 1, m2, by omega, by go_num, hz12, Lib.hid (HI.out.mono (by have := Sr.out; have := S2.out; have := S3.out; omega)), Lib.hid (Hc3.out.mono (by omega)), Hd3⟩
        case measure => simp [intOf]; omega
    · obtain rfl : q = 0 := by omega
      go_wp2_with fail
      refine (one_any g (k + 2 + 14 * (x - 0)) (16) _ Hcr.out (by have := Hk.out; omega)).mono ?_; rintro e w4 ⟨⟨c, rfl⟩, hc4, hd4⟩
      have S4 := Lib.hid (show wr.heap.size + 0 ≤ w4.heap.size by have h9 := hd4.size; (try simp only [World.size_alloc, World.size_setCell] at h9); omega)
      have HO := Lib.hid (HO.out.dg hd4 (show g < w.heap.size by have := Hgl.out; have := Sr.out; have := S4.out; omega))
      have Hc4 := Lib.hid (hc4.mono (j := (k + 2 + 14 * (x - 0)) + 2) (by omega))
      have Hd4 := Lib.hid (Hdr.out.trans hd4)
      clear hc4 hd4
      have Hc9 := Lib.hid (Hc4.out.mono (j := k + 90) (by omega)); clear Hc4
      cases c
      · clear hq0
        by_cases hm0 : 0 < m
        · obtain ⟨gl, cl, hfl, hgl1, hgl2, hmcl, hcml⟩ := HO.out.pos hm0
          injection hfl with hf1 hf2 hf3; subst hf1; subst hf3; clear hf2
          have hmi : (0 : Int) < (m : Int) := by omega
          go_wp2_with fail
          refine (pick_any g (k + 90) (m : Int) _ Hc9.out (by have := Hk.out; omega)).mono ?_; rintro e w5 ⟨⟨y, ly, uy, rfl⟩, hc5, hd5⟩
          have S5 := Lib.hid (show w4.heap.size + 0 ≤ w5.heap.size by have h9 := hd5.size; (try simp only [World.size_alloc, World.size_setCell] at h9); omega)
          have HO := Lib.hid (HO.out.dg hd5 (show g < w.heap.size by have := Hgl.out; have := Sr.out; have := S4.out; have := S5.out; omega))
          have Hc5 := Lib.hid (hc5.mono (j := k + 92) (by omega))
          have Hd5 := Lib.hid (Hd4.out.trans hd5)
          clear hc5 hd5
          obtain ⟨y, rfl⟩ : ∃ q : Nat, y = q := ⟨y.toNat, by omega⟩
          have hym : y < m := by omega
          clear ly uy
          go_wp2_with fail
          refine (pick_any g (k + 92) (24) _ Hc5.out (by have := Hk.out; omega)).mono ?_; rintro e w6 ⟨⟨z, lz, uz, rfl⟩, hc6, hd6⟩
          have S6 := Lib.hid (show w5.heap.size + 0 ≤ w6.heap.size by have h9 := hd6.size; (try simp only [World.size_alloc, World.size_setCell] at h9); omega)
          have HO := Lib.hid (HO.out.dg hd6 (show g < w.heap.size by have := Hgl.out; have := Sr.out; have := S4.out; have := S5.out; have := S6.out; omega))
          have Hc6 := Lib.hid (hc6.mono (j := k + 94) (by omega))
          have Hd6 := Lib.hid (Hd5.out.trans hd6)
          clear hc6 hd6
          have hyi : (0 : Int) ≤ (y : Int) := by omega
          have hyj : (y : Int) < (m : Int) := by omega
          by_cases ez0 : z = 0
          · have zz0 : (z == 0) = true := by rw [ez0]; rfl
            clear ez0
            go_wp2_with fail
            refine (anyEntry_any g (k + 94) _ Hc6.out (by have := Hk.out; omega)).mono ?_; rintro e w7 ⟨⟨a7, b7, lo7, hi7, t7, rfl⟩, hc7, hd7⟩
            have S7 := Lib.hid (show w6.heap.size + 0 ≤ w7.heap.size by have h9 := hd7.size; (try simp only [World.size_alloc, World.size_setCell] at h9); omega)
            have HO := Lib.hid (HO.out.dg hd7 (show g < w.heap.size by have := Hgl.out; have := Sr.out; have := S4.out; have := S5.out; have := S6.out; have := S7.out; omega))
            have Hc7 := Lib.hid (hc7.mono (j := k + 154) (by omega))
            have Hd7 := Lib.hid (Hd6.out.trans hd7)
            clear hc7 hd7
            obtain ⟨u0, hu0⟩ := HO.out.cell (j := y * 5) (by omega)
            obtain ⟨u1, hu1⟩ := HO.out.cell (j := y * 5 + 1) (by omega)
            obtain ⟨u2, hu2⟩ := HO.out.cell (j := y * 5 + 2) (by omega)
            obtain ⟨u3, hu3⟩ := HO.out.cell (j := y * 5 + 3) (by omega)
            obtain ⟨u4, hu4⟩ := HO.out.cell (j := y * 5 + 4) (by omega)
            have hfz := HO.out.frozen
            have hll := (HO.out.lt gl rfl).2
            go_wp2
            go_ret
            exact ⟨⟨_, m, by omega, rfl, (((((HO.out.set (y * 5) a7).set (y * 5 + 1) b7).set (y * 5 + 2) lo7).set (y * 5 + 3) hi7).set (y * 5 + 4) t7)⟩, (((((Hc7.out.st (p := ⟨gl, y * 5, none⟩) (by have := Hgl.out; show g < gl; omega) (.int .i64 a7)).st (p := ⟨gl, y * 5 + 1, none⟩) (by have := Hgl.out; show g < gl; omega) (.int .i64 b7)).st (p := ⟨gl, y * 5 + 2, none⟩) (by have := Hgl.out; show g < gl; omega) (.int .i64 lo7)).st (p := ⟨gl, y * 5 + 3, none⟩) (by have := Hgl.out; show g < gl; omega) (.int .i64 hi7)).st (p := ⟨gl, y * 5 + 4, none⟩) (by have := Hgl.out; show g < gl; omega) (.int .i64 t7)).mono (by omega), (((((Hd7.out.st (p := ⟨gl, y * 5, none⟩) (show w.heap.size ≤ gl from hgl1) (.int .i64 a7)).st (p := ⟨gl, y * 5 + 1, none⟩) (show w.heap.size ≤ gl from hgl1) (.int .i64 b7)).st (p := ⟨gl, y * 5 + 2, none⟩) (show w.heap.size ≤ gl from hgl1) (.int .i64 lo7)).st (p := ⟨gl, y * 5 + 3, none⟩) (show w.heap.size ≤ gl from hgl1) (.int .i64 hi7)).st (p := ⟨gl, y * 5 + 4, none⟩) (show w.heap.size ≤ gl from hgl1) (.int .i64 t7))⟩
          · by_cases ez1 : z = 1
            · have zz1 : (z == 1) = true := by rw [ez1]; rfl
              have zz0 : (z == 0) = false := by rw [ez1]; rfl
              clear ez0 ez1
              obtain ⟨u0, hu0⟩ := HO.out.cell (j := y * 5) (by omega)
              obtain ⟨u1, hu1⟩ := HO.out.cell (j := y * 5 + 1) (by omega)
              obtain ⟨u2, hu2⟩ := HO.out.cell (j := y * 5 + 2) (by omega)
              obtain ⟨u3, hu3⟩ := HO.out.cell (j := y * 5 + 3) (by omega)
              obtain ⟨u4, hu4⟩ := HO.out.cell (j := y * 5 + 4) (by omega)
              have hll := (HO.out.lt gl rfl).2
              obtain ⟨xs9, ho9, ha9⟩ := HO.out.ex
              go_wp2_with (at_builtin; refine wpList_append_own _ rfl _ _ 23 rfl w.heap.size 36 i0 (.agg #[.int .i64 0, .int .i64 0, .int .i64 0, .int .i64 0, .int .i64 0]) 5 40 Try.underlying23 hi hz0 hz1 hz2 rfl (by decide) _ _ _ rfl (ho9.alloc _) ⟨w6.heap.size, 0, none⟩ 1 1 [.int .i64 u0, .int .i64 u1, .int .i64 u2, .int .i64 u3, .int .i64 u4] rfl rfl ?e1 ?e2 ?e3 ?e4 ?e5 ?_)
              case e1 =>
                intro j u hj
                match j, hj with
                | 0, hj => simp at hj; subst hj; exact (Blk.new w6 _ _).cell 0
                | 1, hj => simp at hj; subst hj; exact (Blk.new w6 _ _).cell 1
                | 2, hj => simp at hj; subst hj; exact (Blk.new w6 _ _).cell 2
                | 3, hj => simp at hj; subst hj; exact (Blk.new w6 _ _).cell 3
                | 4, hj => simp at hj; subst hj; exact (Blk.new w6 _ _).cell 4
              case e2 => intro u hu; simp at hu; rcases hu with rfl | rfl | rfl | rfl | rfl <;> rfl
              case e3 => unfold maxLen; omega
              case e4 => omega
              case e5 => have := Hgl.out; have := Sr.out; have := S4.out; have := S5.out; have := S6.out; simp; omega
              intro v8 w8 hown8 hgrow8 _
              have S8 := Lib.hid (show w6.heap.size + 1 ≤ w8.heap.size by have h9 := hgrow8.size; (try simp only [World.size_alloc] at h9); omega)
              have gr8 : ∀ r, Value.ownBlock _ = some r → w.heap.size ≤ r := fun r hr => (World.ownsRow.lt ho9 r hr).1
              have Hc8 := Lib.hid ((Hc6.out.alloc _).grown hgrow8 (fun r hr => by have := gr8 r hr; have := Hgl.out; have := Sr.out; have := S4.out; have := S5.out; have := S6.out; omega))
              have Hd8 := Lib.hid ((Hd6.out.alloc _).grown hgrow8 (fun r hr => by have := gr8 r hr; have := Sr.out; have := S4.out; have := S5.out; have := S6.out; omega))
              have R8 := Lib.hid (show IR w8 w.heap.size 36 5 v8 (m + 1) from ⟨_, hown8, ha9.app (by first | exact allI5 _ _ _ _ _ | exact allI7 _ _ _ _ _ _ _)⟩)
              clear hown8 hgrow8 gr8 ho9 ha9
              go_wp2
              go_ret
              exact ⟨⟨_, m + 1, by omega, rfl, R8.out⟩, Hc8.out.mono (by omega), Hd8.out⟩
            · have zz0 : (z == 0) = false := beq_eq_false_iff_ne.2 ez0
              have zz1 : (z == 1) = false := beq_eq_false_iff_ne.2 ez1
              clear ez0 ez1
              go_wp2
              go_ret
              exact ⟨⟨_, m, by omega, rfl, HO.out⟩, Hc6.out.mono (by omega), Hd6.out⟩
        · have hmi : ¬ (0 : Int) < (m : Int) := by omega
          go_wp2
          go_ret
          exact ⟨⟨_, m, by omega, rfl, HO.out⟩, Hc9.out.mono (by omega), Hd4.out⟩
      · clear hq0 HO GHO
        go_wp2_with fail
        refine (pick_any g (k + 90) (2) _ Hc9.out (by have := Hk.out; omega)).mono ?_; rintro e w9 ⟨⟨nn, lnn, unn, rfl⟩, hc9, hd9⟩
        have S9 := Lib.hid (show w4.heap.size + 0 ≤ w9.heap.size by have h9 := hd9.size; (try simp only [World.size_alloc, World.size_setCell] at h9); omega)
        have Hc9 := Lib.hid (hc9.mono (j := k + 92) (by omega))
        have Hd9 := Lib.hid (Hd4.out.trans hd9)
        clear hc9 hd9
        obtain ⟨nn, rfl⟩ : ∃ q : Nat, nn = q := ⟨nn.toNat, by omega⟩
        have hnn : nn ≤ 1 := by omega
        have hn12 : (0 : Int) ≤ 12 + (nn : Int) := by omega
        clear lnn unn
        go_wp2
        go_loopw [3] (fun l wr => ∃ m : Nat, m ≤ 12 + nn ∧ Hid (IR wr w.heap.size 36 5 l m) ∧ Hid (Cur wr g (k + 92)) ∧ Hid (Dg g w wr)) (fun l _ => 13 - lenV l)
        case atStart => exact ⟨0, Nat.zero_le _, Lib.hid (IR.nil _ _ _ _), Lib.hid (Hc9.out.mono (by omega)), Hd9⟩
        case round =>
          obtain ⟨m, hm13, HO, Hcr, Hdr⟩ := hrel
          obtain ⟨A9, c9, rfl, hmc, hcm⟩ := HO.out.form
          unfold maxLen at hcm
          have Sr := Lib.hid Hdr.out.size
          have GHO := Lib.hid HO.out.lt
          by_cases hml : m < 12 + nn
          · have hmi : (m : Int) < 12 + (nn : Int) := by omega
            have hm0 : (0 : Int) ≤ (m : Int) := by omega
            obtain ⟨xs9, ho9, ha9⟩ := HO.out.ex
            go_wp2_with (at_builtin; refine wpList_append_own _ rfl _ _ 23 rfl w.heap.size 36 i0 (.agg #[.int .i64 0, .int .i64 0, .int .i64 0, .int .i64 0, .int .i64 0]) 5 40 Try.underlying23 hi hz0 hz1 hz2 rfl (by decide) _ _ _ rfl (ho9.alloc _) ⟨wr.heap.size, 0, none⟩ 1 1 [.int .i64 1, .int .i64 (m : Int), .int .i64 0, .int .i64 2, .int .i64 1] rfl rfl ?c1 ?c2 ?c3 ?c4 ?c5 ?_)
            case c1 =>
              intro j u hj
              match j, hj with
              | 0, hj => simp at hj; subst hj; exact (Blk.new wr _ _).cell 0
              | 1, hj => simp at hj; subst hj; exact (Blk.new wr _ _).cell 1
              | 2, hj => simp at hj; subst hj; exact (Blk.new wr _ _).cell 2
              | 3, hj => simp at hj; subst hj; exact (Blk.new wr _ _).cell 3
              | 4, hj => simp at hj; subst hj; exact (Blk.new wr _ _).cell 4
            case c2 => intro u hu; simp at hu; rcases hu with rfl | rfl | rfl | rfl | rfl <;> rfl
            case c3 => unfold maxLen; omega
            case c4 => omega
            case c5 => have := Hgl.out; have := Sr.out; simp; omega
            intro v10 w10 hown10 hgrow10 _
            have S10 := Lib.hid (show wr.heap.size + 1 ≤ w10.heap.size by have h9 := hgrow10.size; (try simp only [World.size_alloc] at h9); omega)
            have gr10 : ∀ r, Value.ownBlock _ = some r → w.heap.size ≤ r := fun r hr => (World.ownsRow.lt ho9 r hr).1
            have Hc10 := Lib.hid ((Hcr.out.alloc _).grown hgrow10 (fun r hr => by have := gr10 r hr; have := Hgl.out; have := Sr.out; omega))
            have Hd10 := Lib.hid ((Hdr.out.alloc _).grown hgrow10 (fun r hr => by have := gr10 r hr; have := Sr.out; omega))
            have R10 := Lib.hid (show IR w10 w.heap.size 36 5 v10 (m + 1) from ⟨_, hown10, ha9.app (by first | exact allI5 _ _ _ _ _ | exact allI7 _ _ _ _ _ _ _)⟩)
            clear hown10 hgrow10 gr10 ho9 ha9
            go_wp2
            go_roundw
            case rel => exact ⟨m + 1, by omega, R10, Hc10, Hd10⟩
            case measure => obtain ⟨A8, c8, rfl, -, -⟩ := R10.out.form; simp [lenV]; omega
          · have hmi : ¬ (m : Int) < 12 + (nn : Int) := by omega
            clear hml hn12
            by_cases hm0 : 0 < m
            · obtain ⟨gl, cl, hfl, hgl1, hgl2, hmcl, hcml⟩ := HO.out.pos hm0
              injection hfl with hf1 hf2 hf3; subst hf1; subst hf3; clear hf2
              have hmi : (0 : Int) < (m : Int) := by omega
              go_wp2_with fail
              refine (pick_any g (k + 92) (m : Int) _ Hcr.out (by have := Hk.out; omega)).mono ?_; rintro e w11 ⟨⟨y, ly, uy, rfl⟩, hc11, hd11⟩
              have S11 := Lib.hid (show wr.heap.size + 0 ≤ w11.heap.size by have h9 := hd11.size; (try simp only [World.size_alloc, World.size_setCell] at h9); omega)
              have HO := Lib.hid (HO.out.dg hd11 (show g < w.heap.size by have := Hgl.out; have := Sr.out; have := S11.out; omega))
              have Hc11 := Lib.hid (hc11.mono (j := k + 94) (by omega))
              have Hd11 := Lib.hid (Hdr.out.trans hd11)
              clear hc11 hd11
              obtain ⟨y, rfl⟩ : ∃ q : Nat, y = q := ⟨y.toNat, by omega⟩
              have hym : y < m := by omega
              clear ly uy
              go_wp2_with fail
              refine (pick_any g (k + 94) (24) _ Hc11.out (by have := Hk.out; omega)).mono ?_; rintro e w12 ⟨⟨z, lz, uz, rfl⟩, hc12, hd12⟩
              have S12 := Lib.hid (show w11.heap.size + 0 ≤ w12.heap.size by have h9 := hd12.size; (try simp only [World.size_alloc, World.size_setCell] at h9); omega)
              have HO := Lib.hid (HO.out.dg hd12 (show g < w.heap.size by have := Hgl.out; have := Sr.out; have := S11.out; have := S12.out; omega))
              have Hc12 := Lib.hid (hc12.mono (j := k + 96) (by omega))
              have Hd12 := Lib.hid (Hd11.out.trans hd12)
              clear hc12 hd12
              have hyi : (0 : Int) ≤ (y : Int) := by omega
              have hyj : (y : Int) < (m : Int) := by omega
              by_cases ez0 : z = 0
              · have zz0 : (z == 0) = true := by rw [ez0]; rfl
                clear ez0
                go_wp2_with fail
                refine (anyEntry_any g (k + 96) _ Hc12.out (by have := Hk.out; omega)).mono ?_; rintro e w13 ⟨⟨a7, b7, lo7, hi7, t7, rfl⟩, hc13, hd13⟩
                have S13 := Lib.hid (show w12.heap.size + 0 ≤ w13.heap.size by have h9 := hd13.size; (try simp only [World.size_alloc, World.size_setCell] at h9); omega)
                have HO := Lib.hid (HO.out.dg hd13 (show g < w.heap.size by have := Hgl.out; have := Sr.out; have := S11.out; have := S12.out; have := S13.out; omega))
                have Hc13 := Lib.hid (hc13.mono (j := k + 156) (by omega))
                have Hd13 := Lib.hid (Hd12.out.trans hd13)
                clear hc13 hd13
                obtain ⟨u0, hu0⟩ := HO.out.cell (j := y * 5) (by omega)
                obtain ⟨u1, hu1⟩ := HO.out.cell (j := y * 5 + 1) (by omega)
                obtain ⟨u2, hu2⟩ := HO.out.cell (j := y * 5 + 2) (by omega)
                obtain ⟨u3, hu3⟩ := HO.out.cell (j := y * 5 + 3) (by omega)
                obtain ⟨u4, hu4⟩ := HO.out.cell (j := y * 5 + 4) (by omega)
                have hfz := HO.out.frozen
                have hll := (HO.out.lt gl rfl).2
                go_wp2
                go_ret
                exact ⟨⟨_, m, by omega, rfl, (((((HO.out.set (y * 5) a7).set (y * 5 + 1) b7).set (y * 5 + 2) lo7).set (y * 5 + 3) hi7).set (y * 5 + 4) t7)⟩, (((((Hc13.out.st (p := ⟨gl, y * 5, none⟩) (by have := Hgl.out; show g < gl; omega) (.int .i64 a7)).st (p := ⟨gl, y * 5 + 1, none⟩) (by have := Hgl.out; show g < gl; omega) (.int .i64 b7)).st (p := ⟨gl, y * 5 + 2, none⟩) (by have := Hgl.out; show g < gl; omega) (.int .i64 lo7)).st (p := ⟨gl, y * 5 + 3, none⟩) (by have := Hgl.out; show g < gl; omega) (.int .i64 hi7)).st (p := ⟨gl, y * 5 + 4, none⟩) (by have := Hgl.out; show g < gl; omega) (.int .i64 t7)).mono (by omega), (((((Hd13.out.st (p := ⟨gl, y * 5, none⟩) (show w.heap.size ≤ gl from hgl1) (.int .i64 a7)).st (p := ⟨gl, y * 5 + 1, none⟩) (show w.heap.size ≤ gl from hgl1) (.int .i64 b7)).st (p := ⟨gl, y * 5 + 2, none⟩) (show w.heap.size ≤ gl from hgl1) (.int .i64 lo7)).st (p := ⟨gl, y * 5 + 3, none⟩) (show w.heap.size ≤ gl from hgl1) (.int .i64 hi7)).st (p := ⟨gl, y * 5 + 4, none⟩) (show w.heap.size ≤ gl from hgl1) (.int .i64 t7))⟩
              · by_cases ez1 : z = 1
                · have zz1 : (z == 1) = true := by rw [ez1]; rfl
                  have zz0 : (z == 0) = false := by rw [ez1]; rfl
                  clear ez0 ez1
                  obtain ⟨u0, hu0⟩ := HO.out.cell (j := y * 5) (by omega)
                  obtain ⟨u1, hu1⟩ := HO.out.cell (j := y * 5 + 1) (by omega)
                  obtain ⟨u2, hu2⟩ := HO.out.cell (j := y * 5 + 2) (by omega)
                  obtain ⟨u3, hu3⟩ := HO.out.cell (j := y * 5 + 3) (by omega)
                  obtain ⟨u4, hu4⟩ := HO.out.cell (j := y * 5 + 4) (by omega)
                  have hll := (HO.out.lt gl rfl).2
                  obtain ⟨xs9, ho9, ha9⟩ := HO.out.ex
                  go_wp2_with (at_builtin; refine wpList_append_own _ rfl _ _ 23 rfl w.heap.size 36 i0 (.agg #[.int .i64 0, .int .i64 0, .int .i64 0, .int .i64 0, .int .i64 0]) 5 40 Try.underlying23 hi hz0 hz1 hz2 rfl (by decide) _ _ _ rfl (ho9.alloc _) ⟨w12.heap.size, 0, none⟩ 1 1 [.int .i64 u0, .int .i64 u1, .int .i64 u2, .int .i64 u3, .int .i64 u4] rfl rfl ?f1 ?f2 ?f3 ?f4 ?f5 ?_)
                  case f1 =>
                    intro j u hj
                    match j, hj with
                    | 0, hj => simp at hj; subst hj; exact (Blk.new w12 _ _).cell 0
                    | 1, hj => simp at hj; subst hj; exact (Blk.new w12 _ _).cell 1
                    | 2, hj => simp at hj; subst hj; exact (Blk.new w12 _ _).cell 2
                    | 3, hj => simp at hj; subst hj; exact (Blk.new w12 _ _).cell 3
                    | 4, hj => simp at hj; subst hj; exact (Blk.new w12 _ _).cell 4
                  case f2 => intro u hu; simp at hu; rcases hu with rfl | rfl | rfl | rfl | rfl <;> rfl
                  case f3 => unfold maxLen; omega
                  case f4 => omega
                  case f5 => have := Hgl.out; have := Sr.out; have := S11.out; have := S12.out; simp; omega
                  intro v14 w14 hown14 hgrow14 _
                  have S14 := Lib.hid (show w12.heap.size + 1 ≤ w14.heap.size by have h9 := hgrow14.size; (try simp only [World.size_alloc] at h9); omega)
                  have gr14 : ∀ r, Value.ownBlock _ = some r → w.heap.size ≤ r := fun r hr => (World.ownsRow.lt ho9 r hr).1
                  have Hc14 := Lib.hid ((Hc12.out.alloc _).grown hgrow14 (fun r hr => by have := gr14 r hr; have := Hgl.out; have := Sr.out; have := S11.out; have := S12.out; omega))
                  have Hd14 := Lib.hid ((Hd12.out.alloc _).grown hgrow14 (fun r hr => by have := gr14 r hr; have := Sr.out; have := S11.out; have := S12.out; omega))
                  have R14 := Lib.hid (show IR w14 w.heap.size 36 5 v14 (m + 1) from ⟨_, hown14, ha9.app (by first | exact allI5 _ _ _ _ _ | exact allI7 _ _ _ _ _ _ _)⟩)
                  clear hown14 hgrow14 gr14 ho9 ha9
                  go_wp2
                  go_ret
                  exact ⟨⟨_, m + 1, by omega, rfl, R14.out⟩, Hc14.out.mono (by omega), Hd14.out⟩
                · have zz0 : (z == 0) = false := beq_eq_false_iff_ne.2 ez0
                  have zz1 : (z == 1) = false := beq_eq_false_iff_ne.2 ez1
                  clear ez0 ez1
                  go_wp2
                  go_ret
                  exact ⟨⟨_, m, by omega, rfl, HO.out⟩, Hc12.out.mono (by omega), Hd12.out⟩
            · have hmi : ¬ (0 : Int) < (m : Int) := by omega
              go_wp2
              go_ret
              exact ⟨⟨_, m, by omega, rfl, HO.out⟩, Hcr.out.mono (by omega), Hdr.out⟩
end Go.Proofs.Ytnphipfdpkgbaaa
