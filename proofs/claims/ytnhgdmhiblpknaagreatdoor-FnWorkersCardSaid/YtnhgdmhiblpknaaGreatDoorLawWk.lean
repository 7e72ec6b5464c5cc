/- The law FnWorkers: its walk. Conditions: none. Printed by gen_wklaw.py. -/
import Derived.Test.YtnhgdmhiblpknaaGreatDoorWkM9
import Derived.Test.YtnhgdmhiblpknaaGreatDoorWkM16
import Derived.Deep.DeepCutAuto
import Derived.Deep.RegionHeld3
namespace Go.Proofs.YtnhgdmhiblpknaaGreatDoor
open Go Go.RowKit

theorem specNew_det {a b m d A B M D : Int} {k : Bool} (h : newT a b m d = (A, B, M, D, k)) (w : World) : Calls Tryz.prog 49 #[.agg #[.int .i64 a, .int .i64 b], .int .i64 m, .int .i64 d] w fun r w' => r = .returned (.tuple #[.agg #[.int .i64 A, .int .i64 B, .int .i64 M, .int .i64 D, .int .i64 0, .slice none 0 0], .bool k]) ∧ Below w.heap.size w w' :=
  (specNew_any a b m d w).mono fun r w' hh => by
    obtain ⟨⟨A', B', M', D', k', rfl, h2⟩, hb⟩ := hh
    rw [h] at h2
    simp only [Prod.mk.injEq] at h2
    obtain ⟨rfl, rfl, rfl, rfl, rfl⟩ := h2
    exact ⟨rfl, hb⟩
theorem rd_two {w : World} {B : Nat} {t : TypeId} {v : Value} {X Y Z : List Pt} (e : X ++ Y = Z) (h : w.ownsRow B t 3 v (0 + X.length + Y.length) ([] ++ ptS.flat X ++ ptS.flat Y)) : Rd ptS w w.heap.size v Z := by
  subst e
  have h2 : w.ownsRow B t 3 v (0 + X.length + Y.length) (ptS.flat (X ++ Y)) := by rw [Shape.flat_append]; exact h
  exact Rd.of_own (S := ptS) h2 (by simp)
theorem join_yes {a b m d t : Int} {fs : List Pt} {R : List (List Int)} {A B M D T : Int} {L : List Pt} (h : joinV a b m d t fs R = (A, B, M, D, T, L, true)) : t ≤ T ∧ tkG A B M D T L = true := by
  rcases join_or a b m d t fs R with hz | ⟨n, hj, hnt, hk⟩
  · rw [hz] at h; unfold zeroT at h; simp at h
  · rw [hj] at h
    simp only [Prod.mk.injEq, and_true] at h
    obtain ⟨rfl, rfl, rfl, rfl, rfl, rfl⟩ := h
    exact ⟨hnt, hk⟩
set_option maxRecDepth 8000 in
set_option maxHeartbeats 16000000 in
theorem fnWorkers_walk (A : Option Addr) (n c : Nat) (B : Option Addr) (m d : Nat) (w : World) (ha : BytesAt w w.heap.size A n) (hb : BytesAt w w.heap.size B m) (he : Env w) :
    Calls Tryz.prog 4 #[.slice A n c, .slice B m d] w fun e w' => e = .returned (.bool true) ∧ Below w.heap.size w w' := by
  have Ha := Lib.hid ha; have Hb := Lib.hid hb; have He := Lib.hid he; clear ha hb he
  go_enter Tryz.func4, Tryz.ntmps4
  go_wp2_with fail
  refine (big_any A n c B m d _).mono ?_; rintro e w1 ⟨rfl, hb1⟩
  replace He := Lib.hid (He.out.on (hb1))
  have sz1 := Lib.hid (show w.heap.size + 0 ≤ w1.heap.size by have := hb1.size; (try simp only [World.size_alloc] at this); omega)
  have Hb1 := Lib.hid (bthen (Below.refl _ _) hb1)
  clear hb1
  cases bigB n m
  · go_wp2_with fail
    refine (drawRanges_any A n c _ (Ha.out.on (Hb1.out))).mono ?_; rintro e w2 ⟨⟨fa, fb, fm, fd, ft, vf, nvf, z, hnvf, rfl, hvf, hxf⟩, hb2⟩
    obtain ⟨fsf, -, of⟩ := hvf.pt
    obtain ⟨Cf, cf, rfl⟩ := own_formS of
    clear hnvf hvf
    have Of := Lib.hid of
    have GOf := Lib.hid (World.ownsRow.lt of)
    clear of
    replace He := Lib.hid (He.out.on (hb2))
    have sz2 := Lib.hid (show w1.heap.size + 0 ≤ w2.heap.size by have := hb2.size; (try simp only [World.size_alloc] at this); omega)
    have Hb2 := Lib.hid (bthen (Hb1.out) hb2)
    clear hb2
    clear hxf
    obtain ⟨rl, ok, hrl⟩ : ∃ L k, rangesV fa fb fm fd ft fsf z = (L, k) := ⟨_, _, rfl⟩
    have Hrl := Lib.hid hrl; clear hrl
    go_wp2_with fail
    refine (implRanges_is fa fb fm fd ft _ fsf z rl ok _ Hrl.out ((Rd.of_own Of.out rfl).on (bal (Below.refl _ _) _))).mono ?_; rintro e w3 ⟨⟨v1, rfl, n1⟩, hb3⟩
    have N1 := Lib.hid n1; clear n1
    replace He := Lib.hid (He.out.on (bthen (bal (Below.refl _ _) _) hb3))
    replace Of := Lib.hid (own_below Of.out (bthen (bal (Below.refl _ _) _) hb3))
    have bf := Lib.hid ((Blk.new w2 51 #[.int .i64 fa, .int .i64 fb, .int .i64 fm, .int .i64 fd, .int .i64 ft, .slice Cf fsf.length cf]).on hb3)
    have sz3 := Lib.hid (show w2.heap.size + 1 ≤ w3.heap.size by have := hb3.size; (try simp only [World.size_alloc] at this); omega)
    have Hb3 := Lib.hid (bthen (bal (Hb2.out) _) hb3)
    clear hb3
    have qbf_0 : w3.cell? ⟨w2.heap.size, 0, none⟩ = some (.int .i64 fa) := bf.out.cell 0
    have qbf_1 : w3.cell? ⟨w2.heap.size, 1, none⟩ = some (.int .i64 fb) := bf.out.cell 1
    have qbf_2 : w3.cell? ⟨w2.heap.size, 2, none⟩ = some (.int .i64 fm) := bf.out.cell 2
    have qbf_3 : w3.cell? ⟨w2.heap.size, 3, none⟩ = some (.int .i64 fd) := bf.out.cell 3
    have qbf_4 : w3.cell? ⟨w2.heap.size, 4, none⟩ = some (.int .i64 ft) := bf.out.cell 4
    have qbf_5 : w3.cell? ⟨w2.heap.size, 5, none⟩ = some (.slice Cf fsf.length cf) := bf.out.cell 5
    have qbf_l := bf.out.lt
    go_wp2_with fail
    clear qbf_0 qbf_1 qbf_2 qbf_3 qbf_4 qbf_5 qbf_l
    refine (specRanges_is fa fb fm fd ft _ fsf z rl ok _ Hrl.out (Rd.of_own Of.out rfl)).mono ?_; rintro e w4 ⟨⟨v2, rfl, n2⟩, hb4⟩
    have N2 := Lib.hid n2; clear n2
    replace He := Lib.hid (He.out.on (hb4))
    replace Of := Lib.hid (own_below Of.out (hb4))
    replace bf := Lib.hid (bf.out.on (hb4))
    replace N1 := Lib.hid (N1.out.on (hb4))
    have sz4 := Lib.hid (show w3.heap.size + 0 ≤ w4.heap.size by have := hb4.size; (try simp only [World.size_alloc] at this); omega)
    have Hb4 := Lib.hid (bthen (Hb3.out) hb4)
    clear hb4
    go_wp2_with fail
    refine (sameL_same _ _ rl _ N1.out N2.out).mono ?_; rintro e w5 ⟨rfl, hb5⟩
    replace He := Lib.hid (He.out.on (hb5))
    replace Of := Lib.hid (own_below Of.out (hb5))
    replace bf := Lib.hid (bf.out.on (hb5))
    replace N1 := Lib.hid (N1.out.on (hb5))
    replace N2 := Lib.hid (N2.out.on (hb5))
    have sz5 := Lib.hid (show w4.heap.size + 0 ≤ w5.heap.size by have := hb5.size; (try simp only [World.size_alloc] at this); omega)
    have Hb5 := Lib.hid (bthen (Hb4.out) hb5)
    clear hb5
    clear N1
    obtain ⟨A2, c2, rfl, hc2, hm2⟩ := nrd_form N2.out; unfold maxLen at hm2
    go_upto_if 82 with fail
    go_cut [4] from 11 to 228 (fun r wx => Below w5.heap.size w5 wx)
    case first =>
      as_aux_lemma =>
        cases ok
        · go_wp2
          go_meet
          exact Below.refl _ _
        · obtain ⟨hk, hz, hrL⟩ := ranges_of Hrl.out
          obtain ⟨hB9, ht9, hfs⟩ := tkG_parts hk
          have hTb := tkB_tot hB9
          have hch := ranges_chain (m := fm) (d := fd) (t := ft) (w := z) (by omega) hz.1
          rw [← hrL] at hch
          have hrl8 : rl.length ≤ 8 := by rw [hrL]; exact rangesL_len8 hz.2
          have hjr := join_rev (fs := fsf) hk hz
          rw [← hrL] at hjr
          have hrs := rest_of hk
          obtain ⟨T, hT⟩ : ∃ T, totI fm fd = T := ⟨_, rfl⟩
          have hrun : ∀ f l, 0 ≤ f → f ≤ l → l ≤ T → runV fa fb fm fd ft fsf f l = (hitsZ fa fb fm f l, true) := fun f l h1 h2 h3 => run_of hk h1 h2 (by rw [hT]; exact h3)
          rw [hT] at ht9 hTb hch hjr hrs
          obtain ⟨hc1, hce⟩ := chn_at _ _ _ hch
          have hcb := chn_bd hch
          clear hT hch hrL hB9 hk hz
          have Hhjr := Lib.hid hjr; clear hjr
          have Hhrs := Lib.hid hrs; clear hrs
          have Hhrun := Lib.hid hrun; clear hrun
          have Hhc1 := Lib.hid hc1; clear hc1
          have Hhce := Lib.hid hce; clear hce
          have Hhcb := Lib.hid hcb; clear hcb
          have Hhfs := Lib.hid hfs; clear hfs
          obtain ⟨i0, hi, hz0, hz1, hz2⟩ := info_parts infoPt2
          obtain ⟨i1, gi, gz0, gz1, gz2⟩ := info_parts infoSlJ
          obtain ⟨ht0, htT⟩ := ht9; obtain ⟨hT0, hT1⟩ := hTb
          have qbf_0 : w5.cell? ⟨w2.heap.size, 0, none⟩ = some (.int .i64 fa) := bf.out.cell 0
          have qbf_1 : w5.cell? ⟨w2.heap.size, 1, none⟩ = some (.int .i64 fb) := bf.out.cell 1
          have qbf_2 : w5.cell? ⟨w2.heap.size, 2, none⟩ = some (.int .i64 fm) := bf.out.cell 2
          have qbf_3 : w5.cell? ⟨w2.heap.size, 3, none⟩ = some (.int .i64 fd) := bf.out.cell 3
          have qbf_4 : w5.cell? ⟨w2.heap.size, 4, none⟩ = some (.int .i64 ft) := bf.out.cell 4
          have qbf_5 : w5.cell? ⟨w2.heap.size, 5, none⟩ = some (.slice Cf fsf.length cf) := bf.out.cell 5
          have qbf_l := bf.out.lt
          go_wp2
          clear qbf_0 qbf_1 qbf_2 qbf_3 qbf_4 qbf_5 qbf_l
          go_loopw [87, 11, 12, 13] (fun i9 at9 f9 b9 wr => ∃ j : Nat, j ≤ rl.length ∧ i9 = .int .i64 (j : Nat) ∧ at9 = .int .i64 (chAt ft rl j) ∧ Hid (wr.ownsRow w5.heap.size 117 3 f9 (hitsZ fa fb fm ft (chAt ft rl j)).length (ptS.flat (hitsZ fa fb fm ft (chAt ft rl j)))) ∧ Hid (Bk wr f9 b9 (rl.take j).reverse) ∧ Hid (Below w5.heap.size w5 wr)) (fun i9 _ _ _ _ => rl.length - (intOf i9).toNat)
          case atStart => exact ⟨0, Nat.zero_le _, rfl, rfl, Lib.hid (by show w5.ownsRow w5.heap.size 117 3 (.slice none 0 0) (hitsZ fa fb fm ft ft).length (ptS.flat (hitsZ fa fb fm ft ft)); rw [hitsZ_self]; exact ⟨rfl, Or.inl ⟨rfl, rfl⟩⟩), Lib.hid (Bk.nil _ _), Lib.hid (Below.refl _ _)⟩
          case round =>
            obtain ⟨j, hj, rfl, rfl, HF, HB, Hbw⟩ := hrel
            by_cases hjl : j < rl.length
            · have bf := Lib.hid (bf.out.on Hbw.out)
              have Of := Lib.hid (own_below Of.out Hbw.out)
              obtain ⟨vs2, g2, o2, rfl, hg2, hcell2, hin2⟩ := nrd_cell N2.out (by omega)
              obtain ⟨hcj, hlt⟩ := Hhc1.out j hjl
              have hb0 := Hhcb.out j (by omega)
              have hb1 := Hhcb.out (j + 1) (by omega)
              have hin := hin2 j hjl
              rw [hcj] at hin
              have hv2 := hcell2 j hjl
              clear hin2 hcell2
              have hs1 := hitsZ_add (a := fa) (b := fb) (m := fm) (f := ft) (i := chAt ft rl j) (l := chAt ft rl (j + 1)) (by omega) (by omega)
              have hrun9 := Hhrun.out (chAt ft rl j) (chAt ft rl (j + 1)) (by omega) (by omega) (by omega)
              have htk := rev_succ hjl
              rw [hcj] at htk
              clear hcj
              obtain ⟨x1, hx1⟩ : ∃ x, chAt ft rl (j + 1) = x := ⟨_, rfl⟩
              rw [hx1] at hlt hb1 hin hs1 hrun9 htk
              have Hx1 := Lib.hid hx1; clear hx1
              generalize chAt ft rl j = x0 at hlt hb0 hin hs1 hrun9 htk HF ⊢
              obtain ⟨LX, hLX⟩ : ∃ L, hitsZ fa fb fm x0 x1 = L := ⟨_, rfl⟩
              rw [hLX] at hs1 hrun9
              have hLn : LX.length ≤ 4011 := by rw [← hLX]; have := hitsZ_len fa fb fm x0 x1; omega
              clear hLX
              have Hhs1 := Lib.hid hs1; clear hs1
              have Hhrun9 := Lib.hid hrun9; clear hrun9
              have Hhtk := Lib.hid htk; clear htk
              obtain ⟨gx, ox, cx, hvx, hcx2, hcxm, hgx, e0, e1⟩ := pair_cells hin
              rw [hvx] at hv2
              clear hin hvx
              have hgW := hgx
              rw [← Hbw.out.cell (p := ⟨_, _, _⟩) hgx] at e0 e1
              rw [← Hbw.out.cell (p := ⟨_, _, _⟩) hg2] at hv2
              replace hgx := Nat.lt_of_lt_of_le hgx Hbw.out.size
              replace hg2 := Nat.lt_of_lt_of_le hg2 Hbw.out.size
              have hle : ¬ x1 ≤ x0 := by omega
              have hj0 : (0 : Int) ≤ (j : Int) := by omega
              have hj1 : (j : Int) < (rl.length : Int) := by omega
              unfold maxLen at hcxm
              obtain ⟨hb00, hb01⟩ := hb0; obtain ⟨hb10, hb11⟩ := hb1
              go_wp2_with fail
              refine wp_region_tame (by kernel_rfl) (by kernel_rfl) (fun T _ W hT => ?_)
              have hx := hT.cell
              repeat (go_big_quiet_step ((first | fail)))
              refine wpQuiet_nil ?_
              intro tt
              clear hx
              have hb6 := hT.below tt
              generalize W tt = w6 at hb6 ⊢
              clear hT
              have e0 := (hb6.cell (p := ⟨gx, ox, none⟩) hgx).trans e0
              have e1 := (hb6.cell (p := ⟨gx, ox + 1, none⟩) hgx).trans e1
              have hgx := Nat.lt_of_lt_of_le hgx hb6.size
              have HF := Lib.hid (own_below HF.out hb6)
              have HB := Lib.hid (HB.out.on hb6)
              clear hv2
              replace Of := Lib.hid (own_below Of.out (hb6))
              replace bf := Lib.hid (bf.out.on (hb6))
              have sz6 := Lib.hid (show wr.heap.size + 0 ≤ w6.heap.size by have := hb6.size; (try simp only [World.size_alloc] at this); omega)
              have Hb6 := Lib.hid (bthen (Hbw.out) hb6)
              clear hb6
              have HrF := Lib.hid (Rd.of_own (S := ptS) Of.out rfl)
              have qbf_0 : w6.cell? ⟨w2.heap.size, 0, none⟩ = some (.int .i64 fa) := bf.out.cell 0
              have qbf_1 : w6.cell? ⟨w2.heap.size, 1, none⟩ = some (.int .i64 fb) := bf.out.cell 1
              have qbf_2 : w6.cell? ⟨w2.heap.size, 2, none⟩ = some (.int .i64 fm) := bf.out.cell 2
              have qbf_3 : w6.cell? ⟨w2.heap.size, 3, none⟩ = some (.int .i64 fd) := bf.out.cell 3
              have qbf_4 : w6.cell? ⟨w2.heap.size, 4, none⟩ = some (.int .i64 ft) := bf.out.cell 4
              have qbf_5 : w6.cell? ⟨w2.heap.size, 5, none⟩ = some (.slice Cf fsf.length cf) := bf.out.cell 5
              have qbf_l := bf.out.lt
              have HS : Hid (∀ w', Below w6.heap.size w6 w' → (w'.cell? ⟨w2.heap.size, 0, none⟩ = some (.int .i64 fa) ∧ w'.cell? ⟨w2.heap.size, 1, none⟩ = some (.int .i64 fb) ∧ w'.cell? ⟨w2.heap.size, 2, none⟩ = some (.int .i64 fm) ∧ w'.cell? ⟨w2.heap.size, 3, none⟩ = some (.int .i64 fd) ∧ w'.cell? ⟨w2.heap.size, 4, none⟩ = some (.int .i64 ft) ∧ w'.cell? ⟨w2.heap.size, 5, none⟩ = some (.slice Cf fsf.length cf) ∧ w'.cell? ⟨gx, ox, none⟩ = some (.int .i64 x0) ∧ w'.cell? ⟨gx, ox + 1, none⟩ = some (.int .i64 x1) ∧ Below w6.heap.size w6 w')) := Lib.hid (fun w' hw => ⟨(hw.cell (p := ⟨w2.heap.size, 0, none⟩) bf.out.lt).trans (bf.out.cell 0), (hw.cell (p := ⟨w2.heap.size, 1, none⟩) bf.out.lt).trans (bf.out.cell 1), (hw.cell (p := ⟨w2.heap.size, 2, none⟩) bf.out.lt).trans (bf.out.cell 2), (hw.cell (p := ⟨w2.heap.size, 3, none⟩) bf.out.lt).trans (bf.out.cell 3), (hw.cell (p := ⟨w2.heap.size, 4, none⟩) bf.out.lt).trans (bf.out.cell 4), (hw.cell (p := ⟨w2.heap.size, 5, none⟩) bf.out.lt).trans (bf.out.cell 5), (hw.cell (p := ⟨gx, ox, none⟩) hgx).trans e0, (hw.cell (p := ⟨gx, ox + 1, none⟩) hgx).trans e1, hw⟩)
              have hrefl := Below.refl w6.heap.size w6
              go_wp2_with fail
              go_region_held3 (fun w' => w'.cell? ⟨w2.heap.size, 0, none⟩ = some (.int .i64 fa) ∧ w'.cell? ⟨w2.heap.size, 1, none⟩ = some (.int .i64 fb) ∧ w'.cell? ⟨w2.heap.size, 2, none⟩ = some (.int .i64 fm) ∧ w'.cell? ⟨w2.heap.size, 3, none⟩ = some (.int .i64 fd) ∧ w'.cell? ⟨w2.heap.size, 4, none⟩ = some (.int .i64 ft) ∧ w'.cell? ⟨w2.heap.size, 5, none⟩ = some (.slice Cf fsf.length cf) ∧ w'.cell? ⟨gx, ox, none⟩ = some (.int .i64 x0) ∧ w'.cell? ⟨gx, ox + 1, none⟩ = some (.int .i64 x1) ∧ Below w6.heap.size w6 w') (((go_split_ands; refine HS.out _ ?_; repeat (first | (with_reducible assumption) | (with_reducible refine Below.drew ?_) | (with_reducible refine bthen ?_ (by with_reducible assumption)))))) ((first | (go_at_call 31; (with_reducible refine (implRun_is fa fb fm fd ft _ fsf x0 x1 LX true _ Hhrun9.out (HrF.out.on (by go_split_ands; with_reducible assumption))).mono ?_); rintro e wa ⟨⟨vp, rfl, hp⟩, hba⟩)))
              have hb7 : Below w6.heap.size w6 wa := by go_split_ands; repeat (first | (with_reducible assumption) | (with_reducible refine Below.drew ?_) | (with_reducible refine bthen ?_ (by with_reducible assumption)))
              obtain ⟨wq7, hwq⟩ : ∃ x, x = wa := ⟨_, rfl⟩
              subst hwq
              clear HS hrefl
              clear qbf_0 qbf_1 qbf_2 qbf_3 qbf_4 qbf_5 qbf_l
              clear HrF
              have e0 := (hb7.cell (p := ⟨gx, ox, none⟩) hgx).trans e0
              have e1 := (hb7.cell (p := ⟨gx, ox + 1, none⟩) hgx).trans e1
              have hgx := Nat.lt_of_lt_of_le hgx hb7.size
              have HF := Lib.hid (own_below HF.out hb7)
              have HB := Lib.hid (HB.out.on hb7)
              have OP := Lib.hid hp
              have GOP := Lib.hid (World.ownsRow.lt hp)
              clear hp
              replace Of := Lib.hid (own_below Of.out (hb7))
              replace bf := Lib.hid (bf.out.on (hb7))
              have sz7 := Lib.hid (show w6.heap.size + 0 ≤ wq7.heap.size by have := hb7.size; (try simp only [World.size_alloc] at this); omega)
              have Hb7 := Lib.hid (bthen (Hb6.out) hb7)
              clear hb7
              have HrF := Lib.hid (Rd.of_own (S := ptS) Of.out rfl)
              have qbf_0 : wq7.cell? ⟨w2.heap.size, 0, none⟩ = some (.int .i64 fa) := bf.out.cell 0
              have qbf_1 : wq7.cell? ⟨w2.heap.size, 1, none⟩ = some (.int .i64 fb) := bf.out.cell 1
              have qbf_2 : wq7.cell? ⟨w2.heap.size, 2, none⟩ = some (.int .i64 fm) := bf.out.cell 2
              have qbf_3 : wq7.cell? ⟨w2.heap.size, 3, none⟩ = some (.int .i64 fd) := bf.out.cell 3
              have qbf_4 : wq7.cell? ⟨w2.heap.size, 4, none⟩ = some (.int .i64 ft) := bf.out.cell 4
              have qbf_5 : wq7.cell? ⟨w2.heap.size, 5, none⟩ = some (.slice Cf fsf.length cf) := bf.out.cell 5
              have qbf_l := bf.out.lt
              have HS : Hid (∀ w', Below wq7.heap.size wq7 w' → (w'.cell? ⟨w2.heap.size, 0, none⟩ = some (.int .i64 fa) ∧ w'.cell? ⟨w2.heap.size, 1, none⟩ = some (.int .i64 fb) ∧ w'.cell? ⟨w2.heap.size, 2, none⟩ = some (.int .i64 fm) ∧ w'.cell? ⟨w2.heap.size, 3, none⟩ = some (.int .i64 fd) ∧ w'.cell? ⟨w2.heap.size, 4, none⟩ = some (.int .i64 ft) ∧ w'.cell? ⟨w2.heap.size, 5, none⟩ = some (.slice Cf fsf.length cf) ∧ w'.cell? ⟨gx, ox, none⟩ = some (.int .i64 x0) ∧ w'.cell? ⟨gx, ox + 1, none⟩ = some (.int .i64 x1) ∧ Below wq7.heap.size wq7 w')) := Lib.hid (fun w' hw => ⟨(hw.cell (p := ⟨w2.heap.size, 0, none⟩) bf.out.lt).trans (bf.out.cell 0), (hw.cell (p := ⟨w2.heap.size, 1, none⟩) bf.out.lt).trans (bf.out.cell 1), (hw.cell (p := ⟨w2.heap.size, 2, none⟩) bf.out.lt).trans (bf.out.cell 2), (hw.cell (p := ⟨w2.heap.size, 3, none⟩) bf.out.lt).trans (bf.out.cell 3), (hw.cell (p := ⟨w2.heap.size, 4, none⟩) bf.out.lt).trans (bf.out.cell 4), (hw.cell (p := ⟨w2.heap.size, 5, none⟩) bf.out.lt).trans (bf.out.cell 5), (hw.cell (p := ⟨gx, ox, none⟩) hgx).trans e0, (hw.cell (p := ⟨gx, ox + 1, none⟩) hgx).trans e1, hw⟩)
              have hrefl := Below.refl wq7.heap.size wq7
              go_wp2_with fail
              go_region_held3 (fun w' => w'.cell? ⟨w2.heap.size, 0, none⟩ = some (.int .i64 fa) ∧ w'.cell? ⟨w2.heap.size, 1, none⟩ = some (.int .i64 fb) ∧ w'.cell? ⟨w2.heap.size, 2, none⟩ = some (.int .i64 fm) ∧ w'.cell? ⟨w2.heap.size, 3, none⟩ = some (.int .i64 fd) ∧ w'.cell? ⟨w2.heap.size, 4, none⟩ = some (.int .i64 ft) ∧ w'.cell? ⟨w2.heap.size, 5, none⟩ = some (.slice Cf fsf.length cf) ∧ w'.cell? ⟨gx, ox, none⟩ = some (.int .i64 x0) ∧ w'.cell? ⟨gx, ox + 1, none⟩ = some (.int .i64 x1) ∧ Below wq7.heap.size wq7 w') (((go_split_ands; refine HS.out _ ?_; repeat (first | (with_reducible assumption) | (with_reducible refine Below.drew ?_) | (with_reducible refine bthen ?_ (by with_reducible assumption)))))) ((first | (go_at_call 32; (with_reducible refine (specRun_is fa fb fm fd ft _ fsf x0 x1 LX true _ Hhrun9.out (HrF.out.on (by go_split_ands; with_reducible assumption))).mono ?_); rintro e wa ⟨⟨vq, rfl, hq⟩, hba⟩)))
              have hb8 : Below wq7.heap.size wq7 wa := by go_split_ands; repeat (first | (with_reducible assumption) | (with_reducible refine Below.drew ?_) | (with_reducible refine bthen ?_ (by with_reducible assumption)))
              obtain ⟨wq8, hwq⟩ : ∃ x, x = wa := ⟨_, rfl⟩
              subst hwq
              clear HS hrefl
              clear qbf_0 qbf_1 qbf_2 qbf_3 qbf_4 qbf_5 qbf_l
              clear HrF
              have e0 := (hb8.cell (p := ⟨gx, ox, none⟩) hgx).trans e0
              have e1 := (hb8.cell (p := ⟨gx, ox + 1, none⟩) hgx).trans e1
              have hgx := Nat.lt_of_lt_of_le hgx hb8.size
              have HF := Lib.hid (own_below HF.out hb8)
              have HB := Lib.hid (HB.out.on hb8)
              have OQ := Lib.hid hq
              have GOQ := Lib.hid (World.ownsRow.lt hq)
              clear hq
              replace Of := Lib.hid (own_below Of.out (hb8))
              replace bf := Lib.hid (bf.out.on (hb8))
              replace OP := Lib.hid (own_below OP.out (hb8))
              have sz8 := Lib.hid (show wq7.heap.size + 0 ≤ wq8.heap.size by have := hb8.size; (try simp only [World.size_alloc] at this); omega)
              have Hb8 := Lib.hid (bthen (Hb7.out) hb8)
              clear hb8
              go_wp2_with fail
              refine (qPt_same _ _ LX _ (Rd.of_own OP.out rfl) (Rd.of_own OQ.out rfl)).mono ?_; rintro e w9 ⟨rfl, hb9⟩
              have e0 := (hb9.cell (p := ⟨gx, ox, none⟩) hgx).trans e0
              have e1 := (hb9.cell (p := ⟨gx, ox + 1, none⟩) hgx).trans e1
              have hgx := Nat.lt_of_lt_of_le hgx hb9.size
              have HF := Lib.hid (own_below HF.out hb9)
              have HB := Lib.hid (HB.out.on hb9)
              replace Of := Lib.hid (own_below Of.out (hb9))
              replace bf := Lib.hid (bf.out.on (hb9))
              replace OP := Lib.hid (own_below OP.out (hb9))
              replace OQ := Lib.hid (own_below OQ.out (hb9))
              have sz9 := Lib.hid (show wq8.heap.size + 0 ≤ w9.heap.size by have := hb9.size; (try simp only [World.size_alloc] at this); omega)
              have Hb9 := Lib.hid (bthen (Hb8.out) hb9)
              clear hb9
              clear OP
              clear bf
              clear Of
              clear Hhrun9 hcx2 hcxm hg2
              obtain ⟨AQ, cQ, rfl, hcQ, hmQ, -⟩ := Rd.of_own (S := ptS) OQ.out rfl
              obtain ⟨hQ1, hQ2⟩ := own_srcP OQ.out
              have hFn : (hitsZ fa fb fm ft x0).length ≤ 4011 := by have := hitsZ_len fa fb fm ft x0; omega
              go_wp2_with (at_builtin; refine wpList_append_at rfl _ _ 49 rfl w5.heap.size 117 i0 (.agg #[.int .i64 0, .int .i64 0, .int .i64 0]) 3 24 Tryz.underlying49 hi hz0 hz1 hz2 rfl (by decide) _ _ _ rfl HF.out AQ LX.length cQ (ptS.flat LX) rfl (Shape.length_flat LX) hQ1 hQ2 (fun u hu => by obtain ⟨i9, rfl⟩ := pt_allI LX u hu; rfl) (by unfold maxLen; omega) (by omega) Hb9.out.size ?_)
              intro f2 wg hof hgf hat9
              have HF2 : Hid (wg.ownsRow w5.heap.size 117 3 f2 (hitsZ fa fb fm ft (x1)).length (ptS.flat (hitsZ fa fb fm ft (x1)))) := Lib.hid (by rw [← Hhs1.out, List.length_append, Shape.flat_append]; exact hof)
              have gr9 : ∀ g, Value.ownBlock _ = some g → w5.heap.size ≤ g := fun g hg => (World.ownsRow.lt HF.out g hg).1
              have HB2 := Lib.hid (HB.out.grown hgf hat9)
              replace e0 := (cell_grownL (p := ⟨gx, ox, none⟩) hgf hgx (fun g hg => Nat.lt_of_lt_of_le hgW (gr9 g hg))).trans e0
              replace e1 := (cell_grownL (p := ⟨gx, ox + 1, none⟩) hgf hgx (fun g hg => Nat.lt_of_lt_of_le hgW (gr9 g hg))).trans e1
              replace hgx := Nat.lt_of_lt_of_le hgx hgf.size
              have HbG := Lib.hid (Below.grown Hb9.out hgf Hb9.out.size gr9)
              clear hof hgf hat9 gr9 HF HB OQ GOQ hQ1 hQ2
              have hfl : ∀ k, f2.ownBlock = some k → k < wg.heap.size := fun k hk => (World.ownsRow.lt HF2.out k hk).2
              obtain ⟨vs, hvl, hrd, hob, hin⟩ := HB2.out
              obtain ⟨Ab, cb, rfl, hcb, hmb, hAb⟩ := hrd
              have Hin := Lib.hid hin; have Hfl := Lib.hid hfl; clear hin hfl hob
              have hvn : vs.length = j := by rw [hvl, List.length_reverse, List.length_take]; omega
              have Hs : Hid (∀ a, Ab = some a → ∀ j u, vs[j]? = some u → wg.cell? (a.add j) = some u) := Lib.hid (fun a ha j u hj => by have hl := (List.getElem?_eq_some_iff.1 hj).1; obtain ⟨g, o, e, -, hc⟩ := hAb (by omega); rw [e] at ha; cases ha; rw [Addr.add_lit, sl_cells hc j hl]; unfold vat; rw [List.getD_eq_getElem?_getD, hj]; rfl)
              have HA : Hid (Ab = none → j = 0) := Lib.hid (fun h => by rcases Nat.eq_zero_or_pos vs.length with h0 | h0; omega; obtain ⟨g, o, e, -⟩ := hAb h0; rw [h] at e; cases e)
              have Hone : Hid (∀ u ∈ vs, u.oneCell' = true) := Lib.hid (fun u hu => by obtain ⟨i9, hi9, rfl⟩ := List.getElem_of_mem hu; obtain ⟨A8, c8, h8, -⟩ := (Hin.out i9 (by omega)).1; have hv : vat vs i9 = vs[i9] := (by unfold vat; rw [List.getD_eq_getElem?_getD, List.getElem?_eq_getElem hi9]; rfl); rw [hv] at h8; rw [h8]; rfl)
              unfold maxLen at hmb
              clear hAb hcb
              have HS : Hid (∀ w', Below wg.heap.size wg w' → (w'.cell? ⟨gx, ox, none⟩ = some (.int .i64 x0) ∧ w'.cell? ⟨gx, ox + 1, none⟩ = some (.int .i64 x1) ∧ Below wg.heap.size wg w')) := Lib.hid (fun w' hw => ⟨(hw.cell (p := ⟨gx, ox, none⟩) hgx).trans e0, (hw.cell (p := ⟨gx, ox + 1, none⟩) hgx).trans e1, hw⟩)
              have hrefl := Below.refl wg.heap.size wg
              go_wp2_with fail
              go_region_held3 (fun w' => w'.cell? ⟨gx, ox, none⟩ = some (.int .i64 x0) ∧ w'.cell? ⟨gx, ox + 1, none⟩ = some (.int .i64 x1) ∧ Below wg.heap.size wg w') (((go_split_ands; refine HS.out _ ?_; repeat (first | (with_reducible assumption) | (with_reducible exact Below.refl _ _) | (with_reducible refine Below.drew ?_) | (with_reducible refine bal ?_ _))))) ((first | (refine step_append_src (by rfl) _ _ 54 (by rfl) 34 i1 (.slice none 0 0) 1 24 Tryz.underlying54 gi gz0 gz1 gz2 rfl (by decide) wg (by (try go_split_ands); repeat (first | (with_reducible assumption) | (with_reducible exact Below.refl _ _) | (with_reducible refine Below.drew ?_) | (with_reducible refine bal ?_ _))) (.slice (some ⟨wg.heap.size + 1, 0, none⟩) 1 1) 1 [(.slice (some ⟨wg.heap.size, 0, none⟩) 2 2)] (by rfl) (own_lit1 (by simp)) Ab j cb vs (by rfl) (by omega) HA.out (src_below (by (try go_split_ands); repeat (first | (with_reducible assumption) | (with_reducible exact Below.refl _ _) | (with_reducible refine Below.drew ?_) | (with_reducible refine bal ?_ _))) Hs.out) Hone.out (by unfold maxLen; omega) (by omega) ?_; intro v1 w1 ho1 hbA1 hk1)))
              have hI := hk1 wg.heap.size 3 #[.int .i64 x0, .int .i64 x1] ((Blk.new wg 3 _).alloc _) (by simp [Value.ownBlock])
              have hBk := Bk.cons (x := [x0, x1]) hbA1 hvl Hin.out (by rw [← hvl, hvn]; exact ho1) (rd_blk2 hI) (off_new Hfl.out (Nat.le_refl _) rfl) Hfl.out
              rw [← Hhtk.out] at hBk
              go_wp2
              go_roundw
              case rel => exact ⟨j + 1, by omega, by go_num, by rw [Hx1.out], Lib.hid (by rw [Hx1.out]; exact own_below HF2.out hbA1), Lib.hid hBk, Lib.hid (bthen HbG.out hbA1)⟩
              case measure => simp [intOf]; omega
            · as_aux_lemma =>
                obtain rfl : j = rl.length := by omega
                rw [Hhce.out] at HF ⊢
                rw [List.take_length] at HB
                have bf := Lib.hid (bf.out.on Hbw.out)
                have Of := Lib.hid (own_below Of.out Hbw.out)
                have NB := Lib.hid HB.out.nrd
                clear hj hjl Hhrun Hhc1 Hhcb Hhce HB N2
                have hadd := hitsZ_add (a := fa) (b := fb) (m := fm) (f := 0) (i := ft) (l := T) ht0 htT
                rw [← Hhfs.out] at hadd
                obtain ⟨LT, hLT⟩ : ∃ L, hitsZ fa fb fm 0 T = L := ⟨_, rfl⟩
                have Hjr := Lib.hid Hhjr.out
                rw [hLT] at hadd Hjr
                have hn1 : fsf.length ≤ 4011 := by rw [Hhfs.out]; have := hitsZ_len fa fb fm 0 ft; omega
                have hn2 : (hitsZ fa fb fm ft T).length ≤ 4011 := by have := hitsZ_len fa fb fm ft T; omega
                generalize hitsZ fa fb fm ft T = LF at hadd HF hn2
                have Hadd := Lib.hid hadd; clear hadd hLT
                obtain ⟨R9, hR9⟩ : ∃ R, T - ft = R := ⟨_, rfl⟩
                have Hrs := Lib.hid Hhrs.out
                rw [hR9] at Hrs
                have HR9 := Lib.hid hR9; clear hR9 Hhrs Hhjr
                have qbf_0 : wr.cell? ⟨w2.heap.size, 0, none⟩ = some (.int .i64 fa) := bf.out.cell 0
                have qbf_1 : wr.cell? ⟨w2.heap.size, 1, none⟩ = some (.int .i64 fb) := bf.out.cell 1
                have qbf_2 : wr.cell? ⟨w2.heap.size, 2, none⟩ = some (.int .i64 fm) := bf.out.cell 2
                have qbf_3 : wr.cell? ⟨w2.heap.size, 3, none⟩ = some (.int .i64 fd) := bf.out.cell 3
                have qbf_4 : wr.cell? ⟨w2.heap.size, 4, none⟩ = some (.int .i64 ft) := bf.out.cell 4
                have qbf_5 : wr.cell? ⟨w2.heap.size, 5, none⟩ = some (.slice Cf fsf.length cf) := bf.out.cell 5
                have qbf_l := bf.out.lt
                go_wp2_with fail
                clear qbf_0 qbf_1 qbf_2 qbf_3 qbf_4 qbf_5 qbf_l
                refine (implRest_is fa fb fm fd ft _ fsf R9 true _ Hrs.out (Rd.of_own Of.out rfl)).mono ?_; rintro e w6 ⟨rfl, hb6⟩
                replace Of := Lib.hid (own_below Of.out (hb6))
                replace bf := Lib.hid (bf.out.on (hb6))
                replace HF := Lib.hid (own_below HF.out (hb6))
                replace NB := Lib.hid (NB.out.on (hb6))
                have sz6 := Lib.hid (show wr.heap.size + 0 ≤ w6.heap.size by have := hb6.size; (try simp only [World.size_alloc] at this); omega)
                have Hb6 := Lib.hid (bthen (Hbw.out) hb6)
                clear hb6
                have qbf_0 : w6.cell? ⟨w2.heap.size, 0, none⟩ = some (.int .i64 fa) := bf.out.cell 0
                have qbf_1 : w6.cell? ⟨w2.heap.size, 1, none⟩ = some (.int .i64 fb) := bf.out.cell 1
                have qbf_2 : w6.cell? ⟨w2.heap.size, 2, none⟩ = some (.int .i64 fm) := bf.out.cell 2
                have qbf_3 : w6.cell? ⟨w2.heap.size, 3, none⟩ = some (.int .i64 fd) := bf.out.cell 3
                have qbf_4 : w6.cell? ⟨w2.heap.size, 4, none⟩ = some (.int .i64 ft) := bf.out.cell 4
                have qbf_5 : w6.cell? ⟨w2.heap.size, 5, none⟩ = some (.slice Cf fsf.length cf) := bf.out.cell 5
                have qbf_l := bf.out.lt
                go_wp2_with fail
                clear qbf_0 qbf_1 qbf_2 qbf_3 qbf_4 qbf_5 qbf_l
                refine (specRest_is fa fb fm fd ft _ fsf R9 true _ Hrs.out (Rd.of_own Of.out rfl)).mono ?_; rintro e w7 ⟨rfl, hb7⟩
                replace Of := Lib.hid (own_below Of.out (hb7))
                replace bf := Lib.hid (bf.out.on (hb7))
                replace HF := Lib.hid (own_below HF.out (hb7))
                replace NB := Lib.hid (NB.out.on (hb7))
                have sz7 := Lib.hid (show w6.heap.size + 0 ≤ w7.heap.size by have := hb7.size; (try simp only [World.size_alloc] at this); omega)
                have Hb7 := Lib.hid (bthen (Hb6.out) hb7)
                clear hb7
                have qbf_0 : w7.cell? ⟨w2.heap.size, 0, none⟩ = some (.int .i64 fa) := bf.out.cell 0
                have qbf_1 : w7.cell? ⟨w2.heap.size, 1, none⟩ = some (.int .i64 fb) := bf.out.cell 1
                have qbf_2 : w7.cell? ⟨w2.heap.size, 2, none⟩ = some (.int .i64 fm) := bf.out.cell 2
                have qbf_3 : w7.cell? ⟨w2.heap.size, 3, none⟩ = some (.int .i64 fd) := bf.out.cell 3
                have qbf_4 : w7.cell? ⟨w2.heap.size, 4, none⟩ = some (.int .i64 ft) := bf.out.cell 4
                have qbf_5 : w7.cell? ⟨w2.heap.size, 5, none⟩ = some (.slice Cf fsf.length cf) := bf.out.cell 5
                have qbf_l := bf.out.lt
                go_wp2_with fail
                clear qbf_0 qbf_1 qbf_2 qbf_3 qbf_4 qbf_5 qbf_l
                refine (implJoinR_any fa fb fm fd ft _ _ fsf rl.reverse _ (Rd.of_own Of.out rfl) (NB.out.on (Below.refl _ _))).mono ?_; rintro e w8 ⟨hr, hb8⟩; obtain ⟨Cg, cg, rfl, og⟩ := hr.at Hjr.out; clear hr
                have Og := Lib.hid og
                have GOg := Lib.hid (World.ownsRow.lt og)
                clear og
                replace Of := Lib.hid (own_below Of.out (hb8))
                replace bf := Lib.hid (bf.out.on (hb8))
                replace HF := Lib.hid (own_below HF.out (hb8))
                replace NB := Lib.hid (NB.out.on (hb8))
                have sz8 := Lib.hid (show w7.heap.size + 0 ≤ w8.heap.size by have := hb8.size; (try simp only [World.size_alloc] at this); omega)
                have Hb8 := Lib.hid (bthen (Hb7.out) hb8)
                clear hb8
                have qbf_0 : w8.cell? ⟨w2.heap.size, 0, none⟩ = some (.int .i64 fa) := bf.out.cell 0
                have qbf_1 : w8.cell? ⟨w2.heap.size, 1, none⟩ = some (.int .i64 fb) := bf.out.cell 1
                have qbf_2 : w8.cell? ⟨w2.heap.size, 2, none⟩ = some (.int .i64 fm) := bf.out.cell 2
                have qbf_3 : w8.cell? ⟨w2.heap.size, 3, none⟩ = some (.int .i64 fd) := bf.out.cell 3
                have qbf_4 : w8.cell? ⟨w2.heap.size, 4, none⟩ = some (.int .i64 ft) := bf.out.cell 4
                have qbf_5 : w8.cell? ⟨w2.heap.size, 5, none⟩ = some (.slice Cf fsf.length cf) := bf.out.cell 5
                have qbf_l := bf.out.lt
                go_wp2_with fail
                clear qbf_0 qbf_1 qbf_2 qbf_3 qbf_4 qbf_5 qbf_l
                refine (specJoinR_any fa fb fm fd ft _ _ fsf rl.reverse _ ((Rd.of_own Of.out rfl).on (bal (Below.refl _ _) _)) (NB.out.on (bal (Below.refl _ _) _))).mono ?_; rintro e w9 ⟨hr, hb9⟩; obtain ⟨Ch, ch, rfl, oh⟩ := hr.at Hjr.out; clear hr
                have Oh := Lib.hid oh
                have GOh := Lib.hid (World.ownsRow.lt oh)
                clear oh
                replace Of := Lib.hid (own_below Of.out (bthen (bal (Below.refl _ _) _) hb9))
                replace bf := Lib.hid (bf.out.on (bthen (bal (Below.refl _ _) _) hb9))
                replace HF := Lib.hid (own_below HF.out (bthen (bal (Below.refl _ _) _) hb9))
                replace NB := Lib.hid (NB.out.on (bthen (bal (Below.refl _ _) _) hb9))
                replace Og := Lib.hid (own_below Og.out (bthen (bal (Below.refl _ _) _) hb9))
                have bg := Lib.hid ((Blk.new w8 51 #[.int .i64 fa, .int .i64 fb, .int .i64 fm, .int .i64 fd, .int .i64 T, .slice Cg LT.length cg]).on hb9)
                have sz9 := Lib.hid (show w8.heap.size + 1 ≤ w9.heap.size by have := hb9.size; (try simp only [World.size_alloc] at this); omega)
                have Hb9 := Lib.hid (bthen (bal (Hb8.out) _) hb9)
                clear hb9
                clear NB
                have qbg_0 : w9.cell? ⟨w8.heap.size, 0, none⟩ = some (.int .i64 fa) := bg.out.cell 0
                have qbg_1 : w9.cell? ⟨w8.heap.size, 1, none⟩ = some (.int .i64 fb) := bg.out.cell 1
                have qbg_2 : w9.cell? ⟨w8.heap.size, 2, none⟩ = some (.int .i64 fm) := bg.out.cell 2
                have qbg_3 : w9.cell? ⟨w8.heap.size, 3, none⟩ = some (.int .i64 fd) := bg.out.cell 3
                have qbg_4 : w9.cell? ⟨w8.heap.size, 4, none⟩ = some (.int .i64 T) := bg.out.cell 4
                have qbg_5 : w9.cell? ⟨w8.heap.size, 5, none⟩ = some (.slice Cg LT.length cg) := bg.out.cell 5
                have qbg_l := bg.out.lt
                have qbf_0 : w9.cell? ⟨w2.heap.size, 0, none⟩ = some (.int .i64 fa) := bf.out.cell 0
                have qbf_1 : w9.cell? ⟨w2.heap.size, 1, none⟩ = some (.int .i64 fb) := bf.out.cell 1
                have qbf_2 : w9.cell? ⟨w2.heap.size, 2, none⟩ = some (.int .i64 fm) := bf.out.cell 2
                have qbf_3 : w9.cell? ⟨w2.heap.size, 3, none⟩ = some (.int .i64 fd) := bf.out.cell 3
                have qbf_4 : w9.cell? ⟨w2.heap.size, 4, none⟩ = some (.int .i64 ft) := bf.out.cell 4
                have qbf_5 : w9.cell? ⟨w2.heap.size, 5, none⟩ = some (.slice Cf fsf.length cf) := bf.out.cell 5
                have qbf_l := bf.out.lt
                go_wp2_with fail
                clear qbg_0 qbg_1 qbg_2 qbg_3 qbg_4 qbg_5 qbg_l qbf_0 qbf_1 qbf_2 qbf_3 qbf_4 qbf_5 qbf_l
                obtain ⟨w10, hw10⟩ : ∃ wq9, (w9.alloc (Obj.cells #[.int .i64 fa, .int .i64 fb, .int .i64 fm, .int .i64 fd, .int .i64 T, .slice Ch LT.length ch] 51)) = wq9 := ⟨_, rfl⟩
                have hb10 : Below (w9.alloc (Obj.cells #[.int .i64 fa, .int .i64 fb, .int .i64 fm, .int .i64 fd, .int .i64 T, .slice Ch LT.length ch] 51)).heap.size (w9.alloc (Obj.cells #[.int .i64 fa, .int .i64 fb, .int .i64 fm, .int .i64 fd, .int .i64 T, .slice Ch LT.length ch] 51)) w10 := by rw [← hw10]; exact Below.refl _ _
                rw [hw10]
                replace Of := Lib.hid (own_below Of.out (bthen (bal (Below.refl _ _) _) hb10))
                replace bf := Lib.hid (bf.out.on (bthen (bal (Below.refl _ _) _) hb10))
                replace HF := Lib.hid (own_below HF.out (bthen (bal (Below.refl _ _) _) hb10))
                replace Og := Lib.hid (own_below Og.out (bthen (bal (Below.refl _ _) _) hb10))
                replace bg := Lib.hid (bg.out.on (bthen (bal (Below.refl _ _) _) hb10))
                replace Oh := Lib.hid (own_below Oh.out (bthen (bal (Below.refl _ _) _) hb10))
                have bh := Lib.hid ((Blk.new w9 51 #[.int .i64 fa, .int .i64 fb, .int .i64 fm, .int .i64 fd, .int .i64 T, .slice Ch LT.length ch]).on hb10)
                have sz10 := Lib.hid (show w9.heap.size + 1 ≤ w10.heap.size by have := hb10.size; (try simp only [World.size_alloc] at this); omega)
                have Hb10 := Lib.hid (bthen (bal (Hb9.out) _) hb10)
                clear hb10
                clear hw10
                obtain ⟨AF, cF, rfl, -, -, -⟩ := Rd.of_own (S := ptS) HF.out rfl
                have HF1 := Lib.hid (own_srcP HF.out)
                have Of1 := Lib.hid (own_srcP Of.out)
                have Hrg := Lib.hid (Rd.of_own (S := ptS) Og.out rfl)
                have Hrh := Lib.hid (Rd.of_own (S := ptS) Oh.out rfl)
                have hRe : T = ft + R9 := by have := HR9.out; omega
                have hw1 : IntKind.i64.wrap (ft + R9) = ft + R9 := by rw [IntKind.wrap_i64]; omega
                have hne : (T != ft + R9) = false := by rw [hRe]; simp
                clear hRe
                have HS : Hid (∀ w', Below w10.heap.size w10 w' → (w'.cell? ⟨w2.heap.size, 0, none⟩ = some (.int .i64 fa) ∧ w'.cell? ⟨w2.heap.size, 1, none⟩ = some (.int .i64 fb) ∧ w'.cell? ⟨w2.heap.size, 2, none⟩ = some (.int .i64 fm) ∧ w'.cell? ⟨w2.heap.size, 3, none⟩ = some (.int .i64 fd) ∧ w'.cell? ⟨w2.heap.size, 4, none⟩ = some (.int .i64 ft) ∧ w'.cell? ⟨w2.heap.size, 5, none⟩ = some (.slice Cf fsf.length cf) ∧ w'.cell? ⟨w8.heap.size, 0, none⟩ = some (.int .i64 fa) ∧ w'.cell? ⟨w8.heap.size, 1, none⟩ = some (.int .i64 fb) ∧ w'.cell? ⟨w8.heap.size, 2, none⟩ = some (.int .i64 fm) ∧ w'.cell? ⟨w8.heap.size, 3, none⟩ = some (.int .i64 fd) ∧ w'.cell? ⟨w8.heap.size, 4, none⟩ = some (.int .i64 T) ∧ w'.cell? ⟨w8.heap.size, 5, none⟩ = some (.slice Cg LT.length cg) ∧ w'.cell? ⟨w9.heap.size, 0, none⟩ = some (.int .i64 fa) ∧ w'.cell? ⟨w9.heap.size, 1, none⟩ = some (.int .i64 fb) ∧ w'.cell? ⟨w9.heap.size, 2, none⟩ = some (.int .i64 fm) ∧ w'.cell? ⟨w9.heap.size, 3, none⟩ = some (.int .i64 fd) ∧ w'.cell? ⟨w9.heap.size, 4, none⟩ = some (.int .i64 T) ∧ w'.cell? ⟨w9.heap.size, 5, none⟩ = some (.slice Ch LT.length ch) ∧ Below w10.heap.size w10 w')) := Lib.hid (fun w' hw => ⟨(hw.cell (p := ⟨w2.heap.size, 0, none⟩) bf.out.lt).trans (bf.out.cell 0), (hw.cell (p := ⟨w2.heap.size, 1, none⟩) bf.out.lt).trans (bf.out.cell 1), (hw.cell (p := ⟨w2.heap.size, 2, none⟩) bf.out.lt).trans (bf.out.cell 2), (hw.cell (p := ⟨w2.heap.size, 3, none⟩) bf.out.lt).trans (bf.out.cell 3), (hw.cell (p := ⟨w2.heap.size, 4, none⟩) bf.out.lt).trans (bf.out.cell 4), (hw.cell (p := ⟨w2.heap.size, 5, none⟩) bf.out.lt).trans (bf.out.cell 5), (hw.cell (p := ⟨w8.heap.size, 0, none⟩) bg.out.lt).trans (bg.out.cell 0), (hw.cell (p := ⟨w8.heap.size, 1, none⟩) bg.out.lt).trans (bg.out.cell 1), (hw.cell (p := ⟨w8.heap.size, 2, none⟩) bg.out.lt).trans (bg.out.cell 2), (hw.cell (p := ⟨w8.heap.size, 3, none⟩) bg.out.lt).trans (bg.out.cell 3), (hw.cell (p := ⟨w8.heap.size, 4, none⟩) bg.out.lt).trans (bg.out.cell 4), (hw.cell (p := ⟨w8.heap.size, 5, none⟩) bg.out.lt).trans (bg.out.cell 5), (hw.cell (p := ⟨w9.heap.size, 0, none⟩) bh.out.lt).trans (bh.out.cell 0), (hw.cell (p := ⟨w9.heap.size, 1, none⟩) bh.out.lt).trans (bh.out.cell 1), (hw.cell (p := ⟨w9.heap.size, 2, none⟩) bh.out.lt).trans (bh.out.cell 2), (hw.cell (p := ⟨w9.heap.size, 3, none⟩) bh.out.lt).trans (bh.out.cell 3), (hw.cell (p := ⟨w9.heap.size, 4, none⟩) bh.out.lt).trans (bh.out.cell 4), (hw.cell (p := ⟨w9.heap.size, 5, none⟩) bh.out.lt).trans (bh.out.cell 5), hw⟩)
                have hrefl := Below.refl w10.heap.size w10
                have qbf_0 : w10.cell? ⟨w2.heap.size, 0, none⟩ = some (.int .i64 fa) := bf.out.cell 0
                have qbf_1 : w10.cell? ⟨w2.heap.size, 1, none⟩ = some (.int .i64 fb) := bf.out.cell 1
                have qbf_2 : w10.cell? ⟨w2.heap.size, 2, none⟩ = some (.int .i64 fm) := bf.out.cell 2
                have qbf_3 : w10.cell? ⟨w2.heap.size, 3, none⟩ = some (.int .i64 fd) := bf.out.cell 3
                have qbf_4 : w10.cell? ⟨w2.heap.size, 4, none⟩ = some (.int .i64 ft) := bf.out.cell 4
                have qbf_5 : w10.cell? ⟨w2.heap.size, 5, none⟩ = some (.slice Cf fsf.length cf) := bf.out.cell 5
                have qbf_l := bf.out.lt
                have qbg_0 : w10.cell? ⟨w8.heap.size, 0, none⟩ = some (.int .i64 fa) := bg.out.cell 0
                have qbg_1 : w10.cell? ⟨w8.heap.size, 1, none⟩ = some (.int .i64 fb) := bg.out.cell 1
                have qbg_2 : w10.cell? ⟨w8.heap.size, 2, none⟩ = some (.int .i64 fm) := bg.out.cell 2
                have qbg_3 : w10.cell? ⟨w8.heap.size, 3, none⟩ = some (.int .i64 fd) := bg.out.cell 3
                have qbg_4 : w10.cell? ⟨w8.heap.size, 4, none⟩ = some (.int .i64 T) := bg.out.cell 4
                have qbg_5 : w10.cell? ⟨w8.heap.size, 5, none⟩ = some (.slice Cg LT.length cg) := bg.out.cell 5
                have qbg_l := bg.out.lt
                have qbh_0 : w10.cell? ⟨w9.heap.size, 0, none⟩ = some (.int .i64 fa) := bh.out.cell 0
                have qbh_1 : w10.cell? ⟨w9.heap.size, 1, none⟩ = some (.int .i64 fb) := bh.out.cell 1
                have qbh_2 : w10.cell? ⟨w9.heap.size, 2, none⟩ = some (.int .i64 fm) := bh.out.cell 2
                have qbh_3 : w10.cell? ⟨w9.heap.size, 3, none⟩ = some (.int .i64 fd) := bh.out.cell 3
                have qbh_4 : w10.cell? ⟨w9.heap.size, 4, none⟩ = some (.int .i64 T) := bh.out.cell 4
                have qbh_5 : w10.cell? ⟨w9.heap.size, 5, none⟩ = some (.slice Ch LT.length ch) := bh.out.cell 5
                have qbh_l := bh.out.lt
                go_region_held3 (fun w' => w'.cell? ⟨w2.heap.size, 0, none⟩ = some (.int .i64 fa) ∧ w'.cell? ⟨w2.heap.size, 1, none⟩ = some (.int .i64 fb) ∧ w'.cell? ⟨w2.heap.size, 2, none⟩ = some (.int .i64 fm) ∧ w'.cell? ⟨w2.heap.size, 3, none⟩ = some (.int .i64 fd) ∧ w'.cell? ⟨w2.heap.size, 4, none⟩ = some (.int .i64 ft) ∧ w'.cell? ⟨w2.heap.size, 5, none⟩ = some (.slice Cf fsf.length cf) ∧ w'.cell? ⟨w8.heap.size, 0, none⟩ = some (.int .i64 fa) ∧ w'.cell? ⟨w8.heap.size, 1, none⟩ = some (.int .i64 fb) ∧ w'.cell? ⟨w8.heap.size, 2, none⟩ = some (.int .i64 fm) ∧ w'.cell? ⟨w8.heap.size, 3, none⟩ = some (.int .i64 fd) ∧ w'.cell? ⟨w8.heap.size, 4, none⟩ = some (.int .i64 T) ∧ w'.cell? ⟨w8.heap.size, 5, none⟩ = some (.slice Cg LT.length cg) ∧ w'.cell? ⟨w9.heap.size, 0, none⟩ = some (.int .i64 fa) ∧ w'.cell? ⟨w9.heap.size, 1, none⟩ = some (.int .i64 fb) ∧ w'.cell? ⟨w9.heap.size, 2, none⟩ = some (.int .i64 fm) ∧ w'.cell? ⟨w9.heap.size, 3, none⟩ = some (.int .i64 fd) ∧ w'.cell? ⟨w9.heap.size, 4, none⟩ = some (.int .i64 T) ∧ w'.cell? ⟨w9.heap.size, 5, none⟩ = some (.slice Ch LT.length ch) ∧ Below w10.heap.size w10 w') (((go_split_ands; refine HS.out _ ?_; repeat (first | (with_reducible assumption) | (with_reducible exact Below.refl _ _) | (with_reducible refine Below.drew ?_) | (with_reducible refine bal ?_ _) | (with_reducible refine bthen ?_ (by with_reducible assumption)))))) ((first | (go_at_call 38; (with_reducible refine (qTk_same fa fb fm fd T _ _ LT _ (Hrg.out.on (by go_split_ands; with_reducible assumption)) (Hrh.out.on (by go_split_ands; with_reducible assumption))).mono ?_); rintro e wa ⟨rfl, hba⟩) | (refine step_append_srcW (by simp [Region.wanted, yielded]) _ _ 49 (by rfl) 117 i0 (.agg #[.int .i64 0, .int .i64 0, .int .i64 0]) 3 24 Tryz.underlying49 hi hz0 hz1 hz2 rfl (by decide) w10 (by (try go_split_ands); repeat (first | (with_reducible assumption) | (with_reducible exact Below.refl _ _) | (with_reducible refine Below.drew ?_) | (with_reducible refine bal ?_ _) | (with_reducible refine bthen ?_ (by with_reducible assumption)))) _ 0 [] (by rfl) (own_empty (by first | (simp; done) | (have h9 := hba.size; simp at h9 ⊢; omega))) Cf fsf.length cf (ptS.flat fsf) (by rfl) (Shape.length_flat fsf) Of1.out.1 (src_below (by (try go_split_ands); repeat (first | (with_reducible assumption) | (with_reducible exact Below.refl _ _) | (with_reducible refine Below.drew ?_) | (with_reducible refine bal ?_ _) | (with_reducible refine bthen ?_ (by with_reducible assumption)))) Of1.out.2) (fun u hu => by obtain ⟨i9, rfl⟩ := pt_allI fsf u hu; rfl) (by unfold maxLen; omega) (by omega) ?_; intro v1 w1 ho1 hbA1 hk1) | (refine step_append_srcW (by simp [Region.wanted, yielded]) _ _ 49 (by rfl) 117 i0 (.agg #[.int .i64 0, .int .i64 0, .int .i64 0]) 3 24 Tryz.underlying49 hi hz0 hz1 hz2 rfl (by decide) w10 (by (try go_split_ands); repeat (first | (with_reducible assumption) | (with_reducible exact Below.refl _ _) | (with_reducible refine Below.drew ?_) | (with_reducible refine bal ?_ _) | (with_reducible refine bthen ?_ (by with_reducible assumption)))) v1 (0 + fsf.length) ([] ++ ptS.flat fsf) (by rfl) (by with_reducible exact ho1) AF LF.length cF (ptS.flat LF) (by rfl) (Shape.length_flat LF) HF1.out.1 (src_below (by (try go_split_ands); repeat (first | (with_reducible assumption) | (with_reducible exact Below.refl _ _) | (with_reducible refine Below.drew ?_) | (with_reducible refine bal ?_ _) | (with_reducible refine bthen ?_ (by with_reducible assumption)))) HF1.out.2) (fun u hu => by obtain ⟨i9, rfl⟩ := pt_allI LF u hu; rfl) (by unfold maxLen; omega) (by omega) ?_; intro v2 w2 ho2 hbA2 hk2) | (go_at_call 33; (with_reducible refine (qPt_same _ _ LT _ (Hrh.out.on (by (try go_split_ands); repeat (first | (with_reducible assumption) | (with_reducible exact Below.refl _ _) | (with_reducible refine Below.drew ?_) | (with_reducible refine bal ?_ _) | (with_reducible refine bthen ?_ (by with_reducible assumption))))) (rd_two Hadd.out ho2)).mono ?_); rintro e wb ⟨rfl, hbb⟩)))
                have hbE : Below w10.heap.size w10 wb := bthen hbA2 hbb
                clear HS hrefl qbf_0 qbf_1 qbf_2 qbf_3 qbf_4 qbf_5 qbf_l qbg_0 qbg_1 qbg_2 qbg_3 qbg_4 qbg_5 qbg_l qbh_0 qbh_1 qbh_2 qbh_3 qbh_4 qbh_5 qbh_l
                go_wp2
                go_meet
                exact bthen Hb10.out hbE
    have hbc := hcut
    obtain ⟨w6, hw9⟩ : ∃ x, x = wc := ⟨_, rfl⟩
    subst hw9
    have hb6 := hbc; clear hbc
    replace He := Lib.hid (He.out.on (hb6))
    replace Of := Lib.hid (own_below Of.out (hb6))
    replace bf := Lib.hid (bf.out.on (hb6))
    replace N2 := Lib.hid (N2.out.on (hb6))
    have sz6 := Lib.hid (show w5.heap.size + 0 ≤ w6.heap.size by have := hb6.size; (try simp only [World.size_alloc] at this); omega)
    have Hb6 := Lib.hid (bthen (Hb5.out) hb6)
    clear hb6
    clear bf
    clear Of
    clear N2
    clear Hrl hc2 hm2
    clear sz1 GOf Hb1 sz2 Hb2 sz3 Hb3 sz4 Hb4 sz5 Hb5 sz6
    go_wp2_with fail
    refine (drawJoin_any B m d _ (Hb.out.on (Hb6.out))).mono ?_; rintro e w7 ⟨⟨ua, ub, um, ud, ut, vu, nvu, vl, ess, hnvu, rfl, hvu, hnl⟩, hb7⟩
    obtain ⟨fsu, -, ou⟩ := hvu.pt
    obtain ⟨Cu, cu, rfl⟩ := own_formS ou
    clear hnvu hvu
    have NL := Lib.hid hnl; clear hnl
    have Ou := Lib.hid ou
    have GOu := Lib.hid (World.ownsRow.lt ou)
    clear ou
    replace He := Lib.hid (He.out.on (hb7))
    have sz7 := Lib.hid (show w6.heap.size + 0 ≤ w7.heap.size by have := hb7.size; (try simp only [World.size_alloc] at this); omega)
    have Hb7 := Lib.hid (bthen (Hb6.out) hb7)
    clear hb7
    obtain ⟨JA, JB, JM, JD, JT, JL, jk, hj⟩ : ∃ A B M D T L k, joinV ua ub um ud ut fsu ess = (A, B, M, D, T, L, k) := ⟨_, _, _, _, _, _, _, rfl⟩
    have Hj := Lib.hid hj; clear hj
    go_wp2_with fail
    refine (implJoinR_any ua ub um ud ut _ _ fsu ess _ ((Rd.of_own Ou.out rfl).on (bal (Below.refl _ _) _)) (NL.out.on (bal (Below.refl _ _) _))).mono ?_; rintro e w8 ⟨hr, hb8⟩; obtain ⟨Cj, cj, rfl, oj⟩ := hr.at Hj.out; clear hr
    have Oj := Lib.hid oj
    have GOj := Lib.hid (World.ownsRow.lt oj)
    clear oj
    replace He := Lib.hid (He.out.on (bthen (bal (Below.refl _ _) _) hb8))
    replace Ou := Lib.hid (own_below Ou.out (bthen (bal (Below.refl _ _) _) hb8))
    replace NL := Lib.hid (NL.out.on (bthen (bal (Below.refl _ _) _) hb8))
    have bu := Lib.hid ((Blk.new w7 51 #[.int .i64 ua, .int .i64 ub, .int .i64 um, .int .i64 ud, .int .i64 ut, .slice Cu fsu.length cu]).on hb8)
    have sz8 := Lib.hid (show w7.heap.size + 1 ≤ w8.heap.size by have := hb8.size; (try simp only [World.size_alloc] at this); omega)
    have Hb8 := Lib.hid (bthen (bal (Hb7.out) _) hb8)
    clear hb8
    have qbu_0 : w8.cell? ⟨w7.heap.size, 0, none⟩ = some (.int .i64 ua) := bu.out.cell 0
    have qbu_1 : w8.cell? ⟨w7.heap.size, 1, none⟩ = some (.int .i64 ub) := bu.out.cell 1
    have qbu_2 : w8.cell? ⟨w7.heap.size, 2, none⟩ = some (.int .i64 um) := bu.out.cell 2
    have qbu_3 : w8.cell? ⟨w7.heap.size, 3, none⟩ = some (.int .i64 ud) := bu.out.cell 3
    have qbu_4 : w8.cell? ⟨w7.heap.size, 4, none⟩ = some (.int .i64 ut) := bu.out.cell 4
    have qbu_5 : w8.cell? ⟨w7.heap.size, 5, none⟩ = some (.slice Cu fsu.length cu) := bu.out.cell 5
    have qbu_l := bu.out.lt
    go_wp2_with fail
    clear qbu_0 qbu_1 qbu_2 qbu_3 qbu_4 qbu_5 qbu_l
    refine (specJoinR_any ua ub um ud ut _ _ fsu ess _ ((Rd.of_own Ou.out rfl).on (bal (Below.refl _ _) _)) (NL.out.on (bal (Below.refl _ _) _))).mono ?_; rintro e w9 ⟨hr, hb9⟩; obtain ⟨Ck, ck, rfl, ok⟩ := hr.at Hj.out; clear hr
    have Ok := Lib.hid ok
    have GOk := Lib.hid (World.ownsRow.lt ok)
    clear ok
    replace He := Lib.hid (He.out.on (bthen (bal (Below.refl _ _) _) hb9))
    replace Ou := Lib.hid (own_below Ou.out (bthen (bal (Below.refl _ _) _) hb9))
    replace NL := Lib.hid (NL.out.on (bthen (bal (Below.refl _ _) _) hb9))
    replace bu := Lib.hid (bu.out.on (bthen (bal (Below.refl _ _) _) hb9))
    replace Oj := Lib.hid (own_below Oj.out (bthen (bal (Below.refl _ _) _) hb9))
    have bj := Lib.hid ((Blk.new w8 51 #[.int .i64 JA, .int .i64 JB, .int .i64 JM, .int .i64 JD, .int .i64 JT, .slice Cj JL.length cj]).on hb9)
    have sz9 := Lib.hid (show w8.heap.size + 1 ≤ w9.heap.size by have := hb9.size; (try simp only [World.size_alloc] at this); omega)
    have Hb9 := Lib.hid (bthen (bal (Hb8.out) _) hb9)
    clear hb9
    go_upto_region 34 with fail
    obtain ⟨w10, hw10⟩ : ∃ wq9, (w9.alloc (Obj.cells #[.int .i64 JA, .int .i64 JB, .int .i64 JM, .int .i64 JD, .int .i64 JT, .slice Ck JL.length ck] 51)) = wq9 := ⟨_, rfl⟩
    have hb10 : Below (w9.alloc (Obj.cells #[.int .i64 JA, .int .i64 JB, .int .i64 JM, .int .i64 JD, .int .i64 JT, .slice Ck JL.length ck] 51)).heap.size (w9.alloc (Obj.cells #[.int .i64 JA, .int .i64 JB, .int .i64 JM, .int .i64 JD, .int .i64 JT, .slice Ck JL.length ck] 51)) w10 := by rw [← hw10]; exact Below.refl _ _
    rw [hw10]
    replace He := Lib.hid (He.out.on (bthen (bal (Below.refl _ _) _) hb10))
    replace Ou := Lib.hid (own_below Ou.out (bthen (bal (Below.refl _ _) _) hb10))
    replace NL := Lib.hid (NL.out.on (bthen (bal (Below.refl _ _) _) hb10))
    replace bu := Lib.hid (bu.out.on (bthen (bal (Below.refl _ _) _) hb10))
    replace Oj := Lib.hid (own_below Oj.out (bthen (bal (Below.refl _ _) _) hb10))
    replace bj := Lib.hid (bj.out.on (bthen (bal (Below.refl _ _) _) hb10))
    replace Ok := Lib.hid (own_below Ok.out (bthen (bal (Below.refl _ _) _) hb10))
    have bk := Lib.hid ((Blk.new w9 51 #[.int .i64 JA, .int .i64 JB, .int .i64 JM, .int .i64 JD, .int .i64 JT, .slice Ck JL.length ck]).on hb10)
    have sz10 := Lib.hid (show w9.heap.size + 1 ≤ w10.heap.size by have := hb10.size; (try simp only [World.size_alloc] at this); omega)
    have Hb10 := Lib.hid (bthen (bal (Hb9.out) _) hb10)
    clear hb10
    clear hw10
    skip
    go_cut [269] from 246 to 269 (fun r wx => r = .bool false ∧ Below w10.heap.size w10 wx)
    case first =>
      as_aux_lemma =>
        cases jk
        · have qbj_0 : w10.cell? ⟨w8.heap.size, 0, none⟩ = some (.int .i64 JA) := bj.out.cell 0
          have qbj_1 : w10.cell? ⟨w8.heap.size, 1, none⟩ = some (.int .i64 JB) := bj.out.cell 1
          have qbj_2 : w10.cell? ⟨w8.heap.size, 2, none⟩ = some (.int .i64 JM) := bj.out.cell 2
          have qbj_3 : w10.cell? ⟨w8.heap.size, 3, none⟩ = some (.int .i64 JD) := bj.out.cell 3
          have qbj_4 : w10.cell? ⟨w8.heap.size, 4, none⟩ = some (.int .i64 JT) := bj.out.cell 4
          have qbj_5 : w10.cell? ⟨w8.heap.size, 5, none⟩ = some (.slice Cj JL.length cj) := bj.out.cell 5
          have qbj_l := bj.out.lt
          have qbk_0 : w10.cell? ⟨w9.heap.size, 0, none⟩ = some (.int .i64 JA) := bk.out.cell 0
          have qbk_1 : w10.cell? ⟨w9.heap.size, 1, none⟩ = some (.int .i64 JB) := bk.out.cell 1
          have qbk_2 : w10.cell? ⟨w9.heap.size, 2, none⟩ = some (.int .i64 JM) := bk.out.cell 2
          have qbk_3 : w10.cell? ⟨w9.heap.size, 3, none⟩ = some (.int .i64 JD) := bk.out.cell 3
          have qbk_4 : w10.cell? ⟨w9.heap.size, 4, none⟩ = some (.int .i64 JT) := bk.out.cell 4
          have qbk_5 : w10.cell? ⟨w9.heap.size, 5, none⟩ = some (.slice Ck JL.length ck) := bk.out.cell 5
          have qbk_l := bk.out.lt
          go_wp2_with fail
          clear qbj_0 qbj_1 qbj_2 qbj_3 qbj_4 qbj_5 qbj_l qbk_0 qbk_1 qbk_2 qbk_3 qbk_4 qbk_5 qbk_l
          refine (qTk_same JA JB JM JD JT _ _ JL _ (Rd.of_own Oj.out rfl) (Rd.of_own Ok.out rfl)).mono ?_; rintro e w11 ⟨rfl, hb11⟩
          replace He := Lib.hid (He.out.on (hb11))
          replace Ou := Lib.hid (own_below Ou.out (hb11))
          replace NL := Lib.hid (NL.out.on (hb11))
          replace bu := Lib.hid (bu.out.on (hb11))
          replace Oj := Lib.hid (own_below Oj.out (hb11))
          replace bj := Lib.hid (bj.out.on (hb11))
          replace Ok := Lib.hid (own_below Ok.out (hb11))
          replace bk := Lib.hid (bk.out.on (hb11))
          have sz11 := Lib.hid (show w10.heap.size + 0 ≤ w11.heap.size by have := hb11.size; (try simp only [World.size_alloc] at this); omega)
          have Hb11 := Lib.hid (bthen (Below.refl _ _) hb11)
          clear hb11
          go_wp2
          go_meet
          exact ⟨rfl, Hb11.out⟩
        · obtain ⟨hjt, hjk⟩ := join_yes Hj.out
          have hji : ¬ JT < ut := by omega
          have Hjk := Lib.hid hjk; clear hjk
          have qbj_0 : w10.cell? ⟨w8.heap.size, 0, none⟩ = some (.int .i64 JA) := bj.out.cell 0
          have qbj_1 : w10.cell? ⟨w8.heap.size, 1, none⟩ = some (.int .i64 JB) := bj.out.cell 1
          have qbj_2 : w10.cell? ⟨w8.heap.size, 2, none⟩ = some (.int .i64 JM) := bj.out.cell 2
          have qbj_3 : w10.cell? ⟨w8.heap.size, 3, none⟩ = some (.int .i64 JD) := bj.out.cell 3
          have qbj_4 : w10.cell? ⟨w8.heap.size, 4, none⟩ = some (.int .i64 JT) := bj.out.cell 4
          have qbj_5 : w10.cell? ⟨w8.heap.size, 5, none⟩ = some (.slice Cj JL.length cj) := bj.out.cell 5
          have qbj_l := bj.out.lt
          have qbk_0 : w10.cell? ⟨w9.heap.size, 0, none⟩ = some (.int .i64 JA) := bk.out.cell 0
          have qbk_1 : w10.cell? ⟨w9.heap.size, 1, none⟩ = some (.int .i64 JB) := bk.out.cell 1
          have qbk_2 : w10.cell? ⟨w9.heap.size, 2, none⟩ = some (.int .i64 JM) := bk.out.cell 2
          have qbk_3 : w10.cell? ⟨w9.heap.size, 3, none⟩ = some (.int .i64 JD) := bk.out.cell 3
          have qbk_4 : w10.cell? ⟨w9.heap.size, 4, none⟩ = some (.int .i64 JT) := bk.out.cell 4
          have qbk_5 : w10.cell? ⟨w9.heap.size, 5, none⟩ = some (.slice Ck JL.length ck) := bk.out.cell 5
          have qbk_l := bk.out.lt
          go_wp2_with fail
          clear qbj_0 qbj_1 qbj_2 qbj_3 qbj_4 qbj_5 qbj_l qbk_0 qbk_1 qbk_2 qbk_3 qbk_4 qbk_5 qbk_l
          refine (qTk_same JA JB JM JD JT _ _ JL _ (Rd.of_own Oj.out rfl) (Rd.of_own Ok.out rfl)).mono ?_; rintro e w11 ⟨rfl, hb11⟩
          replace He := Lib.hid (He.out.on (hb11))
          replace Ou := Lib.hid (own_below Ou.out (hb11))
          replace NL := Lib.hid (NL.out.on (hb11))
          replace bu := Lib.hid (bu.out.on (hb11))
          replace Oj := Lib.hid (own_below Oj.out (hb11))
          replace bj := Lib.hid (bj.out.on (hb11))
          replace Ok := Lib.hid (own_below Ok.out (hb11))
          replace bk := Lib.hid (bk.out.on (hb11))
          have sz11 := Lib.hid (show w10.heap.size + 0 ≤ w11.heap.size by have := hb11.size; (try simp only [World.size_alloc] at this); omega)
          have Hb11 := Lib.hid (bthen (Below.refl _ _) hb11)
          clear hb11
          have qbk_0 : w11.cell? ⟨w9.heap.size, 0, none⟩ = some (.int .i64 JA) := bk.out.cell 0
          have qbk_1 : w11.cell? ⟨w9.heap.size, 1, none⟩ = some (.int .i64 JB) := bk.out.cell 1
          have qbk_2 : w11.cell? ⟨w9.heap.size, 2, none⟩ = some (.int .i64 JM) := bk.out.cell 2
          have qbk_3 : w11.cell? ⟨w9.heap.size, 3, none⟩ = some (.int .i64 JD) := bk.out.cell 3
          have qbk_4 : w11.cell? ⟨w9.heap.size, 4, none⟩ = some (.int .i64 JT) := bk.out.cell 4
          have qbk_5 : w11.cell? ⟨w9.heap.size, 5, none⟩ = some (.slice Ck JL.length ck) := bk.out.cell 5
          have qbk_l := bk.out.lt
          have qbu_0 : w11.cell? ⟨w7.heap.size, 0, none⟩ = some (.int .i64 ua) := bu.out.cell 0
          have qbu_1 : w11.cell? ⟨w7.heap.size, 1, none⟩ = some (.int .i64 ub) := bu.out.cell 1
          have qbu_2 : w11.cell? ⟨w7.heap.size, 2, none⟩ = some (.int .i64 um) := bu.out.cell 2
          have qbu_3 : w11.cell? ⟨w7.heap.size, 3, none⟩ = some (.int .i64 ud) := bu.out.cell 3
          have qbu_4 : w11.cell? ⟨w7.heap.size, 4, none⟩ = some (.int .i64 ut) := bu.out.cell 4
          have qbu_5 : w11.cell? ⟨w7.heap.size, 5, none⟩ = some (.slice Cu fsu.length cu) := bu.out.cell 5
          have qbu_l := bu.out.lt
          have qbj_0 : w11.cell? ⟨w8.heap.size, 0, none⟩ = some (.int .i64 JA) := bj.out.cell 0
          have qbj_1 : w11.cell? ⟨w8.heap.size, 1, none⟩ = some (.int .i64 JB) := bj.out.cell 1
          have qbj_2 : w11.cell? ⟨w8.heap.size, 2, none⟩ = some (.int .i64 JM) := bj.out.cell 2
          have qbj_3 : w11.cell? ⟨w8.heap.size, 3, none⟩ = some (.int .i64 JD) := bj.out.cell 3
          have qbj_4 : w11.cell? ⟨w8.heap.size, 4, none⟩ = some (.int .i64 JT) := bj.out.cell 4
          have qbj_5 : w11.cell? ⟨w8.heap.size, 5, none⟩ = some (.slice Cj JL.length cj) := bj.out.cell 5
          have qbj_l := bj.out.lt
          go_wp2_with fail
          clear qbk_0 qbk_1 qbk_2 qbk_3 qbk_4 qbk_5 qbk_l qbu_0 qbu_1 qbu_2 qbu_3 qbu_4 qbu_5 qbu_l qbj_0 qbj_1 qbj_2 qbj_3 qbj_4 qbj_5 qbj_l
          refine (implIsTk_is JA JB JM JD JT _ JL true _ Hjk.out (Rd.of_own Oj.out rfl)).mono ?_; rintro e w12 ⟨rfl, hb12⟩
          replace He := Lib.hid (He.out.on (hb12))
          replace Ou := Lib.hid (own_below Ou.out (hb12))
          replace NL := Lib.hid (NL.out.on (hb12))
          replace bu := Lib.hid (bu.out.on (hb12))
          replace Oj := Lib.hid (own_below Oj.out (hb12))
          replace bj := Lib.hid (bj.out.on (hb12))
          replace Ok := Lib.hid (own_below Ok.out (hb12))
          replace bk := Lib.hid (bk.out.on (hb12))
          have sz12 := Lib.hid (show w11.heap.size + 0 ≤ w12.heap.size by have := hb12.size; (try simp only [World.size_alloc] at this); omega)
          have Hb12 := Lib.hid (bthen (Hb11.out) hb12)
          clear hb12
          go_wp2
          go_meet
          exact ⟨congrArg Value.bool (decide_eq_false (by omega)), Hb12.out⟩
    obtain ⟨rfl, hbc⟩ := hcut
    obtain ⟨w11, hw9⟩ : ∃ x, x = wc := ⟨_, rfl⟩
    subst hw9
    have hb11 := hbc; clear hbc
    replace He := Lib.hid (He.out.on (hb11))
    replace Ou := Lib.hid (own_below Ou.out (hb11))
    replace NL := Lib.hid (NL.out.on (hb11))
    replace bu := Lib.hid (bu.out.on (hb11))
    replace Oj := Lib.hid (own_below Oj.out (hb11))
    replace bj := Lib.hid (bj.out.on (hb11))
    replace Ok := Lib.hid (own_below Ok.out (hb11))
    replace bk := Lib.hid (bk.out.on (hb11))
    have sz11 := Lib.hid (show w10.heap.size + 0 ≤ w11.heap.size by have := hb11.size; (try simp only [World.size_alloc] at this); omega)
    have Hb11 := Lib.hid (bthen (Hb10.out) hb11)
    clear hb11
    clear bu
    clear bj
    clear bk
    clear Ou
    clear Oj
    clear Ok
    clear NL
    clear Hj
    clear GOu Hb6 sz7 GOj Hb7 sz8 GOk Hb8 sz9 Hb9 sz10 Hb10 sz11
    go_wp2_with fail
    refine (drawTaskText_any B m d _ (Hb.out.on (Hb11.out))).mono ?_; rintro e w12 ⟨⟨va, vb, vm, vd, vt, vv, nvv, hnvv, rfl, hvv⟩, hb12⟩
    obtain ⟨fsv, -, ov⟩ := hvv.pt
    obtain ⟨Cv, cv, rfl⟩ := own_formS ov
    clear hnvv hvv
    have Ov := Lib.hid ov
    have GOv := Lib.hid (World.ownsRow.lt ov)
    clear ov
    replace He := Lib.hid (He.out.on (hb12))
    have sz12 := Lib.hid (show w11.heap.size + 0 ≤ w12.heap.size by have := hb12.size; (try simp only [World.size_alloc] at this); omega)
    have Hb12 := Lib.hid (bthen (Hb11.out) hb12)
    clear hb12
    obtain ⟨tx, three, htx⟩ : ∃ s k, textV va vb vm vd vt fsv = (s, k) := ⟨_, _, rfl⟩
    have Htx := Lib.hid htx; clear htx
    go_wp2_with fail
    refine (implTaskText_is va vb vm vd vt _ fsv tx three _ Htx.out ((Rd.of_own Ov.out rfl).on (bal (Below.refl _ _) _)) (He.out.on (bal (Below.refl _ _) _)).tab).mono ?_; rintro e w13 ⟨rfl, hb13⟩
    replace He := Lib.hid (He.out.on (bthen (bal (Below.refl _ _) _) hb13))
    replace Ov := Lib.hid (own_below Ov.out (bthen (bal (Below.refl _ _) _) hb13))
    have bv := Lib.hid ((Blk.new w12 51 #[.int .i64 va, .int .i64 vb, .int .i64 vm, .int .i64 vd, .int .i64 vt, .slice Cv fsv.length cv]).on hb13)
    have sz13 := Lib.hid (show w12.heap.size + 1 ≤ w13.heap.size by have := hb13.size; (try simp only [World.size_alloc] at this); omega)
    have Hb13 := Lib.hid (bthen (bal (Hb12.out) _) hb13)
    clear hb13
    have qbv_0 : w13.cell? ⟨w12.heap.size, 0, none⟩ = some (.int .i64 va) := bv.out.cell 0
    have qbv_1 : w13.cell? ⟨w12.heap.size, 1, none⟩ = some (.int .i64 vb) := bv.out.cell 1
    have qbv_2 : w13.cell? ⟨w12.heap.size, 2, none⟩ = some (.int .i64 vm) := bv.out.cell 2
    have qbv_3 : w13.cell? ⟨w12.heap.size, 3, none⟩ = some (.int .i64 vd) := bv.out.cell 3
    have qbv_4 : w13.cell? ⟨w12.heap.size, 4, none⟩ = some (.int .i64 vt) := bv.out.cell 4
    have qbv_5 : w13.cell? ⟨w12.heap.size, 5, none⟩ = some (.slice Cv fsv.length cv) := bv.out.cell 5
    have qbv_l := bv.out.lt
    go_wp2_with fail
    clear qbv_0 qbv_1 qbv_2 qbv_3 qbv_4 qbv_5 qbv_l
    refine (specTaskText_is va vb vm vd vt _ fsv tx three _ Htx.out (Rd.of_own Ov.out rfl)).mono ?_; rintro e w14 ⟨rfl, hb14⟩
    replace He := Lib.hid (He.out.on (hb14))
    replace Ov := Lib.hid (own_below Ov.out (hb14))
    replace bv := Lib.hid (bv.out.on (hb14))
    have sz14 := Lib.hid (show w13.heap.size + 0 ≤ w14.heap.size by have := hb14.size; (try simp only [World.size_alloc] at this); omega)
    have Hb14 := Lib.hid (bthen (Hb13.out) hb14)
    clear hb14
    go_upto_if 290 with fail
    go_cut [4] from 39 to 303 (fun r wx => Below w14.heap.size w14 wx)
    case first =>
      as_aux_lemma =>
        cases three
        · go_wp2
          go_meet
          exact Below.refl _ _
        · obtain ⟨hps, hts⟩ := text_law Htx.out
          have Hps := Lib.hid hps; clear hps
          go_wp2_with fail
          refine (implParse_any tx _ (by omega) (He.out.on (Below.refl _ _)) ).mono ?_; rintro e w15 ⟨hr, hb15⟩; obtain ⟨Cq, cq, rfl, oq⟩ := hr.at Hps.out; clear hr
          have Oq := Lib.hid oq
          have GOq := Lib.hid (World.ownsRow.lt oq)
          clear oq
          replace He := Lib.hid (He.out.on (hb15))
          replace Ov := Lib.hid (own_below Ov.out (hb15))
          replace bv := Lib.hid (bv.out.on (hb15))
          have sz15 := Lib.hid (show w14.heap.size + 0 ≤ w15.heap.size by have := hb15.size; (try simp only [World.size_alloc] at this); omega)
          have Hb15 := Lib.hid (bthen (Below.refl _ _) hb15)
          clear hb15
          have qbv_0 : w15.cell? ⟨w12.heap.size, 0, none⟩ = some (.int .i64 va) := bv.out.cell 0
          have qbv_1 : w15.cell? ⟨w12.heap.size, 1, none⟩ = some (.int .i64 vb) := bv.out.cell 1
          have qbv_2 : w15.cell? ⟨w12.heap.size, 2, none⟩ = some (.int .i64 vm) := bv.out.cell 2
          have qbv_3 : w15.cell? ⟨w12.heap.size, 3, none⟩ = some (.int .i64 vd) := bv.out.cell 3
          have qbv_4 : w15.cell? ⟨w12.heap.size, 4, none⟩ = some (.int .i64 vt) := bv.out.cell 4
          have qbv_5 : w15.cell? ⟨w12.heap.size, 5, none⟩ = some (.slice Cv fsv.length cv) := bv.out.cell 5
          have qbv_l := bv.out.lt
          go_wp2_with fail
          clear qbv_0 qbv_1 qbv_2 qbv_3 qbv_4 qbv_5 qbv_l
          refine (qTk_same va vb vm vd vt _ _ fsv _ ((Rd.of_own Oq.out rfl).on (bal (Below.refl _ _) _)) ((Rd.of_own Ov.out rfl).on (bal (Below.refl _ _) _))).mono ?_; rintro e w16 ⟨rfl, hb16⟩
          replace He := Lib.hid (He.out.on (bthen (bal (Below.refl _ _) _) hb16))
          replace Ov := Lib.hid (own_below Ov.out (bthen (bal (Below.refl _ _) _) hb16))
          replace bv := Lib.hid (bv.out.on (bthen (bal (Below.refl _ _) _) hb16))
          replace Oq := Lib.hid (own_below Oq.out (bthen (bal (Below.refl _ _) _) hb16))
          have bq := Lib.hid ((Blk.new w15 51 #[.int .i64 va, .int .i64 vb, .int .i64 vm, .int .i64 vd, .int .i64 vt, .slice Cq fsv.length cq]).on hb16)
          have sz16 := Lib.hid (show w15.heap.size + 1 ≤ w16.heap.size by have := hb16.size; (try simp only [World.size_alloc] at this); omega)
          have Hb16 := Lib.hid (bthen (bal (Hb15.out) _) hb16)
          clear hb16
          go_wp2
          go_meet
          exact Hb16.out
    have hbc := hcut
    obtain ⟨w15, hw9⟩ : ∃ x, x = wc := ⟨_, rfl⟩
    subst hw9
    have hb15 := hbc; clear hbc
    replace He := Lib.hid (He.out.on (hb15))
    replace Ov := Lib.hid (own_below Ov.out (hb15))
    replace bv := Lib.hid (bv.out.on (hb15))
    have sz15 := Lib.hid (show w14.heap.size + 0 ≤ w15.heap.size by have := hb15.size; (try simp only [World.size_alloc] at this); omega)
    have Hb15 := Lib.hid (bthen (Hb14.out) hb15)
    clear hb15
    clear bv
    clear Ov
    clear Htx
    clear GOv Hb11 sz12 Hb12 sz13 Hb13 sz14 Hb14 sz15
    go_wp2_with fail
    refine (drawParseTask_any B m d _ (Hb.out.on (Hb15.out))).mono ?_; rintro e w16 ⟨⟨s, hs, rfl⟩, hb16⟩
    replace He := Lib.hid (He.out.on (hb16))
    have sz16 := Lib.hid (show w15.heap.size + 0 ≤ w16.heap.size by have := hb16.size; (try simp only [World.size_alloc] at this); omega)
    have Hb16 := Lib.hid (bthen (Hb15.out) hb16)
    clear hb16
    obtain ⟨PA, PB, PM, PD, PT, PL, pk, hp⟩ : ∃ A B M D T L k, psV s = (A, B, M, D, T, L, k) := ⟨_, _, _, _, _, _, _, rfl⟩
    have Hp := Lib.hid hp; clear hp
    go_wp2_with fail
    refine (implParse_any s _ (by omega) (He.out.on (Below.refl _ _)) ).mono ?_; rintro e w17 ⟨hr, hb17⟩; obtain ⟨Cp, cp, rfl, op⟩ := hr.at Hp.out; clear hr
    have Op := Lib.hid op
    have GOp := Lib.hid (World.ownsRow.lt op)
    clear op
    replace He := Lib.hid (He.out.on (hb17))
    have sz17 := Lib.hid (show w16.heap.size + 0 ≤ w17.heap.size by have := hb17.size; (try simp only [World.size_alloc] at this); omega)
    have Hb17 := Lib.hid (bthen (Hb16.out) hb17)
    clear hb17
    go_wp2_with fail
    refine (specParse_any s _ (by omega) ).mono ?_; rintro e w18 ⟨hr, hb18⟩; obtain ⟨Cr, cr, rfl, or⟩ := hr.at Hp.out; clear hr
    have Or := Lib.hid or
    have GOr := Lib.hid (World.ownsRow.lt or)
    clear or
    replace He := Lib.hid (He.out.on (bthen (bal (Below.refl _ _) _) hb18))
    replace Op := Lib.hid (own_below Op.out (bthen (bal (Below.refl _ _) _) hb18))
    have bp := Lib.hid ((Blk.new w17 51 #[.int .i64 PA, .int .i64 PB, .int .i64 PM, .int .i64 PD, .int .i64 PT, .slice Cp PL.length cp]).on hb18)
    have sz18 := Lib.hid (show w17.heap.size + 1 ≤ w18.heap.size by have := hb18.size; (try simp only [World.size_alloc] at this); omega)
    have Hb18 := Lib.hid (bthen (bal (Hb17.out) _) hb18)
    clear hb18
    go_wp2_with fail
    refine (drawNew_any B m d _ (Hb.out.on (bal (Hb18.out) _))).mono ?_; rintro e w19 ⟨⟨xa, xb, xm, xd, rfl⟩, hb19⟩
    replace He := Lib.hid (He.out.on (bthen (bal (Below.refl _ _) _) hb19))
    replace Op := Lib.hid (own_below Op.out (bthen (bal (Below.refl _ _) _) hb19))
    replace bp := Lib.hid (bp.out.on (bthen (bal (Below.refl _ _) _) hb19))
    replace Or := Lib.hid (own_below Or.out (bthen (bal (Below.refl _ _) _) hb19))
    have br := Lib.hid ((Blk.new w18 51 #[.int .i64 PA, .int .i64 PB, .int .i64 PM, .int .i64 PD, .int .i64 PT, .slice Cr PL.length cr]).on hb19)
    have sz19 := Lib.hid (show w18.heap.size + 1 ≤ w19.heap.size by have := hb19.size; (try simp only [World.size_alloc] at this); omega)
    have Hb19 := Lib.hid (bthen (bal (Hb18.out) _) hb19)
    clear hb19
    obtain ⟨QA, QB, QM, QD, qk, hq⟩ : ∃ A B M D k, newT xa xb xm xd = (A, B, M, D, k) := ⟨_, _, _, _, _, rfl⟩
    go_wp2_with fail
    refine (implNew_det hq _).mono ?_; rintro e w20 ⟨rfl, hb20⟩
    replace He := Lib.hid (He.out.on (bthen (bal (Below.refl _ _) _) hb20))
    replace Op := Lib.hid (own_below Op.out (bthen (bal (Below.refl _ _) _) hb20))
    replace bp := Lib.hid (bp.out.on (bthen (bal (Below.refl _ _) _) hb20))
    replace Or := Lib.hid (own_below Or.out (bthen (bal (Below.refl _ _) _) hb20))
    replace br := Lib.hid (br.out.on (bthen (bal (Below.refl _ _) _) hb20))
    have bx := Lib.hid ((Blk.new w19 25 #[.int .i64 xa, .int .i64 xb]).on hb20)
    have sz20 := Lib.hid (show w19.heap.size + 1 ≤ w20.heap.size by have := hb20.size; (try simp only [World.size_alloc] at this); omega)
    have Hb20 := Lib.hid (bthen (bal (Hb19.out) _) hb20)
    clear hb20
    have qbx_0 : w20.cell? ⟨w19.heap.size, 0, none⟩ = some (.int .i64 xa) := bx.out.cell 0
    have qbx_1 : w20.cell? ⟨w19.heap.size, 1, none⟩ = some (.int .i64 xb) := bx.out.cell 1
    have qbx_l := bx.out.lt
    go_wp2_with fail
    clear qbx_0 qbx_1 qbx_l
    refine (specNew_det hq _).mono ?_; rintro e w21 ⟨rfl, hb21⟩
    replace He := Lib.hid (He.out.on (bthen (bal (Below.refl _ _) _) hb21))
    replace Op := Lib.hid (own_below Op.out (bthen (bal (Below.refl _ _) _) hb21))
    replace bp := Lib.hid (bp.out.on (bthen (bal (Below.refl _ _) _) hb21))
    replace Or := Lib.hid (own_below Or.out (bthen (bal (Below.refl _ _) _) hb21))
    replace br := Lib.hid (br.out.on (bthen (bal (Below.refl _ _) _) hb21))
    replace bx := Lib.hid (bx.out.on (bthen (bal (Below.refl _ _) _) hb21))
    have by9 := Lib.hid ((Blk.new w20 51 #[.int .i64 QA, .int .i64 QB, .int .i64 QM, .int .i64 QD, .int .i64 0, .slice none 0 0]).on hb21)
    have sz21 := Lib.hid (show w20.heap.size + 1 ≤ w21.heap.size by have := hb21.size; (try simp only [World.size_alloc] at this); omega)
    have Hb21 := Lib.hid (bthen (bal (Hb20.out) _) hb21)
    clear hb21
    clear hq
    have qbp_0 : w21.cell? ⟨w17.heap.size, 0, none⟩ = some (.int .i64 PA) := bp.out.cell 0
    have qbp_1 : w21.cell? ⟨w17.heap.size, 1, none⟩ = some (.int .i64 PB) := bp.out.cell 1
    have qbp_2 : w21.cell? ⟨w17.heap.size, 2, none⟩ = some (.int .i64 PM) := bp.out.cell 2
    have qbp_3 : w21.cell? ⟨w17.heap.size, 3, none⟩ = some (.int .i64 PD) := bp.out.cell 3
    have qbp_4 : w21.cell? ⟨w17.heap.size, 4, none⟩ = some (.int .i64 PT) := bp.out.cell 4
    have qbp_5 : w21.cell? ⟨w17.heap.size, 5, none⟩ = some (.slice Cp PL.length cp) := bp.out.cell 5
    have qbp_l := bp.out.lt
    have qbr_0 : w21.cell? ⟨w18.heap.size, 0, none⟩ = some (.int .i64 PA) := br.out.cell 0
    have qbr_1 : w21.cell? ⟨w18.heap.size, 1, none⟩ = some (.int .i64 PB) := br.out.cell 1
    have qbr_2 : w21.cell? ⟨w18.heap.size, 2, none⟩ = some (.int .i64 PM) := br.out.cell 2
    have qbr_3 : w21.cell? ⟨w18.heap.size, 3, none⟩ = some (.int .i64 PD) := br.out.cell 3
    have qbr_4 : w21.cell? ⟨w18.heap.size, 4, none⟩ = some (.int .i64 PT) := br.out.cell 4
    have qbr_5 : w21.cell? ⟨w18.heap.size, 5, none⟩ = some (.slice Cr PL.length cr) := br.out.cell 5
    have qbr_l := br.out.lt
    go_wp2_with fail
    clear qbp_0 qbp_1 qbp_2 qbp_3 qbp_4 qbp_5 qbp_l qbr_0 qbr_1 qbr_2 qbr_3 qbr_4 qbr_5 qbr_l
    refine (qTk_same PA PB PM PD PT _ _ PL _ ((Rd.of_own Op.out rfl).on (bal (Below.refl _ _) _)) ((Rd.of_own Or.out rfl).on (bal (Below.refl _ _) _))).mono ?_; rintro e w22 ⟨rfl, hb22⟩
    replace He := Lib.hid (He.out.on (bthen (bal (Below.refl _ _) _) hb22))
    replace Op := Lib.hid (own_below Op.out (bthen (bal (Below.refl _ _) _) hb22))
    replace bp := Lib.hid (bp.out.on (bthen (bal (Below.refl _ _) _) hb22))
    replace Or := Lib.hid (own_below Or.out (bthen (bal (Below.refl _ _) _) hb22))
    replace br := Lib.hid (br.out.on (bthen (bal (Below.refl _ _) _) hb22))
    replace bx := Lib.hid (bx.out.on (bthen (bal (Below.refl _ _) _) hb22))
    replace by9 := Lib.hid (by9.out.on (bthen (bal (Below.refl _ _) _) hb22))
    have bz9 := Lib.hid ((Blk.new w21 51 #[.int .i64 QA, .int .i64 QB, .int .i64 QM, .int .i64 QD, .int .i64 0, .slice none 0 0]).on hb22)
    have sz22 := Lib.hid (show w21.heap.size + 1 ≤ w22.heap.size by have := hb22.size; (try simp only [World.size_alloc] at this); omega)
    have Hb22 := Lib.hid (bthen (bal (Hb21.out) _) hb22)
    clear hb22
    have qby9_0 : w22.cell? ⟨w20.heap.size, 0, none⟩ = some (.int .i64 QA) := by9.out.cell 0
    have qby9_1 : w22.cell? ⟨w20.heap.size, 1, none⟩ = some (.int .i64 QB) := by9.out.cell 1
    have qby9_2 : w22.cell? ⟨w20.heap.size, 2, none⟩ = some (.int .i64 QM) := by9.out.cell 2
    have qby9_3 : w22.cell? ⟨w20.heap.size, 3, none⟩ = some (.int .i64 QD) := by9.out.cell 3
    have qby9_4 : w22.cell? ⟨w20.heap.size, 4, none⟩ = some (.int .i64 0) := by9.out.cell 4
    have qby9_5 : w22.cell? ⟨w20.heap.size, 5, none⟩ = some (.slice none 0 0) := by9.out.cell 5
    have qby9_l := by9.out.lt
    have qbz9_0 : w22.cell? ⟨w21.heap.size, 0, none⟩ = some (.int .i64 QA) := bz9.out.cell 0
    have qbz9_1 : w22.cell? ⟨w21.heap.size, 1, none⟩ = some (.int .i64 QB) := bz9.out.cell 1
    have qbz9_2 : w22.cell? ⟨w21.heap.size, 2, none⟩ = some (.int .i64 QM) := bz9.out.cell 2
    have qbz9_3 : w22.cell? ⟨w21.heap.size, 3, none⟩ = some (.int .i64 QD) := bz9.out.cell 3
    have qbz9_4 : w22.cell? ⟨w21.heap.size, 4, none⟩ = some (.int .i64 0) := bz9.out.cell 4
    have qbz9_5 : w22.cell? ⟨w21.heap.size, 5, none⟩ = some (.slice none 0 0) := bz9.out.cell 5
    have qbz9_l := bz9.out.lt
    go_wp2_with fail
    clear qby9_0 qby9_1 qby9_2 qby9_3 qby9_4 qby9_5 qby9_l qbz9_0 qbz9_1 qbz9_2 qbz9_3 qbz9_4 qbz9_5 qbz9_l
    refine (qTk_same QA QB QM QD 0 _ _ [] _ (Rd.nil _ _) (Rd.nil _ _)).mono ?_; rintro e w23 ⟨rfl, hb23⟩
    replace He := Lib.hid (He.out.on (hb23))
    replace Op := Lib.hid (own_below Op.out (hb23))
    replace bp := Lib.hid (bp.out.on (hb23))
    replace Or := Lib.hid (own_below Or.out (hb23))
    replace br := Lib.hid (br.out.on (hb23))
    replace bx := Lib.hid (bx.out.on (hb23))
    replace by9 := Lib.hid (by9.out.on (hb23))
    replace bz9 := Lib.hid (bz9.out.on (hb23))
    have sz23 := Lib.hid (show w22.heap.size + 0 ≤ w23.heap.size by have := hb23.size; (try simp only [World.size_alloc] at this); omega)
    have Hb23 := Lib.hid (bthen (Hb22.out) hb23)
    clear hb23
    go_wp2
    go_ret
    exact ⟨rfl, Hb23.out⟩
  · go_wp2
    go_ret
    exact ⟨rfl, Hb1.out⟩
end Go.Proofs.YtnhgdmhiblpknaaGreatDoor
