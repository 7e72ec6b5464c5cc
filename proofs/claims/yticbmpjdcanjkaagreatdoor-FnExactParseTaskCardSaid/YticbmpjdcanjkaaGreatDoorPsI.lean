/- The walk of the program's ParseTask. Conditions: Env. Printed by gen_ps.py. -/
import Derived.Test.YticbmpjdcanjkaaGreatDoorPsT
import Derived.Test.YticbmpjdcanjkaaGreatDoorRead2
import Derived.Test.YticbmpjdcanjkaaGreatDoorTask2
import Derived.Deep.RegionHeld3
import Derived.Deep.DeepCutAuto
namespace Go.Proofs.YticbmpjdcanjkaaGreatDoor
open Go Go.RowKit

section
variable {w : World} {g : Nat} {t : TypeId}
theorem Blk.set6 {a0 a1 a2 a3 a4 a5 b0 b1 b2 b3 b4 b5 : Value} (h : Blk w g t #[a0, a1, a2, a3, a4, a5]) : Blk ((((((w.setCell ⟨g, 0, none⟩ b0).setCell ⟨g, 1, none⟩ b1).setCell ⟨g, 2, none⟩ b2).setCell ⟨g, 3, none⟩ b3).setCell ⟨g, 4, none⟩ b4).setCell ⟨g, 5, none⟩ b5) g t #[b0, b1, b2, b3, b4, b5] := by
  have q := ((((((h.set 0 b0).set 1 b1).set 2 b2).set 3 b3).set 4 b4).set 5 b5)
  simp only [List.setIfInBounds_toArray, List.set_cons_zero, List.set_cons_succ] at q
  exact q
end
theorem splW_size {s : ByteArray} {j : Nat} (h : j < (splW s).length) : (splW s)[j].size ≤ s.size := splitB_size _ _ _ _ (List.getElem_mem h)
theorem split_gen (s : ByteArray) (w : World) (hs : s.size ≤ 100000000) (h : Env w) : Calls Tryz.prog 25 #[.string s, .string ⟨#[32]⟩] w fun e w' => e = .returned (.slice (some ⟨w.heap.size, 0, none⟩) (splW s).length (splW s).length) ∧ Blk w' w.heap.size 9 ((splW s).map Value.string).toArray ∧ Below w.heap.size w w' := by
  refine (Tryz.strings_Split_shaped s ⟨#[32]⟩ w h.sh (by omega) (by decide)).mono fun e w' hp => ?_
  obtain ⟨he, rfl⟩ := hp
  rw [splW_length]
  exact ⟨he, Blk.new w _ _, bal (Below.refl _ _) _⟩
theorem implNew_det {a b m d A B M D : Int} {k : Bool} (h : newT a b m d = (A, B, M, D, k)) (w : World) : Calls Tryz.prog 27 #[.agg #[.int .i64 a, .int .i64 b], .int .i64 m, .int .i64 d] w fun r w' => r = .returned (.tuple #[.agg #[.int .i64 A, .int .i64 B, .int .i64 M, .int .i64 D, .int .i64 0, .slice none 0 0], .bool k]) ∧ Below w.heap.size w w' :=
  (implNew_any a b m d w).mono (fun r w' hp => by
    obtain ⟨⟨A', B', M', D', k', he, h'⟩, hb⟩ := hp
    rw [h] at h'
    simp only [Prod.mk.injEq] at h'
    obtain ⟨rfl, rfl, rfl, rfl, rfl⟩ := h'
    exact ⟨he, hb⟩)
theorem newT_no {a b m d A B M D : Int} (h : newT a b m d = (A, B, M, D, false)) : tkB a b m d = false := by
  unfold newT at h
  cases hk : taskB a b m d
  · exact hk
  · rw [hk] at h; simp at h
theorem newT_yes {a b m d A B M D : Int} (h : newT a b m d = (A, B, M, D, true)) : tkB a b m d = true ∧ a = A ∧ b = B ∧ m = M ∧ d = D := by
  unfold newT at h
  cases hk : taskB a b m d
  · rw [hk] at h; simp at h
  · rw [hk] at h; simp at h
    exact ⟨hk, h.1, h.2.1, h.2.2.1, h.2.2.2⟩
set_option linter.unusedSimpArgs false in
set_option maxRecDepth 20000 in
set_option maxHeartbeats 4000000 in
theorem implParse_any (s : ByteArray) (w : World) (hs : s.size ≤ 2000000) (h : Env w) :
    Calls Tryz.prog 6 #[.string s] w fun r w' => TkRet (psV s) w.heap.size r w' ∧ Below w.heap.size w w' := by
  obtain ⟨i0, hi, hz0, hz1, hz2⟩ := info_parts infoIntR
  have Hn5 := Lib.hid (fun hn => psV_none (psI_len (s := s) hn))
  have Hnw := Lib.hid (fun j hj hn => psV_none (psI_word (s := s) (j := j) hj hn))
  have Hvl := Lib.hid (fun a b m d t hw => psI_vals (s := s) (a := a) (b := b) (m := m) (d := d) (t := t) hw)
  have hwl : (splW s).length ≤ 2000001 := by
    rw [splW_length]
    have := Lib.countB_le ⟨#[32]⟩ (by decide) _ s (Nat.le_refl _)
    omega
  have HR := Lib.hid (Blk.new w 26 #[.int .i64 0, .int .i64 0, .int .i64 0, .int .i64 0, .int .i64 0, .slice none 0 0])
  have hA := bal (Below.refl w.heap.size w) (Obj.cells #[.int .i64 0, .int .i64 0, .int .i64 0, .int .i64 0, .int .i64 0, .slice none 0 0] 26)
  have He := Lib.hid (h.on hA)
  have HbA := Lib.hid hA
  have Hwsz := Lib.hid (fun j (hj : j < (splW s).length) => Nat.le_trans (splW_size hj) hs)
  have Hw := Lib.hid h
  clear h hA
  go_enter Tryz.func6, Tryz.ntmps6
  go_wp2_with fail
  refine (split_gen s _ (by omega) He.out).mono ?_; rintro e w2 ⟨rfl, hB2, hb2⟩
  have HW2 := Lib.hid hB2; have HR2 := Lib.hid (HR.out.on hb2); have He2 := Lib.hid (He.out.on hb2); have Hb2 := Lib.hid (bthen HbA.out hb2); clear hb2 hB2
  obtain ⟨gw, hgw⟩ : ∃ g, (w.alloc (Obj.cells #[.int .i64 0, .int .i64 0, .int .i64 0, .int .i64 0, .int .i64 0, .slice none 0 0] 26)).heap.size = g := ⟨_, rfl⟩
  rw [hgw] at HW2 ⊢
  clear hgw
  go_wp2
  go_loopw [14, 4] (fun i o wr => ∃ (j : Nat) (xs : List Int), j ≤ (splW s).length ∧ i = .int .i64 j ∧ xs.length = j ∧ Hid (okNums ((splW s).take j) xs) ∧ Below w2.heap.size w2 wr ∧ Hid (wr.ownsRow w2.heap.size 3 1 o xs.length (xs.map (Value.int .i64)))) (fun i _ _ => (splW s).length - (intOf i).toNat)
  case atStart => exact ⟨0, [], Nat.zero_le _, rfl, rfl, Lib.hid rfl, Below.refl _ _, Lib.hid ⟨rfl, Or.inl ⟨rfl, rfl⟩⟩⟩
  case round =>
    obtain ⟨j, xs, hj, rfl, hxj, Hok, hb, Hown⟩ := hrel
    have HRr := Lib.hid (HR2.out.on hb)
    have HWr := Lib.hid (HW2.out.on hb)
    have Her := Lib.hid (He2.out.on hb)
    have Hbr := Lib.hid (bthen Hb2.out hb)
    by_cases hlt : j < (splW s).length
    · have hlo := HWr.out.lt
      have f0 : wr.cell? ⟨gw, j, none⟩ = some (.string (splW s)[j]) := by
        rw [HWr.out.cell j, List.getElem?_toArray, List.getElem?_map, List.getElem?_eq_getElem hlt]; rfl
      have Hsz := Lib.hid (Hwsz.out j hlt)
      have Hnj := Lib.hid (Hnw.out j hlt)
      have Hsn := Lib.hid (fun v hv => okNums_snoc (v := v) Hok.out hlt hv)
      generalize (splW s)[j] = x at f0 Hsz Hnj Hsn
      have hi0 : (0 : Int) ≤ (j : Int) := by omega
      have hi1 : (j : Int) < ((splW s).length : Int) := by omega
      go_wp2_with fail
      refine (atoi_any x _ (by have := Hsz.out; omega) Her.out).mono ?_; rintro e w3 ⟨hat, hb3⟩
      have Hown3 := Lib.hid (own_below Hown.out hb3)
      have HR3 := Lib.hid (HRr.out.on hb3)
      have Hb23 := Lib.hid (bthen hb hb3)
      have Hb3 := Lib.hid (bthen Hbr.out hb3)
      clear f0 hlo hb3
      rcases hat with ⟨v, hv, v1, v2, rfl⟩ | ⟨hno, v, t, N, rfl⟩
      · have Hsv := Lib.hid (Hsn.out v hv)
        clear hv
        go_wp2_with (at_builtin; refine wpList_append_own _ rfl _ _ 53 rfl w2.heap.size 3 i0 (.int .i64 0) 1 8 Tryz.underlying53 hi hz0 hz1 hz2 rfl (by decide) _ _ _ rfl (Hown3.out.alloc _) ⟨w3.heap.size, 0, none⟩ 1 1 [.int .i64 v] rfl rfl ?c1 ?c2 ?c3 ?c4 ?c5 ?_)
        case c1 =>
          intro j u hj
          match j, hj with
          | 0, hj => simp at hj; subst hj; exact (Blk.new w3 _ _).cell 0
        case c2 => intro u hu; simp at hu; subst hu; rfl
        case c3 => unfold maxLen; omega
        case c4 => omega
        case c5 => have := Hb23.out.size; simp; omega
        intro v6 w6 hown6 hgrow _
        have Hb6 := Lib.hid (Below.grown (bal Hb23.out _) hgrow (by have := Hb23.out.size; simp; omega) (fun j hj => (Hown3.out.lt j hj).1))
        have Hown6 := Lib.hid (show w6.ownsRow w2.heap.size 3 1 v6 (xs ++ [v]).length ((xs ++ [v]).map (Value.int .i64)) by rw [List.map_append, List.length_append, hxj]; exact hown6)
        clear hown6 hgrow
        go_wp2
        go_roundw
        case rel => exact ⟨j + 1, xs ++ [v], by omega, by go_num, by rw [List.length_append, hxj]; rfl, Hsv, Hb6.out, Hown6⟩
        case measure => simp [intOf]; omega
      · have HN := Lib.hid (Hnj.out hno)
        clear hno
        have r0 := HR3.out.cell 0
        have r1 := HR3.out.cell 1
        have r2 := HR3.out.cell 2
        have r3 := HR3.out.cell 3
        have r4 := HR3.out.cell 4
        have r5 := HR3.out.cell 5
        simp at r0 r1 r2 r3 r4 r5
        have rl := HR3.out.lt
        have rf := HR3.out.frozen
        go_wp2
        clear r0 r1 r2 r3 r4 r5 rf
        have HR6 := HR3.out.set6 (b0 := .int .i64 0) (b1 := .int .i64 0) (b2 := .int .i64 0) (b3 := .int .i64 0) (b4 := .int .i64 0) (b5 := .slice none 0 0)
        have k0 := HR6.cell 0
        have k1 := HR6.cell 1
        have k2 := HR6.cell 2
        have k3 := HR6.cell 3
        have k4 := HR6.cell 4
        have k5 := HR6.cell 5
        simp at k0 k1 k2 k3 k4 k5
        exact bodyPost_ret (v := .tuple #[.agg #[.int .i64 0, .int .i64 0, .int .i64 0, .int .i64 0, .int .i64 0, .slice none 0 0], .bool false]) (by simp [results, Tryz.results6, go_sem, k0, k1, k2, k3, k4, k5]) rfl ⟨TkRet.zero HN.out, bst (bst (bst (bst (bst (bst (Hb3.out) (Nat.le_refl _) _) (Nat.le_refl _) _) (Nat.le_refl _) _) (Nat.le_refl _) _) (Nat.le_refl _) _) (Nat.le_refl _) _⟩
    · obtain rfl : j = (splW s).length := by omega
      have Hok' := Lib.hid (show okNums (splW s) xs by have := Hok.out; rwa [List.take_length] at this)
      clear Hok
      by_cases h5 : xs.length = 5
      · obtain ⟨x0, x1, x2, x3, x4, rfl⟩ := list5r h5
        have Hps := Lib.hid (Hvl.out x0 x1 x2 x3 x4 Hok'.out)
        clear h5 Hok' Hn5 Hnw Hvl Hwsz hwl hj
        obtain ⟨g2, cap, rfl, hbg, hlg⟩ := Hown.out.form (by simp)
        have c0 := Hown.out.cellAt 0 (by simp)
        have c1 := Hown.out.cellAt 1 (by simp)
        have c2 := Hown.out.cellAt 2 (by simp)
        have c3 := Hown.out.cellAt 3 (by simp)
        have c4 := Hown.out.cellAt 4 (by simp)
        simp at c0 c1 c2 c3 c4
        have Hxj := Lib.hid hxj; clear hxj
        have hcap : 5 ≤ cap := by
          rcases Hown.out.2 with ⟨h', _⟩ | ⟨g', cap', cur, h', hb', hg', hnc, -⟩
          · cases h'
          · cases h'; exact hnc
        obtain ⟨A, B, M, D, ok, Hnt⟩ : ∃ A B M D ok, Hid (newT x0 x1 x2 x3 = (A, B, M, D, ok)) := ⟨_, _, _, _, _, Lib.hid rfl⟩
        have Hnew := Lib.hid (implNew_det Hnt.out)
        have C4 := Lib.hid c4; clear c4
        have HS : Hid (∀ w', Below wr.heap.size wr w' → (w'.cell? ⟨g2, 0, none⟩ = some (.int .i64 x0) ∧ w'.cell? ⟨g2, 1, none⟩ = some (.int .i64 x1) ∧ w'.cell? ⟨g2, 2, none⟩ = some (.int .i64 x2) ∧ w'.cell? ⟨g2, 3, none⟩ = some (.int .i64 x3) ∧ Below wr.heap.size wr w')) := Lib.hid (fun w' hw => ⟨(hw.cell (p := ⟨g2, 0, none⟩) hlg).trans c0, (hw.cell (p := ⟨g2, 1, none⟩) hlg).trans c1, (hw.cell (p := ⟨g2, 2, none⟩) hlg).trans c2, (hw.cell (p := ⟨g2, 3, none⟩) hlg).trans c3, hw⟩)
        go_wp2_with fail
        go_cut [9, 10] (fun p o wx => ∃ (q : Nat), p = .pointer (some ⟨q, 0, none⟩) ∧ o = .bool ok ∧ Blk wx q 26 #[.int .i64 A, .int .i64 B, .int .i64 M, .int .i64 D, .int .i64 0, .slice none 0 0] ∧ wr.heap.size ≤ q ∧ Below wr.heap.size wr wx)
        case first =>
          go_region_held3 (fun w' => w'.cell? ⟨g2, 0, none⟩ = some (.int .i64 x0) ∧ w'.cell? ⟨g2, 1, none⟩ = some (.int .i64 x1) ∧ w'.cell? ⟨g2, 2, none⟩ = some (.int .i64 x2) ∧ w'.cell? ⟨g2, 3, none⟩ = some (.int .i64 x3) ∧ Below wr.heap.size wr w')
            ((go_split_ands; refine HS.out _ ?_; repeat (first | (with_reducible assumption) | (with_reducible exact Below.refl _ _) | (with_reducible refine Below.drew ?_) | (with_reducible refine bal ?_ _) | (with_reducible refine bst ?_ (by first | omega | (simp; done) | (simp; omega)) _) | (with_reducible refine bthen ?_ (by with_reducible assumption)))))
            ((first | (go_at_call 27; (with_reducible refine (Hnew.out _).mono ?_); rintro e w3 ⟨rfl, hb3⟩; (try (have hz3 : Blk w3 wr.heap.size 26 #[.int .i64 0, .int .i64 0, .int .i64 0, .int .i64 0, .int .i64 0, .slice none 0 0] := (Blk.drew (Blk.new wr 26 #[.int .i64 0, .int .i64 0, .int .i64 0, .int .i64 0, .int .i64 0, .slice none 0 0])).on hb3; have zc0 := hz3.cell 0; have zc1 := hz3.cell 1; have zc2 := hz3.cell 2; have zc3 := hz3.cell 3; have zc4 := hz3.cell 4; have zc5 := hz3.cell 5; have zf0 := hz3.frozen 0; have zf1 := hz3.frozen 1; have zf2 := hz3.frozen 2; have zf3 := hz3.frozen 3; have zf4 := hz3.frozen 4; have zf5 := hz3.frozen 5; have zl := hz3.lt; simp at zc0 zc1 zc2 zc3 zc4 zc5; have Hz3 := Lib.hid hz3; clear hz3)))))
          all_goals
            go_wp2_with fail
            go_meet
            have hsz3 : Hid (wr.drew.heap.size ≤ w3.heap.size → wr.heap.size ≤ w3.heap.size) := Lib.hid (fun h => h)
            first
              | with_reducible exact ⟨_, rfl, rfl, Blk.new _ _ _, hsz3.out hb3.size, by repeat (with_reducible first | exact Below.refl _ _ | refine Below.drew ?_ | refine bal ?_ _ | refine bthen ?_ hb3)⟩
              | exact ⟨_, rfl, rfl, Blk.set6 Hz3.out, Nat.le_refl _, by repeat (with_reducible first | exact Below.refl _ _ | refine Below.drew ?_ | refine bal ?_ _ | (refine bst ?_ (by first | omega | (simp; done) | (simp; omega)) _) | refine bthen ?_ hb3)⟩
        obtain ⟨q, rfl, rfl, hBq, hq, hbc⟩ := hcut
        have HR3 := Lib.hid (HRr.out.on hbc); have Hb3 := Lib.hid (bthen Hbr.out hbc)
        have He3 := Lib.hid (Her.out.on hbc)
        have c4 := (hbc.cell (p := ⟨g2, 4, none⟩) hlg).trans C4.out
        have hlg3 := Nat.lt_of_lt_of_le hlg hbc.size
        have HBq := Lib.hid hBq
        clear HS c0 c1 c2 c3 hBq hbc C4
        have hqw : Hid (w.heap.size ≠ q) := Lib.hid (by have := HRr.out.lt; omega)
        have Hq0 : Hid (w.heap.size ≤ q) := Lib.hid (by have := HRr.out.lt; omega)
        clear hq Hown HRr HWr Her Hbr hbg hb
        cases ok
        · have HN := Lib.hid (psV_none (show psI s = none by rw [Hps.out, if_neg (fun hh => by have h9 := hh.1; unfold tk5 at h9; rw [newT_no Hnt.out] at h9; cases h9)]))
          go_wp2
          refine wp_region_tame (by kernel_rfl) (by kernel_rfl) (fun T _ W hT => ?_)
          have hx := hT.cell
          repeat (go_big_quiet_step (fail))
          refine wpQuiet_nil ?_
          intro t
          clear hx
          have hbt := hT.below t
          have HR4 := Lib.hid (HR3.out.on hbt); have Hb4 := Lib.hid (bthen Hb3.out hbt); clear hbt
          have r0 := HR4.out.cell 0
          have r1 := HR4.out.cell 1
          have r2 := HR4.out.cell 2
          have r3 := HR4.out.cell 3
          have r4 := HR4.out.cell 4
          have r5 := HR4.out.cell 5
          simp at r0 r1 r2 r3 r4 r5
          have rl := HR4.out.lt
          have rf := HR4.out.frozen
          go_wp2
          clear r0 r1 r2 r3 r4 r5 rf
          have HR6 := HR4.out.set6 (b0 := .int .i64 0) (b1 := .int .i64 0) (b2 := .int .i64 0) (b3 := .int .i64 0) (b4 := .int .i64 0) (b5 := .slice none 0 0)
          have k0 := HR6.cell 0
          have k1 := HR6.cell 1
          have k2 := HR6.cell 2
          have k3 := HR6.cell 3
          have k4 := HR6.cell 4
          have k5 := HR6.cell 5
          simp at k0 k1 k2 k3 k4 k5
          exact bodyPost_ret (v := .tuple #[.agg #[.int .i64 0, .int .i64 0, .int .i64 0, .int .i64 0, .int .i64 0, .slice none 0 0], .bool false]) (by simp [results, Tryz.results6, go_sem, k0, k1, k2, k3, k4, k5]) rfl ⟨TkRet.zero HN.out, bst (bst (bst (bst (bst (bst (Hb4.out) (Nat.le_refl _) _) (Nat.le_refl _) _) (Nat.le_refl _) _) (Nat.le_refl _) _) (Nat.le_refl _) _) (Nat.le_refl _) _⟩
        · obtain ⟨hk, rfl, rfl, rfl, rfl⟩ := newT_yes Hnt.out
          have Htk := Lib.hid (tkB_tk hk)
          have Htot := Lib.hid (fun (w' : World) (hb : Below wc.heap.size wc w') => tkTotal_any q x0 x1 x2 x3 0 (.slice none 0 0) w' (HBq.out.on hb) Htk.out)
          have inB : ∀ (n lo hi : Int) (w' : World), Calls Tryz.prog 28 #[.int .i64 n, .int .i64 lo, .int .i64 hi] w' fun r w'' => r = .returned (.bool (insB n lo hi)) ∧ Below w'.heap.size w' w'' := fun n lo hi w' => (inside_any n lo hi w').mono (fun _ _ h => ⟨h.1, h.2 ▸ Below.refl _ _⟩)
          have HT := Lib.hid (fun w' => inB x4 0 (totI x2 x3) w')
          clear inB
          cases hin : insB x4 0 (totI x2 x3)
          all_goals rw [hin] at HT
          · have HN := Lib.hid (psV_none (show psI s = none by rw [Hps.out, if_neg (fun hh => by have h9 := hh.1; unfold tk5 at h9; rw [hin] at h9; simp at h9)]))
            clear hin hk
            go_wp2
            refine wp_region_tame (by kernel_rfl) (by kernel_rfl) (fun T _ W hT => ?_)
            have hx := hT.cell
            repeat (go_big_quiet_step ((first | (go_at_call 28; with_reducible exact hT.call (HT.out _)) | (go_at_call 29; exact hT.call (Htot.out _ (hT.below _))))))
            refine wpQuiet_nil ?_
            intro t
            clear hx
            have hbt := hT.below t
            have HR4 := Lib.hid (HR3.out.on hbt); have Hb4 := Lib.hid (bthen Hb3.out hbt); clear hbt
            have r0 := HR4.out.cell 0
            have r1 := HR4.out.cell 1
            have r2 := HR4.out.cell 2
            have r3 := HR4.out.cell 3
            have r4 := HR4.out.cell 4
            have r5 := HR4.out.cell 5
            simp at r0 r1 r2 r3 r4 r5
            have rl := HR4.out.lt
            have rf := HR4.out.frozen
            go_wp2
            clear r0 r1 r2 r3 r4 r5 rf
            have HR6 := HR4.out.set6 (b0 := .int .i64 0) (b1 := .int .i64 0) (b2 := .int .i64 0) (b3 := .int .i64 0) (b4 := .int .i64 0) (b5 := .slice none 0 0)
            have k0 := HR6.cell 0
            have k1 := HR6.cell 1
            have k2 := HR6.cell 2
            have k3 := HR6.cell 3
            have k4 := HR6.cell 4
            have k5 := HR6.cell 5
            simp at k0 k1 k2 k3 k4 k5
            exact bodyPost_ret (v := .tuple #[.agg #[.int .i64 0, .int .i64 0, .int .i64 0, .int .i64 0, .int .i64 0, .slice none 0 0], .bool false]) (by simp [results, Tryz.results6, go_sem, k0, k1, k2, k3, k4, k5]) rfl ⟨TkRet.zero HN.out, bst (bst (bst (bst (bst (bst (Hb4.out) (Nat.le_refl _) _) (Nat.le_refl _) _) (Nat.le_refl _) _) (Nat.le_refl _) _) (Nat.le_refl _) _) (Nat.le_refl _) _⟩
          · have Hin := Lib.hid (insB_true hin)
            have h5k := Lib.hid (show tk5 x0 x1 x2 x3 x4 = true by unfold tk5; rw [hk, hin]; rfl)
            clear hin hk
            go_wp2
            refine wp_region_tame (by kernel_rfl) (by kernel_rfl) (fun T _ W hT => ?_)
            have hx := hT.cell
            repeat (go_big_quiet_step ((first | (go_at_call 28; with_reducible exact hT.call (HT.out _)) | (go_at_call 29; exact hT.call (Htot.out _ (hT.below _))))))
            refine wpQuiet_nil ?_
            intro t
            clear hx
            have hbt := hT.below t
            have HR4 := Lib.hid (HR3.out.on hbt); have HBq4 := Lib.hid (HBq.out.on hbt); have Hb4 := Lib.hid (bthen Hb3.out hbt)
            have c5 := (hbt.cell (p := ⟨g2, 4, none⟩) hlg3).trans c4
            clear hbt c4 hlg3 hT
            skip
            go_wp2_with fail
            refine (doneTo_any q x0 x1 x2 x3 0 x4 (.slice none 0 0) _ HBq4.out Htk.out Hin.out).mono ?_; rintro e w5 ⟨⟨v5, rfl, hown5⟩, hb5⟩
            obtain ⟨A5, c5, rfl⟩ := own_form hown5
            have HR5 := Lib.hid (HR4.out.on hb5); have HBq5 := Lib.hid (HBq4.out.on hb5); have Hb5 := Lib.hid (bthen Hb4.out hb5); have Hql := Lib.hid HBq4.out.lt; have Hrl := Lib.hid HR4.out.lt
            have Hown5 := Lib.hid hown5; clear hown5 hb5
            skip
            have b0 := HBq5.out.cell 0
            have b1 := HBq5.out.cell 1
            have b2 := HBq5.out.cell 2
            have b3 := HBq5.out.cell 3
            have b4 := HBq5.out.cell 4
            have b5 := HBq5.out.cell 5
            simp at b0 b1 b2 b3 b4 b5
            have bl := HBq5.out.lt
            have bf := HBq5.out.frozen
            go_wp2_with fail
            clear b0 b1 b2 b3 b4 b5 bf
            have HBq6 := HBq5.out.set6 (b0 := .int .i64 x0) (b1 := .int .i64 x1) (b2 := .int .i64 x2) (b3 := .int .i64 x3) (b4 := .int .i64 x4) (b5 := .slice A5 (hitsZ x0 x1 x2 0 x4).length c5)
            have HR6 := Lib.hid (((((((HR5.out).far (p := ⟨q, 0, none⟩) hqw.out (.int .i64 x0)).far (p := ⟨q, 1, none⟩) hqw.out (.int .i64 x1)).far (p := ⟨q, 2, none⟩) hqw.out (.int .i64 x2)).far (p := ⟨q, 3, none⟩) hqw.out (.int .i64 x3)).far (p := ⟨q, 4, none⟩) hqw.out (.int .i64 x4)).far (p := ⟨q, 5, none⟩) hqw.out (.slice A5 (hitsZ x0 x1 x2 0 x4).length c5))
            have Hb6 := Lib.hid (bst (bst (bst (bst (bst (bst (Hb5.out) (p := ⟨q, 0, none⟩) Hq0.out (.int .i64 x0)) (p := ⟨q, 1, none⟩) Hq0.out (.int .i64 x1)) (p := ⟨q, 2, none⟩) Hq0.out (.int .i64 x2)) (p := ⟨q, 3, none⟩) Hq0.out (.int .i64 x3)) (p := ⟨q, 4, none⟩) Hq0.out (.int .i64 x4)) (p := ⟨q, 5, none⟩) Hq0.out (.slice A5 (hitsZ x0 x1 x2 0 x4).length c5))
            have Hown6 := Lib.hid (show World.ownsRow (World.setCell (World.setCell (World.setCell (World.setCell (World.setCell (World.setCell w5 ⟨q, 0, none⟩ (.int .i64 x0)) ⟨q, 1, none⟩ (.int .i64 x1)) ⟨q, 2, none⟩ (.int .i64 x2)) ⟨q, 3, none⟩ (.int .i64 x3)) ⟨q, 4, none⟩ (.int .i64 x4)) ⟨q, 5, none⟩ (.slice A5 (hitsZ x0 x1 x2 0 x4).length c5)) _ 94 3 _ _ _ from own_far (g := q) Hown5.out (by repeat (first | (with_reducible exact grefl _ _) | (with_reducible refine only_cell ?_) | (with_reducible refine only_drew ?_))) Hql.out)
            clear Hown5 Hb5
            refine (text_any q x0 x1 x2 x3 x4 _ _ HBq6 Htk.out (by have h6 := (tk5_small h5k.out).2.2.2.2; exact h6) (Hw.out.on Hb6.out).tab).mono ?_; rintro e w7 ⟨rfl, hb7⟩
            have HR7 := Lib.hid (HR6.out.on hb7); have HBq7 := Lib.hid (HBq6.on hb7); have Hb7 := Lib.hid (bthen Hb6.out hb7); have Hown7 := Lib.hid (own_below Hown6.out hb7)
            clear hb7 HBq6 Hown6 Hb6 HR6 HBq5
            by_cases htx : nText [x0, x1, x2, x3, x4] = s
            · have HV := Lib.hid (psV_some (show psI s = some (x0, x1, x2, x3, x4) by rw [Hps.out, if_pos ⟨h5k.out, by rw [htx]⟩]))
              have hq : ((nText [x0, x1, x2, x3, x4]).toList == s.toList) = true := by rw [htx]; simp
              clear htx
              have b0 := HBq7.out.cell 0
              have b1 := HBq7.out.cell 1
              have b2 := HBq7.out.cell 2
              have b3 := HBq7.out.cell 3
              have b4 := HBq7.out.cell 4
              have b5 := HBq7.out.cell 5
              simp at b0 b1 b2 b3 b4 b5
              have bl := HBq7.out.lt
              have r0 := HR7.out.cell 0
              have r1 := HR7.out.cell 1
              have r2 := HR7.out.cell 2
              have r3 := HR7.out.cell 3
              have r4 := HR7.out.cell 4
              have r5 := HR7.out.cell 5
              simp at r0 r1 r2 r3 r4 r5
              have rl := HR7.out.lt
              have rf := HR7.out.frozen
              go_wp2
              clear r0 r1 r2 r3 r4 r5 rf b0 b1 b2 b3 b4 b5
              have HR6 := HR7.out.set6 (b0 := .int .i64 x0) (b1 := .int .i64 x1) (b2 := .int .i64 x2) (b3 := .int .i64 x3) (b4 := .int .i64 x4) (b5 := .slice A5 (hitsZ x0 x1 x2 0 x4).length c5)
              have k0 := HR6.cell 0
              have k1 := HR6.cell 1
              have k2 := HR6.cell 2
              have k3 := HR6.cell 3
              have k4 := HR6.cell 4
              have k5 := HR6.cell 5
              simp at k0 k1 k2 k3 k4 k5
              exact bodyPost_ret (v := .tuple #[.agg #[.int .i64 x0, .int .i64 x1, .int .i64 x2, .int .i64 x3, .int .i64 x4, .slice A5 (hitsZ x0 x1 x2 0 x4).length c5], .bool true]) (by simp [results, Tryz.results6, go_sem, k0, k1, k2, k3, k4, k5]) rfl ⟨TkRet.mk HV.out (own_far (g := w.heap.size) Hown7.out (by repeat (first | (with_reducible exact grefl _ _) | (with_reducible refine only_cell ?_) | (with_reducible refine only_drew ?_))) Hrl.out) (Nat.le_of_lt Hrl.out), bst (bst (bst (bst (bst (bst (Hb7.out) (Nat.le_refl _) _) (Nat.le_refl _) _) (Nat.le_refl _) _) (Nat.le_refl _) _) (Nat.le_refl _) _) (Nat.le_refl _) _⟩
            · have HN := Lib.hid (psV_none (show psI s = none by rw [Hps.out, if_neg (fun hh => htx (bytes_ext hh.2))]))
              have hq : ((nText [x0, x1, x2, x3, x4]).toList == s.toList) = false := beq_eq_false_iff_ne.2 (fun e => htx (bytes_inj e))
              clear htx
              have r0 := HR7.out.cell 0
              have r1 := HR7.out.cell 1
              have r2 := HR7.out.cell 2
              have r3 := HR7.out.cell 3
              have r4 := HR7.out.cell 4
              have r5 := HR7.out.cell 5
              simp at r0 r1 r2 r3 r4 r5
              have rl := HR7.out.lt
              have rf := HR7.out.frozen
              go_wp2
              clear r0 r1 r2 r3 r4 r5 rf
              have HR6 := HR7.out.set6 (b0 := .int .i64 0) (b1 := .int .i64 0) (b2 := .int .i64 0) (b3 := .int .i64 0) (b4 := .int .i64 0) (b5 := .slice none 0 0)
              have k0 := HR6.cell 0
              have k1 := HR6.cell 1
              have k2 := HR6.cell 2
              have k3 := HR6.cell 3
              have k4 := HR6.cell 4
              have k5 := HR6.cell 5
              simp at k0 k1 k2 k3 k4 k5
              exact bodyPost_ret (v := .tuple #[.agg #[.int .i64 0, .int .i64 0, .int .i64 0, .int .i64 0, .int .i64 0, .slice none 0 0], .bool false]) (by simp [results, Tryz.results6, go_sem, k0, k1, k2, k3, k4, k5]) rfl ⟨TkRet.zero HN.out, bst (bst (bst (bst (bst (bst (Hb7.out) (Nat.le_refl _) _) (Nat.le_refl _) _) (Nat.le_refl _) _) (Nat.le_refl _) _) (Nat.le_refl _) _) (Nat.le_refl _) _⟩
      · have HN := Lib.hid (Hn5.out (by omega))
        obtain ⟨A9, c9, rfl⟩ := own_form Hown.out
        have hx5 : ¬ ((xs.length : Int) = 5) := by omega
        have hx6 : ((xs.length : Int) == 5) = false := beq_eq_false_iff_ne.2 hx5
        have hx7 : ((xs.length : Int) != 5) = true := by simp [bne, hx6]
        have r0 := HRr.out.cell 0
        have r1 := HRr.out.cell 1
        have r2 := HRr.out.cell 2
        have r3 := HRr.out.cell 3
        have r4 := HRr.out.cell 4
        have r5 := HRr.out.cell 5
        simp at r0 r1 r2 r3 r4 r5
        have rl := HRr.out.lt
        have rf := HRr.out.frozen
        go_wp2
        clear r0 r1 r2 r3 r4 r5 rf
        have HR6 := HRr.out.set6 (b0 := .int .i64 0) (b1 := .int .i64 0) (b2 := .int .i64 0) (b3 := .int .i64 0) (b4 := .int .i64 0) (b5 := .slice none 0 0)
        have k0 := HR6.cell 0
        have k1 := HR6.cell 1
        have k2 := HR6.cell 2
        have k3 := HR6.cell 3
        have k4 := HR6.cell 4
        have k5 := HR6.cell 5
        simp at k0 k1 k2 k3 k4 k5
        exact bodyPost_ret (v := .tuple #[.agg #[.int .i64 0, .int .i64 0, .int .i64 0, .int .i64 0, .int .i64 0, .slice none 0 0], .bool false]) (by simp [results, Tryz.results6, go_sem, k0, k1, k2, k3, k4, k5]) rfl ⟨TkRet.zero HN.out, bst (bst (bst (bst (bst (bst (Hbr.out) (Nat.le_refl _) _) (Nat.le_refl _) _) (Nat.le_refl _) _) (Nat.le_refl _) _) (Nat.le_refl _) _) (Nat.le_refl _) _⟩
end Go.Proofs.YticbmpjdcanjkaaGreatDoor
