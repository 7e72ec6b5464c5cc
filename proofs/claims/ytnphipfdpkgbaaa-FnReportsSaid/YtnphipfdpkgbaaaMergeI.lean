/- mergeCatalogues of the program. Conditions: none. -/
import Derived.Test.YtnphipfdpkgbaaaTightL
import Derived.Test.YtnphipfdpkgbaaaSeaE
import Derived.Test.YtnphipfdpkgbaaaInsE
import Derived.Test.YtnphipfdpkgbaaaMeet2
namespace Go.Proofs.Ytnphipfdpkgbaaa
open Go Go.RowKit

theorem foundE (es : List En) (y : En) : (decide (placeN es y.a y.b < es.length) && decide (cmpC (enS.get es (placeN es y.a y.b)).a (enS.get es (placeN es y.a y.b)).b y.a y.b = 0)) = atB es (placeN es y.a y.b) y.a y.b := by
  unfold atB isCu
  congr 1
  rw [Bool.eq_iff_iff, decide_eq_true_eq, cmpC_eq]
  simp
theorem catE_mono {es : List En} (hv : okCat es) (y : En) : ∀ i j, i ≤ j → j < es.length → cmpC (enS.get es j).a (enS.get es j).b y.a y.b < 0 → cmpC (enS.get es i).a (enS.get es i).b y.a y.b < 0 := by
  intro i j hij hj h
  rcases Nat.lt_or_ge i j with h1 | h1
  · exact cmpE_trans (catE_lt hv h1 hj) h
  · obtain rfl : i = j := by omega
    exact h
theorem tightO_new {es : List En} {y : En} (h : atB es (placeN es y.a y.b) y.a y.b = false) : tightO es y = some (ins es (placeN es y.a y.b) y) := by unfold tightO; rw [h]; rfl
theorem tightO_met {es : List En} {y : En} (h : atB es (placeN es y.a y.b) y.a y.b = true) (ho : okMeet (enS.get es (placeN es y.a y.b)) y = true) : tightO es y = some (swapE es (placeN es y.a y.b) (meetE (enS.get es (placeN es y.a y.b)) y)) := by unfold tightO; rw [h, ho]; rfl
theorem tightO_torn {es : List En} {y : En} (h : atB es (placeN es y.a y.b) y.a y.b = true) (ho : okMeet (enS.get es (placeN es y.a y.b)) y = false) : tightO es y = none := by unfold tightO; rw [h, ho]; rfl

set_option maxRecDepth 8000 in
set_option maxHeartbeats 8000000 in
theorem mergeCat_any (va : Value) (xs : List En) (v : Value) (bs : List En) (w : World) (ha : Rd enS w w.heap.size va xs) (h : Rd enS w w.heap.size v bs) (hxl : xs.length ≤ 100) (hbl : bs.length ≤ 100) (hxv : okCat xs) (hbv : ∀ k, k < bs.length → entE (enS.get bs k) = true) :
    Calls Try.prog 59 #[va, v] w fun r w' => (∃ (v' : Value) (z : List En) (b : Bool), r = .returned (.tuple #[v', .bool b]) ∧ mergeV xs bs = (z, b) ∧ w'.ownsRow w.heap.size 36 5 v' z.length (enS.flat z)) ∧ Below w.heap.size w w' := by
  have Ha := Lib.hid ha; clear ha
  have Hxv := Lib.hid hxv; clear hxv
  have Hbv := Lib.hid hbv; clear hbv
  obtain ⟨A, c, rfl, hcc, hm, hA⟩ := h
  unfold maxLen at hm
  rcases Nat.eq_zero_or_pos bs.length with h0 | h0
  · obtain rfl : bs = [] := List.eq_nil_of_length_eq_zero h0
    clear hA h0 hbl
    go_enter Try.func59, Try.ntmps59
    go_wp2_with fail
    refine (cloneEn_any _ xs _ Ha.out (by omega)).mono ?_
    rintro e w1 ⟨v1, rfl, ho1, hb1⟩
    have Ho1 := Lib.hid ho1
    obtain ⟨A1, c1, rfl, -, -, -⟩ := Rd.of_own (S := enS) ho1 rfl
    clear ho1
    have Hv := Lib.hid (show mergeV xs [] = if xs.length ≤ 12 then (xs, true) else ([], false) from rfl)
    go_wp2
    refine wp_loop_rounds 1 ?_
    rw [rounds_succ]
    by_cases hl : xs.length ≤ 12
    · have hd : decide ((12 : Int) < (xs.length : Int)) = false := decide_eq_false (by omega)
      have hd2 : decide (12 < xs.length) = false := decide_eq_false (by omega)
      have Hl := Lib.hid hl; clear hl
      go_wp2
      go_ret2
      exact ⟨⟨_, xs, true, rfl, by rw [Hv.out, if_pos Hl.out], Ho1.out⟩, hb1⟩
    · have hd : decide ((12 : Int) < (xs.length : Int)) = true := decide_eq_true (by omega)
      have hd2 : decide (12 < xs.length) = true := decide_eq_true (by omega)
      have Hl := Lib.hid hl; clear hl
      go_wp2
      go_ret2
      exact ⟨⟨_, [], false, rfl, by rw [Hv.out, if_neg Hl.out], by simp [Shape.flat], Or.inl ⟨rfl, rfl⟩⟩, hb1⟩
  · obtain ⟨g, off, rfl, hgl, hcell⟩ := hA h0
    clear hA
    have hcell := en_cells hcell
    go_enter Try.func59, Try.ntmps59
    go_wp2_with fail
    refine (cloneEn_any _ xs _ Ha.out (by omega)).mono ?_
    rintro e w1 ⟨v1, rfl, ho1, hb1⟩
    have Ho1 := Lib.hid ho1; clear ho1
    go_wp2
    go_loopw [17, 6] (fun i o wr => ∃ (k : Nat) (z : List En), k ≤ bs.length ∧ i = .int .i64 k ∧ Hid (foldO xs (bs.take k) = some z) ∧ Hid (okCat z) ∧ z.length ≤ xs.length + k ∧ Below w.heap.size w wr ∧ wr.ownsRow w.heap.size 36 5 o z.length (enS.flat z)) (fun i _ _ => bs.length - (intOf i).toNat)
    case atStart => exact ⟨0, xs, Nat.zero_le _, rfl, Lib.hid (foldO_zero xs bs), Lib.hid Hxv.out, Nat.le_refl _, hb1, Ho1.out⟩
    case round =>
      obtain ⟨k, z, hk, rfl, Hz, Hzv, hzl, hb, hown⟩ := hrel
      have Hown := Lib.hid hown; clear hown
      by_cases hlt : k < bs.length
      · obtain ⟨f0, f1, f2, f3, f4⟩ := hcell k hlt
        rw [← hb.cell (p := ⟨_, _, _⟩) hgl] at f0 f1 f2 f3 f4
        have Hy := Lib.hid (Hbv.out k hlt)
        have Hsucc := Lib.hid (foldO_succ xs hlt)
        have hgr : g < wr.heap.size := Nat.lt_of_lt_of_le hgl hb.size
        generalize enS.get bs k = y at f0 f1 f2 f3 f4 Hy Hsucc
        have hi0 : (0 : Int) ≤ (k : Int) := by omega
        have hi1 : (k : Int) < (bs.length : Int) := by omega
        have hbA : Below wr.heap.size wr (wr.alloc (Obj.cells #[.int .i64 y.a, .int .i64 y.b, .int .i64 y.lo, .int .i64 y.hi, .int .i64 y.to] 36)) := bal (Below.refl _ _) _
        have HbA := Lib.hid hbA; clear hbA
        have Hbox := Lib.hid (Blk.new wr 36 #[.int .i64 y.a, .int .i64 y.b, .int .i64 y.lo, .int .i64 y.hi, .int .i64 y.to])
        have Hpk := Lib.hid (placeN_spec z y).1
        clear hcell
        go_wp2_with fail
        refine (searchEn_any _ z y _ (Rd.of_own (own_below Hown.out HbA.out) rfl) (by omega) (catE_mono Hzv.out y)).mono ?_
        rintro e w2 ⟨rfl, hb2⟩
        rw [foundE]
        have Hown2 := Lib.hid (own_below Hown.out (bthen HbA.out hb2))
        have hb2' := bthen (bthen hb HbA.out) hb2
        have hbox2 := Hbox.out.on hb2
        clear hb2 f0 f1 f2 f3 f4 hgr
        obtain ⟨p, hp⟩ : ∃ p, placeN z y.a y.b = p := ⟨_, rfl⟩
        rw [hp]
        have Hp := Lib.hid hp
        rw [hp] at Hpk
        clear hp
        cases hat : atB z p y.a y.b
        · have Hnew := Lib.hid (show foldO xs (bs.take (k + 1)) = some (ins z p y) by rw [Hsucc.out, Hz.out, ← Hp.out]; exact tightO_new (by rw [Hp.out]; exact hat))
          have Hnv := Lib.hid (show okCat (ins z p y) by rw [← Hp.out]; exact tight_ok Hzv.out Hy.out (tightO_new (by rw [Hp.out]; exact hat)))
          clear hat
          have q0 := hbox2.cell 0
          have q1 := hbox2.cell 1
          have q2 := hbox2.cell 2
          have q3 := hbox2.cell 3
          have q4 := hbox2.cell 4
          have ql := hbox2.lt
          go_wp2_with fail
          have hlb : Below w.heap.size w (w2.alloc (Obj.cells #[.int .i64 y.a, .int .i64 y.b, .int .i64 y.lo, .int .i64 y.hi, .int .i64 y.to] 36)) := bal hb2' _
          refine (insEn_any _ z p y w2.heap.size w.heap.size _ (World.ownsRow.alloc Hown2.out _) (by omega) Hpk.out (Blk.new _ _ _) (by intro e; have h5 := (Hown2.out.lt _ e).2; omega) hlb.size).mono ?_
          rintro e w3 ⟨v3, rfl, ho3, hg3⟩
          have hb3 : Below w.heap.size w w3 := Below.grown hlb hg3 hlb.size (fun j hj => (Hown2.out.lt j hj).1)
          have Ho3 := Lib.hid ho3
          clear ho3 hg3 q0 q1 q2 q3 q4 ql hbox2
          go_wp2
          go_roundw
          case rel => exact ⟨k + 1, ins z p y, by omega, by go_num, Hnew, Hnv, by rw [length_ins]; omega, hb3, Ho3.out⟩
          case measure => simp [intOf]; omega
        · have hplt := (atB_spec hat).1
          obtain ⟨g2, cap2, rfl⟩ : ∃ g cap, u6 = .slice (some ⟨g, 0, none⟩) z.length cap := by
            rcases Hown2.out.2 with ⟨-, h0⟩ | ⟨g, cap, cur, h1, -⟩
            · omega
            · exact ⟨g, cap, h1⟩
          obtain ⟨e0, e1, e2, e3, e4⟩ := own_en Hown2.out rfl hplt
          have hg2 := (own_base Hown2.out).2
          have hne2 : wr.heap.size ≠ g2 := by have := (own_base Hown.out).2; omega
          have hi2 : (0 : Int) ≤ (p : Int) := by omega
          have hi3 : (p : Int) < (z.length : Int) := by omega
          generalize hx : enS.get z p = x at e0 e1 e2 e3 e4
          have Hat := Lib.hid hat; clear hat
          have Hx := Lib.hid hx; clear hx
          have HS : Hid (∀ w', Below w2.heap.size w2 w' → (w'.cell? ⟨g2, p * 5, none⟩ = some (.int .i64 x.a) ∧ w'.cell? ⟨g2, p * 5 + 1, none⟩ = some (.int .i64 x.b) ∧ w'.cell? ⟨g2, p * 5 + 2, none⟩ = some (.int .i64 x.lo) ∧ w'.cell? ⟨g2, p * 5 + 3, none⟩ = some (.int .i64 x.hi) ∧ w'.cell? ⟨g2, p * 5 + 4, none⟩ = some (.int .i64 x.to) ∧ w'.cell? ⟨wr.heap.size, 0, none⟩ = some (.int .i64 y.a) ∧ w'.cell? ⟨wr.heap.size, 1, none⟩ = some (.int .i64 y.b) ∧ w'.cell? ⟨wr.heap.size, 2, none⟩ = some (.int .i64 y.lo) ∧ w'.cell? ⟨wr.heap.size, 3, none⟩ = some (.int .i64 y.hi) ∧ w'.cell? ⟨wr.heap.size, 4, none⟩ = some (.int .i64 y.to) ∧ Below w2.heap.size w2 w')) := Lib.hid (fun w' hw => ⟨(hw.cell (p := ⟨g2, p * 5, none⟩) hg2).trans e0, (hw.cell (p := ⟨g2, p * 5 + 1, none⟩) hg2).trans e1, (hw.cell (p := ⟨g2, p * 5 + 2, none⟩) hg2).trans e2, (hw.cell (p := ⟨g2, p * 5 + 3, none⟩) hg2).trans e3, (hw.cell (p := ⟨g2, p * 5 + 4, none⟩) hg2).trans e4, (hw.cell (p := ⟨wr.heap.size, 0, none⟩) hbox2.lt).trans (hbox2.cell 0), (hw.cell (p := ⟨wr.heap.size, 1, none⟩) hbox2.lt).trans (hbox2.cell 1), (hw.cell (p := ⟨wr.heap.size, 2, none⟩) hbox2.lt).trans (hbox2.cell 2), (hw.cell (p := ⟨wr.heap.size, 3, none⟩) hbox2.lt).trans (hbox2.cell 3), (hw.cell (p := ⟨wr.heap.size, 4, none⟩) hbox2.lt).trans (hbox2.cell 4), hw⟩)
          go_wp2_with fail
          go_cut [11, 12] (fun q b wx => ∃ (qb : Nat) (m : En), q = .pointer (some ⟨qb, 0, none⟩) ∧ b = .bool (okMeet x y) ∧ (okMeet x y = true → m = meetE x y) ∧ Blk wx qb 36 #[.int .i64 m.a, .int .i64 m.b, .int .i64 m.lo, .int .i64 m.hi, .int .i64 m.to] ∧ w2.heap.size ≤ qb ∧ Below w2.heap.size w2 wx)
          case first =>
            go_region_held3 (fun w' => w'.cell? ⟨g2, p * 5, none⟩ = some (.int .i64 x.a) ∧ w'.cell? ⟨g2, p * 5 + 1, none⟩ = some (.int .i64 x.b) ∧ w'.cell? ⟨g2, p * 5 + 2, none⟩ = some (.int .i64 x.lo) ∧ w'.cell? ⟨g2, p * 5 + 3, none⟩ = some (.int .i64 x.hi) ∧ w'.cell? ⟨g2, p * 5 + 4, none⟩ = some (.int .i64 x.to) ∧ w'.cell? ⟨wr.heap.size, 0, none⟩ = some (.int .i64 y.a) ∧ w'.cell? ⟨wr.heap.size, 1, none⟩ = some (.int .i64 y.b) ∧ w'.cell? ⟨wr.heap.size, 2, none⟩ = some (.int .i64 y.lo) ∧ w'.cell? ⟨wr.heap.size, 3, none⟩ = some (.int .i64 y.hi) ∧ w'.cell? ⟨wr.heap.size, 4, none⟩ = some (.int .i64 y.to) ∧ Below w2.heap.size w2 w')
              ((go_split_ands; refine HS.out _ ?_; repeat (first | (with_reducible assumption) | (with_reducible exact Below.refl _ _) | (with_reducible refine Below.drew ?_) | (with_reducible refine bal ?_ _) | (with_reducible refine bst ?_ (by first | omega | (simp; done) | (simp; omega)) _) | (with_reducible refine bthen ?_ (by with_reducible assumption)))))
              ((first
                | (go_at_call 63; refine (meetEntries_any x y _).mono ?_; rintro e w3 ⟨⟨m, rfl, hm3⟩, hb3⟩; (try (have hz3 : Blk w3 w2.heap.size 36 #[.int .i64 0, .int .i64 0, .int .i64 0, .int .i64 0, .int .i64 0] := (Blk.drew (Blk.new w2 36 #[.int .i64 0, .int .i64 0, .int .i64 0, .int .i64 0, .int .i64 0])).on hb3; have zc0 := hz3.cell 0; have zc1 := hz3.cell 1; have zc2 := hz3.cell 2; have zc3 := hz3.cell 3; have zc4 := hz3.cell 4; have zf0 := hz3.frozen 0; have zf1 := hz3.frozen 1; have zf2 := hz3.frozen 2; have zf3 := hz3.frozen 3; have zf4 := hz3.frozen 4; have zl := hz3.lt; have Hz3 := Lib.hid hz3; clear hz3)))))
            all_goals
              have Hm3 := Lib.hid hm3
              clear hm3
              go_wp2_with fail
              go_meet
              have hsz3 : Hid (w2.drew.heap.size ≤ w3.heap.size → w2.heap.size ≤ w3.heap.size) := Lib.hid (fun h => h)
              first
                | with_reducible exact ⟨_, m, rfl, rfl, Hm3.out, Blk.new _ _ _, hsz3.out hb3.size, by repeat (with_reducible first | exact Below.refl _ _ | refine Below.drew ?_ | refine bal ?_ _ | refine bthen ?_ hb3)⟩
                | exact ⟨_, m, rfl, rfl, Hm3.out, Blk.set5 Hz3.out, Nat.le_refl _, by repeat (with_reducible first | exact Below.refl _ _ | refine Below.drew ?_ | refine bal ?_ _ | (refine bst ?_ (by first | omega | (simp; done) | (simp; omega)) _) | refine bthen ?_ hb3)⟩
          obtain ⟨qb, m, rfl, rfl, hm', hBm, hq, hbc⟩ := hcut
          have hbt := bthen hb2' hbc
          have Hownc := Lib.hid (own_below Hown2.out hbc)
          clear HS e0 e1 e2 e3 e4 hbox2
          have Hm := Lib.hid hm'; clear hm'
          cases hok : okMeet x y
          · have Hno := Lib.hid (show foldO xs bs = none by refine foldO_stop (k := k + 1) ?_; rw [Hsucc.out, Hz.out]; exact tightO_torn (by rw [Hp.out]; exact Hat.out) (by rw [Hp.out, Hx.out]; exact hok))
            have Hok := Lib.hid hok; clear hok hBm
            go_wp2
            go_ret2
            exact ⟨⟨_, [], false, rfl, by unfold mergeV; rw [Hno.out], by simp [Shape.flat], Or.inl ⟨rfl, rfl⟩⟩, hbt⟩
          · have hto : tightO z y = some (swapE z p m) := by
              have := tightO_met (es := z) (y := y) (by rw [Hp.out]; exact Hat.out) (by rw [Hp.out, Hx.out]; exact hok)
              rw [Hp.out, Hx.out, ← Hm.out hok] at this
              exact this
            have Hnew := Lib.hid (show foldO xs (bs.take (k + 1)) = some (swapE z p m) by rw [Hsucc.out, Hz.out]; exact hto)
            have Hnv := Lib.hid (tight_ok Hzv.out Hy.out hto)
            have Hok := Lib.hid hok; clear hok hto
            obtain ⟨o0, o1, o2, o3, o4⟩ := own_en Hownc.out rfl hplt
            have hgc := (own_base Hownc.out).2
            have z0 := Hownc.out.frozenAt (p * 5)
            have z1 := Hownc.out.frozenAt (p * 5 + 1)
            have z2 := Hownc.out.frozenAt (p * 5 + 2)
            have z3 := Hownc.out.frozenAt (p * 5 + 3)
            have z4 := Hownc.out.frozenAt (p * 5 + 4)
            have m0 := hBm.cell 0
            have m1 := hBm.cell 1
            have m2 := hBm.cell 2
            have m3 := hBm.cell 3
            have m4 := hBm.cell 4
            have ml := hBm.lt
            clear hBm
            go_wp2
            go_roundw
            case rel =>
              have hl := own_lay (enS.cells m) _ _ (p * 5) Hownc.out
              rw [putEn] at hl
              have hfl : lay (enS.flat z) (p * 5) (enS.cells m) = enS.flat (swapE z p m) := by
                rw [swapE_set z p m hplt]
                rcases lay_flat (S := enS) z p m with h | h
                · exact h
                · omega
              rw [hfl] at hl
              exact ⟨k + 1, swapE z p m, by omega, by go_num, Hnew, Hnv, by rw [length_swapE _ _ _ hplt]; omega, Below.grown hbt hl.2 hbt.size (fun j hj => by cases hj; exact (own_base Hownc.out).1), by rw [length_swapE _ _ _ hplt]; exact hl.1⟩
            case measure => simp [intOf]; omega
      · obtain rfl : k = bs.length := by omega
        have hd0 : decide (bs.length < bs.length) = false := decide_eq_false (by omega)
        have Hz' := Lib.hid (show foldO xs bs = some z by have := Hz.out; rwa [List.take_length] at this)
        have Hv := Lib.hid (show mergeV xs bs = if z.length ≤ 12 then (z, true) else ([], false) by unfold mergeV; rw [Hz'.out])
        obtain ⟨A1, c1, rfl, -, -, -⟩ := Rd.of_own (S := enS) Hown.out rfl
        clear hcell
        by_cases hl : z.length ≤ 12
        · have hd : decide ((12 : Int) < (z.length : Int)) = false := decide_eq_false (by omega)
          have hd2 : decide (12 < z.length) = false := decide_eq_false (by omega)
          have Hl := Lib.hid hl; clear hl
          go_wp2
          go_ret2
          exact ⟨⟨_, z, true, rfl, by rw [Hv.out, if_pos Hl.out], Hown.out⟩, hb⟩
        · have hd : decide ((12 : Int) < (z.length : Int)) = true := decide_eq_true (by omega)
          have hd2 : decide (12 < z.length) = true := decide_eq_true (by omega)
          have Hl := Lib.hid hl; clear hl
          go_wp2
          go_ret2
          exact ⟨⟨_, [], false, rfl, by rw [Hv.out, if_neg Hl.out], by simp [Shape.flat], Or.inl ⟨rfl, rfl⟩⟩, hb⟩
end Go.Proofs.Ytnphipfdpkgbaaa
