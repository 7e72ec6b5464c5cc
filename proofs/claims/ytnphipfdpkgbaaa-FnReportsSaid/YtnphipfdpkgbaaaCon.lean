/- Contradictions of the reference and of the program: the walks. Conditions: none. -/
import Derived.Test.YtnphipfdpkgbaaaMergeL
namespace Go.Proofs.Ytnphipfdpkgbaaa
open Go Go.RowKit

def tornE (bs : List En) (e : En) : Bool := atB bs (placeN bs e.a e.b) e.a e.b && !okMeet e (enS.get bs (placeN bs e.a e.b))
def conF (bs xs : List En) : List Cu := (xs.filter (tornE bs)).map (fun e => ⟨e.a, e.b⟩)
def conG (xs bs : List En) : List Cu × Bool := if catB xs && catB bs then (conF bs xs, true) else ([], false)
theorem conF_succ (bs : List En) {xs : List En} {k : Nat} (hk : k < xs.length) : conF bs (xs.take (k + 1)) = if tornE bs (enS.get xs k) then conF bs (xs.take k) ++ [⟨(enS.get xs k).a, (enS.get xs k).b⟩] else conF bs (xs.take k) := by
  have : xs.take (k + 1) = xs.take k ++ [enS.get xs k] := by
    rw [List.take_add_one, List.getElem?_eq_getElem hk]
    simp [Shape.get, List.getD_eq_getElem?_getD, List.getElem?_eq_getElem hk]
  unfold conF
  rw [this, List.filter_append, List.map_append]
  cases h : tornE bs (enS.get xs k)
  · simp [h]
  · simp [h]
theorem conF_len (bs xs : List En) (k : Nat) : (conF bs (xs.take k)).length ≤ xs.length := by
  unfold conF
  rw [List.length_map]
  exact Nat.le_trans (List.length_filter_le _ _) (by rw [List.length_take]; omega)
theorem conG_len {xs bs : List En} (y : List Cu) (b : Bool) (h : conG xs bs = (y, b)) : y.length ≤ 12 := by
  unfold conG at h
  split at h
  · rename_i hg
    obtain ⟨rfl, -⟩ := Prod.mk.inj h
    simp only [Bool.and_eq_true] at hg
    have := conF_len bs xs xs.length
    rw [List.take_length] at this
    have h2 := (catB_spec hg.1).1
    omega
  · obtain ⟨rfl, -⟩ := Prod.mk.inj h; simp
theorem infoCu2 : (Try.prog.info? 34).map (fun i => (i.zero, i.size, i.bytes)) = some (some (.agg #[.int .i64 0, .int .i64 0]), 2, 16) := by kernel_rfl
theorem cu_one (es : List Cu) : ∀ u ∈ cuS.flat es, u.oneCell' = true := by
  intro u hu
  unfold Shape.flat at hu
  rw [List.mem_flatMap] at hu
  obtain ⟨x, -, hx⟩ := hu
  unfold Shape.cells at hx
  rw [List.mem_map] at hx
  obtain ⟨j, -, rfl⟩ := hx
  simp only [cuS]
  split <;> rfl
theorem oneCu_cells {w : World} {b : Nat} {x : Cu} (h : Blk w b 34 #[.int .i64 x.a, .int .i64 x.b]) : ∀ j u, (cuS.flat [x])[j]? = some u → w.cell? ((⟨b, 0, none⟩ : Addr).add j) = some u := by
  intro j u hj
  have hj2 : ((#[.int .i64 x.a, .int .i64 x.b] : Array Value).toList)[j]? = some u := hj
  rw [Array.getElem?_toList] at hj2
  rw [← hj2, ← h.cell j]
  unfold Addr.add
  by_cases h0 : j = 0 <;> simp [h0]

set_option maxRecDepth 8000 in
set_option maxHeartbeats 8000000 in
theorem specCon_any (va : Value) (xs : List En) (vb : Value) (bs : List En) (w : World) (ha : Rd enS w w.heap.size va xs) (h : Rd enS w w.heap.size vb bs) :
    Calls Try.prog 10 #[va, vb] w fun r w' => (∃ (v' : Value) (z : List Cu) (b : Bool), r = .returned (.tuple #[v', .bool b]) ∧ conG xs bs = (z, b) ∧ w'.ownsRow w.heap.size 34 2 v' z.length (cuS.flat z)) ∧ Below w.heap.size w w' := by
  obtain ⟨i0, hi, hz0, hz1, hz2⟩ := info_parts infoCu2
  have Ha := Lib.hid ha
  have Hb := Lib.hid h
  obtain ⟨A, c, rfl, hcc, hm, hA⟩ := ha
  unfold maxLen at hm
  cases hg : catB xs
  · have Hfin := Lib.hid (show conG xs bs = ([], false) by unfold conG; rw [hg]; rfl)
    clear hA h
    go_enter Try.func10, Try.ntmps10
    go_wp2_with fail
    refine (caGood_any _ xs _ Ha.out).mono ?_; rintro e w1 ⟨rfl, hb1⟩
    rw [hg]
    go_wp2
    go_ret2
    exact ⟨⟨_, [], false, rfl, Hfin.out, by simp [Shape.flat], Or.inl ⟨rfl, rfl⟩⟩, hb1⟩
  · cases hgb : catB bs
    · have Hfin := Lib.hid (show conG xs bs = ([], false) by unfold conG; rw [hgb, Bool.and_false]; rfl)
      clear hA h
      go_enter Try.func10, Try.ntmps10
      go_wp2_with fail
      refine (caGood_any _ xs _ Ha.out).mono ?_; rintro e w1 ⟨rfl, hb1⟩
      rw [hg]
      go_wp2_with fail
      refine (caGood_any _ bs _ (Hb.out.on hb1)).mono ?_; rintro e w2 ⟨rfl, hb2⟩
      rw [hgb]
      go_wp2
      go_ret2
      exact ⟨⟨_, [], false, rfl, Hfin.out, by simp [Shape.flat], Or.inl ⟨rfl, rfl⟩⟩, bthen hb1 hb2⟩
    · have Hfin := Lib.hid (show conG xs bs = (conF bs xs, true) by unfold conG; rw [hg, hgb]; rfl)
      have Hxv := Lib.hid (cat_ok hg)
      have HBv := Lib.hid (cat_ok hgb)
      have Hbc := Lib.hid hgb
      obtain ⟨Ab, cb, rfl, hccb, -, hAb⟩ := h
      have HAb := Lib.hid hAb; clear hAb
      rcases Nat.eq_zero_or_pos xs.length with h0 | h0
      · obtain rfl : xs = [] := List.eq_nil_of_length_eq_zero h0
        clear hA h0
        go_enter Try.func10, Try.ntmps10
        go_wp2_with fail
        refine (caGood_any _ [] _ Ha.out).mono ?_; rintro e w1 ⟨rfl, hb1⟩
        rw [hg]
        go_wp2_with fail
        refine (caGood_any _ bs _ (Hb.out.on hb1)).mono ?_; rintro e w2 ⟨rfl, hb2⟩
        rw [hgb]
        go_wp2
        refine wp_loop_rounds 1 ?_
        rw [rounds_succ]
        go_wp2
        go_ret2
        exact ⟨⟨_, [], true, rfl, by rw [Hfin.out]; rfl, by simp [Shape.flat], Or.inl ⟨rfl, rfl⟩⟩, bthen hb1 hb2⟩
      · obtain ⟨g, off, rfl, hgl, hcell⟩ := hA h0
        clear hA
        have hcell := en_cells hcell
        go_enter Try.func10, Try.ntmps10
        go_wp2_with fail
        refine (caGood_any _ xs _ Ha.out).mono ?_; rintro e w1 ⟨rfl, hb1⟩
        rw [hg]
        go_wp2_with fail
        refine (caGood_any _ bs _ (Hb.out.on hb1)).mono ?_; rintro e w2 ⟨rfl, hb2⟩
        rw [hgb]
        have hbn := bthen hb1 hb2
        clear hg hgb
        go_wp2
        go_loopw [22, 6] (fun i o wr => ∃ (k : Nat), k ≤ xs.length ∧ i = .int .i64 k ∧ Below w.heap.size w wr ∧ wr.ownsRow w.heap.size 34 2 o (conF bs (xs.take k)).length (cuS.flat (conF bs (xs.take k)))) (fun i _ _ => xs.length - (intOf i).toNat)
        case atStart => exact ⟨0, Nat.zero_le _, rfl, hbn, by simp [conF, Shape.flat], Or.inl ⟨rfl, rfl⟩⟩
        case round =>
          obtain ⟨k, hk, rfl, hb, hown⟩ := hrel
          have Hown := Lib.hid hown; clear hown
          by_cases hlt : k < xs.length
          · obtain ⟨f0, f1, f2, f3, f4⟩ := hcell k hlt
            rw [← hb.cell (p := ⟨_, _, _⟩) hgl] at f0 f1 f2 f3 f4
            have Hen := Lib.hid (okAt_ent (Hxv.out.2 k hlt))
            have Hsucc := Lib.hid (conF_succ bs hlt)
            have Hcl := Lib.hid (conF_len bs xs k)
            have hx12 := Hxv.out.1
            have hgr : g < wr.heap.size := Nat.lt_of_lt_of_le hgl hb.size
            generalize hq : conF bs (xs.take k) = z at Hown Hsucc Hcl
            clear hq
            generalize enS.get xs k = y at f0 f1 f2 f3 f4 Hen Hsucc
            have Hcu := Lib.hid (entB_curve Hen.out)
            have Hyto := Lib.hid (entB_bd Hen.out).2.2.2.1
            have hi0 : (0 : Int) ≤ (k : Int) := by omega
            have hi1 : (k : Int) < (xs.length : Int) := by omega
            have hbA : Below wr.heap.size wr (wr.alloc (Obj.cells #[.int .i64 y.a, .int .i64 y.b, .int .i64 y.lo, .int .i64 y.hi, .int .i64 y.to] 36)) := bal (Below.refl _ _) _
            have HbA := Lib.hid hbA; clear hbA
            have Hbox := Lib.hid (Blk.new wr 36 #[.int .i64 y.a, .int .i64 y.b, .int .i64 y.lo, .int .i64 y.hi, .int .i64 y.to])
            clear hcell
            go_wp2_with fail
            refine (caPlace_any _ bs y.a y.b _ (Hb.out.on (bthen hb HbA.out)) HBv.out.2 Hcu.out).mono ?_; rintro e w4 ⟨rfl, hb4⟩
            have hb4' := bthen (bthen hb HbA.out) hb4
            have Hown4 := Lib.hid (own_below Hown.out (bthen HbA.out hb4))
            have hbox4 := Hbox.out.on hb4
            clear f0 f1 f2 f3 f4 hgr hb4
            have q0 := hbox4.cell 0
            have q1 := hbox4.cell 1
            have q2 := hbox4.cell 2
            have q3 := hbox4.cell 3
            have q4 := hbox4.cell 4
            have ql := hbox4.lt
            go_wp2_with fail
            refine (caAt_any _ bs _ y.a y.b _ (Hb.out.on hb4')).mono ?_; rintro e w2 ⟨rfl, hb2⟩
            have hb2' := bthen hb4' hb2
            have Hown2 := Lib.hid (own_below Hown4.out hb2)
            have hbox2 := hbox4.on hb2
            clear hb2 hbox4 q0 q1 q2 q3 q4 ql
            cases hat : atB bs (placeN bs y.a y.b) y.a y.b
            · have Hnew := Lib.hid (show conF bs (xs.take (k + 1)) = z by rw [Hsucc.out]; unfold tornE; rw [hat]; rfl)
              clear hat hbox2
              go_wp2
              go_roundw
              case rel => exact ⟨k + 1, by omega, by go_num, hb2', by rw [Hnew.out]; exact Hown2.out⟩
              case measure => simp [intOf]; omega
            · have hplt := (atB_spec hat).1
              have Htorn := Lib.hid (show tornE bs y = !okMeet y (enS.get bs (placeN bs y.a y.b)) by unfold tornE; rw [hat]; rfl)
              clear hat
              obtain ⟨g2, off2, rfl, hg2, hcellb⟩ := HAb.out (by omega)
              obtain ⟨e0, e1, e2, e3, e4⟩ := en_cells hcellb _ hplt
              have Hxent := Lib.hid (okAt_ent (HBv.out.2 _ hplt))
              clear hcellb
              generalize placeN bs y.a y.b = p at e0 e1 e2 e3 e4 hplt Htorn Hxent ⊢
              generalize enS.get bs p = x at e0 e1 e2 e3 e4 Htorn Hxent
              have Hxto := Lib.hid (entB_bd Hxent.out).2.2.2.1
              rw [← hb2'.cell (p := ⟨_, _, _⟩) hg2] at e0 e1 e2 e3 e4
              have hgb : g2 < w2.heap.size := Nat.lt_of_lt_of_le hg2 hb2'.size
              have hi2 : (0 : Int) ≤ (p : Int) := by omega
              have hi3 : (p : Int) < (bs.length : Int) := by omega
              have HS : Hid (∀ w', Below w2.heap.size w2 w' → (w'.cell? ⟨g2, off2 + p * 5, none⟩ = some (.int .i64 x.a) ∧ w'.cell? ⟨g2, off2 + p * 5 + 1, none⟩ = some (.int .i64 x.b) ∧ w'.cell? ⟨g2, off2 + p * 5 + 2, none⟩ = some (.int .i64 x.lo) ∧ w'.cell? ⟨g2, off2 + p * 5 + 3, none⟩ = some (.int .i64 x.hi) ∧ w'.cell? ⟨g2, off2 + p * 5 + 4, none⟩ = some (.int .i64 x.to) ∧ w'.cell? ⟨wr.heap.size, 0, none⟩ = some (.int .i64 y.a) ∧ w'.cell? ⟨wr.heap.size, 1, none⟩ = some (.int .i64 y.b) ∧ w'.cell? ⟨wr.heap.size, 2, none⟩ = some (.int .i64 y.lo) ∧ w'.cell? ⟨wr.heap.size, 3, none⟩ = some (.int .i64 y.hi) ∧ w'.cell? ⟨wr.heap.size, 4, none⟩ = some (.int .i64 y.to) ∧ Below w2.heap.size w2 w')) := Lib.hid (fun w' hw => ⟨(hw.cell (p := ⟨g2, off2 + p * 5, none⟩) hgb).trans e0, (hw.cell (p := ⟨g2, off2 + p * 5 + 1, none⟩) hgb).trans e1, (hw.cell (p := ⟨g2, off2 + p * 5 + 2, none⟩) hgb).trans e2, (hw.cell (p := ⟨g2, off2 + p * 5 + 3, none⟩) hgb).trans e3, (hw.cell (p := ⟨g2, off2 + p * 5 + 4, none⟩) hgb).trans e4, (hw.cell (p := ⟨wr.heap.size, 0, none⟩) hbox2.lt).trans (hbox2.cell 0), (hw.cell (p := ⟨wr.heap.size, 1, none⟩) hbox2.lt).trans (hbox2.cell 1), (hw.cell (p := ⟨wr.heap.size, 2, none⟩) hbox2.lt).trans (hbox2.cell 2), (hw.cell (p := ⟨wr.heap.size, 3, none⟩) hbox2.lt).trans (hbox2.cell 3), (hw.cell (p := ⟨wr.heap.size, 4, none⟩) hbox2.lt).trans (hbox2.cell 4), hw⟩)
              have Hbox2 := Lib.hid hbox2; clear hbox2
              go_wp2_with fail
              go_cut [11] (fun b wx => b = .bool (okMeet y x) ∧ Below w2.heap.size w2 wx)
              case first =>
                go_region_held3 (fun w' => w'.cell? ⟨g2, off2 + p * 5, none⟩ = some (.int .i64 x.a) ∧ w'.cell? ⟨g2, off2 + p * 5 + 1, none⟩ = some (.int .i64 x.b) ∧ w'.cell? ⟨g2, off2 + p * 5 + 2, none⟩ = some (.int .i64 x.lo) ∧ w'.cell? ⟨g2, off2 + p * 5 + 3, none⟩ = some (.int .i64 x.hi) ∧ w'.cell? ⟨g2, off2 + p * 5 + 4, none⟩ = some (.int .i64 x.to) ∧ w'.cell? ⟨wr.heap.size, 0, none⟩ = some (.int .i64 y.a) ∧ w'.cell? ⟨wr.heap.size, 1, none⟩ = some (.int .i64 y.b) ∧ w'.cell? ⟨wr.heap.size, 2, none⟩ = some (.int .i64 y.lo) ∧ w'.cell? ⟨wr.heap.size, 3, none⟩ = some (.int .i64 y.hi) ∧ w'.cell? ⟨wr.heap.size, 4, none⟩ = some (.int .i64 y.to) ∧ Below w2.heap.size w2 w')
                  ((go_split_ands; refine HS.out _ ?_; repeat (first | (with_reducible assumption) | (with_reducible exact Below.refl _ _) | (with_reducible refine Below.drew ?_) | (with_reducible refine bal ?_ _) | (with_reducible refine bst ?_ (by first | omega | (simp; done) | (simp; omega)) _) | (with_reducible refine bthen ?_ (by with_reducible assumption)))))
                  ((first
                    | (go_at_call 66; refine (caMeet_any y x _ Hyto.out Hxto.out).mono ?_; rintro e w3 ⟨⟨m, rfl, hm3⟩, hb3⟩; clear hm3; (try (have hz3 : Blk w3 w2.heap.size 36 #[.int .i64 0, .int .i64 0, .int .i64 0, .int .i64 0, .int .i64 0] := (Blk.drew (Blk.new w2 36 #[.int .i64 0, .int .i64 0, .int .i64 0, .int .i64 0, .int .i64 0])).on hb3; have zc0 := hz3.cell 0; have zc1 := hz3.cell 1; have zc2 := hz3.cell 2; have zc3 := hz3.cell 3; have zc4 := hz3.cell 4; have zf0 := hz3.frozen 0; have zf1 := hz3.frozen 1; have zf2 := hz3.frozen 2; have zf3 := hz3.frozen 3; have zf4 := hz3.frozen 4; have zl := hz3.lt; clear hz3)))))
                all_goals
                  go_wp2_with fail
                  go_meet
                  exact ⟨rfl, by repeat (with_reducible first | exact Below.refl _ _ | refine Below.drew ?_ | refine bal ?_ _ | (refine bst ?_ (by first | omega | (simp; done) | (simp; omega)) _) | refine bthen ?_ hb3)⟩
              obtain ⟨rfl, hbc⟩ := hcut
              have hbt := bthen hb2' hbc
              have Hownc := Lib.hid (own_below Hown2.out hbc)
              have hboxc := Hbox2.out.on hbc
              clear HS e0 e1 e2 e3 e4 hbc
              cases hok : okMeet y x
              · have Hnew := Lib.hid (show conF bs (xs.take (k + 1)) = z ++ [⟨y.a, y.b⟩] by rw [Hsucc.out, Htorn.out, hok]; rfl)
                clear hok
                have q0 := hboxc.cell 0
                have q1 := hboxc.cell 1
                have q2 := hboxc.cell 2
                have q3 := hboxc.cell 3
                have q4 := hboxc.cell 4
                have ql := hboxc.lt
                have hcl := Hcl.out
                clear hboxc
                go_wp2_with (at_builtin; refine wpList_append_own _ rfl _ _ 28 rfl w.heap.size 34 i0 (.agg #[.int .i64 0, .int .i64 0]) 2 16 Try.underlying28 hi hz0 hz1 hz2 rfl (by decide) _ _ _ rfl (Hownc.out.alloc _) ⟨wc.heap.size, 0, none⟩ 1 1 (cuS.flat [⟨y.a, y.b⟩]) rfl rfl ?c1 (cu_one _) ?c3 ?c4 ?c5 ?_)
                case c1 => exact oneCu_cells (x := ⟨y.a, y.b⟩) (Blk.new _ _ _)
                case c3 => unfold maxLen; omega
                case c4 => omega
                case c5 => have := hbt.size; simp; omega
                intro v8 w8 hown8 hg8 _
                have hb8 : Below w.heap.size w w8 := Below.grown (bal hbt _) hg8 (by have := hbt.size; simp; omega) (fun j hj => (Hownc.out.lt j hj).1)
                have hk8 := Lib.hid (show w8.ownsRow w.heap.size 34 2 v8 (z ++ [(⟨y.a, y.b⟩ : Cu)]).length (cuS.flat (z ++ [(⟨y.a, y.b⟩ : Cu)])) by rw [Shape.flat_append, List.length_append]; exact hown8)
                clear hown8 hg8
                go_wp2
                go_roundw
                case rel => exact ⟨k + 1, by omega, by go_num, hb8, by rw [Hnew.out]; exact hk8.out⟩
                case measure => simp [intOf]; omega
              · have Hnew := Lib.hid (show conF bs (xs.take (k + 1)) = z by rw [Hsucc.out, Htorn.out, hok]; rfl)
                clear hok hboxc
                go_wp2
                go_roundw
                case rel => exact ⟨k + 1, by omega, by go_num, hbt, by rw [Hnew.out]; exact Hownc.out⟩
                case measure => simp [intOf]; omega
          · obtain rfl : k = xs.length := by omega
            have hd0 : decide (xs.length < xs.length) = false := decide_eq_false (by omega)
            have Hl := Lib.hid (show conF bs (xs.take xs.length) = conF bs xs by rw [List.take_length])
            have Hown' := Lib.hid (show wr.ownsRow w.heap.size 34 2 _ (conF bs xs).length (cuS.flat (conF bs xs)) by have := Hown.out; rw [Hl.out] at this; exact this)
            clear hcell Hown
            go_wp2
            go_ret2
            exact ⟨⟨_, conF bs xs, true, rfl, Hfin.out, Hown'.out⟩, hb⟩

set_option maxRecDepth 8000 in
set_option maxHeartbeats 8000000 in
theorem implCon_any (va : Value) (xs : List En) (vb : Value) (bs : List En) (w : World) (ha : Rd enS w w.heap.size va xs) (h : Rd enS w w.heap.size vb bs) :
    Calls Try.prog 9 #[va, vb] w fun r w' => (∃ (v' : Value) (z : List Cu) (b : Bool), r = .returned (.tuple #[v', .bool b]) ∧ conG xs bs = (z, b) ∧ w'.ownsRow w.heap.size 34 2 v' z.length (cuS.flat z)) ∧ Below w.heap.size w w' := by
  obtain ⟨i0, hi, hz0, hz1, hz2⟩ := info_parts infoCu2
  have Ha := Lib.hid ha
  have Hb := Lib.hid h
  obtain ⟨A, c, rfl, hcc, hm, hA⟩ := ha
  unfold maxLen at hm
  cases hg : catB xs
  · have Hfin := Lib.hid (show conG xs bs = ([], false) by unfold conG; rw [hg]; rfl)
    clear hA h
    go_enter Try.func9, Try.ntmps9
    go_wp2_with fail
    refine (isCatalogue_any _ xs _ Ha.out).mono ?_; rintro e w1 ⟨rfl, hb1⟩
    rw [hg]
    go_wp2
    go_ret2
    exact ⟨⟨_, [], false, rfl, Hfin.out, by simp [Shape.flat], Or.inl ⟨rfl, rfl⟩⟩, hb1⟩
  · cases hgb : catB bs
    · have Hfin := Lib.hid (show conG xs bs = ([], false) by unfold conG; rw [hgb, Bool.and_false]; rfl)
      clear hA h
      go_enter Try.func9, Try.ntmps9
      go_wp2_with fail
      refine (isCatalogue_any _ xs _ Ha.out).mono ?_; rintro e w1 ⟨rfl, hb1⟩
      rw [hg]
      go_wp2_with fail
      refine (isCatalogue_any _ bs _ (Hb.out.on hb1)).mono ?_; rintro e w2 ⟨rfl, hb2⟩
      rw [hgb]
      go_wp2
      go_ret2
      exact ⟨⟨_, [], false, rfl, Hfin.out, by simp [Shape.flat], Or.inl ⟨rfl, rfl⟩⟩, bthen hb1 hb2⟩
    · have Hfin := Lib.hid (show conG xs bs = (conF bs xs, true) by unfold conG; rw [hg, hgb]; rfl)
      have Hxv := Lib.hid (cat_ok hg)
      have HBv := Lib.hid (cat_ok hgb)
      have Hbc := Lib.hid hgb
      obtain ⟨Ab, cb, rfl, hccb, -, hAb⟩ := h
      have HAb := Lib.hid hAb; clear hAb
      rcases Nat.eq_zero_or_pos xs.length with h0 | h0
      · obtain rfl : xs = [] := List.eq_nil_of_length_eq_zero h0
        clear hA h0
        go_enter Try.func9, Try.ntmps9
        go_wp2_with fail
        refine (isCatalogue_any _ [] _ Ha.out).mono ?_; rintro e w1 ⟨rfl, hb1⟩
        rw [hg]
        go_wp2_with fail
        refine (isCatalogue_any _ bs _ (Hb.out.on hb1)).mono ?_; rintro e w2 ⟨rfl, hb2⟩
        rw [hgb]
        go_wp2
        refine wp_loop_rounds 1 ?_
        rw [rounds_succ]
        go_wp2
        go_ret2
        exact ⟨⟨_, [], true, rfl, by rw [Hfin.out]; rfl, by simp [Shape.flat], Or.inl ⟨rfl, rfl⟩⟩, bthen hb1 hb2⟩
      · obtain ⟨g, off, rfl, hgl, hcell⟩ := hA h0
        clear hA
        have hcell := en_cells hcell
        go_enter Try.func9, Try.ntmps9
        go_wp2_with fail
        refine (isCatalogue_any _ xs _ Ha.out).mono ?_; rintro e w1 ⟨rfl, hb1⟩
        rw [hg]
        go_wp2_with fail
        refine (isCatalogue_any _ bs _ (Hb.out.on hb1)).mono ?_; rintro e w2 ⟨rfl, hb2⟩
        rw [hgb]
        have hbn := bthen hb1 hb2
        clear hg hgb
        go_wp2
        go_loopw [23, 6] (fun i o wr => ∃ (k : Nat), k ≤ xs.length ∧ i = .int .i64 k ∧ Below w.heap.size w wr ∧ wr.ownsRow w.heap.size 34 2 o (conF bs (xs.take k)).length (cuS.flat (conF bs (xs.take k)))) (fun i _ _ => xs.length - (intOf i).toNat)
        case atStart => exact ⟨0, Nat.zero_le _, rfl, hbn, by simp [conF, Shape.flat], Or.inl ⟨rfl, rfl⟩⟩
        case round =>
          obtain ⟨k, hk, rfl, hb, hown⟩ := hrel
          have Hown := Lib.hid hown; clear hown
          by_cases hlt : k < xs.length
          · obtain ⟨f0, f1, f2, f3, f4⟩ := hcell k hlt
            rw [← hb.cell (p := ⟨_, _, _⟩) hgl] at f0 f1 f2 f3 f4
            have Hen := Lib.hid (okAt_ent (Hxv.out.2 k hlt))
            have Hsucc := Lib.hid (conF_succ bs hlt)
            have Hcl := Lib.hid (conF_len bs xs k)
            have hx12 := Hxv.out.1
            have hgr : g < wr.heap.size := Nat.lt_of_lt_of_le hgl hb.size
            generalize hq : conF bs (xs.take k) = z at Hown Hsucc Hcl
            clear hq
            generalize enS.get xs k = y at f0 f1 f2 f3 f4 Hen Hsucc
            have Hcu := Lib.hid (entB_curve Hen.out)
            have Hyto := Lib.hid (entB_bd Hen.out).2.2.2.1
            have hi0 : (0 : Int) ≤ (k : Int) := by omega
            have hi1 : (k : Int) < (xs.length : Int) := by omega
            have hbA : Below wr.heap.size wr (wr.alloc (Obj.cells #[.int .i64 y.a, .int .i64 y.b, .int .i64 y.lo, .int .i64 y.hi, .int .i64 y.to] 36)) := bal (Below.refl _ _) _
            have HbA := Lib.hid hbA; clear hbA
            have Hbox := Lib.hid (Blk.new wr 36 #[.int .i64 y.a, .int .i64 y.b, .int .i64 y.lo, .int .i64 y.hi, .int .i64 y.to])
            clear hcell
            go_wp2_with fail
            refine (entryAt_any _ bs y.a y.b _ (Hb.out.on (bthen hb HbA.out))).mono ?_
            rintro e w2 ⟨⟨qq, kk, rfl, hkk, hqq⟩, hb2⟩
            have hb2' := bthen (bthen hb HbA.out) hb2
            have Hown2 := Lib.hid (own_below Hown.out (bthen HbA.out hb2))
            have hbox2 := Hbox.out.on hb2
            clear f0 f1 f2 f3 f4 hgr hb2
            have hpf := place_first (a := y.a) (b := y.b) HBv.out.2
            rw [Hbc.out] at hkk
            cases hat : atB bs (placeN bs y.a y.b) y.a y.b
            · have Hnew := Lib.hid (show conF bs (xs.take (k + 1)) = z by rw [Hsucc.out]; unfold tornE; rw [hat]; rfl)
              have hf : firstN bs y.a y.b = bs.length := by rw [hpf, hat]; rfl
              rw [hf, decide_eq_false (Nat.lt_irrefl _)] at hkk
              subst hkk
              clear hat hbox2 hqq hpf hf
              go_wp2
              go_roundw
              case rel => exact ⟨k + 1, by omega, by go_num, hb2', by rw [Hnew.out]; exact Hown2.out⟩
              case measure => simp [intOf]; omega
            · have hplt := (atB_spec hat).1
              have Htorn := Lib.hid (show tornE bs y = !okMeet y (enS.get bs (placeN bs y.a y.b)) by unfold tornE; rw [hat]; rfl)
              have hf : firstN bs y.a y.b = placeN bs y.a y.b := by rw [hpf, hat]; rfl
              rw [hf, decide_eq_true hplt] at hkk
              subst hkk
              have hq1 := hqq (by rw [hf]; exact hplt)
              rw [hf] at hq1
              subst hq1
              clear hat hqq hpf hf
              obtain ⟨g2, off2, rfl, hg2, hcellb⟩ := HAb.out (by omega)
              obtain ⟨e0, e1, e2, e3, e4⟩ := en_cells hcellb _ hplt
              have Hxent := Lib.hid (okAt_ent (HBv.out.2 _ hplt))
              clear hcellb
              generalize placeN bs y.a y.b = p at e0 e1 e2 e3 e4 hplt Htorn Hxent ⊢
              generalize enS.get bs p = x at e0 e1 e2 e3 e4 Htorn Hxent
              have Hxto := Lib.hid (entB_bd Hxent.out).2.2.2.1
              rw [← hb2'.cell (p := ⟨_, _, _⟩) hg2] at e0 e1 e2 e3 e4
              have hgb : g2 < w2.heap.size := Nat.lt_of_lt_of_le hg2 hb2'.size
              have hi2 : (0 : Int) ≤ (p : Int) := by omega
              have hi3 : (p : Int) < (bs.length : Int) := by omega
              have HS : Hid (∀ w', Below w2.heap.size w2 w' → (w'.cell? ⟨g2, off2 + p * 5, none⟩ = some (.int .i64 x.a) ∧ w'.cell? ⟨g2, off2 + p * 5 + 1, none⟩ = some (.int .i64 x.b) ∧ w'.cell? ⟨g2, off2 + p * 5 + 2, none⟩ = some (.int .i64 x.lo) ∧ w'.cell? ⟨g2, off2 + p * 5 + 3, none⟩ = some (.int .i64 x.hi) ∧ w'.cell? ⟨g2, off2 + p * 5 + 4, none⟩ = some (.int .i64 x.to) ∧ w'.cell? ⟨wr.heap.size, 0, none⟩ = some (.int .i64 y.a) ∧ w'.cell? ⟨wr.heap.size, 1, none⟩ = some (.int .i64 y.b) ∧ w'.cell? ⟨wr.heap.size, 2, none⟩ = some (.int .i64 y.lo) ∧ w'.cell? ⟨wr.heap.size, 3, none⟩ = some (.int .i64 y.hi) ∧ w'.cell? ⟨wr.heap.size, 4, none⟩ = some (.int .i64 y.to) ∧ Below w2.heap.size w2 w')) := Lib.hid (fun w' hw => ⟨(hw.cell (p := ⟨g2, off2 + p * 5, none⟩) hgb).trans e0, (hw.cell (p := ⟨g2, off2 + p * 5 + 1, none⟩) hgb).trans e1, (hw.cell (p := ⟨g2, off2 + p * 5 + 2, none⟩) hgb).trans e2, (hw.cell (p := ⟨g2, off2 + p * 5 + 3, none⟩) hgb).trans e3, (hw.cell (p := ⟨g2, off2 + p * 5 + 4, none⟩) hgb).trans e4, (hw.cell (p := ⟨wr.heap.size, 0, none⟩) hbox2.lt).trans (hbox2.cell 0), (hw.cell (p := ⟨wr.heap.size, 1, none⟩) hbox2.lt).trans (hbox2.cell 1), (hw.cell (p := ⟨wr.heap.size, 2, none⟩) hbox2.lt).trans (hbox2.cell 2), (hw.cell (p := ⟨wr.heap.size, 3, none⟩) hbox2.lt).trans (hbox2.cell 3), (hw.cell (p := ⟨wr.heap.size, 4, none⟩) hbox2.lt).trans (hbox2.cell 4), hw⟩)
              have Hbox2 := Lib.hid hbox2; clear hbox2
              go_wp2_with fail
              go_cut [12] (fun b wx => b = .bool (okMeet y x) ∧ Below w2.heap.size w2 wx)
              case first =>
                go_region_held3 (fun w' => w'.cell? ⟨g2, off2 + p * 5, none⟩ = some (.int .i64 x.a) ∧ w'.cell? ⟨g2, off2 + p * 5 + 1, none⟩ = some (.int .i64 x.b) ∧ w'.cell? ⟨g2, off2 + p * 5 + 2, none⟩ = some (.int .i64 x.lo) ∧ w'.cell? ⟨g2, off2 + p * 5 + 3, none⟩ = some (.int .i64 x.hi) ∧ w'.cell? ⟨g2, off2 + p * 5 + 4, none⟩ = some (.int .i64 x.to) ∧ w'.cell? ⟨wr.heap.size, 0, none⟩ = some (.int .i64 y.a) ∧ w'.cell? ⟨wr.heap.size, 1, none⟩ = some (.int .i64 y.b) ∧ w'.cell? ⟨wr.heap.size, 2, none⟩ = some (.int .i64 y.lo) ∧ w'.cell? ⟨wr.heap.size, 3, none⟩ = some (.int .i64 y.hi) ∧ w'.cell? ⟨wr.heap.size, 4, none⟩ = some (.int .i64 y.to) ∧ Below w2.heap.size w2 w')
                  ((go_split_ands; refine HS.out _ ?_; repeat (first | (with_reducible assumption) | (with_reducible exact Below.refl _ _) | (with_reducible refine Below.drew ?_) | (with_reducible refine bal ?_ _) | (with_reducible refine bst ?_ (by first | omega | (simp; done) | (simp; omega)) _) | (with_reducible refine bthen ?_ (by with_reducible assumption)))))
                  ((first
                    | (go_at_call 63; refine (meetEntries_any y x _).mono ?_; rintro e w3 ⟨⟨m, rfl, hm3⟩, hb3⟩; clear hm3; (try (have hz3 : Blk w3 w2.heap.size 36 #[.int .i64 0, .int .i64 0, .int .i64 0, .int .i64 0, .int .i64 0] := (Blk.drew (Blk.new w2 36 #[.int .i64 0, .int .i64 0, .int .i64 0, .int .i64 0, .int .i64 0])).on hb3; have zc0 := hz3.cell 0; have zc1 := hz3.cell 1; have zc2 := hz3.cell 2; have zc3 := hz3.cell 3; have zc4 := hz3.cell 4; have zf0 := hz3.frozen 0; have zf1 := hz3.frozen 1; have zf2 := hz3.frozen 2; have zf3 := hz3.frozen 3; have zf4 := hz3.frozen 4; have zl := hz3.lt; clear hz3)))))
                all_goals
                  go_wp2_with fail
                  go_meet
                  exact ⟨rfl, by repeat (with_reducible first | exact Below.refl _ _ | refine Below.drew ?_ | refine bal ?_ _ | (refine bst ?_ (by first | omega | (simp; done) | (simp; omega)) _) | refine bthen ?_ hb3)⟩
              obtain ⟨rfl, hbc⟩ := hcut
              have hbt := bthen hb2' hbc
              have Hownc := Lib.hid (own_below Hown2.out hbc)
              have hboxc := Hbox2.out.on hbc
              clear HS e0 e1 e2 e3 e4 hbc
              cases hok : okMeet y x
              · have Hnew := Lib.hid (show conF bs (xs.take (k + 1)) = z ++ [⟨y.a, y.b⟩] by rw [Hsucc.out, Htorn.out, hok]; rfl)
                clear hok
                have q0 := hboxc.cell 0
                have q1 := hboxc.cell 1
                have q2 := hboxc.cell 2
                have q3 := hboxc.cell 3
                have q4 := hboxc.cell 4
                have ql := hboxc.lt
                have hcl := Hcl.out
                clear hboxc
                go_wp2_with (at_builtin; refine wpList_append_own _ rfl _ _ 28 rfl w.heap.size 34 i0 (.agg #[.int .i64 0, .int .i64 0]) 2 16 Try.underlying28 hi hz0 hz1 hz2 rfl (by decide) _ _ _ rfl (Hownc.out.alloc _) ⟨wc.heap.size, 0, none⟩ 1 1 (cuS.flat [⟨y.a, y.b⟩]) rfl rfl ?c1 (cu_one _) ?c3 ?c4 ?c5 ?_)
                case c1 => exact oneCu_cells (x := ⟨y.a, y.b⟩) (Blk.new _ _ _)
                case c3 => unfold maxLen; omega
                case c4 => omega
                case c5 => have := hbt.size; simp; omega
                intro v8 w8 hown8 hg8 _
                have hb8 : Below w.heap.size w w8 := Below.grown (bal hbt _) hg8 (by have := hbt.size; simp; omega) (fun j hj => (Hownc.out.lt j hj).1)
                have hk8 := Lib.hid (show w8.ownsRow w.heap.size 34 2 v8 (z ++ [(⟨y.a, y.b⟩ : Cu)]).length (cuS.flat (z ++ [(⟨y.a, y.b⟩ : Cu)])) by rw [Shape.flat_append, List.length_append]; exact hown8)
                clear hown8 hg8
                go_wp2
                go_roundw
                case rel => exact ⟨k + 1, by omega, by go_num, hb8, by rw [Hnew.out]; exact hk8.out⟩
                case measure => simp [intOf]; omega
              · have Hnew := Lib.hid (show conF bs (xs.take (k + 1)) = z by rw [Hsucc.out, Htorn.out, hok]; rfl)
                clear hok hboxc
                go_wp2
                go_roundw
                case rel => exact ⟨k + 1, by omega, by go_num, hbt, by rw [Hnew.out]; exact Hownc.out⟩
                case measure => simp [intOf]; omega
          · obtain rfl : k = xs.length := by omega
            have hd0 : decide (xs.length < xs.length) = false := decide_eq_false (by omega)
            have Hl := Lib.hid (show conF bs (xs.take xs.length) = conF bs xs by rw [List.take_length])
            have Hown' := Lib.hid (show wr.ownsRow w.heap.size 34 2 _ (conF bs xs).length (cuS.flat (conF bs xs)) by have := Hown.out; rw [Hl.out] at this; exact this)
            clear hcell Hown
            go_wp2
            go_ret2
            exact ⟨⟨_, conF bs xs, true, rfl, Hfin.out, Hown'.out⟩, hb⟩
end Go.Proofs.Ytnphipfdpkgbaaa
