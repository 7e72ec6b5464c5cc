/- contradicts and FirstContradiction: the walks. Conditions: none. -/
import Derived.Test.YtnphipfdpkgbaaaCatOf
namespace Go.Proofs.Ytnphipfdpkgbaaa
open Go Go.RowKit

theorem torn_not {z : List En} {y : En} (h : atB z (placeN z y.a y.b) y.a y.b = false) : (tightO z y).isNone = false := by rw [tightO_new h]; rfl
theorem torn_met {z : List En} {y : En} (h : atB z (placeN z y.a y.b) y.a y.b = true) : (tightO z y).isNone = !okMeet (enS.get z (placeN z y.a y.b)) y := by
  cases ho : okMeet (enS.get z (placeN z y.a y.b)) y
  · rw [tightO_torn h ho]; rfl
  · rw [tightO_met h ho]; rfl

set_option maxRecDepth 8000 in
set_option maxHeartbeats 4000000 in
theorem contradicts_any (v : Value) (z : List En) (y : En) (w : World) (h : Rd enS w w.heap.size v z) (hz : okCat z) (hl : z.length ≤ 12) :
    Calls Try.prog 106 #[v, .agg #[.int .i64 y.a, .int .i64 y.b, .int .i64 y.lo, .int .i64 y.hi, .int .i64 y.to]] w fun r w' => r = .returned (.bool (tightO z y).isNone) ∧ Below w.heap.size w w' := by
  have Hr := Lib.hid h
  have hbA : Below w.heap.size w (w.alloc _) := bal (Below.refl _ _) (Obj.cells #[.int .i64 y.a, .int .i64 y.b, .int .i64 y.lo, .int .i64 y.hi, .int .i64 y.to] 36)
  have hbox : Blk _ w.heap.size 36 #[.int .i64 y.a, .int .i64 y.b, .int .i64 y.lo, .int .i64 y.hi, .int .i64 y.to] := Blk.new w _ _
  have Hcat := Lib.hid (catB_true hl hz)
  have Hpf := Lib.hid (place_first (a := y.a) (b := y.b) hz)
  have q0 := hbox.cell 0
  have q1 := hbox.cell 1
  obtain ⟨A, c, rfl, hcc, -, hA⟩ := h
  cases hat : atB z (placeN z y.a y.b) y.a y.b
  · have Hno := Lib.hid (torn_not hat)
    have Hfn := Lib.hid (show firstN z y.a y.b = z.length by rw [Hpf.out, hat]; rfl)
    clear hat hA
    go_enter Try.func106, Try.ntmps106
    go_wp2_with fail
    refine (entryAt_any _ z y.a y.b _ (Hr.out.on hbA)).mono ?_
    rintro e w2 ⟨⟨q, k, rfl, hk, -⟩, hb2⟩
    rw [Hcat.out, Hfn.out, decide_eq_false (Nat.lt_irrefl _)] at hk
    subst hk
    clear q0 q1 hbox
    go_wp2
    go_ret
    exact ⟨by rw [Hno.out]; rfl, bthen hbA hb2⟩
  · have Hmet := Lib.hid (torn_met hat)
    have hplt := (atB_spec hat).1
    have Hfn := Lib.hid (show firstN z y.a y.b = placeN z y.a y.b by rw [Hpf.out, hat]; rfl)
    obtain ⟨g, off, rfl, hg, hcell⟩ := hA (by omega)
    clear hA hat
    have hcell := en_cells hcell
    obtain ⟨f0, f1, f2, f3, f4⟩ := hcell _ hplt
    clear hcell
    obtain ⟨p, hp⟩ : ∃ p, placeN z y.a y.b = p := ⟨_, rfl⟩
    rw [hp] at f0 f1 f2 f3 f4 hplt
    rw [hp] at Hfn Hmet
    clear hp
    generalize hx : enS.get z p = x at f0 f1 f2 f3 f4
    rw [hx] at Hmet
    clear hx
    go_enter Try.func106, Try.ntmps106
    go_wp2_with fail
    refine (entryAt_any _ z y.a y.b _ (Hr.out.on hbA)).mono ?_
    rintro e w2 ⟨⟨q, k, rfl, hk, hq⟩, hb2⟩
    rw [Hcat.out, Hfn.out, decide_eq_true hplt] at hk
    subst hk
    have hq1 := hq (by rw [Hfn.out]; exact hplt)
    rw [Hfn.out] at hq1
    subst hq1
    clear hq q0 q1
    have hb2' := bthen hbA hb2
    have hbox2 := hbox.on hb2
    have hg2 : g < w2.heap.size := Nat.lt_of_lt_of_le hg hb2'.size
    rw [← hb2'.cell (p := ⟨_, _, _⟩) hg] at f0 f1 f2 f3 f4
    have hi2 : (0 : Int) ≤ (p : Int) := by omega
    have hi3 : (p : Int) < (z.length : Int) := by omega
    have HS : Hid (∀ w', Below w2.heap.size w2 w' → (w'.cell? ⟨g, off + p * 5, none⟩ = some (.int .i64 x.a) ∧ w'.cell? ⟨g, off + p * 5 + 1, none⟩ = some (.int .i64 x.b) ∧ w'.cell? ⟨g, off + p * 5 + 2, none⟩ = some (.int .i64 x.lo) ∧ w'.cell? ⟨g, off + p * 5 + 3, none⟩ = some (.int .i64 x.hi) ∧ w'.cell? ⟨g, off + p * 5 + 4, none⟩ = some (.int .i64 x.to) ∧ w'.cell? ⟨w.heap.size, 0, none⟩ = some (.int .i64 y.a) ∧ w'.cell? ⟨w.heap.size, 1, none⟩ = some (.int .i64 y.b) ∧ w'.cell? ⟨w.heap.size, 2, none⟩ = some (.int .i64 y.lo) ∧ w'.cell? ⟨w.heap.size, 3, none⟩ = some (.int .i64 y.hi) ∧ w'.cell? ⟨w.heap.size, 4, none⟩ = some (.int .i64 y.to) ∧ Below w2.heap.size w2 w')) := Lib.hid (fun w' hw => ⟨(hw.cell (p := ⟨g, off + p * 5, none⟩) hg2).trans f0, (hw.cell (p := ⟨g, off + p * 5 + 1, none⟩) hg2).trans f1, (hw.cell (p := ⟨g, off + p * 5 + 2, none⟩) hg2).trans f2, (hw.cell (p := ⟨g, off + p * 5 + 3, none⟩) hg2).trans f3, (hw.cell (p := ⟨g, off + p * 5 + 4, none⟩) hg2).trans f4, (hw.cell (p := ⟨w.heap.size, 0, none⟩) hbox2.lt).trans (hbox2.cell 0), (hw.cell (p := ⟨w.heap.size, 1, none⟩) hbox2.lt).trans (hbox2.cell 1), (hw.cell (p := ⟨w.heap.size, 2, none⟩) hbox2.lt).trans (hbox2.cell 2), (hw.cell (p := ⟨w.heap.size, 3, none⟩) hbox2.lt).trans (hbox2.cell 3), (hw.cell (p := ⟨w.heap.size, 4, none⟩) hbox2.lt).trans (hbox2.cell 4), hw⟩)
    clear hbox hb2
    go_wp2_with fail
    go_cut [8] (fun b wx => b = .bool (okMeet x y) ∧ Below w2.heap.size w2 wx)
    case first =>
      go_region_held3 (fun w' => w'.cell? ⟨g, off + p * 5, none⟩ = some (.int .i64 x.a) ∧ w'.cell? ⟨g, off + p * 5 + 1, none⟩ = some (.int .i64 x.b) ∧ w'.cell? ⟨g, off + p * 5 + 2, none⟩ = some (.int .i64 x.lo) ∧ w'.cell? ⟨g, off + p * 5 + 3, none⟩ = some (.int .i64 x.hi) ∧ w'.cell? ⟨g, off + p * 5 + 4, none⟩ = some (.int .i64 x.to) ∧ w'.cell? ⟨w.heap.size, 0, none⟩ = some (.int .i64 y.a) ∧ w'.cell? ⟨w.heap.size, 1, none⟩ = some (.int .i64 y.b) ∧ w'.cell? ⟨w.heap.size, 2, none⟩ = some (.int .i64 y.lo) ∧ w'.cell? ⟨w.heap.size, 3, none⟩ = some (.int .i64 y.hi) ∧ w'.cell? ⟨w.heap.size, 4, none⟩ = some (.int .i64 y.to) ∧ Below w2.heap.size w2 w')
        ((go_split_ands; refine HS.out _ ?_; repeat (first | (with_reducible assumption) | (with_reducible exact Below.refl _ _) | (with_reducible refine Below.drew ?_) | (with_reducible refine bal ?_ _) | (with_reducible refine bst ?_ (by first | omega | (simp; done) | (simp; omega)) _) | (with_reducible refine bthen ?_ (by with_reducible assumption)))))
        ((first
          | (go_at_call 63; refine (meetEntries_any x y _).mono ?_; rintro e w3 ⟨⟨m, rfl, hm3⟩, hb3⟩; clear hm3; (try (have hz3 : Blk w3 w2.heap.size 36 #[.int .i64 0, .int .i64 0, .int .i64 0, .int .i64 0, .int .i64 0] := (Blk.drew (Blk.new w2 36 #[.int .i64 0, .int .i64 0, .int .i64 0, .int .i64 0, .int .i64 0])).on hb3; have zc0 := hz3.cell 0; have zc1 := hz3.cell 1; have zc2 := hz3.cell 2; have zc3 := hz3.cell 3; have zc4 := hz3.cell 4; have zf0 := hz3.frozen 0; have zf1 := hz3.frozen 1; have zf2 := hz3.frozen 2; have zf3 := hz3.frozen 3; have zf4 := hz3.frozen 4; have zl := hz3.lt; clear hz3)))))
      all_goals
        go_wp2_with fail
        go_meet
        exact ⟨rfl, by repeat (with_reducible first | exact Below.refl _ _ | refine Below.drew ?_ | refine bal ?_ _ | (refine bst ?_ (by first | omega | (simp; done) | (simp; omega)) _) | refine bthen ?_ hb3)⟩
    obtain ⟨rfl, hbc⟩ := hcut
    clear HS f0 f1 f2 f3 f4 hbox2
    go_wp2
    go_ret
    exact ⟨by rw [Hmet.out]; rfl, bthen hb2' hbc⟩

def goF : List Rp → List En → Int → Int × Bool
  | [], _, _ => (0, false)
  | r :: rs, z, k => match stepG z (entR r) with
    | some u => goF rs u (k + 1)
    | none => if (tightO z (entR r)).isNone then (k, true) else (0, false)
def firstG (es : List Rp) : Int × Bool := if repsB es then goF es [] 0 else (0, false)
theorem drop_get {es : List Rp} {k : Nat} (hk : k < es.length) : es.drop k = rpS.get es k :: es.drop (k + 1) := by
  rw [List.drop_eq_getElem_cons hk]
  simp [Shape.get, List.getD_eq_getElem?_getD, List.getElem?_eq_getElem hk]
theorem goF_at (es : List Rp) : ∀ i z, i ≤ es.length → foldG (es.take i) = some z → goF es [] 0 = goF (es.drop i) z i
  | 0, z, _, h => by rw [foldG_zero] at h; cases h; rfl
  | i + 1, z, hi, h => by
    rw [foldG_succ (by omega)] at h
    cases hz0 : foldG (es.take i) with
    | none => rw [hz0] at h; cases h
    | some z0 =>
      rw [hz0] at h
      change stepG z0 (entR (rpS.get es i)) = some z at h
      rw [goF_at es i z0 (by omega) hz0, drop_get (by omega)]
      simp only [goF]
      rw [h]
      rfl
theorem goF_stop {es : List Rp} {i : Nat} {z : List En} (hi : i < es.length) (h : foldG (es.take i) = some z) (hs : stepG z (entR (rpS.get es i)) = none) : goF es [] 0 = if (tightO z (entR (rpS.get es i))).isNone then ((i : Int), true) else (0, false) := by
  rw [goF_at es i z (by omega) h, drop_get hi]
  simp only [goF]
  rw [hs]
theorem goF_end {es : List Rp} {z : List En} (h : foldG (es.take es.length) = some z) : goF es [] 0 = (0, false) := by
  rw [goF_at es es.length z (Nat.le_refl _) h, List.drop_length]
  rfl
theorem stepG_none {z : List En} {y : En} (h : (tightO z y).isNone = true) : stepG z y = none := stepG_torn (Option.isNone_iff_eq_none.1 h)

set_option maxRecDepth 8000 in
set_option maxHeartbeats 1600000 in
theorem specFirst_any (v : Value) (es : List Rp) (w : World) (h : Rd rpS w w.heap.size v es) :
    Calls Try.prog 54 #[v] w fun r w' => (∃ (q : Int) (b : Bool), r = .returned (.tuple #[.int .i64 q, .bool b]) ∧ firstG es = (q, b)) ∧ Below w.heap.size w w' := by
  have Hr := Lib.hid h
  obtain ⟨A, c, rfl, -, -, hA⟩ := h
  cases hg : repsB es
  · have Hfin := Lib.hid (show firstG es = (0, false) by unfold firstG; rw [hg]; rfl)
    clear hA
    go_enter Try.func54, Try.ntmps54
    go_wp2_with fail
    refine (mrGood_any _ es _ Hr.out).mono ?_; rintro e w1 ⟨rfl, hb1⟩
    rw [hg]
    go_wp2
    go_ret2
    exact ⟨⟨_, false, rfl, Hfin.out⟩, hb1⟩
  · have Hs := Lib.hid (repsB_spec hg)
    have Hfin := Lib.hid (show firstG es = goF es [] 0 by unfold firstG; rw [hg]; rfl)
    have HA := Lib.hid hA; clear hA
    have hlen := (repsB_spec hg).1
    go_enter Try.func54, Try.ntmps54
    go_wp2_with fail
    refine (mrGood_any _ es _ Hr.out).mono ?_; rintro e w1 ⟨rfl, hb1⟩
    rw [hg]
    go_wp2_with fail
    refine (mrCatalogue_any _ es _ (Hr.out.on hb1) Hs.out.1 Hs.out.2).mono ?_
    rintro e w2 ⟨⟨v2, z, i, rfl, hi, hz, hzv, hst, ho2⟩, hb2⟩
    have Ho2 := Lib.hid ho2; clear ho2
    have Hz := Lib.hid hz; clear hz
    have Hzv := Lib.hid hzv; clear hzv
    have Hst := Lib.hid hst; clear hst
    have hb2' := bthen hb1 hb2
    by_cases hlt : i < es.length
    · have hne : ((i : Int) == (es.length : Int)) = false := beq_eq_false_iff_ne.2 (by omega)
      have hne2 : ¬ (i : Int) = (es.length : Int) := by omega
      have hne3 : ¬ i = es.length := by omega
      obtain ⟨g, off, rfl, hgl, hcell⟩ := HA.out (by omega)
      obtain ⟨f0, f1, f2, f3, f4, f5, f6⟩ := rp_cells hcell i hlt
      rw [← hb2'.cell (p := ⟨_, _, _⟩) hgl] at f0 f1 f2 f3 f4 f5 f6
      have hgr : g < w2.heap.size := Nat.lt_of_lt_of_le hgl hb2'.size
      have Hent := Lib.hid (rep_ent Hs.out.2 i hlt)
      have Hstop := Lib.hid (goF_stop hlt Hz.out (Hst.out hlt))
      generalize rpS.get es i = x at f0 f1 f2 f3 f4 f5 f6 Hent Hstop
      have hi0 : (0 : Int) ≤ (i : Int) := by omega
      have hi1 : (i : Int) < (es.length : Int) := by omega
      have hzl : z.length ≤ 12 := foldl_len _ [] z (by simp) Hz.out
      clear hcell
      go_wp2_with fail
      refine (caTighten_any _ z (entR x) _ (Rd.of_own Ho2.out rfl) (by omega) Hzv.out Hent.out).mono ?_
      rintro e w3 ⟨⟨v3, z', b, rfl, ht, -, -⟩, hb3⟩
      have Ht := Lib.hid ht; clear ht
      cases b
      · go_wp2
        go_ret2
        exact ⟨⟨_, true, rfl, by rw [Hfin.out, Hstop.out, Ht.out]; rfl⟩, bthen hb2' hb3⟩
      · go_wp2
        go_ret2
        exact ⟨⟨_, false, rfl, by rw [Hfin.out, Hstop.out, Ht.out]; rfl⟩, bthen hb2' hb3⟩
    · obtain rfl : i = es.length := by omega
      go_wp2
      go_ret2
      exact ⟨⟨_, false, rfl, by rw [Hfin.out, goF_end Hz.out]⟩, hb2'⟩

set_option maxRecDepth 8000 in
set_option maxHeartbeats 4000000 in
theorem implFirst_any (v : Value) (es : List Rp) (w : World) (h : Rd rpS w w.heap.size v es) :
    Calls Try.prog 53 #[v] w fun r w' => (∃ (q : Int) (b : Bool), r = .returned (.tuple #[.int .i64 q, .bool b]) ∧ firstG es = (q, b)) ∧ Below w.heap.size w w' := by
  have Hr := Lib.hid h
  obtain ⟨A, c, rfl, hcc, hm, hA⟩ := h
  unfold maxLen at hm
  cases hg : repsB es
  · have Hfin := Lib.hid (show firstG es = (0, false) by unfold firstG; rw [hg]; rfl)
    clear hA
    go_enter Try.func53, Try.ntmps53
    go_wp2_with fail
    refine (areReports_any _ es _ Hr.out).mono ?_; rintro e w1 ⟨rfl, hb1⟩
    rw [hg]
    go_wp2
    go_ret2
    exact ⟨⟨_, false, rfl, Hfin.out⟩, hb1⟩
  · have Hval := Lib.hid (rep_ent (repsB_spec hg).2)
    have hlen := (repsB_spec hg).1
    have Hfin := Lib.hid (show firstG es = goF es [] 0 by unfold firstG; rw [hg]; rfl)
    rcases Nat.eq_zero_or_pos es.length with h0 | h0
    · obtain rfl : es = [] := List.eq_nil_of_length_eq_zero h0
      clear hA h0 hlen
      go_enter Try.func53, Try.ntmps53
      go_wp2_with fail
      refine (areReports_any _ [] _ Hr.out).mono ?_; rintro e w1 ⟨rfl, hb1⟩
      rw [hg]
      go_wp2
      refine wp_loop_rounds 1 ?_
      rw [rounds_succ]
      go_wp2
      go_ret2
      exact ⟨⟨_, false, rfl, by rw [Hfin.out]; rfl⟩, hb1⟩
    · obtain ⟨g, off, rfl, hgl, hcell⟩ := hA h0
      clear hA
      have hcell := rp_cells hcell
      go_enter Try.func53, Try.ntmps53
      go_wp2_with fail
      refine (areReports_any _ es _ Hr.out).mono ?_; rintro e w1 ⟨rfl, hb1⟩
      rw [hg]
      clear hg
      go_wp2
      go_loopw [14, 4] (fun i o wr => ∃ (k : Nat) (z : List En), k ≤ es.length ∧ i = .int .i64 k ∧ Hid (foldG (es.take k) = some z) ∧ Hid (okCat z) ∧ z.length ≤ 12 ∧ Below w.heap.size w wr ∧ wr.ownsRow w.heap.size 36 5 o z.length (enS.flat z)) (fun i _ _ => es.length - (intOf i).toNat)
      case atStart => exact ⟨0, [], Nat.zero_le _, rfl, Lib.hid (foldG_zero es), Lib.hid okCat_nil, by simp, hb1, by simp [Shape.flat], Or.inl ⟨rfl, rfl⟩⟩
      case round =>
        obtain ⟨k, z, hk, rfl, Hz, Hzv, hzl, hb, hown⟩ := hrel
        have Hown := Lib.hid hown; clear hown
        by_cases hlt : k < es.length
        · obtain ⟨f0, f1, f2, f3, f4, f5, f6⟩ := hcell k hlt
          rw [← hb.cell (p := ⟨_, _, _⟩) hgl] at f0 f1 f2 f3 f4 f5 f6
          have Hy := Lib.hid (Hval.out k hlt)
          have Hsucc := Lib.hid (foldG_succ hlt)
          have Hstop := Lib.hid (fun hs => goF_stop hlt Hz.out hs)
          have hgr : g < wr.heap.size := Nat.lt_of_lt_of_le hgl hb.size
          generalize hx : rpS.get es k = x at f0 f1 f2 f3 f4 f5 f6 Hy Hsucc Hstop
          clear hx
          have hi0 : (0 : Int) ≤ (k : Int) := by omega
          have hi1 : (k : Int) < (es.length : Int) := by omega
          have hbA : Below wr.heap.size wr (wr.alloc (Obj.cells #[.int .i64 x.tm, .int .i64 x.mc, .int .i64 x.a, .int .i64 x.b, .int .i64 x.lo, .int .i64 x.hi, .int .i64 x.to] 107)) := bal (Below.refl _ _) _
          have HbA := Lib.hid hbA; clear hbA
          have Hbox := Lib.hid (Blk.new wr 107 #[.int .i64 x.tm, .int .i64 x.mc, .int .i64 x.a, .int .i64 x.b, .int .i64 x.lo, .int .i64 x.hi, .int .i64 x.to])
          clear hcell
          go_wp2_with fail
          refine (contradicts_any _ z (entR x) _ (Rd.of_own (own_below Hown.out HbA.out) rfl) Hzv.out hzl).mono ?_
          rintro e w5 ⟨rfl, hb5⟩
          have hb5' := bthen (bthen hb HbA.out) hb5
          have Hown5 := Lib.hid (own_below Hown.out (bthen HbA.out hb5))
          have hbox5 := Hbox.out.on hb5
          clear hb5 f0 f1 f2 f3 f4 f5 f6 hgr
          cases hn : (tightO z (entR x)).isNone
          · have Hn := Lib.hid hn; clear hn
            have q2 := hbox5.cell 2
            have q3 := hbox5.cell 3
            have q4 := hbox5.cell 4
            have q5 := hbox5.cell 5
            have q6 := hbox5.cell 6
            have ql := hbox5.lt
            have hlb : Below w.heap.size w (w5.alloc (Obj.cells #[.int .i64 x.a, .int .i64 x.b, .int .i64 x.lo, .int .i64 x.hi, .int .i64 x.to] 36)) := bal hb5' _
            have Hlb := Lib.hid hlb; clear hlb
            have Hlit : Hid (Blk (w5.alloc (Obj.cells #[.int .i64 x.a, .int .i64 x.b, .int .i64 x.lo, .int .i64 x.hi, .int .i64 x.to] 36)) w5.heap.size 36 #[.int .i64 (entR x).a, .int .i64 (entR x).b, .int .i64 (entR x).lo, .int .i64 (entR x).hi, .int .i64 (entR x).to]) := Lib.hid (Blk.new w5 _ _)
            go_wp2_with fail
            refine (mergeCat_any _ z _ [entR x] _ (Rd.of_own (World.ownsRow.alloc Hown5.out _) rfl) (rd_lit Hlit.out) (by omega) (by simp) Hzv.out (one_ent Hy.out)).mono ?_
            rintro e w6 ⟨⟨v6, z', b, rfl, ht, ho6⟩, hb6⟩
            have Ho6 := Lib.hid ho6; clear ho6
            rw [mergeV_step] at ht
            have hb6' := bthen Hlb.out hb6
            have Hbw := Lib.hid Hlb.out.size
            clear q2 q3 q4 q5 q6 ql hbox5 hb6
            cases hs : stepG z (entR x) with
            | none =>
              rw [hs] at ht
              obtain ⟨rfl, rfl⟩ := Prod.mk.inj ht
              have Hst := Lib.hid (Hstop.out hs)
              clear hs ht
              go_wp2
              go_ret2
              exact ⟨⟨_, false, rfl, by rw [Hfin.out, Hst.out, Hn.out]; rfl⟩, hb6'⟩
            | some u =>
              rw [hs] at ht
              obtain ⟨rfl, rfl⟩ := Prod.mk.inj ht
              have Hnew := Lib.hid (show foldG (es.take (k + 1)) = some u by rw [Hsucc.out, Hz.out]; exact hs)
              have Hnv := Lib.hid (tight_ok Hzv.out Hy.out (stepG_spec hs).1)
              have hl5 := (stepG_spec hs).2
              clear hs ht
              go_wp2
              go_roundw
              case rel => exact ⟨k + 1, u, by omega, by go_num, Hnew, Hnv, hl5, hb6', own_mono Ho6.out Hbw.out⟩
              case measure => simp [intOf]; omega
          · have Hst := Lib.hid (Hstop.out (stepG_none hn))
            have Hn := Lib.hid hn; clear hn hbox5
            go_wp2
            go_ret2
            exact ⟨⟨_, true, rfl, by rw [Hfin.out, Hst.out, Hn.out]; rfl⟩, hb5'⟩
        · obtain rfl : k = es.length := by omega
          have hd0 : decide (es.length < es.length) = false := decide_eq_false (by omega)
          clear hcell
          go_wp2
          go_ret2
          exact ⟨⟨_, false, rfl, by rw [Hfin.out, goF_end Hz.out]⟩, hb⟩
end Go.Proofs.Ytnphipfdpkgbaaa
