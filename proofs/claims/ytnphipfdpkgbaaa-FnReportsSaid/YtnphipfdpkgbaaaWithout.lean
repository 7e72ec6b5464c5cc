/- WithoutContradictions of the reference and of the program: the walks. Conditions: none. -/
import Derived.Test.YtnphipfdpkgbaaaFirst
import Derived.Test.YtnphipfdpkgbaaaClone
namespace Go.Proofs.Ytnphipfdpkgbaaa
open Go Go.RowKit

def goW : List Rp → List En → List Rp → List Rp × Bool
  | [], _, kept => (kept, true)
  | r :: rs, z, kept => match tightO z (entR r) with
    | none => goW rs z kept
    | some u => if u.length ≤ 12 then goW rs u (kept ++ [r]) else ([], false)
def withG (es : List Rp) : List Rp × Bool := if repsB es then goW es [] [] else ([], false)
theorem goW_torn {r : Rp} {rs : List Rp} {z : List En} {kept : List Rp} (h : (tightO z (entR r)).isNone = true) : goW (r :: rs) z kept = goW rs z kept := by
  simp only [goW]
  rw [Option.isNone_iff_eq_none.1 h]
theorem goW_some {r : Rp} {rs : List Rp} {z u : List En} {kept : List Rp} (h : stepG z (entR r) = some u) : goW (r :: rs) z kept = goW rs u (kept ++ [r]) := by
  obtain ⟨h1, h2⟩ := stepG_spec h
  simp only [goW]
  rw [h1]
  exact if_pos h2
theorem goW_long {r : Rp} {rs : List Rp} {z : List En} {kept : List Rp} (h : (tightO z (entR r)).isNone = false) (hs : stepG z (entR r) = none) : goW (r :: rs) z kept = ([], false) := by
  simp only [goW]
  cases ht : tightO z (entR r) with
  | none => rw [ht] at h; cases h
  | some u =>
    by_cases hl : u.length ≤ 12
    · rw [stepG_ok ht hl] at hs; cases hs
    · exact if_neg hl
theorem goW_len : ∀ (rs : List Rp) (z : List En) (kept : List Rp) (y : List Rp) (b : Bool), goW rs z kept = (y, b) → y.length ≤ rs.length + kept.length
  | [], z, kept, y, b, h => by cases h; simp
  | r :: rs, z, kept, y, b, h => by
    simp only [goW] at h
    split at h
    · have := goW_len rs z kept y b h; simp; omega
    · split at h
      · have := goW_len rs _ _ y b h; simp at this ⊢; omega
      · cases h; simp
theorem withG_len {es : List Rp} (y : List Rp) (b : Bool) (h : withG es = (y, b)) : y.length ≤ 20 := by
  unfold withG at h
  split at h
  · rename_i hg
    have := goW_len es [] [] y b h
    have h2 := (repsB_spec hg).1
    simp at this
    omega
  · obtain ⟨rfl, -⟩ := Prod.mk.inj h; simp

set_option maxRecDepth 8000 in
set_option maxHeartbeats 8000000 in
theorem specWithout_any (v : Value) (es : List Rp) (w : World) (h : Rd rpS w w.heap.size v es) :
    Calls Try.prog 52 #[v] w fun r w' => (∃ (v' : Value) (y : List Rp) (b : Bool), r = .returned (.tuple #[v', .bool b]) ∧ withG es = (y, b) ∧ w'.ownsRow w.heap.size 107 7 v' y.length (rpS.flat y)) ∧ Below w.heap.size w w' := by
  obtain ⟨i0, hi, hz0, hz1, hz2⟩ := info_parts infoRp2
  have Hr := Lib.hid h
  obtain ⟨A, c, rfl, hcc, hm, hA⟩ := h
  unfold maxLen at hm
  cases hg : repsB es
  · have Hfin := Lib.hid (show withG es = ([], false) by unfold withG; rw [hg]; rfl)
    clear hA
    go_enter Try.func52, Try.ntmps52
    go_wp2_with fail
    refine (mrGood_any _ es _ Hr.out).mono ?_; rintro e w1 ⟨rfl, hb1⟩
    rw [hg]
    go_wp2
    go_ret2
    exact ⟨⟨_, [], false, rfl, Hfin.out, by simp [Shape.flat], Or.inl ⟨rfl, rfl⟩⟩, hb1⟩
  · have Hval := Lib.hid (rep_ent (repsB_spec hg).2)
    have hlen := (repsB_spec hg).1
    have Hfin := Lib.hid (show withG es = goW es [] [] by unfold withG; rw [hg]; rfl)
    rcases Nat.eq_zero_or_pos es.length with h0 | h0
    · obtain rfl : es = [] := List.eq_nil_of_length_eq_zero h0
      clear hA h0 hlen
      go_enter Try.func52, Try.ntmps52
      go_wp2_with fail
      refine (mrGood_any _ [] _ Hr.out).mono ?_; rintro e w1 ⟨rfl, hb1⟩
      rw [hg]
      go_wp2
      refine wp_loop_rounds 1 ?_
      rw [rounds_succ]
      go_wp2
      go_ret2
      exact ⟨⟨_, [], true, rfl, by rw [Hfin.out]; rfl, by simp [Shape.flat], Or.inl ⟨rfl, rfl⟩⟩, hb1⟩
    · obtain ⟨g, off, rfl, hgl, hcell⟩ := hA h0
      clear hA
      have hcell := rp_cells hcell
      go_enter Try.func52, Try.ntmps52
      go_wp2_with fail
      refine (mrGood_any _ es _ Hr.out).mono ?_; rintro e w1 ⟨rfl, hb1⟩
      rw [hg]
      clear hg
      go_wp2
      go_loopw [15, 4, 5] (fun i ko zo wr => ∃ (k : Nat) (z : List En) (kept : List Rp), k ≤ es.length ∧ i = .int .i64 k ∧ Hid (goW es [] [] = goW (es.drop k) z kept) ∧ Hid (okCat z) ∧ z.length ≤ 12 ∧ kept.length ≤ k ∧ Below w.heap.size w wr ∧ wr.ownsRow w.heap.size 36 5 zo z.length (enS.flat z) ∧ wr.ownsRow w.heap.size 107 7 ko kept.length (rpS.flat kept) ∧ Hid (∀ g, zo.ownBlock = some g → ko.ownBlock ≠ some g)) (fun i _ _ _ => es.length - (intOf i).toNat)
      case atStart => exact ⟨0, [], [], Nat.zero_le _, rfl, Lib.hid (by rw [List.drop_zero]), Lib.hid okCat_nil, by simp, Nat.le_refl _, hb1, ⟨by simp [Shape.flat], Or.inl ⟨rfl, rfl⟩⟩, ⟨by simp [Shape.flat], Or.inl ⟨rfl, rfl⟩⟩, Lib.hid (fun g h => by cases h)⟩
      case round =>
        obtain ⟨k, z, kept, hk, rfl, Hgo, Hzv, hzl, hkl, hb, hown, hkown, Hap⟩ := hrel
        have Hown := Lib.hid hown; clear hown
        have Hk := Lib.hid hkown; clear hkown
        by_cases hlt : k < es.length
        · obtain ⟨f0, f1, f2, f3, f4, f5, f6⟩ := hcell k hlt
          rw [← hb.cell (p := ⟨_, _, _⟩) hgl] at f0 f1 f2 f3 f4 f5 f6
          have Hy := Lib.hid (Hval.out k hlt)
          have Hstep := Lib.hid (show goW es [] [] = goW (rpS.get es k :: es.drop (k + 1)) z kept by rw [Hgo.out, drop_get hlt])
          have hgr : g < wr.heap.size := Nat.lt_of_lt_of_le hgl hb.size
          generalize hx : rpS.get es k = x at f0 f1 f2 f3 f4 f5 f6 Hy Hstep
          clear hx
          have hi0 : (0 : Int) ≤ (k : Int) := by omega
          have hi1 : (k : Int) < (es.length : Int) := by omega
          have hbA : Below wr.heap.size wr (wr.alloc (Obj.cells #[.int .i64 x.tm, .int .i64 x.mc, .int .i64 x.a, .int .i64 x.b, .int .i64 x.lo, .int .i64 x.hi, .int .i64 x.to] 107)) := bal (Below.refl _ _) _
          have HbA := Lib.hid hbA; clear hbA
          have Hbox := Lib.hid (Blk.new wr 107 #[.int .i64 x.tm, .int .i64 x.mc, .int .i64 x.a, .int .i64 x.b, .int .i64 x.lo, .int .i64 x.hi, .int .i64 x.to])
          clear hcell
          go_wp2_with fail
          refine (caTighten_any _ z (entR x) _ (Rd.of_own (own_below Hown.out HbA.out) rfl) (by omega) Hzv.out Hy.out).mono ?_
          rintro e w5 ⟨⟨v5, z', b, rfl, ht, -, ho5⟩, hb5⟩
          have Ht := Lib.hid ht; clear ht
          have hb5' := bthen (bthen hb HbA.out) hb5
          have Hown5 := Lib.hid (own_below Hown.out (bthen HbA.out hb5))
          have Hk5 := Lib.hid (own_below Hk.out (bthen HbA.out hb5))
          have hbox5 := Hbox.out.on hb5
          have Hbw := Lib.hid (bthen hb HbA.out).size
          have Hz5 := Lib.hid (own_mono ho5 Hbw.out)
          have HL5 := Lib.hid (World.ownsRow.lt ho5)
          clear hb5 f0 f1 f2 f3 f4 f5 f6 hgr
          cases b
          · have Hnext := Lib.hid (show goW es [] [] = goW (es.drop (k + 1)) z kept by rw [Hstep.out]; simp only [goW]; rw [Ht.out]; rfl)
            clear ho5 hbox5
            go_wp2
            go_roundw
            case rel => exact ⟨k + 1, z, kept, by omega, by go_num, Hnext, Hzv, hzl, by omega, hb5', Hown5.out, Hk5.out, Hap⟩
            case measure => simp [intOf]; omega
          · obtain ⟨A5, c5, rfl, -, -, -⟩ := Rd.of_own (S := enS) ho5 rfl
            clear ho5
            by_cases hl : z'.length ≤ 12
            · have hd : decide ((12 : Int) < (z'.length : Int)) = false := decide_eq_false (by omega)
              have hd2 : decide (12 < z'.length) = false := decide_eq_false (by omega)
              have Hnext := Lib.hid (show goW es [] [] = goW (es.drop (k + 1)) z' (kept ++ [x]) by rw [Hstep.out]; simp only [goW]; rw [Ht.out]; exact if_pos hl)
              have Hnv := Lib.hid (tight_ok Hzv.out Hy.out Ht.out)
              have Hkw := Lib.hid (World.ownsRow.lt Hk.out)
              have Hne : Hid (∀ g, (Value.slice A5 z'.length c5).ownBlock = some g → u4.ownBlock ≠ some g) := Lib.hid (fun g h1 h2 => by have h3 := HL5.out g h1; have h4 := Hkw.out g h2; simp at h3; omega)
              have q0 := hbox5.cell 0
              have q1 := hbox5.cell 1
              have q2 := hbox5.cell 2
              have q3 := hbox5.cell 3
              have q4 := hbox5.cell 4
              have q5 := hbox5.cell 5
              have q6 := hbox5.cell 6
              have ql := hbox5.lt
              clear hbox5
              go_wp2_with (at_builtin; refine wpList_append_own_at _ rfl _ _ 63 rfl w.heap.size 107 i0 (.agg #[.int .i64 0, .int .i64 0, .int .i64 0, .int .i64 0, .int .i64 0, .int .i64 0, .int .i64 0]) 7 56 Try.underlying63 hi hz0 hz1 hz2 rfl (by decide) _ _ _ rfl (Hk5.out.alloc _) ⟨w5.heap.size, 0, none⟩ 1 1 (rpS.flat [x]) rfl rfl ?c1 (rp_one _) ?c3 ?c4 ?c5 ?_)
              case c1 => exact oneRp_cells (Blk.new _ _ _)
              case c3 => unfold maxLen; omega
              case c4 => omega
              case c5 => have := hb5'.size; simp; omega
              intro v8 w8 hown8 hg8 _ hat8
              have hb8 : Below w.heap.size w w8 := Below.grown (bal hb5' _) hg8 (by have := hb5'.size; simp; omega) (fun j hj => (Hk5.out.lt j hj).1)
              have hk8 := Lib.hid (show w8.ownsRow w.heap.size 107 7 v8 (kept ++ [x]).length (rpS.flat (kept ++ [x])) by rw [Shape.flat_append, List.length_append]; exact hown8)
              have hz8 := Lib.hid (World.ownsRow.kept (World.ownsRow.alloc Hz5.out (Obj.cells #[.int .i64 x.tm, .int .i64 x.mc, .int .i64 x.a, .int .i64 x.b, .int .i64 x.lo, .int .i64 x.hi, .int .i64 x.to] 107)) hg8 (own_apart (fun g h1 h2 => Hne.out g h1 h2)))
              have ha8 : Hid (∀ g, (Value.slice A5 z'.length c5).ownBlock = some g → v8.ownBlock ≠ some g) := Lib.hid (fun g h1 h2 => by
                rcases hat8 with h | h
                · exact Hne.out g h1 (h.symm.trans h2)
                · have h3 := (World.ownsRow.lt Hz5.out g h1).2
                  rw [h2] at h
                  injection h with h
                  (try simp at h)
                  omega)
              clear hown8 hg8 hat8
              go_wp2
              go_roundw
              case rel => exact ⟨k + 1, z', kept ++ [x], by omega, by go_num, Hnext, Hnv, hl, by rw [List.length_append]; simp; omega, hb8, hz8.out, hk8.out, ha8⟩
              case measure => simp [intOf]; omega
            · have hd : decide ((12 : Int) < (z'.length : Int)) = true := decide_eq_true (by omega)
              have hd2 : decide (12 < z'.length) = true := decide_eq_true (by omega)
              have Hno := Lib.hid (show goW es [] [] = ([], false) by rw [Hstep.out]; simp only [goW]; rw [Ht.out]; exact if_neg hl)
              clear hl hbox5
              go_wp2
              go_ret2
              exact ⟨⟨_, [], false, rfl, by rw [Hfin.out, Hno.out], by simp [Shape.flat], Or.inl ⟨rfl, rfl⟩⟩, hb5'⟩
        · obtain rfl : k = es.length := by omega
          have hd0 : decide (es.length < es.length) = false := decide_eq_false (by omega)
          have Hend := Lib.hid (show goW es [] [] = (kept, true) by rw [Hgo.out, List.drop_length]; rfl)
          clear hcell
          go_wp2
          go_ret2
          exact ⟨⟨_, kept, true, rfl, by rw [Hfin.out, Hend.out], Hk.out⟩, hb⟩

set_option maxRecDepth 8000 in
set_option maxHeartbeats 8000000 in
theorem implWithout_any (v : Value) (es : List Rp) (w : World) (h : Rd rpS w w.heap.size v es) :
    Calls Try.prog 51 #[v] w fun r w' => (∃ (v' : Value) (y : List Rp) (b : Bool), r = .returned (.tuple #[v', .bool b]) ∧ withG es = (y, b) ∧ w'.ownsRow w.heap.size 107 7 v' y.length (rpS.flat y)) ∧ Below w.heap.size w w' := by
  obtain ⟨i0, hi, hz0, hz1, hz2⟩ := info_parts infoRp2
  have Hr := Lib.hid h
  obtain ⟨A, c, rfl, hcc, hm, hA⟩ := h
  unfold maxLen at hm
  cases hg : repsB es
  · have Hfin := Lib.hid (show withG es = ([], false) by unfold withG; rw [hg]; rfl)
    clear hA
    go_enter Try.func51, Try.ntmps51
    go_wp2_with fail
    refine (areReports_any _ es _ Hr.out).mono ?_; rintro e w1 ⟨rfl, hb1⟩
    rw [hg]
    go_wp2
    go_ret2
    exact ⟨⟨_, [], false, rfl, Hfin.out, by simp [Shape.flat], Or.inl ⟨rfl, rfl⟩⟩, hb1⟩
  · have Hval := Lib.hid (rep_ent (repsB_spec hg).2)
    have hlen := (repsB_spec hg).1
    have Hfin := Lib.hid (show withG es = goW es [] [] by unfold withG; rw [hg]; rfl)
    rcases Nat.eq_zero_or_pos es.length with h0 | h0
    · obtain rfl : es = [] := List.eq_nil_of_length_eq_zero h0
      clear hA h0 hlen
      go_enter Try.func51, Try.ntmps51
      go_wp2_with fail
      refine (areReports_any _ [] _ Hr.out).mono ?_; rintro e w1 ⟨rfl, hb1⟩
      rw [hg]
      go_wp2
      refine wp_loop_rounds 1 ?_
      rw [rounds_succ]
      go_wp2
      go_ret2
      exact ⟨⟨_, [], true, rfl, by rw [Hfin.out]; rfl, by simp [Shape.flat], Or.inl ⟨rfl, rfl⟩⟩, hb1⟩
    · obtain ⟨g, off, rfl, hgl, hcell⟩ := hA h0
      clear hA
      have hcell := rp_cells hcell
      go_enter Try.func51, Try.ntmps51
      go_wp2_with fail
      refine (areReports_any _ es _ Hr.out).mono ?_; rintro e w1 ⟨rfl, hb1⟩
      rw [hg]
      clear hg
      go_wp2
      go_loopw [15, 4, 5] (fun i zo ko wr => ∃ (k : Nat) (z : List En) (kept : List Rp), k ≤ es.length ∧ i = .int .i64 k ∧ Hid (goW es [] [] = goW (es.drop k) z kept) ∧ Hid (okCat z) ∧ z.length ≤ 12 ∧ kept.length ≤ k ∧ Below w.heap.size w wr ∧ wr.ownsRow w.heap.size 36 5 zo z.length (enS.flat z) ∧ wr.ownsRow w.heap.size 107 7 ko kept.length (rpS.flat kept) ∧ Hid (∀ g, zo.ownBlock = some g → ko.ownBlock ≠ some g)) (fun i _ _ _ => es.length - (intOf i).toNat)
      case atStart => exact ⟨0, [], [], Nat.zero_le _, rfl, Lib.hid (by rw [List.drop_zero]), Lib.hid okCat_nil, by simp, Nat.le_refl _, hb1, ⟨by simp [Shape.flat], Or.inl ⟨rfl, rfl⟩⟩, ⟨by simp [Shape.flat], Or.inl ⟨rfl, rfl⟩⟩, Lib.hid (fun g h => by cases h)⟩
      case round =>
        obtain ⟨k, z, kept, hk, rfl, Hgo, Hzv, hzl, hkl, hb, hown, hkown, Hap⟩ := hrel
        have Hown := Lib.hid hown; clear hown
        have Hk := Lib.hid hkown; clear hkown
        by_cases hlt : k < es.length
        · obtain ⟨f0, f1, f2, f3, f4, f5, f6⟩ := hcell k hlt
          rw [← hb.cell (p := ⟨_, _, _⟩) hgl] at f0 f1 f2 f3 f4 f5 f6
          have Hy := Lib.hid (Hval.out k hlt)
          have Hstep := Lib.hid (show goW es [] [] = goW (rpS.get es k :: es.drop (k + 1)) z kept by rw [Hgo.out, drop_get hlt])
          have hgr : g < wr.heap.size := Nat.lt_of_lt_of_le hgl hb.size
          generalize hx : rpS.get es k = x at f0 f1 f2 f3 f4 f5 f6 Hy Hstep
          clear hx
          have hi0 : (0 : Int) ≤ (k : Int) := by omega
          have hi1 : (k : Int) < (es.length : Int) := by omega
          have hbA : Below wr.heap.size wr (wr.alloc (Obj.cells #[.int .i64 x.tm, .int .i64 x.mc, .int .i64 x.a, .int .i64 x.b, .int .i64 x.lo, .int .i64 x.hi, .int .i64 x.to] 107)) := bal (Below.refl _ _) _
          have HbA := Lib.hid hbA; clear hbA
          have Hbox := Lib.hid (Blk.new wr 107 #[.int .i64 x.tm, .int .i64 x.mc, .int .i64 x.a, .int .i64 x.b, .int .i64 x.lo, .int .i64 x.hi, .int .i64 x.to])
          clear hcell
          go_wp2_with fail
          refine (contradicts_any _ z (entR x) _ (Rd.of_own (own_below Hown.out HbA.out) rfl) Hzv.out hzl).mono ?_
          rintro e w5 ⟨rfl, hb5⟩
          have hb5' := bthen (bthen hb HbA.out) hb5
          have Hown5 := Lib.hid (own_below Hown.out (bthen HbA.out hb5))
          have Hk5 := Lib.hid (own_below Hk.out (bthen HbA.out hb5))
          have hbox5 := Hbox.out.on hb5
          clear hb5 f0 f1 f2 f3 f4 f5 f6 hgr
          cases hn : (tightO z (entR x)).isNone
          · have Hn := Lib.hid hn; clear hn
            have q0 := hbox5.cell 0
            have q1 := hbox5.cell 1
            have q2 := hbox5.cell 2
            have q3 := hbox5.cell 3
            have q4 := hbox5.cell 4
            have q5 := hbox5.cell 5
            have q6 := hbox5.cell 6
            have ql := hbox5.lt
            have hlb : Below w.heap.size w (w5.alloc (Obj.cells #[.int .i64 x.a, .int .i64 x.b, .int .i64 x.lo, .int .i64 x.hi, .int .i64 x.to] 36)) := bal hb5' _
            have Hlb := Lib.hid hlb; clear hlb
            have Hlit : Hid (Blk (w5.alloc (Obj.cells #[.int .i64 x.a, .int .i64 x.b, .int .i64 x.lo, .int .i64 x.hi, .int .i64 x.to] 36)) w5.heap.size 36 #[.int .i64 (entR x).a, .int .i64 (entR x).b, .int .i64 (entR x).lo, .int .i64 (entR x).hi, .int .i64 (entR x).to]) := Lib.hid (Blk.new w5 _ _)
            have Hboxl := Lib.hid (hbox5.alloc (Obj.cells #[.int .i64 x.a, .int .i64 x.b, .int .i64 x.lo, .int .i64 x.hi, .int .i64 x.to] 36))
            have Hkl := Lib.hid (World.ownsRow.alloc Hk5.out (Obj.cells #[.int .i64 x.a, .int .i64 x.b, .int .i64 x.lo, .int .i64 x.hi, .int .i64 x.to] 36))
            go_wp2_with fail
            refine (mergeCat_any _ z _ [entR x] _ (Rd.of_own (World.ownsRow.alloc Hown5.out _) rfl) (rd_lit Hlit.out) (by omega) (by simp) Hzv.out (one_ent Hy.out)).mono ?_
            rintro e w6 ⟨⟨v6, z', b, rfl, ht, ho6⟩, hb6⟩
            rw [mergeV_step] at ht
            have hb6' := bthen Hlb.out hb6
            have Hz6 := Lib.hid (own_mono ho6 Hlb.out.size)
            have HL6 := Lib.hid (World.ownsRow.lt ho6)
            have Hk6 := Lib.hid (own_below Hkl.out hb6)
            have hbox6 := Hboxl.out.on hb6
            have Hkw := Lib.hid (World.ownsRow.lt Hkl.out)
            clear ho6 q0 q1 q2 q3 q4 q5 q6 ql hbox5 hb6
            cases hs : stepG z (entR x) with
            | none =>
              rw [hs] at ht
              obtain ⟨rfl, rfl⟩ := Prod.mk.inj ht
              have Hno := Lib.hid (show goW es [] [] = ([], false) by rw [Hstep.out]; exact goW_long Hn.out hs)
              clear hs ht hbox6
              go_wp2
              go_ret2
              exact ⟨⟨_, [], false, rfl, by rw [Hfin.out, Hno.out], by simp [Shape.flat], Or.inl ⟨rfl, rfl⟩⟩, hb6'⟩
            | some u =>
              rw [hs] at ht
              obtain ⟨rfl, rfl⟩ := Prod.mk.inj ht
              have Hnext := Lib.hid (show goW es [] [] = goW (es.drop (k + 1)) u (kept ++ [x]) by rw [Hstep.out]; exact goW_some hs)
              have Hnv := Lib.hid (tight_ok Hzv.out Hy.out (stepG_spec hs).1)
              have hl5 := (stepG_spec hs).2
              have Hne : Hid (∀ g, v6.ownBlock = some g → u5.ownBlock ≠ some g) := Lib.hid (fun g h1 h2 => by have h3 := HL6.out g h1; have h4 := Hkw.out g h2; omega)
              clear hs ht
              have q0 := hbox6.cell 0
              have q1 := hbox6.cell 1
              have q2 := hbox6.cell 2
              have q3 := hbox6.cell 3
              have q4 := hbox6.cell 4
              have q5 := hbox6.cell 5
              have q6 := hbox6.cell 6
              have ql := hbox6.lt
              clear hbox6
              go_wp2_with (at_builtin; refine wpList_append_own_at _ rfl _ _ 63 rfl w.heap.size 107 i0 (.agg #[.int .i64 0, .int .i64 0, .int .i64 0, .int .i64 0, .int .i64 0, .int .i64 0, .int .i64 0]) 7 56 Try.underlying63 hi hz0 hz1 hz2 rfl (by decide) _ _ _ rfl (Hk6.out.alloc _) ⟨w6.heap.size, 0, none⟩ 1 1 (rpS.flat [x]) rfl rfl ?c1 (rp_one _) ?c3 ?c4 ?c5 ?_)
              case c1 => exact oneRp_cells (Blk.new _ _ _)
              case c3 => unfold maxLen; omega
              case c4 => omega
              case c5 => have := hb6'.size; simp; omega
              intro v8 w8 hown8 hg8 _ hat8
              have hb8 : Below w.heap.size w w8 := Below.grown (bal hb6' _) hg8 (by have := hb6'.size; simp; omega) (fun j hj => (Hk6.out.lt j hj).1)
              have hk8 := Lib.hid (show w8.ownsRow w.heap.size 107 7 v8 (kept ++ [x]).length (rpS.flat (kept ++ [x])) by rw [Shape.flat_append, List.length_append]; exact hown8)
              have hz8 := Lib.hid (World.ownsRow.kept (World.ownsRow.alloc Hz6.out (Obj.cells #[.int .i64 x.tm, .int .i64 x.mc, .int .i64 x.a, .int .i64 x.b, .int .i64 x.lo, .int .i64 x.hi, .int .i64 x.to] 107)) hg8 (own_apart (fun g h1 h2 => Hne.out g h1 h2)))
              have ha8 : Hid (∀ g, v6.ownBlock = some g → v8.ownBlock ≠ some g) := Lib.hid (fun g h1 h2 => by
                rcases hat8 with h | h
                · exact Hne.out g h1 (h.symm.trans h2)
                · have h3 := (World.ownsRow.lt Hz6.out g h1).2
                  rw [h2] at h
                  injection h with h
                  (try simp at h)
                  omega)
              clear hown8 hg8 hat8
              go_wp2
              go_roundw
              case rel => exact ⟨k + 1, u, kept ++ [x], by omega, by go_num, Hnext, Hnv, hl5, by rw [List.length_append]; simp; omega, hb8, hz8.out, hk8.out, ha8⟩
              case measure => simp [intOf]; omega
          · have Hnext := Lib.hid (show goW es [] [] = goW (es.drop (k + 1)) z kept by rw [Hstep.out]; exact goW_torn hn)
            clear hn hbox5
            go_wp2
            go_roundw
            case rel => exact ⟨k + 1, z, kept, by omega, by go_num, Hnext, Hzv, hzl, by omega, hb5', Hown5.out, Hk5.out, Hap⟩
            case measure => simp [intOf]; omega
        · obtain rfl : k = es.length := by omega
          have hd0 : decide (es.length < es.length) = false := decide_eq_false (by omega)
          have Hend := Lib.hid (show goW es [] [] = (kept, true) by rw [Hgo.out, List.drop_length]; rfl)
          clear hcell
          go_wp2
          go_ret2
          exact ⟨⟨_, kept, true, rfl, by rw [Hfin.out, Hend.out], Hk.out⟩, hb⟩
end Go.Proofs.Ytnphipfdpkgbaaa
