/- CatalogueOf of the reference and of the program: the walks. Conditions: none. -/
import Derived.Test.YtnphipfdpkgbaaaMergeL
import Derived.Test.YtnphipfdpkgbaaaPutL
namespace Go.Proofs.Ytnphipfdpkgbaaa
open Go Go.RowKit

def entR (r : Rp) : En := ⟨r.a, r.b, r.lo, r.hi, r.to⟩
def stepG (z : List En) (y : En) : Option (List En) := (tightO z y).bind (fun z' => if z'.length ≤ 12 then some z' else none)
def foldG (es : List Rp) : Option (List En) := es.foldl (fun o r => o.bind (fun z => stepG z (entR r))) (some [])
def catG (es : List Rp) : List En × Bool := if repsB es then (match foldG es with | some z => (z, true) | none => ([], false)) else ([], false)
theorem foldG_zero (es : List Rp) : foldG (es.take 0) = some [] := by simp [foldG]
theorem foldG_succ {es : List Rp} {k : Nat} (hk : k < es.length) : foldG (es.take (k + 1)) = (foldG (es.take k)).bind (fun z => stepG z (entR (rpS.get es k))) := by
  unfold foldG
  rw [rp_take hk, List.foldl_append]
  rfl
theorem foldG_none : ∀ bs : List Rp, bs.foldl (fun o r => o.bind (fun z => stepG z (entR r))) (none : Option (List En)) = none
  | [] => rfl
  | _ :: bs => foldG_none bs
theorem foldG_stop {es : List Rp} {k : Nat} (h : foldG (es.take k) = none) : foldG es = none := by
  have : es = es.take k ++ es.drop k := (List.take_append_drop k es).symm
  rw [this]
  unfold foldG at h ⊢
  rw [List.foldl_append, h]
  exact foldG_none _
theorem stepG_spec {z z' : List En} {y : En} (h : stepG z y = some z') : tightO z y = some z' ∧ z'.length ≤ 12 := by
  unfold stepG at h
  cases ht : tightO z y with
  | none => rw [ht] at h; cases h
  | some u =>
    rw [ht] at h
    change (if u.length ≤ 12 then some u else none) = some z' at h
    split at h
    · cases h; exact ⟨rfl, by assumption⟩
    · cases h
theorem stepG_ok {z z' : List En} {y : En} (h1 : tightO z y = some z') (h2 : z'.length ≤ 12) : stepG z y = some z' := by
  unfold stepG
  rw [h1]
  exact if_pos h2
theorem stepG_long {z z' : List En} {y : En} (h1 : tightO z y = some z') (h2 : ¬ z'.length ≤ 12) : stepG z y = none := by
  unfold stepG
  rw [h1]
  exact if_neg h2
theorem stepG_torn {z : List En} {y : En} (h1 : tightO z y = none) : stepG z y = none := by
  unfold stepG
  rw [h1]
  rfl
theorem mergeV_step (z : List En) (y : En) : mergeV z [y] = match stepG z y with | some u => (u, true) | none => ([], false) := by
  rw [mergeV_one]
  cases ht : tightO z y with
  | none => rw [stepG_torn ht]
  | some u =>
    by_cases h : u.length ≤ 12
    · rw [stepG_ok ht h]; simp [h]
    · rw [stepG_long ht h]; simp [h]
theorem okCat_nil : okCat [] := fun k hk => by simp at hk
theorem rep_ent {es : List Rp} (hv : ∀ k, k < es.length → okRAt es k = true) : ∀ k, k < es.length → entE (entR (rpS.get es k)) = true := fun k hk => repB_ent (okR_rep (hv k hk))
theorem catG_len {es : List Rp} (y : List En) (b : Bool) (h : catG es = (y, b)) (hl : ∀ z, foldG es = some z → z.length ≤ 12) : y.length ≤ 12 := by
  unfold catG at h
  split at h
  · split at h
    · rename_i z hz
      obtain ⟨rfl, -⟩ := Prod.mk.inj h
      exact hl _ hz
    · obtain ⟨rfl, -⟩ := Prod.mk.inj h; simp
  · obtain ⟨rfl, -⟩ := Prod.mk.inj h; simp
theorem foldl_len : ∀ (bs : List Rp) (z0 : List En) (z : List En), z0.length ≤ 12 → bs.foldl (fun o r => o.bind (fun z => stepG z (entR r))) (some z0) = some z → z.length ≤ 12
  | [], z0, z, h0, h => by cases h; exact h0
  | r :: bs, z0, z, h0, h => by
    rw [List.foldl_cons] at h
    change bs.foldl _ (stepG z0 (entR r)) = some z at h
    cases hs : stepG z0 (entR r) with
    | none => rw [hs, foldG_none] at h; cases h
    | some u => rw [hs] at h; exact foldl_len bs u z (stepG_spec hs).2 h
theorem catG_len2 {es : List Rp} (y : List En) (b : Bool) (h : catG es = (y, b)) : y.length ≤ 12 := catG_len y b h (fun z hz => foldl_len es [] z (by simp) hz)

set_option maxRecDepth 8000 in
set_option maxHeartbeats 4000000 in
theorem mrCatalogue_any (v : Value) (es : List Rp) (w : World) (h : Rd rpS w w.heap.size v es) (hlen : es.length ≤ 20) (hval : ∀ k, k < es.length → okRAt es k = true) :
    Calls Try.prog 104 #[v] w fun r w' => (∃ (v' : Value) (z : List En) (i : Nat), r = .returned (.tuple #[v', .int .i64 i]) ∧ i ≤ es.length ∧ foldG (es.take i) = some z ∧ okCat z ∧ (i < es.length → stepG z (entR (rpS.get es i)) = none) ∧ w'.ownsRow w.heap.size 36 5 v' z.length (enS.flat z)) ∧ Below w.heap.size w w' := by
  have Hval := Lib.hid (rep_ent hval); clear hval
  obtain ⟨A, c, rfl, hcc, hm, hA⟩ := h
  unfold maxLen at hm
  rcases Nat.eq_zero_or_pos es.length with h0 | h0
  · obtain rfl : es = [] := List.eq_nil_of_length_eq_zero h0
    clear hA
    go_enter Try.func104, Try.ntmps104
    go_wp2
    refine wp_loop_rounds 1 ?_
    rw [rounds_succ]
    go_wp2
    go_ret2
    exact ⟨⟨_, [], 0, rfl, Nat.le_refl _, foldG_zero [], okCat_nil, fun h => by simp at h, by simp [Shape.flat], Or.inl ⟨rfl, rfl⟩⟩, Below.refl _ _⟩
  · obtain ⟨g, off, rfl, hgl, hcell⟩ := hA h0
    clear hA
    have hcell := rp_cells hcell
    go_enter Try.func104, Try.ntmps104
    go_wp2
    go_loopw [11, 4] (fun i o wr => ∃ (k : Nat) (z : List En), k ≤ es.length ∧ i = .int .i64 k ∧ Hid (foldG (es.take k) = some z) ∧ Hid (okCat z) ∧ z.length ≤ k ∧ Below w.heap.size w wr ∧ wr.ownsRow w.heap.size 36 5 o z.length (enS.flat z)) (fun i _ _ => es.length - (intOf i).toNat)
    case atStart => exact ⟨0, [], Nat.zero_le _, rfl, Lib.hid (foldG_zero es), Lib.hid okCat_nil, Nat.le_refl _, Below.refl _ _, by simp [Shape.flat], Or.inl ⟨rfl, rfl⟩⟩
    case round =>
      obtain ⟨k, z, hk, rfl, Hz, Hzv, hzl, hb, hown⟩ := hrel
      have Hown := Lib.hid hown; clear hown
      by_cases hlt : k < es.length
      · obtain ⟨f0, f1, f2, f3, f4, f5, f6⟩ := hcell k hlt
        rw [← hb.cell (p := ⟨_, _, _⟩) hgl] at f0 f1 f2 f3 f4 f5 f6
        have Hy := Lib.hid (Hval.out k hlt)
        have Hsucc := Lib.hid (foldG_succ hlt)
        have hgr : g < wr.heap.size := Nat.lt_of_lt_of_le hgl hb.size
        generalize hx : rpS.get es k = x at f0 f1 f2 f3 f4 f5 f6 Hy Hsucc
        have Hx := Lib.hid hx; clear hx
        have hi0 : (0 : Int) ≤ (k : Int) := by omega
        have hi1 : (k : Int) < (es.length : Int) := by omega
        have hbA : Below wr.heap.size wr (wr.alloc (Obj.cells #[.int .i64 x.tm, .int .i64 x.mc, .int .i64 x.a, .int .i64 x.b, .int .i64 x.lo, .int .i64 x.hi, .int .i64 x.to] 107)) := bal (Below.refl _ _) _
        have HbA := Lib.hid hbA; clear hbA
        clear hcell
        go_wp2_with fail
        refine (caTighten_any _ z (entR x) _ (Rd.of_own (own_below Hown.out HbA.out) rfl) (by omega) Hzv.out Hy.out).mono ?_
        rintro e w5 ⟨⟨v5, z', b, rfl, ht, -, ho5⟩, hb5⟩
        have Hown5 := Lib.hid (own_below Hown.out (bthen HbA.out hb5))
        have Ho5 := Lib.hid ho5
        have Ht := Lib.hid ht; clear ht
        have hb5' := bthen (bthen hb HbA.out) hb5
        have Hbw := Lib.hid (bthen hb HbA.out).size
        cases b
        · clear ho5
          go_wp2
          go_ret2
          exact ⟨⟨_, z, k, rfl, by omega, Hz.out, Hzv.out, fun _ => by rw [Hx.out]; exact stepG_torn Ht.out, Hown5.out⟩, hb5'⟩
        · obtain ⟨A5, c5, rfl, -, -, -⟩ := Rd.of_own (S := enS) ho5 rfl
          clear ho5
          by_cases hl : z'.length ≤ 12
          · have hd : decide ((12 : Int) < (z'.length : Int)) = false := decide_eq_false (by omega)
            have hd2 : decide (12 < z'.length) = false := decide_eq_false (by omega)
            have Hl := Lib.hid hl
            have Hnew := Lib.hid (show foldG (es.take (k + 1)) = some z' by rw [Hsucc.out, Hz.out]; exact stepG_ok Ht.out hl)
            have Hnv := Lib.hid (tight_ok Hzv.out Hy.out Ht.out)
            have hl5 := tight_len Ht.out
            clear hl
            go_wp2
            go_roundw
            case rel => exact ⟨k + 1, z', by omega, by go_num, Hnew, Hnv, by omega, hb5', own_mono Ho5.out Hbw.out⟩
            case measure => simp [intOf]; omega
          · have hd : decide ((12 : Int) < (z'.length : Int)) = true := decide_eq_true (by omega)
            have hd2 : decide (12 < z'.length) = true := decide_eq_true (by omega)
            have Hl := Lib.hid hl; clear hl
            go_wp2
            go_ret2
            exact ⟨⟨_, z, k, rfl, by omega, Hz.out, Hzv.out, fun _ => by rw [Hx.out]; exact stepG_long Ht.out Hl.out, Hown5.out⟩, hb5'⟩
      · obtain rfl : k = es.length := by omega
        have hd0 : decide (es.length < es.length) = false := decide_eq_false (by omega)
        clear hcell
        go_wp2
        go_ret2
        exact ⟨⟨_, z, es.length, rfl, Nat.le_refl _, Hz.out, Hzv.out, fun h => absurd h (by omega), Hown.out⟩, hb⟩

set_option maxHeartbeats 1600000 in
theorem specCatOf_any (v : Value) (es : List Rp) (w : World) (h : Rd rpS w w.heap.size v es) :
    Calls Try.prog 48 #[v] w fun r w' => (∃ (v' : Value) (z : List En) (b : Bool), r = .returned (.tuple #[v', .bool b]) ∧ catG es = (z, b) ∧ w'.ownsRow w.heap.size 36 5 v' z.length (enS.flat z)) ∧ Below w.heap.size w w' := by
  have Hr := Lib.hid h
  obtain ⟨A, c, rfl, -, -, -⟩ := h
  cases hg : repsB es
  · have Hfin := Lib.hid (show catG es = ([], false) by unfold catG; rw [hg]; rfl)
    go_enter Try.func48, Try.ntmps48
    go_wp2_with fail
    refine (mrGood_any _ es _ Hr.out).mono ?_; rintro e w1 ⟨rfl, hb1⟩
    rw [hg]
    go_wp2
    go_ret2
    exact ⟨⟨_, [], false, rfl, Hfin.out, by simp [Shape.flat], Or.inl ⟨rfl, rfl⟩⟩, hb1⟩
  · have Hs := Lib.hid (repsB_spec hg)
    have Hfin := Lib.hid (show catG es = (match foldG es with | some z => (z, true) | none => ([], false)) by unfold catG; rw [hg]; rfl)
    go_enter Try.func48, Try.ntmps48
    go_wp2_with fail
    refine (mrGood_any _ es _ Hr.out).mono ?_; rintro e w1 ⟨rfl, hb1⟩
    rw [hg]
    go_wp2_with fail
    refine (mrCatalogue_any _ es _ (Hr.out.on hb1) Hs.out.1 Hs.out.2).mono ?_
    rintro e w2 ⟨⟨v2, z, i, rfl, hi, hz, -, hst, ho2⟩, hb2⟩
    have Ho2 := Lib.hid ho2; clear ho2
    have Hz := Lib.hid hz; clear hz
    have Hst := Lib.hid hst; clear hst
    by_cases hlt : i < es.length
    · have hd : decide ((i : Int) < (es.length : Int)) = true := decide_eq_true (by omega)
      have hd2 : decide (i < es.length) = true := decide_eq_true hlt
      have Hno := Lib.hid (show foldG es = none by refine foldG_stop (k := i + 1) ?_; rw [foldG_succ hlt, Hz.out]; exact Hst.out hlt)
      go_wp2
      go_ret2
      exact ⟨⟨_, [], false, rfl, by rw [Hfin.out, Hno.out], by simp [Shape.flat], Or.inl ⟨rfl, rfl⟩⟩, bthen hb1 hb2⟩
    · have hd : decide ((i : Int) < (es.length : Int)) = false := decide_eq_false (by omega)
      have hd2 : decide (i < es.length) = false := decide_eq_false hlt
      have Hyes := Lib.hid (show foldG es = some z by have := Hz.out; rwa [show i = es.length by omega, List.take_length] at this)
      go_wp2
      go_ret2
      exact ⟨⟨_, z, true, rfl, by rw [Hfin.out, Hyes.out], own_mono Ho2.out hb1.size⟩, bthen hb1 hb2⟩

set_option maxRecDepth 8000 in
set_option maxHeartbeats 4000000 in
theorem implCatOf_any (v : Value) (es : List Rp) (w : World) (h : Rd rpS w w.heap.size v es) :
    Calls Try.prog 47 #[v] w fun r w' => (∃ (v' : Value) (z : List En) (b : Bool), r = .returned (.tuple #[v', .bool b]) ∧ catG es = (z, b) ∧ w'.ownsRow w.heap.size 36 5 v' z.length (enS.flat z)) ∧ Below w.heap.size w w' := by
  have Hr := Lib.hid h
  obtain ⟨A, c, rfl, hcc, hm, hA⟩ := h
  unfold maxLen at hm
  cases hg : repsB es
  · have Hfin := Lib.hid (show catG es = ([], false) by unfold catG; rw [hg]; rfl)
    clear hA
    go_enter Try.func47, Try.ntmps47
    go_wp2_with fail
    refine (areReports_any _ es _ Hr.out).mono ?_; rintro e w1 ⟨rfl, hb1⟩
    rw [hg]
    go_wp2
    go_ret2
    exact ⟨⟨_, [], false, rfl, Hfin.out, by simp [Shape.flat], Or.inl ⟨rfl, rfl⟩⟩, hb1⟩
  · have Hval := Lib.hid (rep_ent (repsB_spec hg).2)
    have hlen := (repsB_spec hg).1
    have Hfin := Lib.hid (show catG es = (match foldG es with | some z => (z, true) | none => ([], false)) by unfold catG; rw [hg]; rfl)
    rcases Nat.eq_zero_or_pos es.length with h0 | h0
    · obtain rfl : es = [] := List.eq_nil_of_length_eq_zero h0
      clear hA h0 hlen
      go_enter Try.func47, Try.ntmps47
      go_wp2_with fail
      refine (areReports_any _ [] _ Hr.out).mono ?_; rintro e w1 ⟨rfl, hb1⟩
      rw [hg]
      go_wp2
      refine wp_loop_rounds 1 ?_
      rw [rounds_succ]
      go_wp2
      go_ret2
      exact ⟨⟨_, [], true, rfl, by rw [Hfin.out]; rfl, by simp [Shape.flat], Or.inl ⟨rfl, rfl⟩⟩, hb1⟩
    · obtain ⟨g, off, rfl, hgl, hcell⟩ := hA h0
      clear hA
      have hcell := rp_cells hcell
      go_enter Try.func47, Try.ntmps47
      go_wp2_with fail
      refine (areReports_any _ es _ Hr.out).mono ?_; rintro e w1 ⟨rfl, hb1⟩
      rw [hg]
      clear hg
      go_wp2
      go_loopw [14, 4] (fun i o wr => ∃ (k : Nat) (z : List En), k ≤ es.length ∧ i = .int .i64 k ∧ Hid (foldG (es.take k) = some z) ∧ Hid (okCat z) ∧ z.length ≤ k ∧ Below w.heap.size w wr ∧ wr.ownsRow w.heap.size 36 5 o z.length (enS.flat z)) (fun i _ _ => es.length - (intOf i).toNat)
      case atStart => exact ⟨0, [], Nat.zero_le _, rfl, Lib.hid (foldG_zero es), Lib.hid okCat_nil, Nat.le_refl _, hb1, by simp [Shape.flat], Or.inl ⟨rfl, rfl⟩⟩
      case round =>
        obtain ⟨k, z, hk, rfl, Hz, Hzv, hzl, hb, hown⟩ := hrel
        have Hown := Lib.hid hown; clear hown
        by_cases hlt : k < es.length
        · obtain ⟨f0, f1, f2, f3, f4, f5, f6⟩ := hcell k hlt
          rw [← hb.cell (p := ⟨_, _, _⟩) hgl] at f0 f1 f2 f3 f4 f5 f6
          have Hy := Lib.hid (Hval.out k hlt)
          have Hsucc := Lib.hid (foldG_succ hlt)
          have hgr : g < wr.heap.size := Nat.lt_of_lt_of_le hgl hb.size
          generalize hx : rpS.get es k = x at f0 f1 f2 f3 f4 f5 f6 Hy Hsucc
          clear hx
          have hi0 : (0 : Int) ≤ (k : Int) := by omega
          have hi1 : (k : Int) < (es.length : Int) := by omega
          have hbB : Below wr.heap.size wr ((wr.alloc (Obj.cells #[.int .i64 x.tm, .int .i64 x.mc, .int .i64 x.a, .int .i64 x.b, .int .i64 x.lo, .int .i64 x.hi, .int .i64 x.to] 107)).alloc (Obj.cells #[.int .i64 x.a, .int .i64 x.b, .int .i64 x.lo, .int .i64 x.hi, .int .i64 x.to] 36)) := bal (bal (Below.refl _ _) _) _
          have HbB := Lib.hid hbB; clear hbB
          have Hlit : Hid (Blk ((wr.alloc (Obj.cells #[.int .i64 x.tm, .int .i64 x.mc, .int .i64 x.a, .int .i64 x.b, .int .i64 x.lo, .int .i64 x.hi, .int .i64 x.to] 107)).alloc (Obj.cells #[.int .i64 x.a, .int .i64 x.b, .int .i64 x.lo, .int .i64 x.hi, .int .i64 x.to] 36)) (wr.heap.size + 1) 36 #[.int .i64 (entR x).a, .int .i64 (entR x).b, .int .i64 (entR x).lo, .int .i64 (entR x).hi, .int .i64 (entR x).to]) := Lib.hid (Blk.new1 wr _ _ _)
          clear hcell
          go_wp2_with fail
          refine (mergeCat_any _ z _ [entR x] _ (Rd.of_own (own_below Hown.out HbB.out) rfl) (rd_lit Hlit.out) (by omega) (by simp) Hzv.out (one_ent Hy.out)).mono ?_
          rintro e w5 ⟨⟨v5, z', b, rfl, ht, ho5⟩, hb5⟩
          have Ho5 := Lib.hid ho5; clear ho5
          rw [mergeV_step] at ht
          have hb5' := bthen (bthen hb HbB.out) hb5
          have Hbw := Lib.hid (bthen hb HbB.out).size
          cases hs : stepG z (entR x) with
          | none =>
            rw [hs] at ht
            obtain ⟨rfl, rfl⟩ := Prod.mk.inj ht
            have Hno := Lib.hid (show foldG es = none by refine foldG_stop (k := k + 1) ?_; rw [Hsucc.out, Hz.out]; exact hs)
            clear hs ht
            go_wp2
            go_ret2
            exact ⟨⟨_, [], false, rfl, by rw [Hfin.out, Hno.out], by simp [Shape.flat], Or.inl ⟨rfl, rfl⟩⟩, hb5'⟩
          | some u =>
            rw [hs] at ht
            obtain ⟨rfl, rfl⟩ := Prod.mk.inj ht
            have Hnew := Lib.hid (show foldG (es.take (k + 1)) = some u by rw [Hsucc.out, Hz.out]; exact hs)
            have Hnv := Lib.hid (tight_ok Hzv.out Hy.out (stepG_spec hs).1)
            have hl5 := tight_len (stepG_spec hs).1
            clear hs ht
            go_wp2
            go_roundw
            case rel => exact ⟨k + 1, u, by omega, by go_num, Hnew, Hnv, by omega, hb5', own_mono Ho5.out Hbw.out⟩
            case measure => simp [intOf]; omega
        · obtain rfl : k = es.length := by omega
          have hd0 : decide (es.length < es.length) = false := decide_eq_false (by omega)
          have Hyes := Lib.hid (show foldG es = some z by have := Hz.out; rwa [List.take_length] at this)
          clear hcell
          go_wp2
          go_ret2
          exact ⟨⟨_, z, true, rfl, by rw [Hfin.out, Hyes.out], Hown.out⟩, hb⟩
end Go.Proofs.Ytnphipfdpkgbaaa
