/- Own texts put together: Failing primes of a quartic: the walks of both sides; Squarefree divisors: what both sides list, and what is told of them; Squarefree divisors: the walks of both sides; Squarefree divisors: the walk of the program; Squarefree numbers and their products up to squares: the laws of a group. Conditions: those of each theorem. -/
import Derived.Test.YthdfpfhkmfmnbaaGreatRcM11
namespace Go.Proofs.YthdfpfhkmfmnbaaGreat
section
open Go Go.RowKit Go.Lib

/-- Is it told at q? -/
def okQ (d a c q : Int) : Bool := decide (q ≤ 997) && (slV d a c q.toNat).2
def noQ (d a c q : Int) : Bool := !(slV d a c q.toNat).1
/-- The failing primes, if all are told. -/
def flV (d a c : Int) : List Int × Bool := if (bdV d a c).2 = true then (if (bdV d a c).1.all (okQ d a c) = true then ((bdV d a c).1.filter (noQ d a c), true) else ([], false)) else ([], false)
theorem fl_no {d a c : Int} (h : (bdV d a c).2 = false) : flV d a c = ([], false) := by unfold flV; rw [if_neg (by rw [h]; decide)]
theorem fl_bad {d a c : Int} {q : Int} (hq : q ∈ (bdV d a c).1) (h : okQ d a c q = false) : flV d a c = ([], false) := by
  unfold flV
  split
  · rw [if_neg (fun h1 => by have := List.all_eq_true.1 h1 q hq; rw [h] at this; exact absurd this (by decide))]
  · rfl
theorem fl_yes {d a c : Int} (h : (bdV d a c).2 = true) (h1 : ∀ q ∈ (bdV d a c).1, okQ d a c q = true) : flV d a c = ((bdV d a c).1.filter (noQ d a c), true) := by
  unfold flV
  rw [if_pos h, if_pos (List.all_eq_true.2 h1)]
theorem flt_yes {f : Int → Bool} {l : List Int} {k : Nat} (h : k < l.length) (hf : f l[k] = true) : (l.take (k + 1)).filter f = (l.take k).filter f ++ [l[k]] := by
  rw [List.take_succ_eq_append_getElem h, List.filter_append, List.filter_cons_of_pos hf]; rfl
theorem flt_no {f : Int → Bool} {l : List Int} {k : Nat} (h : k < l.length) (hf : f l[k] = false) : (l.take (k + 1)).filter f = (l.take k).filter f := by
  rw [List.take_succ_eq_append_getElem h, List.filter_append, List.filter_cons_of_neg (by rw [hf]; decide)]; simp
theorem inc_last {l : List Int} (h : Inc l) {m : Nat} (hm : m < l.length) (hm2 : l.length = m + 1) {k : Nat} (hk : k < l.length) : l[k] ≤ l[m] := by
  rcases Nat.lt_or_ge k m with h1 | h1
  · have := List.pairwise_iff_getElem.1 h k m hk hm h1; omega
  · have e : m = k := by omega
    subst e; exact Int.le_refl _
set_option linter.unusedSimpArgs false in
set_option linter.unusedVariables false in
set_option maxRecDepth 8000 in
set_option maxHeartbeats 8000000 in
theorem loFailing_any (d a c : Int) (w : World) (h : BQ d a c) :
    Calls Tryz.prog 83 #[.agg #[.int .i64 d, .int .i64 a, .int .i64 c]] w fun e w' => LsR (flV d a c) e w' ∧ Below w.heap.size w w' := by
  obtain ⟨i0, hii, hz0, hz1, hz2⟩ := info_parts infoIntC
  have Hc := Lib.hid (fun w9 => loBad_any d a c w9 h)
  have HV := Lib.hid (show flV d a c = flV d a c from rfl)
  have Hno := Lib.hid (fl_no (d := d) (a := a) (c := c))
  have Hbad := Lib.hid (fun q hq hk => fl_bad (d := d) (a := a) (c := c) (q := q) hq hk)
  have Hyes := Lib.hid (fl_yes (d := d) (a := a) (c := c))
  have Hfx := Lib.hid (show (bdV d a c).2 = true → 0 < (bdV d a c).1.length ∧ (bdV d a c).1.length ≤ 3000001 ∧ Inc (bdV d a c).1 ∧ ∀ q ∈ (bdV d a c).1, ∃ p : Nat, q = (p : Int) ∧ PrN p from fun h1 => by
    unfold bdV at h1 ⊢
    by_cases hx : a * a - 4 * d * c = 0
    · rw [if_pos hx] at h1; exact absurd h1 (by decide)
    · rw [if_neg hx]
      refine ⟨(length_bdK h hx 3).1, (length_bdK h hx 3).2, bdK_inc d a c 3, fun q hq => ?_⟩
      obtain ⟨p, h2, h3, -⟩ := bd_two h hx 3 q hq
      exact ⟨p, h2, h3⟩)
  have Hem := Lib.hid (show (bdV d a c).2 = false → (bdV d a c).1 = [] from fun h1 => by unfold bdV at h1 ⊢; by_cases hx : a * a - 4 * d * c = 0; rw [if_pos hx]; rw [if_neg hx] at h1; exact Bool.noConfusion h1)
  clear h
  generalize flV d a c = V at *
  generalize bdV d a c = U at *
  obtain ⟨B, ok⟩ := U
  dsimp only at *
  go_enter Tryz.func83, Tryz.ntmps83
  go_wp2_with fail
  refine (Hc.out _).mono ?_; rintro e w1 ⟨⟨A, cp, rfl, hrd⟩, hb1⟩
  have HR := Lib.hid hrd; clear hrd
  dsimp only at *
  have S1 := Lib.hid (show w.heap.size + 1 ≤ w1.heap.size by have h9 := hb1.size; (try simp only [World.size_alloc, World.size_setCell, World.size_drew] at h9); omega)
  have NQQ := Lib.hid ((Blk.new w 82 #[.int .i64 d, .int .i64 a, .int .i64 c]).on hb1)
  have QQ := NQQ; clear NQQ
  have Hb1 := Lib.hid (bthen (bal (Below.refl w.heap.size w) (Obj.cells #[.int .i64 d, .int .i64 a, .int .i64 c] 82)) hb1)
  clear hb1
  cases ok
  · have Hv := Lib.hid (Hno.out rfl)
    have hB0 : B = [] := Hem.out rfl
    subst hB0
    go_wp2
    exact bodyPost_ret (v := .tuple #[.slice none 0 0, .bool false]) (by simp [results, Tryz.results83, go_sem]) rfl ⟨by rw [Hv.out]; exact LsR.no _, Hb1.out⟩
  · have Hyes2 := Lib.hid (Hyes.out rfl); clear Hyes
    obtain ⟨hB1, hB2, hB3, hB4⟩ := Hfx.out rfl
    have HB3 := Lib.hid hB3; have HB4 := Lib.hid hB4; clear hB3 hB4
    go_wp2
    go_loopw [6, 20] (fun o i wr => ∃ k : Nat, k ≤ B.length ∧ i = .int .i64 (k : Int) ∧ Hid (∀ q ∈ B.take k, okQ d a c q = true) ∧ Hid (wr.ownsRow w1.heap.size 3 1 o ((B.take k).filter (noQ d a c)).length (((B.take k).filter (noQ d a c)).map iv)) ∧ Hid (Below w1.heap.size w1 wr)) (fun _ i _ => B.length - (intOf i).toNat)
    case atStart => exact ⟨0, Nat.zero_le _, rfl, Lib.hid (fun q hq => by simp at hq), Lib.hid ⟨rfl, Or.inl ⟨rfl, rfl⟩⟩, Lib.hid (Below.refl _ _)⟩
    case round =>
      obtain ⟨k, hk, rfl, Hal, Hrow, Hbw⟩ := hrel
      have HRr := Lib.hid (HR.out.below Hbw.out)
      have QQr := Lib.hid (QQ.out.below Hbw.out QQ.out.lt)
      have hszw : w1.heap.size ≤ wr.heap.size := Hbw.out.size
      by_cases hlt : k < B.length
      · obtain ⟨-, -, -, -, hC⟩ := rd_cells HRr.out
        obtain ⟨g2, off2, hA2, hg2⟩ := rd_addr HRr.out hB1
        have hc1 := hC g2 off2 hA2 k hlt
        clear hC
        have hgr : g2 < wr.heap.size := Nat.lt_of_lt_of_le hg2 hszw
        cases hA2
        rw [show B.getD k 0 = B[k] by simp [hlt]] at hc1
        have hd : decide ((k : Int) < (B.length : Int)) = true := decide_eq_true (by omega)
        have hdn : decide (k < B.length) = true := decide_eq_true hlt
        have hk0 : (0 : Int) ≤ (k : Int) := by omega
        have hk1 : (k : Int) < (B.length : Int) := by omega
        have Hmem := Lib.hid (List.getElem_mem hlt)
        have Hst := Lib.hid (List.take_succ_eq_append_getElem hlt)
        have Hfy := Lib.hid (flt_yes (f := noQ d a c) hlt)
        have Hfn := Lib.hid (flt_no (f := noQ d a c) hlt)
        generalize B[k] = q at *
        obtain ⟨p, hqp, hpp⟩ := HB4.out q Hmem.out
        subst hqp
        have hp2 : 2 ≤ p := hpp.1
        clear hpp
        have Hok := Lib.hid (show okQ d a c (p : Int) = (decide ((p : Int) ≤ 997) && (slV d a c p).2) from rfl)
        have Hnq := Lib.hid (show noQ d a c (p : Int) = !(slV d a c p).1 from rfl)
        by_cases hbig : 997 < p
        · have g1 : decide ((997 : Int) < (p : Int)) = true := decide_eq_true (by omega)
          have g2 : decide (997 < p) = true := decide_eq_true hbig
          have Hv := Lib.hid (Hbad.out (p : Int) Hmem.out (by rw [Hok.out, decide_eq_false (by omega)]; rfl))
          clear hbig
          go_wp2
          exact bodyPost_ret (v := .tuple #[.slice none 0 0, .bool false]) (by simp [results, Tryz.results83, go_sem]) rfl ⟨by rw [Hv.out]; exact LsR.no _, bthen Hb1.out Hbw.out⟩
        · have g1 : decide ((997 : Int) < (p : Int)) = false := decide_eq_false (by omega)
          have g2 : decide (997 < p) = false := decide_eq_false hbig
          have Hple := Lib.hid (show decide ((p : Int) ≤ 997) = true from decide_eq_true (by omega))
          have hp9 : p ≤ 997 := by omega
          clear hbig
          have Hsol := Lib.hid (fun w9 => loSolves_any d a c p w9 hp2 (by omega))
          generalize slV d a c p = S at *
          obtain ⟨s1, s2⟩ := S
          dsimp only at *
          have q0 : wr.cell? ⟨w.heap.size, 0, none⟩ = some (.int .i64 d) := QQr.out.cell 0
          have q1 : wr.cell? ⟨w.heap.size, 1, none⟩ = some (.int .i64 a) := QQr.out.cell 1
          have q2 : wr.cell? ⟨w.heap.size, 2, none⟩ = some (.int .i64 c) := QQr.out.cell 2
          have ql := QQr.out.lt
          go_wp2_with fail
          refine (Hsol.out _).mono ?_; rintro e w9 ⟨rfl, hb9⟩
          clear q0 q1 q2 ql hc1 hg2 hgr
          have Hbw9 := Lib.hid (Hbw.out.trans (hb9.mono hszw)); have Hrow9 := Lib.hid (own_below Hrow.out hb9); clear hb9
          cases s2
          · have Hv := Lib.hid (Hbad.out (p : Int) Hmem.out (by rw [Hok.out]; simp))
            go_wp2
            exact bodyPost_ret (v := .tuple #[.slice none 0 0, .bool false]) (by simp [results, Tryz.results83, go_sem]) rfl ⟨by rw [Hv.out]; exact LsR.no _, bthen Hb1.out Hbw9.out⟩
          · have Hal2 := Lib.hid (show ∀ q ∈ B.take (k + 1), okQ d a c q = true from fun q hq => by rw [Hst.out] at hq; rcases List.mem_append.1 hq with h | h; exact Hal.out q h; rw [List.mem_singleton.1 h, Hok.out, Hple.out]; rfl)
            cases s1
            · have Hf := Lib.hid (Hfy.out (by rw [Hnq.out]; rfl))
              have hlf : ((B.take k).filter (noQ d a c)).length ≤ 3000001 := Nat.le_trans (List.length_filter_le _ _) (by rw [List.length_take]; omega)
              have Hlf := Lib.hid hlf; clear hlf
              have hs9 : w1.heap.size ≤ w9.heap.size := Hbw9.out.size
              go_wp2_with (at_builtin; refine wpList_append_own _ rfl _ _ 48 rfl w1.heap.size 3 i0 (.int .i64 0) 1 8 Tryz.underlying48 hii hz0 hz1 hz2 rfl (by decide) _ _ _ rfl (Hrow9.out.alloc _) ⟨w9.heap.size, 0, none⟩ 1 1 [.int .i64 (p : Int)] rfl rfl (cell_one_new _ _ _) (by simp [Value.oneCell']) (by have := Hlf.out; unfold maxLen; omega) (by have := Hlf.out; omega) (by simp; omega) ?_)
              intro v8 w8 hown8 hg8 _
              have Hb8 := Lib.hid (show Below w1.heap.size w1 w8 from Below.grown (Hbw9.out.alloc hs9 _) hg8 (by simp; omega) (fun j hj => (Hrow9.out.lt j hj).1))
              have Hown8 := Lib.hid (show w8.ownsRow w1.heap.size 3 1 v8 ((B.take (k + 1)).filter (noQ d a c)).length (((B.take (k + 1)).filter (noQ d a c)).map iv) by rw [Hf.out, List.map_append, List.length_append]; exact hown8)
              clear hown8 hg8
              go_wp2
              go_roundw
              case rel => exact ⟨k + 1, by omega, by go_num, Hal2, Hown8, Hb8⟩
              case measure => simp [intOf]; omega
            · have Hf := Lib.hid (Hfn.out (by rw [Hnq.out]; rfl))
              go_wp2
              go_roundw
              case rel => exact ⟨k + 1, by omega, by go_num, Hal2, by rw [Hf.out]; exact Hrow9, Hbw9⟩
              case measure => simp [intOf]; omega
      · obtain rfl : k = B.length := by omega
        have hd : decide ((B.length : Int) < (B.length : Int)) = false := decide_eq_false (by omega)
        have hdn : decide (B.length < B.length) = false := decide_eq_false (by omega)
        have Hv := Lib.hid (Hyes2.out (fun q hq => Hal.out q (by rw [List.take_length]; exact hq)))
        rw [List.take_length] at Hrow
        obtain ⟨A9, c9, hrf, hr9⟩ := rd_own1 Hrow.out rfl
        subst hrf
        have Hr9 := Lib.hid hr9; clear hr9
        go_wp2
        exact bodyPost_ret (v := .tuple #[.slice A9 (B.filter (noQ d a c)).length c9, .bool true]) (by simp [results, Tryz.results83, go_sem]) rfl ⟨by rw [Hv.out]; exact ⟨_, _, rfl, Hr9.out⟩, bthen Hb1.out Hbw.out⟩
set_option linter.unusedSimpArgs false in
set_option linter.unusedVariables false in
set_option maxRecDepth 8000 in
set_option maxHeartbeats 8000000 in
theorem failing_any (d a c : Int) (w : World) (h : BQ d a c) :
    Calls Tryz.prog 73 #[.agg #[.int .i64 d, .int .i64 a, .int .i64 c]] w fun e w' => LsR (flV d a c) e w' ∧ Below w.heap.size w w' := by
  obtain ⟨i0, hii, hz0, hz1, hz2⟩ := info_parts infoIntC
  have Hc := Lib.hid (fun w9 => badPrimes_any d a c w9 h)
  have HV := Lib.hid (show flV d a c = flV d a c from rfl)
  have Hno := Lib.hid (fl_no (d := d) (a := a) (c := c))
  have Hbad := Lib.hid (fun q hq hk => fl_bad (d := d) (a := a) (c := c) (q := q) hq hk)
  have Hyes := Lib.hid (fl_yes (d := d) (a := a) (c := c))
  have Hfx := Lib.hid (show (bdV d a c).2 = true → 0 < (bdV d a c).1.length ∧ (bdV d a c).1.length ≤ 3000001 ∧ Inc (bdV d a c).1 ∧ ∀ q ∈ (bdV d a c).1, ∃ p : Nat, q = (p : Int) ∧ PrN p from fun h1 => by
    unfold bdV at h1 ⊢
    by_cases hx : a * a - 4 * d * c = 0
    · rw [if_pos hx] at h1; exact absurd h1 (by decide)
    · rw [if_neg hx]
      refine ⟨(length_bdK h hx 3).1, (length_bdK h hx 3).2, bdK_inc d a c 3, fun q hq => ?_⟩
      obtain ⟨p, h2, h3, -⟩ := bd_two h hx 3 q hq
      exact ⟨p, h2, h3⟩)
  have Hem := Lib.hid (show (bdV d a c).2 = false → (bdV d a c).1 = [] from fun h1 => by unfold bdV at h1 ⊢; by_cases hx : a * a - 4 * d * c = 0; rw [if_pos hx]; rw [if_neg hx] at h1; exact Bool.noConfusion h1)
  clear h
  generalize flV d a c = V at *
  generalize bdV d a c = U at *
  obtain ⟨B, ok⟩ := U
  dsimp only at *
  go_enter Tryz.func73, Tryz.ntmps73
  go_wp2_with fail
  refine (Hc.out _).mono ?_; rintro e w1 ⟨⟨A, cp, rfl, hrd⟩, hb1⟩
  have HR := Lib.hid hrd; clear hrd
  dsimp only at *
  have S1 := Lib.hid (show w.heap.size + 1 ≤ w1.heap.size by have h9 := hb1.size; (try simp only [World.size_alloc, World.size_setCell, World.size_drew] at h9); omega)
  have NQQ := Lib.hid ((Blk.new w 82 #[.int .i64 d, .int .i64 a, .int .i64 c]).on hb1)
  have QQ := NQQ; clear NQQ
  have Hb1 := Lib.hid (bthen (bal (Below.refl w.heap.size w) (Obj.cells #[.int .i64 d, .int .i64 a, .int .i64 c] 82)) hb1)
  clear hb1
  cases ok
  · have Hv := Lib.hid (Hno.out rfl)
    have hB0 : B = [] := Hem.out rfl
    subst hB0
    go_wp2
    exact bodyPost_ret (v := .tuple #[.slice none 0 0, .bool false]) (by simp [results, Tryz.results73, go_sem]) rfl ⟨by rw [Hv.out]; exact LsR.no _, Hb1.out⟩
  · have Hyes2 := Lib.hid (Hyes.out rfl); clear Hyes
    obtain ⟨hB1, hB2, hB3, hB4⟩ := Hfx.out rfl
    have HB3 := Lib.hid hB3; have HB4 := Lib.hid hB4; clear hB3 hB4
    obtain ⟨m, hm⟩ : ∃ m : Nat, B.length = m + 1 := ⟨B.length - 1, by omega⟩
    have hmB : m < B.length := by omega
    have Hm := Lib.hid (And.intro hmB hm)
    obtain ⟨-, -, -, -, hC⟩ := rd_cells HR.out
    obtain ⟨g, off, hA, hg⟩ := rd_addr HR.out hB1
    have hc1 := hC g off hA m hmB
    clear hC
    rw [List.getD_eq_getElem?_getD, List.getElem?_eq_getElem hmB, Option.getD_some] at hc1
    obtain ⟨q9, hq9⟩ : ∃ q, B[m] = q := ⟨_, rfl⟩
    rw [hq9] at hc1
    have Hq9 := Lib.hid (show q9 ∈ B by rw [← hq9]; exact List.getElem_mem _)
    have HQ9 := Lib.hid hq9; clear hq9
    have hLI : (B.length : Int) - 1 = (m : Int) := by omega
    have hm0 : (0 : Int) ≤ (m : Int) := by omega
    have hm1 : (m : Int) < (B.length : Int) := by omega
    clear hm
    subst hA
    by_cases hbig : 997 < q9
    · have g1 : decide ((997 : Int) < q9) = true := decide_eq_true hbig
      have Hv := Lib.hid (Hbad.out q9 Hq9.out (by unfold okQ; rw [decide_eq_false (by omega)]; rfl))
      clear hbig
      go_wp2
      exact bodyPost_ret (v := .tuple #[.slice none 0 0, .bool false]) (by simp [results, Tryz.results73, go_sem]) rfl ⟨by rw [Hv.out]; exact LsR.no _, Hb1.out⟩
    · have g1 : decide ((997 : Int) < q9) = false := decide_eq_false hbig
      have Hlast := Lib.hid (show B[m]'(Hm.out.1) ≤ 997 by rw [HQ9.out]; omega)
      clear hbig
      go_wp2
      go_loopw [6, 29] (fun o i wr => ∃ k : Nat, k ≤ B.length ∧ i = .int .i64 (k : Int) ∧ Hid (∀ q ∈ B.take k, okQ d a c q = true) ∧ Hid (wr.ownsRow w1.heap.size 3 1 o ((B.take k).filter (noQ d a c)).length (((B.take k).filter (noQ d a c)).map iv)) ∧ Hid (Below w1.heap.size w1 wr)) (fun _ i _ => B.length - (intOf i).toNat)
      case atStart => exact ⟨0, Nat.zero_le _, rfl, Lib.hid (fun q hq => by simp at hq), Lib.hid ⟨rfl, Or.inl ⟨rfl, rfl⟩⟩, Lib.hid (Below.refl _ _)⟩
      case round =>
        obtain ⟨k, hk, rfl, Hal, Hrow, Hbw⟩ := hrel
        have HRr := Lib.hid (HR.out.below Hbw.out)
        have QQr := Lib.hid (QQ.out.below Hbw.out QQ.out.lt)
        have hszw : w1.heap.size ≤ wr.heap.size := Hbw.out.size
        by_cases hlt : k < B.length
        · obtain ⟨-, -, -, -, hC⟩ := rd_cells HRr.out
          obtain ⟨g2, off2, hA2, hg2⟩ := rd_addr HRr.out hB1
          have hc1 := hC g2 off2 hA2 k hlt
          clear hC
          have hgr : g2 < wr.heap.size := Nat.lt_of_lt_of_le hg2 hszw
          cases hA2
          rw [show B.getD k 0 = B[k] by simp [hlt]] at hc1
          have hd : decide ((k : Int) < (B.length : Int)) = true := decide_eq_true (by omega)
          have hdn : decide (k < B.length) = true := decide_eq_true hlt
          have hk0 : (0 : Int) ≤ (k : Int) := by omega
          have hk1 : (k : Int) < (B.length : Int) := by omega
          have Hmem := Lib.hid (List.getElem_mem hlt)
          have Hst := Lib.hid (List.take_succ_eq_append_getElem hlt)
          have Hfy := Lib.hid (flt_yes (f := noQ d a c) hlt)
          have Hfn := Lib.hid (flt_no (f := noQ d a c) hlt)
          have Hle := Lib.hid (show B[k] ≤ 997 from Int.le_trans (inc_last HB3.out Hm.out.1 Hm.out.2 hlt) Hlast.out)
          generalize B[k] = q at *
          obtain ⟨p, hqp, hpp⟩ := HB4.out q Hmem.out
          subst hqp
          have hp2 : 2 ≤ p := hpp.1
          clear hpp
          have Hok := Lib.hid (show okQ d a c (p : Int) = (decide ((p : Int) ≤ 997) && (slV d a c p).2) from rfl)
          have Hnq := Lib.hid (show noQ d a c (p : Int) = !(slV d a c p).1 from rfl)
          have hp9 : p ≤ 997 := by have := Hle.out; omega
          have Hple := Lib.hid (show decide ((p : Int) ≤ 997) = true from decide_eq_true Hle.out)
          have Hsol := Lib.hid (fun w9 => soluble_any d a c p w9 hp2 (by omega))
          generalize slV d a c p = S at *
          obtain ⟨s1, s2⟩ := S
          dsimp only at *
          have q0 : wr.cell? ⟨w.heap.size, 0, none⟩ = some (.int .i64 d) := QQr.out.cell 0
          have q1 : wr.cell? ⟨w.heap.size, 1, none⟩ = some (.int .i64 a) := QQr.out.cell 1
          have q2 : wr.cell? ⟨w.heap.size, 2, none⟩ = some (.int .i64 c) := QQr.out.cell 2
          have ql := QQr.out.lt
          go_wp2_with fail
          refine (Hsol.out _).mono ?_; rintro e w9 ⟨rfl, hb9⟩
          clear q0 q1 q2 ql hc1 hg2 hgr
          have Hbw9 := Lib.hid (Hbw.out.trans (hb9.mono hszw)); have Hrow9 := Lib.hid (own_below Hrow.out hb9); clear hb9
          cases s2
          · have Hv := Lib.hid (Hbad.out (p : Int) Hmem.out (by rw [Hok.out]; simp))
            go_wp2
            exact bodyPost_ret (v := .tuple #[.slice none 0 0, .bool false]) (by simp [results, Tryz.results73, go_sem]) rfl ⟨by rw [Hv.out]; exact LsR.no _, bthen Hb1.out Hbw9.out⟩
          · have Hal2 := Lib.hid (show ∀ q ∈ B.take (k + 1), okQ d a c q = true from fun q hq => by rw [Hst.out] at hq; rcases List.mem_append.1 hq with h | h; exact Hal.out q h; rw [List.mem_singleton.1 h, Hok.out, Hple.out]; rfl)
            cases s1
            · have Hf := Lib.hid (Hfy.out (by rw [Hnq.out]; rfl))
              have hlf : ((B.take k).filter (noQ d a c)).length ≤ 3000001 := Nat.le_trans (List.length_filter_le _ _) (by rw [List.length_take]; omega)
              have Hlf := Lib.hid hlf; clear hlf
              have hs9 : w1.heap.size ≤ w9.heap.size := Hbw9.out.size
              go_wp2_with (at_builtin; refine wpList_append_own _ rfl _ _ 48 rfl w1.heap.size 3 i0 (.int .i64 0) 1 8 Tryz.underlying48 hii hz0 hz1 hz2 rfl (by decide) _ _ _ rfl (Hrow9.out.alloc _) ⟨w9.heap.size, 0, none⟩ 1 1 [.int .i64 (p : Int)] rfl rfl (cell_one_new _ _ _) (by simp [Value.oneCell']) (by have := Hlf.out; unfold maxLen; omega) (by have := Hlf.out; omega) (by simp; omega) ?_)
              intro v8 w8 hown8 hg8 _
              have Hb8 := Lib.hid (show Below w1.heap.size w1 w8 from Below.grown (Hbw9.out.alloc hs9 _) hg8 (by simp; omega) (fun j hj => (Hrow9.out.lt j hj).1))
              have Hown8 := Lib.hid (show w8.ownsRow w1.heap.size 3 1 v8 ((B.take (k + 1)).filter (noQ d a c)).length (((B.take (k + 1)).filter (noQ d a c)).map iv) by rw [Hf.out, List.map_append, List.length_append]; exact hown8)
              clear hown8 hg8
              go_wp2
              go_roundw
              case rel => exact ⟨k + 1, by omega, by go_num, Hal2, Hown8, Hb8⟩
              case measure => simp [intOf]; omega
            · have Hf := Lib.hid (Hfn.out (by rw [Hnq.out]; rfl))
              go_wp2
              go_roundw
              case rel => exact ⟨k + 1, by omega, by go_num, Hal2, by rw [Hf.out]; exact Hrow9, Hbw9⟩
              case measure => simp [intOf]; omega
        · obtain rfl : k = B.length := by omega
          have hd : decide ((B.length : Int) < (B.length : Int)) = false := decide_eq_false (by omega)
          have hdn : decide (B.length < B.length) = false := decide_eq_false (by omega)
          have Hv := Lib.hid (Hyes2.out (fun q hq => Hal.out q (by rw [List.take_length]; exact hq)))
          rw [List.take_length] at Hrow
          obtain ⟨A9, c9, hrf, hr9⟩ := rd_own1 Hrow.out rfl
          subst hrf
          have Hr9 := Lib.hid hr9; clear hr9
          go_wp2
          exact bodyPost_ret (v := .tuple #[.slice A9 (B.filter (noQ d a c)).length c9, .bool true]) (by simp [results, Tryz.results73, go_sem]) rfl ⟨by rw [Hv.out]; exact ⟨_, _, rfl, Hr9.out⟩, bthen Hb1.out Hbw.out⟩
end
section
open Go Go.RowKit Go.Lib

def mulL (p : Int) (acc : List Int) : List Int := acc.map (· * p)
/-- The program's list, unsorted. -/
def dvL : List Int → List Int → List Int
  | [], acc => acc
  | p :: ps, acc => dvL ps (acc ++ mulL p acc)
/-- The reference's list. -/
def dvS : List Int → List Int → List Int
  | [], acc => acc
  | p :: ps, acc => dvS ps (putL acc (mulL p acc))
def dvV (n : Int) : List Int := srI (dvL (prV n.natAbs) [-1, 1])
theorem dvS_inc : ∀ {ps acc : List Int}, Inc acc → Inc (dvS ps acc)
  | [], _, h => h
  | p :: ps, acc, h => dvS_inc (ps := ps) (acc := putL acc (mulL p acc)) (putL_inc h)
theorem mem_dvS {x : Int} : ∀ {ps acc acc' : List Int}, (∀ y, y ∈ acc ↔ y ∈ acc') → (x ∈ dvS ps acc ↔ x ∈ dvL ps acc')
  | [], _, _, h => h x
  | p :: ps, acc, acc', h => by
    refine mem_dvS (ps := ps) (fun y => ?_)
    rw [mem_putL, List.mem_append, h]
    have : y ∈ mulL p acc ↔ y ∈ mulL p acc' := by
      unfold mulL
      rw [List.mem_map, List.mem_map]
      exact ⟨fun ⟨z, hz, e⟩ => ⟨z, (h z).1 hz, e⟩, fun ⟨z, hz, e⟩ => ⟨z, (h z).2 hz, e⟩⟩
    rw [this]
/-- Primes that are told, in increasing order. -/
structure Prs (ps : List Int) : Prop where
  pr : ∀ q ∈ ps, ∃ p : Nat, q = (p : Int) ∧ PrN p
  inc : Inc ps
theorem Prs.tail {q : Int} {ps : List Int} (h : Prs (q :: ps)) : Prs ps := ⟨fun x hx => h.pr x (List.mem_cons_of_mem _ hx), (List.pairwise_cons.1 h.inc).2⟩
theorem prV_prs {n : Nat} (hn : 0 < n) : Prs (prV n) := by
  refine ⟨fun q hq => ?_, ?_⟩
  · obtain ⟨p, h1, h2, -⟩ := prV_pr hn hq
    exact ⟨p, h1, h2⟩
  · unfold Inc prV pfL
    rw [List.pairwise_map]
    exact (facF_two hn).2.imp (fun h => by omega)
/-- Squarefree. -/
def Sqf (x : Int) : Prop := x ≠ 0 ∧ ∀ q : Nat, 2 ≤ q → ¬ (q * q ∣ x.natAbs)
theorem sqf_one : Sqf 1 := ⟨by decide, fun q hq h => by
  have := Nat.le_of_dvd (by decide) h
  have := Nat.mul_le_mul hq hq
  simp at *; omega⟩
theorem sqf_neg {x : Int} (h : Sqf x) : Sqf (-x) := ⟨by have := h.1; omega, fun q hq hd => h.2 q hq (by rwa [Int.natAbs_neg] at hd)⟩
theorem PrN.dvd_cases {p g : Nat} (h : PrN p) (hg : g ∣ p) : g = 1 ∨ g = p := by
  have hp := h.1
  have h1 := Nat.le_of_dvd (by omega) hg
  rcases Nat.lt_or_ge g p with h2 | h2
  · rcases Nat.lt_or_ge g 2 with h3 | h3
    · have : 0 < g := Nat.pos_of_dvd_of_pos hg (by omega)
      exact .inl (by omega)
    · exact absurd hg (h.2 g h3 h2)
  · exact .inr (by omega)
theorem cop_one {a b k : Nat} (hc : Nat.Coprime a b) (h1 : k ∣ a) (h2 : k ∣ b) : k = 1 := by
  have := Nat.dvd_gcd h1 h2
  rw [show Nat.gcd a b = 1 from hc] at this
  exact Nat.dvd_one.1 this
theorem inc_start : Inc [-1, 1] := by unfold Inc; decide
theorem sqf_mul {p : Nat} {x : Int} (hp : PrN p) (hc : Nat.Coprime p x.natAbs) (h : Sqf x) : Sqf (x * (p : Int)) := by
  have hp2 := hp.1
  refine ⟨Int.mul_ne_zero h.1 (by omega), fun q hq hd => ?_⟩
  rw [Int.natAbs_mul, Int.natAbs_natCast] at hd
  rcases hp.dvd_cases (Nat.gcd_dvd_right q p) with h1 | h1
  · have h2 : Nat.Coprime (q * q) p := Nat.Coprime.mul_left h1 h1
    exact h.2 q hq (h2.dvd_of_dvd_mul_right hd)
  · have h2 : p ∣ q := by rw [← h1]; exact Nat.gcd_dvd_left q p
    have h3 : p * p ∣ x.natAbs * p := Nat.dvd_trans (Nat.mul_dvd_mul h2 h2) hd
    have h4 : p ∣ x.natAbs := Nat.dvd_of_mul_dvd_mul_right (by omega) h3
    have h5 := cop_one hc (Nat.dvd_refl p) h4
    omega
/-- What is told of the list: squarefree numbers that are prime to what is left, no doubles. -/
structure Dvs (ps acc : List Int) : Prop where
  nd : acc.Nodup
  sq : ∀ x ∈ acc, Sqf x
  cop : ∀ x ∈ acc, ∀ q ∈ ps, Nat.Coprime q.natAbs x.natAbs
theorem Dvs.step {p : Int} {ps acc : List Int} (hp : Prs (p :: ps)) (h : Dvs (p :: ps) acc) : Dvs ps (acc ++ mulL p acc) := by
  obtain ⟨q, rfl, hq⟩ := hp.pr p (List.mem_cons_self ..)
  have hq2 := hq.1
  have hmem : ∀ x ∈ mulL (q : Int) acc, ∃ y ∈ acc, x = y * (q : Int) := by
    intro x hx
    unfold mulL at hx
    obtain ⟨y, hy, rfl⟩ := List.mem_map.1 hx
    exact ⟨y, hy, rfl⟩
  refine ⟨?_, ?_, ?_⟩
  · rw [List.nodup_append]
    refine ⟨h.nd, ?_, fun x hx y hy => ?_⟩
    · unfold mulL
      exact List.Pairwise.map _ (fun x y hxy e => hxy (Int.eq_of_mul_eq_mul_right (by omega) e)) h.nd
    · rintro rfl
      obtain ⟨z, hz, rfl⟩ := hmem x hy
      have h1 := h.cop _ hx _ (List.mem_cons_self ..)
      rw [Int.natAbs_natCast, Int.natAbs_mul, Int.natAbs_natCast] at h1
      have h2 := cop_one h1 (Nat.dvd_refl q) (Nat.dvd_mul_left q _)
      omega
  · intro x hx
    rcases List.mem_append.1 hx with hx | hx
    · exact h.sq x hx
    · obtain ⟨z, hz, rfl⟩ := hmem x hx
      have h1 := h.cop z hz _ (List.mem_cons_self ..)
      rw [Int.natAbs_natCast] at h1
      exact sqf_mul hq h1 (h.sq z hz)
  · intro x hx r hr
    have hr' := h.cop
    rcases List.mem_append.1 hx with hx | hx
    · exact h.cop x hx r (List.mem_cons_of_mem _ hr)
    · obtain ⟨z, hz, rfl⟩ := hmem x hx
      rw [Int.natAbs_mul, Int.natAbs_natCast]
      refine Nat.Coprime.mul_right (h.cop z hz r (List.mem_cons_of_mem _ hr)) ?_
      obtain ⟨r', rfl, hr2⟩ := hp.pr r (List.mem_cons_of_mem _ hr)
      have hlt := (List.pairwise_cons.1 hp.inc).1 _ hr
      rw [Int.natAbs_natCast]
      exact hr2.cop (by omega) (by omega)
theorem Dvs.all : ∀ {ps acc : List Int}, Prs ps → Dvs ps acc → (dvL ps acc).Nodup ∧ ∀ x ∈ dvL ps acc, Sqf x
  | [], _, _, h => ⟨h.nd, h.sq⟩
  | p :: ps, acc, hp, h => Dvs.all (ps := ps) (acc := acc ++ mulL p acc) hp.tail (h.step hp)
theorem dvs_start (ps : List Int) : Dvs ps [-1, 1] := by
  refine ⟨by decide, fun x hx => ?_, fun x hx q _ => ?_⟩
  · rcases List.mem_cons.1 hx with rfl | hx
    · exact sqf_neg sqf_one
    · rw [List.mem_singleton.1 hx]; exact sqf_one
  · rcases List.mem_cons.1 hx with rfl | hx
    · exact Nat.coprime_one_right _
    · rw [List.mem_singleton.1 hx]; exact Nat.coprime_one_right _
theorem dv_eq {n : Int} (hn : n ≠ 0) : dvS (prV n.natAbs) [-1, 1] = dvV n := by
  have h := Dvs.all (prV_prs (n := n.natAbs) (by omega)) (dvs_start _)
  refine inc_eq (dvS_inc inc_start) (srI_inc h.1) (fun x => ?_)
  unfold dvV
  rw [mem_srI]
  exact mem_dvS (fun y => Iff.rfl)
theorem dv_inc {n : Int} (hn : n ≠ 0) : Inc (dvV n) := by rw [← dv_eq hn]; exact dvS_inc inc_start
theorem dv_sqf {n : Int} (hn : n ≠ 0) {x : Int} (hx : x ∈ dvV n) : Sqf x := by
  unfold dvV at hx
  rw [mem_srI] at hx
  exact (Dvs.all (prV_prs (n := n.natAbs) (by omega)) (dvs_start _)).2 x hx
/-! ### Bounds and divisibility -/
def prodI : List Int → Int
  | [] => 1
  | p :: ps => p * prodI ps
/-- Each x of acc times what is left divides n. -/
theorem dvL_dvd {n : Int} : ∀ {ps acc : List Int}, (∀ x ∈ acc, x * prodI ps ∣ n) → ∀ x ∈ dvL ps acc, x ∣ n
  | [], acc, h, x, hx => by have := h x hx; rwa [prodI, Int.mul_one] at this
  | p :: ps, acc, h, x, hx => by
    refine dvL_dvd (ps := ps) (acc := acc ++ mulL p acc) (fun y hy => ?_) x hx
    rcases List.mem_append.1 hy with hy | hy
    · have h1 := h y hy
      rw [prodI] at h1
      exact Int.dvd_trans ⟨p, by rw [Int.mul_assoc, Int.mul_comm (prodI ps)]⟩ h1
    · unfold mulL at hy
      obtain ⟨z, hz, rfl⟩ := List.mem_map.1 hy
      have h1 := h z hz
      rwa [prodI, ← Int.mul_assoc] at h1
theorem prod_dvd : ∀ (l : List (Nat × Nat)), (∀ x ∈ l, 0 < x.2) → prodI (l.map (fun x => (x.1 : Int))) ∣ ((prL l : Nat) : Int)
  | [], _ => Int.dvd_refl _
  | x :: l, h => by
    rw [List.map_cons, prodI, prL_cons, Int.natCast_mul]
    have h1 := prod_dvd l (fun y hy => h y (List.mem_cons_of_mem _ hy))
    have h2 : (x.1 : Int) ∣ ((x.1 ^ x.2 : Nat) : Int) := Int.natCast_dvd_natCast.2 (by
      obtain ⟨j, hj⟩ : ∃ j, x.2 = j + 1 := ⟨x.2 - 1, by have := h x (List.mem_cons_self ..); omega⟩
      rw [hj, Nat.pow_succ]; exact Nat.dvd_mul_left _ _)
    exact Int.mul_dvd_mul h2 h1
theorem pr_dvd {n : Int} (hn : n ≠ 0) : prodI (prV n.natAbs) ∣ n := by
  have h1 := prod_dvd (facF 2 n.natAbs) (fun x hx => ((facF_two (n := n.natAbs) (by omega)).1 x hx).2.2.2.2)
  rw [prL_fac 2 n.natAbs (by omega) (by omega)] at h1
  exact Int.dvd_natAbs.1 h1
theorem dv_dvd {n : Int} (hn : n ≠ 0) {x : Int} (hx : x ∈ dvV n) : x ∣ n := by
  unfold dvV at hx
  rw [mem_srI] at hx
  refine dvL_dvd (fun y hy => ?_) x hx
  rcases List.mem_cons.1 hy with rfl | hy
  · rw [show (-1 : Int) * prodI (prV n.natAbs) = -prodI (prV n.natAbs) by omega, Int.neg_dvd]; exact pr_dvd hn
  · rw [List.mem_singleton.1 hy, Int.one_mul]; exact pr_dvd hn
theorem dv_le {n : Int} (hn : n ≠ 0) {x : Int} (hx : x ∈ dvV n) : x ≠ 0 ∧ x.natAbs ≤ n.natAbs := by
  refine ⟨(dv_sqf hn hx).1, Nat.le_of_dvd (by omega) (Int.natAbs_dvd_natAbs.2 (dv_dvd hn hx))⟩
theorem length_dvL : ∀ (ps acc : List Int), (dvL ps acc).length = acc.length * 2 ^ ps.length
  | [], acc => by simp [dvL]
  | p :: ps, acc => by
    rw [dvL, length_dvL ps, List.length_append, List.length_cons, Nat.pow_succ]
    unfold mulL
    rw [List.length_map, ← Nat.mul_two, Nat.mul_assoc, Nat.mul_comm 2]
theorem two_pow_prod : ∀ {ps : List Int}, (∀ q ∈ ps, 2 ≤ q) → (2 : Int) ^ ps.length ≤ prodI ps ∧ 0 < prodI ps
  | [], _ => by simp [prodI]
  | p :: ps, h => by
    obtain ⟨h1, h2⟩ := two_pow_prod (ps := ps) (fun q hq => h q (List.mem_cons_of_mem _ hq))
    have h3 := h p (List.mem_cons_self ..)
    refine ⟨?_, Int.mul_pos (by omega) h2⟩
    rw [List.length_cons, prodI, Int.pow_succ, Int.mul_comm]
    exact Int.mul_le_mul h3 h1 (Int.pow_nonneg (by omega)) (by omega)
theorem prV_two {n : Nat} (hn : 0 < n) : ∀ q ∈ prV n, 2 ≤ q := fun q hq => by
  obtain ⟨p, rfl, h, -⟩ := prV_pr hn hq
  have := h.1; omega
theorem length_prV {n : Nat} (hn : 0 < n) (k : Nat) : 2 ^ ((prV n).take k).length ≤ n := by
  have h1 := (two_pow_prod (prV_two hn)).1
  have h2 := Int.le_of_dvd (by omega) (show prodI (prV n) ∣ ((n : Nat) : Int) from by have := pr_dvd (n := (n : Int)) (by omega); rwa [Int.natAbs_natCast] at this)
  have h3 : ((2 ^ (prV n).length : Nat) : Int) ≤ (n : Int) := by rw [Int.natCast_pow, show ((2 : Nat) : Int) = 2 from rfl]; omega
  have h4 : 2 ^ ((prV n).take k).length ≤ 2 ^ (prV n).length := Nat.pow_le_pow_right (by omega) (by rw [List.length_take]; omega)
  omega
end
section
open Go Go.RowKit Go.Lib

theorem dvS_app : ∀ (ps qs acc : List Int), dvS (ps ++ qs) acc = dvS qs (dvS ps acc)
  | [], _, _ => rfl
  | p :: ps, qs, acc => dvS_app ps qs (putL acc (mulL p acc))
theorem dvL_app : ∀ (ps qs acc : List Int), dvL (ps ++ qs) acc = dvL qs (dvL ps acc)
  | [], _, _ => rfl
  | p :: ps, qs, acc => dvL_app ps qs (acc ++ mulL p acc)
theorem dvL_sub : ∀ {ps acc : List Int} {x : Int}, x ∈ acc → x ∈ dvL ps acc
  | [], _, _, h => h
  | p :: ps, acc, _, h => dvL_sub (ps := ps) (acc := acc ++ mulL p acc) (List.mem_append.2 (.inl h))
theorem mul_bd2 (a b A B : Int) (h1 : -A ≤ a) (h2 : a ≤ A) (h3 : 0 ≤ b) (h4 : b ≤ B) : -(A * B) ≤ a * b ∧ a * b ≤ A * B := mul_bd a b A B h1 h2 (by omega) h4
def skS (n : Int) (k : Nat) : List Int := dvS ((prV n.natAbs).take k) [-1, 1]
def skL (n : Int) (k : Nat) : List Int := dvL ((prV n.natAbs).take k) [-1, 1]
theorem skS_step {n : Int} {k : Nat} (h : k < (prV n.natAbs).length) : skS n (k + 1) = putL (skS n k) (mulL (prV n.natAbs)[k] (skS n k)) := by
  unfold skS
  rw [List.take_succ_eq_append_getElem h, dvS_app]; rfl
theorem skL_step {n : Int} {k : Nat} (h : k < (prV n.natAbs).length) : skL n (k + 1) = skL n k ++ mulL (prV n.natAbs)[k] (skL n k) := by
  unfold skL
  rw [List.take_succ_eq_append_getElem h, dvL_app]; rfl
theorem mem_sk {n x : Int} {k : Nat} : x ∈ skS n k ↔ x ∈ skL n k := mem_dvS (fun _ => Iff.rfl)
structure SkB (n : Int) (k : Nat) : Prop where
  el : ∀ x ∈ skL n k, x.natAbs ≤ n.natAbs
  el2 : ∀ x ∈ skS n k, x.natAbs ≤ n.natAbs
  pos : 0 < (skL n k).length
  len : (skL n k).length ≤ 2 * n.natAbs
  pos2 : 0 < (skS n k).length
  len2 : (skS n k).length ≤ 2 * n.natAbs
theorem sk_b {n : Int} (hn : n ≠ 0) (k : Nat) : SkB n k := by
  have h1 : ∀ x ∈ skL n k, x.natAbs ≤ n.natAbs := fun x hx => by
    refine (dv_le hn (x := x) ?_).2
    unfold dvV
    rw [mem_srI, ← List.take_append_drop k (prV n.natAbs), dvL_app]
    exact dvL_sub hx
  have h2 : (skL n k).length = 2 * 2 ^ ((prV n.natAbs).take k).length := by unfold skL; rw [length_dvL]; rfl
  have h3 := length_prV (n := n.natAbs) (by omega) k
  have h4 : Inc (skS n k) := dvS_inc inc_start
  have h5 := len_sub h4.nodup (fun x hx => mem_sk.1 hx)
  have h6 : 0 < 2 ^ ((prV n.natAbs).take k).length := Nat.pow_pos (by omega)
  have h7 : (1 : Int) ∈ skS n k := mem_sk.2 (dvL_sub (by simp))
  exact ⟨h1, fun x hx => h1 x (mem_sk.1 hx), by omega, by omega, List.length_pos_of_mem h7, by omega⟩
theorem fc_pr {N k : Nat} (h : k < (facF 2 N).length) : (prV N)[k]'(by rw [pr_len]; exact h) = ((facF 2 N)[k].1 : Int) := by simp [prV, pfL]
theorem mulL_get {p : Int} {l : List Int} {j : Nat} (h : j < l.length) : (mulL p l)[j]'(by unfold mulL; rw [List.length_map]; exact h) = l[j] * p := by simp [mulL]
theorem length_mulL (p : Int) (l : List Int) : (mulL p l).length = l.length := by unfold mulL; rw [List.length_map]
theorem mulL_put {p : Int} {l : List Int} {j : Nat} (h : j < l.length) : putL l ((mulL p l).take (j + 1)) = putI (l[j] * p) (putL l ((mulL p l).take j)) := by
  rw [putL_take (by rw [length_mulL]; exact h), mulL_get h]
theorem mulL_app {p : Int} {l : List Int} {j : Nat} (h : j < l.length) : (mulL p l).take (j + 1) = (mulL p l).take j ++ [l[j] * p] := by
  rw [List.take_succ_eq_append_getElem (by rw [length_mulL]; exact h), mulL_get h]
theorem pr_bd {N k : Nat} (hN : 0 < N) (h : k < (prV N).length) : 2 ≤ (prV N)[k] ∧ (prV N)[k] ≤ (N : Int) := by
  obtain ⟨p, h1, h2, h3⟩ := prV_pr hN (List.getElem_mem h)
  have := h2.1
  have := Nat.le_of_dvd hN h3
  omega
/-- A list that is read stays behind an append onto another row. -/
theorem rd_grown {w w' : World} {hi : Nat} {A : Option Addr} {n c : Nat} {xs : List Int} {row : Option Nat} (h : Rd inS w hi (.slice A n c) xs) (hg : w.grownBy w' row) (hhi : hi ≤ w.heap.size) (hne : ∀ g off, A = some ⟨g, off, none⟩ → row ≠ some g) : Rd inS w' hi (.slice A n c) xs := by
  obtain ⟨A', c', e, hc, hm, hA⟩ := h
  refine ⟨A', c', e, hc, hm, fun h0 => ?_⟩
  obtain ⟨g, off, h1, h2, h3⟩ := hA h0
  refine ⟨g, off, h1, h2, fun k hk j hj => ?_⟩
  have hA2 : A = some ⟨g, off, none⟩ := by cases e; exact h1
  rw [← h3 k hk j hj]
  have hb := hg.block g (by omega) (fun e => hne g off hA2 e.symm)
  simp only [World.cell?, hb]
set_option linter.unusedSimpArgs false in
set_option linter.unusedVariables false in
set_option maxRecDepth 8000 in
set_option maxHeartbeats 8000000 in
theorem tcDivisors_any (n : Int) (w : World) (h0 : n ≠ 0) (hn : n.natAbs ≤ 1000000) :
    Calls Tryz.prog 81 #[.int .i64 n] w fun e w' => RdR (dvV n) e w' ∧ Below w.heap.size w w' := by
  have Hsk := Lib.hid (sk_b h0)
  have Hend := Lib.hid (show skS n (prV n.natAbs).length = dvV n by unfold skS; rw [List.take_length]; exact dv_eq h0)
  have Hst := Lib.hid (fun k h => skS_step (n := n) (k := k) h)
  obtain ⟨N, hN⟩ : ∃ N, n.natAbs = N := ⟨_, rfl⟩
  have HN := Lib.hid (show 0 < N ∧ N ≤ 1000000 by omega)
  have HNn := Lib.hid hN
  have Hab := Lib.hid (show ∀ w9, Calls Tryz.prog 92 #[.int .i64 n] w9 fun e w' => e = .returned (.int .i64 (N : Int)) ∧ w9 = w' from fun w9 => by have h9 := l1AbsB_any n w9 (by omega); rwa [max_abs, hN] at h9)
  rw [hN] at Hend Hst
  clear h0 hn hN
  go_enter Tryz.func81, Tryz.ntmps81
  go_wp2_with fail
  refine (Hab.out _).mono ?_; rintro e w2 ⟨rfl, rfl⟩
  have Hb0 := Lib.hid (show Below w.heap.size w (w.alloc (Obj.cells #[.int .i64 (-1), .int .i64 1] 3)) from bal (Below.refl _ _) _)
  have HR0 := Lib.hid (show Rd inS (w.alloc (Obj.cells #[.int .i64 (-1), .int .i64 1] 3)) (w.alloc (Obj.cells #[.int .i64 (-1), .int .i64 1] 3)).heap.size (.slice (some ⟨w.heap.size, 0, none⟩) 2 2) [-1, 1] from
    ⟨_, _, rfl, Nat.le_refl _, by unfold maxLen; omega, fun _ => ⟨w.heap.size, 0, rfl, by simp, fun k hk j hj => by
      obtain rfl : j = 0 := by simpa [inS] using hj
      match k, hk with
      | 0, _ => exact (Blk.new w 3 #[.int .i64 (-1), .int .i64 1]).cell 0
      | 1, _ => exact (Blk.new w 3 #[.int .i64 (-1), .int .i64 1]).cell 1⟩⟩)
  go_wp2_with fail
  refine (mdFactors_any N _ HN.out.1 (by have := HN.out; omega)).mono ?_; rintro e w3 ⟨⟨v, rfl, hr⟩, hb3⟩
  have Hb3 := Lib.hid (bthen Hb0.out hb3); have HR3 := Lib.hid (HR0.out.on hb3); clear hb3 Hb0 HR0
  obtain ⟨A2, c2, rfl, hlm⟩ := hr.form9
  have Hr := Lib.hid hr; clear hr
  have Hlen := Lib.hid (fc_len2 (N := N))
  obtain ⟨L, hL⟩ : ∃ L, (fcV N).length = L := ⟨_, rfl⟩
  rw [hL] at Hlen Hr hlm ⊢
  have HL := Lib.hid hL; clear hL
  go_wp2
  go_loopw [3, 14] (fun o i wr => ∃ (k : Nat) (X : List Int) (A : Option Addr) (cp : Nat), k ≤ L ∧ i = .int .i64 (k : Int) ∧ o = .slice A X.length cp ∧ Hid (X = skS n k) ∧ Hid (Rd inS wr wr.heap.size (.slice A X.length cp) X) ∧ Hid (NRd wr wr.heap.size (.slice A2 L c2) (fcV N)) ∧ Hid (Below w.heap.size w wr)) (fun _ i _ => L - (intOf i).toNat)
  case atStart => exact ⟨0, [-1, 1], _, _, Nat.zero_le _, rfl, rfl, Lib.hid rfl, HR3, Hr, Hb3⟩
  case round =>
    obtain ⟨k, X, A, cp, hk, rfl, rfl, HX, HR, Hr, Hb⟩ := hrel
    clear HR3 Hb3
    have hk0 : (0 : Int) ≤ (k : Int) := by omega
    by_cases hlt : k < L
    · have hkl : k < (facF 2 N).length := by rw [← Hlen.out]; exact hlt
      have hkp : k < (prV N).length := by rw [pr_len]; exact hkl
      have Hstk := Lib.hid (Hst.out k hkp)
      have Hpb := Lib.hid (pr_bd HN.out.1 hkp)
      have hd : decide ((k : Int) < (L : Int)) = true := decide_eq_true (by omega)
      have hdn : decide (k < L) = true := decide_eq_true hlt
      have hk1 : (k : Int) < (L : Int) := by omega
      obtain ⟨g, off, A1, c1, rfl, hg, f0, hrw⟩ := NRd.row9 (k := k) (by rw [HL.out]; exact Hr.out) (by rw [HL.out]; exact hlt)
      have Hfp := Lib.hid (fc_pr hkl)
      rw [fc_at hkl] at f0 hrw
      rw [Hfp.out] at Hstk Hpb
      generalize (facF 2 N)[k] = x at f0 hrw Hstk Hpb
      obtain ⟨q, e⟩ := x
      obtain ⟨g8, o8, h8, hg8, hc8⟩ := hrw.in9 (k := 0) (by simp)
      subst h8
      have HF := Lib.hid (hrw)
      clear hc8 hrw
      have hl2 : [(q : Int), (e : Int)].length = 2 := rfl
      rw [hl2] at f0
      clear hl2
      dsimp only at Hstk Hpb
      have Hbb := Lib.hid (Hsk.out k)
      have hXl : X.length ≤ 2000000 := by have h1 := Hbb.out.len2; rw [HNn.out, ← HX.out] at h1; have := HN.out; omega
      have Hel := Lib.hid (show ∀ x ∈ X, x.natAbs ≤ 1000000 from fun x hx => by have h1 := Hbb.out.el2 x (by rw [← HX.out]; exact hx); rw [HNn.out] at h1; have := HN.out; omega)
      have HXp := Lib.hid (show 0 < X.length from by rw [HX.out]; exact Hbb.out.pos2)
      go_wp2
      have hr0 := HR; have hn0 := Hr; have hf0 := HF; have hb0 := Hb; clear HR Hr HF Hb f0 hg hg8
      go_loopw [6, 21] (fun o i wr => ∃ (j : Nat) (m : List Int) (A9 : Option Addr) (cp9 : Nat), j ≤ X.length ∧ i = .int .i64 (j : Int) ∧ o = .slice A9 m.length cp9 ∧ Hid (m = putL X ((mulL (q : Int) X).take j)) ∧ Hid (Rd inS wr wr.heap.size (.slice A9 m.length cp9) m) ∧ Hid (Rd inS wr wr.heap.size (.slice A X.length cp) X) ∧ Hid (Rd inS wr wr.heap.size (.slice (some ⟨g8, o8, none⟩) 2 c1) [(q : Int), (e : Int)]) ∧ Hid (NRd wr wr.heap.size (.slice (some ⟨g, off, none⟩) L c2) (fcV N)) ∧ Hid (Below w.heap.size w wr)) (fun _ i _ => X.length - (intOf i).toNat)
      case atStart => exact ⟨0, X, A, cp, Nat.zero_le _, rfl, rfl, Lib.hid rfl, hr0, hr0, hf0, hn0, hb0⟩
      case round =>
        obtain ⟨j, m, A9, cp9, hj, rfl, rfl, Hm, HRm, HR, HF, Hr, Hb⟩ := hrel
        clear hr0 hn0 hf0 hb0
        by_cases hjl : j < X.length
        · obtain ⟨-, -, -, -, hC⟩ := rd_cells HR.out
          obtain ⟨ga, offa, rfl, hga⟩ := rd_addr HR.out (by omega)
          have hc1 := hC ga offa rfl j hjl
          clear hC
          rw [List.getD_eq_getElem?_getD, List.getElem?_eq_getElem hjl, Option.getD_some] at hc1
          obtain ⟨-, -, -, -, hC⟩ := rd_cells HF.out
          have t0 := hC g8 o8 rfl 0 (by simp)
          simp at t0
          clear hC
          obtain ⟨gb, ob, hgb1, hg8⟩ := rd_addr HF.out (by simp)
          cases hgb1
          have Hmem := Lib.hid (Hel.out _ (List.getElem_mem hjl))
          have Hmu := Lib.hid (mulL_put (p := (q : Int)) hjl)
          generalize X[j] = x at hc1 Hmem Hmu
          have hd2 : decide ((j : Int) < (X.length : Int)) = true := decide_eq_true (by omega)
          have hd2n : decide (j < X.length) = true := decide_eq_true hjl
          have hj0 : (0 : Int) ≤ (j : Int) := by omega
          have hj1 : (j : Int) < (X.length : Int) := by omega
          have hmb := mul_bd2 x (q : Int) 1000000 1000000 (by have := Hmem.out; omega) (by have := Hmem.out; omega) (by have := Hpb.out; omega) (by have := Hpb.out; have := HN.out; omega)
          obtain ⟨u1, u2⟩ := hmb
          have Hml := Lib.hid (show 0 < m.length ∧ m.length ≤ 1000000000 by
            rw [Hm.out]
            refine ⟨putL_pos HXp.out _, ?_⟩
            have h1 := length_putL ((mulL (q : Int) X).take j) X
            rw [List.length_take, length_mulL] at h1; omega)
          have Hpu := Lib.hid (fun w9 h9 => l1PutI_any A9 cp9 m (x * (q : Int)) w9 h9 Hml.out.1 Hml.out.2)
          go_wp2_with fail
          refine (Hpu.out _ HRm.out).mono ?_; rintro e9 w4 ⟨⟨A4, c4, rfl, hr4⟩, hb4⟩
          have Hb4 := Lib.hid (bthen Hb.out hb4); have HF4 := Lib.hid (HF.out.on hb4); have Hr4 := Lib.hid (Hr.out.on hb4); have HR4 := Lib.hid (HR.out.on hb4); have HM4 := Lib.hid hr4
          clear hb4 hr4 hc1 t0 hga hg8
          go_wp2
          go_roundw
          case rel => exact ⟨j + 1, _, A4, c4, by omega, by go_num, rfl, Lib.hid (by rw [Hmu.out, Hm.out]), HM4, HR4, HF4, Hr4, Hb4⟩
          case measure => simp [intOf]; omega
        · obtain rfl : j = X.length := by omega
          have hd2 : decide ((X.length : Int) < (X.length : Int)) = false := decide_eq_false (by omega)
          have hd2n : decide (X.length < X.length) = false := decide_eq_false (by omega)
          have Hnx := Lib.hid (show m = skS n (k + 1) by rw [Hm.out, Hstk.out, ← HX.out, List.take_of_length_le (by rw [length_mulL]; exact Nat.le_refl _)])
          go_wp2
          go_roundw
          case rel => exact ⟨k + 1, m, A9, cp9, by omega, by go_num, rfl, Hnx, HRm, Hr, Hb⟩
          case measure => simp [intOf]; omega
    · obtain rfl : k = L := by omega
      have hd : decide ((k : Int) < (k : Int)) = false := decide_eq_false (by omega)
      have hdn : decide (k < k) = false := decide_eq_false (by omega)
      have Hfin := Lib.hid (show X = dvV n by rw [HX.out, ← Hend.out, pr_len, ← Hlen.out])
      go_wp2
      go_ret
      exact ⟨by rw [← Hfin.out]; exact ⟨_, _, rfl, HR.out⟩, Hb.out⟩
end
section
open Go Go.RowKit Go.Lib

set_option linter.unusedSimpArgs false in
set_option linter.unusedVariables false in
set_option maxRecDepth 8000 in
set_option maxHeartbeats 8000000 in
theorem sqDivisors_any (n : Int) (w : World) (h0 : n ≠ 0) (hn : n.natAbs ≤ 1000000) :
    Calls Tryz.prog 71 #[.int .i64 n] w fun e w' => RdR (dvV n) e w' ∧ Below w.heap.size w w' := by
  obtain ⟨i0, hii, hz0, hz1, hz2⟩ := info_parts infoIntC
  have Hsk := Lib.hid (sk_b h0)
  have Hend := Lib.hid (show srI (skL n (prV n.natAbs).length) = dvV n by unfold skL; rw [List.take_length]; rfl)
  have Hst := Lib.hid (fun k h => skL_step (n := n) (k := k) h)
  have Hpr := Lib.hid (fun w9 => primesOf_any n w9 h0 (by omega))
  have Hpl := Lib.hid (pf_len n.natAbs)
  have Hpb := Lib.hid (fun k h => pr_bd (N := n.natAbs) (k := k) (by omega) h)
  have HN := Lib.hid (show n.natAbs ≤ 1000000 from hn)
  generalize prV n.natAbs = P at *
  have hPl : P.length ≤ 1000000 := by have := Hpl.out; have := HN.out; omega
  clear h0 hn
  go_enter Tryz.func71, Tryz.ntmps71
  have Hb0 := Lib.hid (show Below w.heap.size w (w.alloc (Obj.cells #[.int .i64 (-1), .int .i64 1] 3)) from bal (Below.refl _ _) _)
  have HR0 := Lib.hid (show (w.alloc (Obj.cells #[.int .i64 (-1), .int .i64 1] 3)).ownsRow w.heap.size 3 1 (.slice (some ⟨w.heap.size, 0, none⟩) 2 2) 2 [Value.int .i64 (-1), Value.int .i64 1] from World.ownsRow_lit w #[.int .i64 (-1), .int .i64 1] 2 (by simp) (by unfold maxLen; omega) (by simp))
  go_wp2_with fail
  refine (Hpr.out _).mono ?_; rintro e w3 ⟨⟨v, rfl, hpo⟩, hb3⟩
  obtain ⟨A2, c2, rfl, hrd⟩ := rd_own1 (xs := P) hpo rfl
  have hgt : ∀ g off, A2 = some ⟨g, off, none⟩ → w.heap.size + 1 ≤ g := fun g off hA => by
    subst hA
    rcases own_form1 hpo with ⟨h1, -⟩ | ⟨g', c', h1⟩
    · cases h1
    · cases h1
      have := (hpo.lt g rfl).1; simpa using this
  have Hrd := Lib.hid hrd; have Hne := Lib.hid (show ∀ g off, A2 = some ⟨g, off, none⟩ → w.heap.size ≠ g from fun g off hA e => by have h1 := hgt g off hA; omega)
  have Hb3 := Lib.hid (bthen Hb0.out hb3); have HR3 := Lib.hid (own_below HR0.out hb3); clear hb3 Hb0 HR0 hpo hrd hgt
  go_wp2
  go_loopw [3, 12] (fun o i wr => ∃ (k : Nat) (X : List Int) (gx cx : Nat), k ≤ P.length ∧ i = .int .i64 (k : Int) ∧ o = .slice (some ⟨gx, 0, none⟩) X.length cx ∧ Hid (X = skL n k) ∧ Hid (wr.ownsRow w.heap.size 3 1 (.slice (some ⟨gx, 0, none⟩) X.length cx) X.length (X.map iv)) ∧ Hid (∀ g off, A2 = some ⟨g, off, none⟩ → gx ≠ g) ∧ Hid (Rd inS wr w3.heap.size (.slice A2 P.length c2) P) ∧ Hid (w3.heap.size ≤ wr.heap.size) ∧ Hid (Below w.heap.size w wr)) (fun _ i _ => P.length - (intOf i).toNat)
  case atStart => exact ⟨0, [-1, 1], _, _, Nat.zero_le _, rfl, rfl, Lib.hid rfl, HR3, Hne, Hrd, Lib.hid (Nat.le_refl _), Hb3⟩
  case round =>
    obtain ⟨k, X, gx, cx, hk, rfl, rfl, HX, HR, Hne, Hrd, Hsz, Hb⟩ := hrel
    clear HR3 Hb3
    have Hbb := Lib.hid (Hsk.out k)
    have hXl : X.length ≤ 2000000 := by have h1 := Hbb.out.len; rw [← HX.out] at h1; have := HN.out; omega
    have HXp := Lib.hid (show 0 < X.length from by rw [HX.out]; exact Hbb.out.pos)
    have hk0 : (0 : Int) ≤ (k : Int) := by omega
    by_cases hlt : k < P.length
    · have hd : decide ((k : Int) < (P.length : Int)) = true := decide_eq_true (by omega)
      have hdn : decide (k < P.length) = true := decide_eq_true hlt
      have hk1 : (k : Int) < (P.length : Int) := by omega
      have Hstk := Lib.hid (Hst.out k hlt)
      have Hpk := Lib.hid (Hpb.out k hlt)
      obtain ⟨-, -, -, -, hC⟩ := rd_cells Hrd.out
      obtain ⟨gp, op, hA2, hgp⟩ := rd_addr Hrd.out (by omega)
      have hc1 := hC gp op hA2 k hlt
      clear hC
      rw [List.getD_eq_getElem?_getD, List.getElem?_eq_getElem hlt, Option.getD_some] at hc1
      have hgpw : gp < wr.heap.size := by have := Hsz.out; omega
      generalize P[k] = q at hc1 Hstk Hpk
      cases hA2
      have Hrx := Lib.hid (show Rd inS wr wr.heap.size (.slice (some ⟨gx, 0, none⟩) X.length cx) X from by
        refine Rd.of_own (base := w.heap.size) (e := 3) (S := inS) ?_ rfl
        rw [inS_flat]; exact HR.out)
      have Hcl := Lib.hid (cloneI_any (some ⟨gx, 0, none⟩) cx X wr.heap.size wr Hrx.out HXp.out (by omega))
      have hgxw : gx < wr.heap.size := (HR.out.lt gx rfl).2
      go_wp2_with fail
      refine Hcl.out.mono ?_; rintro e w4 ⟨v', rfl, hv', hb4⟩
      rcases own_form1 hv' with ⟨-, h0⟩ | ⟨gc, cc, rfl⟩
      · have := HXp.out; omega
      · have hgc : wr.heap.size ≤ gc ∧ gc < w4.heap.size := hv'.lt gc rfl
        have Hgc := Lib.hid hgc
        have Hrc := Lib.hid (show Rd inS w4 w4.heap.size (.slice (some ⟨gc, 0, none⟩) X.length cc) X from by
          refine Rd.of_own (base := wr.heap.size) (e := 3) (S := inS) ?_ rfl
          rw [inS_flat]; exact hv')
        have Hne2 := Lib.hid (show gx ≠ gc by omega)
        have Hrd4 := Lib.hid (show Rd inS w4 w3.heap.size _ P from Hrd.out.below (hb4.mono Hsz.out))
        have Hsz4 := Lib.hid (show w3.heap.size ≤ w4.heap.size from Nat.le_trans Hsz.out hb4.size)
        have Hb4 := Lib.hid (bthen Hb.out hb4); have HR4 := Lib.hid (own_below HR.out hb4)
        have Hel := Lib.hid (show ∀ x ∈ X, x.natAbs ≤ 1000000 from fun x hx => by have h1 := Hbb.out.el x (by rw [← HX.out]; exact hx); have := HN.out; omega)
        clear hb4 hv' hgc hc1 hgpw hgp hgxw
        go_wp2
        have hne0 := Hne; have hne1 := Hne2; have hr0 := HR4; have hc0 := Hrc; have hd0 := Hrd4; have hs0 := Hsz4; have hb0 := Hb4; clear Hne Hne2 HR HR4 Hrc Hrd Hrd4 Hsz Hsz4 Hb Hb4 Hrx
        go_loopw [3, 19] (fun o i wr => ∃ (j : Nat) (Y : List Int) (gy cy : Nat), j ≤ X.length ∧ i = .int .i64 (j : Int) ∧ o = .slice (some ⟨gy, 0, none⟩) Y.length cy ∧ Hid (Y = X ++ (mulL q X).take j) ∧ Hid (wr.ownsRow w.heap.size 3 1 (.slice (some ⟨gy, 0, none⟩) Y.length cy) Y.length (Y.map iv)) ∧ Hid (gy ≠ gp) ∧ Hid (gy ≠ gc) ∧ Hid (Rd inS wr w4.heap.size (.slice (some ⟨gc, 0, none⟩) X.length cc) X) ∧ Hid (Rd inS wr w3.heap.size (.slice (some ⟨gp, op, none⟩) P.length c2) P) ∧ Hid (w3.heap.size ≤ w4.heap.size ∧ w4.heap.size ≤ wr.heap.size) ∧ Hid (Below w.heap.size w wr)) (fun _ i _ => X.length - (intOf i).toNat)
        case atStart => exact ⟨0, X, gx, cx, Nat.zero_le _, rfl, rfl, Lib.hid (by rw [List.take_zero, List.append_nil]), hr0, Lib.hid (hne0.out gp op rfl), hne1, hc0, hd0, Lib.hid ⟨hs0.out, Nat.le_refl _⟩, hb0⟩
        case round =>
          obtain ⟨j, Y, gy, cy, hj, rfl, rfl, HY, HR, Hn1, Hn2, Hrc, Hrd, Hsz, Hb⟩ := hrel
          clear hne0 hne1 hr0 hc0 hd0 hs0 hb0
          by_cases hjl : j < X.length
          · obtain ⟨-, -, -, -, hC⟩ := rd_cells Hrc.out
            have hc1 := hC gc 0 rfl j hjl
            clear hC
            rw [List.getD_eq_getElem?_getD, List.getElem?_eq_getElem hjl, Option.getD_some, Nat.zero_add] at hc1
            have hgcw : gc < wr.heap.size := by have := Hgc.out; have := Hsz.out; omega
            have Hmem := Lib.hid (Hel.out _ (List.getElem_mem hjl))
            have Hmu := Lib.hid (mulL_app (p := q) hjl)
            generalize X[j] = x at hc1 Hmem Hmu
            have hd2 : decide ((j : Int) < (X.length : Int)) = true := decide_eq_true (by omega)
            have hd2n : decide (j < X.length) = true := decide_eq_true hjl
            have hj0 : (0 : Int) ≤ (j : Int) := by omega
            have hj1 : (j : Int) < (X.length : Int) := by omega
            have hmb := mul_bd2 x q 1000000 1000000 (by have := Hmem.out; omega) (by have := Hmem.out; omega) (by have := Hpk.out; omega) (by have := Hpk.out; have := HN.out; omega)
            obtain ⟨u1, u2⟩ := hmb
            have Hyl := Lib.hid (show Y.length ≤ 4000000 by rw [HY.out, List.length_append, List.length_take, length_mulL]; omega)
            have hszw : w.heap.size ≤ wr.heap.size := Hb.out.size
            have hsz4 : w4.heap.size ≤ wr.heap.size := Hsz.out.2
            have hsz3 : w3.heap.size ≤ wr.heap.size := by have := Hsz.out; omega
            go_wp2_with (at_builtin; refine wpList_append_srcB rfl _ _ 48 rfl w.heap.size 3 i0 (.int .i64 0) 1 8 Tryz.underlying48 hii hz0 hz1 hz2 rfl (by decide) _ _ _ rfl (HR.out.alloc _) (some ⟨wr.heap.size, 0, none⟩) 1 1 [.int .i64 (x * q)] rfl rfl (fun h => by cases h) (fun a ha j u hj => by cases ha; exact cell_one_new _ _ _ j u hj) (by simp [Value.oneCell']) (by have := Hyl.out; unfold maxLen; omega) (by have := Hyl.out; omega) (by simp; omega) ?_)
            intro v8 w8 hown8 hg8 hob8
            obtain ⟨g8, c8, rfl⟩ := ownsRow_succ hown8
            have hg8' : g8 = gy ∨ g8 = wr.heap.size + 1 := by simpa [Value.ownBlock] using hob8
            have hgp8 : gp < w3.heap.size := by obtain ⟨gq, oq, h1, h2⟩ := rd_addr Hrd.out (by omega); cases h1; exact h2
            have Hrc8 := Lib.hid (rd_grown (Hrc.out.keep (fun p hp => World.cell?_alloc_old _ _ _ (by omega))) hg8 (by simp; omega) (fun g off h e => by cases h; simp [Value.ownBlock] at e; exact Hn2.out e))
            have Hrd8 := Lib.hid (rd_grown (Hrd.out.keep (fun p hp => World.cell?_alloc_old _ _ _ (by omega))) hg8 (by simp; omega) (fun g off h e => by cases h; simp [Value.ownBlock] at e; exact Hn1.out e))
            have Hb8 := Lib.hid (show Below w.heap.size w w8 from Below.grown (Hb.out.alloc hszw _) hg8 (by simp; omega) (fun j hj => (HR.out.lt j hj).1))
            have Hown8 := Lib.hid (show w8.ownsRow w.heap.size 3 1 (.slice (some ⟨g8, 0, none⟩) (Y.length + 1) c8) (Y.length + 1) ((Y ++ [x * q]).map iv) by rw [List.map_append]; exact hown8)
            have Hsz8 := Lib.hid (show w3.heap.size ≤ w4.heap.size ∧ w4.heap.size ≤ w8.heap.size from ⟨Hsz.out.1, by have := hg8.size; simp at this; omega⟩)
            have Hn18 := Lib.hid (show g8 ≠ gp by rcases hg8' with h | h; rw [h]; exact Hn1.out; omega)
            have Hn28 := Lib.hid (show g8 ≠ gc by rcases hg8' with h | h; rw [h]; exact Hn2.out; omega)
            clear hown8 hg8 hob8 hg8' hgp8 hc1 hgcw
            go_wp2
            go_roundw
            case rel => exact ⟨j + 1, Y ++ [x * q], g8, c8, by omega, by go_num, by rw [List.length_append]; rfl, Lib.hid (by rw [Hmu.out, HY.out, List.append_assoc]), by rw [List.length_append]; exact Hown8, Hn18, Hn28, Hrc8, Hrd8, Hsz8, Hb8⟩
            case measure => simp [intOf]; omega
          · obtain rfl : j = X.length := by omega
            have hd2 : decide ((X.length : Int) < (X.length : Int)) = false := decide_eq_false (by omega)
            have hd2n : decide (X.length < X.length) = false := decide_eq_false (by omega)
            have Hnx := Lib.hid (show Y = skL n (k + 1) by rw [HY.out, Hstk.out, ← HX.out, List.take_of_length_le (by rw [length_mulL]; exact Nat.le_refl _)])
            go_wp2
            go_roundw
            case rel => exact ⟨k + 1, Y, gy, cy, by omega, by go_num, rfl, Hnx, HR, Lib.hid (fun g off h => by cases h; exact Hn1.out), Hrd, Lib.hid (by have := Hsz.out; omega), Hb⟩
            case measure => simp [intOf]; omega
    · obtain rfl : k = P.length := by omega
      have hd : decide ((P.length : Int) < (P.length : Int)) = false := decide_eq_false (by omega)
      have hdn : decide (P.length < P.length) = false := decide_eq_false (by omega)
      have Hso := Lib.hid (sortI_any w.heap.size _ X wr HR.out (by omega))
      have Hfin := Lib.hid (show srI X = dvV n by rw [HX.out]; exact Hend.out)
      go_wp2_with fail
      refine Hso.out.mono ?_; rintro e w5 ⟨rfl, hr5, hg5⟩
      rw [Hfin.out] at hr5
      have Hr5 := Lib.hid (RdR.own hr5 rfl)
      have Hb5 := Lib.hid (show Below w.heap.size w w5 from Below.grown Hb.out hg5 Hb.out.size (fun j hj => (HR.out.lt j hj).1))
      clear hr5 hg5
      go_wp2
      go_ret
      exact ⟨Hr5.out, Hb5.out⟩
end
section
open Go Go.RowKit Go.Lib

theorem prn_ex : ∀ (q : Nat), 2 ≤ q → ∃ p, PrN p ∧ p ∣ q := by
  intro q
  induction q using Nat.strongRecOn with
  | ind q ih =>
    intro hq
    rcases Classical.em (NoD q q) with h | h
    · exact ⟨q, ⟨hq, h⟩, Nat.dvd_refl q⟩
    · unfold NoD at h
      rw [Classical.not_forall] at h
      obtain ⟨d, hd⟩ := h
      rw [Classical.not_imp, Classical.not_imp, Classical.not_not] at hd
      obtain ⟨h1, h2, h3⟩ := hd
      obtain ⟨p, hp, hpd⟩ := ih d h2 h1
      exact ⟨p, hp, Nat.dvd_trans hpd h3⟩
theorem sqf_of {x : Int} (h0 : x ≠ 0) (h : ∀ p, PrN p → ¬ (p * p ∣ x.natAbs)) : Sqf x := by
  refine ⟨h0, fun q hq hd => ?_⟩
  obtain ⟨p, hp, hpq⟩ := prn_ex q hq
  exact h p hp (Nat.dvd_trans (Nat.mul_dvd_mul hpq hpq) hd)
theorem sqf_dvd {x y : Int} (h : Sqf x) (hy : y ∣ x) : Sqf y := by
  refine ⟨?_, fun q hq hd => h.2 q hq (Nat.dvd_trans hd (Int.natAbs_dvd_natAbs.2 hy))⟩
  rintro rfl
  exact h.1 (Int.zero_dvd.1 hy)
def IsSq (x : Int) : Prop := ∃ c : Int, x = c * c
theorem IsSq.mul {x y : Int} (h : IsSq x) (k : IsSq y) : IsSq (x * y) := by
  obtain ⟨c, rfl⟩ := h
  obtain ⟨d, rfl⟩ := k
  exact ⟨c * d, by grind⟩
theorem nat_sq_dvd {y z : Nat} (h : y * y ∣ z * z) : y ∣ z := by
  rw [← Nat.pow_two, ← Nat.pow_two] at h
  exact (Nat.pow_dvd_pow_iff (by decide)).1 h
theorem int_sq_dvd {y z : Int} (h : y * y ∣ z * z) : y ∣ z := by
  have := Int.natAbs_dvd_natAbs.2 h
  rw [Int.natAbs_mul, Int.natAbs_mul] at this
  exact Int.natAbs_dvd_natAbs.1 (nat_sq_dvd this)
theorem IsSq.cancel {x y : Int} (h : IsSq (x * (y * y))) (hy : y ≠ 0) : IsSq x := by
  obtain ⟨z, hz⟩ := h
  obtain ⟨c, rfl⟩ := int_sq_dvd (y := y) (z := z) ⟨x, by rw [← hz, Int.mul_comm]⟩
  refine ⟨c, ?_⟩
  have h1 : x * (y * y) = (c * c) * (y * y) := by rw [hz]; grind
  exact Int.eq_of_mul_eq_mul_right (Int.mul_ne_zero hy hy) h1
theorem nat_cop_sq {a b c : Nat} (hc : Nat.Coprime a b) (h : a * b = c * c) : a = Nat.gcd a c * Nat.gcd a c := by
  have h1 : Nat.gcd (a ^ 2) (c ^ 2) = Nat.gcd a c ^ 2 := Nat.pow_gcd_pow
  rw [Nat.pow_two, Nat.pow_two, Nat.pow_two, ← h, Nat.gcd_mul_left, show Nat.gcd a b = 1 from hc, Nat.mul_one] at h1
  exact h1
theorem nat_sqf_eq {a b c : Nat} (ha : 0 < a) (hb : 0 < b) (h1 : ∀ q, 2 ≤ q → ¬ (q * q ∣ a)) (h2 : ∀ q, 2 ≤ q → ¬ (q * q ∣ b)) (h : a * b = c * c) : a = b := by
  obtain ⟨g, a', b', hg, hc, ra, rb⟩ : ∃ g a' b', 0 < g ∧ Nat.Coprime a' b' ∧ a = a' * g ∧ b = b' * g := by
    refine ⟨Nat.gcd a b, a / Nat.gcd a b, b / Nat.gcd a b, Nat.gcd_pos_of_pos_left _ ha, Nat.coprime_div_gcd_div_gcd (Nat.gcd_pos_of_pos_left _ ha), ?_, ?_⟩
    · exact (Nat.div_mul_cancel (Nat.gcd_dvd_left a b)).symm
    · exact (Nat.div_mul_cancel (Nat.gcd_dvd_right a b)).symm
  have hd : g * g ∣ c * c := ⟨a' * b', by rw [← h, ra, rb]; grind⟩
  obtain ⟨c', rfl⟩ := nat_sq_dvd hd
  have he : a' * b' = c' * c' := by
    have : (a' * b') * (g * g) = (c' * c') * (g * g) := by rw [ra, rb] at h; grind
    exact Nat.eq_of_mul_eq_mul_right (Nat.mul_pos hg hg) this
  have one : ∀ {u v : Nat}, Nat.Coprime u v → u * v = c' * c' → (∀ q, 2 ≤ q → ¬ (q * q ∣ u * g)) → 0 < u → u = 1 := by
    intro u v h3 h4 h5 h6
    have h7 := nat_cop_sq h3 h4
    rcases Nat.lt_or_ge (Nat.gcd u c') 2 with h8 | h8
    · have : Nat.gcd u c' = 0 ∨ Nat.gcd u c' = 1 := by omega
      rcases this with h9 | h9
      · rw [h9] at h7; omega
      · rw [h9] at h7; exact h7
    · exact absurd (by rw [← h7]; exact Nat.dvd_mul_right u g) (h5 _ h8)
  have ea := one hc he (by rw [← ra]; exact h1) (Nat.pos_of_ne_zero (by rintro rfl; simp at ra; omega))
  have eb := one hc.symm (by rw [Nat.mul_comm]; exact he) (by rw [← rb]; exact h2) (Nat.pos_of_ne_zero (by rintro rfl; simp at rb; omega))
  rw [ra, rb, ea, eb]
theorem sqf_uniq {a b : Int} (ha : Sqf a) (hb : Sqf b) (h : IsSq (a * b)) : a = b := by
  obtain ⟨c, hc⟩ := h
  have h1 : a.natAbs = b.natAbs := nat_sqf_eq (c := c.natAbs) (by have := ha.1; omega) (by have := hb.1; omega) ha.2 hb.2 (by rw [← Int.natAbs_mul, ← Int.natAbs_mul, hc])
  have h2 : 0 ≤ a * b := by
    rw [hc]
    rcases Int.le_total 0 c with h | h
    · exact Int.mul_nonneg h h
    · have := Int.mul_nonneg (show 0 ≤ -c by omega) (show 0 ≤ -c by omega)
      rwa [Int.neg_mul_neg] at this
  rcases Int.natAbs_eq_natAbs_iff.1 h1 with h3 | h3
  · exact h3
  · exfalso
    rw [h3, Int.neg_mul] at h2
    have h4 : 0 < b * b := by
      rcases Int.lt_trichotomy b 0 with h | h | h
      · have := Int.mul_pos_of_neg_of_neg h h; exact this
      · exact absurd h hb.1
      · exact Int.mul_pos h h
    omega
/-- The product of two classes. -/
def pdV (d e : Int) : Int := d.tdiv (gcdI d e) * e.tdiv (gcdI d e)
structure PdS (d e g d' e' : Int) : Prop where
  g0 : 0 < g
  hd : d = d' * g
  he : e = e' * g
  td : d.tdiv g = d'
  te : e.tdiv g = e'
  co : Nat.Coprime d'.natAbs e'.natAbs
theorem pd_s {d e : Int} (hd : d ≠ 0) : PdS d e (gcdI d e) (d.tdiv (gcdI d e)) (e.tdiv (gcdI d e)) := by
  have h0 : 0 < Nat.gcd d.natAbs e.natAbs := Nat.gcd_pos_of_pos_left _ (by omega)
  have hg : gcdI d e = (Nat.gcd d.natAbs e.natAbs : Nat) := rfl
  have h1 : gcdI d e ∣ d := by rw [hg]; exact Int.ofNat_dvd_left.2 (Nat.gcd_dvd_left _ _)
  have h2 : gcdI d e ∣ e := by rw [hg]; exact Int.ofNat_dvd_left.2 (Nat.gcd_dvd_right _ _)
  refine ⟨by omega, (Int.tdiv_mul_cancel h1).symm, (Int.tdiv_mul_cancel h2).symm, rfl, rfl, ?_⟩
  rw [Int.natAbs_tdiv, Int.natAbs_tdiv, hg, Int.natAbs_natCast]
  exact Nat.coprime_div_gcd_div_gcd h0
theorem pd_isq {d e : Int} (hd : d ≠ 0) : IsSq (pdV d e * (d * e)) := by
  obtain ⟨h0, h1, h2, h3, h4, h5⟩ := pd_s (e := e) hd
  unfold pdV
  generalize gcdI d e = g at *
  generalize d.tdiv g = d' at *
  generalize e.tdiv g = e' at *
  exact ⟨d' * e' * g, by rw [h1, h2]; grind⟩
theorem pd_sqf {d e : Int} (hd : Sqf d) (he : Sqf e) : Sqf (pdV d e) := by
  obtain ⟨h0, h1, h2, h3, h4, h5⟩ := pd_s (e := e) hd.1
  unfold pdV
  generalize gcdI d e = g at *
  generalize d.tdiv g = d' at *
  generalize e.tdiv g = e' at *
  have s1 : Sqf d' := sqf_dvd hd ⟨g, h1⟩
  have s2 : Sqf e' := sqf_dvd he ⟨g, h2⟩
  refine sqf_of (Int.mul_ne_zero s1.1 s2.1) (fun p hp h => ?_)
  rw [Int.natAbs_mul] at h
  have hp2 := hp.1
  rcases hp.dvd_cases (Nat.gcd_dvd_left p d'.natAbs) with h6 | h6
  · have h7 : Nat.Coprime (p * p) d'.natAbs := Nat.Coprime.mul_left h6 h6
    exact s2.2 p hp2 (h7.dvd_of_dvd_mul_left h)
  · have h7 : p ∣ d'.natAbs := by rw [← h6]; exact Nat.gcd_dvd_right _ _
    have h8 : Nat.Coprime p e'.natAbs := Nat.Coprime.coprime_dvd_left h7 h5
    have h9 : Nat.Coprime (p * p) e'.natAbs := Nat.Coprime.mul_left h8 h8
    exact s1.2 p hp2 (h9.dvd_of_dvd_mul_right h)
theorem pd_of {x d e : Int} (hx : Sqf x) (hd : Sqf d) (he : Sqf e) (h : IsSq (x * (d * e))) : pdV d e = x := by
  refine sqf_uniq (pd_sqf hd he) hx ?_
  have h1 := (pd_isq (e := e) hd.1).mul h
  refine IsSq.cancel (y := d * e) ?_ (Int.mul_ne_zero hd.1 he.1)
  rwa [show pdV d e * x * ((d * e) * (d * e)) = pdV d e * (d * e) * (x * (d * e)) by grind]
theorem pd_comm {d e : Int} (hd : Sqf d) (he : Sqf e) : pdV d e = pdV e d := pd_of (pd_sqf he hd) hd he (by
  have := pd_isq (e := d) he.1
  rwa [Int.mul_comm d e])
theorem pd_one {d : Int} (hd : Sqf d) : pdV d 1 = d := pd_of hd hd sqf_one ⟨d, by grind⟩
theorem pd_self {d : Int} (hd : Sqf d) : pdV d d = 1 := pd_of sqf_one hd hd ⟨d, by grind⟩
theorem pd_inv {d e : Int} (hd : Sqf d) (he : Sqf e) : pdV d (pdV d e) = e := by
  refine pd_of he hd (pd_sqf hd he) ?_
  have := pd_isq (e := e) hd.1
  rwa [show e * (d * pdV d e) = pdV d e * (d * e) by grind]
theorem pd_shift {d e f : Int} (hd : Sqf d) (he : Sqf e) (hf : Sqf f) : pdV e (pdV d f) = pdV d (pdV e f) := by
  refine pd_of (pd_sqf hd (pd_sqf he hf)) he (pd_sqf hd hf) ?_
  have h1 := pd_isq (e := pdV e f) hd.1
  have h2 := pd_isq (e := f) he.1
  have h3 := pd_isq (e := f) hd.1
  have h4 := (h1.mul h2).mul h3
  refine IsSq.cancel (y := pdV e f * d * f) ?_ (Int.mul_ne_zero (Int.mul_ne_zero (pd_sqf he hf).1 hd.1) hf.1)
  generalize pdV d (pdV e f) = u at *
  generalize pdV e f = v at *
  generalize pdV d f = t at *
  rwa [show u * (e * t) * (v * d * f * (v * d * f)) = u * (d * v) * (v * (e * f)) * (t * (d * f)) by grind]
theorem pd_both {d e f : Int} (hd : Sqf d) (he : Sqf e) (hf : Sqf f) : pdV (pdV d e) (pdV d f) = pdV e f := by
  rw [pd_shift hd (pd_sqf hd he) hf, pd_comm (pd_sqf hd he) hf, pd_shift hd hf he, pd_comm hf he, pd_inv hd (pd_sqf he hf)]
end
end Go.Proofs.YthdfpfhkmfmnbaaGreat
