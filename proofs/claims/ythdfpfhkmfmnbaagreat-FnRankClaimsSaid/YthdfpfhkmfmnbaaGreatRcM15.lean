/- Own texts put together: Selmer classes and found classes: the walks of both sides; The class of a number is one of its squarefree divisors; a squarefree number is its own class; The law of Flow with whatever is known of the values; The groups of the found points: the walks of both sides. Conditions: those of each theorem. -/
import Derived.Test.YthdfpfhkmfmnbaaGreatRcM14
import Derived.Test.YthdfpfhkmfmnbaaGreatRcM13
import Derived.Test.YthdfpfhkmfmnbaaGreatRcM8
import Derived.ArgAppend
namespace Go.Proofs.YthdfpfhkmfmnbaaGreat
section
open Go Go.RowKit Go.Lib

theorem dv_len {n : Int} (h0 : n ≠ 0) (hn : n.natAbs ≤ 1000000) : (dvV n).length ≤ 2000000 := by
  have h1 := (sk_b h0 (prV n.natAbs).length).len
  have h2 : srI (skL n (prV n.natAbs).length) = dvV n := by unfold skL; rw [List.take_length]; rfl
  rw [← h2, length_srI]
  omega

set_option linter.unusedSimpArgs false in
set_option linter.unusedVariables false in
set_option maxRecDepth 8000 in
set_option maxHeartbeats 8000000 in
theorem dsSelmer_any (a b : Int) (s : Bool) (w : World) (h : twB a b = true) :
    Calls Tryz.prog 30 #[.agg #[.int .i64 a, .int .i64 b], .bool s] w fun e w' => LsR (smV a b s) e w' ∧ Below w.heap.size w w' := by
  obtain ⟨i0, hii, hz0, hz1, hz2⟩ := info_parts infoIntC
  have Hc := Lib.hid (fun w9 => dsDivisors_any a b s w9 h)
  have Hdl := Lib.hid (dv_len (sd_bd h s).2.2 (by have := (sd_bd h s).2.1; omega))
  have Hrs := Lib.hid (fun d (hd : d ∈ dvV (sdB a b s)) w9 => dsReason_any a b s d w9 h hd)
  have Hbad := Lib.hid (fun d (hd : d ∈ dvV (sdB a b s)) hx => sm_bad (a := a) (b := b) (k := s) hd hx)
  have Hyes := Lib.hid (sm_yes (a := a) (b := b) (k := s))
  generalize smV a b s = V at *
  clear h
  generalize dvV (sdB a b s) = D at *
  have hDl : D.length ≤ 2000000 := Hdl.out
  go_enter Tryz.func30, Tryz.ntmps30
  go_wp2_with fail
  refine (Hc.out _).mono ?_; rintro e w1 ⟨⟨A, cp, rfl, hrd⟩, hb1⟩
  have S1 := Lib.hid (show w.heap.size + 1 ≤ w1.heap.size by have h9 := hb1.size; (try simp only [World.size_alloc, World.size_setCell, World.size_drew] at h9); omega)
  have NTB := Lib.hid ((Blk.new w 24 #[.int .i64 a, .int .i64 b]).on hb1)
  have TB := NTB; clear NTB
  have Hb1 := Lib.hid (bthen (bal (Below.refl w.heap.size w) (Obj.cells #[.int .i64 a, .int .i64 b] 24)) hb1)
  clear hb1
  have HR := Lib.hid hrd; clear hrd
  go_wp2
  go_loopw [6, 15] (fun o i wr => ∃ k : Nat, k ≤ D.length ∧ i = .int .i64 (k : Int) ∧ Hid (∀ d ∈ D.take k, smO a b s d = true) ∧ Hid (wr.ownsRow w1.heap.size 3 1 o ((D.take k).filter (smZ a b s)).length (((D.take k).filter (smZ a b s)).map iv)) ∧ Hid (Below w1.heap.size w1 wr)) (fun _ i _ => D.length - (intOf i).toNat)
  case atStart => exact ⟨0, Nat.zero_le _, rfl, Lib.hid (fun q hq => by simp at hq), Lib.hid ⟨rfl, Or.inl ⟨rfl, rfl⟩⟩, Lib.hid (Below.refl _ _)⟩
  case round =>
    obtain ⟨k, hk, rfl, Hal, Hrow, Hbw⟩ := hrel
    have HRr := Lib.hid (HR.out.below Hbw.out)
    have TBr := Lib.hid (TB.out.below Hbw.out TB.out.lt)
    have hszw : w1.heap.size ≤ wr.heap.size := Hbw.out.size
    by_cases hlt : k < D.length
    · obtain ⟨-, -, -, -, hC⟩ := rd_cells HRr.out
      obtain ⟨g2, off2, hA2, hg2⟩ := rd_addr HRr.out (by omega)
      have hc1 := hC g2 off2 hA2 k hlt
      clear hC
      have hgr : g2 < wr.heap.size := Nat.lt_of_lt_of_le hg2 hszw
      subst hA2
      rw [show D.getD k 0 = D[k] by simp [hlt]] at hc1
      have hd : decide ((k : Int) < (D.length : Int)) = true := decide_eq_true (by omega)
      have hdn : decide (k < D.length) = true := decide_eq_true hlt
      have hk0 : (0 : Int) ≤ (k : Int) := by omega
      have hk1 : (k : Int) < (D.length : Int) := by omega
      have Hmem := Lib.hid (List.getElem_mem hlt)
      have Hst := Lib.hid (List.take_succ_eq_append_getElem hlt)
      have Hfy := Lib.hid (flt_yes (f := smZ a b s) hlt)
      have Hfn := Lib.hid (flt_no (f := smZ a b s) hlt)
      generalize D[k] = q at *
      have q0 : wr.cell? ⟨w.heap.size, 0, none⟩ = some (.int .i64 a) := TBr.out.cell 0
      have q1 : wr.cell? ⟨w.heap.size, 1, none⟩ = some (.int .i64 b) := TBr.out.cell 1
      have ql := TBr.out.lt
      have Hr1 := Lib.hid (Hrs.out q Hmem.out)
      have Hok := Lib.hid (show smO a b s q = (rsV a b s q).2 from rfl)
      have Hzz := Lib.hid (show smZ a b s q = ((rsV a b s q).1 == 0) from rfl)
      generalize rsV a b s q = S at *
      obtain ⟨s1, s2⟩ := S
      dsimp only at *
      go_wp2_with fail
      refine (Hr1.out _).mono ?_; rintro e w9 ⟨rfl, hb9⟩
      clear q0 q1 ql hc1 hg2 hgr
      have Hbw9 := Lib.hid (Hbw.out.trans (hb9.mono hszw)); have Hrow9 := Lib.hid (own_below Hrow.out hb9); clear hb9
      cases s2
      · have Hv := Lib.hid (Hbad.out q Hmem.out Hok.out)
        go_wp2
        exact bodyPost_ret (v := .tuple #[.slice none 0 0, .bool false]) (by simp [results, Tryz.results30, go_sem]) rfl ⟨by rw [Hv.out]; exact LsR.no _, bthen Hb1.out Hbw9.out⟩
      · have Hal2 := Lib.hid (show ∀ q ∈ D.take (k + 1), smO a b s q = true from fun q hq => by rw [Hst.out] at hq; rcases List.mem_append.1 hq with h | h; exact Hal.out q h; rw [List.mem_singleton.1 h]; exact Hok.out)
        by_cases hz : s1 = 0
        · have Hf := Lib.hid (Hfy.out (by rw [Hzz.out, hz]; rfl))
          subst hz
          have hlf : ((D.take k).filter (smZ a b s)).length ≤ 2000000 := Nat.le_trans (List.length_filter_le _ _) (by rw [List.length_take]; have := Hdl.out; omega)
          have Hlf := Lib.hid hlf; clear hlf
          have hs9 : w1.heap.size ≤ w9.heap.size := Hbw9.out.size
          go_wp2_with (at_builtin; refine wpList_append_own _ rfl _ _ 48 rfl w1.heap.size 3 i0 (.int .i64 0) 1 8 Tryz.underlying48 hii hz0 hz1 hz2 rfl (by decide) _ _ _ rfl (Hrow9.out.alloc _) ⟨w9.heap.size, 0, none⟩ 1 1 [.int .i64 q] rfl rfl (cell_one_new _ _ _) (by simp [Value.oneCell']) (by have := Hlf.out; unfold maxLen; omega) (by have := Hlf.out; omega) (by simp; omega) ?_)
          intro v8 w8 hown8 hg8 _
          have Hb8 := Lib.hid (show Below w1.heap.size w1 w8 from Below.grown (Hbw9.out.alloc hs9 _) hg8 (by simp; omega) (fun j hj => (Hrow9.out.lt j hj).1))
          have Hown8 := Lib.hid (show w8.ownsRow w1.heap.size 3 1 v8 ((D.take (k + 1)).filter (smZ a b s)).length (((D.take (k + 1)).filter (smZ a b s)).map iv) by rw [Hf.out, List.map_append, List.length_append]; exact hown8)
          clear hown8 hg8
          go_wp2
          go_roundw
          case rel => exact ⟨k + 1, by omega, by go_num, Hal2, Hown8, Hb8⟩
          case measure => simp [intOf]; omega
        · have g1 : (s1 == 0) = false := beq_eq_false_iff_ne.2 hz
          have g2 : decide (s1 = 0) = false := decide_eq_false hz
          have Hf := Lib.hid (Hfn.out (by rw [Hzz.out]; exact g1))
          go_wp2
          go_roundw
          case rel => exact ⟨k + 1, by omega, by go_num, Hal2, by rw [Hf.out]; exact Hrow9, Hbw9⟩
          case measure => simp [intOf]; omega
    · obtain rfl : k = D.length := by omega
      have hd : decide ((D.length : Int) < (D.length : Int)) = false := decide_eq_false (by omega)
      have hdn : decide (D.length < D.length) = false := decide_eq_false (by omega)
      have Hv := Lib.hid (Hyes.out (fun q hq => Hal.out q (by rw [List.take_length]; exact hq)))
      rw [List.take_length] at Hrow
      obtain ⟨A9, c9, hrf, hr9⟩ := rd_own1 Hrow.out rfl
      subst hrf
      have Hr9 := Lib.hid hr9; clear hr9
      go_wp2
      exact bodyPost_ret (v := .tuple #[.slice A9 (D.filter (smZ a b s)).length c9, .bool true]) (by simp [results, Tryz.results30, go_sem]) rfl ⟨by rw [Hv.out]; exact ⟨_, _, rfl, Hr9.out⟩, bthen Hb1.out Hbw.out⟩
set_option linter.unusedSimpArgs false in
set_option linter.unusedVariables false in
set_option maxRecDepth 8000 in
set_option maxHeartbeats 8000000 in
theorem selmer_any (a b : Int) (s : Bool) (w : World) (h : twB a b = true) :
    Calls Tryz.prog 27 #[.agg #[.int .i64 a, .int .i64 b], .bool s] w fun e w' => LsR (smV a b s) e w' ∧ Below w.heap.size w w' := by
  obtain ⟨i0, hii, hz0, hz1, hz2⟩ := info_parts infoIntC
  have Hc := Lib.hid (fun w9 => descDivisors_any a b s w9 h)
  have Hdl := Lib.hid (dv_len (sd_bd h s).2.2 (by have := (sd_bd h s).2.1; omega))
  have Hrs := Lib.hid (fun d (hd : d ∈ dvV (sdB a b s)) w9 => reasonAgainst_any a b s d w9 h hd)
  have Hbad := Lib.hid (fun d (hd : d ∈ dvV (sdB a b s)) hx => sm_bad (a := a) (b := b) (k := s) hd hx)
  have Hyes := Lib.hid (sm_yes (a := a) (b := b) (k := s))
  generalize smV a b s = V at *
  clear h
  generalize dvV (sdB a b s) = D at *
  have hDl : D.length ≤ 2000000 := Hdl.out
  go_enter Tryz.func27, Tryz.ntmps27
  go_wp2_with fail
  refine (Hc.out _).mono ?_; rintro e w1 ⟨⟨A, cp, rfl, hrd⟩, hb1⟩
  have S1 := Lib.hid (show w.heap.size + 1 ≤ w1.heap.size by have h9 := hb1.size; (try simp only [World.size_alloc, World.size_setCell, World.size_drew] at h9); omega)
  have NTB := Lib.hid ((Blk.new w 24 #[.int .i64 a, .int .i64 b]).on hb1)
  have TB := NTB; clear NTB
  have Hb1 := Lib.hid (bthen (bal (Below.refl w.heap.size w) (Obj.cells #[.int .i64 a, .int .i64 b] 24)) hb1)
  clear hb1
  have HR := Lib.hid hrd; clear hrd
  go_wp2
  go_loopw [6, 15] (fun o i wr => ∃ k : Nat, k ≤ D.length ∧ i = .int .i64 (k : Int) ∧ Hid (∀ d ∈ D.take k, smO a b s d = true) ∧ Hid (wr.ownsRow w1.heap.size 3 1 o ((D.take k).filter (smZ a b s)).length (((D.take k).filter (smZ a b s)).map iv)) ∧ Hid (Below w1.heap.size w1 wr)) (fun _ i _ => D.length - (intOf i).toNat)
  case atStart => exact ⟨0, Nat.zero_le _, rfl, Lib.hid (fun q hq => by simp at hq), Lib.hid ⟨rfl, Or.inl ⟨rfl, rfl⟩⟩, Lib.hid (Below.refl _ _)⟩
  case round =>
    obtain ⟨k, hk, rfl, Hal, Hrow, Hbw⟩ := hrel
    have HRr := Lib.hid (HR.out.below Hbw.out)
    have TBr := Lib.hid (TB.out.below Hbw.out TB.out.lt)
    have hszw : w1.heap.size ≤ wr.heap.size := Hbw.out.size
    by_cases hlt : k < D.length
    · obtain ⟨-, -, -, -, hC⟩ := rd_cells HRr.out
      obtain ⟨g2, off2, hA2, hg2⟩ := rd_addr HRr.out (by omega)
      have hc1 := hC g2 off2 hA2 k hlt
      clear hC
      have hgr : g2 < wr.heap.size := Nat.lt_of_lt_of_le hg2 hszw
      subst hA2
      rw [show D.getD k 0 = D[k] by simp [hlt]] at hc1
      have hd : decide ((k : Int) < (D.length : Int)) = true := decide_eq_true (by omega)
      have hdn : decide (k < D.length) = true := decide_eq_true hlt
      have hk0 : (0 : Int) ≤ (k : Int) := by omega
      have hk1 : (k : Int) < (D.length : Int) := by omega
      have Hmem := Lib.hid (List.getElem_mem hlt)
      have Hst := Lib.hid (List.take_succ_eq_append_getElem hlt)
      have Hfy := Lib.hid (flt_yes (f := smZ a b s) hlt)
      have Hfn := Lib.hid (flt_no (f := smZ a b s) hlt)
      generalize D[k] = q at *
      have q0 : wr.cell? ⟨w.heap.size, 0, none⟩ = some (.int .i64 a) := TBr.out.cell 0
      have q1 : wr.cell? ⟨w.heap.size, 1, none⟩ = some (.int .i64 b) := TBr.out.cell 1
      have ql := TBr.out.lt
      have Hr1 := Lib.hid (Hrs.out q Hmem.out)
      have Hok := Lib.hid (show smO a b s q = (rsV a b s q).2 from rfl)
      have Hzz := Lib.hid (show smZ a b s q = ((rsV a b s q).1 == 0) from rfl)
      generalize rsV a b s q = S at *
      obtain ⟨s1, s2⟩ := S
      dsimp only at *
      go_wp2_with fail
      refine (Hr1.out _).mono ?_; rintro e w9 ⟨rfl, hb9⟩
      clear q0 q1 ql hc1 hg2 hgr
      have Hbw9 := Lib.hid (Hbw.out.trans (hb9.mono hszw)); have Hrow9 := Lib.hid (own_below Hrow.out hb9); clear hb9
      cases s2
      · have Hv := Lib.hid (Hbad.out q Hmem.out Hok.out)
        go_wp2
        exact bodyPost_ret (v := .tuple #[.slice none 0 0, .bool false]) (by simp [results, Tryz.results27, go_sem]) rfl ⟨by rw [Hv.out]; exact LsR.no _, bthen Hb1.out Hbw9.out⟩
      · have Hal2 := Lib.hid (show ∀ q ∈ D.take (k + 1), smO a b s q = true from fun q hq => by rw [Hst.out] at hq; rcases List.mem_append.1 hq with h | h; exact Hal.out q h; rw [List.mem_singleton.1 h]; exact Hok.out)
        by_cases hz : s1 = 0
        · have Hf := Lib.hid (Hfy.out (by rw [Hzz.out, hz]; rfl))
          subst hz
          have hlf : ((D.take k).filter (smZ a b s)).length ≤ 2000000 := Nat.le_trans (List.length_filter_le _ _) (by rw [List.length_take]; have := Hdl.out; omega)
          have Hlf := Lib.hid hlf; clear hlf
          have hs9 : w1.heap.size ≤ w9.heap.size := Hbw9.out.size
          go_wp2_with (at_builtin; refine wpList_append_own _ rfl _ _ 48 rfl w1.heap.size 3 i0 (.int .i64 0) 1 8 Tryz.underlying48 hii hz0 hz1 hz2 rfl (by decide) _ _ _ rfl (Hrow9.out.alloc _) ⟨w9.heap.size, 0, none⟩ 1 1 [.int .i64 q] rfl rfl (cell_one_new _ _ _) (by simp [Value.oneCell']) (by have := Hlf.out; unfold maxLen; omega) (by have := Hlf.out; omega) (by simp; omega) ?_)
          intro v8 w8 hown8 hg8 _
          have Hb8 := Lib.hid (show Below w1.heap.size w1 w8 from Below.grown (Hbw9.out.alloc hs9 _) hg8 (by simp; omega) (fun j hj => (Hrow9.out.lt j hj).1))
          have Hown8 := Lib.hid (show w8.ownsRow w1.heap.size 3 1 v8 ((D.take (k + 1)).filter (smZ a b s)).length (((D.take (k + 1)).filter (smZ a b s)).map iv) by rw [Hf.out, List.map_append, List.length_append]; exact hown8)
          clear hown8 hg8
          go_wp2
          go_roundw
          case rel => exact ⟨k + 1, by omega, by go_num, Hal2, Hown8, Hb8⟩
          case measure => simp [intOf]; omega
        · have g1 : (s1 == 0) = false := beq_eq_false_iff_ne.2 hz
          have g2 : decide (s1 = 0) = false := decide_eq_false hz
          have Hf := Lib.hid (Hfn.out (by rw [Hzz.out]; exact g1))
          go_wp2
          go_roundw
          case rel => exact ⟨k + 1, by omega, by go_num, Hal2, by rw [Hf.out]; exact Hrow9, Hbw9⟩
          case measure => simp [intOf]; omega
    · obtain rfl : k = D.length := by omega
      have hd : decide ((D.length : Int) < (D.length : Int)) = false := decide_eq_false (by omega)
      have hdn : decide (D.length < D.length) = false := decide_eq_false (by omega)
      have Hv := Lib.hid (Hyes.out (fun q hq => Hal.out q (by rw [List.take_length]; exact hq)))
      rw [List.take_length] at Hrow
      obtain ⟨A9, c9, hrf, hr9⟩ := rd_own1 Hrow.out rfl
      subst hrf
      have Hr9 := Lib.hid hr9; clear hr9
      go_wp2
      exact bodyPost_ret (v := .tuple #[.slice A9 (D.filter (smZ a b s)).length c9, .bool true]) (by simp [results, Tryz.results27, go_sem]) rfl ⟨by rw [Hv.out]; exact ⟨_, _, rfl, Hr9.out⟩, bthen Hb1.out Hbw.out⟩
set_option linter.unusedSimpArgs false in
set_option linter.unusedVariables false in
set_option maxRecDepth 8000 in
set_option maxHeartbeats 8000000 in
theorem dsFound_any (a b : Int) (s : Bool) (M : Nat) (w : World) (h : twB a b = true) (hM : M ≤ 60) :
    Calls Tryz.prog 61 #[.agg #[.int .i64 a, .int .i64 b], .bool s, .int .i64 (M : Int)] w fun e w' => RdR (fdL a b s M) e w' ∧ Below w.heap.size w w' := by
  obtain ⟨i0, hii, hz0, hz1, hz2⟩ := info_parts infoIntC
  have Hc := Lib.hid (fun w9 => dsDivisors_any a b s w9 h)
  have Hdl := Lib.hid (dv_len (sd_bd h s).2.2 (by have := (sd_bd h s).2.1; omega))
  have Hqu := Lib.hid (fun d (hd : d ∈ dvV (sdB a b s)) w9 => dsQuartic_any a b d s w9 h (bq_of h hd).d0)
  have Hpt := Lib.hid (fun d (hd : d ∈ dvV (sdB a b s)) w9 => seOn_any d (sdA a b s) ((sdB a b s).tdiv d) M w9 (qb_of (bq_of h hd)) hM)
  have HF := Lib.hid (show fdL a b s M = (dvV (sdB a b s)).filter (fdZ a b s M) from rfl)
  generalize fdL a b s M = V at *
  have HfV := Lib.hid (fun d => show fdZ a b s M d = decide (0 < ctV d (sdA a b s) ((sdB a b s).tdiv d) M) from rfl)
  clear h
  generalize dvV (sdB a b s) = D at *
  have hDl : D.length ≤ 2000000 := Hdl.out
  generalize sdB a b s = B at *
  generalize sdA a b s = A0 at *
  go_enter Tryz.func61, Tryz.ntmps61
  go_wp2_with fail
  refine (Hc.out _).mono ?_; rintro e w1 ⟨⟨A, cp, rfl, hrd⟩, hb1⟩
  have S1 := Lib.hid (show w.heap.size + 1 ≤ w1.heap.size by have h9 := hb1.size; (try simp only [World.size_alloc, World.size_setCell, World.size_drew] at h9); omega)
  have NTB := Lib.hid ((Blk.new w 24 #[.int .i64 a, .int .i64 b]).on hb1)
  have TB := NTB; clear NTB
  have Hb1 := Lib.hid (bthen (bal (Below.refl w.heap.size w) (Obj.cells #[.int .i64 a, .int .i64 b] 24)) hb1)
  clear hb1
  have HR := Lib.hid hrd; clear hrd
  go_wp2
  go_loopw [7, 14] (fun o i wr => ∃ k : Nat, k ≤ D.length ∧ i = .int .i64 (k : Int) ∧ Hid (wr.ownsRow w1.heap.size 3 1 o ((D.take k).filter (fdZ a b s M)).length (((D.take k).filter (fdZ a b s M)).map iv)) ∧ Hid (Below w1.heap.size w1 wr)) (fun _ i _ => D.length - (intOf i).toNat)
  case atStart => exact ⟨0, Nat.zero_le _, rfl, Lib.hid ⟨rfl, Or.inl ⟨rfl, rfl⟩⟩, Lib.hid (Below.refl _ _)⟩
  case round =>
    obtain ⟨k, hk, rfl, Hrow, Hbw⟩ := hrel
    have HRr := Lib.hid (HR.out.below Hbw.out)
    have TBr := Lib.hid (TB.out.below Hbw.out TB.out.lt)
    have hszw : w1.heap.size ≤ wr.heap.size := Hbw.out.size
    by_cases hlt : k < D.length
    · obtain ⟨-, -, -, -, hC⟩ := rd_cells HRr.out
      obtain ⟨g2, off2, hA2, hg2⟩ := rd_addr HRr.out (by omega)
      have hc1 := hC g2 off2 hA2 k hlt
      clear hC
      have hgr : g2 < wr.heap.size := Nat.lt_of_lt_of_le hg2 hszw
      subst hA2
      rw [show D.getD k 0 = D[k] by simp [hlt]] at hc1
      have hd : decide ((k : Int) < (D.length : Int)) = true := decide_eq_true (by omega)
      have hdn : decide (k < D.length) = true := decide_eq_true hlt
      have hk0 : (0 : Int) ≤ (k : Int) := by omega
      have hk1 : (k : Int) < (D.length : Int) := by omega
      have Hmem := Lib.hid (List.getElem_mem hlt)
      have Hst := Lib.hid (List.take_succ_eq_append_getElem hlt)
      have Hfy := Lib.hid (flt_yes (f := fdZ a b s M) hlt)
      have Hfn := Lib.hid (flt_no (f := fdZ a b s M) hlt)
      generalize D[k] = q at *
      have q0 : wr.cell? ⟨w.heap.size, 0, none⟩ = some (.int .i64 a) := TBr.out.cell 0
      have q1 : wr.cell? ⟨w.heap.size, 1, none⟩ = some (.int .i64 b) := TBr.out.cell 1
      have ql := TBr.out.lt
      have Hq1 := Lib.hid (Hqu.out q Hmem.out)
      have Hp1 := Lib.hid (Hpt.out q Hmem.out)
      have Hfv := Lib.hid (HfV.out q)
      generalize B.tdiv q = C at *
      generalize ctV q A0 C M = N at *
      by_cases hN : 0 < N
      · have g1 : decide ((0 : Int) < (N : Int)) = true := decide_eq_true (by omega)
        have g2 : decide (0 < N) = true := decide_eq_true hN
        have Hf := Lib.hid (Hfy.out (by rw [Hfv.out, g2]))
        go_wp2_with fail
        refine (Hq1.out _).mono ?_; rintro e w8 ⟨rfl, hb8⟩
        clear q0 q1 ql hc1 hg2 hgr
        have Hbw8 := Lib.hid (Hbw.out.trans (hb8.mono hszw)); have Hrow8 := Lib.hid (own_below Hrow.out hb8); clear hb8
        have hsz8 : w1.heap.size ≤ w8.heap.size := Hbw8.out.size
        go_wp2_with fail
        refine (Hp1.out _).mono ?_; rintro e w9 ⟨⟨A9, c9, rfl⟩, hb9⟩
        have Hbw9 := Lib.hid (Hbw8.out.trans (hb9.mono hsz8)); have Hrow9 := Lib.hid (own_below Hrow8.out hb9); clear hb9
        have hlf : ((D.take k).filter (fdZ a b s M)).length ≤ 2000000 := Nat.le_trans (List.length_filter_le _ _) (by rw [List.length_take]; have := Hdl.out; omega)
        have Hlf := Lib.hid hlf; clear hlf
        have hs9 : w1.heap.size ≤ w9.heap.size := Hbw9.out.size
        go_wp2_with (at_builtin; refine wpList_append_own _ rfl _ _ 48 rfl w1.heap.size 3 i0 (.int .i64 0) 1 8 Tryz.underlying48 hii hz0 hz1 hz2 rfl (by decide) _ _ _ rfl (Hrow9.out.alloc _) ⟨w9.heap.size, 0, none⟩ 1 1 [.int .i64 q] rfl rfl (cell_one_new _ _ _) (by simp [Value.oneCell']) (by have := Hlf.out; unfold maxLen; omega) (by have := Hlf.out; omega) (by simp; omega) ?_)
        intro v8 w8 hown8 hg8 _
        have Hb8 := Lib.hid (show Below w1.heap.size w1 w8 from Below.grown (Hbw9.out.alloc hs9 _) hg8 (by simp; omega) (fun j hj => (Hrow9.out.lt j hj).1))
        have Hown8 := Lib.hid (show w8.ownsRow w1.heap.size 3 1 v8 ((D.take (k + 1)).filter (fdZ a b s M)).length (((D.take (k + 1)).filter (fdZ a b s M)).map iv) by rw [Hf.out, List.map_append, List.length_append]; exact hown8)
        clear hown8 hg8
        go_wp2
        go_roundw
        case rel => exact ⟨k + 1, by omega, by go_num, Hown8, Hb8⟩
        case measure => simp [intOf]; omega
      · have g1 : decide ((0 : Int) < (N : Int)) = false := decide_eq_false (by omega)
        have g2 : decide (0 < N) = false := decide_eq_false hN
        have Hf := Lib.hid (Hfn.out (by rw [Hfv.out, g2]))
        go_wp2_with fail
        refine (Hq1.out _).mono ?_; rintro e w8 ⟨rfl, hb8⟩
        clear q0 q1 ql hc1 hg2 hgr
        have Hbw8 := Lib.hid (Hbw.out.trans (hb8.mono hszw)); have Hrow8 := Lib.hid (own_below Hrow.out hb8); clear hb8
        have hsz8 : w1.heap.size ≤ w8.heap.size := Hbw8.out.size
        go_wp2_with fail
        refine (Hp1.out _).mono ?_; rintro e w9 ⟨⟨A9, c9, rfl⟩, hb9⟩
        have Hbw9 := Lib.hid (Hbw8.out.trans (hb9.mono hsz8)); have Hrow9 := Lib.hid (own_below Hrow8.out hb9); clear hb9
        go_wp2
        go_roundw
        case rel => exact ⟨k + 1, by omega, by go_num, by rw [Hf.out]; exact Hrow9, Hbw9⟩
        case measure => simp [intOf]; omega
    · obtain rfl : k = D.length := by omega
      have hd : decide ((D.length : Int) < (D.length : Int)) = false := decide_eq_false (by omega)
      have hdn : decide (D.length < D.length) = false := decide_eq_false (by omega)
      rw [List.take_length] at Hrow
      have Hls := Lib.hid (RdR.own Hrow.out rfl)
      go_wp2
      go_ret
      exact ⟨by rw [HF.out]; exact Hls.out, bthen Hb1.out Hbw.out⟩
set_option linter.unusedSimpArgs false in
set_option linter.unusedVariables false in
set_option maxRecDepth 8000 in
set_option maxHeartbeats 8000000 in
theorem found_any (a b : Int) (s : Bool) (M : Nat) (w : World) (h : twB a b = true) (hM : M ≤ 60) :
    Calls Tryz.prog 54 #[.agg #[.int .i64 a, .int .i64 b], .bool s, .int .i64 (M : Int)] w fun e w' => RdR (fdL a b s M) e w' ∧ Below w.heap.size w w' := by
  obtain ⟨i0, hii, hz0, hz1, hz2⟩ := info_parts infoIntC
  have Hc := Lib.hid (fun w9 => descDivisors_any a b s w9 h)
  have Hdl := Lib.hid (dv_len (sd_bd h s).2.2 (by have := (sd_bd h s).2.1; omega))
  have Hqu := Lib.hid (fun d (hd : d ∈ dvV (sdB a b s)) w9 => descQuartic_any a b d s w9 h (bq_of h hd).d0)
  have Hpt := Lib.hid (fun d (hd : d ∈ dvV (sdB a b s)) w9 => points_any d (sdA a b s) ((sdB a b s).tdiv d) M w9 (qb_of (bq_of h hd)) hM)
  have HF := Lib.hid (show fdL a b s M = (dvV (sdB a b s)).filter (fdZ a b s M) from rfl)
  generalize fdL a b s M = V at *
  have HfV := Lib.hid (fun d => show fdZ a b s M d = decide (0 < ctV d (sdA a b s) ((sdB a b s).tdiv d) M) from rfl)
  clear h
  generalize dvV (sdB a b s) = D at *
  have hDl : D.length ≤ 2000000 := Hdl.out
  generalize sdB a b s = B at *
  generalize sdA a b s = A0 at *
  go_enter Tryz.func54, Tryz.ntmps54
  go_wp2_with fail
  refine (Hc.out _).mono ?_; rintro e w1 ⟨⟨A, cp, rfl, hrd⟩, hb1⟩
  have S1 := Lib.hid (show w.heap.size + 1 ≤ w1.heap.size by have h9 := hb1.size; (try simp only [World.size_alloc, World.size_setCell, World.size_drew] at h9); omega)
  have NTB := Lib.hid ((Blk.new w 24 #[.int .i64 a, .int .i64 b]).on hb1)
  have TB := NTB; clear NTB
  have Hb1 := Lib.hid (bthen (bal (Below.refl w.heap.size w) (Obj.cells #[.int .i64 a, .int .i64 b] 24)) hb1)
  clear hb1
  have HR := Lib.hid hrd; clear hrd
  go_wp2
  go_loopw [7, 14] (fun o i wr => ∃ k : Nat, k ≤ D.length ∧ i = .int .i64 (k : Int) ∧ Hid (wr.ownsRow w1.heap.size 3 1 o ((D.take k).filter (fdZ a b s M)).length (((D.take k).filter (fdZ a b s M)).map iv)) ∧ Hid (Below w1.heap.size w1 wr)) (fun _ i _ => D.length - (intOf i).toNat)
  case atStart => exact ⟨0, Nat.zero_le _, rfl, Lib.hid ⟨rfl, Or.inl ⟨rfl, rfl⟩⟩, Lib.hid (Below.refl _ _)⟩
  case round =>
    obtain ⟨k, hk, rfl, Hrow, Hbw⟩ := hrel
    have HRr := Lib.hid (HR.out.below Hbw.out)
    have TBr := Lib.hid (TB.out.below Hbw.out TB.out.lt)
    have hszw : w1.heap.size ≤ wr.heap.size := Hbw.out.size
    by_cases hlt : k < D.length
    · obtain ⟨-, -, -, -, hC⟩ := rd_cells HRr.out
      obtain ⟨g2, off2, hA2, hg2⟩ := rd_addr HRr.out (by omega)
      have hc1 := hC g2 off2 hA2 k hlt
      clear hC
      have hgr : g2 < wr.heap.size := Nat.lt_of_lt_of_le hg2 hszw
      subst hA2
      rw [show D.getD k 0 = D[k] by simp [hlt]] at hc1
      have hd : decide ((k : Int) < (D.length : Int)) = true := decide_eq_true (by omega)
      have hdn : decide (k < D.length) = true := decide_eq_true hlt
      have hk0 : (0 : Int) ≤ (k : Int) := by omega
      have hk1 : (k : Int) < (D.length : Int) := by omega
      have Hmem := Lib.hid (List.getElem_mem hlt)
      have Hst := Lib.hid (List.take_succ_eq_append_getElem hlt)
      have Hfy := Lib.hid (flt_yes (f := fdZ a b s M) hlt)
      have Hfn := Lib.hid (flt_no (f := fdZ a b s M) hlt)
      generalize D[k] = q at *
      have q0 : wr.cell? ⟨w.heap.size, 0, none⟩ = some (.int .i64 a) := TBr.out.cell 0
      have q1 : wr.cell? ⟨w.heap.size, 1, none⟩ = some (.int .i64 b) := TBr.out.cell 1
      have ql := TBr.out.lt
      have Hq1 := Lib.hid (Hqu.out q Hmem.out)
      have Hp1 := Lib.hid (Hpt.out q Hmem.out)
      have Hfv := Lib.hid (HfV.out q)
      generalize B.tdiv q = C at *
      generalize ctV q A0 C M = N at *
      by_cases hN : 0 < N
      · have g1 : decide ((0 : Int) < (N : Int)) = true := decide_eq_true (by omega)
        have g2 : decide (0 < N) = true := decide_eq_true hN
        have Hf := Lib.hid (Hfy.out (by rw [Hfv.out, g2]))
        go_wp2_with fail
        refine (Hq1.out _).mono ?_; rintro e w8 ⟨rfl, hb8⟩
        clear q0 q1 ql hc1 hg2 hgr
        have Hbw8 := Lib.hid (Hbw.out.trans (hb8.mono hszw)); have Hrow8 := Lib.hid (own_below Hrow.out hb8); clear hb8
        have hsz8 : w1.heap.size ≤ w8.heap.size := Hbw8.out.size
        go_wp2_with fail
        refine (Hp1.out _).mono ?_; rintro e w9 ⟨⟨A9, c9, rfl⟩, hb9⟩
        have Hbw9 := Lib.hid (Hbw8.out.trans (hb9.mono hsz8)); have Hrow9 := Lib.hid (own_below Hrow8.out hb9); clear hb9
        have hlf : ((D.take k).filter (fdZ a b s M)).length ≤ 2000000 := Nat.le_trans (List.length_filter_le _ _) (by rw [List.length_take]; have := Hdl.out; omega)
        have Hlf := Lib.hid hlf; clear hlf
        have hs9 : w1.heap.size ≤ w9.heap.size := Hbw9.out.size
        go_wp2_with (at_builtin; refine wpList_append_own _ rfl _ _ 48 rfl w1.heap.size 3 i0 (.int .i64 0) 1 8 Tryz.underlying48 hii hz0 hz1 hz2 rfl (by decide) _ _ _ rfl (Hrow9.out.alloc _) ⟨w9.heap.size, 0, none⟩ 1 1 [.int .i64 q] rfl rfl (cell_one_new _ _ _) (by simp [Value.oneCell']) (by have := Hlf.out; unfold maxLen; omega) (by have := Hlf.out; omega) (by simp; omega) ?_)
        intro v8 w8 hown8 hg8 _
        have Hb8 := Lib.hid (show Below w1.heap.size w1 w8 from Below.grown (Hbw9.out.alloc hs9 _) hg8 (by simp; omega) (fun j hj => (Hrow9.out.lt j hj).1))
        have Hown8 := Lib.hid (show w8.ownsRow w1.heap.size 3 1 v8 ((D.take (k + 1)).filter (fdZ a b s M)).length (((D.take (k + 1)).filter (fdZ a b s M)).map iv) by rw [Hf.out, List.map_append, List.length_append]; exact hown8)
        clear hown8 hg8
        go_wp2
        go_roundw
        case rel => exact ⟨k + 1, by omega, by go_num, Hown8, Hb8⟩
        case measure => simp [intOf]; omega
      · have g1 : decide ((0 : Int) < (N : Int)) = false := decide_eq_false (by omega)
        have g2 : decide (0 < N) = false := decide_eq_false hN
        have Hf := Lib.hid (Hfn.out (by rw [Hfv.out, g2]))
        go_wp2_with fail
        refine (Hq1.out _).mono ?_; rintro e w8 ⟨rfl, hb8⟩
        clear q0 q1 ql hc1 hg2 hgr
        have Hbw8 := Lib.hid (Hbw.out.trans (hb8.mono hszw)); have Hrow8 := Lib.hid (own_below Hrow.out hb8); clear hb8
        have hsz8 : w1.heap.size ≤ w8.heap.size := Hbw8.out.size
        go_wp2_with fail
        refine (Hp1.out _).mono ?_; rintro e w9 ⟨⟨A9, c9, rfl⟩, hb9⟩
        have Hbw9 := Lib.hid (Hbw8.out.trans (hb9.mono hsz8)); have Hrow9 := Lib.hid (own_below Hrow8.out hb9); clear hb9
        go_wp2
        go_roundw
        case rel => exact ⟨k + 1, by omega, by go_num, by rw [Hf.out]; exact Hrow9, Hbw9⟩
        case measure => simp [intOf]; omega
    · obtain rfl : k = D.length := by omega
      have hd : decide ((D.length : Int) < (D.length : Int)) = false := decide_eq_false (by omega)
      have hdn : decide (D.length < D.length) = false := decide_eq_false (by omega)
      rw [List.take_length] at Hrow
      have Hls := Lib.hid (RdR.own Hrow.out rfl)
      go_wp2
      go_ret
      exact ⟨by rw [HF.out]; exact Hls.out, bthen Hb1.out Hbw.out⟩
end
section
open Go Go.RowKit Go.Lib

theorem dvL_cl : ∀ (l : List (Nat × Nat)) (acc : List Int) (o : Int), o ∈ acc → clF o l ∈ dvL (l.map (fun x => (x.1 : Int))) acc
  | [], _, _, h => h
  | x :: l, acc, o, h => by
    show clF (clS o x) l ∈ dvL (l.map (fun x => (x.1 : Int))) (acc ++ mulL (x.1 : Int) acc)
    refine dvL_cl l _ _ (List.mem_append.2 ?_)
    unfold clS
    split
    · exact .inr (List.mem_map.2 ⟨o, h, rfl⟩)
    · exact .inl h
theorem cl_mem {n : Int} : clV n ∈ dvV n := by
  unfold dvV clV prV pfL
  rw [mem_srI]
  refine dvL_cl _ _ _ ?_
  unfold sgI
  split <;> simp
theorem isq_pow {x : Int} {k : Nat} (h : k % 2 = 0) : IsSq (x ^ k) := ⟨x ^ (k / 2), by rw [← Int.pow_add]; congr 1; omega⟩
theorem clF_sq : ∀ (l : List (Nat × Nat)) (o : Int), o ≠ 0 → (∀ x ∈ l, x.1 ≠ 0) → IsSq (clF o l * (o * (prL l : Int)))
  | [], o, _, _ => ⟨o, by show o * (o * ((1 : Nat) : Int)) = o * o; simp⟩
  | x :: l, o, h0, hl => by
    have hx := hl x (List.mem_cons_self ..)
    have hl' := fun y hy => hl y (List.mem_cons_of_mem x hy)
    show IsSq (clF (clS o x) l * (o * ((x.1 ^ x.2 * prL l : Nat) : Int)))
    rw [Int.natCast_mul, Int.natCast_pow]
    unfold clS
    by_cases h : x.2 % 2 = 1
    · rw [if_pos h]
      have h1 := clF_sq l (o * (x.1 : Int)) (Int.mul_ne_zero h0 (by omega)) hl'
      obtain ⟨m, hm⟩ : ∃ m, x.2 = m + 1 := ⟨x.2 - 1, by omega⟩
      rw [hm, Int.pow_succ]
      have h2 := h1.mul (isq_pow (x := (x.1 : Int)) (k := m) (by omega))
      generalize clF (o * (x.1 : Int)) l = c at *
      generalize ((x.1 : Int)) ^ m = p at *
      rwa [show c * (o * (p * (x.1 : Int) * (prL l : Int))) = c * (o * (x.1 : Int) * (prL l : Int)) * p by grind]
    · rw [if_neg h]
      have h1 := clF_sq l o h0 hl'
      have h2 := h1.mul (isq_pow (x := (x.1 : Int)) (k := x.2) (by omega))
      generalize clF o l = c at *
      generalize ((x.1 : Int)) ^ x.2 = p at *
      rwa [show c * (o * (p * (prL l : Int))) = c * (o * (prL l : Int)) * p by grind]
theorem cl_sq {n : Int} (h0 : n ≠ 0) : IsSq (clV n * n) := by
  have h1 := facF_two (n := n.natAbs) (by omega)
  have h2 := clF_sq (facF 2 n.natAbs) (sgI n) (by unfold sgI; split <;> decide) (fun x hx => by have := (h1.1 x hx).1; omega)
  rw [prL_fac 2 _ (by omega) (by omega)] at h2
  have h3 : sgI n * (n.natAbs : Int) = n := by unfold sgI; split <;> omega
  rw [h3] at h2
  exact h2
theorem cl_sqf {n : Int} (h0 : n ≠ 0) : Sqf (clV n) := dv_sqf h0 cl_mem
theorem cl_id {d : Int} (h : Sqf d) : clV d = d := sqf_uniq (cl_sqf h.1) h (cl_sq h.1)
theorem cl_of {n d : Int} (h0 : n ≠ 0) (h : Sqf d) (hs : IsSq (d * n)) : clV n = d := by
  refine sqf_uniq (cl_sqf h0) h ?_
  have h1 := (cl_sq h0).mul hs
  refine IsSq.cancel (y := n) ?_ h0
  rwa [show clV n * d * (n * n) = clV n * n * (d * n) by grind]
theorem clB_sqf {d : Int} (h : Sqf d) (hb : -1000000 ≤ d ∧ d ≤ 1000000) : clB d = true := by
  unfold clB
  rw [decide_eq_true hb, decide_eq_true h.1, decide_eq_true (cl_id h)]; rfl
theorem sqf_clB {d : Int} (h : clB d = true) : Sqf d := by
  have h0 := (clB_bd h).1
  unfold clB at h
  rw [Bool.and_eq_true, decide_eq_true_eq] at h
  rw [← h.2]
  exact cl_sqf h0
end
section
open Go Go.RowKit

/-- What is known of a value, and stays known while nothing old is written. -/
structure FP where
  holds : Value → World → Prop
  on : ∀ (v : Value) (w w' : World), holds v w → Below w.heap.size w w' → holds v w'
def FP.val (x : Value) : FP := ⟨fun v _ => v = x, fun _ _ _ h _ => h⟩
def FlowOp3 (P : Program) (l : List Oper) (R : List FP) (w0 : World) (a0 : Act) (i : Nat) (o : Oper) : Prop :=
  ∀ (e : Operand → Value) (w : World), Below w0.heap.size w0 w → (∀ t : Nat, (l.all fun o' => o'.dst != some t) = true → e (.tmp t) = a0.eval (.tmp t)) → (∀ c, e (.const c) = c) → (∀ f, e (.func f) = .func (.func f) #[] #[]) →
    (∀ j t : Nat, (o.after.any (fun d => Region.binds .any d && d.on == j) && (l[j]?.bind (·.dst)) == some t) = true → (R.getD j (FP.val undef)).holds (e (.tmp t)) w) →
    FlowAt P o e w (fun v w' => (R.getD i (FP.val undef)).holds v w' ∧ Below w.heap.size w w')
def FlowAll3 (P : Program) (l : List Oper) (R : List FP) (w0 : World) (a0 : Act) : Nat → List Oper → Prop
  | _, [] => True
  | k, o :: m => FlowOp3 P l R w0 a0 k o ∧ FlowAll3 P l R w0 a0 (k + 1) m
theorem flow_get3 {P : Program} {l : List Oper} {R : List FP} {w0 : World} {a0 : Act} : ∀ (m : List Oper) (k i : Nat) (o : Oper), FlowAll3 P l R w0 a0 k m → m[i]? = some o → FlowOp3 P l R w0 a0 (k + i) o
  | [], _, _, _, _, h => by simp at h
  | o :: m, k, 0, o', h, hi => by
    obtain rfl : o = o' := by simpa using hi
    exact h.1
  | o :: m, k, i + 1, o', h, hi => by
    have := flow_get3 m (k + 1) i o' h.2 (by simpa using hi)
    rwa [show k + 1 + i = k + (i + 1) by omega] at this
theorem wp_region_flow3 {P : Program} {id : Nat} {Q : Exit → Act → World → Prop} {a : Act} {w : World} {l : List Oper} (R : List FP) (hm : P.follows .mixedOrders = true) (hB : flowB l a.tmps.size = true)
    (hop : FlowAll3 P l R w a 0 l)
    (hend : ∀ (f : Nat → Value) (w' : World), Below w.heap.size w w' → (∀ i, i < l.length → (R.getD i (FP.val undef)).holds (f i) w') → Q .normal { tmps := putsF l 0 f a.tmps, defers := a.defers } w') : (Code.region id l.toArray true).wp P Q a w := by
  refine wp_region_flow (fun i v w' => (R.getD i (FP.val undef)).holds v w') (fun w' => Below w.heap.size w w') hm hB (Below.refl _ _).drew (fun i o hi => ?_) hend
  have h0 := flow_get3 l 0 i o hop hi
  rw [Nat.zero_add] at h0
  intro e w1 hS hold hc hf hdep
  have h1 := h0 e w1 hS (fun t ht => hold t (fun j o' hj => by
    have := List.all_eq_true.1 ht o' (List.mem_of_getElem? hj)
    simpa using this)) hc hf (fun j t hjt => by
    rw [Bool.and_eq_true, Array.any_eq_true'] at hjt
    obtain ⟨⟨d, hd, hd2⟩, h3⟩ := hjt
    rw [Bool.and_eq_true, beq_iff_eq] at hd2
    rw [beq_iff_eq, Option.bind_eq_some_iff] at h3
    obtain ⟨o', ho', ht'⟩ := h3
    have := hdep d hd hd2.1 o' t (by rw [hd2.2]; exact ho') ht'
    rwa [hd2.2] at this)
  unfold FlowAt at h1 ⊢
  generalize (execOp e o).run P w1 = r at *
  have fin : ∀ v w', ((R.getD i (FP.val undef)).holds v w' ∧ Below w1.heap.size w1 w') → Below w.heap.size w w' ∧ (R.getD i (FP.val undef)).holds v w' ∧ ∀ j u, (R.getD j (FP.val undef)).holds u w1 → (R.getD j (FP.val undef)).holds u w' :=
    fun v w' h => ⟨hS.trans (h.2.mono hS.size), h.1, fun j u hu => (R.getD j (FP.val undef)).on _ _ _ hu h.2⟩
  cases r with
  | ok n w' =>
    cases n <;> dsimp only at h1 ⊢
    · exact fin _ _ h1
    · exact fin _ _ h1
    all_goals first
      | exact h1.elim
      | exact Calls.mono h1 (fun x w'' he => by obtain ⟨v, rfl, hp⟩ := he; exact ⟨v, rfl, fin _ _ hp⟩)
  | halt x w' => exact h1.elim
end
section
open Go Go.RowKit Go.Lib

def FP.one (x : Int) : FP := ⟨fun v w => ∃ g, v = .slice (some ⟨g, 0, none⟩) 1 1 ∧ Blk w g 3 #[.int .i64 x], fun v w w' h hb => by obtain ⟨g, rfl, hg⟩ := h; exact ⟨g, rfl, hg.on hb⟩⟩
def FP.rd (l : List Int) : FP := ⟨fun v w => ∃ A c, v = .slice A l.length c ∧ Rd inS w w.heap.size (.slice A l.length c) l, fun v w w' h hb => by obtain ⟨A, c, rfl, hg⟩ := h; exact ⟨A, c, rfl, hg.on hb⟩⟩
def FP.ls (V : List Int × Bool) : FP := ⟨fun v w => ∃ A c, v = .tuple #[.slice A V.1.length c, .bool V.2] ∧ Rd inS w w.heap.size (.slice A V.1.length c) V.1, fun v w w' h hb => by obtain ⟨A, c, rfl, hg⟩ := h; exact ⟨A, c, rfl, hg.on hb⟩⟩
theorem rd_blk1 {w : World} {g : Nat} {x : Int} (h : Blk w g 3 #[.int .i64 x]) : Rd inS w w.heap.size (.slice (some ⟨g, 0, none⟩) 1 1) [x] :=
  ⟨_, _, rfl, Nat.le_refl _, by unfold maxLen; omega, fun _ => ⟨g, 0, rfl, h.lt, fun k hk j hj => by
    obtain rfl : k = 0 := by simpa using hk
    obtain rfl : j = 0 := by (have : j < 1 := hj); omega
    exact h.cell 0⟩⟩
theorem app_one {w : World} {ty : TypeId} {g : Nat} {x : Int} {A : Option Addr} {c : Nat} {l : List Int} (hB : Blk w g 3 #[.int .i64 x]) (hr : Rd inS w w.heap.size (.slice A l.length c) l) (hl : l.length ≤ 1000000000) :
    ∃ v' w', (Builtin.append_ #[48, 48] ty #[.slice (some ⟨g, 0, none⟩) 1 1, .slice A l.length c]).run Tryz.prog w = .ok v' w' ∧ (FP.rd (x :: l)).holds v' w' ∧ Below w.heap.size w w' := by
  obtain ⟨i0, hii, hz0, hz1, hz2⟩ := info_parts infoIntC
  have ht : Tryz.prog.underlying 48 = some (.slice 3) := Tryz.underlying48
  cases l with
  | nil =>
    refine ⟨.slice (some ⟨g, 0, none⟩) 1 1, w, ?_, ⟨_, _, rfl, rd_blk1 hB⟩, Below.refl _ _⟩
    cases A with
    | none => simp [Builtin.append_, run_underlying ht, sizeOf, typeInfo, hii, Builtin.lenOf, Builtin.firstCells, storeCells]
    | some a =>
      have h := run_append_room_cells (P := Tryz.prog) w 48 ty 3 i0 ht hii g 0 1 1 a 0 c [] (by simp) (by simp) (by simp) (by omega) (by simp) (by simp)
      simpa [World.setCells] using h
  | cons y m =>
    obtain ⟨g2, off2, hA2, hg2⟩ := rd_addr hr (by simp)
    subst hA2
    obtain ⟨v', w', h1, h2, h3⟩ := run_append_arg_grows (P := Tryz.prog) w 48 ty 3 i0 (.int .i64 0) 1 8 ht hii hz0 hz1 hz2 rfl (by decide) ⟨g, 0, none⟩ 1 1 [.int .i64 x] rfl
      (fun j u hj => by
        have hj0 : j = 0 := by have := (List.getElem?_eq_some_iff.1 hj).1; simpa using this
        subst hj0
        obtain rfl := Option.some.inj hj
        exact hB.cell 0)
      ⟨g2, off2, none⟩ (y :: m).length c ((y :: m).map iv) (by simp) (fun j u hj => iv_src hr (y :: m).length _ rfl j u (by rw [List.take_length]; exact hj)) (by simp) (by unfold maxLen; omega) (by omega)
    refine ⟨v', w', h1, ?_, Below.grown (Below.refl _ _) h3 (Nat.le_refl _) (fun j hj => by cases hj)⟩
    obtain ⟨A3, c3, rfl, h4⟩ := rd_own1 (xs := x :: y :: m) h2 (by simp only [List.length_cons]; omega)
    exact ⟨A3, c3, rfl, h4⟩
/-- The group of the found points. -/
def fgL (a b : Int) (s : Bool) (M : Nat) : List Int := clV (sdB a b s) :: fdL a b s M
def fgV (a b : Int) (s : Bool) (M : Nat) : List Int × Bool := gpR (gpV (fgL a b s M))
theorem fg_mem {a b : Int} {s : Bool} {M : Nat} {d : Int} (h : d ∈ fgL a b s M) : d ∈ dvV (sdB a b s) := by
  rcases List.mem_cons.1 h with rfl | h
  · exact cl_mem
  · exact (List.mem_filter.1 h).1
theorem fg_bd {a b : Int} {s : Bool} {M : Nat} (h : twB a b = true) {d : Int} (hd : d ∈ fgL a b s M) : d ≠ 0 ∧ -1000000 ≤ d ∧ d ≤ 1000000 := by
  obtain ⟨h1, h2⟩ := dv_le (sd_bd h s).2.2 (fg_mem hd)
  have := (sd_bd h s).2.1
  exact ⟨h1, by omega, by omega⟩
theorem fg_sqf {a b : Int} {s : Bool} {M : Nat} (h : twB a b = true) {d : Int} (hd : d ∈ fgL a b s M) : Sqf d := dv_sqf (sd_bd h s).2.2 (fg_mem hd)
theorem fg_len {a b : Int} {s : Bool} {M : Nat} (h : twB a b = true) : (fgL a b s M).length ≤ 3000000 := by
  have h1 := dv_len (sd_bd h s).2.2 (by have := (sd_bd h s).2.1; omega)
  have h2 := List.length_filter_le (fdZ a b s M) (dvV (sdB a b s))
  unfold fgL fdL
  rw [List.length_cons]
  omega

set_option linter.unusedSimpArgs false in
set_option linter.unusedVariables false in
set_option maxRecDepth 8000 in
set_option maxHeartbeats 8000000 in
theorem rkGroup_any (a b : Int) (s : Bool) (M : Nat) (w : World) (h : twB a b = true) (hM : M ≤ 60) :
    Calls Tryz.prog 31 #[.agg #[.int .i64 a, .int .i64 b], .bool s, .int .i64 (M : Int)] w fun e w' => LsR (fgV a b s M) e w' ∧ Below w.heap.size w w' := by
  obtain ⟨ha, hb, -, -⟩ := twB_bd h
  obtain ⟨-, hB2, hB0⟩ := sd_bd h s
  have Hs := Lib.hid (fun w9 => dsSide_any a b s w9 ha hb)
  have Hcl := Lib.hid (fun w9 => tcClass_any (sdB a b s) w9 hB0 (by omega))
  have Hfd := Lib.hid (fun w9 => dsFound_any a b s M w9 h hM)
  have Hgr := Lib.hid (fun A c w9 h9 => dsGroup_any A c (fgL a b s M) w9 h9 (by have := fg_len (s := s) (M := M) h; omega) (fun d hd => fg_bd h hd))
  have HL := Lib.hid (show clV (sdB a b s) :: fdL a b s M = fgL a b s M from rfl)
  have HfL := Lib.hid (show (fdL a b s M).length ≤ 1000000000 from by have := fg_len (s := s) (M := M) h; unfold fgL at this; rw [List.length_cons] at this; omega)
  have HV := Lib.hid (show gpR (gpV (fgL a b s M)) = fgV a b s M from rfl)
  clear h ha hb hB2 hB0
  rw [HV.out] at Hgr
  clear HV
  generalize fgV a b s M = V at *
  generalize fgL a b s M = L at *
  generalize fdL a b s M = D at *
  generalize sdB a b s = B at *
  generalize sdA a b s = A0 at *
  generalize clV B = C at *
  go_enter Tryz.func31, Tryz.ntmps31
  go_wp2_with fail
  refine (Hs.out _).mono ?_; rintro e w1 ⟨rfl, hb1⟩
  have S1 := Lib.hid (show w.heap.size + 1 ≤ w1.heap.size by have h9 := hb1.size; (try simp only [World.size_alloc, World.size_setCell, World.size_drew] at h9); omega)
  have NTB := Lib.hid ((Blk.new w 24 #[.int .i64 a, .int .i64 b]).on hb1)
  have TB := NTB; clear NTB
  have Hb1 := Lib.hid (bthen (bal (Below.refl w.heap.size w) (Obj.cells #[.int .i64 a, .int .i64 b] 24)) hb1)
  clear hb1
  go_upto_region 2 with fail
  refine wp_region_flow3 [(FP.val (.int .i64 B)), (FP.val (.int .i64 C)), (FP.one C), (FP.val (.agg #[.int .i64 a, .int .i64 b])), (FP.val (.bool s)), (FP.val (.int .i64 (M : Int))), (FP.rd D), (FP.rd L), (FP.ls V), (FP.rd V.1), (FP.val (.bool V.2)), (FP.rd V.1), (FP.val (.bool V.2))] (by kernel_rfl) (by kernel_rfl) ?_ ?_
  · refine ⟨?_, ?_, ?_, ?_, ?_, ?_, ?_, ?_, ?_, ?_, ?_, ?_, ?_, trivial⟩
    · intro ev W hS hold hc hf hdep
      have e9 : ev (.tmp 9) = .int .i64 B := hold 9 (by kernel_rfl)
      clear hold hdep
      show FlowAt _ _ _ _ (fun v w' => (FP.val (.int .i64 B)).holds v w' ∧ Below W.heap.size W w')
      unfold FlowAt
      dsimp only [FP.val, FP.one, FP.rd, FP.ls]
      go_simp
      exact Below.refl _ _
    · intro ev W hS hold hc hf hdep
      have e16 : ev (.tmp 16) = (.int .i64 B) := hdep 0 16 (by kernel_rfl)
      clear hold hdep
      show FlowAt _ _ _ _ (fun v w' => (FP.val (.int .i64 C)).holds v w' ∧ Below W.heap.size W w')
      unfold FlowAt
      dsimp only [FP.val, FP.one, FP.rd, FP.ls]
      go_simp
      go_at_call 60
      refine (Hcl.out _).mono ?_
      rintro e w7 ⟨rfl, hb7⟩
      exact ⟨_, rfl, rfl, hb7⟩
    · intro ev W hS hold hc hf hdep
      have e17 : ev (.tmp 17) = (.int .i64 C) := hdep 1 17 (by kernel_rfl)
      clear hold hdep
      show FlowAt _ _ _ _ (fun v w' => (FP.one C).holds v w' ∧ Below W.heap.size W w')
      unfold FlowAt
      dsimp only [FP.val, FP.one, FP.rd, FP.ls]
      go_simp
      exact ⟨Blk.new _ _ _, bal (Below.refl _ _) _⟩
    · intro ev W hS hold hc hf hdep
      have e3 : ev (.tmp 3) = .pointer (some ⟨w.heap.size, 0, none⟩) := hold 3 (by kernel_rfl)
      have q0 := (hS.cell (p := ⟨w.heap.size, 0, none⟩) TB.out.lt).trans (TB.out.cell 0)
      have q1 := (hS.cell (p := ⟨w.heap.size, 1, none⟩) TB.out.lt).trans (TB.out.cell 1)
      simp at q0 q1
      clear hold hdep
      show FlowAt _ _ _ _ (fun v w' => (FP.val (.agg #[.int .i64 a, .int .i64 b])).holds v w' ∧ Below W.heap.size W w')
      unfold FlowAt
      dsimp only [FP.val, FP.one, FP.rd, FP.ls]
      go_simp
      exact Below.refl _ _
    · intro ev W hS hold hc hf hdep
      have e1 : ev (.tmp 1) = .bool s := hold 1 (by kernel_rfl)
      clear hold hdep
      show FlowAt _ _ _ _ (fun v w' => (FP.val (.bool s)).holds v w' ∧ Below W.heap.size W w')
      unfold FlowAt
      dsimp only [FP.val, FP.one, FP.rd, FP.ls]
      go_simp
      exact Below.refl _ _
    · intro ev W hS hold hc hf hdep
      have e2 : ev (.tmp 2) = .int .i64 (M : Int) := hold 2 (by kernel_rfl)
      clear hold hdep
      show FlowAt _ _ _ _ (fun v w' => (FP.val (.int .i64 (M : Int))).holds v w' ∧ Below W.heap.size W w')
      unfold FlowAt
      dsimp only [FP.val, FP.one, FP.rd, FP.ls]
      go_simp
      exact Below.refl _ _
    · intro ev W hS hold hc hf hdep
      have e19 : ev (.tmp 19) = (.agg #[.int .i64 a, .int .i64 b]) := hdep 3 19 (by kernel_rfl)
      have e20 : ev (.tmp 20) = (.bool s) := hdep 4 20 (by kernel_rfl)
      have e21 : ev (.tmp 21) = (.int .i64 (M : Int)) := hdep 5 21 (by kernel_rfl)
      clear hold hdep
      show FlowAt _ _ _ _ (fun v w' => (FP.rd D).holds v w' ∧ Below W.heap.size W w')
      unfold FlowAt
      dsimp only [FP.val, FP.one, FP.rd, FP.ls]
      go_simp
      go_at_call 61
      refine (Hfd.out _).mono ?_
      rintro e w7 ⟨⟨A7, c7, rfl, hr7⟩, hb7⟩
      exact ⟨_, rfl, ⟨_, _, rfl, hr7⟩, hb7⟩
    · intro ev W hS hold hc hf hdep
      obtain ⟨g18, e18, B18⟩ : (FP.one C).holds (ev (.tmp 18)) W := hdep 2 18 (by kernel_rfl)
      obtain ⟨A22, c22, e22, B22⟩ : (FP.rd D).holds (ev (.tmp 22)) W := hdep 6 22 (by kernel_rfl)
      clear hold hdep
      show FlowAt _ _ _ _ (fun v w' => (FP.rd L).holds v w' ∧ Below W.heap.size W w')
      unfold FlowAt
      dsimp only [FP.val, FP.one, FP.rd, FP.ls]
      obtain ⟨v9, w9, hrun, h91, h92⟩ := app_one (ty := 48) B18 B22 HfL.out
      rw [HL.out] at h91
      simp only [execOp, resolve, invoke, builtin, Sem.run_bind, Sem.run_pure, Result.andThen_ok, List.map_toArray, List.map_cons, List.map_nil, e18, e22, hrun]
      exact ⟨h91, h92⟩
    · intro ev W hS hold hc hf hdep
      obtain ⟨A23, c23, e23, B23⟩ : (FP.rd L).holds (ev (.tmp 23)) W := hdep 7 23 (by kernel_rfl)
      clear hold hdep
      show FlowAt _ _ _ _ (fun v w' => (FP.ls V).holds v w' ∧ Below W.heap.size W w')
      unfold FlowAt
      dsimp only [FP.val, FP.one, FP.rd, FP.ls]
      go_simp
      go_at_call 59
      refine (Hgr.out _ _ _ B23).mono ?_
      rintro e w7 ⟨⟨A7, c7, rfl, hr7⟩, hb7⟩
      exact ⟨_, rfl, ⟨_, _, rfl, hr7⟩, hb7⟩
    · intro ev W hS hold hc hf hdep
      obtain ⟨A24, c24, e24, B24⟩ : (FP.ls V).holds (ev (.tmp 24)) W := hdep 8 24 (by kernel_rfl)
      clear hold hdep
      show FlowAt _ _ _ _ (fun v w' => (FP.rd V.1).holds v w' ∧ Below W.heap.size W w')
      unfold FlowAt
      dsimp only [FP.val, FP.one, FP.rd, FP.ls]
      go_simp
      exact ⟨⟨_, _, ⟨rfl, rfl⟩, B24⟩, Below.refl _ _⟩
    · intro ev W hS hold hc hf hdep
      obtain ⟨A24, c24, e24, B24⟩ : (FP.ls V).holds (ev (.tmp 24)) W := hdep 8 24 (by kernel_rfl)
      clear hold hdep
      show FlowAt _ _ _ _ (fun v w' => (FP.val (.bool V.2)).holds v w' ∧ Below W.heap.size W w')
      unfold FlowAt
      dsimp only [FP.val, FP.one, FP.rd, FP.ls]
      go_simp
      exact Below.refl _ _
    · intro ev W hS hold hc hf hdep
      obtain ⟨A25, c25, e25, B25⟩ : (FP.rd V.1).holds (ev (.tmp 25)) W := hdep 9 25 (by kernel_rfl)
      clear hold hdep
      show FlowAt _ _ _ _ (fun v w' => (FP.rd V.1).holds v w' ∧ Below W.heap.size W w')
      unfold FlowAt
      dsimp only [FP.val, FP.one, FP.rd, FP.ls]
      go_simp
      exact ⟨⟨_, _, ⟨rfl, rfl⟩, B25⟩, Below.refl _ _⟩
    · intro ev W hS hold hc hf hdep
      have e26 : ev (.tmp 26) = (.bool V.2) := hdep 10 26 (by kernel_rfl)
      clear hold hdep
      show FlowAt _ _ _ _ (fun v w' => (FP.val (.bool V.2)).holds v w' ∧ Below W.heap.size W w')
      unfold FlowAt
      dsimp only [FP.val, FP.one, FP.rd, FP.ls]
      go_simp
      exact Below.refl _ _
  · intro f wz hbz hfz
    have h11 : (FP.rd V.1).holds (f 11) wz := hfz 11 (by decide)
    have h12 : f 12 = .bool V.2 := hfz 12 (by decide)
    obtain ⟨A9, c9, e9, h9⟩ := h11
    have H9 := Lib.hid h9; clear h9
    have HbZ := Lib.hid (bthen Hb1.out hbz)
    clear hfz hbz
    simp only [putsF, List.setIfInBounds_toArray, List.set_cons_zero, List.set_cons_succ, Nat.zero_add, Nat.reduceAdd]
    rw [e9, h12]
    clear e9 h12
    go_wp2
    exact bodyPost_ret (v := .tuple #[.slice A9 V.1.length c9, .bool V.2]) (by simp [results, Tryz.results31, go_sem]) rfl ⟨⟨_, _, rfl, H9.out⟩, HbZ.out⟩
set_option linter.unusedSimpArgs false in
set_option linter.unusedVariables false in
set_option maxRecDepth 8000 in
set_option maxHeartbeats 8000000 in
theorem foundGroup_any (a b : Int) (s : Bool) (M : Nat) (w : World) (h : twB a b = true) (hM : M ≤ 60) :
    Calls Tryz.prog 28 #[.agg #[.int .i64 a, .int .i64 b], .bool s, .int .i64 (M : Int)] w fun e w' => LsR (fgV a b s M) e w' ∧ Below w.heap.size w w' := by
  obtain ⟨ha, hb, -, -⟩ := twB_bd h
  obtain ⟨-, hB2, hB0⟩ := sd_bd h s
  have Hs := Lib.hid (fun w9 => side_any a b s w9 ha hb)
  have Hcl := Lib.hid (fun w9 => squarefree_any (sdB a b s) w9 hB0 (by omega))
  have Hfd := Lib.hid (fun w9 => found_any a b s M w9 h hM)
  have Hgr := Lib.hid (fun A c w9 h9 => classGroup_any A c (fgL a b s M) w9 h9 (by have := fg_len (s := s) (M := M) h; omega) (fun d hd => fg_bd h hd) (fun d hd => fg_sqf h hd))
  have HL := Lib.hid (show clV (sdB a b s) :: fdL a b s M = fgL a b s M from rfl)
  have HfL := Lib.hid (show (fdL a b s M).length ≤ 1000000000 from by have := fg_len (s := s) (M := M) h; unfold fgL at this; rw [List.length_cons] at this; omega)
  have HV := Lib.hid (show gpR (gpV (fgL a b s M)) = fgV a b s M from rfl)
  clear h ha hb hB2 hB0
  rw [HV.out] at Hgr
  clear HV
  generalize fgV a b s M = V at *
  generalize fgL a b s M = L at *
  generalize fdL a b s M = D at *
  generalize sdB a b s = B at *
  generalize sdA a b s = A0 at *
  generalize clV B = C at *
  go_enter Tryz.func28, Tryz.ntmps28
  go_wp2_with fail
  refine (Hs.out _).mono ?_; rintro e w1 ⟨rfl, hb1⟩
  have S1 := Lib.hid (show w.heap.size + 1 ≤ w1.heap.size by have h9 := hb1.size; (try simp only [World.size_alloc, World.size_setCell, World.size_drew] at h9); omega)
  have NTB := Lib.hid ((Blk.new w 24 #[.int .i64 a, .int .i64 b]).on hb1)
  have TB := NTB; clear NTB
  have Hb1 := Lib.hid (bthen (bal (Below.refl w.heap.size w) (Obj.cells #[.int .i64 a, .int .i64 b] 24)) hb1)
  clear hb1
  go_upto_region 2 with fail
  refine wp_region_flow3 [(FP.val (.int .i64 B)), (FP.val (.int .i64 C)), (FP.one C), (FP.val (.agg #[.int .i64 a, .int .i64 b])), (FP.val (.bool s)), (FP.val (.int .i64 (M : Int))), (FP.rd D), (FP.rd L), (FP.ls V), (FP.rd V.1), (FP.val (.bool V.2)), (FP.rd V.1), (FP.val (.bool V.2))] (by kernel_rfl) (by kernel_rfl) ?_ ?_
  · refine ⟨?_, ?_, ?_, ?_, ?_, ?_, ?_, ?_, ?_, ?_, ?_, ?_, ?_, trivial⟩
    · intro ev W hS hold hc hf hdep
      have e9 : ev (.tmp 9) = .int .i64 B := hold 9 (by kernel_rfl)
      clear hold hdep
      show FlowAt _ _ _ _ (fun v w' => (FP.val (.int .i64 B)).holds v w' ∧ Below W.heap.size W w')
      unfold FlowAt
      dsimp only [FP.val, FP.one, FP.rd, FP.ls]
      go_simp
      exact Below.refl _ _
    · intro ev W hS hold hc hf hdep
      have e16 : ev (.tmp 16) = (.int .i64 B) := hdep 0 16 (by kernel_rfl)
      clear hold hdep
      show FlowAt _ _ _ _ (fun v w' => (FP.val (.int .i64 C)).holds v w' ∧ Below W.heap.size W w')
      unfold FlowAt
      dsimp only [FP.val, FP.one, FP.rd, FP.ls]
      go_simp
      go_at_call 53
      refine (Hcl.out _).mono ?_
      rintro e w7 ⟨rfl, hb7⟩
      exact ⟨_, rfl, rfl, hb7⟩
    · intro ev W hS hold hc hf hdep
      have e17 : ev (.tmp 17) = (.int .i64 C) := hdep 1 17 (by kernel_rfl)
      clear hold hdep
      show FlowAt _ _ _ _ (fun v w' => (FP.one C).holds v w' ∧ Below W.heap.size W w')
      unfold FlowAt
      dsimp only [FP.val, FP.one, FP.rd, FP.ls]
      go_simp
      exact ⟨Blk.new _ _ _, bal (Below.refl _ _) _⟩
    · intro ev W hS hold hc hf hdep
      have e3 : ev (.tmp 3) = .pointer (some ⟨w.heap.size, 0, none⟩) := hold 3 (by kernel_rfl)
      have q0 := (hS.cell (p := ⟨w.heap.size, 0, none⟩) TB.out.lt).trans (TB.out.cell 0)
      have q1 := (hS.cell (p := ⟨w.heap.size, 1, none⟩) TB.out.lt).trans (TB.out.cell 1)
      simp at q0 q1
      clear hold hdep
      show FlowAt _ _ _ _ (fun v w' => (FP.val (.agg #[.int .i64 a, .int .i64 b])).holds v w' ∧ Below W.heap.size W w')
      unfold FlowAt
      dsimp only [FP.val, FP.one, FP.rd, FP.ls]
      go_simp
      exact Below.refl _ _
    · intro ev W hS hold hc hf hdep
      have e1 : ev (.tmp 1) = .bool s := hold 1 (by kernel_rfl)
      clear hold hdep
      show FlowAt _ _ _ _ (fun v w' => (FP.val (.bool s)).holds v w' ∧ Below W.heap.size W w')
      unfold FlowAt
      dsimp only [FP.val, FP.one, FP.rd, FP.ls]
      go_simp
      exact Below.refl _ _
    · intro ev W hS hold hc hf hdep
      have e2 : ev (.tmp 2) = .int .i64 (M : Int) := hold 2 (by kernel_rfl)
      clear hold hdep
      show FlowAt _ _ _ _ (fun v w' => (FP.val (.int .i64 (M : Int))).holds v w' ∧ Below W.heap.size W w')
      unfold FlowAt
      dsimp only [FP.val, FP.one, FP.rd, FP.ls]
      go_simp
      exact Below.refl _ _
    · intro ev W hS hold hc hf hdep
      have e19 : ev (.tmp 19) = (.agg #[.int .i64 a, .int .i64 b]) := hdep 3 19 (by kernel_rfl)
      have e20 : ev (.tmp 20) = (.bool s) := hdep 4 20 (by kernel_rfl)
      have e21 : ev (.tmp 21) = (.int .i64 (M : Int)) := hdep 5 21 (by kernel_rfl)
      clear hold hdep
      show FlowAt _ _ _ _ (fun v w' => (FP.rd D).holds v w' ∧ Below W.heap.size W w')
      unfold FlowAt
      dsimp only [FP.val, FP.one, FP.rd, FP.ls]
      go_simp
      go_at_call 54
      refine (Hfd.out _).mono ?_
      rintro e w7 ⟨⟨A7, c7, rfl, hr7⟩, hb7⟩
      exact ⟨_, rfl, ⟨_, _, rfl, hr7⟩, hb7⟩
    · intro ev W hS hold hc hf hdep
      obtain ⟨g18, e18, B18⟩ : (FP.one C).holds (ev (.tmp 18)) W := hdep 2 18 (by kernel_rfl)
      obtain ⟨A22, c22, e22, B22⟩ : (FP.rd D).holds (ev (.tmp 22)) W := hdep 6 22 (by kernel_rfl)
      clear hold hdep
      show FlowAt _ _ _ _ (fun v w' => (FP.rd L).holds v w' ∧ Below W.heap.size W w')
      unfold FlowAt
      dsimp only [FP.val, FP.one, FP.rd, FP.ls]
      obtain ⟨v9, w9, hrun, h91, h92⟩ := app_one (ty := 48) B18 B22 HfL.out
      rw [HL.out] at h91
      simp only [execOp, resolve, invoke, builtin, Sem.run_bind, Sem.run_pure, Result.andThen_ok, List.map_toArray, List.map_cons, List.map_nil, e18, e22, hrun]
      exact ⟨h91, h92⟩
    · intro ev W hS hold hc hf hdep
      obtain ⟨A23, c23, e23, B23⟩ : (FP.rd L).holds (ev (.tmp 23)) W := hdep 7 23 (by kernel_rfl)
      clear hold hdep
      show FlowAt _ _ _ _ (fun v w' => (FP.ls V).holds v w' ∧ Below W.heap.size W w')
      unfold FlowAt
      dsimp only [FP.val, FP.one, FP.rd, FP.ls]
      go_simp
      go_at_call 52
      refine (Hgr.out _ _ _ B23).mono ?_
      rintro e w7 ⟨⟨A7, c7, rfl, hr7⟩, hb7⟩
      exact ⟨_, rfl, ⟨_, _, rfl, hr7⟩, hb7⟩
    · intro ev W hS hold hc hf hdep
      obtain ⟨A24, c24, e24, B24⟩ : (FP.ls V).holds (ev (.tmp 24)) W := hdep 8 24 (by kernel_rfl)
      clear hold hdep
      show FlowAt _ _ _ _ (fun v w' => (FP.rd V.1).holds v w' ∧ Below W.heap.size W w')
      unfold FlowAt
      dsimp only [FP.val, FP.one, FP.rd, FP.ls]
      go_simp
      exact ⟨⟨_, _, ⟨rfl, rfl⟩, B24⟩, Below.refl _ _⟩
    · intro ev W hS hold hc hf hdep
      obtain ⟨A24, c24, e24, B24⟩ : (FP.ls V).holds (ev (.tmp 24)) W := hdep 8 24 (by kernel_rfl)
      clear hold hdep
      show FlowAt _ _ _ _ (fun v w' => (FP.val (.bool V.2)).holds v w' ∧ Below W.heap.size W w')
      unfold FlowAt
      dsimp only [FP.val, FP.one, FP.rd, FP.ls]
      go_simp
      exact Below.refl _ _
    · intro ev W hS hold hc hf hdep
      obtain ⟨A25, c25, e25, B25⟩ : (FP.rd V.1).holds (ev (.tmp 25)) W := hdep 9 25 (by kernel_rfl)
      clear hold hdep
      show FlowAt _ _ _ _ (fun v w' => (FP.rd V.1).holds v w' ∧ Below W.heap.size W w')
      unfold FlowAt
      dsimp only [FP.val, FP.one, FP.rd, FP.ls]
      go_simp
      exact ⟨⟨_, _, ⟨rfl, rfl⟩, B25⟩, Below.refl _ _⟩
    · intro ev W hS hold hc hf hdep
      have e26 : ev (.tmp 26) = (.bool V.2) := hdep 10 26 (by kernel_rfl)
      clear hold hdep
      show FlowAt _ _ _ _ (fun v w' => (FP.val (.bool V.2)).holds v w' ∧ Below W.heap.size W w')
      unfold FlowAt
      dsimp only [FP.val, FP.one, FP.rd, FP.ls]
      go_simp
      exact Below.refl _ _
  · intro f wz hbz hfz
    have h11 : (FP.rd V.1).holds (f 11) wz := hfz 11 (by decide)
    have h12 : f 12 = .bool V.2 := hfz 12 (by decide)
    obtain ⟨A9, c9, e9, h9⟩ := h11
    have H9 := Lib.hid h9; clear h9
    have HbZ := Lib.hid (bthen Hb1.out hbz)
    clear hfz hbz
    simp only [putsF, List.setIfInBounds_toArray, List.set_cons_zero, List.set_cons_succ, Nat.zero_add, Nat.reduceAdd]
    rw [e9, h12]
    clear e9 h12
    go_wp2
    exact bodyPost_ret (v := .tuple #[.slice A9 V.1.length c9, .bool V.2]) (by simp [results, Tryz.results28, go_sem]) rfl ⟨⟨_, _, rfl, H9.out⟩, HbZ.out⟩
end
end Go.Proofs.YthdfpfhkmfmnbaaGreat
