/- Own texts put together: The program's answer at a prime: the first pairs, localPair, soluble; Bad primes of a quartic: what both sides list; Bad primes of a quartic: the walks of both sides. Conditions: those of each theorem. -/
import Derived.Test.YthdfpfhkmfmnbaaGreatRcM10
import Derived.Test.YthdfpfhkmfmnbaaGreatRcM3
namespace Go.Proofs.YthdfpfhkmfmnbaaGreat
section
open Go Go.RowKit

def fpL (d a c : Int) (p m : Nat) : List (Nat × Nat) := ((List.range m).filter (fun m => lpB d a c m 1 p 1)).map (fun m => (m, 1))
theorem fpL_succ (d a c : Int) (p m : Nat) : fpL d a c p (m + 1) = if lpB d a c m 1 p 1 = true then fpL d a c p m ++ [(m, 1)] else fpL d a c p m := by
  unfold fpL
  rw [List.range_succ, List.filter_append]
  by_cases h : lpB d a c m 1 p 1 = true
  · rw [if_pos h, List.filter_cons_of_pos (p := fun m => lpB d a c m 1 p 1) h, List.map_append]; rfl
  · rw [if_neg h, List.filter_cons_of_neg (p := fun m => lpB d a c m 1 p 1) h, List.map_append]; simp
theorem length_fpL (d a c : Int) (p m : Nat) : (fpL d a c p m).length ≤ m := by
  unfold fpL
  rw [List.length_map]
  have h1 := List.length_filter_le (fun m => lpB d a c m 1 p 1) (List.range m)
  rwa [List.length_range] at h1
theorem fp_end (d a c : Int) (p : Nat) : fpV d a c p = fpL d a c p p ++ (if lpB d a c 1 0 p 1 = true then [(1, 0)] else []) := rfl
theorem own_pair {w : World} {b : Nat} {v : Value} {l : List (Nat × Nat)} (h : w.ownsRow b 123 2 v l.length (npS.flat l)) : ∃ A cp, v = .slice A l.length cp ∧ Rd npS w w.heap.size (.slice A l.length cp) l := by
  obtain ⟨A, cp, rfl⟩ := own_formI h
  exact ⟨A, cp, rfl, Rd.of_own h rfl⟩
set_option linter.unusedSimpArgs false in
set_option linter.unusedVariables false in
set_option maxRecDepth 8000 in
set_option maxHeartbeats 8000000 in
theorem firstPairs_any (d a c : Int) (p : Nat) (w : World) (hp : 2 ≤ p) (hp2 : p ≤ 1000) :
    Calls Tryz.prog 131 #[.agg #[.int .i64 d, .int .i64 a, .int .i64 c], .int .i64 (p : Int)] w fun e w' => (∃ v, e = .returned v ∧ w'.ownsRow w.heap.size 123 2 v (fpV d a c p).length (npS.flat (fpV d a c p))) ∧ Below w.heap.size w w' := by
  obtain ⟨i0, hi, hz0, hz1, hz2⟩ := info_parts infoPr
  have Hc := Lib.hid (show ∀ (m : Nat) w9, Calls Tryz.prog 145 #[.agg #[.int .i64 d, .int .i64 a, .int .i64 c], .int .i64 (m : Int), .int .i64 1, .int .i64 (p : Int), .int .i64 1] w9 fun r w' => r = .returned (.bool (lpB d a c m 1 p 1)) ∧ Below w9.heap.size w9 w' from fun m w9 => possible_any d a c m 1 p 1 w9 hp hp2 (by omega) (by rw [Nat.pow_one]; omega))
  have Hc1 := Lib.hid (show ∀ w9, Calls Tryz.prog 145 #[.agg #[.int .i64 d, .int .i64 a, .int .i64 c], .int .i64 1, .int .i64 0, .int .i64 (p : Int), .int .i64 1] w9 fun r w' => r = .returned (.bool (lpB d a c 1 0 p 1)) ∧ Below w9.heap.size w9 w' from fun w9 => possible_any d a c 1 0 p 1 w9 hp hp2 (by omega) (by rw [Nat.pow_one]; omega))
  have Hend := Lib.hid (fp_end d a c p)
  have HbA := Lib.hid (show Below w.heap.size w (w.alloc (Obj.cells #[.int .i64 d, .int .i64 a, .int .i64 c] 82)) from bal (Below.refl _ _) _)
  have HB := Lib.hid (Blk.new w 82 #[.int .i64 d, .int .i64 a, .int .i64 c])
  go_enter Tryz.func131, Tryz.ntmps131
  go_wp2
  go_loopw [5, 8] (fun o i wr => ∃ m : Nat, m ≤ p ∧ i = .int .i64 (m : Int) ∧ Hid (wr.ownsRow (w.heap.size + 1) 123 2 o (fpL d a c p m).length (npS.flat (fpL d a c p m))) ∧ Hid (Blk wr w.heap.size 82 #[.int .i64 d, .int .i64 a, .int .i64 c]) ∧ Hid (Below w.heap.size w wr)) (fun _ i _ => p - (intOf i).toNat)
  case atStart => exact ⟨0, Nat.zero_le _, rfl, Lib.hid ⟨rfl, Or.inl ⟨rfl, rfl⟩⟩, HB, HbA⟩
  case round =>
    obtain ⟨m, hm, rfl, Hrow, HBr, Hb⟩ := hrel
    have q0 : wr.cell? ⟨w.heap.size, 0, none⟩ = some (.int .i64 d) := HBr.out.cell 0
    have q1 : wr.cell? ⟨w.heap.size, 1, none⟩ = some (.int .i64 a) := HBr.out.cell 1
    have q2 : wr.cell? ⟨w.heap.size, 2, none⟩ = some (.int .i64 c) := HBr.out.cell 2
    have ql := HBr.out.lt
    have Hlen := Lib.hid (length_fpL d a c p m)
    by_cases hlt : m < p
    · have hd0 : decide ((m : Int) < (p : Int)) = true := decide_eq_true (by omega)
      have hd0n : decide (m < p) = true := decide_eq_true hlt
      have Hs := Lib.hid (fpL_succ d a c p m)
      go_wp2_with fail
      refine (Hc.out m _).mono ?_; rintro e w3 ⟨rfl, hb3⟩
      have Hb3 := Lib.hid (bthen Hb.out hb3); have HB3 := Lib.hid (HBr.out.on hb3); have Hrow3 := Lib.hid (own_below Hrow.out hb3)
      clear hb3 q0 q1 q2 ql Hb HBr Hrow
      cases hP : lpB d a c m 1 p 1
      · rw [hP] at Hs
        have Hs2 := Lib.hid (show fpL d a c p (m + 1) = fpL d a c p m from Hs.out)
        clear hP Hs
        go_wp2
        go_roundw
        case rel => exact ⟨m + 1, by omega, by go_num, by rw [Hs2.out]; exact Hrow3, HB3, Hb3⟩
        case measure => simp [intOf]; omega
      · rw [hP] at Hs
        have Hs2 := Lib.hid (show fpL d a c p (m + 1) = fpL d a c p m ++ [(m, 1)] from Hs.out)
        clear hP Hs
        have hszw : w.heap.size + 1 ≤ w3.heap.size := HB3.out.lt
        have hszx : w.heap.size ≤ w3.heap.size := by omega
        have hlen9 := Hlen.out
        go_wp2_with (at_builtin; refine wpList_append_own _ rfl _ _ 120 rfl (w.heap.size + 1) 123 i0 (.agg #[.int .i64 0, .int .i64 0]) 2 16 Tryz.underlying120 hi hz0 hz1 hz2 rfl (by decide) _ _ _ rfl (Hrow3.out.alloc _) ⟨w3.heap.size, 0, none⟩ 1 1 [.int .i64 (m : Int), .int .i64 1] rfl rfl (cell_two_new _ _ _ _) (by simp [Value.oneCell']) (by unfold maxLen; omega) (by omega) (by simp; omega) ?_)
        intro v8 w8 hown8 hg8 _
        have HB8 := Lib.hid (Blk.grownI (HB3.out.alloc (Obj.cells #[.int .i64 (m : Int), .int .i64 1] 123)) hg8 (fun r hr => by have h1 := (Hrow3.out.lt r hr).1; omega))
        have Hb8 := Lib.hid (show Below w.heap.size w w8 from Below.grown (Hb3.out.alloc hszx _) hg8 (by simp; omega) (fun j hj => by have h1 := (Hrow3.out.lt j hj).1; omega))
        have Hrow8 := Lib.hid hown8
        clear hown8 hg8 hlen9
        go_wp2
        go_roundw
        case rel => exact ⟨m + 1, by omega, by go_num, by rw [Hs2.out, np_snoc, List.length_append]; exact Hrow8, HB8, Hb8⟩
        case measure => simp [intOf]; omega
    · obtain rfl : m = p := by omega
      have hd0 : decide ((m : Int) < (m : Int)) = false := decide_eq_false (by omega)
      have hd0n : decide (m < m) = false := decide_eq_false (by omega)
      go_wp2_with fail
      refine (Hc1.out _).mono ?_; rintro e w3 ⟨rfl, hb3⟩
      have Hb3 := Lib.hid (bthen Hb.out hb3); have HB3 := Lib.hid (HBr.out.on hb3); have Hrow3 := Lib.hid (own_below Hrow.out hb3)
      clear hb3 q0 q1 q2 ql Hb HBr Hrow
      cases hP : lpB d a c 1 0 m 1
      · rw [hP] at Hend
        have Hs2 := Lib.hid (show fpV d a c m = fpL d a c m m by rw [Hend.out, if_neg (by decide), List.append_nil])
        clear hP Hend
        go_wp2
        go_ret
        exact ⟨⟨_, rfl, by rw [Hs2.out]; exact own_mono Hrow3.out (by omega)⟩, Hb3.out⟩
      · rw [hP] at Hend
        have Hs2 := Lib.hid (show fpV d a c m = fpL d a c m m ++ [(1, 0)] by rw [Hend.out, if_pos rfl])
        clear hP Hend
        have hszw : w.heap.size + 1 ≤ w3.heap.size := HB3.out.lt
        have hszx : w.heap.size ≤ w3.heap.size := by omega
        have hlen9 := Hlen.out
        go_wp2_with (at_builtin; refine wpList_append_own _ rfl _ _ 120 rfl (w.heap.size + 1) 123 i0 (.agg #[.int .i64 0, .int .i64 0]) 2 16 Tryz.underlying120 hi hz0 hz1 hz2 rfl (by decide) _ _ _ rfl (Hrow3.out.alloc _) ⟨w3.heap.size, 0, none⟩ 1 1 [.int .i64 1, .int .i64 0] rfl rfl (cell_two_new _ _ _ _) (by simp [Value.oneCell']) (by unfold maxLen; omega) (by omega) (by simp; omega) ?_)
        intro v8 w8 hown8 hg8 _
        have HB8 := Lib.hid (Blk.grownI (HB3.out.alloc (Obj.cells #[.int .i64 1, .int .i64 0] 123)) hg8 (fun r hr => by have h1 := (Hrow3.out.lt r hr).1; omega))
        have Hb8 := Lib.hid (show Below w.heap.size w w8 from Below.grown (Hb3.out.alloc hszx _) hg8 (by simp; omega) (fun j hj => by have h1 := (Hrow3.out.lt j hj).1; omega))
        have Hrow8 := Lib.hid hown8
        clear hown8 hg8 hlen9
        go_wp2
        go_ret
        exact ⟨⟨_, rfl, by rw [Hs2.out, np_snoc, List.length_append]; exact own_mono Hrow8.out (by omega)⟩, Hb8.out⟩
theorem depth_blw (p : Nat) (w : World) (hp : 2 ≤ p) (hp2 : p ≤ 1000) : Calls Tryz.prog 133 #[.int .i64 (p : Int)] w fun r w' => r = .returned (.int .i64 (dpV p : Int)) ∧ Below w.heap.size w w' := by
  refine (depth_any p w hp hp2).mono ?_
  rintro e w1 ⟨rfl, rfl⟩
  exact ⟨rfl, Below.refl _ _⟩
theorem len_next {p k n m : Nat} (h : n ≤ 2 * p ^ k) (hm : m ≤ p * n) : m ≤ 2 * p ^ (k + 1) := by
  have h1 := Nat.mul_le_mul_left p h
  rw [Nat.pow_succ, Nat.mul_comm (p ^ k), ← Nat.mul_assoc, Nat.mul_comm 2 p, Nat.mul_assoc]; omega
theorem len_fits {p k n : Nat} (h : n ≤ 2 * p ^ k) (hb : p ^ (k + 1) ≤ 1000000000) : p * n ≤ 4000000000 := by
  have h1 := Nat.mul_le_mul_left p h
  rw [Nat.pow_succ, Nat.mul_comm] at hb
  rw [← Nat.mul_assoc, Nat.mul_comm p 2, Nat.mul_assoc] at h1; omega
set_option linter.unusedSimpArgs false in
set_option linter.unusedVariables false in
set_option maxRecDepth 8000 in
set_option maxHeartbeats 8000000 in
theorem localPair_any (d a c : Int) (p : Nat) (w : World) (hp : 2 ≤ p) (hp2 : p ≤ 1000) :
    Calls Tryz.prog 119 #[.agg #[.int .i64 d, .int .i64 a, .int .i64 c], .int .i64 (p : Int)] w (FdR (fdV d a c p) w) := by
  have Hv := Lib.hid (show fdV d a c p = fdS (posB d a c p) (lifB d a c p) (dpV p) 1 from rfl)
  generalize fdV d a c p = V at *
  have Hd := Lib.hid (fun w9 => depth_blw p w9 hp hp2)
  have hD1 := dp_pos hp hp2
  have hD2 := dp_le hp
  have Hpw := Lib.hid (fun (k : Nat) (hk : k ≤ dpV p) => dp_pow hp hk)
  generalize dpV p = D at *
  have Hfp := Lib.hid (fun w9 => firstPairs_any d a c p w9 hp hp2)
  have Hin := Lib.hid (fp_in (d := d) (a := a) (c := c) hp)
  have Hfl := Lib.hid (length_fpV (d := d) (a := a) (c := c) (p := p))
  generalize fpV d a c p = l0 at *
  go_enter Tryz.func119, Tryz.ntmps119
  go_wp2_with fail
  refine (Hfp.out _).mono ?_; rintro e w1 ⟨⟨v, rfl, hrow⟩, hb1⟩
  obtain ⟨A0, cp0, rfl, hrd⟩ := own_pair hrow
  have Hrd := Lib.hid hrd; clear hrow hrd
  have S1 := Lib.hid (show w.heap.size + 1 ≤ w1.heap.size by have h9 := hb1.size; (try simp only [World.size_alloc, World.size_setCell, World.size_drew] at h9); omega)
  have NQQ := Lib.hid ((Blk.new w 82 #[.int .i64 d, .int .i64 a, .int .i64 c]).on hb1)
  have QQ := NQQ; clear NQQ
  have Hb1 := Lib.hid (bthen (bal (Below.refl w.heap.size w) (Obj.cells #[.int .i64 d, .int .i64 a, .int .i64 c] 82)) hb1)
  clear hb1
  go_wp2
  go_loopw [8, 9] (fun lv kv wr => ∃ (k n : Nat) (l : List (Nat × Nat)) (A : Option Addr) (cp : Nat), lv = .slice A l.length cp ∧ kv = .int .i64 (k : Int) ∧ 1 ≤ k ∧ k + n = D ∧ Hid (InP d a c p k l) ∧ Hid (V = fdS (posB d a c p) (lifB d a c p) (n + 1) k) ∧ Hid (Rd npS wr wr.heap.size (.slice A l.length cp) l) ∧ Hid (l.length ≤ 2 * p ^ k) ∧ Hid (Blk wr (w.heap.size) 82 #[.int .i64 d, .int .i64 a, .int .i64 c]) ∧ Hid (Below w.heap.size w wr)) (fun _ kv _ => D - (intOf kv).toNat)
  case atStart => exact ⟨1, D - 1, l0, A0, cp0, rfl, rfl, Nat.le_refl _, by omega, Hin, Lib.hid (by rw [Hv.out, show D - 1 + 1 = D by omega]), Hrd, Lib.hid (by have := Hfl.out; rw [Nat.pow_one]; omega), QQ, Hb1⟩
  case round =>
    obtain ⟨k, n, l, A, cp, rfl, rfl, hk1, hkn, HI, HV, HR, HLn, QQ, Hbr⟩ := hrel
    have Sz := Lib.hid (show w.heap.size ≤ wr.heap.size from Hbr.out.size)
    have hk100 : k ≤ 100 := by omega
    have Hpk := Lib.hid (Hpw.out k (by omega))
    have Hbd := Lib.hid (fun x hx => HI.out.bd hp hk1 x hx)
    have Hlf := Lib.hid (lifB_iff hp hk1 HI.out)
    have Hps := Lib.hid (posB_iff hp hk1 HI.out)
    have hll : l.length ≤ 2000000000 := by have := HLn.out; have := Hpk.out; omega
    go_wp2
    have hr0 := HR; have hq0 := QQ; have hb0 := Hbr; clear QQ Hbr
    go_loopw [21] (fun iv wr => ∃ i : Nat, i ≤ l.length ∧ iv = .int .i64 (i : Int) ∧ Hid (∀ x ∈ l.take i, lfB d a c p k x = false) ∧ Hid (Rd npS wr wr.heap.size (.slice A l.length cp) l) ∧ Hid (Blk wr (w.heap.size) 82 #[.int .i64 d, .int .i64 a, .int .i64 c]) ∧ Hid (Below w.heap.size w wr)) (fun iv _ => l.length - (intOf iv).toNat)
    case atStart => exact ⟨0, Nat.zero_le _, rfl, Lib.hid (fun x hx => by simp at hx), hr0, hq0, hb0⟩
    case round =>
      clear Sz hr0 hq0 hb0 HR
      obtain ⟨i, hi, rfl, HNo, HR, QQ, Hbr⟩ := hrel
      have Sz := Lib.hid (show w.heap.size ≤ wr.heap.size from Hbr.out.size)
      by_cases hil : i < l.length
      · have hd2 : decide ((i : Int) < (l.length : Int)) = true := decide_eq_true (by omega)
        have hd2n : decide (i < l.length) = true := decide_eq_true hil
        have Hmem := Lib.hid (List.getElem_mem hil)
        have Htk := Lib.hid (List.take_succ_eq_append_getElem hil)
        obtain ⟨g, off, hA, hg, k1, k2⟩ := np_at HR.out hil
        have Hc := Lib.hid (fun w9 => lifts_any d a c l[i].1 l[i].2 p k w9 hp hp2 hk100 Hpk.out)
        have Hlx := Lib.hid (show lfB d a c p k l[i] = (lpB d a c l[i].1 l[i].2 p k && llB d a c l[i].1 l[i].2 p k) from rfl)
        rw [← Hlx.out] at Hc
        generalize l[i] = x at *
        obtain ⟨x1, x2⟩ := x
        dsimp only at *
        subst hA
        clear Hlx
        have qQQ0 : wr.cell? ⟨w.heap.size, 0, none⟩ = some (.int .i64 d) := QQ.out.cell 0
        have qQQ1 : wr.cell? ⟨w.heap.size, 1, none⟩ = some (.int .i64 a) := QQ.out.cell 1
        have qQQ2 : wr.cell? ⟨w.heap.size, 2, none⟩ = some (.int .i64 c) := QQ.out.cell 2
        have qQQl := QQ.out.lt
        go_wp2_with fail
        clear qQQ0 qQQ1 qQQ2 qQQl
        refine (Hc.out _).mono ?_; rintro e w2 ⟨rfl, hb2⟩
        have S2 := Lib.hid (show wr.heap.size + 1 ≤ w2.heap.size by have h9 := hb2.size; (try simp only [World.size_alloc, World.size_setCell, World.size_drew] at h9); omega)
        have Z2 := Lib.hid (And.intro Sz.out S2.out)
        have NQQ := Lib.hid ((QQ.out.alloc (Obj.cells #[.int .i64 (x1 : Int), .int .i64 (x2 : Int)] 123)).on hb2)
        have NXB := Lib.hid ((Blk.new wr 123 #[.int .i64 (x1 : Int), .int .i64 (x2 : Int)]).on hb2)
        have QQ := NQQ; clear NQQ
        have XB := NXB; clear NXB
        replace HR := Lib.hid (HR.out.on (bthen ((bal (Below.refl _ _) _)) hb2))
        have Hb2 := Lib.hid (bthen (bal Hbr.out (Obj.cells #[.int .i64 (x1 : Int), .int .i64 (x2 : Int)] 123)) hb2)
        clear hb2
        clear k1 k2 hg
        cases hx : lfB d a c p k (x1, x2)
        · have HNo2 := Lib.hid (show ∀ y ∈ l.take (i + 1), lfB d a c p k y = false from fun y hy => by rw [Htk.out] at hy; rcases List.mem_append.1 hy with h | h; exact HNo.out y h; rw [List.mem_singleton.1 h]; exact hx)
          clear hx
          go_wp2
          go_roundw
          case rel => exact ⟨i + 1, by omega, by first | rfl | go_num, HNo2, HR, QQ, Hb2⟩
          case measure => simp [intOf]; omega
        · have HV2 := Lib.hid (show V = (true, true) by rw [HV.out]; exact fdS_yes (Hlf.out.2 ⟨_, Hmem.out, hx⟩))
          clear hx
          have qXB0 : w2.cell? ⟨wr.heap.size, 0, none⟩ = some (.int .i64 (x1 : Int)) := XB.out.cell 0
          have qXB1 : w2.cell? ⟨wr.heap.size, 1, none⟩ = some (.int .i64 (x2 : Int)) := XB.out.cell 1
          have qXBl := XB.out.lt
          go_wp2_with fail
          refine wp_region_tame (by kernel_rfl) (by kernel_rfl) (fun T _ W hT => ?_)
          have hx := hT.cell
          repeat (go_big_quiet_step ((first | fail)))
          refine wpQuiet_nil ?_
          intro tt
          clear hx
          have hb3 := hT.below tt
          generalize W tt = w3 at hb3 ⊢
          clear hT
          clear qXB0 qXB1 qXBl
          have S3 := Lib.hid (show w2.heap.size + 0 ≤ w3.heap.size by have h9 := hb3.size; (try simp only [World.size_alloc, World.size_setCell, World.size_drew] at h9); omega)
          have Z3 := Lib.hid (And.intro Z2.out S3.out)
          have NQQ := Lib.hid (QQ.out.on hb3)
          have NXB := Lib.hid (XB.out.on hb3)
          have QQ := NQQ; clear NQQ
          have XB := NXB; clear NXB
          replace HR := Lib.hid (HR.out.on (bthen ((Below.refl _ _)) hb3))
          have Hb3 := Lib.hid (bthen Hb2.out hb3)
          clear hb3
          go_wp2
          exact bodyPost_ret (v := .tuple #[.int .i64 (x1 : Int), .int .i64 (x2 : Int), .int .i64 (k : Int), .bool true]) (by simp [results, Tryz.results119, go_sem]) rfl ⟨_, _, (k : Int), true, rfl, by rw [HV2.out]; exact decide_eq_true (by omega), fun h => by rw [HV2.out] at h; exact absurd h (by decide), by omega, Hb3.out⟩
      · obtain rfl : i = l.length := by omega
        have hd2 : decide ((l.length : Int) < (l.length : Int)) = false := decide_eq_false (by omega)
        have hd2n : decide (l.length < l.length) = false := decide_eq_false (by omega)
        have Hnl := Lib.hid (show lifB d a c p k = false by cases h : lifB d a c p k; rfl; obtain ⟨x, hx, hl⟩ := Hlf.out.1 h; have h9 := HNo.out x (by rw [List.take_length]; exact hx); rw [h9] at hl; exact absurd hl (by decide))
        have qQQ0 : wr.cell? ⟨w.heap.size, 0, none⟩ = some (.int .i64 d) := QQ.out.cell 0
        have qQQ1 : wr.cell? ⟨w.heap.size, 1, none⟩ = some (.int .i64 a) := QQ.out.cell 1
        have qQQ2 : wr.cell? ⟨w.heap.size, 2, none⟩ = some (.int .i64 c) := QQ.out.cell 2
        have qQQl := QQ.out.lt
        go_wp2_with fail
        clear qQQ0 qQQ1 qQQ2 qQQl
        refine (Hd.out _).mono ?_; rintro e w4 ⟨rfl, hb4⟩
        have S4 := Lib.hid (show wr.heap.size + 0 ≤ w4.heap.size by have h9 := hb4.size; (try simp only [World.size_alloc, World.size_setCell, World.size_drew] at h9); omega)
        have Z4 := Lib.hid (And.intro Sz.out S4.out)
        have NQQ := Lib.hid (QQ.out.on hb4)
        have QQ := NQQ; clear NQQ
        replace HR := Lib.hid (HR.out.on (bthen ((Below.refl _ _)) hb4))
        have Hb4 := Lib.hid (bthen Hbr.out hb4)
        clear hb4
        by_cases hkD : k = D
        · have e1 : ((k : Int) == (D : Int)) = true := beq_iff_eq.2 (by omega)
          have e2 : (k == D) = true := beq_iff_eq.2 hkD
          have hn0 : n = 0 := by omega
          by_cases h0 : l.length = 0
          · have HV2 := Lib.hid (show V = (false, false) by rw [HV.out]; exact fdS_no Hnl.out (by cases h : posB d a c p k; rfl; exact absurd (List.length_eq_zero_iff.1 h0) (Hps.out.1 h)))
            have g1 : decide ((0 : Int) < (l.length : Int)) = false := decide_eq_false (by omega)
            have g2 : decide (0 < l.length) = false := decide_eq_false (by omega)
            clear hkD h0
            go_wp2
            exact bodyPost_ret (v := .tuple #[.int .i64 0, .int .i64 0, .int .i64 0, .bool false]) (by simp [results, Tryz.results119, go_sem]) rfl ⟨0, 0, 0, false, rfl, by rw [HV2.out]; rfl, fun h => by rw [HV2.out], by omega, Hb4.out⟩
          · have HV2 := Lib.hid (show V = (false, true) by rw [HV.out, hn0]; exact fdS_on Hnl.out (Hps.out.2 (fun h => h0 (by rw [h]; rfl))))
            have g1 : decide ((0 : Int) < (l.length : Int)) = true := decide_eq_true (by omega)
            have g2 : decide (0 < l.length) = true := decide_eq_true (by omega)
            clear hkD h0
            go_wp2
            exact bodyPost_ret (v := .tuple #[.int .i64 0, .int .i64 0, .int .i64 0, .bool true]) (by simp [results, Tryz.results119, go_sem]) rfl ⟨0, 0, 0, true, rfl, by rw [HV2.out]; rfl, fun h => by rw [HV2.out], by omega, Hb4.out⟩
        · have e1 : ((k : Int) == (D : Int)) = false := beq_eq_false_iff_ne.2 (by omega)
          have e2 : (k == D) = false := beq_eq_false_iff_ne.2 hkD
          by_cases h0 : l.length = 0
          · have HV2 := Lib.hid (show V = (false, false) by rw [HV.out]; exact fdS_no Hnl.out (by cases h : posB d a c p k; rfl; exact absurd (List.length_eq_zero_iff.1 h0) (Hps.out.1 h)))
            have g0 : ((l.length : Int) == 0) = true := beq_iff_eq.2 (by omega)
            have g3 : (l.length == 0) = true := beq_iff_eq.2 h0
            have g1 : decide ((0 : Int) < (l.length : Int)) = false := decide_eq_false (by omega)
            have g2 : decide (0 < l.length) = false := decide_eq_false (by omega)
            clear hkD h0
            go_wp2
            exact bodyPost_ret (v := .tuple #[.int .i64 0, .int .i64 0, .int .i64 0, .bool false]) (by simp [results, Tryz.results119, go_sem]) rfl ⟨0, 0, 0, false, rfl, by rw [HV2.out]; rfl, fun h => by rw [HV2.out], by omega, Hb4.out⟩
          · obtain ⟨n, rfl⟩ : ∃ m, n = m + 1 := ⟨n - 1, by omega⟩
            have HV2 := Lib.hid (show V = fdS (posB d a c p) (lifB d a c p) (n + 1) (k + 1) by rw [HV.out]; exact fdS_on Hnl.out (Hps.out.2 (fun h => h0 (by rw [h]; rfl))))
            have g0 : ((l.length : Int) == 0) = false := beq_eq_false_iff_ne.2 (by omega)
            have g3 : (l.length == 0) = false := beq_eq_false_iff_ne.2 h0
            have Hpk1 := Lib.hid (Hpw.out (k + 1) (by omega))
            have HbL := Lib.hid (show ∀ x ∈ l, x.1 ≤ 1000000000 ∧ x.2 ≤ 1000000000 from fun x hx => by have h1 := Hbd.out x hx; have h2 := Hpk.out; omega)
            have Hfit := Lib.hid (len_fits HLn.out Hpk1.out)
            have Hnl1 := Lib.hid (nx_lift (d := d) (a := a) (c := c) hp hk1 HI.out)
            have Hni := Lib.hid (nx_in (d := d) (a := a) (c := c) hp hk1 HI.out)
            have Hnn := Lib.hid (len_next HLn.out (length_nxV (d := d) (a := a) (c := c) (p := p) (k := k + 1) (l := l)))
            have HcF := Lib.hid (show ∀ w9, Rd npS w9 w9.heap.size (.slice A l.length cp) l → Calls Tryz.prog 134 #[.agg #[.int .i64 d, .int .i64 a, .int .i64 c], .slice A l.length cp, .int .i64 (p : Int), .int .i64 ((k : Int) + 1)] w9 fun e W' => (∃ m n : Int, e = .returned (.tuple #[.agg #[.int .i64 m, .int .i64 n], .bool (lifB d a c p (k + 1))])) ∧ Below w9.heap.size w9 W' from fun w9 h9 => by rw [Hnl1.out]; exact firstLift_any d a c A cp p (k + 1) l w9 hp hp2 (by omega) (by omega) Hpk1.out HbL.out Hfit.out h9)
            have HcN := Lib.hid (show ∀ w9, Rd npS w9 w9.heap.size (.slice A l.length cp) l → Calls Tryz.prog 135 #[.agg #[.int .i64 d, .int .i64 a, .int .i64 c], .slice A l.length cp, .int .i64 (p : Int), .int .i64 ((k : Int) + 1)] w9 fun e W' => (∃ v, e = .returned v ∧ W'.ownsRow w9.heap.size 123 2 v (nxV d a c p (k + 1) l).length (npS.flat (nxV d a c p (k + 1) l))) ∧ Below w9.heap.size w9 W' from fun w9 h9 => nextPairs_any d a c A cp p (k + 1) l w9 hp hp2 (by omega) (by omega) Hpk1.out HbL.out Hfit.out h9)
            clear hkD h0
            have qQQ0 : w4.cell? ⟨w.heap.size, 0, none⟩ = some (.int .i64 d) := QQ.out.cell 0
            have qQQ1 : w4.cell? ⟨w.heap.size, 1, none⟩ = some (.int .i64 a) := QQ.out.cell 1
            have qQQ2 : w4.cell? ⟨w.heap.size, 2, none⟩ = some (.int .i64 c) := QQ.out.cell 2
            have qQQl := QQ.out.lt
            go_wp2_with fail
            clear qQQ0 qQQ1 qQQ2 qQQl
            refine (HcF.out _ HR.out).mono ?_; rintro e w5 ⟨⟨m1, m2, rfl⟩, hb5⟩
            have S5 := Lib.hid (show w4.heap.size + 0 ≤ w5.heap.size by have h9 := hb5.size; (try simp only [World.size_alloc, World.size_setCell, World.size_drew] at h9); omega)
            have Z5 := Lib.hid (And.intro Z4.out S5.out)
            have NQQ := Lib.hid (QQ.out.on hb5)
            have QQ := NQQ; clear NQQ
            replace HR := Lib.hid (HR.out.on (bthen ((Below.refl _ _)) hb5))
            have Hb5 := Lib.hid (bthen Hb4.out hb5)
            clear hb5
            cases hf : lifB d a c p (k + 1)
            · clear hf
              have qQQ0 : w5.cell? ⟨w.heap.size, 0, none⟩ = some (.int .i64 d) := QQ.out.cell 0
              have qQQ1 : w5.cell? ⟨w.heap.size, 1, none⟩ = some (.int .i64 a) := QQ.out.cell 1
              have qQQ2 : w5.cell? ⟨w.heap.size, 2, none⟩ = some (.int .i64 c) := QQ.out.cell 2
              have qQQl := QQ.out.lt
              go_wp2_with fail
              clear qQQ0 qQQ1 qQQ2 qQQl
              refine (HcN.out _ (HR.out.on (bal (Below.refl _ _) _))).mono ?_; rintro e w6 ⟨⟨v, rfl, hrow⟩, hb6⟩
              obtain ⟨A9, cp9, rfl, hrd9⟩ := own_pair hrow
              have Hrd9 := Lib.hid hrd9; clear hrow hrd9
              have S6 := Lib.hid (show w5.heap.size + 1 ≤ w6.heap.size by have h9 := hb6.size; (try simp only [World.size_alloc, World.size_setCell, World.size_drew] at h9); omega)
              have Z6 := Lib.hid (And.intro Z5.out S6.out)
              have NQQ := Lib.hid ((QQ.out.alloc (Obj.cells #[.int .i64 m1, .int .i64 m2] 123)).on hb6)
              have NXP := Lib.hid ((Blk.new w5 123 #[.int .i64 m1, .int .i64 m2]).on hb6)
              have QQ := NQQ; clear NQQ
              have XP := NXP; clear NXP
              replace HR := Lib.hid (HR.out.on (bthen ((bal (Below.refl _ _) _)) hb6))
              have Hb6 := Lib.hid (bthen (bal Hb5.out (Obj.cells #[.int .i64 m1, .int .i64 m2] 123)) hb6)
              clear hb6
              go_wp2
              go_roundw
              case rel => exact ⟨k + 1, n, _, A9, cp9, rfl, by first | rfl | go_num, by omega, by omega, Hni, HV2, Hrd9, Hnn, QQ, Hb6⟩
              case measure => simp [intOf]; omega
            · have HV3 := Lib.hid (show V = (true, true) by rw [HV2.out]; exact fdS_yes hf)
              clear hf
              go_upto_region 14 with fail
              obtain ⟨w7, hw9⟩ : ∃ x, x = (World.alloc w5 (Obj.cells #[.int .i64 m1, .int .i64 m2] 123)) := ⟨_, rfl⟩
              rw [← hw9]
              have hb7 : Below ((World.alloc w5 (Obj.cells #[.int .i64 m1, .int .i64 m2] 123))).heap.size (World.alloc w5 (Obj.cells #[.int .i64 m1, .int .i64 m2] 123)) w7 := by rw [hw9]; exact Below.refl _ _
              have S7 := Lib.hid (show w5.heap.size + 1 ≤ w7.heap.size by have h9 := hb7.size; (try simp only [World.size_alloc, World.size_setCell, World.size_drew] at h9); omega)
              have Z7 := Lib.hid (And.intro Z5.out S7.out)
              have NQQ := Lib.hid ((QQ.out.alloc (Obj.cells #[.int .i64 m1, .int .i64 m2] 123)).on hb7)
              have NXP := Lib.hid ((Blk.new w5 123 #[.int .i64 m1, .int .i64 m2]).on hb7)
              have QQ := NQQ; clear NQQ
              have XP := NXP; clear NXP
              replace HR := Lib.hid (HR.out.on (bthen ((bal (Below.refl _ _) _)) hb7))
              have Hb7 := Lib.hid (bthen (bal Hb5.out (Obj.cells #[.int .i64 m1, .int .i64 m2] 123)) hb7)
              clear hb7
              clear hw9
              have qXP0 : w7.cell? ⟨w5.heap.size, 0, none⟩ = some (.int .i64 m1) := XP.out.cell 0
              have qXP1 : w7.cell? ⟨w5.heap.size, 1, none⟩ = some (.int .i64 m2) := XP.out.cell 1
              have qXPl := XP.out.lt
              go_wp2_with fail
              refine wp_region_tame (by kernel_rfl) (by kernel_rfl) (fun T _ W hT => ?_)
              have hx := hT.cell
              repeat (go_big_quiet_step ((first | fail)))
              refine wpQuiet_nil ?_
              intro tt
              clear hx
              have hb8 := hT.below tt
              generalize W tt = w8 at hb8 ⊢
              clear hT
              clear qXP0 qXP1 qXPl
              have S8 := Lib.hid (show w7.heap.size + 0 ≤ w8.heap.size by have h9 := hb8.size; (try simp only [World.size_alloc, World.size_setCell, World.size_drew] at h9); omega)
              have Z8 := Lib.hid (And.intro Z7.out S8.out)
              have NQQ := Lib.hid (QQ.out.on hb8)
              have NXP := Lib.hid (XP.out.on hb8)
              have QQ := NQQ; clear NQQ
              have XP := NXP; clear NXP
              replace HR := Lib.hid (HR.out.on (bthen ((Below.refl _ _)) hb8))
              have Hb8 := Lib.hid (bthen Hb7.out hb8)
              clear hb8
              go_wp2
              exact bodyPost_ret (v := .tuple #[.int .i64 m1, .int .i64 m2, .int .i64 ((k : Int) + 1), .bool true]) (by simp [results, Tryz.results119, go_sem]) rfl ⟨_, _, (k : Int) + 1, true, rfl, by rw [HV3.out]; exact decide_eq_true (by omega), fun h => by rw [HV3.out] at h; exact absurd h (by decide), by omega, Hb8.out⟩
set_option linter.unusedSimpArgs false in
set_option linter.unusedVariables false in
set_option maxRecDepth 8000 in
set_option maxHeartbeats 8000000 in
theorem soluble_any (d a c : Int) (p : Nat) (w : World) (hp : 2 ≤ p) (hp2 : p ≤ 1000) :
    Calls Tryz.prog 101 #[.agg #[.int .i64 d, .int .i64 a, .int .i64 c], .int .i64 (p : Int)] w fun r w' => r = .returned (.tuple #[.bool (slV d a c p).1, .bool (slV d a c p).2]) ∧ Below w.heap.size w w' := by
  have Hc := Lib.hid (fun w9 => localPair_any d a c p w9 hp hp2)
  have Hv := Lib.hid (show slV d a c p = ((fdV d a c p).1, (fdV d a c p).1 || !(fdV d a c p).2) from rfl)
  generalize slV d a c p = V at *
  generalize fdV d a c p = U at *
  obtain ⟨u1, u2⟩ := U
  go_enter Tryz.func101, Tryz.ntmps101
  go_wp2_with fail
  refine (Hc.out _).mono ?_; rintro e w1 ⟨m, n, k, b, rfl, hy1, hy2, hy3, hb1⟩
  have Hy := Lib.hid hy1; have Hz := Lib.hid hy2; clear hy1 hy2
  have S1 := Lib.hid (show w.heap.size + 1 ≤ w1.heap.size by have h9 := hb1.size; (try simp only [World.size_alloc, World.size_setCell, World.size_drew] at h9); omega)
  have NQQ := Lib.hid ((Blk.new w 82 #[.int .i64 d, .int .i64 a, .int .i64 c]).on hb1)
  have QQ := NQQ; clear NQQ
  have Hb1 := Lib.hid (bthen (bal (Below.refl w.heap.size w) (Obj.cells #[.int .i64 d, .int .i64 a, .int .i64 c] 82)) hb1)
  clear hb1
  by_cases h0 : 0 < k
  · have k0 : decide (0 < k) = true := decide_eq_true h0
    have H1 := Lib.hid (show V = (true, true) by rw [Hv.out]; have h9 := Hy.out; rw [k0] at h9; dsimp only at h9; subst h9; rfl)
    go_wp2
    exact bodyPost_ret (v := .tuple #[.bool true, .bool true]) (by simp [results, Tryz.results101, go_sem]) rfl ⟨by rw [H1.out], Hb1.out⟩
  · have k0 : decide (0 < k) = false := decide_eq_false h0
    have H1 := Lib.hid (show V = (false, !b) by rw [Hv.out]; have h9 := Hy.out; rw [k0] at h9; dsimp only at h9; subst h9; rw [Hz.out rfl]; rfl)
    cases b
    · go_wp2
      exact bodyPost_ret (v := .tuple #[.bool false, .bool true]) (by simp [results, Tryz.results101, go_sem]) rfl ⟨by rw [H1.out] <;> rfl, Hb1.out⟩
    · go_wp2
      exact bodyPost_ret (v := .tuple #[.bool false, .bool false]) (by simp [results, Tryz.results101, go_sem]) rfl ⟨by rw [H1.out] <;> rfl, Hb1.out⟩
end
section
open Go Go.RowKit Go.Lib

structure BQ (d a c : Int) : Prop where
  d0 : d ≠ 0
  c0 : c ≠ 0
  d1 : -100000 ≤ d
  d2 : d ≤ 100000
  a1 : -1000 ≤ a
  a2 : a ≤ 1000
  c1 : -100000 ≤ c
  c2 : c ≤ 100000
  x1 : -1000000 ≤ a * a - 4 * d * c
  x2 : a * a - 4 * d * c ≤ 1000000
structure BQW (d a c : Int) : Prop where
  y1 : 0 ≤ a * a ∧ a * a ≤ 1000000
  y2 : -400000 ≤ 4 * d ∧ 4 * d ≤ 400000
  y3 : -4000000 ≤ 4 * d * c ∧ 4 * d * c ≤ 4000000
theorem BQ.w {d a c : Int} (h : BQ d a c) : BQW d a c := by
  obtain ⟨d0, c0, d1, d2, a1, a2, c1, c2, x1, x2⟩ := h
  have h1 := (mul_bd a a 1000 1000 a1 a2 a1 a2).2
  have h2 : 0 ≤ a * a := by
    rcases Int.le_total 0 a with h | h
    · exact Int.mul_nonneg h h
    · have := Int.mul_nonneg (show 0 ≤ -a by omega) (show 0 ≤ -a by omega)
      rwa [Int.neg_mul_neg] at this
  exact ⟨⟨h2, by omega⟩, by omega, by omega⟩
def putL (l ns : List Int) : List Int := ns.foldl (fun o n => putI n o) l
theorem putL_nil (l : List Int) : putL l [] = l := rfl
theorem putL_snoc (l ns : List Int) (n : Int) : putL l (ns ++ [n]) = putI n (putL l ns) := by unfold putL; rw [List.foldl_append]; rfl
theorem putL_cons (l ns : List Int) (n : Int) : putL l (n :: ns) = putL (putI n l) ns := rfl
theorem mem_putL {x : Int} : ∀ {ns l : List Int}, x ∈ putL l ns ↔ x ∈ l ∨ x ∈ ns
  | [], l => by simp [putL]
  | n :: ns, l => by
    rw [putL_cons, mem_putL, mem_putI, List.mem_cons]
    constructor
    · rintro ((h | h) | h)
      · exact .inr (.inl h)
      · exact .inl h
      · exact .inr (.inr h)
    · rintro (h | h | h)
      · exact .inl (.inr h)
      · exact .inl (.inl h)
      · exact .inr h
theorem putL_inc : ∀ {ns l : List Int}, Inc l → Inc (putL l ns)
  | [], _, h => h
  | n :: ns, l, h => putL_inc (ns := ns) (l := putI n l) (putI_inc h)
theorem length_putL : ∀ (ns l : List Int), (putL l ns).length ≤ l.length + ns.length
  | [], l => Nat.le_refl _
  | n :: ns, l => by
    rw [putL_cons]
    have h1 := length_putL ns (putI n l)
    have h2 := length_putI n l
    rw [List.length_cons]; omega
theorem putL_pos {l : List Int} (h : 0 < l.length) : ∀ (ns : List Int), 0 < (putL l ns).length := by
  intro ns
  induction ns generalizing l with
  | nil => exact h
  | cons n ns ih => rw [putL_cons]; exact ih (putI_ne n l)
theorem putL_take {l ns : List Int} {j : Nat} (h : j < ns.length) : putL l (ns.take (j + 1)) = putI ns[j] (putL l (ns.take j)) := by rw [List.take_succ_eq_append_getElem h, putL_snoc]
def nnV (d a c : Int) (k : Nat) : Int := if k = 0 then d else if k = 1 then c else a * a - 4 * d * c
def bdK (d a c : Int) : Nat → List Int
  | 0 => [2]
  | k + 1 => putL (bdK d a c k) (prV (nnV d a c k).natAbs)
def bdV (d a c : Int) : List Int × Bool := if a * a - 4 * d * c = 0 then ([], false) else (bdK d a c 3, true)
theorem nn_bd {d a c : Int} (h : BQ d a c) (hx : a * a - 4 * d * c ≠ 0) (k : Nat) : nnV d a c k ≠ 0 ∧ (nnV d a c k).natAbs ≤ 1000000 := by
  obtain ⟨d0, c0, d1, d2, a1, a2, c1, c2, x1, x2⟩ := h
  unfold nnV
  split
  · exact ⟨d0, by omega⟩
  · split
    · exact ⟨c0, by omega⟩
    · exact ⟨hx, by omega⟩
theorem length_bdK {d a c : Int} (h : BQ d a c) (hx : a * a - 4 * d * c ≠ 0) : ∀ k, 0 < (bdK d a c k).length ∧ (bdK d a c k).length ≤ 1 + k * 1000000
  | 0 => by simp [bdK]
  | k + 1 => by
    obtain ⟨h1, h2⟩ := length_bdK h hx k
    have h3 := length_putL (prV (nnV d a c k).natAbs) (bdK d a c k)
    have h4 := pf_len (nnV d a c k).natAbs
    have h5 := (nn_bd h hx k).2
    refine ⟨putL_pos h1 _, ?_⟩
    unfold bdK
    omega
theorem bdK_inc (d a c : Int) : ∀ k, Inc (bdK d a c k)
  | 0 => List.pairwise_singleton _ _
  | k + 1 => putL_inc (bdK_inc d a c k)
/-- What the program puts together. -/
def bpK (d a c : Int) : Nat → List Int
  | 0 => [2]
  | k + 1 => bpK d a c k ++ prV (nnV d a c k).natAbs
theorem mem_bpK (d a c : Int) (x : Int) : ∀ k, x ∈ bpK d a c k ↔ x ∈ bdK d a c k
  | 0 => Iff.rfl
  | k + 1 => by unfold bpK bdK; rw [List.mem_append, mem_putL, mem_bpK]
theorem bp_eq (d a c : Int) (k : Nat) : compact (srI (bpK d a c k)) = bdK d a c k := by
  have h := compact_inc (srI_le (bpK d a c k))
  refine inc_eq h.1 (bdK_inc d a c k) (fun x => ?_)
  rw [h.2, mem_srI, mem_bpK]
theorem length_bpK {d a c : Int} (h : BQ d a c) (hx : a * a - 4 * d * c ≠ 0) : ∀ k, 0 < (bpK d a c k).length ∧ (bpK d a c k).length ≤ 1 + k * 1000000
  | 0 => by simp [bpK]
  | k + 1 => by
    obtain ⟨h1, h2⟩ := length_bpK h hx k
    have h4 := pf_len (nnV d a c k).natAbs
    have h5 := (nn_bd h hx k).2
    unfold bpK
    rw [List.length_append]
    omega
theorem prV_pr {n : Nat} (hn : 0 < n) {q : Int} (h : q ∈ prV n) : ∃ p : Nat, q = (p : Int) ∧ PrN p ∧ p ∣ n := by
  unfold prV pfL at h
  rw [List.mem_map] at h
  obtain ⟨x, hx, rfl⟩ := h
  obtain ⟨-, h2, h3, -, -⟩ := (facF_two hn).1 x hx
  exact ⟨x.1, rfl, h3, h2⟩
/-- Bad primes are primes, from 2 on. -/
theorem bd_two {d a c : Int} (h : BQ d a c) (hx : a * a - 4 * d * c ≠ 0) : ∀ (k : Nat) (q : Int), q ∈ bdK d a c k → ∃ p : Nat, q = (p : Int) ∧ PrN p ∧ p ≤ 1000000
  | 0, q, hq => ⟨2, List.mem_singleton.1 hq, ⟨Nat.le_refl _, fun d h1 h2 => by omega⟩, by omega⟩
  | k + 1, q, hq => by
    unfold bdK at hq
    rcases mem_putL.1 hq with h1 | h1
    · exact bd_two h hx k q h1
    · have hn := nn_bd h hx k
      obtain ⟨p, rfl, h2, h3⟩ := prV_pr (by omega) h1
      have := Nat.le_of_dvd (by omega) h3
      exact ⟨p, rfl, h2, by omega⟩
/-- What a call that hands back a list and a flag tells. -/
def LsR (V : List Int × Bool) (e : Ending) (w' : World) : Prop := ∃ A c, e = .returned (.tuple #[.slice A V.1.length c, .bool V.2]) ∧ Rd inS w' w'.heap.size (.slice A V.1.length c) V.1
theorem LsR.own {w : World} {b : Nat} {v : Value} {n : Nat} {xs : List Int} {k : Bool} (h : w.ownsRow b 3 1 v n (xs.map iv)) (hn : n = xs.length) : LsR (xs, k) (.returned (.tuple #[v, .bool k])) w := by
  obtain ⟨A, c, rfl, h2⟩ := rd_own1 h hn
  exact ⟨A, c, rfl, h2⟩
theorem LsR.no (w : World) : LsR ([], false) (.returned (.tuple #[.slice none 0 0, .bool false])) w := ⟨none, 0, rfl, Rd.nil _ _⟩
end
section
open Go Go.RowKit Go.Lib

theorem max_abs (n : Int) : max n (-n) = (n.natAbs : Int) := by omega
theorem pr_len {N : Nat} : (prV N).length = (facF 2 N).length := by unfold prV pfL; rw [List.length_map]
theorem fc_len2 {N : Nat} : (fcV N).length = (facF 2 N).length := by unfold fcV fcL; rw [List.length_map]
theorem pr_take {N j : Nat} {l : List Int} (h : j < (facF 2 N).length) : putL l ((prV N).take (j + 1)) = putI ((facF 2 N)[j].1 : Int) (putL l ((prV N).take j)) := by
  have h1 : j < (prV N).length := by rw [pr_len]; exact h
  rw [putL_take h1]
  congr 1
  simp [prV, pfL]
theorem nn3_cell {w : World} {b : Nat} {d a c : Int} (h : Blk w b 3 #[.int .i64 d, .int .i64 c, .int .i64 (a * a - 4 * d * c)]) {k : Nat} (hk : k < 3) : w.cell? ⟨b, k, none⟩ = some (.int .i64 (nnV d a c k)) := by
  rcases (show k = 0 ∨ k = 1 ∨ k = 2 by omega) with rfl | rfl | rfl
  · exact h.cell 0
  · exact h.cell 1
  · exact h.cell 2

set_option linter.unusedSimpArgs false in
set_option linter.unusedVariables false in
set_option maxRecDepth 8000 in
set_option maxHeartbeats 8000000 in
theorem loBad_any (d a c : Int) (w : World) (h : BQ d a c) :
    Calls Tryz.prog 107 #[.agg #[.int .i64 d, .int .i64 a, .int .i64 c]] w fun e w' => LsR (bdV d a c) e w' ∧ Below w.heap.size w w' := by
  obtain ⟨i0, hii, hz0, hz1, hz2⟩ := info_parts infoIntC
  have HQ := Lib.hid h
  obtain ⟨⟨m1, m2⟩, ⟨m3, m4⟩, m5, m6⟩ := h.w
  have m7 := h.x1; have m8 := h.x2
  clear h
  by_cases hx : a * a - 4 * d * c = 0
  · have hz : (a * a - 4 * d * c == 0) = true := beq_iff_eq.2 hx
    have Hv := Lib.hid (show bdV d a c = ([], false) by unfold bdV; rw [if_pos hx])
    clear hx
    go_enter Tryz.func107, Tryz.ntmps107
    go_wp2
    exact bodyPost_ret (v := .tuple #[.slice none 0 0, .bool false]) (by simp [results, Tryz.results107, go_sem]) rfl ⟨by rw [Hv.out]; exact LsR.no _, bal (Below.refl _ _) _⟩
  · have hz : (a * a - 4 * d * c == 0) = false := beq_eq_false_iff_ne.2 hx
    have Hv := Lib.hid (show bdV d a c = (bdK d a c 3, true) by unfold bdV; rw [if_neg hx])
    have Hnn := Lib.hid (nn_bd HQ.out hx)
    have Hln := Lib.hid (length_bdK HQ.out hx)
    have Hlp := Lib.hid (length_bpK HQ.out hx)
    have Hn3 := Lib.hid (show nnV d a c 0 = d ∧ nnV d a c 1 = c ∧ nnV d a c 2 = a * a - 4 * d * c from ⟨rfl, rfl, rfl⟩)
    clear hx
    obtain ⟨D, hD⟩ : ∃ D, a * a - 4 * d * c = D := ⟨_, rfl⟩
    have HD := Lib.hid hD
    rw [hD] at hz m7 m8
    go_enter Tryz.func107, Tryz.ntmps107
    go_wp2
    have Hb0 := Lib.hid (show Below w.heap.size w _ from ((((Below.refl w.heap.size w).alloc (Nat.le_refl _) (Obj.cells #[.int .i64 d, .int .i64 a, .int .i64 c] 82)).alloc (by simp) (Obj.cells #[.int .i64 2] 3)).alloc (by simp; try omega) (Obj.cells #[.int .i64 d, .int .i64 c, .int .i64 D] 3)))
    have HT0 := Lib.hid (show Blk (((w.alloc (Obj.cells #[.int .i64 d, .int .i64 a, .int .i64 c] 82)).alloc (Obj.cells #[.int .i64 2] 3)).alloc (Obj.cells #[.int .i64 d, .int .i64 c, .int .i64 D] 3)) (w.heap.size + 1 + 1) 3 #[.int .i64 d, .int .i64 c, .int .i64 D] by have h9 := Blk.new ((w.alloc (Obj.cells #[.int .i64 d, .int .i64 a, .int .i64 c] 82)).alloc (Obj.cells #[.int .i64 2] 3)) 3 #[.int .i64 d, .int .i64 c, .int .i64 D]; simpa only [World.size_alloc] using h9)
    have HR0 := Lib.hid (show Rd inS (((w.alloc (Obj.cells #[.int .i64 d, .int .i64 a, .int .i64 c] 82)).alloc (Obj.cells #[.int .i64 2] 3)).alloc (Obj.cells #[.int .i64 d, .int .i64 c, .int .i64 D] 3)) (((w.alloc (Obj.cells #[.int .i64 d, .int .i64 a, .int .i64 c] 82)).alloc (Obj.cells #[.int .i64 2] 3)).alloc (Obj.cells #[.int .i64 d, .int .i64 c, .int .i64 D] 3)).heap.size (.slice (some ⟨w.heap.size + 1, 0, none⟩) 1 1) [2] from
      ⟨_, _, rfl, Nat.le_refl _, by unfold maxLen; omega, fun _ => ⟨w.heap.size + 1, 0, rfl, by simp, fun k hk j hj => by
        obtain rfl : k = 0 := by simpa using hk
        obtain rfl : j = 0 := by simpa [inS] using hj
        exact ((Blk.new1 w _ 3 #[.int .i64 2]).alloc _).cell 0⟩⟩)
    go_loopw [5, 32] (fun o i wr => ∃ (k : Nat) (l : List Int) (A : Option Addr) (cp : Nat), k ≤ 3 ∧ i = .int .i64 (k : Int) ∧ o = .slice A l.length cp ∧ Hid (l = bdK d a c k) ∧ Hid (Rd inS wr wr.heap.size (.slice A l.length cp) l) ∧ Hid (Blk wr (w.heap.size + 1 + 1) 3 #[.int .i64 d, .int .i64 c, .int .i64 D]) ∧ Hid (Below w.heap.size w wr)) (fun _ i _ => 3 - (intOf i).toNat)
    case atStart => exact ⟨0, [2], _, _, by omega, rfl, rfl, Lib.hid rfl, HR0, HT0, Hb0⟩
    case round =>
      obtain ⟨k, l, A, cp, hk, rfl, rfl, Hl, HR, HT, Hb⟩ := hrel
      clear HR0 HT0 Hb0
      by_cases hlt : k < 3
      · have hd0 : decide ((k : Int) < 3) = true := decide_eq_true (by omega)
        have hd0n : decide (k < 3) = true := decide_eq_true hlt
        have Hbk := Lib.hid (show bdK d a c (k + 1) = putL (bdK d a c k) (prV (nnV d a c k).natAbs) from rfl)
        have Hn := Lib.hid (Hnn.out k)
        have Hll := Lib.hid (Hln.out k)
        have qn : wr.cell? ⟨w.heap.size + 1 + 1, k, none⟩ = some (.int .i64 (nnV d a c k)) := nn3_cell (a := a) (by rw [HD.out]; exact HT.out) hlt
        have qnl := HT.out.lt
        generalize nnV d a c k = n at qn Hbk Hn
        obtain ⟨N, hN⟩ : ∃ N, n.natAbs = N := ⟨_, rfl⟩
        have Hab := Lib.hid (show ∀ w9, Calls Tryz.prog 92 #[.int .i64 n] w9 fun e w' => e = .returned (.int .i64 (N : Int)) ∧ w9 = w' from fun w9 => by have h9 := l1AbsB_any n w9 (by have := Hn.out; omega); rwa [max_abs, hN] at h9)
        have HN := Lib.hid (show 0 < N ∧ N ≤ 1000000 by have := Hn.out; omega)
        rw [hN] at Hbk
        clear hN Hn
        have hk0 : (0 : Int) ≤ (k : Int) := by omega
        have hk3 : (k : Int) < 3 := by omega
        go_wp2_with fail
        refine (Hab.out _).mono ?_; rintro e w2 ⟨rfl, rfl⟩
        clear qn qnl
        go_wp2_with fail
        refine (mdFactors_any N _ HN.out.1 (by have := HN.out; omega)).mono ?_; rintro e w3 ⟨⟨v, rfl, hr⟩, hb3⟩
        have Hb3 := Lib.hid (bthen Hb.out hb3); have HT3 := Lib.hid (HT.out.on hb3); have HR3 := Lib.hid (HR.out.on hb3)
        clear hb3 Hb HT HR
        obtain ⟨A2, c2, rfl, hlm⟩ := hr.form9
        have Hr := Lib.hid hr; clear hr
        have Hlen := Lib.hid (fc_len2 (N := N))
        have Hpl := Lib.hid (pf_len N)
        obtain ⟨L, hL⟩ : ∃ L, (fcV N).length = L := ⟨_, rfl⟩
        rw [hL] at Hlen Hr hlm ⊢
        have HL := Lib.hid hL; clear hL
        go_wp2
        have hr3 := HR3; have ht3 := HT3; have hb3 := Hb3; have hrr := Hr; clear HR3 HT3 Hb3 Hr
        go_loopw [5, 40] (fun o i wr => ∃ (j : Nat) (m : List Int) (A : Option Addr) (cp : Nat), j ≤ L ∧ i = .int .i64 (j : Int) ∧ o = .slice A m.length cp ∧ Hid (m = putL (bdK d a c k) ((prV N).take j)) ∧ Hid (Rd inS wr wr.heap.size (.slice A m.length cp) m) ∧ Hid (NRd wr wr.heap.size (.slice A2 L c2) (fcV N)) ∧ Hid (Blk wr (w.heap.size + 1 + 1) 3 #[.int .i64 d, .int .i64 c, .int .i64 D]) ∧ Hid (Below w.heap.size w wr)) (fun _ i _ => L - (intOf i).toNat)
        case atStart => exact ⟨0, l, A, cp, Nat.zero_le _, rfl, rfl, Lib.hid (by rw [Hl.out]; rfl), hr3, hrr, ht3, hb3⟩
        case round =>
          obtain ⟨j, m, A3, cp3, hj, rfl, rfl, Hm, HR, Hr, HT, Hb⟩ := hrel
          clear hr3 ht3 hb3 hrr
          by_cases hjl : j < L
          · have hkl : j < (facF 2 N).length := by rw [← Hlen.out]; exact hjl
            have Hst := Lib.hid (pr_take (l := bdK d a c k) hkl)
            have Hml := Lib.hid (show 0 < m.length ∧ m.length ≤ 1000000000 by
              rw [Hm.out]
              refine ⟨putL_pos Hll.out.1 _, ?_⟩
              have h1 := length_putL ((prV N).take j) (bdK d a c k)
              have h2 := Hll.out.2
              have h3 : ((prV N).take j).length ≤ N := Nat.le_trans (by rw [List.length_take]; omega) Hpl.out
              have h4 := HN.out
              have h5 : k * 1000000 ≤ 3 * 1000000 := Nat.mul_le_mul_right _ hk
              omega)
            obtain ⟨g, off, A1, c1, rfl, hg, f0, hrw⟩ := NRd.row9 (k := j) (by rw [HL.out]; exact Hr.out) (by rw [HL.out]; exact hjl)
            rw [fc_at hkl] at f0 hrw
            generalize (facF 2 N)[j] = x at f0 hrw Hst
            obtain ⟨q, e⟩ := x
            obtain ⟨g8, o8, h8, hg8, hc8⟩ := hrw.in9 (k := 0) (by simp)
            subst h8
            have t0 : wr.cell? ⟨g8, o8, none⟩ = some (.int .i64 (q : Int)) := hc8 0 (by simp)
            clear hc8 hrw
            have hl2 : [(q : Int), (e : Int)].length = 2 := rfl
            rw [hl2] at f0
            clear hl2
            have hd2 : decide ((j : Int) < (L : Int)) = true := decide_eq_true (by omega)
            have hd2n : decide (j < L) = true := decide_eq_true hjl
            have hj0 : (0 : Int) ≤ (j : Int) := by omega
            have hj1 : (j : Int) < (L : Int) := by omega
            dsimp only at Hst
            have Hpu := Lib.hid (fun w9 h9 => l1PutI_any A3 cp3 m (q : Int) w9 h9 Hml.out.1 Hml.out.2)
            go_wp2_with fail
            refine (Hpu.out _ HR.out).mono ?_; rintro e9 w4 ⟨⟨A4, c4, rfl, hr4⟩, hb4⟩
            have Hb4 := Lib.hid (bthen Hb.out hb4); have HT4 := Lib.hid (HT.out.on hb4); have Hr4 := Lib.hid (Hr.out.on hb4); have HR4 := Lib.hid hr4
            clear hb4 hr4 f0 t0 hg hg8
            go_wp2
            go_roundw
            case rel => exact ⟨j + 1, putI (q : Int) m, A4, c4, by omega, by go_num, rfl, Lib.hid (by rw [Hst.out, Hm.out]), HR4, Hr4, HT4, Hb4⟩
            case measure => simp [intOf]; omega
          · obtain rfl : j = L := by omega
            have hd2 : decide ((j : Int) < (j : Int)) = false := decide_eq_false (by omega)
            have hd2n : decide (j < j) = false := decide_eq_false (by omega)
            have Hend := Lib.hid (show m = bdK d a c (k + 1) by rw [Hm.out, Hbk.out, List.take_of_length_le (by rw [pr_len, ← Hlen.out]; omega)])
            go_wp2
            go_roundw
            case rel => exact ⟨k + 1, m, A3, cp3, by omega, by go_num, rfl, Hend, HR, HT, Hb⟩
            case measure => simp [intOf]; omega
      · obtain rfl : k = 3 := by omega
        have hd0 : decide (((3 : Nat) : Int) < 3) = false := by decide
        go_wp2
        exact bodyPost_ret (v := .tuple #[.slice A l.length cp, .bool true]) (by simp [results, Tryz.results107, go_sem]) rfl ⟨by rw [Hv.out, ← Hl.out]; exact ⟨_, _, rfl, HR.out⟩, Hb.out⟩

theorem wpList_append_srcB {P : Program} {w : World} {ops : Array Oper} {rest : List Oper} {o : Oper} {a : Act} {Q : Exit → Act → World → Prop} (hgd : o.guard = none) (s x : Operand) (t : TypeId)
    (ho : o.op = .call { callee := .builtin .append, args := #[s, x], argTypes := #[t, t] })
    (base : Nat) (e : TypeId) (i : TypeInfo) (z : Value) (size bytes : Nat) (ht : P.underlying t = some (.slice e)) (hi : P.info? e = some i) (hz : i.zero = some z)
    (hsize : i.size = size) (hby : i.bytes = bytes) (hzs : z.cells.size = size) (hsz : 0 < size)
    (v : Value) (n : Nat) (xs : List Value) (hs : a.eval s = v) (hown : w.ownsRow base e size v n xs)
    (A : Option Addr) (m c : Nat) (news : List Value) (hx : a.eval x = .slice A m c) (hl : news.length = m * size) (hA : A = none → m = 0) (hnews : ∀ a, A = some a → ∀ j u, news[j]? = some u → w.cell? (a.add j) = some u) (h1 : ∀ u ∈ news, u.oneCell' = true)
    (h63 : n + m ≤ maxLen) (hbytes : (n + m) * bytes ≤ 140737488355328) (hbase : base ≤ w.heap.size)
    (h : ∀ v' w', w'.ownsRow base e size v' (n + m) (xs ++ news) → w.grownBy w' v.ownBlock → (v'.ownBlock = v.ownBlock ∨ v'.ownBlock = some w.heap.size) → wpList P ops Q rest (a.put o.dst v') w') : wpList P ops Q (o :: rest) a w := by
  obtain ⟨v', w', hr, h2, h3, h4⟩ := run_append_src (P := P) w base t o.type e i z size bytes ht hi hz hsize hby hzs hsz v n xs hown A m c news hl hA hnews h1 h63 hbytes hbase
  refine wpList_plain hgd fun K hK => ?_
  unfold Oper.wp execOp
  simp only [ho, resolve, invoke, builtin, Sem.run_bind, Sem.run_pure, Result.andThen_ok, List.map_toArray, List.map_cons, List.map_nil, hs, hx, hr]
  exact hK _ _ (h v' w' h2 h3 h4)

set_option linter.unusedSimpArgs false in
set_option linter.unusedVariables false in
set_option maxRecDepth 8000 in
set_option maxHeartbeats 8000000 in
theorem badPrimes_any (d a c : Int) (w : World) (h : BQ d a c) :
    Calls Tryz.prog 100 #[.agg #[.int .i64 d, .int .i64 a, .int .i64 c]] w fun e w' => LsR (bdV d a c) e w' ∧ Below w.heap.size w w' := by
  obtain ⟨i0, hii, hz0, hz1, hz2⟩ := info_parts infoIntC
  have HQ := Lib.hid h
  obtain ⟨⟨m1, m2⟩, ⟨m3, m4⟩, m5, m6⟩ := h.w
  have m7 := h.x1; have m8 := h.x2
  clear h
  by_cases hx : a * a - 4 * d * c = 0
  · have hz : (a * a - 4 * d * c == 0) = true := beq_iff_eq.2 hx
    have Hv := Lib.hid (show bdV d a c = ([], false) by unfold bdV; rw [if_pos hx])
    clear hx
    go_enter Tryz.func100, Tryz.ntmps100
    go_wp2
    exact bodyPost_ret (v := .tuple #[.slice none 0 0, .bool false]) (by simp [results, Tryz.results100, go_sem]) rfl ⟨by rw [Hv.out]; exact LsR.no _, bal (Below.refl _ _) _⟩
  · have hz : (a * a - 4 * d * c == 0) = false := beq_eq_false_iff_ne.2 hx
    have Hv := Lib.hid (show bdV d a c = (bdK d a c 3, true) by unfold bdV; rw [if_neg hx])
    have Hnn := Lib.hid (nn_bd HQ.out hx)
    have Hln := Lib.hid (length_bdK HQ.out hx)
    have Hlp := Lib.hid (length_bpK HQ.out hx)
    have Hn3 := Lib.hid (show nnV d a c 0 = d ∧ nnV d a c 1 = c ∧ nnV d a c 2 = a * a - 4 * d * c from ⟨rfl, rfl, rfl⟩)
    clear hx
    obtain ⟨D, hD⟩ : ∃ D, a * a - 4 * d * c = D := ⟨_, rfl⟩
    have HD := Lib.hid hD
    rw [hD] at hz m7 m8
    go_enter Tryz.func100, Tryz.ntmps100
    go_wp2
    have Hb0 := Lib.hid (show Below w.heap.size w _ from ((((Below.refl w.heap.size w).alloc (Nat.le_refl _) (Obj.cells #[.int .i64 d, .int .i64 a, .int .i64 c] 82)).alloc (by simp) (Obj.cells #[.int .i64 2] 3)).alloc (by simp; try omega) (Obj.cells #[.int .i64 d, .int .i64 c, .int .i64 D] 3)))
    have HT0 := Lib.hid (show Blk (((w.alloc (Obj.cells #[.int .i64 d, .int .i64 a, .int .i64 c] 82)).alloc (Obj.cells #[.int .i64 2] 3)).alloc (Obj.cells #[.int .i64 d, .int .i64 c, .int .i64 D] 3)) (w.heap.size + 1 + 1) 3 #[.int .i64 d, .int .i64 c, .int .i64 D] by have h9 := Blk.new ((w.alloc (Obj.cells #[.int .i64 d, .int .i64 a, .int .i64 c] 82)).alloc (Obj.cells #[.int .i64 2] 3)) 3 #[.int .i64 d, .int .i64 c, .int .i64 D]; simpa only [World.size_alloc] using h9)
    have HR0 := Lib.hid (show (((w.alloc (Obj.cells #[.int .i64 d, .int .i64 a, .int .i64 c] 82)).alloc (Obj.cells #[.int .i64 2] 3)).alloc (Obj.cells #[.int .i64 d, .int .i64 c, .int .i64 D] 3)).ownsRow (w.heap.size + 1) 3 1 (.slice (some ⟨w.heap.size + 1, 0, none⟩) 1 1) 1 [Value.int .i64 2] from by
      have h9 := (World.ownsRow_lit (w.alloc (Obj.cells #[.int .i64 d, .int .i64 a, .int .i64 c] 82)) (base := w.heap.size + 1) (e := 3) (size := 1) #[.int .i64 2] 1 (by simp) (by unfold maxLen; omega) (by simp)).alloc (Obj.cells #[.int .i64 d, .int .i64 c, .int .i64 D] 3)
      simpa only [World.size_alloc] using h9)
    go_loopw [5, 30] (fun o i wr => ∃ (k : Nat) (l : List Int), k ≤ 3 ∧ i = .int .i64 (k : Int) ∧ Hid (l = bpK d a c k) ∧ Hid (wr.ownsRow (w.heap.size + 1) 3 1 o l.length (l.map iv)) ∧ Hid (o.ownBlock ≠ some (w.heap.size + 1 + 1)) ∧ Hid (Blk wr (w.heap.size + 1 + 1) 3 #[.int .i64 d, .int .i64 c, .int .i64 D]) ∧ Hid (Below w.heap.size w wr)) (fun _ i _ => 3 - (intOf i).toNat)
    case atStart => exact ⟨0, [2], by omega, rfl, Lib.hid rfl, HR0, Lib.hid (by simp [Value.ownBlock]), HT0, Hb0⟩
    case round =>
      obtain ⟨k, l, hk, rfl, Hl, HR, HO, HT, Hb⟩ := hrel
      clear HR0 HT0 Hb0
      by_cases hlt : k < 3
      · have hd0 : decide ((k : Int) < 3) = true := decide_eq_true (by omega)
        have hd0n : decide (k < 3) = true := decide_eq_true hlt
        have Hbk := Lib.hid (show bpK d a c (k + 1) = bpK d a c k ++ prV (nnV d a c k).natAbs from rfl)
        have Hn := Lib.hid (Hnn.out k)
        have Hll := Lib.hid (show l.length ≤ 1 + k * 1000000 by rw [Hl.out]; exact (Hlp.out k).2)
        have qn : wr.cell? ⟨w.heap.size + 1 + 1, k, none⟩ = some (.int .i64 (nnV d a c k)) := nn3_cell (a := a) (by rw [HD.out]; exact HT.out) hlt
        have qnl := HT.out.lt
        generalize nnV d a c k = n at qn Hbk Hn
        have Hpr := Lib.hid (fun w9 => primesOf_any n w9 Hn.out.1 (by have := Hn.out.2; omega))
        have Hpl := Lib.hid (pf_len n.natAbs)
        have hk0 : (0 : Int) ≤ (k : Int) := by omega
        have hk3 : (k : Int) < 3 := by omega
        go_wp2_with fail
        refine (Hpr.out _).mono ?_; rintro e w3 ⟨⟨v, rfl, hpo⟩, hb3⟩
        obtain ⟨A2, c2, rfl, hrd⟩ := rd_own1 (xs := prV n.natAbs) hpo rfl
        have Hrd := Lib.hid hrd; clear hpo hrd
        have Hb3 := Lib.hid (bthen Hb.out hb3); have HT3 := Lib.hid (HT.out.on hb3); have HR3 := Lib.hid (own_below HR.out hb3)
        clear hb3 Hb HT HR qn qnl
        obtain ⟨P, hP⟩ : ∃ P, prV n.natAbs = P := ⟨_, rfl⟩
        rw [hP] at Hbk Hrd Hpl
        have Hpl2 := Lib.hid (show P.length ≤ 1000000 by have := Hpl.out; have := Hn.out.2; omega)
        have Hle := Lib.hid (show l.length ≤ 3000001 by have h1 := Hll.out; have h5 : k * 1000000 ≤ 3 * 1000000 := Nat.mul_le_mul_right _ hk; omega)
        rw [hP]; clear hP Hpl
        have hs3 : w.heap.size + 1 + 1 < w3.heap.size := HT3.out.lt
        have hs31 : w.heap.size + 1 ≤ w3.heap.size := by omega
        go_wp2_with (at_builtin; refine wpList_append_srcB rfl _ _ 48 rfl (w.heap.size + 1) 3 i0 (.int .i64 0) 1 8 Tryz.underlying48 hii hz0 hz1 hz2 rfl (by decide) _ _ _ rfl HR3.out A2 P.length c2 (P.map iv) rfl (by simp) (fun h => by rw [(rd_cells Hrd.out).2.2.2.1 h]; rfl) (fun a ha j u hj => by rw [← List.take_length (l := P)] at hj; exact iv_src Hrd.out _ a ha j u hj) (iv_one _) (by have := Hle.out; have := Hpl2.out; unfold maxLen; omega) (by have := Hle.out; have := Hpl2.out; omega) hs31 ?_)
        intro v8 w8 hown8 hg8 hob8
        have HT8 := Lib.hid (Blk.grownI HT3.out hg8 (fun r hr e => HO.out (by rw [hr, e])))
        have Hb8 := Lib.hid (show Below w.heap.size w w8 from Below.grown Hb3.out hg8 (by omega) (fun j hj => by have h1 := (HR3.out.lt j hj).1; omega))
        have Hown8 := Lib.hid (show w8.ownsRow (w.heap.size + 1) 3 1 v8 (l.length + P.length) ((l ++ P).map iv) by rw [List.map_append]; exact hown8)
        have HO8 := Lib.hid (show v8.ownBlock ≠ some (w.heap.size + 1 + 1) by rcases hob8 with h | h; rw [h]; exact HO.out; rw [h]; intro e; have := Option.some.inj e; omega)
        clear hown8 hg8 hob8
        go_wp2
        go_roundw
        case rel => exact ⟨k + 1, l ++ P, by omega, by go_num, Lib.hid (by rw [Hbk.out, Hl.out]), by rw [List.length_append]; exact Hown8, HO8, HT8, Hb8⟩
        case measure => simp [intOf]; omega
      · obtain rfl : k = 3 := by omega
        have hd0 : decide (((3 : Nat) : Int) < 3) = false := by decide
        have Hll := Lib.hid (show 0 < l.length ∧ l.length ≤ 3000001 by rw [Hl.out]; exact Hlp.out 3)
        rcases own_form1 HR.out with ⟨-, h0⟩ | ⟨g, cp, rfl⟩
        · have := Hll.out.1; omega
        · have Hso := Lib.hid (sortI_any (w.heap.size + 1) _ l wr HR.out (by have := Hll.out; omega))
          go_wp2_with fail
          refine Hso.out.mono ?_; rintro e w3 ⟨rfl, hr3, hg3⟩
          rw [length_srI] at hr3
          have Hcp := Lib.hid (compactI_any (w.heap.size + 1) g cp (srI l) w3 (by rw [length_srI]; exact hr3) (by rw [length_srI]; have := Hll.out; omega))
          have Hfin := Lib.hid (show compact (srI l) = bdK d a c 3 by rw [Hl.out]; exact bp_eq d a c 3)
          rw [Hfin.out, length_srI] at Hcp
          have hgl : w.heap.size + 1 ≤ g := (HR.out.lt g rfl).1
          have Hb3 := Lib.hid (show Below w.heap.size w w3 from Below.grown Hb.out hg3 Hb.out.size (fun j hj => by have h1 := (HR.out.lt j hj).1; omega))
          clear hr3 hg3
          go_wp2_with fail
          refine Hcp.out.mono ?_; rintro e w4 ⟨rfl, hr4, hg4⟩
          have Hr4 := Lib.hid hr4
          have Hb4 := Lib.hid (show Below w.heap.size w w4 from Below.grown Hb3.out hg4 Hb3.out.size (fun j hj => by have h1 := Option.some.inj hj; omega))
          clear hr4 hg4
          go_wp2
          exact bodyPost_ret (v := .tuple #[.slice (some ⟨g, 0, none⟩) (bdK d a c 3).length cp, .bool true]) (by simp [results, Tryz.results100, go_sem]) rfl ⟨by rw [Hv.out]; exact LsR.own Hr4.out rfl, Hb4.out⟩
end
end Go.Proofs.YthdfpfhkmfmnbaaGreat
