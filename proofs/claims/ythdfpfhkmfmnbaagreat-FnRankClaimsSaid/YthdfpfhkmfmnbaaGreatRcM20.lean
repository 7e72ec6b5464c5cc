/- Own texts put together: LeastSearch: the walks of both sides; OpenCount: the walks of both sides; The reference's source of drawn numbers: its cursor, and what a call leaves as it was; next, pick, one, among. Conditions: those of each theorem. -/
import Derived.Test.YthdfpfhkmfmnbaaGreatRcM19
import Derived.Test.YthdfpfhkmfmnbaaGreatRcM1
import Derived.Laws.Bits64b
namespace Go.Proofs.YthdfpfhkmfmnbaaGreat
section
open Go Go.RowKit Go.Lib

def lsF (a b : Int) : Nat → Nat → Int × Bool
  | 0, _ => (0, false)
  | f + 1, M => if (rbV a b M).2.2 = true then (if (rbV a b M).1 = (rbV a b M).2.1 then ((M : Int), true) else lsF a b f (M + 1)) else (0, false)
/-- The least search that tells the rank, if there is one. -/
def lsV (a b n : Int) : Int × Bool := if askB a b n = true then lsF a b n.toNat 1 else (0, false)
theorem ls_no {a b : Int} {f M : Nat} (h : (rbV a b M).2.2 = false) : lsF a b f M = (0, false) := by
  cases f
  · rfl
  · unfold lsF; rw [if_neg (by rw [h]; decide)]
theorem ls_hit {a b : Int} {f M : Nat} (h : (rbV a b M).2.2 = true) (h1 : (rbV a b M).1 = (rbV a b M).2.1) : lsF a b (f + 1) M = ((M : Int), true) := by
  rw [lsF, if_pos h, if_pos h1]
theorem ls_on {a b : Int} {f M : Nat} (h : (rbV a b M).2.2 = true) (h1 : ¬ (rbV a b M).1 = (rbV a b M).2.1) : lsF a b (f + 1) M = lsF a b f (M + 1) := by
  rw [lsF, if_pos h, if_neg h1]
theorem rb_no1 {a b : Int} {M : Nat} (h : (srV a b).2.2 = false) : (rbV a b M).2.2 = false := by
  unfold rbV; rw [if_neg (by rw [h]; simp)]
theorem rb_no2 {a b : Int} {M : Nat} (h : (frV a b M).2.2 = false) : (rbV a b M).2.2 = false := by
  unfold rbV; rw [if_neg (by rw [h]; simp)]
theorem rb_yes {a b : Int} {M : Nat} (h : (srV a b).2.2 = true) (h1 : (frV a b M).2.2 = true) : (rbV a b M).2.2 = true ∧ (rbV a b M).1 = max ((frV a b M).1 + (frV a b M).2.1 - 2) 0 ∧ (rbV a b M).2.1 = (srV a b).1 + (srV a b).2.1 - 2 := by
  unfold rbV; rw [if_pos ⟨h1, h⟩]; exact ⟨rfl, rfl, rfl⟩

set_option linter.unusedSimpArgs false in
set_option linter.unusedVariables false in
set_option maxRecDepth 8000 in
set_option maxHeartbeats 8000000 in
theorem leastS_any (a b n : Int) (w : World) :
    Calls Tryz.prog 16 #[.agg #[.int .i64 a, .int .i64 b], .int .i64 n] w fun e w' => e = .returned (.tuple #[.int .i64 (lsV a b n).1, .bool (lsV a b n).2]) ∧ Below w.heap.size w w' := by
  have Ha := Lib.hid (fun w9 => rkAsked_any a b n w9)
  obtain ⟨ask, hask⟩ : ∃ ask, askB a b n = ask := ⟨_, rfl⟩
  cases ask
  · have HV := Lib.hid (show lsV a b n = (0, false) from if_neg (by rw [hask]; simp))
    rw [hask] at Ha
    clear hask
    generalize lsV a b n = V at *
    go_enter Tryz.func16, Tryz.ntmps16
    go_wp2_with fail
    refine (Ha.out _).mono ?_; rintro e w1 ⟨rfl, hb1⟩
    have S1 := Lib.hid (show w.heap.size + 1 ≤ w1.heap.size by have h9 := hb1.size; (try simp only [World.size_alloc, World.size_setCell, World.size_drew] at h9); omega)
    have NTB := Lib.hid ((Blk.new w 24 #[.int .i64 a, .int .i64 b]).on hb1)
    have TB := NTB; clear NTB
    have Hb1 := Lib.hid (bthen (bal (Below.refl w.heap.size w) (Obj.cells #[.int .i64 a, .int .i64 b] 24)) hb1)
    clear hb1
    go_wp2
    exact bodyPost_ret (v := .tuple #[.int .i64 0, .bool false]) (by simp [results, Tryz.results16, go_sem]) rfl ⟨by rw [HV.out] <;> rfl, Hb1.out⟩
  have hh := hask
  unfold askB at hh
  rw [Bool.and_eq_true] at hh
  obtain ⟨htw, hin⟩ := hh
  obtain ⟨hn1, hn2⟩ := ins60 hin
  obtain ⟨N, hN⟩ : ∃ N, n.toNat = N := ⟨_, rfl⟩
  have HV := Lib.hid (show lsV a b n = lsF a b n.toNat 1 from if_pos hask)
  rw [hN] at hn1 hn2 HV
  have hN1 : 1 ≤ N := by have := (insB_true hin).1; omega
  rw [hask] at Ha
  have Hf := Lib.hid (fun (k : Nat) (hk : k ≤ 60) w9 => rkFound_any a b k w9 htw hk)
  have Hu := Lib.hid (fun w9 => rkUpper_any a b w9 htw)
  have Hfb := Lib.hid (fun (k : Nat) => fr_bd (a := a) (b := b) (M := k) htw)
  obtain ⟨⟨b1, b2⟩, b3, b4⟩ := sr_bd (a := a) (b := b)
  have Hno1 := Lib.hid (fun (k : Nat) hh => rb_no1 (a := a) (b := b) (M := k) hh)
  have Hno2 := Lib.hid (fun (k : Nat) hh => rb_no2 (a := a) (b := b) (M := k) hh)
  have Hyes := Lib.hid (fun (k : Nat) hh h1 => rb_yes (a := a) (b := b) (M := k) hh h1)
  unfold upV at Hu
  clear hask htw hin hN
  generalize lsV a b n = V at *
  subst hn1
  generalize srV a b = S at *
  obtain ⟨u, v, l⟩ := S
  dsimp only at *
  cases l
  · have HV2 := Lib.hid (show V = (0, false) by rw [HV.out]; exact ls_no (Hno1.out 1 (by simp)))
    rw [if_neg (by decide)] at Hu
    go_enter Tryz.func16, Tryz.ntmps16
    go_wp2_with fail
    refine (Ha.out _).mono ?_; rintro e w2 ⟨rfl, hb2⟩
    have S2 := Lib.hid (show w.heap.size + 1 ≤ w2.heap.size by have h9 := hb2.size; (try simp only [World.size_alloc, World.size_setCell, World.size_drew] at h9); omega)
    have NTB := Lib.hid ((Blk.new w 24 #[.int .i64 a, .int .i64 b]).on hb2)
    have TB := NTB; clear NTB
    have Hb2 := Lib.hid (bthen (bal (Below.refl w.heap.size w) (Obj.cells #[.int .i64 a, .int .i64 b] 24)) hb2)
    clear hb2
    have qTB0 : w2.cell? ⟨w.heap.size, 0, none⟩ = some (.int .i64 a) := TB.out.cell 0
    have qTB1 : w2.cell? ⟨w.heap.size, 1, none⟩ = some (.int .i64 b) := TB.out.cell 1
    have qTBl := TB.out.lt
    go_wp2_with fail
    clear qTB0 qTB1 qTBl
    refine (Hu.out _).mono ?_; rintro e w3 ⟨rfl, hb3⟩
    have S3 := Lib.hid (show w2.heap.size + 0 ≤ w3.heap.size by have h9 := hb3.size; (try simp only [World.size_alloc, World.size_setCell, World.size_drew] at h9); omega)
    have Z3 := Lib.hid (And.intro S2.out S3.out)
    have NTB := Lib.hid (TB.out.on hb3)
    have TB := NTB; clear NTB
    have Hb3 := Lib.hid (bthen Hb2.out hb3)
    clear hb3
    go_wp2
    go_loopw [8] (fun i wr => i = .int .i64 1 ∧ wr = w3) (fun _ _ => 0)
    case atStart => exact ⟨rfl, rfl⟩
    case round =>
      obtain ⟨rfl, rfl⟩ := hrel
      go_wp2
      exact bodyPost_ret (v := .tuple #[.int .i64 0, .bool false]) (by simp [results, Tryz.results16, go_sem]) rfl ⟨by rw [HV2.out], Hb3.out⟩
  rw [if_pos rfl] at Hu
  go_enter Tryz.func16, Tryz.ntmps16
  go_wp2_with fail
  refine (Ha.out _).mono ?_; rintro e w4 ⟨rfl, hb4⟩
  have S4 := Lib.hid (show w.heap.size + 1 ≤ w4.heap.size by have h9 := hb4.size; (try simp only [World.size_alloc, World.size_setCell, World.size_drew] at h9); omega)
  have NTB := Lib.hid ((Blk.new w 24 #[.int .i64 a, .int .i64 b]).on hb4)
  have TB := NTB; clear NTB
  have Hb4 := Lib.hid (bthen (bal (Below.refl w.heap.size w) (Obj.cells #[.int .i64 a, .int .i64 b] 24)) hb4)
  clear hb4
  have qTB0 : w4.cell? ⟨w.heap.size, 0, none⟩ = some (.int .i64 a) := TB.out.cell 0
  have qTB1 : w4.cell? ⟨w.heap.size, 1, none⟩ = some (.int .i64 b) := TB.out.cell 1
  have qTBl := TB.out.lt
  go_wp2_with fail
  clear qTB0 qTB1 qTBl
  refine (Hu.out _).mono ?_; rintro e w5 ⟨rfl, hb5⟩
  have S5 := Lib.hid (show w4.heap.size + 0 ≤ w5.heap.size by have h9 := hb5.size; (try simp only [World.size_alloc, World.size_setCell, World.size_drew] at h9); omega)
  have Z5 := Lib.hid (And.intro S4.out S5.out)
  have NTB := Lib.hid (TB.out.on hb5)
  have TB := NTB; clear NTB
  have Hb5 := Lib.hid (bthen Hb4.out hb5)
  clear hb5
  go_wp2
  go_loopw [8] (fun i wr => ∃ k : Nat, 1 ≤ k ∧ k ≤ N + 1 ∧ i = .int .i64 (k : Int) ∧ Hid (lsF a b N 1 = lsF a b (N + 1 - k) k) ∧ Hid (Below w5.heap.size w5 wr)) (fun i _ => N + 1 - (intOf i).toNat)
  case atStart => exact ⟨1, Nat.le_refl _, by omega, rfl, Lib.hid rfl, Lib.hid (Below.refl _ _)⟩
  case round =>
    obtain ⟨k, hk1, hk, rfl, Hls, Hbw⟩ := hrel
    have TBr := Lib.hid (TB.out.below Hbw.out TB.out.lt)
    have hszw : w5.heap.size ≤ wr.heap.size := Hbw.out.size
    by_cases hlt : k ≤ N
    · have hd : decide ((k : Int) ≤ (N : Int)) = true := decide_eq_true (by omega)
      have hdn : decide (k ≤ N) = true := decide_eq_true hlt
      have hk0 : (0 : Int) ≤ (k : Int) := by omega
      have hk2 : (k : Int) ≤ 60 := by omega
      have q0 : wr.cell? ⟨w.heap.size, 0, none⟩ = some (.int .i64 a) := TBr.out.cell 0
      have q1 : wr.cell? ⟨w.heap.size, 1, none⟩ = some (.int .i64 b) := TBr.out.cell 1
      have ql := TBr.out.lt
      have Hfk := Lib.hid (Hf.out k (by omega))
      obtain ⟨⟨f1, f2⟩, f3, f4⟩ := Hfb.out k
      have Hlo := Lib.hid (fun w9 => rkLow_any (frV a b k).1 (frV a b k).2.1 w9 ⟨f1, f2⟩ ⟨f3, f4⟩)
      have Hnk := Lib.hid (Hno2.out k)
      have Hyk := Lib.hid (Hyes.out k (by simp))
      clear f1 f2 f3 f4
      generalize frV a b k = FF at *
      obtain ⟨x, y, kf⟩ := FF
      dsimp only at *
      generalize max (x + y - 2) 0 = m at *
      go_wp2_with fail
      refine (Hfk.out _).mono ?_; rintro e w8 ⟨rfl, hb8⟩
      clear q0 q1 ql
      have Hbw8 := Lib.hid (Hbw.out.trans (hb8.mono hszw)); clear hb8
      have hsz8 : w5.heap.size ≤ w8.heap.size := Hbw8.out.size
      cases kf
      · have Hq := Lib.hid (Hnk.out (by simp))
        go_wp2
        exact bodyPost_ret (v := .tuple #[.int .i64 0, .bool false]) (by simp [results, Tryz.results16, go_sem]) rfl ⟨by rw [HV.out, Hls.out, ls_no Hq.out], bthen Hb5.out Hbw8.out⟩
      obtain ⟨hy1, hy2, hy3⟩ := Hyk.out (by simp)
      have Hy1 := Lib.hid hy1; have Hy2 := Lib.hid hy2; have Hy3 := Lib.hid hy3; clear hy1 hy2 hy3
      go_wp2_with fail
      refine (Hlo.out _).mono ?_; rintro e w9 ⟨rfl, hb9⟩
      have Hbw9 := Lib.hid (Hbw8.out.trans (hb9.mono hsz8)); clear hb9
      by_cases hm : m = u + v - 2
      · have g1 : (m == u + v - 2) = true := by rw [hm]; simp
        have Hm := Lib.hid hm; clear hm
        go_wp2
        exact bodyPost_ret (v := .tuple #[.int .i64 (k : Int), .bool true]) (by simp [results, Tryz.results16, go_sem]) rfl ⟨by rw [HV.out, Hls.out, show N + 1 - k = (N - k) + 1 by omega, ls_hit Hy1.out (by rw [Hy2.out, Hy3.out, Hm.out])], bthen Hb5.out Hbw9.out⟩
      · have g1 : (m == u + v - 2) = false := beq_eq_false_iff_ne.2 hm
        have g2 : decide (m = u + v - 2) = false := decide_eq_false hm
        have Hm := Lib.hid hm; clear hm
        go_wp2
        go_roundw
        case rel => exact ⟨k + 1, by omega, by omega, by go_num, Lib.hid (by rw [Hls.out, show N + 1 - k = (N - k) + 1 by omega, ls_on Hy1.out (by rw [Hy2.out, Hy3.out]; exact Hm.out), show N + 1 - (k + 1) = N - k by omega]), Hbw9⟩
        case measure => simp [intOf]; omega
    · have hd : decide ((k : Int) ≤ (N : Int)) = false := decide_eq_false (by omega)
      have hdn : decide (k ≤ N) = false := decide_eq_false hlt
      have Hz := Lib.hid (show lsF a b (N + 1 - k) k = (0, false) by rw [show N + 1 - k = 0 by omega]; rfl)
      go_wp2
      exact bodyPost_ret (v := .tuple #[.int .i64 0, .bool false]) (by simp [results, Tryz.results16, go_sem]) rfl ⟨by rw [HV.out, Hls.out, Hz.out], bthen Hb5.out Hbw.out⟩
set_option linter.unusedSimpArgs false in
set_option linter.unusedVariables false in
set_option maxRecDepth 8000 in
set_option maxHeartbeats 8000000 in
theorem leastI_any (a b n : Int) (w : World) :
    Calls Tryz.prog 15 #[.agg #[.int .i64 a, .int .i64 b], .int .i64 n] w fun e w' => e = .returned (.tuple #[.int .i64 (lsV a b n).1, .bool (lsV a b n).2]) ∧ Below w.heap.size w w' := by
  have Ht := Lib.hid (fun w9 => isTwoCurve_any a b w9)
  have Hi := Lib.hid (fun w9 => inside_lit (n := n) (lo := 1) (hi := 60) (k := insB n 1 60) rfl w9)
  obtain ⟨t, htw⟩ : ∃ t, twB a b = t := ⟨_, rfl⟩
  cases t
  · have HV := Lib.hid (show lsV a b n = (0, false) from if_neg (by unfold askB; rw [htw]; simp))
    rw [htw] at Ht
    clear htw
    generalize lsV a b n = V at *
    go_enter Tryz.func15, Tryz.ntmps15
    go_wp2_with fail
    refine (Ht.out _).mono ?_; rintro e w1 ⟨rfl, hb1⟩
    have S1 := Lib.hid (show w.heap.size + 1 ≤ w1.heap.size by have h9 := hb1.size; (try simp only [World.size_alloc, World.size_setCell, World.size_drew] at h9); omega)
    have NTB := Lib.hid ((Blk.new w 24 #[.int .i64 a, .int .i64 b]).on hb1)
    have TB := NTB; clear NTB
    have Hb1 := Lib.hid (bthen (bal (Below.refl w.heap.size w) (Obj.cells #[.int .i64 a, .int .i64 b] 24)) hb1)
    clear hb1
    go_wp2
    exact bodyPost_ret (v := .tuple #[.int .i64 0, .bool false]) (by simp [results, Tryz.results15, go_sem]) rfl ⟨by rw [HV.out] <;> rfl, Hb1.out⟩
  obtain ⟨i, hin⟩ : ∃ i, insB n 1 60 = i := ⟨_, rfl⟩
  cases i
  · have HV := Lib.hid (show lsV a b n = (0, false) from if_neg (by unfold askB; rw [hin]; simp))
    rw [htw] at Ht
    rw [hin] at Hi
    clear htw hin
    generalize lsV a b n = V at *
    go_enter Tryz.func15, Tryz.ntmps15
    go_wp2_with fail
    refine (Ht.out _).mono ?_; rintro e w2 ⟨rfl, hb2⟩
    have S2 := Lib.hid (show w.heap.size + 1 ≤ w2.heap.size by have h9 := hb2.size; (try simp only [World.size_alloc, World.size_setCell, World.size_drew] at h9); omega)
    have NTB := Lib.hid ((Blk.new w 24 #[.int .i64 a, .int .i64 b]).on hb2)
    have TB := NTB; clear NTB
    have Hb2 := Lib.hid (bthen (bal (Below.refl w.heap.size w) (Obj.cells #[.int .i64 a, .int .i64 b] 24)) hb2)
    clear hb2
    have qTB0 : w2.cell? ⟨w.heap.size, 0, none⟩ = some (.int .i64 a) := TB.out.cell 0
    have qTB1 : w2.cell? ⟨w.heap.size, 1, none⟩ = some (.int .i64 b) := TB.out.cell 1
    have qTBl := TB.out.lt
    go_wp2_with fail
    clear qTB0 qTB1 qTBl
    refine (Hi.out _).mono ?_; rintro e w3 ⟨rfl, hb3⟩
    have S3 := Lib.hid (show w2.heap.size + 0 ≤ w3.heap.size by have h9 := hb3.size; (try simp only [World.size_alloc, World.size_setCell, World.size_drew] at h9); omega)
    have Z3 := Lib.hid (And.intro S2.out S3.out)
    have NTB := Lib.hid (TB.out.on hb3)
    have TB := NTB; clear NTB
    have Hb3 := Lib.hid (bthen Hb2.out hb3)
    clear hb3
    go_wp2
    exact bodyPost_ret (v := .tuple #[.int .i64 0, .bool false]) (by simp [results, Tryz.results15, go_sem]) rfl ⟨by rw [HV.out] <;> rfl, Hb3.out⟩
  have hask : askB a b n = true := by unfold askB; rw [htw, hin]; rfl
  obtain ⟨hn1, hn2⟩ := ins60 hin
  obtain ⟨N, hN⟩ : ∃ N, n.toNat = N := ⟨_, rfl⟩
  have HV := Lib.hid (show lsV a b n = lsF a b n.toNat 1 from if_pos hask)
  rw [hN] at hn1 hn2 HV
  have hN1 : 1 ≤ N := by have := (insB_true hin).1; omega
  rw [htw] at Ht
  rw [hin] at Hi
  have Hr := Lib.hid (fun (k : Nat) (hk : k ≤ 60) w9 => rankBounds_any a b k w9 htw hk)
  clear hask htw hin hN
  generalize lsV a b n = V at *
  subst hn1
  go_enter Tryz.func15, Tryz.ntmps15
  go_wp2_with fail
  refine (Ht.out _).mono ?_; rintro e w4 ⟨rfl, hb4⟩
  have S4 := Lib.hid (show w.heap.size + 1 ≤ w4.heap.size by have h9 := hb4.size; (try simp only [World.size_alloc, World.size_setCell, World.size_drew] at h9); omega)
  have NTB := Lib.hid ((Blk.new w 24 #[.int .i64 a, .int .i64 b]).on hb4)
  have TB := NTB; clear NTB
  have Hb4 := Lib.hid (bthen (bal (Below.refl w.heap.size w) (Obj.cells #[.int .i64 a, .int .i64 b] 24)) hb4)
  clear hb4
  have qTB0 : w4.cell? ⟨w.heap.size, 0, none⟩ = some (.int .i64 a) := TB.out.cell 0
  have qTB1 : w4.cell? ⟨w.heap.size, 1, none⟩ = some (.int .i64 b) := TB.out.cell 1
  have qTBl := TB.out.lt
  go_wp2_with fail
  clear qTB0 qTB1 qTBl
  refine (Hi.out _).mono ?_; rintro e w5 ⟨rfl, hb5⟩
  have S5 := Lib.hid (show w4.heap.size + 0 ≤ w5.heap.size by have h9 := hb5.size; (try simp only [World.size_alloc, World.size_setCell, World.size_drew] at h9); omega)
  have Z5 := Lib.hid (And.intro S4.out S5.out)
  have NTB := Lib.hid (TB.out.on hb5)
  have TB := NTB; clear NTB
  have Hb5 := Lib.hid (bthen Hb4.out hb5)
  clear hb5
  go_wp2
  go_loopw [6] (fun i wr => ∃ k : Nat, 1 ≤ k ∧ k ≤ N + 1 ∧ i = .int .i64 (k : Int) ∧ Hid (lsF a b N 1 = lsF a b (N + 1 - k) k) ∧ Hid (Below w5.heap.size w5 wr)) (fun i _ => N + 1 - (intOf i).toNat)
  case atStart => exact ⟨1, Nat.le_refl _, by omega, rfl, Lib.hid rfl, Lib.hid (Below.refl _ _)⟩
  case round =>
    obtain ⟨k, hk1, hk, rfl, Hls, Hbw⟩ := hrel
    have TBr := Lib.hid (TB.out.below Hbw.out TB.out.lt)
    have hszw : w5.heap.size ≤ wr.heap.size := Hbw.out.size
    by_cases hlt : k ≤ N
    · have hd : decide ((k : Int) ≤ (N : Int)) = true := decide_eq_true (by omega)
      have hdn : decide (k ≤ N) = true := decide_eq_true hlt
      have hk0 : (0 : Int) ≤ (k : Int) := by omega
      have hk2 : (k : Int) ≤ 60 := by omega
      have q0 : wr.cell? ⟨w.heap.size, 0, none⟩ = some (.int .i64 a) := TBr.out.cell 0
      have q1 : wr.cell? ⟨w.heap.size, 1, none⟩ = some (.int .i64 b) := TBr.out.cell 1
      have ql := TBr.out.lt
      have Hrk := Lib.hid (Hr.out k (by omega))
      have Hno := Lib.hid (fun (f : Nat) hh => ls_no (a := a) (b := b) (f := f) (M := k) hh)
      have Hhit := Lib.hid (fun (f : Nat) hh h1 => ls_hit (a := a) (b := b) (f := f) (M := k) hh h1)
      have Hon := Lib.hid (fun (f : Nat) hh h1 => ls_on (a := a) (b := b) (f := f) (M := k) hh h1)
      generalize rbV a b k = B at *
      obtain ⟨lo, hi, told⟩ := B
      dsimp only at *
      go_wp2_with fail
      refine (Hrk.out _).mono ?_; rintro e w8 ⟨rfl, hb8⟩
      clear q0 q1 ql
      have Hbw8 := Lib.hid (Hbw.out.trans (hb8.mono hszw)); clear hb8
      cases told
      · go_wp2
        exact bodyPost_ret (v := .tuple #[.int .i64 0, .bool false]) (by simp [results, Tryz.results15, go_sem]) rfl ⟨by rw [HV.out, Hls.out, Hno.out _ (by simp)], bthen Hb5.out Hbw8.out⟩
      by_cases hm : lo = hi
      · have g1 : (lo == hi) = true := by rw [hm]; simp
        have Hm := Lib.hid hm; clear hm
        go_wp2
        exact bodyPost_ret (v := .tuple #[.int .i64 (k : Int), .bool true]) (by simp [results, Tryz.results15, go_sem]) rfl ⟨by rw [HV.out, Hls.out, show N + 1 - k = (N - k) + 1 by omega, Hhit.out _ (by simp) Hm.out], bthen Hb5.out Hbw8.out⟩
      · have g1 : (lo == hi) = false := beq_eq_false_iff_ne.2 hm
        have g2 : decide (lo = hi) = false := decide_eq_false hm
        have Hm := Lib.hid hm; clear hm
        go_wp2
        go_roundw
        case rel => exact ⟨k + 1, by omega, by omega, by go_num, Lib.hid (by rw [Hls.out, show N + 1 - k = (N - k) + 1 by omega, Hon.out _ (by simp) Hm.out, show N + 1 - (k + 1) = N - k by omega]), Hbw8⟩
        case measure => simp [intOf]; omega
    · have hd : decide ((k : Int) ≤ (N : Int)) = false := decide_eq_false (by omega)
      have hdn : decide (k ≤ N) = false := decide_eq_false hlt
      have Hz := Lib.hid (show lsF a b (N + 1 - k) k = (0, false) by rw [show N + 1 - k = 0 by omega]; rfl)
      go_wp2
      exact bodyPost_ret (v := .tuple #[.int .i64 0, .bool false]) (by simp [results, Tryz.results15, go_sem]) rfl ⟨by rw [HV.out, Hls.out, Hz.out], bthen Hb5.out Hbw.out⟩
end
section
open Go Go.RowKit Go.Lib

/-- The open classes of a side, the j-th one. -/
def opL (a b : Int) (M j : Nat) : List Int := (smV a b (decide (j = 1))).1.filter (fun d => !hasI (fgV a b (decide (j = 1)) M).1 d)
def ocS (a b : Int) (M : Nat) : Nat → Nat
  | 0 => 0
  | j + 1 => ocS a b M j + (opL a b M j).length
def okS (a b : Int) (M j : Nat) : Bool := (smV a b (decide (j = 1))).2 && (fgV a b (decide (j = 1)) M).2
/-- The number of open classes, if it is told. -/
def opV (a b n : Int) : Int × Bool := if askB a b n = true ∧ (okS a b n.toNat 0 = true ∧ okS a b n.toNat 1 = true) then ((ocS a b n.toNat 2 : Int), true) else (0, false)
theorem flx_yes {f : Int → Bool} {l : List Int} {k m m0 : Nat} (h : k < l.length) (hf : f l[k] = true) (hm : m = m0 + ((l.take k).filter f).length) : m + 1 = m0 + ((l.take (k + 1)).filter f).length := by
  rw [flt_yes h hf, List.length_append, hm]; rfl
theorem flx_no {f : Int → Bool} {l : List Int} {k m m0 : Nat} (h : k < l.length) (hf : f l[k] = false) (hm : m = m0 + ((l.take k).filter f).length) : m = m0 + ((l.take (k + 1)).filter f).length := by
  rw [flt_no h hf, hm]

set_option linter.unusedSimpArgs false in
set_option linter.unusedVariables false in
set_option maxRecDepth 8000 in
set_option maxHeartbeats 8000000 in
theorem openS_any (a b n : Int) (w : World) :
    Calls Tryz.prog 8 #[.agg #[.int .i64 a, .int .i64 b], .int .i64 n] w fun e w' => e = .returned (.tuple #[.int .i64 (opV a b n).1, .bool (opV a b n).2]) ∧ Below w.heap.size w w' := by
  have Ha := Lib.hid (fun w9 => rkAsked_any a b n w9)
  obtain ⟨ask, hask⟩ : ∃ ask, askB a b n = ask := ⟨_, rfl⟩
  cases ask
  · have HV := Lib.hid (show opV a b n = (0, false) from if_neg (by rw [hask]; simp))
    rw [hask] at Ha
    clear hask
    generalize opV a b n = V at *
    go_enter Tryz.func8, Tryz.ntmps8
    go_wp2_with fail
    refine (Ha.out _).mono ?_; rintro e w1 ⟨rfl, hb1⟩
    have S1 := Lib.hid (show w.heap.size + 1 ≤ w1.heap.size by have h9 := hb1.size; (try simp only [World.size_alloc, World.size_setCell, World.size_drew] at h9); omega)
    have NTB := Lib.hid ((Blk.new w 24 #[.int .i64 a, .int .i64 b]).on hb1)
    have TB := NTB; clear NTB
    have Hb1 := Lib.hid (bthen (bal (Below.refl w.heap.size w) (Obj.cells #[.int .i64 a, .int .i64 b] 24)) hb1)
    clear hb1
    go_wp2
    exact bodyPost_ret (v := .tuple #[.int .i64 0, .bool false]) (by simp [results, Tryz.results8, go_sem]) rfl ⟨by rw [HV.out] <;> rfl, Hb1.out⟩
  have hh := hask
  unfold askB at hh
  rw [Bool.and_eq_true] at hh
  obtain ⟨htw, hin⟩ := hh
  obtain ⟨hn1, hn2⟩ := ins60 hin
  obtain ⟨M, hN⟩ : ∃ N, n.toNat = N := ⟨_, rfl⟩
  have HY := Lib.hid (fun (h : okS a b n.toNat 0 = true ∧ okS a b n.toNat 1 = true) => show opV a b n = ((ocS a b n.toNat 2 : Int), true) from if_pos ⟨hask, h⟩)
  have HN := Lib.hid (fun (hx : ¬ (okS a b n.toNat 0 = true ∧ okS a b n.toNat 1 = true)) => show opV a b n = (0, false) from if_neg (fun h => hx h.2))
  rw [hN] at hn1 hn2 HY HN
  rw [hask] at Ha
  have Hs := Lib.hid (fun (s : Bool) w9 => dsSelmer_any a b s w9 htw)
  have Hg := Lib.hid (fun (s : Bool) w9 => rkGroup_any a b s M w9 htw hn2)
  have Hl1 := Lib.hid (fun (s : Bool) => sm_len (a := a) (b := b) (s := s) htw)
  have Hl2 := Lib.hid (fun (s : Bool) => fg_64 (a := a) (b := b) (s := s) (M := M) htw)
  have Hok := Lib.hid (fun (j : Nat) => show okS a b M j = ((smV a b (decide (j = 1))).2 && (fgV a b (decide (j = 1)) M).2) from rfl)
  have Hoc := Lib.hid (fun (j : Nat) => show ocS a b M (j + 1) = ocS a b M j + ((smV a b (decide (j = 1))).1.filter (fun d => !hasI (fgV a b (decide (j = 1)) M).1 d)).length from rfl)
  have Hoc0 := Lib.hid (show ocS a b M 0 = 0 from rfl)
  clear hask htw hin hN
  generalize opV a b n = V at *
  subst hn1
  go_enter Tryz.func8, Tryz.ntmps8
  go_wp2_with fail
  refine (Ha.out _).mono ?_; rintro e w2 ⟨rfl, hb2⟩
  have S2 := Lib.hid (show w.heap.size + 1 ≤ w2.heap.size by have h9 := hb2.size; (try simp only [World.size_alloc, World.size_setCell, World.size_drew] at h9); omega)
  have NTB := Lib.hid ((Blk.new w 24 #[.int .i64 a, .int .i64 b]).on hb2)
  have TB := NTB; clear NTB
  have Hb2 := Lib.hid (bthen (bal (Below.refl w.heap.size w) (Obj.cells #[.int .i64 a, .int .i64 b] 24)) hb2)
  clear hb2
  go_wp2
  have BB := Lib.hid (Blk.new w2 4 #[.bool false, .bool true])
  have TB2 := Lib.hid (TB.out.alloc (Obj.cells #[.bool false, .bool true] 4))
  have Hb2 := Lib.hid (bal Hb2.out (Obj.cells #[.bool false, .bool true] 4))
  obtain ⟨wt, hw9⟩ : ∃ x, x = (World.alloc w2 (Obj.cells #[.bool false, .bool true] 4)) := ⟨_, rfl⟩
  rw [← hw9] at BB TB2 Hb2 ⊢
  have Hszt := Lib.hid (show w2.heap.size + 1 = wt.heap.size by rw [hw9, World.size_alloc])
  clear hw9
  go_loopw [21, 6] (fun i c wr => ∃ j m : Nat, j ≤ 2 ∧ m ≤ 2000000 * j ∧ i = .int .i64 (j : Int) ∧ c = .int .i64 (m : Int) ∧ Hid (m = ocS a b M j) ∧ Hid (∀ i < j, okS a b M i = true) ∧ Hid (Below wt.heap.size wt wr)) (fun i _ _ => 2 - (intOf i).toNat)
  case atStart => exact ⟨0, 0, by omega, by omega, rfl, rfl, Lib.hid Hoc0.out.symm, Lib.hid (fun i hi => by omega), Lib.hid (Below.refl _ _)⟩
  case round =>
    obtain ⟨j, m0, hj, hm0, rfl, rfl, Hm0, Hall, Hbw⟩ := hrel
    have TBr := Lib.hid (TB2.out.below Hbw.out TB2.out.lt)
    have BBr := Lib.hid (BB.out.below Hbw.out BB.out.lt)
    have hszw : wt.heap.size ≤ wr.heap.size := Hbw.out.size
    by_cases hlt : j < 2
    · have hd : decide ((j : Int) < (2 : Int)) = true := decide_eq_true (by omega)
      have hdn : decide (j < 2) = true := decide_eq_true hlt
      have hj0 : (0 : Int) ≤ (j : Int) := by omega
      have hj1 : (j : Int) < 2 := by omega
      obtain ⟨s, hs⟩ : ∃ s, decide (j = 1) = s := ⟨_, rfl⟩
      have hcs : wr.cell? ⟨w2.heap.size, j, none⟩ = some (.bool s) := by
        rcases (show j = 0 ∨ j = 1 by omega) with rfl | rfl
        · rw [← hs]; exact BBr.out.cell 0
        · rw [← hs]; exact BBr.out.cell 1
      have Hokj := Lib.hid (Hok.out j)
      have Hocj := Lib.hid (Hoc.out j)
      rw [hs] at Hokj Hocj
      have Hs1 := Lib.hid (Hs.out s)
      have Hg1 := Lib.hid (Hg.out s)
      have hL1 := Hl1.out s
      have hL2 := Hl2.out s
      generalize smV a b s = S at *
      generalize fgV a b s M = G at *
      obtain ⟨L, k1⟩ := S
      obtain ⟨R, k2⟩ := G
      dsimp only at *
      have HL1 := Lib.hid hL1; have HL2 := Lib.hid hL2; clear hL1 hL2 hs
      have q0 : wr.cell? ⟨w.heap.size, 0, none⟩ = some (.int .i64 a) := TBr.out.cell 0
      have q1 : wr.cell? ⟨w.heap.size, 1, none⟩ = some (.int .i64 b) := TBr.out.cell 1
      have ql := TBr.out.lt
      have qb := BBr.out.lt
      go_wp2_with fail
      refine (Hs1.out _).mono ?_; rintro e w8 ⟨⟨A8, c8, rfl, hr8⟩, hb8⟩
      dsimp only at *
      clear q0 q1 ql qb hcs
      have TB8 := Lib.hid (TBr.out.below hb8 TBr.out.lt)
      have Hbw8 := Lib.hid (Hbw.out.trans (hb8.mono hszw)); clear hb8
      have hsz8 : wt.heap.size ≤ w8.heap.size := Hbw8.out.size
      have HR8 := Lib.hid hr8; clear hr8
      have q0 : w8.cell? ⟨w.heap.size, 0, none⟩ = some (.int .i64 a) := TB8.out.cell 0
      have q1 : w8.cell? ⟨w.heap.size, 1, none⟩ = some (.int .i64 b) := TB8.out.cell 1
      have ql := TB8.out.lt
      go_wp2_with fail
      refine (Hg1.out _).mono ?_; rintro e w9 ⟨⟨A9, c9, rfl, hr9⟩, hb9⟩
      dsimp only at *
      clear q0 q1 ql
      have HR8b := Lib.hid (HR8.out.on hb9)
      have HR9 := Lib.hid hr9; clear hr9
      have Hbw9 := Lib.hid (Hbw8.out.trans (hb9.mono hsz8)); clear hb9
      have hsz9 : wt.heap.size ≤ w9.heap.size := Hbw9.out.size
      cases k1
      · have HV := Lib.hid (HN.out (fun h9 => by
            have h8 : okS a b M j = true := by rcases (show j = 0 ∨ j = 1 by omega) with rfl | rfl; exact h9.1; exact h9.2
            rw [Hokj.out] at h8; revert h8; simp))
        go_wp2
        exact bodyPost_ret (v := .tuple #[.int .i64 0, .bool false]) (by simp [results, Tryz.results8, go_sem]) rfl ⟨by rw [HV.out], bthen Hb2.out Hbw9.out⟩
      cases k2
      · have HV := Lib.hid (HN.out (fun h9 => by
            have h8 : okS a b M j = true := by rcases (show j = 0 ∨ j = 1 by omega) with rfl | rfl; exact h9.1; exact h9.2
            rw [Hokj.out] at h8; revert h8; simp))
        go_wp2
        exact bodyPost_ret (v := .tuple #[.int .i64 0, .bool false]) (by simp [results, Tryz.results8, go_sem]) rfl ⟨by rw [HV.out], bthen Hb2.out Hbw9.out⟩
      have Hokt := Lib.hid (show okS a b M j = true by rw [Hokj.out]; rfl)
      clear Hokj
      go_wp2
      go_loopw [46, 6] (fun i c wx => ∃ k m : Nat, k ≤ L.length ∧ m ≤ m0 + k ∧ i = .int .i64 (k : Int) ∧ c = .int .i64 (m : Int) ∧ Hid (m = m0 + ((L.take k).filter (fun d => !hasI R d)).length) ∧ Hid (Below w9.heap.size w9 wx)) (fun i _ _ => L.length - (intOf i).toNat)
      case atStart => exact ⟨0, m0, Nat.zero_le _, by omega, rfl, rfl, Lib.hid (by simp), Lib.hid (Below.refl _ _)⟩
      case round =>
        obtain ⟨k, m, hk, hm, rfl, rfl, Hm, Hbx⟩ := hrel
        have HRa := Lib.hid (HR8b.out.below Hbx.out)
        have HRb := Lib.hid (HR9.out.below Hbx.out)
        have hszx : w9.heap.size ≤ wr.heap.size := Hbx.out.size
        have hLl := HL1.out
        by_cases hkl : k < L.length
        · obtain ⟨-, -, -, -, hC⟩ := rd_cells HRa.out
          obtain ⟨g2, off2, hA2, hg2⟩ := rd_addr HRa.out (by omega)
          have hc1 := hC g2 off2 hA2 k hkl
          clear hC
          have hgr : g2 < wr.heap.size := Nat.lt_of_lt_of_le hg2 hszx
          subst hA2
          rw [show L.getD k 0 = L[k] by simp [hkl]] at hc1
          have he : decide ((k : Int) < (L.length : Int)) = true := decide_eq_true (by omega)
          have hen : decide (k < L.length) = true := decide_eq_true hkl
          have hk0 : (0 : Int) ≤ (k : Int) := by omega
          have hk1 : (k : Int) < (L.length : Int) := by omega
          have hm0b : (0 : Int) ≤ (m : Int) := by omega
          have hm1b : (m : Int) ≤ 6000000 := by omega
          have Hy := Lib.hid (fun hf => flx_yes (f := fun d => !hasI R d) (m0 := m0) (m := m) hkl hf Hm.out)
          have Hn := Lib.hid (fun hf => flx_no (f := fun d => !hasI R d) (m0 := m0) (m := m) hkl hf Hm.out)
          have Hh := Lib.hid (fun w7 (hr : Rd inS w7 w9.heap.size (.slice A9 R.length c9) R) => l1HasI_any A9 c9 R L[k] w9.heap.size w7 hr (by have := HL2.out; omega))
          generalize L[k] = q at *
          obtain ⟨h, hh⟩ : ∃ h, hasI R q = h := ⟨_, rfl⟩
          rw [hh] at Hh Hy Hn
          go_wp2_with fail
          refine (Hh.out _ HRb.out).mono ?_; rintro e w7 ⟨rfl, hb7⟩
          clear hc1 hg2 hgr
          have Hbx7 := Lib.hid (Hbx.out.trans (hb7.mono hszx)); clear hb7
          cases h
          · have Hf := Lib.hid (Hy.out (by simp))
            go_wp2
            go_roundw
            case rel => exact ⟨k + 1, m + 1, by omega, by omega, by go_num, by go_num, Hf, Hbx7⟩
            case measure => simp [intOf]; omega
          · have Hf := Lib.hid (Hn.out (by simp))
            go_wp2
            go_roundw
            case rel => exact ⟨k + 1, m, by omega, by omega, by go_num, rfl, Hf, Hbx7⟩
            case measure => simp [intOf]; omega
        · obtain rfl : k = L.length := by omega
          have he : decide ((L.length : Int) < (L.length : Int)) = false := decide_eq_false (by omega)
          have hen : decide (L.length < L.length) = false := decide_eq_false (by omega)
          rw [List.take_length] at Hm
          have Hb9 := Lib.hid (Hbw9.out.trans (Hbx.out.mono hsz9))
          have Hm2 := Lib.hid (show m = ocS a b M (j + 1) by rw [Hocj.out, ← Hm0.out]; exact Hm.out)
          have Hal2 := Lib.hid (show ∀ i < j + 1, okS a b M i = true from fun i hi => by rcases Nat.lt_or_ge i j with h | h; exact Hall.out i h; rw [show i = j by omega]; exact Hokt.out)
          go_wp2
          go_roundw
          case rel => exact ⟨j + 1, m, by omega, by omega, by go_num, rfl, Hm2, Hal2, Hb9⟩
          case measure => simp [intOf]; omega
    · obtain rfl : j = 2 := by omega
      have hd : decide (((2 : Nat) : Int) < (2 : Int)) = false := decide_eq_false (by omega)
      have HV := Lib.hid (HY.out ⟨Hall.out 0 (by omega), Hall.out 1 (by omega)⟩)
      go_wp2
      exact bodyPost_ret (v := .tuple #[.int .i64 (m0 : Int), .bool true]) (by simp [results, Tryz.results8, go_sem]) rfl ⟨by rw [HV.out, ← Hm0.out], bthen Hb2.out Hbw.out⟩
set_option linter.unusedSimpArgs false in
set_option linter.unusedVariables false in
set_option maxRecDepth 8000 in
set_option maxHeartbeats 8000000 in
theorem openI_any (a b n : Int) (w : World) :
    Calls Tryz.prog 7 #[.agg #[.int .i64 a, .int .i64 b], .int .i64 n] w fun e w' => e = .returned (.tuple #[.int .i64 (opV a b n).1, .bool (opV a b n).2]) ∧ Below w.heap.size w w' := by
  have Ht := Lib.hid (fun w9 => isTwoCurve_any a b w9)
  have Hi := Lib.hid (fun w9 => inside_lit (n := n) (lo := 1) (hi := 60) (k := insB n 1 60) rfl w9)
  obtain ⟨t, htw⟩ : ∃ t, twB a b = t := ⟨_, rfl⟩
  cases t
  · have HV := Lib.hid (show opV a b n = (0, false) from if_neg (by unfold askB; rw [htw]; simp))
    rw [htw] at Ht
    clear htw
    generalize opV a b n = V at *
    go_enter Tryz.func7, Tryz.ntmps7
    go_wp2_with fail
    refine (Ht.out _).mono ?_; rintro e w1 ⟨rfl, hb1⟩
    have S1 := Lib.hid (show w.heap.size + 1 ≤ w1.heap.size by have h9 := hb1.size; (try simp only [World.size_alloc, World.size_setCell, World.size_drew] at h9); omega)
    have NTB := Lib.hid ((Blk.new w 24 #[.int .i64 a, .int .i64 b]).on hb1)
    have TB := NTB; clear NTB
    have Hb1 := Lib.hid (bthen (bal (Below.refl w.heap.size w) (Obj.cells #[.int .i64 a, .int .i64 b] 24)) hb1)
    clear hb1
    go_wp2
    exact bodyPost_ret (v := .tuple #[.int .i64 0, .bool false]) (by simp [results, Tryz.results7, go_sem]) rfl ⟨by rw [HV.out] <;> rfl, Hb1.out⟩
  obtain ⟨i, hin⟩ : ∃ i, insB n 1 60 = i := ⟨_, rfl⟩
  cases i
  · have HV := Lib.hid (show opV a b n = (0, false) from if_neg (by unfold askB; rw [hin]; simp))
    rw [htw] at Ht
    rw [hin] at Hi
    clear htw hin
    generalize opV a b n = V at *
    go_enter Tryz.func7, Tryz.ntmps7
    go_wp2_with fail
    refine (Ht.out _).mono ?_; rintro e w2 ⟨rfl, hb2⟩
    have S2 := Lib.hid (show w.heap.size + 1 ≤ w2.heap.size by have h9 := hb2.size; (try simp only [World.size_alloc, World.size_setCell, World.size_drew] at h9); omega)
    have NTB := Lib.hid ((Blk.new w 24 #[.int .i64 a, .int .i64 b]).on hb2)
    have TB := NTB; clear NTB
    have Hb2 := Lib.hid (bthen (bal (Below.refl w.heap.size w) (Obj.cells #[.int .i64 a, .int .i64 b] 24)) hb2)
    clear hb2
    have qTB0 : w2.cell? ⟨w.heap.size, 0, none⟩ = some (.int .i64 a) := TB.out.cell 0
    have qTB1 : w2.cell? ⟨w.heap.size, 1, none⟩ = some (.int .i64 b) := TB.out.cell 1
    have qTBl := TB.out.lt
    go_wp2_with fail
    clear qTB0 qTB1 qTBl
    refine (Hi.out _).mono ?_; rintro e w3 ⟨rfl, hb3⟩
    have S3 := Lib.hid (show w2.heap.size + 0 ≤ w3.heap.size by have h9 := hb3.size; (try simp only [World.size_alloc, World.size_setCell, World.size_drew] at h9); omega)
    have Z3 := Lib.hid (And.intro S2.out S3.out)
    have NTB := Lib.hid (TB.out.on hb3)
    have TB := NTB; clear NTB
    have Hb3 := Lib.hid (bthen Hb2.out hb3)
    clear hb3
    go_wp2
    exact bodyPost_ret (v := .tuple #[.int .i64 0, .bool false]) (by simp [results, Tryz.results7, go_sem]) rfl ⟨by rw [HV.out] <;> rfl, Hb3.out⟩
  have hask : askB a b n = true := by unfold askB; rw [htw, hin]; rfl
  obtain ⟨hn1, hn2⟩ := ins60 hin
  obtain ⟨M, hN⟩ : ∃ N, n.toNat = N := ⟨_, rfl⟩
  have HY := Lib.hid (fun (h : okS a b n.toNat 0 = true ∧ okS a b n.toNat 1 = true) => show opV a b n = ((ocS a b n.toNat 2 : Int), true) from if_pos ⟨hask, h⟩)
  have HN := Lib.hid (fun (hx : ¬ (okS a b n.toNat 0 = true ∧ okS a b n.toNat 1 = true)) => show opV a b n = (0, false) from if_neg (fun h => hx h.2))
  rw [hN] at hn1 hn2 HY HN
  rw [htw] at Ht
  rw [hin] at Hi
  have Hs := Lib.hid (fun (s : Bool) w9 => selmer_any a b s w9 htw)
  have Hg := Lib.hid (fun (s : Bool) w9 => foundGroup_any a b s M w9 htw hn2)
  have Hl1 := Lib.hid (fun (s : Bool) => sm_len (a := a) (b := b) (s := s) htw)
  have Hl2 := Lib.hid (fun (s : Bool) => fg_64 (a := a) (b := b) (s := s) (M := M) htw)
  have Hok := Lib.hid (fun (j : Nat) => show okS a b M j = ((smV a b (decide (j = 1))).2 && (fgV a b (decide (j = 1)) M).2) from rfl)
  have Hoc := Lib.hid (fun (j : Nat) => show ocS a b M (j + 1) = ocS a b M j + ((smV a b (decide (j = 1))).1.filter (fun d => !hasI (fgV a b (decide (j = 1)) M).1 d)).length from rfl)
  have Hoc0 := Lib.hid (show ocS a b M 0 = 0 from rfl)
  clear hask htw hin hN
  generalize opV a b n = V at *
  subst hn1
  go_enter Tryz.func7, Tryz.ntmps7
  go_wp2_with fail
  refine (Ht.out _).mono ?_; rintro e w4 ⟨rfl, hb4⟩
  have S4 := Lib.hid (show w.heap.size + 1 ≤ w4.heap.size by have h9 := hb4.size; (try simp only [World.size_alloc, World.size_setCell, World.size_drew] at h9); omega)
  have NTB := Lib.hid ((Blk.new w 24 #[.int .i64 a, .int .i64 b]).on hb4)
  have TB := NTB; clear NTB
  have Hb4 := Lib.hid (bthen (bal (Below.refl w.heap.size w) (Obj.cells #[.int .i64 a, .int .i64 b] 24)) hb4)
  clear hb4
  have qTB0 : w4.cell? ⟨w.heap.size, 0, none⟩ = some (.int .i64 a) := TB.out.cell 0
  have qTB1 : w4.cell? ⟨w.heap.size, 1, none⟩ = some (.int .i64 b) := TB.out.cell 1
  have qTBl := TB.out.lt
  go_wp2_with fail
  clear qTB0 qTB1 qTBl
  refine (Hi.out _).mono ?_; rintro e w5 ⟨rfl, hb5⟩
  have S5 := Lib.hid (show w4.heap.size + 0 ≤ w5.heap.size by have h9 := hb5.size; (try simp only [World.size_alloc, World.size_setCell, World.size_drew] at h9); omega)
  have Z5 := Lib.hid (And.intro S4.out S5.out)
  have NTB := Lib.hid (TB.out.on hb5)
  have TB := NTB; clear NTB
  have Hb5 := Lib.hid (bthen Hb4.out hb5)
  clear hb5
  go_wp2
  have BB := Lib.hid (Blk.new w5 4 #[.bool false, .bool true])
  have TB2 := Lib.hid (TB.out.alloc (Obj.cells #[.bool false, .bool true] 4))
  have Hb2 := Lib.hid (bal Hb5.out (Obj.cells #[.bool false, .bool true] 4))
  obtain ⟨wt, hw9⟩ : ∃ x, x = (World.alloc w5 (Obj.cells #[.bool false, .bool true] 4)) := ⟨_, rfl⟩
  rw [← hw9] at BB TB2 Hb2 ⊢
  have Hszt := Lib.hid (show w5.heap.size + 1 = wt.heap.size by rw [hw9, World.size_alloc])
  clear hw9
  go_loopw [25, 6] (fun i c wr => ∃ j m : Nat, j ≤ 2 ∧ m ≤ 2000000 * j ∧ i = .int .i64 (j : Int) ∧ c = .int .i64 (m : Int) ∧ Hid (m = ocS a b M j) ∧ Hid (∀ i < j, okS a b M i = true) ∧ Hid (Below wt.heap.size wt wr)) (fun i _ _ => 2 - (intOf i).toNat)
  case atStart => exact ⟨0, 0, by omega, by omega, rfl, rfl, Lib.hid Hoc0.out.symm, Lib.hid (fun i hi => by omega), Lib.hid (Below.refl _ _)⟩
  case round =>
    obtain ⟨j, m0, hj, hm0, rfl, rfl, Hm0, Hall, Hbw⟩ := hrel
    have TBr := Lib.hid (TB2.out.below Hbw.out TB2.out.lt)
    have BBr := Lib.hid (BB.out.below Hbw.out BB.out.lt)
    have hszw : wt.heap.size ≤ wr.heap.size := Hbw.out.size
    by_cases hlt : j < 2
    · have hd : decide ((j : Int) < (2 : Int)) = true := decide_eq_true (by omega)
      have hdn : decide (j < 2) = true := decide_eq_true hlt
      have hj0 : (0 : Int) ≤ (j : Int) := by omega
      have hj1 : (j : Int) < 2 := by omega
      obtain ⟨s, hs⟩ : ∃ s, decide (j = 1) = s := ⟨_, rfl⟩
      have hcs : wr.cell? ⟨w5.heap.size, j, none⟩ = some (.bool s) := by
        rcases (show j = 0 ∨ j = 1 by omega) with rfl | rfl
        · rw [← hs]; exact BBr.out.cell 0
        · rw [← hs]; exact BBr.out.cell 1
      have Hokj := Lib.hid (Hok.out j)
      have Hocj := Lib.hid (Hoc.out j)
      rw [hs] at Hokj Hocj
      have Hs1 := Lib.hid (Hs.out s)
      have Hg1 := Lib.hid (Hg.out s)
      have hL1 := Hl1.out s
      have hL2 := Hl2.out s
      generalize smV a b s = S at *
      generalize fgV a b s M = G at *
      obtain ⟨L, k1⟩ := S
      obtain ⟨R, k2⟩ := G
      dsimp only at *
      have HL1 := Lib.hid hL1; have HL2 := Lib.hid hL2; clear hL1 hL2 hs
      have q0 : wr.cell? ⟨w.heap.size, 0, none⟩ = some (.int .i64 a) := TBr.out.cell 0
      have q1 : wr.cell? ⟨w.heap.size, 1, none⟩ = some (.int .i64 b) := TBr.out.cell 1
      have ql := TBr.out.lt
      have qb := BBr.out.lt
      go_wp2_with fail
      refine (Hs1.out _).mono ?_; rintro e w8 ⟨⟨A8, c8, rfl, hr8⟩, hb8⟩
      dsimp only at *
      clear q0 q1 ql qb hcs
      have TB8 := Lib.hid (TBr.out.below hb8 TBr.out.lt)
      have Hbw8 := Lib.hid (Hbw.out.trans (hb8.mono hszw)); clear hb8
      have hsz8 : wt.heap.size ≤ w8.heap.size := Hbw8.out.size
      have HR8 := Lib.hid hr8; clear hr8
      have q0 : w8.cell? ⟨w.heap.size, 0, none⟩ = some (.int .i64 a) := TB8.out.cell 0
      have q1 : w8.cell? ⟨w.heap.size, 1, none⟩ = some (.int .i64 b) := TB8.out.cell 1
      have ql := TB8.out.lt
      go_wp2_with fail
      refine (Hg1.out _).mono ?_; rintro e w9 ⟨⟨A9, c9, rfl, hr9⟩, hb9⟩
      dsimp only at *
      clear q0 q1 ql
      have HR8b := Lib.hid (HR8.out.on hb9)
      have HR9 := Lib.hid hr9; clear hr9
      have Hbw9 := Lib.hid (Hbw8.out.trans (hb9.mono hsz8)); clear hb9
      have hsz9 : wt.heap.size ≤ w9.heap.size := Hbw9.out.size
      cases k1
      · have HV := Lib.hid (HN.out (fun h9 => by
            have h8 : okS a b M j = true := by rcases (show j = 0 ∨ j = 1 by omega) with rfl | rfl; exact h9.1; exact h9.2
            rw [Hokj.out] at h8; revert h8; simp))
        go_wp2
        exact bodyPost_ret (v := .tuple #[.int .i64 0, .bool false]) (by simp [results, Tryz.results7, go_sem]) rfl ⟨by rw [HV.out], bthen Hb2.out Hbw9.out⟩
      cases k2
      · have HV := Lib.hid (HN.out (fun h9 => by
            have h8 : okS a b M j = true := by rcases (show j = 0 ∨ j = 1 by omega) with rfl | rfl; exact h9.1; exact h9.2
            rw [Hokj.out] at h8; revert h8; simp))
        go_wp2
        exact bodyPost_ret (v := .tuple #[.int .i64 0, .bool false]) (by simp [results, Tryz.results7, go_sem]) rfl ⟨by rw [HV.out], bthen Hb2.out Hbw9.out⟩
      have Hokt := Lib.hid (show okS a b M j = true by rw [Hokj.out]; rfl)
      clear Hokj
      go_wp2
      go_loopw [50, 6] (fun i c wx => ∃ k m : Nat, k ≤ L.length ∧ m ≤ m0 + k ∧ i = .int .i64 (k : Int) ∧ c = .int .i64 (m : Int) ∧ Hid (m = m0 + ((L.take k).filter (fun d => !hasI R d)).length) ∧ Hid (Below w9.heap.size w9 wx)) (fun i _ _ => L.length - (intOf i).toNat)
      case atStart => exact ⟨0, m0, Nat.zero_le _, by omega, rfl, rfl, Lib.hid (by simp), Lib.hid (Below.refl _ _)⟩
      case round =>
        obtain ⟨k, m, hk, hm, rfl, rfl, Hm, Hbx⟩ := hrel
        have HRa := Lib.hid (HR8b.out.below Hbx.out)
        have HRb := Lib.hid (HR9.out.below Hbx.out)
        have hszx : w9.heap.size ≤ wr.heap.size := Hbx.out.size
        have hLl := HL1.out
        by_cases hkl : k < L.length
        · obtain ⟨-, -, -, -, hC⟩ := rd_cells HRa.out
          obtain ⟨g2, off2, hA2, hg2⟩ := rd_addr HRa.out (by omega)
          have hc1 := hC g2 off2 hA2 k hkl
          clear hC
          have hgr : g2 < wr.heap.size := Nat.lt_of_lt_of_le hg2 hszx
          subst hA2
          rw [show L.getD k 0 = L[k] by simp [hkl]] at hc1
          have he : decide ((k : Int) < (L.length : Int)) = true := decide_eq_true (by omega)
          have hen : decide (k < L.length) = true := decide_eq_true hkl
          have hk0 : (0 : Int) ≤ (k : Int) := by omega
          have hk1 : (k : Int) < (L.length : Int) := by omega
          have hm0b : (0 : Int) ≤ (m : Int) := by omega
          have hm1b : (m : Int) ≤ 6000000 := by omega
          have Hy := Lib.hid (fun hf => flx_yes (f := fun d => !hasI R d) (m0 := m0) (m := m) hkl hf Hm.out)
          have Hn := Lib.hid (fun hf => flx_no (f := fun d => !hasI R d) (m0 := m0) (m := m) hkl hf Hm.out)
          have Hh := Lib.hid (fun w7 (hr : Rd inS w7 w9.heap.size (.slice A9 R.length c9) R) => containsI_any A9 c9 R L[k] w9.heap.size w7 hr (by have := HL2.out; omega))
          generalize L[k] = q at *
          obtain ⟨h, hh⟩ : ∃ h, hasI R q = h := ⟨_, rfl⟩
          rw [hh] at Hh Hy Hn
          go_wp2_with fail
          refine (Hh.out _ HRb.out).mono ?_; rintro e w7 ⟨rfl, hb7⟩
          clear hc1 hg2 hgr
          have Hbx7 := Lib.hid (Hbx.out.trans (hb7.mono hszx)); clear hb7
          cases h
          · have Hf := Lib.hid (Hy.out (by simp))
            go_wp2
            go_roundw
            case rel => exact ⟨k + 1, m + 1, by omega, by omega, by go_num, by go_num, Hf, Hbx7⟩
            case measure => simp [intOf]; omega
          · have Hf := Lib.hid (Hn.out (by simp))
            go_wp2
            go_roundw
            case rel => exact ⟨k + 1, m, by omega, by omega, by go_num, rfl, Hf, Hbx7⟩
            case measure => simp [intOf]; omega
        · obtain rfl : k = L.length := by omega
          have he : decide ((L.length : Int) < (L.length : Int)) = false := decide_eq_false (by omega)
          have hen : decide (L.length < L.length) = false := decide_eq_false (by omega)
          rw [List.take_length] at Hm
          have Hb9 := Lib.hid (Hbw9.out.trans (Hbx.out.mono hsz9))
          have Hm2 := Lib.hid (show m = ocS a b M (j + 1) by rw [Hocj.out, ← Hm0.out]; exact Hm.out)
          have Hal2 := Lib.hid (show ∀ i < j + 1, okS a b M i = true from fun i hi => by rcases Nat.lt_or_ge i j with h | h; exact Hall.out i h; rw [show i = j by omega]; exact Hokt.out)
          go_wp2
          go_roundw
          case rel => exact ⟨j + 1, m, by omega, by omega, by go_num, rfl, Hm2, Hal2, Hb9⟩
          case measure => simp [intOf]; omega
    · obtain rfl : j = 2 := by omega
      have hd : decide (((2 : Nat) : Int) < (2 : Int)) = false := decide_eq_false (by omega)
      have HV := Lib.hid (HY.out ⟨Hall.out 0 (by omega), Hall.out 1 (by omega)⟩)
      go_wp2
      exact bodyPost_ret (v := .tuple #[.int .i64 (m0 : Int), .bool true]) (by simp [results, Tryz.results7, go_sem]) rfl ⟨by rw [HV.out, ← Hm0.out], bthen Hb2.out Hbw.out⟩
end
section
open Go Go.RowKit

/-! ### What a call that draws leaves as it was: all blocks but the cursor's -/
structure Dg (g : Nat) (w w' : World) : Prop where
  os : w'.os = w.os
  tape : w'.tape = w.tape
  output : w'.output = w.output
  size : w.heap.size ≤ w'.heap.size
  block : ∀ i, i < w.heap.size → i ≠ g → w'.heap[i]? = w.heap[i]?
section
variable {g : Nat} {w w' w1 w2 x y : World}
theorem Dg.refl (g : Nat) (w : World) : Dg g w w := ⟨rfl, rfl, rfl, Nat.le_refl _, fun _ _ _ => rfl⟩
theorem Dg.trans (h : Dg g w w1) (k : Dg g w1 w2) : Dg g w w2 :=
  ⟨k.os.trans h.os, k.tape.trans h.tape, k.output.trans h.output, Nat.le_trans h.size k.size, fun i h1 h2 => (k.block i (Nat.lt_of_lt_of_le h1 h.size) h2).trans (h.block i h1 h2)⟩
theorem Dg.of_below (h : Below w.heap.size w w') : Dg g w w' := ⟨h.os, h.tape, h.output, h.size, fun i h1 _ => h.block i h1⟩
theorem Dg.on (h : Dg g w x) (k : Below x.heap.size x y) : Dg g w y := h.trans (Dg.of_below k)
theorem Dg.alloc (h : Dg g w x) (o : Obj) : Dg g w (x.alloc o) := h.on (bal (Below.refl _ _) o)
theorem Dg.drew (h : Dg g w x) : Dg g w x.drew := ⟨h.os, h.tape, h.output, h.size, h.block⟩
theorem Dg.st (h : Dg g w x) {p : Addr} (hp : w.heap.size ≤ p.block) (u : Value) : Dg g w (x.setCell p u) :=
  ⟨h.os, h.tape, h.output, by rw [World.size_setCell]; exact h.size, fun i h1 h2 => (Below.heap_setCell x p u i (by omega)).trans (h.block i h1 h2)⟩
theorem Dg.stg (h : Dg g w x) (j : Nat) (u : Value) : Dg g w (x.setCell ⟨g, j, none⟩ u) :=
  ⟨h.os, h.tape, h.output, by rw [World.size_setCell]; exact h.size, fun i h1 h2 => (Below.heap_setCell x ⟨g, j, none⟩ u i h2).trans (h.block i h1 h2)⟩
theorem Dg.grown {row : Option Nat} (h : Dg g w x) (k : x.grownBy y row) (hr : ∀ r, row = some r → w.heap.size ≤ r) : Dg g w y :=
  ⟨k.os.trans h.os, k.tape.trans h.tape, k.output.trans h.output, Nat.le_trans h.size k.size, fun i h1 h2 => (k.block i (Nat.lt_of_lt_of_le h1 h.size) (fun e => by have := hr i e.symm; omega)).trans (h.block i h1 h2)⟩
theorem Dg.below (h : Dg g w w') {B : Nat} (hB : B ≤ g) (hw : B ≤ w.heap.size) : Below B w w' := ⟨h.os, h.tape, h.output, h.size, fun i hi => h.block i (by omega) (by omega)⟩
theorem Dg.to_grown (h : Dg g w w') : w.grownBy w' (some g) := ⟨h.os, h.tape, h.output, h.size, fun i h1 h2 => h.block i h1 (fun e => h2 (by rw [e]))⟩
theorem Blk.dg {b : Nat} {t : TypeId} {cs : Array Value} (h : Blk w b t cs) (hd : Dg g w w') (hne : b ≠ g) : Blk w' b t cs := (hd.block b h.lt hne).trans h
theorem own_dg {base : Nat} {e : TypeId} {size n : Nat} {v : Value} {xs : List Value} (h : w.ownsRow base e size v n xs) (hd : Dg g w w') (hb : g < base) : w'.ownsRow base e size v n xs := by
  refine World.ownsRow.kept h hd.to_grown ?_
  cases hv : v.ownBlock with
  | none => exact .inl rfl
  | some k => exact .inr (fun e => by injection e with e; have := (h.lt k hv).1; omega)
theorem dcell {p : Addr} (hd : Dg g w w') (h1 : p.block < w.heap.size) (h2 : p.block ≠ g) : w'.cell? p = w.cell? p := by
  unfold World.cell?
  rw [hd.block _ h1 h2]
end

theorem Blk.set12 {w : World} {g : Nat} {t : TypeId} {a b c b' c' : Value} (h : Blk w g t #[a, b, c]) : Blk ((w.setCell ⟨g, 1, none⟩ b').setCell ⟨g, 2, none⟩ c') g t #[a, b', c'] := by
  have q := ((h.set 1 b').set 2 c')
  simp only [List.setIfInBounds_toArray, List.set_cons_zero, List.set_cons_succ] at q
  exact q
/-! ### The cursor -/
/-- A slice of bytes that lies below g. -/
def BytesAt (w : World) (g : Nat) (A : Option Addr) (n : Nat) : Prop :=
  n ≤ maxLen ∧ (0 < n → ∃ gc off, A = some ⟨gc, off, none⟩ ∧ gc < g ∧ gc < w.heap.size ∧ ∀ j, j < n → ∃ b : Nat, b ≤ 255 ∧ w.cell? ⟨gc, off + j, none⟩ = some (.int .u8 (b : Int)))
structure Cur (w : World) (g k : Nat) : Prop where
  ex : ∃ (A : Option Addr) (n c q : Nat) (s : Int), Blk w g 61 #[.slice A n c, .int .i64 (q : Int), .int .u64 s] ∧ q ≤ k ∧ BytesAt w g A n
section
variable {g k : Nat} {w w' x y : World}
theorem BytesAt.dg {A : Option Addr} {n : Nat} (h : BytesAt w g A n) (hd : Dg g w w') : BytesAt w' g A n :=
  ⟨h.1, fun h0 => by
    obtain ⟨gc, off, hA, h1, h2, hc⟩ := h.2 h0
    refine ⟨gc, off, hA, h1, Nat.lt_of_lt_of_le h2 hd.size, fun j hj => ?_⟩
    obtain ⟨b, hb, hcell⟩ := hc j hj
    exact ⟨b, hb, (dcell (p := ⟨gc, off + j, none⟩) hd h2 (Nat.ne_of_lt h1)).trans hcell⟩⟩
theorem Cur.lt (h : Cur w g k) : g < w.heap.size := let ⟨_, _, _, _, _, hB, _⟩ := h.ex; hB.lt
theorem Cur.mono (h : Cur w g k) {j : Nat} (hj : k ≤ j) : Cur w g j := let ⟨A, n, c, q, s, hB, hq, hb⟩ := h.ex; ⟨A, n, c, q, s, hB, Nat.le_trans hq hj, hb⟩
theorem Cur.on (h : Cur w g k) (hb : Below w.heap.size w w') : Cur w' g k := let ⟨A, n, c, q, s, hB, hq, hr⟩ := h.ex; ⟨A, n, c, q, s, hB.on hb, hq, hr.dg (Dg.of_below hb)⟩
theorem Cur.alloc (h : Cur w g k) (o : Obj) : Cur (w.alloc o) g k := h.on (bal (Below.refl _ _) o)
theorem Cur.st (h : Cur w g k) {p : Addr} (hp : g < p.block) (u : Value) : Cur (w.setCell p u) g k := by
  obtain ⟨A, n, c, q, s, hB, hq, hr⟩ := h.ex
  refine ⟨A, n, c, q, s, hB.far (by omega) u, hq, hr.1, fun h0 => ?_⟩
  obtain ⟨gc, off, hA, h1, h2, hc⟩ := hr.2 h0
  refine ⟨gc, off, hA, h1, by rw [World.size_setCell]; exact h2, fun j hj => ?_⟩
  obtain ⟨b, hb, hcell⟩ := hc j hj
  exact ⟨b, hb, (World.cell?_setCell_other _ _ _ _ (by intro e; have h9 := congrArg Addr.block e; simp only at h9; omega)).trans hcell⟩
theorem Cur.grown {row : Option Nat} (h : Cur x g k) (hg : x.grownBy y row) (hr : ∀ r, row = some r → g < r) : Cur y g k := by
  obtain ⟨A, n, c, q, s, hB, hq, hr2⟩ := h.ex
  refine ⟨A, n, c, q, s, (hg.block g hB.lt (fun e => by have := hr g e.symm; omega)).trans hB, hq, hr2.1, fun h0 => ?_⟩
  obtain ⟨gc, off, hA, h1, h2, hc⟩ := hr2.2 h0
  refine ⟨gc, off, hA, h1, Nat.lt_of_lt_of_le h2 hg.size, fun j hj => ?_⟩
  obtain ⟨b, hb, hcell⟩ := hc j hj
  refine ⟨b, hb, ?_⟩
  rw [← hcell]
  unfold World.cell?
  rw [hg.block gc h2 (fun e => by have := hr gc e.symm; omega)]
end
theorem lowbyte (S : Int) (h0 : 0 ≤ S) (h1 : S < 18446744073709551616) : 0 ≤ wrap64 (bits .and .u64 (S / 1099511627776) 255) ∧ wrap64 (bits .and .u64 (S / 1099511627776) 255) ≤ 255 := by
  obtain ⟨a, ha⟩ : ∃ a : Nat, S / 1099511627776 = a := ⟨(S / 1099511627776).toNat, by omega⟩
  have h2 := bits_and_u64_nat a 255 (by omega) (by decide)
  rw [ha, show (255 : Int) = ((255 : Nat) : Int) from rfl, h2]
  have h3 : a &&& 255 ≤ 255 := Nat.and_le_right
  unfold wrap64
  omega
theorem wrap_bd (n : Int) : 0 ≤ IntKind.u64.wrap n ∧ IntKind.u64.wrap n < 18446744073709551616 := by
  rw [IntKind.wrap_u64]
  omega
set_option maxRecDepth 8000 in
set_option maxHeartbeats 4000000 in
theorem next_any (g k : Nat) (w : World) (hc : Cur w g k) (hk : k ≤ 1000000) :
    Calls Tryz.prog 96 #[.pointer (some ⟨g, 0, none⟩)] w fun e w' => (∃ b : Int, 0 ≤ b ∧ b ≤ 255 ∧ e = .returned (.int .i64 b)) ∧ Cur w' g (k + 1) ∧ Dg g w w' := by
  obtain ⟨A, n, c, q, s, hB, hq, hr⟩ := hc.ex
  clear hc
  have hn := hr.1
  unfold maxLen at hn
  have hqn : (q : Int) ≤ 1000000 := by omega
  have Hq := Lib.hid hq
  have HB0 := Lib.hid hB
  have Hr0 := Lib.hid hr
  have Hd0 := Lib.hid (Dg.refl g w)
  have r0 := hB.cell 0
  have r1 := hB.cell 1
  have r2 := hB.cell 2
  have rl := hB.lt
  simp at r0 r1 r2
  clear hB hr hq hk
  go_enter Tryz.func96, Tryz.ntmps96
  go_wp2
  refine wp_region_tame (by kernel_rfl) (by kernel_rfl) (fun T _ W hT => ?_)
  have hx := hT.cell
  repeat (go_big_quiet_step (fail))
  refine wpQuiet_nil ?_
  intro t
  clear hx
  have hbt := hT.below t
  generalize W t = wt1 at hbt ⊢
  clear hT r0 r1 r2 rl
  have HB1 := Lib.hid (HB0.out.on hbt)
  have Hr1 := Lib.hid (Hr0.out.dg (Dg.of_below (g := g) hbt))
  have Hd1 := Lib.hid (Hd0.out.on hbt)
  clear hbt
  have r0 := HB1.out.cell 0
  have r1 := HB1.out.cell 1
  have r2 := HB1.out.cell 2
  have rl := HB1.out.lt
  have rf := HB1.out.frozen
  simp at r0 r1 r2
  by_cases hlt : q < n
  · obtain ⟨gc, off, rfl, hgc, hgl, hcell⟩ := Hr1.out.2 (by omega)
    obtain ⟨b, hb, f0⟩ := hcell q hlt
    clear hcell
    have hb0 : (b : Int) ≤ 255 := by omega
    have hqq : (q : Int) < (n : Int) := by omega
    clear rf
    go_wp2
    refine wp_region_tame (by kernel_rfl) (by kernel_rfl) (fun T _ W hT => ?_)
    have hx := hT.cell
    repeat (go_big_quiet_step (fail))
    refine wpQuiet_nil ?_
    intro t
    clear hx
    have hbt := hT.below t
    generalize W t = wt2 at hbt ⊢
    clear hT r0 r1 r2 rl f0
    have HB2 := Lib.hid (HB1.out.on hbt)
    have Hr2 := Lib.hid (Hr1.out.dg (Dg.of_below (g := g) hbt))
    have Hd2 := Lib.hid (Hd1.out.on hbt)
    clear hbt
    have r0 := HB2.out.cell 0
    have r1 := HB2.out.cell 1
    have r2 := HB2.out.cell 2
    have rl := HB2.out.lt
    have rf := HB2.out.frozen
    simp at r0 r1 r2
    go_wp2
    have HS := Lib.hid (wrap_bd (IntKind.u64.wrap (IntKind.u64.wrap (s * 6364136223846793005) + (b : Int)) + 1442695040888963407))
    generalize IntKind.u64.wrap (IntKind.u64.wrap (IntKind.u64.wrap (s * 6364136223846793005) + (b : Int)) + 1442695040888963407) = S at HS ⊢
    have HBq := Lib.hid (show Blk (World.setCell (World.setCell wt2 ⟨g, 1, none⟩ (.int .i64 ((q : Int) + 1))) ⟨g, 2, none⟩ (.int .u64 S)) g _ _ from HB2.out.set12)
    have Hrq := Lib.hid (Hr2.out.dg (show Dg g wt2 (World.setCell (World.setCell wt2 ⟨g, 1, none⟩ (.int .i64 ((q : Int) + 1))) ⟨g, 2, none⟩ (.int .u64 S)) from ((Dg.refl g _).stg _ _).stg _ _))
    have Hdq := Lib.hid (show Dg g w (World.setCell (World.setCell wt2 ⟨g, 1, none⟩ (.int .i64 ((q : Int) + 1))) ⟨g, 2, none⟩ (.int .u64 S)) from (Hd2.out.stg _ _).stg _ _)
    generalize (World.setCell (World.setCell wt2 ⟨g, 1, none⟩ (.int .i64 ((q : Int) + 1))) ⟨g, 2, none⟩ (.int .u64 S)) = wq at HBq Hrq Hdq ⊢
    clear r0 r1 r2 rl rf
    have r0 := HBq.out.cell 0
    have r1 := HBq.out.cell 1
    have r2 := HBq.out.cell 2
    have rl := HBq.out.lt
    have rf := HBq.out.frozen
    simp at r0 r1 r2
    refine wp_region_tame (by kernel_rfl) (by kernel_rfl) (fun T _ W hT => ?_)
    have hx := hT.cell
    repeat (go_big_quiet_step (fail))
    refine wpQuiet_nil ?_
    intro t
    clear hx
    have hbt := hT.below t
    generalize W t = wt9 at hbt ⊢
    clear hT r0 r1 r2 rl
    have HB9 := Lib.hid (HBq.out.on hbt)
    have Hr9 := Lib.hid (Hrq.out.dg (Dg.of_below (g := g) hbt))
    have Hd9 := Lib.hid (Hdq.out.on hbt)
    clear hbt
    have r0 := HB9.out.cell 0
    have r1 := HB9.out.cell 1
    have r2 := HB9.out.cell 2
    have rl := HB9.out.lt
    have rf := HB9.out.frozen
    simp at r0 r1 r2
    have hqq9 : (q : Int) + 1 ≤ (n : Int) := by omega
    go_wp2
    go_ret
    exact ⟨⟨_, by omega, by omega, rfl⟩, ⟨_, n, c, q + 1, S, by have h9 := HB9.out; rw [show ((q + 1 : Nat) : Int) = (q : Int) + 1 by omega]; exact h9, by have := Hq.out; omega, Hr9.out⟩, Hd9.out⟩
  · go_wp2
    have HS := Lib.hid (wrap_bd (IntKind.u64.wrap (IntKind.u64.wrap (s * 6364136223846793005)) + 1442695040888963407))
    generalize IntKind.u64.wrap (IntKind.u64.wrap (IntKind.u64.wrap (s * 6364136223846793005)) + 1442695040888963407) = S at HS ⊢
    have HBq := Lib.hid (show Blk (World.setCell (World.setCell wt1 ⟨g, 1, none⟩ (.int .i64 ((q : Int) + 1))) ⟨g, 2, none⟩ (.int .u64 S)) g _ _ from HB1.out.set12)
    have Hrq := Lib.hid (Hr1.out.dg (show Dg g wt1 (World.setCell (World.setCell wt1 ⟨g, 1, none⟩ (.int .i64 ((q : Int) + 1))) ⟨g, 2, none⟩ (.int .u64 S)) from ((Dg.refl g _).stg _ _).stg _ _))
    have Hdq := Lib.hid (show Dg g w (World.setCell (World.setCell wt1 ⟨g, 1, none⟩ (.int .i64 ((q : Int) + 1))) ⟨g, 2, none⟩ (.int .u64 S)) from (Hd1.out.stg _ _).stg _ _)
    generalize (World.setCell (World.setCell wt1 ⟨g, 1, none⟩ (.int .i64 ((q : Int) + 1))) ⟨g, 2, none⟩ (.int .u64 S)) = wq at HBq Hrq Hdq ⊢
    clear r0 r1 r2 rl rf
    have r0 := HBq.out.cell 0
    have r1 := HBq.out.cell 1
    have r2 := HBq.out.cell 2
    have rl := HBq.out.lt
    have rf := HBq.out.frozen
    simp at r0 r1 r2
    refine wp_region_tame (by kernel_rfl) (by kernel_rfl) (fun T _ W hT => ?_)
    have hx := hT.cell
    repeat (go_big_quiet_step (fail))
    refine wpQuiet_nil ?_
    intro t
    clear hx
    have hbt := hT.below t
    generalize W t = wt9 at hbt ⊢
    clear hT r0 r1 r2 rl
    have HB9 := Lib.hid (HBq.out.on hbt)
    have Hr9 := Lib.hid (Hrq.out.dg (Dg.of_below (g := g) hbt))
    have Hd9 := Lib.hid (Hdq.out.on hbt)
    clear hbt
    have r0 := HB9.out.cell 0
    have r1 := HB9.out.cell 1
    have r2 := HB9.out.cell 2
    have rl := HB9.out.lt
    have rf := HB9.out.frozen
    simp at r0 r1 r2
    have hqq9 : ¬ (q : Int) + 1 ≤ (n : Int) := by omega
    have Hlb := Lib.hid (lowbyte S HS.out.1 HS.out.2)
    go_wp2
    go_ret
    exact ⟨⟨_, Hlb.out.1, Hlb.out.2, rfl⟩, ⟨_, n, c, q + 1, S, by have h9 := HB9.out; rw [show ((q + 1 : Nat) : Int) = (q : Int) + 1 by omega]; exact h9, by have := Hq.out; omega, Hr9.out⟩, Hd9.out⟩
theorem emod_bd {x n : Int} (hn : 1 < n) : 0 ≤ x % n ∧ x % n ≤ n - 1 := by
  have h1 := Int.emod_nonneg x (show n ≠ 0 by omega)
  have h2 := Int.emod_lt_of_pos x (show 0 < n by omega)
  omega
set_option maxRecDepth 8000 in
set_option maxHeartbeats 4000000 in
theorem pick_any (g k : Nat) (n : Int) (w : World) (hc : Cur w g k) (hk : k ≤ 900000) :
    Calls Tryz.prog 66 #[.pointer (some ⟨g, 0, none⟩), .int .i64 n] w fun e w' => (∃ x : Int, 0 ≤ x ∧ x ≤ max (n - 1) 0 ∧ e = .returned (.int .i64 x)) ∧ Cur w' g (k + 2) ∧ Dg g w w' := by
  have Hc := Lib.hid hc; clear hc
  have Hk := Lib.hid hk; clear hk
  by_cases h1 : n ≤ 1
  · go_enter Tryz.func66, Tryz.ntmps66
    go_wp2
    go_ret
    exact ⟨⟨0, by omega, by omega, rfl⟩, Hc.out.mono (by omega), Dg.refl _ _⟩
  · go_enter Tryz.func66, Tryz.ntmps66
    go_wp2_with fail
    refine (next_any g k _ Hc.out (by have := Hk.out; omega)).mono ?_; rintro e w1 ⟨⟨b, hb0, hb1, rfl⟩, hc1, hd1⟩
    have Hc1 := Lib.hid hc1; have Hd1 := Lib.hid hd1; clear hc1 hd1
    by_cases h2 : n > 200
    · go_wp2_with fail
      refine (next_any g (k + 1) _ Hc1.out (by have := Hk.out; omega)).mono ?_; rintro e w2 ⟨⟨b2, hb3, hb4, rfl⟩, hc2, hd2⟩
      have Hc2 := Lib.hid hc2; have Hd2 := Lib.hid (Hd1.out.trans hd2); clear hc2 hd2
      have hn1 : (1 : Int) < n := by omega
      have Hm := Lib.hid (emod_bd (x := b * 256 + b2) hn1)
      have hn0 : n ≠ 0 := by omega
      go_wp2
      go_ret
      exact ⟨⟨_, Hm.out.1, by have := Hm.out.2; omega, rfl⟩, Hc2.out, Hd2.out⟩
    · have hn1 : (1 : Int) < n := by omega
      have Hm := Lib.hid (emod_bd (x := b) hn1)
      have hn0 : n ≠ 0 := by omega
      go_wp2
      go_ret
      exact ⟨⟨_, Hm.out.1, by have := Hm.out.2; omega, rfl⟩, Hc1.out.mono (by omega), Hd1.out⟩
set_option maxHeartbeats 1000000 in
theorem one_any (g k : Nat) (n : Int) (w : World) (hc : Cur w g k) (hk : k ≤ 900000) :
    Calls Tryz.prog 64 #[.pointer (some ⟨g, 0, none⟩), .int .i64 n] w fun e w' => (∃ b : Bool, e = .returned (.bool b)) ∧ Cur w' g (k + 2) ∧ Dg g w w' := by
  have Hc := Lib.hid hc; clear hc
  have Hk := Lib.hid hk; clear hk
  go_enter Tryz.func64, Tryz.ntmps64
  go_wp2_with fail
  refine (pick_any g k n _ Hc.out Hk.out).mono ?_; rintro e w1 ⟨⟨x, hx0, hx1, rfl⟩, hc1, hd1⟩
  clear hx0 hx1
  go_wp2
  go_ret
  exact ⟨⟨_, rfl⟩, hc1, hd1⟩
/-- A slice of ints just made. -/
theorem rdI (w : World) (t : TypeId) (es : List Int) (hl : es.length ≤ 1000) : Rd inS (w.alloc (.cells (es.map (Value.int .i64)).toArray t)) (w.alloc (.cells (es.map (Value.int .i64)).toArray t)).heap.size (.slice (some ⟨w.heap.size, 0, none⟩) es.length es.length) es := by
  refine ⟨_, es.length, rfl, Nat.le_refl _, by unfold maxLen; omega, fun _ => ⟨w.heap.size, 0, rfl, by rw [World.size_alloc]; omega, fun k hk j hj => ?_⟩⟩
  have hj0 : j = 0 := by simp [inS] at hj; exact hj
  subst hj0
  rw [show 0 + k * inS.size + 0 = k by simp [inS], (Blk.new w t (es.map (Value.int .i64)).toArray).cell k]
  simp only [List.getElem?_toArray, List.getElem?_map, List.getElem?_eq_getElem hk, Option.map_some]
  show some (Value.int .i64 es[k]) = some (Value.int .i64 (inS.get es k))
  unfold Shape.get
  rw [List.getD_eq_getElem?_getD, List.getElem?_eq_getElem hk]; rfl
set_option maxHeartbeats 1000000 in
theorem among_any (g k : Nat) (v : Value) (es : List Int) (w : World) (hc : Cur w g k) (hv : Rd inS w w.heap.size v es) (hne : es ≠ []) (hng : ∀ A n c, v = .slice (some A) n c → A.block ≠ g) (hk : k ≤ 900000) :
    Calls Tryz.prog 39 #[.pointer (some ⟨g, 0, none⟩), v] w fun e w' => (∃ y : Int, y ∈ es ∧ e = .returned (.int .i64 y)) ∧ Cur w' g (k + 2) ∧ Dg g w w' := by
  have Hc := Lib.hid hc; clear hc
  have Hk := Lib.hid hk; clear hk
  have h0 : 0 < es.length := List.length_pos_iff.2 hne
  obtain ⟨A, c, rfl, hcc, hm, hA⟩ := hv
  unfold maxLen at hm
  obtain ⟨ga, off, rfl, hga, hcell⟩ := hA h0
  have hgg := hng _ _ _ rfl
  have hcell := in_cells hcell
  simp only at hgg
  clear hA hne hng
  go_enter Tryz.func39, Tryz.ntmps39
  go_wp2_with fail
  refine (pick_any g k (es.length : Int) _ Hc.out Hk.out).mono ?_; rintro e w1 ⟨⟨x, hx0, hx1, rfl⟩, hc1, hd1⟩
  obtain ⟨q, rfl⟩ : ∃ q : Nat, x = q := ⟨x.toNat, by omega⟩
  have hql : q < es.length := by omega
  have f0 := (dcell (p := ⟨ga, off + q, none⟩) hd1 hga hgg).trans (hcell q hql)
  have hgs := Nat.lt_of_lt_of_le hga hd1.size
  have Hmem : Hid (inS.get es q ∈ es) := Lib.hid (by unfold Shape.get; rw [List.getD_eq_getElem?_getD, List.getElem?_eq_getElem hql]; exact List.getElem_mem hql)
  generalize inS.get es q = y at f0 Hmem
  have Hc1 := Lib.hid hc1; have Hd1 := Lib.hid hd1
  have hi1 : (q : Int) < (es.length : Int) := by omega
  clear hcell hc1 hd1 hx1
  go_wp2
  go_ret
  exact ⟨⟨_, Hmem.out, rfl⟩, Hc1.out, Hd1.out⟩
end
end Go.Proofs.YthdfpfhkmfmnbaaGreat
