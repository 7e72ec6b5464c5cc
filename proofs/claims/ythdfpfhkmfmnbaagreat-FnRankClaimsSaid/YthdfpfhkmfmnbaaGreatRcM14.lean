/- Own texts put together: Is a list a group, and its rank: the walks of both sides, part two; Is a list a group, and its rank: the walks of the program; Divisors, reasons, Selmer and found classes of a descent: the walks of both sides. Conditions: those of each theorem. -/
import Derived.Test.YthdfpfhkmfmnbaaGreatRcM13
import Derived.Test.YthdfpfhkmfmnbaaGreatRcM5
namespace Go.Proofs.YthdfpfhkmfmnbaaGreat
section
open Go Go.RowKit Go.Lib

theorem ins64 {n : Nat} : insB (n : Int) 1 64 = true ↔ 1 ≤ n ∧ n ≤ 64 := by unfold insB; rw [decide_eq_true_eq]; omega
theorem gb_len {l : List Int} (h : insB (l.length : Int) 1 64 = false) : grB l = false := by
  cases hg : grB l
  · rfl
  · have := ins64.2 (gr_iff.1 hg).len; rw [h] at this; exact absurd this (by decide)
theorem gb_cls {l : List Int} {x : Int} (hx : x ∈ l) (h : clB x = false) : grB l = false := by
  cases hg : grB l
  · rfl
  · have := (gr_iff.1 hg).cls x hx; rw [h] at this; exact absurd this (by decide)
theorem gb_list {l : List Int} (h : (l.all clB && insB (l.length : Int) 1 64) = false) : grB l = false := by
  cases hg : grB l
  · rfl
  · have h1 := gr_iff.1 hg
    rw [ins64.2 h1.len, Bool.and_true] at h
    have := List.all_eq_true.2 h1.cls
    rw [h] at this; exact absurd this (by decide)
theorem gb_inc {l : List Int} (h : decide (l.Pairwise (· < ·)) = false) : grB l = false := by
  cases hg : grB l
  · rfl
  · exact absurd (show l.Pairwise (· < ·) from (gr_iff.1 hg).inc) (decide_eq_false_iff_not.1 h)
theorem gb_ninc {l : List Int} (h : ¬ Inc l) : grB l = false := gb_inc (decide_eq_false h)
theorem gb_one {l : List Int} (h : hasI l 1 = false) : grB l = false := by
  cases hg : grB l
  · rfl
  · have := has_iff.2 (gr_iff.1 hg).one; rw [h] at this; exact absurd this (by decide)
theorem gb_mul {l : List Int} {d e : Int} (hd : d ∈ l) (he : e ∈ l) (h : hasI l (pdV d e) = false) : grB l = false := by
  cases hg : grB l
  · rfl
  · have := has_iff.2 ((gr_iff.1 hg).cl d hd e he); rw [h] at this; exact absurd this (by decide)
theorem gb_mulc {l : List Int} {d e : Int} (hd : d ∈ l) (he : e ∈ l) (h : clB (pdV d e) = false) : grB l = false := by
  cases hg : grB l
  · rfl
  · have := (gr_iff.1 hg).cls _ ((gr_iff.1 hg).cl d hd e he); rw [h] at this; exact absurd this (by decide)
theorem gb_yes {l : List Int} (h1 : insB (l.length : Int) 1 64 = true) (h2 : ∀ x ∈ l, clB x = true) (h3 : Inc l) (h4 : hasI l 1 = true) (h5 : ∀ d ∈ l, ∀ e ∈ l, hasI l (pdV d e) = true) : grB l = true :=
  gr_iff.2 ⟨ins64.1 h1, has_iff.1 h4, h2, h3, fun d hd e he => has_iff.1 (h5 d hd e he)⟩
set_option linter.unusedSimpArgs false in
set_option linter.unusedVariables false in
set_option maxRecDepth 8000 in
set_option maxHeartbeats 8000000 in
theorem dsIsGroup_any (A : Option Addr) (c : Nat) (l : List Int) (w : World) (h : Rd inS w w.heap.size (.slice A l.length c) l) (hlen : l.length ≤ 1000000000) :
    Calls Tryz.prog 97 #[.slice A l.length c] w fun e w' => e = .returned (.bool (grB l)) ∧ Below w.heap.size w w' := by
  have Hr0 := Lib.hid h
  have Hli := Lib.hid (dsList_any A c l w h hlen)
  obtain ⟨b1, hb1⟩ : ∃ b1, (l.all clB && insB (l.length : Int) 1 64) = b1 := ⟨_, rfl⟩
  rw [hb1] at Hli
  cases b1
  · have HV := Lib.hid (gb_list hb1)
    generalize grB l = R at *
    clear hb1 h
    go_enter Tryz.func97, Tryz.ntmps97
    go_wp2_with (go_at_call 114; refine Hli.out.mono ?_; rintro e w1 ⟨rfl, hb1⟩)
    go_ret
    exact ⟨by rw [HV.out] <;> rfl, hb1⟩
  rw [Bool.and_eq_true] at hb1
  obtain ⟨ha, hin⟩ := hb1
  rw [List.all_eq_true] at ha
  have Hcl := Lib.hid ha
  have Hin := Lib.hid hin
  have Hri := Lib.hid (fun w9 (h9 : Rd inS w9 w9.heap.size (.slice A l.length c) l) => l1RisingC_any A c l w9 h9 hlen (fun x hx => (clB_bd (Hcl.out x hx)).2))
  clear ha hin
  obtain ⟨b2, hb2⟩ : ∃ b2, decide (l.Pairwise (· < ·)) = b2 := ⟨_, rfl⟩
  rw [hb2] at Hri
  cases b2
  · have HV := Lib.hid (gb_inc hb2)
    generalize grB l = R at *
    clear hb2 h
    go_enter Tryz.func97, Tryz.ntmps97
    go_wp2_with (first | (go_at_call 114; refine Hli.out.mono ?_; rintro e w1 ⟨rfl, hb1⟩; have Hr1 := Lib.hid (Hr0.out.on hb1)) | (go_at_call 115; refine (Hri.out _ Hr1.out).mono ?_; rintro e w2 ⟨rfl, hb2⟩))
    go_ret
    exact ⟨by rw [HV.out] <;> rfl, hb1.trans (hb2.mono hb1.size)⟩
  have Hinc := Lib.hid (show l.Pairwise (· < ·) from decide_eq_true_iff.1 hb2)
  clear hb2
  have Hha := Lib.hid (fun x w9 (h9 : Rd inS w9 w9.heap.size (.slice A l.length c) l) => l1HasI_any A c l x w9.heap.size w9 h9 hlen)
  have Hh1 := Lib.hid (Hha.out 1)
  obtain ⟨b3, hb3⟩ : ∃ b3, hasI l 1 = b3 := ⟨_, rfl⟩
  rw [hb3] at Hh1
  cases b3
  · have HV := Lib.hid (gb_one hb3)
    generalize grB l = R at *
    clear hb3 h
    go_enter Tryz.func97, Tryz.ntmps97
    go_wp2_with (first | (go_at_call 114; refine Hli.out.mono ?_; rintro e w1 ⟨rfl, hb1⟩; have Hr1 := Lib.hid (Hr0.out.on hb1)) | (go_at_call 115; refine (Hri.out _ Hr1.out).mono ?_; rintro e w2 ⟨rfl, hb2⟩; have Hr2 := Lib.hid (Hr1.out.on hb2)) | (go_at_call 32; refine (Hh1.out _ Hr2.out).mono ?_; rintro e w3 ⟨rfl, hb3⟩))
    go_ret
    exact ⟨by rw [HV.out] <;> rfl, (hb1.trans (hb2.mono hb1.size)).trans (hb3.mono (Nat.le_trans hb1.size hb2.size))⟩
  have H1 := Lib.hid hb3
  clear hb3 h
  have Hyes := Lib.hid (fun h5 => gb_yes Hin.out Hcl.out Hinc.out H1.out h5)
  have Hno := Lib.hid (fun d e hd he h5 => gb_mul (l := l) (d := d) (e := e) hd he h5)
  generalize grB l = R at *
  go_enter Tryz.func97, Tryz.ntmps97
  go_wp2_with (first | (go_at_call 114; refine Hli.out.mono ?_; rintro e w1 ⟨rfl, hb1⟩; have Hr1 := Lib.hid (Hr0.out.on hb1)) | (go_at_call 115; refine (Hri.out _ Hr1.out).mono ?_; rintro e w2 ⟨rfl, hb2⟩; have Hr2 := Lib.hid (Hr1.out.on hb2)) | (go_at_call 32; refine (Hh1.out _ Hr2.out).mono ?_; rintro e w3 ⟨rfl, hb3⟩; have Hb3 := Lib.hid ((hb1.trans (hb2.mono hb1.size)).trans (hb3.mono (Nat.le_trans hb1.size hb2.size)))))
  have HB := Hb3
  clear hb1 hb2 hb3 Hr1 Hr2 Hli Hri Hh1 Hb3
  go_loopw [22] (fun i wr => ∃ k : Nat, k ≤ l.length ∧ i = .int .i64 (k : Int) ∧ Hid (∀ d ∈ l.take k, ∀ e ∈ l, hasI l (pdV d e) = true) ∧ Hid (Below w.heap.size w wr)) (fun i _ => l.length - (intOf i).toNat)
  case atStart => exact ⟨0, Nat.zero_le _, rfl, Lib.hid (fun x hx => by simp at hx), HB⟩
  case round =>
    obtain ⟨k, hk, rfl, Hal, Hb⟩ := hrel
    clear HB
    have hk0 : (0 : Int) ≤ (k : Int) := by omega
    have Hrl := Lib.hid (Hr0.out.below Hb.out)
    by_cases hlt : k < l.length
    · obtain ⟨-, -, -, -, hC⟩ := rd_cells Hrl.out
      obtain ⟨g2, off2, hA2, hg2⟩ := rd_addr Hrl.out (by omega)
      have hc1 := hC g2 off2 hA2 k hlt
      clear hC
      subst hA2
      rw [show l.getD k 0 = l[k] by simp [hlt]] at hc1
      have hd : decide ((k : Int) < (l.length : Int)) = true := decide_eq_true (by omega)
      have hdn : decide (k < l.length) = true := decide_eq_true hlt
      have hk1 : (k : Int) < (l.length : Int) := by omega
      have Hmd := Lib.hid (List.getElem_mem hlt)
      have Htk := Lib.hid (List.take_succ_eq_append_getElem hlt)
      generalize l[k] = d at *
      go_wp2
      clear hc1
      have Hal0 := Hal; have Hb0 := Hb; clear Hal Hb Hrl
      go_loopw [28] (fun i wr => ∃ j : Nat, j ≤ l.length ∧ i = .int .i64 (j : Int) ∧ Hid (∀ e ∈ l.take j, hasI l (pdV d e) = true) ∧ Hid (Below w.heap.size w wr)) (fun i _ => l.length - (intOf i).toNat)
      case atStart => exact ⟨0, Nat.zero_le _, rfl, Lib.hid (fun x hx => by simp at hx), Hb0⟩
      case round =>
        obtain ⟨j, hj, rfl, Hal, Hb⟩ := hrel
        clear Hb0
        have hj0 : (0 : Int) ≤ (j : Int) := by omega
        have Hrl := Lib.hid (Hr0.out.below Hb.out)
        by_cases hjl : j < l.length
        · obtain ⟨-, -, -, -, hC⟩ := rd_cells Hrl.out
          have hc1 := hC g2 off2 rfl j hjl
          clear hC
          rw [show l.getD j 0 = l[j] by simp [hjl]] at hc1
          have hd2 : decide ((j : Int) < (l.length : Int)) = true := decide_eq_true (by omega)
          have hd2n : decide (j < l.length) = true := decide_eq_true hjl
          have hj1 : (j : Int) < (l.length : Int) := by omega
          have Hme := Lib.hid (List.getElem_mem hjl)
          have Htk2 := Lib.hid (List.take_succ_eq_append_getElem hjl)
          generalize l[j] = x at *
          have Hcd := Lib.hid (clB_bd (Hcl.out d Hmd.out))
          have Hcx := Lib.hid (clB_bd (Hcl.out x Hme.out))
          have Hpr := Lib.hid (fun w9 => dsProduct_any d x w9 Hcd.out.1 Hcd.out.2 Hcx.out.2)
          have HpV := Lib.hid (fun h => Hno.out d x Hmd.out Hme.out h)
          generalize hz : pdV d x = z at *
          have Hz := Lib.hid hz; clear hz
          have Hhz := Lib.hid (Hha.out z)
          obtain ⟨b, hb⟩ : ∃ b, hasI l z = b := ⟨_, rfl⟩
          rw [hb] at Hhz HpV
          have Hhv := Lib.hid hb
          clear hb
          cases b
          · have HV := Lib.hid (HpV.out rfl)
            go_wp2_with (first | (go_at_call 87; refine (Hpr.out _).mono ?_; rintro e w6 ⟨rfl, hb6⟩; have Hb6 := Lib.hid (bthen Hb.out hb6)) | (go_at_call 32; refine (Hhz.out _ ((Hr0.out.below Hb6.out).more Hb6.out.size)).mono ?_; rintro e w7 ⟨rfl, hb7⟩))
            go_ret
            exact ⟨by rw [HV.out] <;> rfl, bthen Hb6.out hb7⟩
          · go_wp2_with (first | (go_at_call 87; refine (Hpr.out _).mono ?_; rintro e w6 ⟨rfl, hb6⟩; have Hb6 := Lib.hid (bthen Hb.out hb6)) | (go_at_call 32; refine (Hhz.out _ ((Hr0.out.below Hb6.out).more Hb6.out.size)).mono ?_; rintro e w7 ⟨rfl, hb7⟩))
            have Hb7 := Lib.hid (bthen Hb6.out hb7)
            have Hal2 := Lib.hid (show ∀ e ∈ l.take (j + 1), hasI l (pdV d e) = true from fun q hq => by
              rw [Htk2.out] at hq
              rcases List.mem_append.1 hq with h | h
              · exact Hal.out q h
              · rw [List.mem_singleton.1 h, Hz.out]; exact Hhv.out)
            go_roundw
            case rel => exact ⟨j + 1, by omega, by go_num, Hal2, Hb7⟩
            case measure => simp [intOf]; omega
        · obtain rfl : j = l.length := by omega
          have hd2 : decide ((l.length : Int) < (l.length : Int)) = false := decide_eq_false (by omega)
          have hd2n : decide (l.length < l.length) = false := decide_eq_false (by omega)
          have Hal2 := Lib.hid (show ∀ d ∈ l.take (k + 1), ∀ e ∈ l, hasI l (pdV d e) = true from fun q hq => by
            rw [Htk.out] at hq
            rcases List.mem_append.1 hq with h | h
            · exact Hal0.out q h
            · rw [List.mem_singleton.1 h]; have h9 := Hal.out; rwa [List.take_length] at h9)
          go_wp2
          go_roundw
          case rel => exact ⟨k + 1, by omega, by go_num, Hal2, Hb⟩
          case measure => simp [intOf]; omega
    · obtain rfl : k = l.length := by omega
      have hd : decide ((l.length : Int) < (l.length : Int)) = false := decide_eq_false (by omega)
      have hdn : decide (l.length < l.length) = false := decide_eq_false (by omega)
      have HV := Lib.hid (Hyes.out (by have h9 := Hal.out; rwa [List.take_length] at h9))
      go_wp2
      go_ret
      exact ⟨by rw [HV.out] <;> rfl, Hb.out⟩
theorem lg_lt2 {n : Nat} (h : n < 2) : lgV n = 0 := by
  rcases (show n = 0 ∨ n = 1 by omega) with rfl | rfl
  · exact lg_zero
  · exact lg_one
theorem lg_end {k n R : Nat} (h : n < 2) (e : k + lgV n = R) : k = R := by rw [lg_lt2 h] at e; exact e
theorem msr_half {m n : Nat} (h : wrap64 (m : Int) = (m : Int)) (hn : m < n) : (intOf (.int .i64 (wrap64 (m : Int)))).toNat < (intOf (.int .i64 (n : Int))).toNat := by
  rw [h]
  show (m : Int).toNat < (n : Int).toNat
  omega
theorem rk_no {l : List Int} (h : grB l = false) : rkV l = (0, false) := by unfold rkV; rw [if_neg (by rw [h]; decide)]
theorem rk_yes {l : List Int} (h : grB l = true) : rkV l = (((lgV l.length : Nat) : Int), true) := by unfold rkV; rw [if_pos h]
set_option linter.unusedSimpArgs false in
set_option linter.unusedVariables false in
set_option maxRecDepth 8000 in
set_option maxHeartbeats 8000000 in
theorem rankS_any (A : Option Addr) (c : Nat) (l : List Int) (w : World) (h : Rd inS w w.heap.size (.slice A l.length c) l) (hlen : l.length ≤ 1000000000) :
    Calls Tryz.prog 68 #[.slice A l.length c] w fun e w' => e = .returned (.tuple #[.int .i64 (rkV l).1, .bool (rkV l).2]) ∧ Below w.heap.size w w' := by
  have Hg := Lib.hid (dsIsGroup_any A c l w h hlen)
  clear h
  obtain ⟨b, hb⟩ : ∃ b, grB l = b := ⟨_, rfl⟩
  rw [hb] at Hg
  cases b
  · rw [rk_no hb]
    clear hb
    go_enter Tryz.func68, Tryz.ntmps68
    go_wp2_with (go_at_call 97; refine Hg.out.mono ?_; rintro e w1 ⟨rfl, hb1⟩)
    exact bodyPost_ret (v := .tuple #[.int .i64 0, .bool false]) (by simp [results, Tryz.results68, go_sem]) rfl ⟨rfl, hb1⟩
  · rw [rk_yes hb]
    have Hl64 := Lib.hid (gr_iff.1 hb).len
    clear hb
    have hR : ∃ R, lgV l.length = R := ⟨_, rfl⟩
    obtain ⟨R, hR⟩ := hR
    rw [hR]
    have HR := Lib.hid hR
    clear hR
    go_enter Tryz.func68, Tryz.ntmps68
    go_wp2_with (go_at_call 97; refine Hg.out.mono ?_; rintro e w1 ⟨rfl, hb1⟩)
    have Hb1 := Lib.hid hb1
    clear hb1
    go_loopw [4, 5] (fun r i wr => ∃ k n : Nat, 1 ≤ n ∧ n ≤ 64 ∧ k ≤ 64 ∧ r = .int .i64 (k : Int) ∧ i = .int .i64 (n : Int) ∧ Hid (k + lgV n = R) ∧ Hid (Below w.heap.size w wr)) (fun _ i _ => (intOf i).toNat)
    case atStart => exact ⟨0, l.length, Hl64.out.1, Hl64.out.2, by omega, rfl, rfl, Lib.hid (by rw [Nat.zero_add]; exact HR.out), Hb1⟩
    case round =>
      obtain ⟨k, n, hn1, hn2, hk, rfl, rfl, Hk, Hb⟩ := hrel
      clear Hb1
      by_cases h2 : 2 ≤ n
      · have g1 : decide ((1 : Int) < (n : Int)) = true := decide_eq_true (by omega)
        have g2 : decide (1 < n) = true := decide_eq_true (by omega)
        have hq : (n : Int).tdiv 2 = ((n / 2 : Nat) : Int) := by rw [Int.tdiv_eq_ediv_of_nonneg (by omega)]; omega
        have Hn := Lib.hid (show k + 1 + lgV (n / 2) = R by have h := Hk.out; rw [lg_step h2] at h; omega)
        have Hkb := Lib.hid (show k + 1 ≤ 64 by
          have h := Hk.out
          have h3 := HR.out
          have h4 := lg_64 Hl64.out.2
          rw [lg_step h2] at h
          omega)
        have Hn3 := Lib.hid (show 1 ≤ n / 2 ∧ n / 2 ≤ 64 ∧ n / 2 < n by omega)
        generalize n / 2 = m at *
        have hwm : wrap64 (m : Int) = (m : Int) := by unfold wrap64; have := Hn3.out; omega
        go_wp2
        go_roundw
        case rel => exact ⟨k + 1, m, Hn3.out.1, Hn3.out.2.1, Hkb.out, by go_num, by first | rfl | rw [hwm], Hn, Hb⟩
        case measure => exact msr_half hwm Hn3.out.2.2
      · have HV := Lib.hid (lg_end (show n < 2 by omega) Hk.out)
        have g1 : decide ((1 : Int) < (n : Int)) = false := decide_eq_false (by omega)
        have g2 : decide (1 < n) = false := decide_eq_false (by omega)
        go_wp2
        exact bodyPost_ret (v := .tuple #[.int .i64 (k : Int), .bool true]) (by simp [results, Tryz.results68, go_sem]) rfl ⟨by rw [HV.out], Hb.out⟩
end
section
open Go Go.RowKit Go.Lib

set_option linter.unusedSimpArgs false in
set_option linter.unusedVariables false in
set_option maxRecDepth 8000 in
set_option maxHeartbeats 8000000 in
theorem isClassGroup_any (A : Option Addr) (c : Nat) (l : List Int) (w : World) (h : Rd inS w w.heap.size (.slice A l.length c) l) (hlen : l.length ≤ 1000000000) :
    Calls Tryz.prog 98 #[.slice A l.length c] w fun e w' => e = .returned (.bool (grB l)) ∧ Below w.heap.size w w' := by
  have Hr0 := Lib.hid h
  have Hlen := Lib.hid (fun w9 => inside_lit (n := (l.length : Int)) (lo := 1) (hi := 64) (k := insB (l.length : Int) 1 64) rfl w9)
  obtain ⟨b1, hb1⟩ : ∃ b1, insB (l.length : Int) 1 64 = b1 := ⟨_, rfl⟩
  rw [hb1] at Hlen
  cases b1
  · have HV := Lib.hid (gb_len hb1)
    generalize grB l = R at *
    clear hb1 h
    go_enter Tryz.func98, Tryz.ntmps98
    go_wp2_with (go_at_call 23; refine (Hlen.out _).mono ?_; rintro e w1 ⟨rfl, hb1⟩)
    go_ret
    exact ⟨by rw [HV.out] <;> rfl, hb1⟩
  have Hin := Lib.hid hb1
  clear hb1
  have Hha := Lib.hid (fun x w9 (h9 : Rd inS w9 w9.heap.size (.slice A l.length c) l) => containsI_any A c l x w9.heap.size w9 h9 hlen)
  have Hh1 := Lib.hid (Hha.out 1)
  obtain ⟨b3, hb3⟩ : ∃ b3, hasI l 1 = b3 := ⟨_, rfl⟩
  rw [hb3] at Hh1
  cases b3
  · have HV := Lib.hid (gb_one hb3)
    generalize grB l = R at *
    clear hb3 h
    go_enter Tryz.func98, Tryz.ntmps98
    go_wp2_with (first | (go_at_call 23; refine (Hlen.out _).mono ?_; rintro e w1 ⟨rfl, hb1⟩; have Hr1 := Lib.hid (Hr0.out.on hb1)) | (go_at_call 29; refine (Hh1.out _ Hr1.out).mono ?_; rintro e w2 ⟨rfl, hb2⟩))
    go_ret
    exact ⟨by rw [HV.out] <;> rfl, hb1.trans (hb2.mono hb1.size)⟩
  have H1 := Lib.hid hb3
  clear hb3 h
  have Hyes := Lib.hid (fun h2 h3 h5 => gb_yes (l := l) Hin.out h2 h3 H1.out h5)
  have Hno := Lib.hid (fun d e hd he h5 => gb_mul (l := l) (d := d) (e := e) hd he h5)
  have Hnoc := Lib.hid (fun d e hd he h5 => gb_mulc (l := l) (d := d) (e := e) hd he h5)
  have Hnc := Lib.hid (fun d hd h5 => gb_cls (l := l) (x := d) hd h5)
  have Hni := Lib.hid (fun h5 => gb_ninc (l := l) h5)
  generalize grB l = R at *
  go_enter Tryz.func98, Tryz.ntmps98
  go_wp2_with (first | (go_at_call 23; refine (Hlen.out _).mono ?_; rintro e w1 ⟨rfl, hb1⟩; have Hr1 := Lib.hid (Hr0.out.on hb1)) | (go_at_call 29; refine (Hh1.out _ Hr1.out).mono ?_; rintro e w2 ⟨rfl, hb2⟩; have Hb2 := Lib.hid (hb1.trans (hb2.mono hb1.size))))
  have HB := Hb2
  clear hb1 hb2 Hr1 Hlen Hh1 Hb2
  go_loopw [22] (fun i wr => ∃ k : Nat, k ≤ l.length ∧ i = .int .i64 (k : Int) ∧ Hid (∀ d ∈ l.take k, clB d = true) ∧ Hid (Inc (l.take k)) ∧ Hid (Below w.heap.size w wr)) (fun i _ => l.length - (intOf i).toNat)
  case atStart => exact ⟨0, Nat.zero_le _, rfl, Lib.hid (fun x hx => by simp at hx), Lib.hid (by rw [List.take_zero]; exact List.Pairwise.nil), HB⟩
  case round =>
    obtain ⟨k, hk, rfl, Hal, Hic, Hb⟩ := hrel
    clear HB
    have hk0 : (0 : Int) ≤ (k : Int) := by omega
    have Hrl := Lib.hid (Hr0.out.below Hb.out)
    by_cases hlt : k < l.length
    · obtain ⟨-, -, -, -, hC⟩ := rd_cells Hrl.out
      obtain ⟨g2, off2, hA2, hg2⟩ := rd_addr Hrl.out (by omega)
      have hCC := fun j hj => hC g2 off2 hA2 j hj
      clear hC
      have hg2w : g2 < wr.heap.size := Nat.lt_of_lt_of_le hg2 Hb.out.size
      subst hA2
      have hc1 := hCC k hlt
      rw [show l.getD k 0 = l[k] by simp [hlt]] at hc1
      have hd : decide ((k : Int) < (l.length : Int)) = true := decide_eq_true (by omega)
      have hdn : decide (k < l.length) = true := decide_eq_true hlt
      have hk1 : (k : Int) < (l.length : Int) := by omega
      have Hmd := Lib.hid (List.getElem_mem hlt)
      have Htk := Lib.hid (List.take_succ_eq_append_getElem hlt)
      have Hcl := Lib.hid (fun w9 => isClass_any l[k] w9)
      have Hcv := Lib.hid (fun hx => Hnc.out (l[k]'hlt) Hmd.out hx)
      obtain ⟨b, hb⟩ : ∃ b, clB l[k] = b := ⟨_, rfl⟩
      rw [hb] at Hcl Hcv
      cases b
      · have HV := Lib.hid (Hcv.out rfl)
        clear hb hCC Hmd Htk
        generalize l[k] = d at *
        go_wp2_with (go_at_call 103; refine (Hcl.out _).mono ?_; rintro e w6 ⟨rfl, hb6⟩)
        go_ret
        exact ⟨by rw [HV.out] <;> rfl, bthen Hb.out hb6⟩
      have Hal2 := Lib.hid (show ∀ d ∈ l.take (k + 1), clB d = true from fun q hq => by
        rw [Htk.out] at hq
        rcases List.mem_append.1 hq with h | h
        · exact Hal.out q h
        · rw [List.mem_singleton.1 h]; exact hb)
      clear hb Hcv Hal
      rcases Nat.eq_zero_or_pos k with h0 | h0
      · have Hn := Lib.hid (inc_snoc hlt Hic.out (fun m e => absurd e (by omega)))
        have g0 : decide ((0 : Int) < (k : Int)) = false := decide_eq_false (by omega)
        have g0n : decide (0 < k) = false := decide_eq_false (by omega)
        clear hCC h0 Hic Htk Hmd
        generalize l[k] = d at *
        go_wp2_with (go_at_call 103; refine (Hcl.out _).mono ?_; rintro e w8 ⟨rfl, hb8⟩)
        have Hb8 := Lib.hid (bthen Hb.out hb8)
        go_roundw
        case rel => exact ⟨k + 1, by omega, by go_num, Hal2, Hn, Hb8⟩
        case measure => simp [intOf]; omega
      · obtain ⟨m, hm⟩ : ∃ m, k = m + 1 := ⟨k - 1, by omega⟩
        have hml : m < l.length := by omega
        have hc0 := hCC m hml
        rw [show l.getD m 0 = l[m] by simp [hml]] at hc0
        have Hv := Lib.hid (show l[k] ≤ l[m] → R = false from fun hx => Hni.out (fun hi => by
          have h9 := inc_at (m := m) (by omega) hi
          simp only [← hm] at h9
          omega))
        have Hne := Lib.hid (show l[m] < l[k] → Inc (l.take (k + 1)) from fun hx => inc_snoc hlt Hic.out (fun m' e => by (obtain rfl : m = m' := by omega); exact hx))
        clear hCC Hic Htk Hmd
        have hkm : (k : Int) - 1 = (m : Int) := by omega
        clear hm
        have hm0 : (0 : Int) ≤ (m : Int) := by omega
        have hm1 : (m : Int) < (l.length : Int) := by omega
        have hg0 : decide ((0 : Int) < (k : Int)) = true := decide_eq_true (by omega)
        have hg0n : decide (0 < k) = true := decide_eq_true h0
        generalize l[m] = y at *
        generalize l[k] = d at *
        by_cases hyd : d ≤ y
        · have g1 : decide (d ≤ y) = true := decide_eq_true hyd
          have HV := Lib.hid (Hv.out hyd)
          go_wp2_with (go_at_call 103; refine (Hcl.out _).mono ?_; rintro e w8 ⟨rfl, hb8⟩; have hc8 := (hb8.cell (p := ⟨g2, off2 + m, none⟩) hg2w).trans hc0)
          go_ret
          exact ⟨by rw [HV.out] <;> rfl, bthen Hb.out hb8⟩
        · have g1 : decide (d ≤ y) = false := decide_eq_false hyd
          have HV := Lib.hid (Hne.out (by omega))
          go_wp2_with (go_at_call 103; refine (Hcl.out _).mono ?_; rintro e w8 ⟨rfl, hb8⟩; have hc8 := (hb8.cell (p := ⟨g2, off2 + m, none⟩) hg2w).trans hc0)
          have Hb8 := Lib.hid (bthen Hb.out hb8)
          go_roundw
          case rel => exact ⟨k + 1, by omega, by go_num, Hal2, HV, Hb8⟩
          case measure => simp [intOf]; omega
    · obtain rfl : k = l.length := by omega
      have hd : decide ((l.length : Int) < (l.length : Int)) = false := decide_eq_false (by omega)
      have hdn : decide (l.length < l.length) = false := decide_eq_false (by omega)
      have Hcl := Lib.hid (show ∀ d ∈ l, clB d = true by have h9 := Hal.out; rwa [List.take_length] at h9)
      have Hinc := Lib.hid (show Inc l by have h9 := Hic.out; rwa [List.take_length] at h9)
      go_wp2
      have HB := Hb
      clear Hb Hal Hic Hrl hd hdn hk hk0 hlt
      go_loopw [46] (fun i wr => ∃ k : Nat, k ≤ l.length ∧ i = .int .i64 (k : Int) ∧ Hid (∀ d ∈ l.take k, ∀ e ∈ l, hasI l (pdV d e) = true) ∧ Hid (Below w.heap.size w wr)) (fun i _ => l.length - (intOf i).toNat)
      case atStart => exact ⟨0, Nat.zero_le _, rfl, Lib.hid (fun x hx => by simp at hx), HB⟩
      case round =>
        obtain ⟨k, hk, rfl, Hal, Hb⟩ := hrel
        clear HB
        have hk0 : (0 : Int) ≤ (k : Int) := by omega
        have Hrl := Lib.hid (Hr0.out.below Hb.out)
        by_cases hlt : k < l.length
        · obtain ⟨-, -, -, -, hC⟩ := rd_cells Hrl.out
          obtain ⟨g2, off2, hA2, hg2⟩ := rd_addr Hrl.out (by omega)
          have hc1 := hC g2 off2 hA2 k hlt
          clear hC
          subst hA2
          rw [show l.getD k 0 = l[k] by simp [hlt]] at hc1
          have hd : decide ((k : Int) < (l.length : Int)) = true := decide_eq_true (by omega)
          have hdn : decide (k < l.length) = true := decide_eq_true hlt
          have hk1 : (k : Int) < (l.length : Int) := by omega
          have Hmd := Lib.hid (List.getElem_mem hlt)
          have Htk := Lib.hid (List.take_succ_eq_append_getElem hlt)
          generalize l[k] = d at *
          go_wp2
          clear hc1
          have Hal0 := Hal; have Hb0 := Hb; clear Hal Hb Hrl
          go_loopw [52] (fun i wr => ∃ j : Nat, j ≤ l.length ∧ i = .int .i64 (j : Int) ∧ Hid (∀ e ∈ l.take j, hasI l (pdV d e) = true) ∧ Hid (Below w.heap.size w wr)) (fun i _ => l.length - (intOf i).toNat)
          case atStart => exact ⟨0, Nat.zero_le _, rfl, Lib.hid (fun x hx => by simp at hx), Hb0⟩
          case round =>
            obtain ⟨j, hj, rfl, Hal, Hb⟩ := hrel
            clear Hb0
            have hj0 : (0 : Int) ≤ (j : Int) := by omega
            have Hrl := Lib.hid (Hr0.out.below Hb.out)
            by_cases hjl : j < l.length
            · obtain ⟨-, -, -, -, hC⟩ := rd_cells Hrl.out
              have hc1 := hC g2 off2 rfl j hjl
              clear hC
              rw [show l.getD j 0 = l[j] by simp [hjl]] at hc1
              have hd2 : decide ((j : Int) < (l.length : Int)) = true := decide_eq_true (by omega)
              have hd2n : decide (j < l.length) = true := decide_eq_true hjl
              have hj1 : (j : Int) < (l.length : Int) := by omega
              have Hme := Lib.hid (List.getElem_mem hjl)
              have Htk2 := Lib.hid (List.take_succ_eq_append_getElem hjl)
              generalize l[j] = x at *
              have Hcd := Lib.hid (clB_bd (Hcl.out d Hmd.out))
              have Hcx := Lib.hid (clB_bd (Hcl.out x Hme.out))
              have Hpr := Lib.hid (fun w9 => productClass_any d x w9 Hcd.out.1 Hcd.out.2 Hcx.out.2)
              have HpV := Lib.hid (fun h => Hno.out d x Hmd.out Hme.out h)
              have HpC := Lib.hid (fun h => Hnoc.out d x Hmd.out Hme.out h)
              generalize hz : pdV d x = z at *
              have Hz := Lib.hid hz; clear hz
              have Hhz := Lib.hid (Hha.out z)
              obtain ⟨b0, hb0⟩ : ∃ b, clB z = b := ⟨_, rfl⟩
              rw [hb0] at Hpr HpC
              clear hb0
              cases b0
              · have HV := Lib.hid (HpC.out rfl)
                go_wp2_with (go_at_call 76; refine (Hpr.out _).mono ?_; rintro e w6 ⟨rfl, hb6⟩)
                go_ret
                exact ⟨by rw [HV.out] <;> rfl, bthen Hb.out hb6⟩
              have Hpr1 := Lib.hid (fun w9 => show Calls Tryz.prog 76 #[.int .i64 d, .int .i64 x] w9 fun r w' => r = .returned (.tuple #[.int .i64 z, .bool true]) ∧ Below w9.heap.size w9 w' from by have h := Hpr.out w9; rwa [if_pos rfl] at h)
              clear Hpr HpC
              obtain ⟨b, hb⟩ : ∃ b, hasI l z = b := ⟨_, rfl⟩
              rw [hb] at Hhz HpV
              have Hhv := Lib.hid hb
              clear hb
              cases b
              · have HV := Lib.hid (HpV.out rfl)
                go_wp2_with (first | (go_at_call 76; refine (Hpr1.out _).mono ?_; rintro e w6 ⟨rfl, hb6⟩; have Hb6 := Lib.hid (bthen Hb.out hb6)) | (go_at_call 29; refine (Hhz.out _ ((Hr0.out.below Hb6.out).more Hb6.out.size)).mono ?_; rintro e w7 ⟨rfl, hb7⟩))
                go_ret
                exact ⟨by rw [HV.out] <;> rfl, bthen Hb6.out hb7⟩
              · go_wp2_with (first | (go_at_call 76; refine (Hpr1.out _).mono ?_; rintro e w6 ⟨rfl, hb6⟩; have Hb6 := Lib.hid (bthen Hb.out hb6)) | (go_at_call 29; refine (Hhz.out _ ((Hr0.out.below Hb6.out).more Hb6.out.size)).mono ?_; rintro e w7 ⟨rfl, hb7⟩))
                have Hb7 := Lib.hid (bthen Hb6.out hb7)
                have Hal2 := Lib.hid (show ∀ e ∈ l.take (j + 1), hasI l (pdV d e) = true from fun q hq => by
                  rw [Htk2.out] at hq
                  rcases List.mem_append.1 hq with h | h
                  · exact Hal.out q h
                  · rw [List.mem_singleton.1 h, Hz.out]; exact Hhv.out)
                go_roundw
                case rel => exact ⟨j + 1, by omega, by go_num, Hal2, Hb7⟩
                case measure => simp [intOf]; omega
            · obtain rfl : j = l.length := by omega
              have hd2 : decide ((l.length : Int) < (l.length : Int)) = false := decide_eq_false (by omega)
              have hd2n : decide (l.length < l.length) = false := decide_eq_false (by omega)
              have Hal2 := Lib.hid (show ∀ d ∈ l.take (k + 1), ∀ e ∈ l, hasI l (pdV d e) = true from fun q hq => by
                rw [Htk.out] at hq
                rcases List.mem_append.1 hq with h | h
                · exact Hal0.out q h
                · rw [List.mem_singleton.1 h]; have h9 := Hal.out; rwa [List.take_length] at h9)
              go_wp2
              go_roundw
              case rel => exact ⟨k + 1, by omega, by go_num, Hal2, Hb⟩
              case measure => simp [intOf]; omega
        · obtain rfl : k = l.length := by omega
          have hd : decide ((l.length : Int) < (l.length : Int)) = false := decide_eq_false (by omega)
          have hdn : decide (l.length < l.length) = false := decide_eq_false (by omega)
          have HV := Lib.hid (Hyes.out Hcl.out Hinc.out (by have h9 := Hal.out; rwa [List.take_length] at h9))
          go_wp2
          go_ret
          exact ⟨by rw [HV.out] <;> rfl, Hb.out⟩
theorem lg_bl {n : Nat} (h1 : 1 ≤ n) (h2 : n ≤ 64) : ((Lib.bitLen n : Nat) : Int) - 1 = ((lgV n : Nat) : Int) := by
  have h : ∀ k : Fin 65, 1 ≤ k.val → Lib.bitLen k.val = lgV k.val + 1 := by decide +kernel
  have := h ⟨n, by omega⟩ h1
  dsimp only at this
  omega
set_option linter.unusedSimpArgs false in
set_option linter.unusedVariables false in
set_option maxRecDepth 8000 in
set_option maxHeartbeats 8000000 in
theorem rankI_any (A : Option Addr) (c : Nat) (l : List Int) (w : World) (h : Rd inS w w.heap.size (.slice A l.length c) l) (hlen : l.length ≤ 1000000000) :
    Calls Tryz.prog 70 #[.slice A l.length c] w fun e w' => e = .returned (.tuple #[.int .i64 (rkV l).1, .bool (rkV l).2]) ∧ Below w.heap.size w w' := by
  have Hg := Lib.hid (isClassGroup_any A c l w h hlen)
  clear h
  obtain ⟨b, hb⟩ : ∃ b, grB l = b := ⟨_, rfl⟩
  rw [hb] at Hg
  cases b
  · rw [rk_no hb]
    clear hb
    go_enter Tryz.func70, Tryz.ntmps70
    go_wp2_with (go_at_call 98; refine Hg.out.mono ?_; rintro e w1 ⟨rfl, hb1⟩)
    exact bodyPost_ret (v := .tuple #[.int .i64 0, .bool false]) (by simp [results, Tryz.results70, go_sem]) rfl ⟨rfl, hb1⟩
  · rw [rk_yes hb]
    have hl := (gr_iff.1 hb).len
    have hv := lg_bl hl.1 hl.2
    have Hbl := Lib.hid (fun w9 => Tryz.bits_Len (l.length : Int) w9 (by omega) (by omega))
    rw [Int.toNat_natCast] at Hbl
    have hm := lg_64 hl.2
    clear hb
    generalize lgV l.length = R at *
    generalize Lib.bitLen l.length = L at *
    have hwu : (0 : Int) ≤ (l.length : Int) := by omega
    have hwv : (l.length : Int) ≤ 18446744073709551615 := by omega
    go_enter Tryz.func70, Tryz.ntmps70
    go_wp2_with (first | (go_at_call 98; refine Hg.out.mono ?_; rintro e w1 ⟨rfl, hb1⟩) | (go_at_call 99; refine (Hbl.out _).mono ?_; rintro e w2 ⟨rfl, rfl⟩))
    exact bodyPost_ret (v := .tuple #[.int .i64 (R : Int), .bool true]) (by simp [results, Tryz.results70, go_sem]) rfl ⟨rfl, hb1⟩
end
section
open Go Go.RowKit Go.Lib

/-- The reason against a class, and whether it is told. -/
def rsW (d A C : Int) : Int × Bool := if (flV d A C).2 = true then (if rlV d A C = true then (match (flV d A C).1 with | [] => (0, true) | q :: _ => (q, true)) else (-1, true)) else (0, false)
def rsV (a b : Int) (k : Bool) (d : Int) : Int × Bool := rsW d (sdA a b k) ((sdB a b k).tdiv d)
def smO (a b : Int) (k : Bool) (d : Int) : Bool := (rsV a b k d).2
def smZ (a b : Int) (k : Bool) (d : Int) : Bool := (rsV a b k d).1 == 0
/-- The Selmer classes, if all are told. -/
def smV (a b : Int) (k : Bool) : List Int × Bool := if (dvV (sdB a b k)).all (smO a b k) = true then ((dvV (sdB a b k)).filter (smZ a b k), true) else ([], false)
def fdZ (a b : Int) (k : Bool) (M : Nat) (d : Int) : Bool := decide (0 < ctV d (sdA a b k) ((sdB a b k).tdiv d) M)
/-- The classes with a point found. -/
def fdL (a b : Int) (k : Bool) (M : Nat) : List Int := (dvV (sdB a b k)).filter (fdZ a b k M)
theorem rs_no {d A C : Int} (h : (flV d A C).2 = false) : rsW d A C = (0, false) := by unfold rsW; rw [if_neg (by rw [h]; decide)]
theorem rs_real {d A C : Int} (h : (flV d A C).2 = true) (h1 : rlV d A C = false) : rsW d A C = (-1, true) := by unfold rsW; rw [if_pos h, if_neg (by rw [h1]; decide)]
theorem rs_nil {d A C : Int} (h : (flV d A C).2 = true) (h1 : rlV d A C = true) (h2 : (flV d A C).1 = []) : rsW d A C = (0, true) := by unfold rsW; rw [if_pos h, if_pos h1, h2]
theorem rs_cons {d A C q : Int} {l : List Int} (h : (flV d A C).2 = true) (h1 : rlV d A C = true) (h2 : (flV d A C).1 = q :: l) : rsW d A C = (q, true) := by unfold rsW; rw [if_pos h, if_pos h1, h2]
theorem sm_bad {a b : Int} {k : Bool} {d : Int} (hd : d ∈ dvV (sdB a b k)) (h : smO a b k d = false) : smV a b k = ([], false) := by
  unfold smV
  rw [if_neg]
  intro h1
  have := List.all_eq_true.1 h1 d hd
  rw [h] at this; exact absurd this (by decide)
theorem sm_yes {a b : Int} {k : Bool} (h : ∀ d ∈ dvV (sdB a b k), smO a b k d = true) : smV a b k = ((dvV (sdB a b k)).filter (smZ a b k), true) := by unfold smV; rw [if_pos (List.all_eq_true.2 h)]
theorem bq_of {a b : Int} {k : Bool} {d : Int} (h : twB a b = true) (hd : d ∈ dvV (sdB a b k)) : BQ d (sdA a b k) ((sdB a b k).tdiv d) := by
  obtain ⟨hA, hB, hB0⟩ := sd_bd h k
  obtain ⟨ha, hb, h0, h1⟩ := twB_bd h
  obtain ⟨d0, dl⟩ := dv_le hB0 hd
  obtain ⟨c, hc⟩ := dv_dvd hB0 hd
  have hct : (sdB a b k).tdiv d = c := by rw [hc, Int.mul_tdiv_cancel_left _ d0]
  have hcl := Int.natAbs_tdiv_le_natAbs (sdB a b k) d
  have hx : sdA a b k * sdA a b k - 4 * d * ((sdB a b k).tdiv d) = sdA a b k * sdA a b k - 4 * sdB a b k := by rw [hct, hc]; grind
  have hs : 0 ≤ sdA a b k * sdA a b k ∧ sdA a b k * sdA a b k ≤ 360000 := by
    have h3 := mul_bd (sdA a b k) (sdA a b k) 600 600 hA.1 hA.2 hA.1 hA.2
    refine ⟨?_, by omega⟩
    rcases Int.le_total 0 (sdA a b k) with h4 | h4
    · exact Int.mul_nonneg h4 h4
    · have := Int.mul_nonneg (show 0 ≤ -(sdA a b k) by omega) (show 0 ≤ -(sdA a b k) by omega)
      rwa [Int.neg_mul_neg] at this
  refine ⟨d0, ?_, by omega, by omega, by omega, by omega, by omega, by omega, by rw [hx]; omega, by rw [hx]; omega⟩
  rw [hct]
  rintro rfl
  rw [Int.mul_zero] at hc
  exact hB0 hc
theorem qb_of {d a c : Int} (h : BQ d a c) : QB d a c := by
  obtain ⟨d0, c0, d1, d2, a1, a2, c1, c2, x1, x2⟩ := h
  exact ⟨d1, d2, by omega, by omega, c1, c2⟩

set_option linter.unusedSimpArgs false in
set_option linter.unusedVariables false in
set_option maxRecDepth 8000 in
set_option maxHeartbeats 8000000 in
theorem dsDivisors_any (a b : Int) (k : Bool) (w : World) (h : twB a b = true) :
    Calls Tryz.prog 56 #[.agg #[.int .i64 a, .int .i64 b], .bool k] w fun e w' => RdR (dvV (sdB a b k)) e w' ∧ Below w.heap.size w w' := by
  obtain ⟨hA, hB, hB0⟩ := sd_bd h k
  obtain ⟨ha, hb, -, -⟩ := twB_bd h
  have Hs := Lib.hid (fun w9 => dsSide_any a b k w9 ha hb)
  have Hd := Lib.hid (fun w9 => tcDivisors_any (sdB a b k) w9 hB0 (by omega))
  clear hA hB hB0 h
  generalize sdB a b k = B at *
  generalize sdA a b k = A at *
  go_enter Tryz.func56, Tryz.ntmps56
  go_wp2_with (first | (go_at_call 58; refine (Hs.out _).mono ?_; rintro e w1 ⟨rfl, hb1⟩) | (go_at_call 81; refine (Hd.out _).mono ?_; rintro e w2 ⟨⟨A2, c2, rfl, hr2⟩, hb2⟩))
  go_ret
  refine ⟨⟨_, _, rfl, hr2⟩, bthen (bthen (bal (Below.refl _ _) _) hb1) hb2⟩
set_option linter.unusedSimpArgs false in
set_option linter.unusedVariables false in
set_option maxRecDepth 8000 in
set_option maxHeartbeats 8000000 in
theorem descDivisors_any (a b : Int) (k : Bool) (w : World) (h : twB a b = true) :
    Calls Tryz.prog 49 #[.agg #[.int .i64 a, .int .i64 b], .bool k] w fun e w' => RdR (dvV (sdB a b k)) e w' ∧ Below w.heap.size w w' := by
  obtain ⟨hA, hB, hB0⟩ := sd_bd h k
  obtain ⟨ha, hb, -, -⟩ := twB_bd h
  have Hs := Lib.hid (fun w9 => side_any a b k w9 ha hb)
  have Hd := Lib.hid (fun w9 => sqDivisors_any (sdB a b k) w9 hB0 (by omega))
  clear hA hB hB0 h
  generalize sdB a b k = B at *
  generalize sdA a b k = A at *
  go_enter Tryz.func49, Tryz.ntmps49
  go_wp2_with (first | (go_at_call 51; refine (Hs.out _).mono ?_; rintro e w1 ⟨rfl, hb1⟩) | (go_at_call 71; refine (Hd.out _).mono ?_; rintro e w2 ⟨⟨A2, c2, rfl, hr2⟩, hb2⟩))
  go_ret
  refine ⟨⟨_, _, rfl, hr2⟩, bthen (bthen (bal (Below.refl _ _) _) hb1) hb2⟩
set_option linter.unusedSimpArgs false in
set_option linter.unusedVariables false in
set_option maxRecDepth 8000 in
set_option maxHeartbeats 8000000 in
theorem dsReason_any (a b : Int) (k : Bool) (d : Int) (w : World) (h : twB a b = true) (hd : d ∈ dvV (sdB a b k)) :
    Calls Tryz.prog 57 #[.agg #[.int .i64 a, .int .i64 b], .bool k, .int .i64 d] w fun e w' => e = .returned (.tuple #[.int .i64 (rsV a b k d).1, .bool (rsV a b k d).2]) ∧ Below w.heap.size w w' := by
  have hq := bq_of h hd
  have B2 := hq.d1; have B3 := hq.d2; have B4 := hq.a1; have B5 := hq.a2; have B6 := hq.c1; have B7 := hq.c2
  have Hq := Lib.hid (fun w9 => dsQuartic_any a b d k w9 h hq.d0)
  have Hf := Lib.hid (fun w9 => loFailing_any _ _ _ w9 hq)
  have Hr := Lib.hid (fun w9 => loReal_any d (sdA a b k) ((sdB a b k).tdiv d) w9 (by omega) (by omega) (by omega))
  unfold rsV
  have H1 := Lib.hid (rs_no (d := d) (A := sdA a b k) (C := (sdB a b k).tdiv d))
  have H2 := Lib.hid (rs_real (d := d) (A := sdA a b k) (C := (sdB a b k).tdiv d))
  have H3 := Lib.hid (rs_nil (d := d) (A := sdA a b k) (C := (sdB a b k).tdiv d))
  have H4 := Lib.hid (fun q l => rs_cons (d := d) (A := sdA a b k) (C := (sdB a b k).tdiv d) (q := q) (l := l))
  clear hq h hd B2 B3 B4 B5 B6 B7
  generalize (sdB a b k).tdiv d = C at *
  generalize sdA a b k = A at *
  generalize rsW d A C = V at *
  generalize rlV d A C = R at *
  generalize flV d A C = L at *
  obtain ⟨L, ok⟩ := L
  dsimp only at *
  cases ok
  · obtain rfl := H1.out rfl
    go_enter Tryz.func57, Tryz.ntmps57
    go_wp2_with fail
    refine (Hq.out _).mono ?_; rintro e w1 ⟨rfl, hb1⟩
    have S1 := Lib.hid (show w.heap.size + 1 ≤ w1.heap.size by have h9 := hb1.size; (try simp only [World.size_alloc, World.size_setCell, World.size_drew] at h9); omega)
    have NTB := Lib.hid ((Blk.new w 24 #[.int .i64 a, .int .i64 b]).on hb1)
    have TB := NTB; clear NTB
    have Hb1 := Lib.hid (bthen (bal (Below.refl w.heap.size w) (Obj.cells #[.int .i64 a, .int .i64 b] 24)) hb1)
    clear hb1
    go_wp2_with fail
    refine (Hf.out _).mono ?_; rintro e w2 ⟨⟨A2, c2, rfl, hr2⟩, hb2⟩
    have S2 := Lib.hid (show w1.heap.size + 1 ≤ w2.heap.size by have h9 := hb2.size; (try simp only [World.size_alloc, World.size_setCell, World.size_drew] at h9); omega)
    have Z2 := Lib.hid (And.intro S1.out S2.out)
    have NTB := Lib.hid ((TB.out.alloc (Obj.cells #[.int .i64 d, .int .i64 A, .int .i64 C] 82)).on hb2)
    have NQQ := Lib.hid ((Blk.new w1 82 #[.int .i64 d, .int .i64 A, .int .i64 C]).on hb2)
    have TB := NTB; clear NTB
    have QQ := NQQ; clear NQQ
    have Hb2 := Lib.hid (bthen (bal Hb1.out (Obj.cells #[.int .i64 d, .int .i64 A, .int .i64 C] 82)) hb2)
    clear hb2
    have HR2 := Lib.hid hr2; clear hr2
    go_wp2
    exact bodyPost_ret (v := .tuple #[.int .i64 0, .bool false]) (by simp [results, Tryz.results57, go_sem]) rfl ⟨rfl, Hb2.out⟩
  · cases R
    · obtain rfl := H2.out rfl rfl
      go_enter Tryz.func57, Tryz.ntmps57
      go_wp2_with fail
      refine (Hq.out _).mono ?_; rintro e w3 ⟨rfl, hb3⟩
      have S3 := Lib.hid (show w.heap.size + 1 ≤ w3.heap.size by have h9 := hb3.size; (try simp only [World.size_alloc, World.size_setCell, World.size_drew] at h9); omega)
      have NTB := Lib.hid ((Blk.new w 24 #[.int .i64 a, .int .i64 b]).on hb3)
      have TB := NTB; clear NTB
      have Hb3 := Lib.hid (bthen (bal (Below.refl w.heap.size w) (Obj.cells #[.int .i64 a, .int .i64 b] 24)) hb3)
      clear hb3
      go_wp2_with fail
      refine (Hf.out _).mono ?_; rintro e w4 ⟨⟨A2, c2, rfl, hr2⟩, hb4⟩
      have S4 := Lib.hid (show w3.heap.size + 1 ≤ w4.heap.size by have h9 := hb4.size; (try simp only [World.size_alloc, World.size_setCell, World.size_drew] at h9); omega)
      have Z4 := Lib.hid (And.intro S3.out S4.out)
      have NTB := Lib.hid ((TB.out.alloc (Obj.cells #[.int .i64 d, .int .i64 A, .int .i64 C] 82)).on hb4)
      have NQQ := Lib.hid ((Blk.new w3 82 #[.int .i64 d, .int .i64 A, .int .i64 C]).on hb4)
      have TB := NTB; clear NTB
      have QQ := NQQ; clear NQQ
      have Hb4 := Lib.hid (bthen (bal Hb3.out (Obj.cells #[.int .i64 d, .int .i64 A, .int .i64 C] 82)) hb4)
      clear hb4
      have HR2 := Lib.hid hr2; clear hr2
      have qQQ0 : w4.cell? ⟨w3.heap.size, 0, none⟩ = some (.int .i64 d) := QQ.out.cell 0
      have qQQ1 : w4.cell? ⟨w3.heap.size, 1, none⟩ = some (.int .i64 A) := QQ.out.cell 1
      have qQQ2 : w4.cell? ⟨w3.heap.size, 2, none⟩ = some (.int .i64 C) := QQ.out.cell 2
      have qQQl := QQ.out.lt
      go_wp2_with fail
      clear qQQ0 qQQ1 qQQ2 qQQl
      refine (Hr.out _).mono ?_; rintro e w5 ⟨rfl, hb5⟩
      have S5 := Lib.hid (show w4.heap.size + 0 ≤ w5.heap.size by have h9 := hb5.size; (try simp only [World.size_alloc, World.size_setCell, World.size_drew] at h9); omega)
      have Z5 := Lib.hid (And.intro Z4.out S5.out)
      have NTB := Lib.hid (TB.out.on hb5)
      have NQQ := Lib.hid (QQ.out.on hb5)
      have TB := NTB; clear NTB
      have QQ := NQQ; clear NQQ
      replace HR2 := Lib.hid (HR2.out.on (bthen ((Below.refl _ _)) hb5))
      have Hb5 := Lib.hid (bthen Hb4.out hb5)
      clear hb5
      go_wp2
      exact bodyPost_ret (v := .tuple #[.int .i64 (-1), .bool true]) (by simp [results, Tryz.results57, go_sem]) rfl ⟨rfl, Hb5.out⟩
    · cases L with
      | nil =>
        obtain rfl := H3.out rfl rfl rfl
        go_enter Tryz.func57, Tryz.ntmps57
        go_wp2_with fail
        refine (Hq.out _).mono ?_; rintro e w6 ⟨rfl, hb6⟩
        have S6 := Lib.hid (show w.heap.size + 1 ≤ w6.heap.size by have h9 := hb6.size; (try simp only [World.size_alloc, World.size_setCell, World.size_drew] at h9); omega)
        have NTB := Lib.hid ((Blk.new w 24 #[.int .i64 a, .int .i64 b]).on hb6)
        have TB := NTB; clear NTB
        have Hb6 := Lib.hid (bthen (bal (Below.refl w.heap.size w) (Obj.cells #[.int .i64 a, .int .i64 b] 24)) hb6)
        clear hb6
        go_wp2_with fail
        refine (Hf.out _).mono ?_; rintro e w7 ⟨⟨A2, c2, rfl, hr2⟩, hb7⟩
        have S7 := Lib.hid (show w6.heap.size + 1 ≤ w7.heap.size by have h9 := hb7.size; (try simp only [World.size_alloc, World.size_setCell, World.size_drew] at h9); omega)
        have Z7 := Lib.hid (And.intro S6.out S7.out)
        have NTB := Lib.hid ((TB.out.alloc (Obj.cells #[.int .i64 d, .int .i64 A, .int .i64 C] 82)).on hb7)
        have NQQ := Lib.hid ((Blk.new w6 82 #[.int .i64 d, .int .i64 A, .int .i64 C]).on hb7)
        have TB := NTB; clear NTB
        have QQ := NQQ; clear NQQ
        have Hb7 := Lib.hid (bthen (bal Hb6.out (Obj.cells #[.int .i64 d, .int .i64 A, .int .i64 C] 82)) hb7)
        clear hb7
        have HR2 := Lib.hid hr2; clear hr2
        have qQQ0 : w7.cell? ⟨w6.heap.size, 0, none⟩ = some (.int .i64 d) := QQ.out.cell 0
        have qQQ1 : w7.cell? ⟨w6.heap.size, 1, none⟩ = some (.int .i64 A) := QQ.out.cell 1
        have qQQ2 : w7.cell? ⟨w6.heap.size, 2, none⟩ = some (.int .i64 C) := QQ.out.cell 2
        have qQQl := QQ.out.lt
        go_wp2_with fail
        clear qQQ0 qQQ1 qQQ2 qQQl
        refine (Hr.out _).mono ?_; rintro e w8 ⟨rfl, hb8⟩
        have S8 := Lib.hid (show w7.heap.size + 0 ≤ w8.heap.size by have h9 := hb8.size; (try simp only [World.size_alloc, World.size_setCell, World.size_drew] at h9); omega)
        have Z8 := Lib.hid (And.intro Z7.out S8.out)
        have NTB := Lib.hid (TB.out.on hb8)
        have NQQ := Lib.hid (QQ.out.on hb8)
        have TB := NTB; clear NTB
        have QQ := NQQ; clear NQQ
        replace HR2 := Lib.hid (HR2.out.on (bthen ((Below.refl _ _)) hb8))
        have Hb8 := Lib.hid (bthen Hb7.out hb8)
        clear hb8
        go_wp2
        exact bodyPost_ret (v := .tuple #[.int .i64 0, .bool true]) (by simp [results, Tryz.results57, go_sem]) rfl ⟨rfl, Hb8.out⟩
      | cons q l =>
        obtain rfl := H4.out q l rfl rfl rfl
        have Hln := Lib.hid (show 0 < (q :: l).length by simp)
        have Hqd := Lib.hid (show (q :: l).getD 0 0 = q by simp)
        generalize q :: l = m at *
        have hl0 : 0 < m.length := Hln.out
        have hl1 : decide ((0 : Int) < (m.length : Int)) = true := decide_eq_true (by omega)
        have hl2 : decide (0 < m.length) = true := decide_eq_true hl0
        have hl3 : (0 : Int) < (m.length : Int) := by omega
        go_enter Tryz.func57, Tryz.ntmps57
        go_wp2_with fail
        refine (Hq.out _).mono ?_; rintro e w9 ⟨rfl, hb9⟩
        have S9 := Lib.hid (show w.heap.size + 1 ≤ w9.heap.size by have h9 := hb9.size; (try simp only [World.size_alloc, World.size_setCell, World.size_drew] at h9); omega)
        have NTB := Lib.hid ((Blk.new w 24 #[.int .i64 a, .int .i64 b]).on hb9)
        have TB := NTB; clear NTB
        have Hb9 := Lib.hid (bthen (bal (Below.refl w.heap.size w) (Obj.cells #[.int .i64 a, .int .i64 b] 24)) hb9)
        clear hb9
        go_wp2_with fail
        refine (Hf.out _).mono ?_; rintro e w10 ⟨⟨A2, c2, rfl, hr2⟩, hb10⟩
        have S10 := Lib.hid (show w9.heap.size + 1 ≤ w10.heap.size by have h9 := hb10.size; (try simp only [World.size_alloc, World.size_setCell, World.size_drew] at h9); omega)
        have Z10 := Lib.hid (And.intro S9.out S10.out)
        have NTB := Lib.hid ((TB.out.alloc (Obj.cells #[.int .i64 d, .int .i64 A, .int .i64 C] 82)).on hb10)
        have NQQ := Lib.hid ((Blk.new w9 82 #[.int .i64 d, .int .i64 A, .int .i64 C]).on hb10)
        have TB := NTB; clear NTB
        have QQ := NQQ; clear NQQ
        have Hb10 := Lib.hid (bthen (bal Hb9.out (Obj.cells #[.int .i64 d, .int .i64 A, .int .i64 C] 82)) hb10)
        clear hb10
        have HR2 := Lib.hid hr2; clear hr2
        have qQQ0 : w10.cell? ⟨w9.heap.size, 0, none⟩ = some (.int .i64 d) := QQ.out.cell 0
        have qQQ1 : w10.cell? ⟨w9.heap.size, 1, none⟩ = some (.int .i64 A) := QQ.out.cell 1
        have qQQ2 : w10.cell? ⟨w9.heap.size, 2, none⟩ = some (.int .i64 C) := QQ.out.cell 2
        have qQQl := QQ.out.lt
        go_wp2_with fail
        clear qQQ0 qQQ1 qQQ2 qQQl
        refine (Hr.out _).mono ?_; rintro e w11 ⟨rfl, hb11⟩
        have S11 := Lib.hid (show w10.heap.size + 0 ≤ w11.heap.size by have h9 := hb11.size; (try simp only [World.size_alloc, World.size_setCell, World.size_drew] at h9); omega)
        have Z11 := Lib.hid (And.intro Z10.out S11.out)
        have NTB := Lib.hid (TB.out.on hb11)
        have NQQ := Lib.hid (QQ.out.on hb11)
        have TB := NTB; clear NTB
        have QQ := NQQ; clear NQQ
        replace HR2 := Lib.hid (HR2.out.on (bthen ((Below.refl _ _)) hb11))
        have Hb11 := Lib.hid (bthen Hb10.out hb11)
        clear hb11
        obtain ⟨-, -, -, -, hC⟩ := rd_cells HR2.out
        obtain ⟨g2, off2, hA2, hg2⟩ := rd_addr HR2.out Hln.out
        have hc1 := hC g2 off2 hA2 0 Hln.out
        clear hC
        rw [Hqd.out] at hc1
        subst hA2
        rw [Nat.add_zero] at hc1
        go_wp2
        exact bodyPost_ret (v := .tuple #[.int .i64 q, .bool true]) (by simp [results, Tryz.results57, go_sem]) rfl ⟨rfl, Hb11.out⟩
set_option linter.unusedSimpArgs false in
set_option linter.unusedVariables false in
set_option maxRecDepth 8000 in
set_option maxHeartbeats 8000000 in
theorem reasonAgainst_any (a b : Int) (k : Bool) (d : Int) (w : World) (h : twB a b = true) (hd : d ∈ dvV (sdB a b k)) :
    Calls Tryz.prog 50 #[.agg #[.int .i64 a, .int .i64 b], .bool k, .int .i64 d] w fun e w' => e = .returned (.tuple #[.int .i64 (rsV a b k d).1, .bool (rsV a b k d).2]) ∧ Below w.heap.size w w' := by
  have hq := bq_of h hd
  have B2 := hq.d1; have B3 := hq.d2; have B4 := hq.a1; have B5 := hq.a2; have B6 := hq.c1; have B7 := hq.c2
  have Hq := Lib.hid (fun w9 => descQuartic_any a b d k w9 h hq.d0)
  have Hf := Lib.hid (fun w9 => failing_any _ _ _ w9 hq)
  have Hr := Lib.hid (fun w9 => isReal_any d (sdA a b k) ((sdB a b k).tdiv d) w9 (by omega) (by omega) (by omega))
  unfold rsV
  have H1 := Lib.hid (rs_no (d := d) (A := sdA a b k) (C := (sdB a b k).tdiv d))
  have H2 := Lib.hid (rs_real (d := d) (A := sdA a b k) (C := (sdB a b k).tdiv d))
  have H3 := Lib.hid (rs_nil (d := d) (A := sdA a b k) (C := (sdB a b k).tdiv d))
  have H4 := Lib.hid (fun q l => rs_cons (d := d) (A := sdA a b k) (C := (sdB a b k).tdiv d) (q := q) (l := l))
  clear hq h hd B2 B3 B4 B5 B6 B7
  generalize (sdB a b k).tdiv d = C at *
  generalize sdA a b k = A at *
  generalize rsW d A C = V at *
  generalize rlV d A C = R at *
  generalize flV d A C = L at *
  obtain ⟨L, ok⟩ := L
  dsimp only at *
  cases ok
  · obtain rfl := H1.out rfl
    go_enter Tryz.func50, Tryz.ntmps50
    go_wp2_with fail
    refine (Hq.out _).mono ?_; rintro e w1 ⟨rfl, hb1⟩
    have S1 := Lib.hid (show w.heap.size + 1 ≤ w1.heap.size by have h9 := hb1.size; (try simp only [World.size_alloc, World.size_setCell, World.size_drew] at h9); omega)
    have NTB := Lib.hid ((Blk.new w 24 #[.int .i64 a, .int .i64 b]).on hb1)
    have TB := NTB; clear NTB
    have Hb1 := Lib.hid (bthen (bal (Below.refl w.heap.size w) (Obj.cells #[.int .i64 a, .int .i64 b] 24)) hb1)
    clear hb1
    go_wp2_with fail
    refine (Hf.out _).mono ?_; rintro e w2 ⟨⟨A2, c2, rfl, hr2⟩, hb2⟩
    have S2 := Lib.hid (show w1.heap.size + 1 ≤ w2.heap.size by have h9 := hb2.size; (try simp only [World.size_alloc, World.size_setCell, World.size_drew] at h9); omega)
    have Z2 := Lib.hid (And.intro S1.out S2.out)
    have NTB := Lib.hid ((TB.out.alloc (Obj.cells #[.int .i64 d, .int .i64 A, .int .i64 C] 82)).on hb2)
    have NQQ := Lib.hid ((Blk.new w1 82 #[.int .i64 d, .int .i64 A, .int .i64 C]).on hb2)
    have TB := NTB; clear NTB
    have QQ := NQQ; clear NQQ
    have Hb2 := Lib.hid (bthen (bal Hb1.out (Obj.cells #[.int .i64 d, .int .i64 A, .int .i64 C] 82)) hb2)
    clear hb2
    have HR2 := Lib.hid hr2; clear hr2
    go_wp2
    exact bodyPost_ret (v := .tuple #[.int .i64 0, .bool false]) (by simp [results, Tryz.results50, go_sem]) rfl ⟨rfl, Hb2.out⟩
  · cases R
    · obtain rfl := H2.out rfl rfl
      go_enter Tryz.func50, Tryz.ntmps50
      go_wp2_with fail
      refine (Hq.out _).mono ?_; rintro e w3 ⟨rfl, hb3⟩
      have S3 := Lib.hid (show w.heap.size + 1 ≤ w3.heap.size by have h9 := hb3.size; (try simp only [World.size_alloc, World.size_setCell, World.size_drew] at h9); omega)
      have NTB := Lib.hid ((Blk.new w 24 #[.int .i64 a, .int .i64 b]).on hb3)
      have TB := NTB; clear NTB
      have Hb3 := Lib.hid (bthen (bal (Below.refl w.heap.size w) (Obj.cells #[.int .i64 a, .int .i64 b] 24)) hb3)
      clear hb3
      go_wp2_with fail
      refine (Hf.out _).mono ?_; rintro e w4 ⟨⟨A2, c2, rfl, hr2⟩, hb4⟩
      have S4 := Lib.hid (show w3.heap.size + 1 ≤ w4.heap.size by have h9 := hb4.size; (try simp only [World.size_alloc, World.size_setCell, World.size_drew] at h9); omega)
      have Z4 := Lib.hid (And.intro S3.out S4.out)
      have NTB := Lib.hid ((TB.out.alloc (Obj.cells #[.int .i64 d, .int .i64 A, .int .i64 C] 82)).on hb4)
      have NQQ := Lib.hid ((Blk.new w3 82 #[.int .i64 d, .int .i64 A, .int .i64 C]).on hb4)
      have TB := NTB; clear NTB
      have QQ := NQQ; clear NQQ
      have Hb4 := Lib.hid (bthen (bal Hb3.out (Obj.cells #[.int .i64 d, .int .i64 A, .int .i64 C] 82)) hb4)
      clear hb4
      have HR2 := Lib.hid hr2; clear hr2
      have qQQ0 : w4.cell? ⟨w3.heap.size, 0, none⟩ = some (.int .i64 d) := QQ.out.cell 0
      have qQQ1 : w4.cell? ⟨w3.heap.size, 1, none⟩ = some (.int .i64 A) := QQ.out.cell 1
      have qQQ2 : w4.cell? ⟨w3.heap.size, 2, none⟩ = some (.int .i64 C) := QQ.out.cell 2
      have qQQl := QQ.out.lt
      go_wp2_with fail
      clear qQQ0 qQQ1 qQQ2 qQQl
      refine (Hr.out _).mono ?_; rintro e w5 ⟨rfl, hb5⟩
      have S5 := Lib.hid (show w4.heap.size + 0 ≤ w5.heap.size by have h9 := hb5.size; (try simp only [World.size_alloc, World.size_setCell, World.size_drew] at h9); omega)
      have Z5 := Lib.hid (And.intro Z4.out S5.out)
      have NTB := Lib.hid (TB.out.on hb5)
      have NQQ := Lib.hid (QQ.out.on hb5)
      have TB := NTB; clear NTB
      have QQ := NQQ; clear NQQ
      replace HR2 := Lib.hid (HR2.out.on (bthen ((Below.refl _ _)) hb5))
      have Hb5 := Lib.hid (bthen Hb4.out hb5)
      clear hb5
      go_wp2
      exact bodyPost_ret (v := .tuple #[.int .i64 (-1), .bool true]) (by simp [results, Tryz.results50, go_sem]) rfl ⟨rfl, Hb5.out⟩
    · cases L with
      | nil =>
        obtain rfl := H3.out rfl rfl rfl
        go_enter Tryz.func50, Tryz.ntmps50
        go_wp2_with fail
        refine (Hq.out _).mono ?_; rintro e w6 ⟨rfl, hb6⟩
        have S6 := Lib.hid (show w.heap.size + 1 ≤ w6.heap.size by have h9 := hb6.size; (try simp only [World.size_alloc, World.size_setCell, World.size_drew] at h9); omega)
        have NTB := Lib.hid ((Blk.new w 24 #[.int .i64 a, .int .i64 b]).on hb6)
        have TB := NTB; clear NTB
        have Hb6 := Lib.hid (bthen (bal (Below.refl w.heap.size w) (Obj.cells #[.int .i64 a, .int .i64 b] 24)) hb6)
        clear hb6
        go_wp2_with fail
        refine (Hf.out _).mono ?_; rintro e w7 ⟨⟨A2, c2, rfl, hr2⟩, hb7⟩
        have S7 := Lib.hid (show w6.heap.size + 1 ≤ w7.heap.size by have h9 := hb7.size; (try simp only [World.size_alloc, World.size_setCell, World.size_drew] at h9); omega)
        have Z7 := Lib.hid (And.intro S6.out S7.out)
        have NTB := Lib.hid ((TB.out.alloc (Obj.cells #[.int .i64 d, .int .i64 A, .int .i64 C] 82)).on hb7)
        have NQQ := Lib.hid ((Blk.new w6 82 #[.int .i64 d, .int .i64 A, .int .i64 C]).on hb7)
        have TB := NTB; clear NTB
        have QQ := NQQ; clear NQQ
        have Hb7 := Lib.hid (bthen (bal Hb6.out (Obj.cells #[.int .i64 d, .int .i64 A, .int .i64 C] 82)) hb7)
        clear hb7
        have HR2 := Lib.hid hr2; clear hr2
        have qQQ0 : w7.cell? ⟨w6.heap.size, 0, none⟩ = some (.int .i64 d) := QQ.out.cell 0
        have qQQ1 : w7.cell? ⟨w6.heap.size, 1, none⟩ = some (.int .i64 A) := QQ.out.cell 1
        have qQQ2 : w7.cell? ⟨w6.heap.size, 2, none⟩ = some (.int .i64 C) := QQ.out.cell 2
        have qQQl := QQ.out.lt
        go_wp2_with fail
        clear qQQ0 qQQ1 qQQ2 qQQl
        refine (Hr.out _).mono ?_; rintro e w8 ⟨rfl, hb8⟩
        have S8 := Lib.hid (show w7.heap.size + 0 ≤ w8.heap.size by have h9 := hb8.size; (try simp only [World.size_alloc, World.size_setCell, World.size_drew] at h9); omega)
        have Z8 := Lib.hid (And.intro Z7.out S8.out)
        have NTB := Lib.hid (TB.out.on hb8)
        have NQQ := Lib.hid (QQ.out.on hb8)
        have TB := NTB; clear NTB
        have QQ := NQQ; clear NQQ
        replace HR2 := Lib.hid (HR2.out.on (bthen ((Below.refl _ _)) hb8))
        have Hb8 := Lib.hid (bthen Hb7.out hb8)
        clear hb8
        go_wp2
        exact bodyPost_ret (v := .tuple #[.int .i64 0, .bool true]) (by simp [results, Tryz.results50, go_sem]) rfl ⟨rfl, Hb8.out⟩
      | cons q l =>
        obtain rfl := H4.out q l rfl rfl rfl
        have Hln := Lib.hid (show 0 < (q :: l).length by simp)
        have Hqd := Lib.hid (show (q :: l).getD 0 0 = q by simp)
        generalize q :: l = m at *
        have hl0 : 0 < m.length := Hln.out
        have hl1 : decide ((0 : Int) < (m.length : Int)) = true := decide_eq_true (by omega)
        have hl2 : decide (0 < m.length) = true := decide_eq_true hl0
        have hl3 : (0 : Int) < (m.length : Int) := by omega
        go_enter Tryz.func50, Tryz.ntmps50
        go_wp2_with fail
        refine (Hq.out _).mono ?_; rintro e w9 ⟨rfl, hb9⟩
        have S9 := Lib.hid (show w.heap.size + 1 ≤ w9.heap.size by have h9 := hb9.size; (try simp only [World.size_alloc, World.size_setCell, World.size_drew] at h9); omega)
        have NTB := Lib.hid ((Blk.new w 24 #[.int .i64 a, .int .i64 b]).on hb9)
        have TB := NTB; clear NTB
        have Hb9 := Lib.hid (bthen (bal (Below.refl w.heap.size w) (Obj.cells #[.int .i64 a, .int .i64 b] 24)) hb9)
        clear hb9
        go_wp2_with fail
        refine (Hf.out _).mono ?_; rintro e w10 ⟨⟨A2, c2, rfl, hr2⟩, hb10⟩
        have S10 := Lib.hid (show w9.heap.size + 1 ≤ w10.heap.size by have h9 := hb10.size; (try simp only [World.size_alloc, World.size_setCell, World.size_drew] at h9); omega)
        have Z10 := Lib.hid (And.intro S9.out S10.out)
        have NTB := Lib.hid ((TB.out.alloc (Obj.cells #[.int .i64 d, .int .i64 A, .int .i64 C] 82)).on hb10)
        have NQQ := Lib.hid ((Blk.new w9 82 #[.int .i64 d, .int .i64 A, .int .i64 C]).on hb10)
        have TB := NTB; clear NTB
        have QQ := NQQ; clear NQQ
        have Hb10 := Lib.hid (bthen (bal Hb9.out (Obj.cells #[.int .i64 d, .int .i64 A, .int .i64 C] 82)) hb10)
        clear hb10
        have HR2 := Lib.hid hr2; clear hr2
        have qQQ0 : w10.cell? ⟨w9.heap.size, 0, none⟩ = some (.int .i64 d) := QQ.out.cell 0
        have qQQ1 : w10.cell? ⟨w9.heap.size, 1, none⟩ = some (.int .i64 A) := QQ.out.cell 1
        have qQQ2 : w10.cell? ⟨w9.heap.size, 2, none⟩ = some (.int .i64 C) := QQ.out.cell 2
        have qQQl := QQ.out.lt
        go_wp2_with fail
        clear qQQ0 qQQ1 qQQ2 qQQl
        refine (Hr.out _).mono ?_; rintro e w11 ⟨rfl, hb11⟩
        have S11 := Lib.hid (show w10.heap.size + 0 ≤ w11.heap.size by have h9 := hb11.size; (try simp only [World.size_alloc, World.size_setCell, World.size_drew] at h9); omega)
        have Z11 := Lib.hid (And.intro Z10.out S11.out)
        have NTB := Lib.hid (TB.out.on hb11)
        have NQQ := Lib.hid (QQ.out.on hb11)
        have TB := NTB; clear NTB
        have QQ := NQQ; clear NQQ
        replace HR2 := Lib.hid (HR2.out.on (bthen ((Below.refl _ _)) hb11))
        have Hb11 := Lib.hid (bthen Hb10.out hb11)
        clear hb11
        obtain ⟨-, -, -, -, hC⟩ := rd_cells HR2.out
        obtain ⟨g2, off2, hA2, hg2⟩ := rd_addr HR2.out Hln.out
        have hc1 := hC g2 off2 hA2 0 Hln.out
        clear hC
        rw [Hqd.out] at hc1
        subst hA2
        rw [Nat.add_zero] at hc1
        go_wp2
        exact bodyPost_ret (v := .tuple #[.int .i64 q, .bool true]) (by simp [results, Tryz.results50, go_sem]) rfl ⟨rfl, Hb11.out⟩
end
end Go.Proofs.YthdfpfhkmfmnbaaGreat
