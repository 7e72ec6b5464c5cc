/- The text of reports, in both. Conditions: the table of powers of ten. -/
import Derived.Test.YtjnghjgfhlgbiaaDoorGoodReport
import Derived.Test.YtjnghjgfhlgbiaaDoorSeal
namespace Go.Proofs.YtjnghjgfhlgbiaaDoor
open Go Go.RowKit

def repT (e : Rp) : ByteArray := nText [e.tm, e.mc, e.a, e.b, e.lo, e.hi, e.to] ++ ⟨#[10]⟩
def repsT (es : List Rp) : Nat → ByteArray
  | 0 => ⟨#[]⟩
  | k + 1 => repsT es k ++ repT (rpS.get es k)
def repsV (es : List Rp) : ByteArray × Bool := if repsB es then (repsT es es.length, true) else (⟨#[]⟩, false)
theorem ret_sb4 {s : ByteArray} {k : Bool} {p : ByteArray × Bool} (h : p = (s, k)) : Ending.returned (.tuple #[.string s, .bool k]) = .returned (.tuple #[.string p.1, .bool p.2]) := by rw [h]
structure RpBd (e : Rp) : Prop where
  tm : 0 ≤ e.tm ∧ e.tm ≤ 1000000
  mc : 1 ≤ e.mc ∧ e.mc ≤ 9
  a : -1000 ≤ e.a ∧ e.a ≤ 1000
  b : -10000 ≤ e.b ∧ e.b ≤ 10000
  lo : 0 ≤ e.lo ∧ e.lo ≤ 20
  hi : 0 ≤ e.hi ∧ e.hi ≤ 20
  tt : 0 ≤ e.to ∧ e.to ≤ 16
theorem rpBd {es : List Rp} {k : Nat} (h : okRAt es k = true) : RpBd (rpS.get es k) := by
  unfold okRAt repB entB at h
  simp only [Bool.and_eq_true, decide_eq_true_eq] at h
  have h2 := curveB_bd h.1.2.1
  exact ⟨by omega, by omega, h2.1, h2.2, by omega, by omega, by omega⟩
theorem itS_sizeP {n : Int} (N : Nat) (h0 : -N ≤ n) (h : n ≤ N) : (itS n).size ≤ N + 2 := by have := itS_size n; omega
theorem nText2_sizeR {a b : Int} (ha : -1000 ≤ a ∧ a ≤ 1000) (hb : -10000 ≤ b ∧ b ≤ 10000) : (nText [a, b]).size ≤ 40000 := by
  have := nText_size [a, b] 10000 (by intro e he; simp at he; omega)
  simp at this; omega
theorem nText7_size {e : Rp} (h : RpBd e) : (nText [e.tm, e.mc, e.a, e.b, e.lo, e.hi, e.to]).size ≤ 7500000 := by
  have h1 := h.tm; have h2 := h.mc; have h3 := h.a; have h4 := h.b; have h5 := h.lo; have h6 := h.hi; have h7 := h.tt
  have := nText_size [e.tm, e.mc, e.a, e.b, e.lo, e.hi, e.to] 1000000 (by intro x hx; simp at hx; omega)
  simp at this; omega
theorem repsT_size (es : List Rp) (hv : ∀ j, j < es.length → okRAt es j = true) : ∀ k, k ≤ es.length → (repsT es k).size ≤ k * 7500001
  | 0, _ => Nat.zero_le _
  | k + 1, hk => by
    unfold repsT repT
    rw [ByteArray.size_append, ByteArray.size_append, show (⟨#[10]⟩ : ByteArray).size = 1 from rfl]
    have h1 := repsT_size es hv k (by omega)
    have h2 := nText7_size (rpBd (hv k (by omega)))
    omega
theorem repsB_all9 {es : List Rp} (h : repsB es = true) : es.length ≤ 20 ∧ ∀ j, j < es.length → okRAt es j = true := by
  unfold repsB at h
  simp only [Bool.and_eq_true, decide_eq_true_eq, List.all_eq_true, List.mem_range] at h
  exact h
theorem nText7 (t m a b lo hi tt : Int) : nText [t, m, a, b, lo, hi, tt] = itS t ++ ⟨#[32]⟩ ++ itS m ++ ⟨#[32]⟩ ++ nText [a, b] ++ ⟨#[32]⟩ ++ itS lo ++ ⟨#[32]⟩ ++ itS hi ++ ⟨#[32]⟩ ++ itS tt := by
  unfold nText
  apply ByteArray.ext
  simp [Lib.join, List.intercalate]
theorem rep_eq (P0 t m P2 lo hi tt S N : ByteArray) : P0 ++ (t ++ S ++ m ++ S ++ P2 ++ S ++ lo ++ S ++ hi ++ S ++ tt ++ N) = P0 ++ (t ++ S ++ m ++ S ++ P2) ++ (S ++ lo) ++ (S ++ hi) ++ (S ++ tt) ++ N := by
  apply ByteArray.ext
  simp
set_option maxRecDepth 20000 in
set_option maxHeartbeats 8000000 in
theorem implRepText_any (v : Value) (es : List Rp) (w : World) (h : Rd rpS w w.heap.size v es) (htab : Tab w) :
    Calls Tryd.prog 18 #[v] w fun e w' => e = .returned (.tuple #[.string (repsV es).1, .bool (repsV es).2]) ∧ Below w.heap.size w w' := by
  have Hr0 := Lib.hid h
  obtain ⟨A, c, rfl, hcc, hm, hA⟩ := h
  unfold maxLen at hm
  have Ht := Lib.hid htab; clear htab
  go_enter Tryd.func18, Tryd.ntmps18
  go_wp2_with fail
  refine (areReports_any _ _ _ Hr0.out).mono ?_; rintro e w1 ⟨rfl, hb1⟩
  have Hb1 := Lib.hid hb1
  cases hkB : repsB es
  · have HV := Lib.hid (show repsV es = (⟨#[]⟩, false) by unfold repsV; rw [hkB]; rfl)
    clear hkB hA
    go_wp2
    go_ret2
    exact ⟨ret_sb4 HV.out, Hb1.out⟩
  have HV := Lib.hid (show repsV es = (repsT es es.length, true) by unfold repsV; rw [hkB]; rfl)
  have Hal := Lib.hid (repsB_all9 hkB)
  clear hkB
  have hl20 := Hal.out.1
  rcases Nat.eq_zero_or_pos es.length with h0 | h0
  · obtain rfl : es = [] := List.eq_nil_of_length_eq_zero h0
    clear hA
    go_wp2
    refine wp_loop_rounds 1 ?_
    rw [rounds_succ]
    go_wp2
    go_ret2
    exact ⟨ret_sb4 HV.out, Hb1.out⟩
  · obtain ⟨g, off, rfl, hg, hcell⟩ := hA h0
    clear hA
    have hcell := rp_cells hcell
    clear hb1
    go_wp2
    go_loopw [13, 4] (fun i o wr => ∃ k : Nat, k ≤ es.length ∧ i = .int .i64 k ∧ o = .string (repsT es k) ∧ Below w.heap.size w wr) (fun i _ _ => es.length - (intOf i).toNat)
    case atStart => exact ⟨0, Nat.zero_le _, rfl, rfl, Hb1.out⟩
    case round =>
      obtain ⟨k, hk, rfl, rfl, hb⟩ := hrel
      have s0 := repsT_size es Hal.out.2 k hk
      replace s0 : (repsT es k).size ≤ 160000000 := by omega
      by_cases hlt : k < es.length
      · obtain ⟨f0, f1, f2, f3, f4, f5, f6⟩ := hcell k hlt
        rw [← hb.cell (p := ⟨_, _, _⟩) hg] at f0 f1 f2 f3 f4 f5 f6
        have hbd := rpBd (Hal.out.2 k hlt)
        have hnx : repsT es (k + 1) = repsT es k ++ repT (rpS.get es k) := rfl
        unfold repT at hnx
        obtain ⟨ea, hea⟩ : ∃ e, rpS.get es k = e := ⟨_, rfl⟩
        rw [hea] at f0 f1 f2 f3 f4 f5 f6 hbd hnx
        clear hea
        have hgr : g < wr.heap.size := Nat.lt_of_lt_of_le hg hb.size
        have hgr' : g < wr.heap.size + 1 := Nat.lt_succ_of_lt hgr
        have Hb := Lib.hid hb; clear hb
        have s1 := nText7_size hbd
        have Hnt := Lib.hid (numbersText_any (.slice (some ⟨wr.heap.size + 1 + 1, 0, none⟩) 7 7) [ea.tm, ea.mc, ea.a, ea.b, ea.lo, ea.hi, ea.to] (World.alloc (World.alloc (wr.alloc (Obj.cells #[.int .i64 ea.tm, .int .i64 ea.mc, .int .i64 ea.a, .int .i64 ea.b, .int .i64 ea.lo, .int .i64 ea.hi, .int .i64 ea.to] 30)) (Obj.cells #[.int .i64 ea.a, .int .i64 ea.b, .int .i64 ea.lo, .int .i64 ea.hi, .int .i64 ea.to] 28)) (Obj.cells #[.int .i64 ea.tm, .int .i64 ea.mc, .int .i64 ea.a, .int .i64 ea.b, .int .i64 ea.lo, .int .i64 ea.hi, .int .i64 ea.to] 3)) (show Rd inS (World.alloc (World.alloc (wr.alloc (Obj.cells #[.int .i64 ea.tm, .int .i64 ea.mc, .int .i64 ea.a, .int .i64 ea.b, .int .i64 ea.lo, .int .i64 ea.hi, .int .i64 ea.to] 30)) (Obj.cells #[.int .i64 ea.a, .int .i64 ea.b, .int .i64 ea.lo, .int .i64 ea.hi, .int .i64 ea.to] 28)) (Obj.cells #[.int .i64 ea.tm, .int .i64 ea.mc, .int .i64 ea.a, .int .i64 ea.b, .int .i64 ea.lo, .int .i64 ea.hi, .int .i64 ea.to] 3)) (World.alloc (World.alloc (wr.alloc (Obj.cells #[.int .i64 ea.tm, .int .i64 ea.mc, .int .i64 ea.a, .int .i64 ea.b, .int .i64 ea.lo, .int .i64 ea.hi, .int .i64 ea.to] 30)) (Obj.cells #[.int .i64 ea.a, .int .i64 ea.b, .int .i64 ea.lo, .int .i64 ea.hi, .int .i64 ea.to] 28)) (Obj.cells #[.int .i64 ea.tm, .int .i64 ea.mc, .int .i64 ea.a, .int .i64 ea.b, .int .i64 ea.lo, .int .i64 ea.hi, .int .i64 ea.to] 3)).heap.size (.slice (some ⟨wr.heap.size + 1 + 1, 0, none⟩) 7 7) [ea.tm, ea.mc, ea.a, ea.b, ea.lo, ea.hi, ea.to] by rw [← World.size_alloc wr (Obj.cells #[.int .i64 ea.tm, .int .i64 ea.mc, .int .i64 ea.a, .int .i64 ea.b, .int .i64 ea.lo, .int .i64 ea.hi, .int .i64 ea.to] 30), ← World.size_alloc (wr.alloc (Obj.cells #[.int .i64 ea.tm, .int .i64 ea.mc, .int .i64 ea.a, .int .i64 ea.b, .int .i64 ea.lo, .int .i64 ea.hi, .int .i64 ea.to] 30)) (Obj.cells #[.int .i64 ea.a, .int .i64 ea.b, .int .i64 ea.lo, .int .i64 ea.hi, .int .i64 ea.to] 28)]; exact rd_ints (World.alloc (wr.alloc (Obj.cells #[.int .i64 ea.tm, .int .i64 ea.mc, .int .i64 ea.a, .int .i64 ea.b, .int .i64 ea.lo, .int .i64 ea.hi, .int .i64 ea.to] 30)) (Obj.cells #[.int .i64 ea.a, .int .i64 ea.b, .int .i64 ea.lo, .int .i64 ea.hi, .int .i64 ea.to] 28)) 3 [ea.tm, ea.mc, ea.a, ea.b, ea.lo, ea.hi, ea.to] (by simp)) (by simp) (by
            intro j hj
            rw [inS_get hj]
            have h1 := hbd.tm; have h2 := hbd.mc; have h3 := hbd.a; have h4 := hbd.b; have h5 := hbd.lo; have h7 := hbd.hi; have h8 := hbd.tt
            have h6 : [ea.tm, ea.mc, ea.a, ea.b, ea.lo, ea.hi, ea.to][j] ∈ [ea.tm, ea.mc, ea.a, ea.b, ea.lo, ea.hi, ea.to] := List.getElem_mem hj
            generalize [ea.tm, ea.mc, ea.a, ea.b, ea.lo, ea.hi, ea.to][j] = y at h6
            simp at h6
            omega) (Ht.out.on (bal (bal (bal Hb.out _) _) _)))
        have Hnx := Lib.hid hnx; clear hnx hbd
        generalize repsT es k = P0 at Hnx s0
        generalize nText [ea.tm, ea.mc, ea.a, ea.b, ea.lo, ea.hi, ea.to] = P1 at Hnx s1 Hnt
        clear hcell
        go_wp2_with fail
        refine Hnt.out.mono ?_; rintro e w2 ⟨rfl, hb2⟩
        have HbW := Lib.hid (bthen (bal (bal (bal Hb.out _) _) _) hb2); clear hb2
        go_wp2
        go_roundw
        case rel => exact ⟨k + 1, by omega, by go_num, by rw [Hnx.out], HbW.out⟩
        case measure => simp [intOf]; omega
      · obtain rfl : k = es.length := by omega
        clear hcell
        go_wp2
        go_ret2
        exact ⟨ret_sb4 HV.out, hb⟩
set_option maxRecDepth 20000 in
set_option maxHeartbeats 8000000 in
theorem specRepText_any (v : Value) (es : List Rp) (w : World) (h : Rd rpS w w.heap.size v es) :
    Calls Tryd.prog 19 #[v] w fun e w' => e = .returned (.tuple #[.string (repsV es).1, .bool (repsV es).2]) ∧ Below w.heap.size w w' := by
  have Hr0 := Lib.hid h
  obtain ⟨A, c, rfl, hcc, hm, hA⟩ := h
  unfold maxLen at hm
  skip
  go_enter Tryd.func19, Tryd.ntmps19
  go_wp2_with fail
  refine (mrGood_any _ _ _ Hr0.out).mono ?_; rintro e w1 ⟨rfl, hb1⟩
  have Hb1 := Lib.hid hb1
  cases hkB : repsB es
  · have HV := Lib.hid (show repsV es = (⟨#[]⟩, false) by unfold repsV; rw [hkB]; rfl)
    clear hkB hA
    go_wp2
    go_ret2
    exact ⟨ret_sb4 HV.out, Hb1.out⟩
  have HV := Lib.hid (show repsV es = (repsT es es.length, true) by unfold repsV; rw [hkB]; rfl)
  have Hal := Lib.hid (repsB_all9 hkB)
  clear hkB
  have hl20 := Hal.out.1
  rcases Nat.eq_zero_or_pos es.length with h0 | h0
  · obtain rfl : es = [] := List.eq_nil_of_length_eq_zero h0
    clear hA
    go_wp2
    refine wp_loop_rounds 1 ?_
    rw [rounds_succ]
    go_wp2
    go_ret2
    exact ⟨ret_sb4 HV.out, Hb1.out⟩
  · obtain ⟨g, off, rfl, hg, hcell⟩ := hA h0
    clear hA
    have hcell := rp_cells hcell
    clear hb1
    go_wp2
    go_loopw [14, 4] (fun i o wr => ∃ k : Nat, k ≤ es.length ∧ i = .int .i64 k ∧ o = .string (repsT es k) ∧ Below w.heap.size w wr) (fun i _ _ => es.length - (intOf i).toNat)
    case atStart => exact ⟨0, Nat.zero_le _, rfl, rfl, Hb1.out⟩
    case round =>
      obtain ⟨k, hk, rfl, rfl, hb⟩ := hrel
      have s0 := repsT_size es Hal.out.2 k hk
      replace s0 : (repsT es k).size ≤ 160000000 := by omega
      by_cases hlt : k < es.length
      · obtain ⟨f0, f1, f2, f3, f4, f5, f6⟩ := hcell k hlt
        rw [← hb.cell (p := ⟨_, _, _⟩) hg] at f0 f1 f2 f3 f4 f5 f6
        have hbd := rpBd (Hal.out.2 k hlt)
        have hnx : repsT es (k + 1) = repsT es k ++ repT (rpS.get es k) := rfl
        unfold repT at hnx
        obtain ⟨ea, hea⟩ : ∃ e, rpS.get es k = e := ⟨_, rfl⟩
        rw [hea] at f0 f1 f2 f3 f4 f5 f6 hbd hnx
        clear hea
        have hgr : g < wr.heap.size := Nat.lt_of_lt_of_le hg hb.size
        have hgr' : g < wr.heap.size + 1 := Nat.lt_succ_of_lt hgr
        have Hb := Lib.hid hb; clear hb
        rw [nText7, rep_eq] at hnx
        have H0 := Lib.hid (fun W => l1Num_int ea.tm W (by have := hbd.tm; omega))
        have H9 := Lib.hid (fun W => l1Num_int ea.mc W (by have := hbd.mc; omega))
        have H2 := Lib.hid (fun W => ecText_any ea.a ea.b W (by have := hbd.a; omega) (by have := hbd.b; omega))
        have H1 := Lib.hid (fun W => l1Num_int ea.lo W (by have := hbd.lo; omega))
        have H3 := Lib.hid (fun W => l1Num_int ea.hi W (by have := hbd.hi; omega))
        have H4 := Lib.hid (fun W => l1Num_int ea.to W (by have := hbd.tt; omega))
        have t0 : (itS ea.tm).size ≤ 1000002 := itS_sizeP 1000000 (by have := hbd.tm; omega) (by have := hbd.tm; omega)
        have t9 : (itS ea.mc).size ≤ 12 := itS_sizeP 10 (by have := hbd.mc; omega) (by have := hbd.mc; omega)
        have s2 := nText2_sizeR hbd.a hbd.b
        have s1 : (itS ea.lo).size ≤ 22 := itS_sizeP 20 (by have := hbd.lo; omega) (by have := hbd.lo; omega)
        have s3 : (itS ea.hi).size ≤ 22 := itS_sizeP 20 (by have := hbd.hi; omega) (by have := hbd.hi; omega)
        have s4 : (itS ea.to).size ≤ 18 := itS_sizeP 16 (by have := hbd.tt; omega) (by have := hbd.tt; omega)
        have HbA := Lib.hid (show Below w.heap.size w (wr.alloc (Obj.cells #[.int .i64 ea.tm, .int .i64 ea.mc, .int .i64 ea.a, .int .i64 ea.b, .int .i64 ea.lo, .int .i64 ea.hi, .int .i64 ea.to] 30)) from bal Hb.out _)
        have HB1 := Lib.hid (Blk.new wr 30 #[.int .i64 ea.tm, .int .i64 ea.mc, .int .i64 ea.a, .int .i64 ea.b, .int .i64 ea.lo, .int .i64 ea.hi, .int .i64 ea.to])
        have Hnx := Lib.hid hnx; clear hnx hbd
        generalize repsT es k = P0 at Hnx s0
        generalize itS ea.tm = P7 at Hnx t0 H0
        generalize itS ea.mc = P9 at Hnx t9 H9
        generalize nText [ea.a, ea.b] = P2 at Hnx s2 H2
        generalize itS ea.lo = P1 at Hnx s1 H1
        generalize itS ea.hi = P3 at Hnx s3 H3
        generalize itS ea.to = P4 at Hnx s4 H4
        clear hcell
        go_wp2
        refine wp_region_tame (by kernel_rfl) (by kernel_rfl) (fun T _ W hT => ?_)
        have hx := hT.cell
        repeat (go_big_quiet_step ((first | (go_at_call 48; with_reducible exact hT.call (H2.out _)) | (go_at_call 47; with_reducible exact hT.call (H0.out _)) | (go_at_call 47; with_reducible exact hT.call (H9.out _)))))
        refine wpQuiet_nil ?_
        intro z
        clear hx
        have HB2 := Lib.hid (HB1.out.on (hT.below z))
        have HbB := Lib.hid (bthen HbA.out (hT.below z))
        generalize W z = wz at HB2 HbB ⊢
        clear hT f0 f1 f2 f3 f4 f5 f6
        have q4 := HB2.out.cell 4
        have q5 := HB2.out.cell 5
        have q6 := HB2.out.cell 6
        have ql := HB2.out.lt
        have HB3 := Lib.hid (Blk.new wz 3 #[.int .i64 ea.lo, .int .i64 ea.hi, .int .i64 ea.to])
        simp at q4 q5 q6
        go_wp2_with fail
        clear q4 q5 q6 ql
        have r0 := HB3.out.cell 0
        have rl := HB3.out.lt
        simp at r0
        refine wp_loop_rounds 4 ?_
        rw [rounds_succ]
        go_wp2_with fail
        refine (H1.out _).mono ?_; rintro e w4 ⟨rfl, hb4⟩
        have HB4 := Lib.hid (HB3.out.on hb4); have HbC := Lib.hid (bthen (bal HbB.out _) hb4); clear hb4 r0 rl
        go_wp2_with fail
        rw [rounds_succ]
        have r1 := HB4.out.cell 1
        have rl := HB4.out.lt
        simp at r1
        go_wp2_with fail
        refine (H3.out _).mono ?_; rintro e w5 ⟨rfl, hb5⟩
        have HB5 := Lib.hid (HB4.out.on hb5); have HbD := Lib.hid (bthen HbC.out hb5); clear hb5 r1 rl
        go_wp2_with fail
        rw [rounds_succ]
        have r2 := HB5.out.cell 2
        have rl := HB5.out.lt
        simp at r2
        go_wp2_with fail
        refine (H4.out _).mono ?_; rintro e w6 ⟨rfl, hb6⟩
        have HbE := Lib.hid (bthen HbD.out hb6); clear hb6 r2 rl
        go_wp2_with fail
        rw [rounds_succ]
        go_wp2
        go_roundw
        case rel => exact ⟨k + 1, by omega, by go_num, by rw [Hnx.out], HbE.out⟩
        case measure => simp [intOf]; omega
      · obtain rfl : k = es.length := by omega
        clear hcell
        go_wp2
        go_ret2
        exact ⟨ret_sb4 HV.out, hb⟩
end Go.Proofs.YtjnghjgfhlgbiaaDoor
