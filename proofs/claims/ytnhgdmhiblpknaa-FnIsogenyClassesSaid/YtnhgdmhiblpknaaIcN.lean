/- Neighbours by isogenies: the walks of both sides. Conditions: a valid curve, a root of it. Printed by gen_icn.py. -/
import Derived.Test.YtnhgdmhiblpknaaIcA
namespace Go.Proofs.Ytnhgdmhiblpknaa
open Go Go.RowKit

theorem red_go {r q s x y : Int} (h4 : p4 r = q) (h6 : p6 r = s) (hr : 2 ≤ r) (hz : ¬ (x = 0 ∧ y = 0)) (hx : x.tmod q = 0) (hy : y.tmod s = 0) :
    red r (x.tdiv q) (y.tdiv s) = red r x y ∧ ¬ (x.tdiv q = 0 ∧ y.tdiv s = 0) ∧ (x.tdiv q).natAbs + (y.tdiv s).natAbs < x.natAbs + y.natAbs := by
  subst h4; subst h6
  have d4 := dvd_tm.2 hx
  have d6 := dvd_tm.2 hy
  have hc : 2 ≤ r ∧ ¬ (x = 0 ∧ y = 0) ∧ p4 r ∣ x ∧ p6 r ∣ y := ⟨hr, hz, d4, d6⟩
  rw [dvd_td d4, dvd_td d6]
  exact ⟨(red_step hc).symm, div_nz hc, red_dec hc⟩
theorem red_no {r q s x y : Int} (h4 : p4 r = q) (h6 : p6 r = s) (h : x.tmod q ≠ 0 ∨ y.tmod s ≠ 0) : red r x y = (x, y) := by
  subst h4; subst h6
  refine red_end (fun hc => ?_)
  rcases h with h | h
  · exact h (dvd_tm.1 hc.2.2.1)
  · exact h (dvd_tm.1 hc.2.2.2)
def rIc : Nat → Int
  | 0 => 2
  | 1 => 3
  | _ => 5
def stI (a b e : Int) : Nat → Int × Int
  | 0 => (rawA a e, rawB a b e)
  | n + 1 => red (rIc n) (stI a b e n).1 (stI a b e n).2
theorem stI_end (a b e : Int) : stI a b e 3 = nbR a b e := rfl
def stS (a b e : Int) : Nat → Int × Int
  | 0 => (rawA a e, rawB a b e)
  | n + 1 => red ((n : Int) + 2) (stS a b e n).1 (stS a b e n).2
theorem stS_end {a b e : Int} (h : curveB a b = true) (he : evZ a b e = 0) : stS a b e 4 = nbR a b e := by
  have h4 := nbR_four h he
  show red 5 (stS a b e 3).1 (stS a b e 3).2 = nbR a b e
  have e3 : stS a b e 3 = stS a b e 2 := h4
  rw [e3]
  rfl
def cuO (a b : Int) : Option Cu := if curveB a b = true then some ⟨a, b⟩ else none
def CuR (o : Option Cu) (r : Ending) : Prop := match o with
  | some d => r = .returned (.tuple #[.agg #[.int .i64 d.a, .int .i64 d.b], .bool true])
  | none => r = .returned (.tuple #[.agg #[.int .i64 0, .int .i64 0], .bool false])
theorem CuR.yes {x y : Int} (h : curveB x y = true) : CuR (cuO x y) (.returned (.tuple #[.agg #[.int .i64 x, .int .i64 y], .bool true])) := by unfold cuO; rw [if_pos h]; rfl
theorem CuR.no {x y : Int} (h : curveB x y = false) : CuR (cuO x y) (.returned (.tuple #[.agg #[.int .i64 0, .int .i64 0], .bool false])) := by unfold cuO; rw [if_neg (by rw [h]; exact Bool.false_ne_true)]; rfl

set_option maxHeartbeats 1600000 in
theorem rawI_any (a b e : Int) (w : World) (ha : -1000 ≤ a ∧ a ≤ 1000) (hb : -10000 ≤ b ∧ b ≤ 10000) (he : -100 ≤ e ∧ e ≤ 100) :
    Calls Try.prog 82 #[.agg #[.int .i64 a, .int .i64 b], .int .i64 e] w fun r w' => r = .returned (.tuple #[.int .i64 (rawA a e), .int .i64 (rawB a b e)]) ∧ Below w.heap.size w w' := by
  obtain ⟨t1, t2⟩ := nbT_bd ha he
  obtain ⟨m1, m2⟩ := mul_bd (7 * e) (nbT a e) 700 31000 (by omega) (by omega) (by omega) (by omega)
  obtain ⟨n1, n2⟩ := mul_bd (3 * e) e 300 100 (by omega) (by omega) he.1 he.2
  have Hra := Lib.hid (show rawA a e = a - 5 * nbT a e from rfl)
  have Hrb := Lib.hid (show rawB a b e = b - 7 * e * nbT a e from rfl)
  have ht : 3 * e * e + a = nbT a e := rfl
  generalize nbT a e = t at t1 t2 m1 m2 ht Hra Hrb
  have hd : 3 * e * e = t - a := by omega
  obtain ⟨a1, a2⟩ := ha; obtain ⟨b1, b2⟩ := hb; obtain ⟨e1, e2⟩ := he
  have HbA := Lib.hid (show Below w.heap.size w (w.alloc (Obj.cells #[.int .i64 a, .int .i64 b] 37)) from bal (Below.refl _ _) _)
  go_enter Try.func82, Try.ntmps82
  go_wp2
  refine wp_region_tame (by kernel_rfl) (by kernel_rfl) (fun T _ W hT => ?_)
  have hx := hT.cell
  repeat (go_big_quiet_step (fail))
  refine wpQuiet_nil ?_
  intro tt
  clear hx
  go_wp2
  go_ret2
  exact ⟨by rw [Hra.out, Hrb.out]; rfl, bthen HbA.out (hT.below tt)⟩
set_option maxHeartbeats 1600000 in
theorem rawS_any (a b e : Int) (w : World) (ha : -1000 ≤ a ∧ a ≤ 1000) (hb : -10000 ≤ b ∧ b ≤ 10000) (he : -100 ≤ e ∧ e ≤ 100) :
    Calls Try.prog 80 #[.agg #[.int .i64 a, .int .i64 b], .int .i64 e] w fun r w' => r = .returned (.tuple #[.int .i64 (rawA a e), .int .i64 (rawB a b e)]) ∧ Below w.heap.size w w' := by
  obtain ⟨t1, t2⟩ := nbT_bd ha he
  obtain ⟨m1, m2⟩ := mul_bd (7 * e) (nbT a e) 700 31000 (by omega) (by omega) (by omega) (by omega)
  obtain ⟨n1, n2⟩ := mul_bd (3 * e) e 300 100 (by omega) (by omega) he.1 he.2
  have Hra := Lib.hid (show rawA a e = a - 5 * nbT a e from rfl)
  have Hrb := Lib.hid (show rawB a b e = b - 7 * e * nbT a e from rfl)
  have ht : 3 * e * e + a = nbT a e := rfl
  generalize nbT a e = t at t1 t2 m1 m2 ht Hra Hrb
  have hd : 3 * e * e = t - a := by omega
  obtain ⟨a1, a2⟩ := ha; obtain ⟨b1, b2⟩ := hb; obtain ⟨e1, e2⟩ := he
  have HbA := Lib.hid (show Below w.heap.size w (w.alloc (Obj.cells #[.int .i64 a, .int .i64 b] 37)) from bal (Below.refl _ _) _)
  go_enter Try.func80, Try.ntmps80
  go_wp2
  refine wp_region_tame (by kernel_rfl) (by kernel_rfl) (fun T _ W hT => ?_)
  have hx := hT.cell
  repeat (go_big_quiet_step (fail))
  refine wpQuiet_nil ?_
  intro tt
  clear hx
  go_wp2
  go_ret2
  exact ⟨by rw [Hra.out, Hrb.out]; rfl, bthen HbA.out (hT.below tt)⟩
set_option maxHeartbeats 800000 in
theorem curveRes_any (a b : Int) (w : World) :
    Calls Try.prog 83 #[.agg #[.int .i64 a, .int .i64 b]] w fun r w' => CuR (cuO a b) r ∧ Below w.heap.size w w' := by
  have HbA := Lib.hid (show Below w.heap.size w ((w.alloc (Obj.cells #[.int .i64 a, .int .i64 b] 37)).alloc (Obj.cells #[.int .i64 0, .int .i64 0] 37)) from bal (bal (Below.refl _ _) _) _)
  have HB := Lib.hid ((Blk.new w 37 #[.int .i64 a, .int .i64 b]).alloc (Obj.cells #[.int .i64 0, .int .i64 0] 37))
  have HR := Lib.hid (Blk.new1 w (Obj.cells #[.int .i64 a, .int .i64 b] 37) 37 #[.int .i64 0, .int .i64 0])
  go_enter Try.func83, Try.ntmps83
  go_wp2_with fail
  refine (isCurve_any a b _).mono ?_
  rintro e W ⟨rfl, hb1⟩
  have HbW := Lib.hid (bthen HbA.out hb1)
  replace HB := Lib.hid (HB.out.on hb1)
  replace HR := Lib.hid (HR.out.on hb1)
  clear hb1
  have q0 : W.cell? ⟨w.heap.size, 0, none⟩ = some (.int .i64 a) := HB.out.cell 0
  have q1 : W.cell? ⟨w.heap.size, 1, none⟩ = some (.int .i64 b) := HB.out.cell 1
  have ql := HB.out.lt
  have r0 : W.cell? ⟨w.heap.size + 1, 0, none⟩ = some (.int .i64 0) := HR.out.cell 0
  have r1 : W.cell? ⟨w.heap.size + 1, 1, none⟩ = some (.int .i64 0) := HR.out.cell 1
  have rl := HR.out.lt
  have f0 := HR.out.frozen 0
  have f1 := HR.out.frozen 1
  have hB0 := bst (bst HbW.out (p := ⟨w.heap.size + 1, 0, none⟩) (by simp) (.int .i64 0)) (p := ⟨w.heap.size + 1, 1, none⟩) (by simp) (.int .i64 0)
  have hB1 := bst (bst HbW.out (p := ⟨w.heap.size + 1, 0, none⟩) (by simp) (.int .i64 a)) (p := ⟨w.heap.size + 1, 1, none⟩) (by simp) (.int .i64 b)
  have HB0 := Lib.hid hB0; have HB1 := Lib.hid hB1; clear hB0 hB1
  cases hc : curveB a b
  · have Hn := Lib.hid (CuR.no hc)
    go_wp2
    clear r0 r1 f0 f1 rl
    have HR4 := HR.out.set2 (b0 := .int .i64 0) (b1 := .int .i64 0)
    have r0 := HR4.cell 0
    have r1 := HR4.cell 1
    simp at r0 r1
    exact bodyPost_ret (v := .tuple #[.agg #[.int .i64 0, .int .i64 0], .bool false]) (by simp [results, Try.results83, go_sem, r0, r1]) rfl ⟨Hn.out, HB0.out⟩
  · have Hn := Lib.hid (CuR.yes hc)
    go_wp2
    clear r0 r1 f0 f1 rl
    have HR4 := HR.out.set2 (b0 := .int .i64 a) (b1 := .int .i64 b)
    have r0 := HR4.cell 0
    have r1 := HR4.cell 1
    simp at r0 r1
    exact bodyPost_ret (v := .tuple #[.agg #[.int .i64 a, .int .i64 b], .bool true]) (by simp [results, Try.results83, go_sem, r0, r1]) rfl ⟨Hn.out, HB1.out⟩
set_option maxRecDepth 8000 in
set_option maxHeartbeats 16000000 in
theorem nbI_any (a b e : Int) (w : World) (hc : curveB a b = true) (hev : evZ a b e = 0) (he : -100 ≤ e ∧ e ≤ 100) :
    Calls Try.prog 71 #[.agg #[.int .i64 a, .int .i64 b], .int .i64 e] w fun r w' => CuR (nbV a b e) r ∧ Below w.heap.size w w' := by
  obtain ⟨ha, hb⟩ := curveB_bd hc
  have Hc := Lib.hid hc; clear hc
  have Hnz := Lib.hid (raw_nz Hc.out hev)
  have Hrb := Lib.hid (raw_bd (e := e) ha hb he)
  have HbA := Lib.hid (show Below w.heap.size w ((w.alloc (Obj.cells #[.int .i64 a, .int .i64 b] 37)).alloc (Obj.cells #[.int .i64 0, .int .i64 0] 37)) from bal (bal (Below.refl _ _) _) _)
  have HR := Lib.hid (Blk.new1 w (Obj.cells #[.int .i64 a, .int .i64 b] 37) 37 #[.int .i64 0, .int .i64 0])
  go_enter Try.func71, Try.ntmps71
  go_wp2_with fail
  refine (rawI_any a b e _ ha hb he).mono ?_
  rintro r w1 ⟨rfl, hb1⟩
  have Hb1 := Lib.hid (bthen HbA.out hb1)
  have HR1 := Lib.hid (HR.out.on hb1)
  clear hb1
  have H0 := Lib.hid (show stI a b e 0 = (rawA a e, rawB a b e) from rfl)
  have HbL := Lib.hid (bal Hb1.out (Obj.cells #[.int .i64 2, .int .i64 3, .int .i64 5] 3))
  have HL := Lib.hid (Blk.new w1 3 #[.int .i64 2, .int .i64 3, .int .i64 5])
  have HR2 := Lib.hid (HR1.out.alloc (Obj.cells #[.int .i64 2, .int .i64 3, .int .i64 5] 3))
  obtain ⟨xr, hxr⟩ : ∃ x, rawA a e = x := ⟨_, rfl⟩
  obtain ⟨yr, hyr⟩ : ∃ x, rawB a b e = x := ⟨_, rfl⟩
  rw [hxr, hyr] at Hnz Hrb H0
  rw [hxr, hyr]
  clear hxr hyr
  go_wp2
  generalize w1.alloc (Obj.cells #[.int .i64 2, .int .i64 3, .int .i64 5] 3) = W at HbL HL HR2 ⊢
  go_loopw [19, 6, 7] (fun i sa sb wr => ∃ (k : Nat) (x0 y0 : Int), k ≤ 3 ∧ i = .int .i64 k ∧ sa = .int .i64 x0 ∧ sb = .int .i64 y0 ∧ Hid (stI a b e k = (x0, y0)) ∧ ¬ (x0 = 0 ∧ y0 = 0) ∧ x0.natAbs + y0.natAbs ≤ 40000000 ∧ Hid (Below W.heap.size W wr)) (fun i _ _ _ => 3 - (intOf i).toNat)
  case atStart => exact ⟨0, xr, yr, by omega, rfl, rfl, rfl, H0, Hnz.out, by have := Hrb.out; omega, Lib.hid (Below.refl _ _)⟩
  case round =>
    obtain ⟨k, x0, y0, hk, rfl, rfl, rfl, Hst, hz0, hbd0, Hbr⟩ := hrel
    have HLr := Lib.hid (HL.out.on Hbr.out)
    have l0 : wr.cell? ⟨w1.heap.size, 0, none⟩ = some (.int .i64 2) := HLr.out.cell 0
    have l1 : wr.cell? ⟨w1.heap.size, 1, none⟩ = some (.int .i64 3) := HLr.out.cell 1
    have l2 : wr.cell? ⟨w1.heap.size, 2, none⟩ = some (.int .i64 5) := HLr.out.cell 2
    have ll := HLr.out.lt
    have hkk : k = 0 ∨ k = 1 ∨ k = 2 ∨ k = 3 := by omega
    rcases hkk with rfl | rfl | rfl | rfl
    · go_wp2
      go_loopw [6, 7] (fun sa sb wi => ∃ x y : Int, sa = .int .i64 x ∧ sb = .int .i64 y ∧ ¬ (x = 0 ∧ y = 0) ∧ x.natAbs + y.natAbs ≤ 40000000 ∧ Hid (red 2 x y = red 2 x0 y0) ∧ Below wr.heap.size wr wi) (fun sa sb _ => (intOf sa).natAbs + (intOf sb).natAbs)
      case atStart => exact ⟨x0, y0, rfl, rfl, hz0, hbd0, Lib.hid rfl, Below.refl _ _⟩
      case round =>
        obtain ⟨x, y, rfl, rfl, hz, hbd, Hred, hbi⟩ := hrel
        have hbx : -40000000 ≤ x ∧ x ≤ 40000000 := by omega
        have hby : -40000000 ≤ y ∧ y ≤ 40000000 := by omega
        obtain ⟨hx1, hx2⟩ := hbx; obtain ⟨hy1, hy2⟩ := hby
        have Hz := Lib.hid hz; clear hz
        by_cases hxz : x = 0
        · have hyn : y ≠ 0 := fun h => Hz.out ⟨hxz, h⟩
          have ey : (y != 0) = true := by simp [hyn]
          have ex : (x != 0) = false := by simp [hxz]
          have h4 : x.tmod 16 = 0 := by rw [hxz]; rfl
          clear hyn hxz
          have e4 : (x.tmod 16 == 0) = true := by simp [h4]
          by_cases h6 : y.tmod 64 = 0
          · have e6 : (y.tmod 64 == 0) = true := by simp [h6]
            have hgo := red_go (r := 2) (q := 16) (s := 64) (x := x) (y := y) rfl rfl (by omega) Hz.out h4 h6
            obtain ⟨v6, hv6⟩ : ∃ v, y.tdiv 64 = v := ⟨_, rfl⟩
            rw [hv6] at hgo
            have Hv6 := Lib.hid hv6; clear hv6
            obtain ⟨v4, hv4⟩ : ∃ v, x.tdiv 16 = v := ⟨_, rfl⟩
            rw [hv4] at hgo
            have Hv4 := Lib.hid hv4; clear hv4
            have Hgo := Lib.hid hgo; clear hgo
            go_wp2
            refine wp_region_tame (by kernel_rfl) (by kernel_rfl) (fun T _ W hT => ?_)
            have hxx := hT.cell
            repeat (go_big_quiet_step (fail))
            refine wpQuiet_nil ?_
            intro tt
            clear hxx
            go_wp2
            go_roundw
            case rel => exact ⟨v4, v6, by rw [Hv4.out], by rw [Hv6.out], Hgo.out.2.1, by have := Hgo.out.2.2; omega, Lib.hid (Hgo.out.1.trans Hred.out), (bthen hbi (hT.below tt))⟩
            case measure => have := Hgo.out.2.2; simp only [intOf, Hv6.out, Hv4.out]; omega
          · have e6 : (y.tmod 64 == 0) = false := by simp [h6]
            have Hend := Lib.hid (show red 2 x0 y0 = (x, y) by rw [← Hred.out]; exact red_no (r := 2) (q := 16) (s := 64) rfl rfl (.inr h6))
            clear h6
            go_wp2
            go_roundw
            case rel => exact ⟨1, _, y, by omega, by go_num, rfl, rfl, Lib.hid (by show red 2 (stI a b e 0).1 (stI a b e 0).2 = _; rw [Hst.out]; exact Hend.out), Hz.out, hbd, Lib.hid (bthen Hbr.out hbi)⟩
            case measure => simp [intOf]
        · have ex : (x != 0) = true := by simp [hxz]
          clear hxz
          by_cases h4 : x.tmod 16 = 0
          · have e4 : (x.tmod 16 == 0) = true := by simp [h4]
            by_cases h6 : y.tmod 64 = 0
            · have e6 : (y.tmod 64 == 0) = true := by simp [h6]
              have hgo := red_go (r := 2) (q := 16) (s := 64) (x := x) (y := y) rfl rfl (by omega) Hz.out h4 h6
              obtain ⟨v6, hv6⟩ : ∃ v, y.tdiv 64 = v := ⟨_, rfl⟩
              rw [hv6] at hgo
              have Hv6 := Lib.hid hv6; clear hv6
              obtain ⟨v4, hv4⟩ : ∃ v, x.tdiv 16 = v := ⟨_, rfl⟩
              rw [hv4] at hgo
              have Hv4 := Lib.hid hv4; clear hv4
              have Hgo := Lib.hid hgo; clear hgo
              go_wp2
              refine wp_region_tame (by kernel_rfl) (by kernel_rfl) (fun T _ W hT => ?_)
              have hxx := hT.cell
              repeat (go_big_quiet_step (fail))
              refine wpQuiet_nil ?_
              intro tt
              clear hxx
              go_wp2
              go_roundw
              case rel => exact ⟨v4, v6, by rw [Hv4.out], by rw [Hv6.out], Hgo.out.2.1, by have := Hgo.out.2.2; omega, Lib.hid (Hgo.out.1.trans Hred.out), (bthen hbi (hT.below tt))⟩
              case measure => have := Hgo.out.2.2; simp only [intOf, Hv6.out, Hv4.out]; omega
            · have e6 : (y.tmod 64 == 0) = false := by simp [h6]
              have Hend := Lib.hid (show red 2 x0 y0 = (x, y) by rw [← Hred.out]; exact red_no (r := 2) (q := 16) (s := 64) rfl rfl (.inr h6))
              clear h6
              go_wp2
              go_roundw
              case rel => exact ⟨1, _, y, by omega, by go_num, rfl, rfl, Lib.hid (by show red 2 (stI a b e 0).1 (stI a b e 0).2 = _; rw [Hst.out]; exact Hend.out), Hz.out, hbd, Lib.hid (bthen Hbr.out hbi)⟩
              case measure => simp [intOf]
          · have e4 : (x.tmod 16 == 0) = false := by simp [h4]
            have Hend := Lib.hid (show red 2 x0 y0 = (x, y) by rw [← Hred.out]; exact red_no (r := 2) (q := 16) (s := 64) rfl rfl (.inl h4))
            clear h4
            go_wp2
            go_roundw
            case rel => exact ⟨1, _, y, by omega, by go_num, rfl, rfl, Lib.hid (by show red 2 (stI a b e 0).1 (stI a b e 0).2 = _; rw [Hst.out]; exact Hend.out), Hz.out, hbd, Lib.hid (bthen Hbr.out hbi)⟩
            case measure => simp [intOf]
    · go_wp2
      go_loopw [6, 7] (fun sa sb wi => ∃ x y : Int, sa = .int .i64 x ∧ sb = .int .i64 y ∧ ¬ (x = 0 ∧ y = 0) ∧ x.natAbs + y.natAbs ≤ 40000000 ∧ Hid (red 3 x y = red 3 x0 y0) ∧ Below wr.heap.size wr wi) (fun sa sb _ => (intOf sa).natAbs + (intOf sb).natAbs)
      case atStart => exact ⟨x0, y0, rfl, rfl, hz0, hbd0, Lib.hid rfl, Below.refl _ _⟩
      case round =>
        obtain ⟨x, y, rfl, rfl, hz, hbd, Hred, hbi⟩ := hrel
        have hbx : -40000000 ≤ x ∧ x ≤ 40000000 := by omega
        have hby : -40000000 ≤ y ∧ y ≤ 40000000 := by omega
        obtain ⟨hx1, hx2⟩ := hbx; obtain ⟨hy1, hy2⟩ := hby
        have Hz := Lib.hid hz; clear hz
        by_cases hxz : x = 0
        · have hyn : y ≠ 0 := fun h => Hz.out ⟨hxz, h⟩
          have ey : (y != 0) = true := by simp [hyn]
          have ex : (x != 0) = false := by simp [hxz]
          have h4 : x.tmod 81 = 0 := by rw [hxz]; rfl
          clear hyn hxz
          have e4 : (x.tmod 81 == 0) = true := by simp [h4]
          by_cases h6 : y.tmod 729 = 0
          · have e6 : (y.tmod 729 == 0) = true := by simp [h6]
            have hgo := red_go (r := 3) (q := 81) (s := 729) (x := x) (y := y) rfl rfl (by omega) Hz.out h4 h6
            obtain ⟨v6, hv6⟩ : ∃ v, y.tdiv 729 = v := ⟨_, rfl⟩
            rw [hv6] at hgo
            have Hv6 := Lib.hid hv6; clear hv6
            obtain ⟨v4, hv4⟩ : ∃ v, x.tdiv 81 = v := ⟨_, rfl⟩
            rw [hv4] at hgo
            have Hv4 := Lib.hid hv4; clear hv4
            have Hgo := Lib.hid hgo; clear hgo
            go_wp2
            refine wp_region_tame (by kernel_rfl) (by kernel_rfl) (fun T _ W hT => ?_)
            have hxx := hT.cell
            repeat (go_big_quiet_step (fail))
            refine wpQuiet_nil ?_
            intro tt
            clear hxx
            go_wp2
            go_roundw
            case rel => exact ⟨v4, v6, by rw [Hv4.out], by rw [Hv6.out], Hgo.out.2.1, by have := Hgo.out.2.2; omega, Lib.hid (Hgo.out.1.trans Hred.out), (bthen hbi (hT.below tt))⟩
            case measure => have := Hgo.out.2.2; simp only [intOf, Hv6.out, Hv4.out]; omega
          · have e6 : (y.tmod 729 == 0) = false := by simp [h6]
            have Hend := Lib.hid (show red 3 x0 y0 = (x, y) by rw [← Hred.out]; exact red_no (r := 3) (q := 81) (s := 729) rfl rfl (.inr h6))
            clear h6
            go_wp2
            go_roundw
            case rel => exact ⟨2, _, y, by omega, by go_num, rfl, rfl, Lib.hid (by show red 3 (stI a b e 1).1 (stI a b e 1).2 = _; rw [Hst.out]; exact Hend.out), Hz.out, hbd, Lib.hid (bthen Hbr.out hbi)⟩
            case measure => simp [intOf]
        · have ex : (x != 0) = true := by simp [hxz]
          clear hxz
          by_cases h4 : x.tmod 81 = 0
          · have e4 : (x.tmod 81 == 0) = true := by simp [h4]
            by_cases h6 : y.tmod 729 = 0
            · have e6 : (y.tmod 729 == 0) = true := by simp [h6]
              have hgo := red_go (r := 3) (q := 81) (s := 729) (x := x) (y := y) rfl rfl (by omega) Hz.out h4 h6
              obtain ⟨v6, hv6⟩ : ∃ v, y.tdiv 729 = v := ⟨_, rfl⟩
              rw [hv6] at hgo
              have Hv6 := Lib.hid hv6; clear hv6
              obtain ⟨v4, hv4⟩ : ∃ v, x.tdiv 81 = v := ⟨_, rfl⟩
              rw [hv4] at hgo
              have Hv4 := Lib.hid hv4; clear hv4
              have Hgo := Lib.hid hgo; clear hgo
              go_wp2
              refine wp_region_tame (by kernel_rfl) (by kernel_rfl) (fun T _ W hT => ?_)
              have hxx := hT.cell
              repeat (go_big_quiet_step (fail))
              refine wpQuiet_nil ?_
              intro tt
              clear hxx
              go_wp2
              go_roundw
              case rel => exact ⟨v4, v6, by rw [Hv4.out], by rw [Hv6.out], Hgo.out.2.1, by have := Hgo.out.2.2; omega, Lib.hid (Hgo.out.1.trans Hred.out), (bthen hbi (hT.below tt))⟩
              case measure => have := Hgo.out.2.2; simp only [intOf, Hv6.out, Hv4.out]; omega
            · have e6 : (y.tmod 729 == 0) = false := by simp [h6]
              have Hend := Lib.hid (show red 3 x0 y0 = (x, y) by rw [← Hred.out]; exact red_no (r := 3) (q := 81) (s := 729) rfl rfl (.inr h6))
              clear h6
              go_wp2
              go_roundw
              case rel => exact ⟨2, _, y, by omega, by go_num, rfl, rfl, Lib.hid (by show red 3 (stI a b e 1).1 (stI a b e 1).2 = _; rw [Hst.out]; exact Hend.out), Hz.out, hbd, Lib.hid (bthen Hbr.out hbi)⟩
              case measure => simp [intOf]
          · have e4 : (x.tmod 81 == 0) = false := by simp [h4]
            have Hend := Lib.hid (show red 3 x0 y0 = (x, y) by rw [← Hred.out]; exact red_no (r := 3) (q := 81) (s := 729) rfl rfl (.inl h4))
            clear h4
            go_wp2
            go_roundw
            case rel => exact ⟨2, _, y, by omega, by go_num, rfl, rfl, Lib.hid (by show red 3 (stI a b e 1).1 (stI a b e 1).2 = _; rw [Hst.out]; exact Hend.out), Hz.out, hbd, Lib.hid (bthen Hbr.out hbi)⟩
            case measure => simp [intOf]
    · go_wp2
      go_loopw [6, 7] (fun sa sb wi => ∃ x y : Int, sa = .int .i64 x ∧ sb = .int .i64 y ∧ ¬ (x = 0 ∧ y = 0) ∧ x.natAbs + y.natAbs ≤ 40000000 ∧ Hid (red 5 x y = red 5 x0 y0) ∧ Below wr.heap.size wr wi) (fun sa sb _ => (intOf sa).natAbs + (intOf sb).natAbs)
      case atStart => exact ⟨x0, y0, rfl, rfl, hz0, hbd0, Lib.hid rfl, Below.refl _ _⟩
      case round =>
        obtain ⟨x, y, rfl, rfl, hz, hbd, Hred, hbi⟩ := hrel
        have hbx : -40000000 ≤ x ∧ x ≤ 40000000 := by omega
        have hby : -40000000 ≤ y ∧ y ≤ 40000000 := by omega
        obtain ⟨hx1, hx2⟩ := hbx; obtain ⟨hy1, hy2⟩ := hby
        have Hz := Lib.hid hz; clear hz
        by_cases hxz : x = 0
        · have hyn : y ≠ 0 := fun h => Hz.out ⟨hxz, h⟩
          have ey : (y != 0) = true := by simp [hyn]
          have ex : (x != 0) = false := by simp [hxz]
          have h4 : x.tmod 625 = 0 := by rw [hxz]; rfl
          clear hyn hxz
          have e4 : (x.tmod 625 == 0) = true := by simp [h4]
          by_cases h6 : y.tmod 15625 = 0
          · have e6 : (y.tmod 15625 == 0) = true := by simp [h6]
            have hgo := red_go (r := 5) (q := 625) (s := 15625) (x := x) (y := y) rfl rfl (by omega) Hz.out h4 h6
            obtain ⟨v6, hv6⟩ : ∃ v, y.tdiv 15625 = v := ⟨_, rfl⟩
            rw [hv6] at hgo
            have Hv6 := Lib.hid hv6; clear hv6
            obtain ⟨v4, hv4⟩ : ∃ v, x.tdiv 625 = v := ⟨_, rfl⟩
            rw [hv4] at hgo
            have Hv4 := Lib.hid hv4; clear hv4
            have Hgo := Lib.hid hgo; clear hgo
            go_wp2
            refine wp_region_tame (by kernel_rfl) (by kernel_rfl) (fun T _ W hT => ?_)
            have hxx := hT.cell
            repeat (go_big_quiet_step (fail))
            refine wpQuiet_nil ?_
            intro tt
            clear hxx
            go_wp2
            go_roundw
            case rel => exact ⟨v4, v6, by rw [Hv4.out], by rw [Hv6.out], Hgo.out.2.1, by have := Hgo.out.2.2; omega, Lib.hid (Hgo.out.1.trans Hred.out), (bthen hbi (hT.below tt))⟩
            case measure => have := Hgo.out.2.2; simp only [intOf, Hv6.out, Hv4.out]; omega
          · have e6 : (y.tmod 15625 == 0) = false := by simp [h6]
            have Hend := Lib.hid (show red 5 x0 y0 = (x, y) by rw [← Hred.out]; exact red_no (r := 5) (q := 625) (s := 15625) rfl rfl (.inr h6))
            clear h6
            go_wp2
            go_roundw
            case rel => exact ⟨3, _, y, by omega, by go_num, rfl, rfl, Lib.hid (by show red 5 (stI a b e 2).1 (stI a b e 2).2 = _; rw [Hst.out]; exact Hend.out), Hz.out, hbd, Lib.hid (bthen Hbr.out hbi)⟩
            case measure => simp [intOf]
        · have ex : (x != 0) = true := by simp [hxz]
          clear hxz
          by_cases h4 : x.tmod 625 = 0
          · have e4 : (x.tmod 625 == 0) = true := by simp [h4]
            by_cases h6 : y.tmod 15625 = 0
            · have e6 : (y.tmod 15625 == 0) = true := by simp [h6]
              have hgo := red_go (r := 5) (q := 625) (s := 15625) (x := x) (y := y) rfl rfl (by omega) Hz.out h4 h6
              obtain ⟨v6, hv6⟩ : ∃ v, y.tdiv 15625 = v := ⟨_, rfl⟩
              rw [hv6] at hgo
              have Hv6 := Lib.hid hv6; clear hv6
              obtain ⟨v4, hv4⟩ : ∃ v, x.tdiv 625 = v := ⟨_, rfl⟩
              rw [hv4] at hgo
              have Hv4 := Lib.hid hv4; clear hv4
              have Hgo := Lib.hid hgo; clear hgo
              go_wp2
              refine wp_region_tame (by kernel_rfl) (by kernel_rfl) (fun T _ W hT => ?_)
              have hxx := hT.cell
              repeat (go_big_quiet_step (fail))
              refine wpQuiet_nil ?_
              intro tt
              clear hxx
              go_wp2
              go_roundw
              case rel => exact ⟨v4, v6, by rw [Hv4.out], by rw [Hv6.out], Hgo.out.2.1, by have := Hgo.out.2.2; omega, Lib.hid (Hgo.out.1.trans Hred.out), (bthen hbi (hT.below tt))⟩
              case measure => have := Hgo.out.2.2; simp only [intOf, Hv6.out, Hv4.out]; omega
            · have e6 : (y.tmod 15625 == 0) = false := by simp [h6]
              have Hend := Lib.hid (show red 5 x0 y0 = (x, y) by rw [← Hred.out]; exact red_no (r := 5) (q := 625) (s := 15625) rfl rfl (.inr h6))
              clear h6
              go_wp2
              go_roundw
              case rel => exact ⟨3, _, y, by omega, by go_num, rfl, rfl, Lib.hid (by show red 5 (stI a b e 2).1 (stI a b e 2).2 = _; rw [Hst.out]; exact Hend.out), Hz.out, hbd, Lib.hid (bthen Hbr.out hbi)⟩
              case measure => simp [intOf]
          · have e4 : (x.tmod 625 == 0) = false := by simp [h4]
            have Hend := Lib.hid (show red 5 x0 y0 = (x, y) by rw [← Hred.out]; exact red_no (r := 5) (q := 625) (s := 15625) rfl rfl (.inl h4))
            clear h4
            go_wp2
            go_roundw
            case rel => exact ⟨3, _, y, by omega, by go_num, rfl, rfl, Lib.hid (by show red 5 (stI a b e 2).1 (stI a b e 2).2 = _; rw [Hst.out]; exact Hend.out), Hz.out, hbd, Lib.hid (bthen Hbr.out hbi)⟩
            case measure => simp [intOf]
    · have HRr := HR2.out.on Hbr.out
      have Hfin := Lib.hid (show nbR a b e = (x0, y0) by rw [← stI_end]; exact Hst.out)
      clear l0 l1 l2 ll hz0 Hst
      have Hbw := Lib.hid (bthen HbL.out Hbr.out)
      clear Hbr HLr
      go_wp2_with fail
      refine (curveRes_any x0 y0 _).mono ?_
      rintro r w4 ⟨hr, hb4⟩
      have HR4 := Lib.hid (HRr.on hb4)
      have Hb4 := Lib.hid (bthen Hbw.out hb4)
      clear hb4 HRr
      have r0 : w4.cell? ⟨w.heap.size + 1, 0, none⟩ = some (.int .i64 0) := HR4.out.cell 0
      have r1 : w4.cell? ⟨w.heap.size + 1, 1, none⟩ = some (.int .i64 0) := HR4.out.cell 1
      have rl := HR4.out.lt
      have f0 := HR4.out.frozen 0
      have f1 := HR4.out.frozen 1
      have Hnb := Lib.hid (show nbV a b e = cuO x0 y0 by unfold nbV cuO; rw [Hfin.out])
      have HB0 := Lib.hid (bst (bst Hb4.out (p := ⟨w.heap.size + 1, 0, none⟩) (by simp) (.int .i64 0)) (p := ⟨w.heap.size + 1, 1, none⟩) (by simp) (.int .i64 0))
      have HB1 := Lib.hid (bst (bst Hb4.out (p := ⟨w.heap.size + 1, 0, none⟩) (by simp) (.int .i64 x0)) (p := ⟨w.heap.size + 1, 1, none⟩) (by simp) (.int .i64 y0))
      cases hcv : curveB x0 y0
      · have ho : cuO x0 y0 = none := by unfold cuO; rw [if_neg (by rw [hcv]; exact Bool.false_ne_true)]
        rw [ho] at hr Hnb
        have hr2 : r = .returned (.tuple #[.agg #[.int .i64 0, .int .i64 0], .bool false]) := hr
        subst hr2
        clear hr hcv
        go_wp2
        clear r0 r1 f0 f1 rl
        have HR5 := HR4.out.set2 (b0 := .int .i64 0) (b1 := .int .i64 0)
        have r0 := HR5.cell 0
        have r1 := HR5.cell 1
        simp at r0 r1
        exact bodyPost_ret (v := .tuple #[.agg #[.int .i64 0, .int .i64 0], .bool false]) (by simp [results, Try.results71, go_sem, r0, r1]) rfl ⟨by rw [Hnb.out]; rfl, HB0.out⟩
      · have ho : cuO x0 y0 = some ⟨x0, y0⟩ := by unfold cuO; rw [if_pos hcv]
        rw [ho] at hr Hnb
        have hr2 : r = .returned (.tuple #[.agg #[.int .i64 x0, .int .i64 y0], .bool true]) := hr
        subst hr2
        clear hr hcv
        go_wp2
        clear r0 r1 f0 f1 rl
        have HR5 := HR4.out.set2 (b0 := .int .i64 x0) (b1 := .int .i64 y0)
        have r0 := HR5.cell 0
        have r1 := HR5.cell 1
        simp at r0 r1
        exact bodyPost_ret (v := .tuple #[.agg #[.int .i64 x0, .int .i64 y0], .bool true]) (by simp [results, Try.results71, go_sem, r0, r1]) rfl ⟨by rw [Hnb.out]; rfl, HB1.out⟩
set_option maxRecDepth 8000 in
set_option maxHeartbeats 16000000 in
theorem nbS_any (a b e : Int) (w : World) (hc : curveB a b = true) (hev : evZ a b e = 0) (he : -100 ≤ e ∧ e ≤ 100) :
    Calls Try.prog 65 #[.agg #[.int .i64 a, .int .i64 b], .int .i64 e] w fun r w' => CuR (nbV a b e) r ∧ Below w.heap.size w w' := by
  obtain ⟨ha, hb⟩ := curveB_bd hc
  have Hc := Lib.hid hc; clear hc
  have Hnz := Lib.hid (raw_nz Hc.out hev)
  have Hrb := Lib.hid (raw_bd (e := e) ha hb he)
  have Hev := Lib.hid hev; clear hev
  have HbA := Lib.hid (show Below w.heap.size w ((w.alloc (Obj.cells #[.int .i64 a, .int .i64 b] 37)).alloc (Obj.cells #[.int .i64 0, .int .i64 0] 37)) from bal (bal (Below.refl _ _) _) _)
  have HR := Lib.hid (Blk.new1 w (Obj.cells #[.int .i64 a, .int .i64 b] 37) 37 #[.int .i64 0, .int .i64 0])
  go_enter Try.func65, Try.ntmps65
  go_wp2_with fail
  refine (rawS_any a b e _ ha hb he).mono ?_
  rintro r W ⟨rfl, hb1⟩
  have HbL := Lib.hid (bthen HbA.out hb1)
  have HR2 := Lib.hid (HR.out.on hb1)
  clear hb1
  have H0 := Lib.hid (show stS a b e 0 = (rawA a e, rawB a b e) from rfl)
  obtain ⟨xr, hxr⟩ : ∃ x, rawA a e = x := ⟨_, rfl⟩
  obtain ⟨yr, hyr⟩ : ∃ x, rawB a b e = x := ⟨_, rfl⟩
  rw [hxr, hyr] at Hnz Hrb H0
  rw [hxr, hyr]
  clear hxr hyr
  go_wp2
  go_loopw [8, 6, 7] (fun i sa sb wr => ∃ (k : Nat) (x0 y0 : Int), k ≤ 4 ∧ i = .int .i64 ((k : Int) + 2) ∧ sa = .int .i64 x0 ∧ sb = .int .i64 y0 ∧ Hid (stS a b e k = (x0, y0)) ∧ ¬ (x0 = 0 ∧ y0 = 0) ∧ x0.natAbs + y0.natAbs ≤ 40000000 ∧ Hid (Below W.heap.size W wr)) (fun i _ _ _ => 10 - (intOf i).toNat)
  case atStart => exact ⟨0, xr, yr, by omega, rfl, rfl, rfl, H0, Hnz.out, by have := Hrb.out; omega, Lib.hid (Below.refl _ _)⟩
  case round =>
    obtain ⟨k, x0, y0, hk, rfl, rfl, rfl, Hst, hz0, hbd0, Hbr⟩ := hrel
    have hkk : k = 0 ∨ k = 1 ∨ k = 2 ∨ k = 3 ∨ k = 4 := by omega
    rcases hkk with rfl | rfl | rfl | rfl | rfl
    · go_wp2
      go_loopw [6, 7] (fun sa sb wi => ∃ x y : Int, sa = .int .i64 x ∧ sb = .int .i64 y ∧ ¬ (x = 0 ∧ y = 0) ∧ x.natAbs + y.natAbs ≤ 40000000 ∧ Hid (red 2 x y = red 2 x0 y0) ∧ Below wr.heap.size wr wi) (fun sa sb _ => (intOf sa).natAbs + (intOf sb).natAbs)
      case atStart => exact ⟨x0, y0, rfl, rfl, hz0, hbd0, Lib.hid rfl, Below.refl _ _⟩
      case round =>
        obtain ⟨x, y, rfl, rfl, hz, hbd, Hred, hbi⟩ := hrel
        have hbx : -40000000 ≤ x ∧ x ≤ 40000000 := by omega
        have hby : -40000000 ≤ y ∧ y ≤ 40000000 := by omega
        obtain ⟨hx1, hx2⟩ := hbx; obtain ⟨hy1, hy2⟩ := hby
        have Hz := Lib.hid hz; clear hz
        by_cases h4 : x.tmod 16 = 0
        · have e4 : (x.tmod 16 == 0) = true := by simp [h4]
          by_cases h6 : y.tmod 64 = 0
          · have e6 : (y.tmod 64 == 0) = true := by simp [h6]
            have hgo := red_go (r := 2) (q := 16) (s := 64) (x := x) (y := y) rfl rfl (by omega) Hz.out h4 h6
            obtain ⟨v6, hv6⟩ : ∃ v, y.tdiv 64 = v := ⟨_, rfl⟩
            rw [hv6] at hgo
            have Hv6 := Lib.hid hv6; clear hv6
            obtain ⟨v4, hv4⟩ : ∃ v, x.tdiv 16 = v := ⟨_, rfl⟩
            rw [hv4] at hgo
            have Hv4 := Lib.hid hv4; clear hv4
            have Hgo := Lib.hid hgo; clear hgo
            go_wp2
            go_roundw
            case rel => exact ⟨v4, v6, by rw [Hv4.out], by rw [Hv6.out], Hgo.out.2.1, by have := Hgo.out.2.2; omega, Lib.hid (Hgo.out.1.trans Hred.out), hbi⟩
            case measure => have := Hgo.out.2.2; simp only [intOf, Hv6.out, Hv4.out]; omega
          · have e6 : (y.tmod 64 == 0) = false := by simp [h6]
            have Hend := Lib.hid (show red 2 x0 y0 = (x, y) by rw [← Hred.out]; exact red_no (r := 2) (q := 16) (s := 64) rfl rfl (.inr h6))
            clear h6
            go_wp2
            go_roundw
            case rel => exact ⟨1, _, y, by omega, by go_num, rfl, rfl, Lib.hid (by show red 2 (stS a b e 0).1 (stS a b e 0).2 = _; rw [Hst.out]; exact Hend.out), Hz.out, hbd, Lib.hid (bthen Hbr.out hbi)⟩
            case measure => simp [intOf]
        · have e4 : (x.tmod 16 == 0) = false := by simp [h4]
          have Hend := Lib.hid (show red 2 x0 y0 = (x, y) by rw [← Hred.out]; exact red_no (r := 2) (q := 16) (s := 64) rfl rfl (.inl h4))
          clear h4
          go_wp2
          go_roundw
          case rel => exact ⟨1, _, y, by omega, by go_num, rfl, rfl, Lib.hid (by show red 2 (stS a b e 0).1 (stS a b e 0).2 = _; rw [Hst.out]; exact Hend.out), Hz.out, hbd, Lib.hid (bthen Hbr.out hbi)⟩
          case measure => simp [intOf]
    · go_wp2
      go_loopw [6, 7] (fun sa sb wi => ∃ x y : Int, sa = .int .i64 x ∧ sb = .int .i64 y ∧ ¬ (x = 0 ∧ y = 0) ∧ x.natAbs + y.natAbs ≤ 40000000 ∧ Hid (red 3 x y = red 3 x0 y0) ∧ Below wr.heap.size wr wi) (fun sa sb _ => (intOf sa).natAbs + (intOf sb).natAbs)
      case atStart => exact ⟨x0, y0, rfl, rfl, hz0, hbd0, Lib.hid rfl, Below.refl _ _⟩
      case round =>
        obtain ⟨x, y, rfl, rfl, hz, hbd, Hred, hbi⟩ := hrel
        have hbx : -40000000 ≤ x ∧ x ≤ 40000000 := by omega
        have hby : -40000000 ≤ y ∧ y ≤ 40000000 := by omega
        obtain ⟨hx1, hx2⟩ := hbx; obtain ⟨hy1, hy2⟩ := hby
        have Hz := Lib.hid hz; clear hz
        by_cases h4 : x.tmod 81 = 0
        · have e4 : (x.tmod 81 == 0) = true := by simp [h4]
          by_cases h6 : y.tmod 729 = 0
          · have e6 : (y.tmod 729 == 0) = true := by simp [h6]
            have hgo := red_go (r := 3) (q := 81) (s := 729) (x := x) (y := y) rfl rfl (by omega) Hz.out h4 h6
            obtain ⟨v6, hv6⟩ : ∃ v, y.tdiv 729 = v := ⟨_, rfl⟩
            rw [hv6] at hgo
            have Hv6 := Lib.hid hv6; clear hv6
            obtain ⟨v4, hv4⟩ : ∃ v, x.tdiv 81 = v := ⟨_, rfl⟩
            rw [hv4] at hgo
            have Hv4 := Lib.hid hv4; clear hv4
            have Hgo := Lib.hid hgo; clear hgo
            go_wp2
            go_roundw
            case rel => exact ⟨v4, v6, by rw [Hv4.out], by rw [Hv6.out], Hgo.out.2.1, by have := Hgo.out.2.2; omega, Lib.hid (Hgo.out.1.trans Hred.out), hbi⟩
            case measure => have := Hgo.out.2.2; simp only [intOf, Hv6.out, Hv4.out]; omega
          · have e6 : (y.tmod 729 == 0) = false := by simp [h6]
            have Hend := Lib.hid (show red 3 x0 y0 = (x, y) by rw [← Hred.out]; exact red_no (r := 3) (q := 81) (s := 729) rfl rfl (.inr h6))
            clear h6
            go_wp2
            go_roundw
            case rel => exact ⟨2, _, y, by omega, by go_num, rfl, rfl, Lib.hid (by show red 3 (stS a b e 1).1 (stS a b e 1).2 = _; rw [Hst.out]; exact Hend.out), Hz.out, hbd, Lib.hid (bthen Hbr.out hbi)⟩
            case measure => simp [intOf]
        · have e4 : (x.tmod 81 == 0) = false := by simp [h4]
          have Hend := Lib.hid (show red 3 x0 y0 = (x, y) by rw [← Hred.out]; exact red_no (r := 3) (q := 81) (s := 729) rfl rfl (.inl h4))
          clear h4
          go_wp2
          go_roundw
          case rel => exact ⟨2, _, y, by omega, by go_num, rfl, rfl, Lib.hid (by show red 3 (stS a b e 1).1 (stS a b e 1).2 = _; rw [Hst.out]; exact Hend.out), Hz.out, hbd, Lib.hid (bthen Hbr.out hbi)⟩
          case measure => simp [intOf]
    · go_wp2
      go_loopw [6, 7] (fun sa sb wi => ∃ x y : Int, sa = .int .i64 x ∧ sb = .int .i64 y ∧ ¬ (x = 0 ∧ y = 0) ∧ x.natAbs + y.natAbs ≤ 40000000 ∧ Hid (red 4 x y = red 4 x0 y0) ∧ Below wr.heap.size wr wi) (fun sa sb _ => (intOf sa).natAbs + (intOf sb).natAbs)
      case atStart => exact ⟨x0, y0, rfl, rfl, hz0, hbd0, Lib.hid rfl, Below.refl _ _⟩
      case round =>
        obtain ⟨x, y, rfl, rfl, hz, hbd, Hred, hbi⟩ := hrel
        have hbx : -40000000 ≤ x ∧ x ≤ 40000000 := by omega
        have hby : -40000000 ≤ y ∧ y ≤ 40000000 := by omega
        obtain ⟨hx1, hx2⟩ := hbx; obtain ⟨hy1, hy2⟩ := hby
        have Hz := Lib.hid hz; clear hz
        by_cases h4 : x.tmod 256 = 0
        · have e4 : (x.tmod 256 == 0) = true := by simp [h4]
          by_cases h6 : y.tmod 4096 = 0
          · have e6 : (y.tmod 4096 == 0) = true := by simp [h6]
            have hgo := red_go (r := 4) (q := 256) (s := 4096) (x := x) (y := y) rfl rfl (by omega) Hz.out h4 h6
            obtain ⟨v6, hv6⟩ : ∃ v, y.tdiv 4096 = v := ⟨_, rfl⟩
            rw [hv6] at hgo
            have Hv6 := Lib.hid hv6; clear hv6
            obtain ⟨v4, hv4⟩ : ∃ v, x.tdiv 256 = v := ⟨_, rfl⟩
            rw [hv4] at hgo
            have Hv4 := Lib.hid hv4; clear hv4
            have Hgo := Lib.hid hgo; clear hgo
            go_wp2
            go_roundw
            case rel => exact ⟨v4, v6, by rw [Hv4.out], by rw [Hv6.out], Hgo.out.2.1, by have := Hgo.out.2.2; omega, Lib.hid (Hgo.out.1.trans Hred.out), hbi⟩
            case measure => have := Hgo.out.2.2; simp only [intOf, Hv6.out, Hv4.out]; omega
          · have e6 : (y.tmod 4096 == 0) = false := by simp [h6]
            have Hend := Lib.hid (show red 4 x0 y0 = (x, y) by rw [← Hred.out]; exact red_no (r := 4) (q := 256) (s := 4096) rfl rfl (.inr h6))
            clear h6
            go_wp2
            go_roundw
            case rel => exact ⟨3, _, y, by omega, by go_num, rfl, rfl, Lib.hid (by show red 4 (stS a b e 2).1 (stS a b e 2).2 = _; rw [Hst.out]; exact Hend.out), Hz.out, hbd, Lib.hid (bthen Hbr.out hbi)⟩
            case measure => simp [intOf]
        · have e4 : (x.tmod 256 == 0) = false := by simp [h4]
          have Hend := Lib.hid (show red 4 x0 y0 = (x, y) by rw [← Hred.out]; exact red_no (r := 4) (q := 256) (s := 4096) rfl rfl (.inl h4))
          clear h4
          go_wp2
          go_roundw
          case rel => exact ⟨3, _, y, by omega, by go_num, rfl, rfl, Lib.hid (by show red 4 (stS a b e 2).1 (stS a b e 2).2 = _; rw [Hst.out]; exact Hend.out), Hz.out, hbd, Lib.hid (bthen Hbr.out hbi)⟩
          case measure => simp [intOf]
    · go_wp2
      go_loopw [6, 7] (fun sa sb wi => ∃ x y : Int, sa = .int .i64 x ∧ sb = .int .i64 y ∧ ¬ (x = 0 ∧ y = 0) ∧ x.natAbs + y.natAbs ≤ 40000000 ∧ Hid (red 5 x y = red 5 x0 y0) ∧ Below wr.heap.size wr wi) (fun sa sb _ => (intOf sa).natAbs + (intOf sb).natAbs)
      case atStart => exact ⟨x0, y0, rfl, rfl, hz0, hbd0, Lib.hid rfl, Below.refl _ _⟩
      case round =>
        obtain ⟨x, y, rfl, rfl, hz, hbd, Hred, hbi⟩ := hrel
        have hbx : -40000000 ≤ x ∧ x ≤ 40000000 := by omega
        have hby : -40000000 ≤ y ∧ y ≤ 40000000 := by omega
        obtain ⟨hx1, hx2⟩ := hbx; obtain ⟨hy1, hy2⟩ := hby
        have Hz := Lib.hid hz; clear hz
        by_cases h4 : x.tmod 625 = 0
        · have e4 : (x.tmod 625 == 0) = true := by simp [h4]
          by_cases h6 : y.tmod 15625 = 0
          · have e6 : (y.tmod 15625 == 0) = true := by simp [h6]
            have hgo := red_go (r := 5) (q := 625) (s := 15625) (x := x) (y := y) rfl rfl (by omega) Hz.out h4 h6
            obtain ⟨v6, hv6⟩ : ∃ v, y.tdiv 15625 = v := ⟨_, rfl⟩
            rw [hv6] at hgo
            have Hv6 := Lib.hid hv6; clear hv6
            obtain ⟨v4, hv4⟩ : ∃ v, x.tdiv 625 = v := ⟨_, rfl⟩
            rw [hv4] at hgo
            have Hv4 := Lib.hid hv4; clear hv4
            have Hgo := Lib.hid hgo; clear hgo
            go_wp2
            go_roundw
            case rel => exact ⟨v4, v6, by rw [Hv4.out], by rw [Hv6.out], Hgo.out.2.1, by have := Hgo.out.2.2; omega, Lib.hid (Hgo.out.1.trans Hred.out), hbi⟩
            case measure => have := Hgo.out.2.2; simp only [intOf, Hv6.out, Hv4.out]; omega
          · have e6 : (y.tmod 15625 == 0) = false := by simp [h6]
            have Hend := Lib.hid (show red 5 x0 y0 = (x, y) by rw [← Hred.out]; exact red_no (r := 5) (q := 625) (s := 15625) rfl rfl (.inr h6))
            clear h6
            go_wp2
            go_roundw
            case rel => exact ⟨4, _, y, by omega, by go_num, rfl, rfl, Lib.hid (by show red 5 (stS a b e 3).1 (stS a b e 3).2 = _; rw [Hst.out]; exact Hend.out), Hz.out, hbd, Lib.hid (bthen Hbr.out hbi)⟩
            case measure => simp [intOf]
        · have e4 : (x.tmod 625 == 0) = false := by simp [h4]
          have Hend := Lib.hid (show red 5 x0 y0 = (x, y) by rw [← Hred.out]; exact red_no (r := 5) (q := 625) (s := 15625) rfl rfl (.inl h4))
          clear h4
          go_wp2
          go_roundw
          case rel => exact ⟨4, _, y, by omega, by go_num, rfl, rfl, Lib.hid (by show red 5 (stS a b e 3).1 (stS a b e 3).2 = _; rw [Hst.out]; exact Hend.out), Hz.out, hbd, Lib.hid (bthen Hbr.out hbi)⟩
          case measure => simp [intOf]
    · have HRr := HR2.out.on Hbr.out
      have Hfin := Lib.hid (show nbR a b e = (x0, y0) by rw [← stS_end Hc.out Hev.out]; exact Hst.out)
      clear hz0 Hst
      have Hbw := Lib.hid (bal (bthen HbL.out Hbr.out) (Obj.cells #[.int .i64 x0, .int .i64 y0] 37))
      have HO := Lib.hid (Blk.new wr 37 #[.int .i64 x0, .int .i64 y0])
      have HRo := Lib.hid (HRr.alloc (Obj.cells #[.int .i64 x0, .int .i64 y0] 37))
      clear HRr Hbr
      go_wp2_with fail
      refine (ecGood_any x0 y0 _).mono ?_
      rintro r w4 ⟨rfl, hb4⟩
      have HR4 := Lib.hid (HRo.out.on hb4)
      have HO4 := Lib.hid (HO.out.on hb4)
      have Hb4 := Lib.hid (bthen Hbw.out hb4)
      clear hb4
      have r0 : w4.cell? ⟨w.heap.size + 1, 0, none⟩ = some (.int .i64 0) := HR4.out.cell 0
      have r1 : w4.cell? ⟨w.heap.size + 1, 1, none⟩ = some (.int .i64 0) := HR4.out.cell 1
      have rl := HR4.out.lt
      have f0 := HR4.out.frozen 0
      have f1 := HR4.out.frozen 1
      have o0 : w4.cell? ⟨wr.heap.size, 0, none⟩ = some (.int .i64 x0) := HO4.out.cell 0
      have o1 : w4.cell? ⟨wr.heap.size, 1, none⟩ = some (.int .i64 y0) := HO4.out.cell 1
      have ol := HO4.out.lt
      have Hnb := Lib.hid (show nbV a b e = cuO x0 y0 by unfold nbV cuO; rw [Hfin.out])
      have HB0 := Lib.hid (bst (bst Hb4.out (p := ⟨w.heap.size + 1, 0, none⟩) (by simp) (.int .i64 0)) (p := ⟨w.heap.size + 1, 1, none⟩) (by simp) (.int .i64 0))
      have HB1 := Lib.hid (bst (bst Hb4.out (p := ⟨w.heap.size + 1, 0, none⟩) (by simp) (.int .i64 x0)) (p := ⟨w.heap.size + 1, 1, none⟩) (by simp) (.int .i64 y0))
      cases hcv : curveB x0 y0
      · have Ho := Lib.hid (show cuO x0 y0 = none by unfold cuO; rw [if_neg (by rw [hcv]; exact Bool.false_ne_true)])
        clear hcv
        go_wp2
        clear r0 r1 f0 f1 rl
        have HR5 := HR4.out.set2 (b0 := .int .i64 0) (b1 := .int .i64 0)
        have r0 := HR5.cell 0
        have r1 := HR5.cell 1
        simp at r0 r1
        exact bodyPost_ret (v := .tuple #[.agg #[.int .i64 0, .int .i64 0], .bool false]) (by simp [results, Try.results65, go_sem, r0, r1]) rfl ⟨by rw [Hnb.out, Ho.out]; rfl, HB0.out⟩
      · have Ho := Lib.hid (show cuO x0 y0 = some ⟨x0, y0⟩ by unfold cuO; rw [if_pos hcv])
        clear hcv
        go_wp2
        clear r0 r1 f0 f1 rl
        have HR5 := HR4.out.set2 (b0 := .int .i64 x0) (b1 := .int .i64 y0)
        have r0 := HR5.cell 0
        have r1 := HR5.cell 1
        simp at r0 r1
        exact bodyPost_ret (v := .tuple #[.agg #[.int .i64 x0, .int .i64 y0], .bool true]) (by simp [results, Try.results65, go_sem, r0, r1]) rfl ⟨by rw [Hnb.out, Ho.out]; rfl, HB1.out⟩
end Go.Proofs.Ytnhgdmhiblpknaa
