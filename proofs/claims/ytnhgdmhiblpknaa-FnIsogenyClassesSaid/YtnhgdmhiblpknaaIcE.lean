/- The pairs of a list of curves that are neighbours: the walks of both sides. Conditions: none. Printed by gen_ice.py. -/
import Derived.Test.YtnhgdmhiblpknaaIcW
import Derived.Test.YtnhgdmhiblpknaaNest
namespace Go.Proofs.Ytnhgdmhiblpknaa
open Go Go.RowKit

theorem infoSlI : (Try.prog.info? 43).map (fun i => (i.zero, i.size, i.bytes)) = some (some (.slice none 0 0), 1, 24) := by kernel_rfl
def NRetI (base : Nat) (V : List (List Int) × Bool) (r : Ending) (w' : World) : Prop := ∃ v' vs, r = .returned (.tuple #[v', .bool V.2]) ∧ NOwn w' 43 3 base w'.heap.size v' vs (cellsII V.1)
theorem lenII (ess : List (List Int)) : (cellsII ess).length = ess.length := by simp [cellsII]
theorem edges_no {L : List Cu} (h : edB L = false) : edgesV L = ([], false) := by unfold edgesV; rw [h]; rfl
theorem edges_yes {L : List Cu} (h : edB L = true) : edgesV L = (edTo L L.length, true) := by unfold edgesV; rw [h]; rfl
theorem edB_long {L : List Cu} (h : 8 < L.length) : edB L = false := by unfold edB; rw [decide_eq_false (by omega), Bool.false_and]
theorem edB_ok {L : List Cu} {k : Nat} (hk : k < L.length) (h : edOk L k = false) : edB L = false := by
  unfold edB
  have : (List.range L.length).all (edOk L) = false := by rw [List.all_eq_false]; exact ⟨k, List.mem_range.2 hk, by simp [h]⟩
  rw [this, Bool.false_and, Bool.and_false]
theorem edB_al {L : List Cu} {k : Nat} (hk : k < L.length) (h : (alC (cuS.get L k)).2 = false) : edB L = false := by
  unfold edB
  have : (List.range L.length).all (fun k => (alC (cuS.get L k)).2) = false := by rw [List.all_eq_false]; exact ⟨k, List.mem_range.2 hk, by simp [h]⟩
  rw [this, Bool.and_false, Bool.and_false]
theorem edB_yes {L : List Cu} (hl : L.length ≤ 8) (h1 : ∀ j, j < L.length → edOk L j = true) (h2 : ∀ j, j < L.length → (alC (cuS.get L j)).2 = true) : edB L = true := by
  unfold edB
  have e1 : (List.range L.length).all (edOk L) = true := by rw [List.all_eq_true]; exact fun k hk => h1 k (List.mem_range.1 hk)
  have e2 : (List.range L.length).all (fun k => (alC (cuS.get L k)).2) = true := by rw [List.all_eq_true]; exact fun k hk => h2 k (List.mem_range.1 hk)
  rw [e1, e2, decide_eq_true hl]; rfl
theorem edOk_parts (L : List Cu) (k : Nat) : edOk L k = (curveB (cuS.get L k).a (cuS.get L k).b && ((k == 0 || decide (cmpC (cuS.get L (k - 1)).a (cuS.get L (k - 1)).b (cuS.get L k).a (cuS.get L k).b < 0)) && decide (smU (cuS.get L k).a (cuS.get L k).b = 1))) := rfl
theorem edOk_cv {L : List Cu} {k : Nat} (h : edOk L k = true) : curveB (cuS.get L k).a (cuS.get L k).b = true := by
  rw [edOk_parts] at h
  simp only [Bool.and_eq_true] at h
  exact h.1
/-- A model that is its own smallest one. -/
theorem sm_self {a b : Int} (h : curveB a b = true) : ((smC a b).a == a && (smC a b).b == b) = decide (smU a b = 1) := by
  by_cases h1 : smU a b = 1
  · have e4 : p4 1 = 1 := rfl
    have e6 : p6 1 = 1 := rfl
    rw [decide_eq_true h1]
    unfold smC
    rw [h1, e4, e6]
    simp
  · rw [decide_eq_false h1]
    have hu := smU_bd a b
    have hd := smU_dv a b
    unfold dvU at hd
    rw [decide_eq_true_eq] at hd
    have hc : 2 ≤ smU a b ∧ ¬ (a = 0 ∧ b = 0) ∧ p4 (smU a b) ∣ a ∧ p6 (smU a b) ∣ b := ⟨by omega, curveB_nz h, hd.1, hd.2⟩
    have hlt := red_dec hc
    unfold smC
    rw [Bool.eq_false_iff]
    intro hh
    simp only [Bool.and_eq_true, beq_iff_eq] at hh
    rw [hh.1, hh.2] at hlt
    omega
theorem own_apartI {u v : Value} (H : ∀ k, v.ownBlock = some k → u.ownBlock = some k → False) : v.ownBlock = none ∨ v.ownBlock ≠ u.ownBlock := own_ne H
theorem cvI_lit {a b : Int} {q : Bool} (h : curveB a b = q) (w : World) : Calls Try.prog 36 #[.agg #[.int .i64 a, .int .i64 b]] w fun e w' => e = .returned (.bool q) ∧ Below w.heap.size w w' := by subst h; exact isCurve_any a b w
theorem cvS_lit {a b : Int} {q : Bool} (h : curveB a b = q) (w : World) : Calls Try.prog 30 #[.agg #[.int .i64 a, .int .i64 b]] w fun e w' => e = .returned (.bool q) ∧ Below w.heap.size w w' := by subst h; exact ecGood_any a b w
theorem cmpI_lit {a b c d : Int} {q : Int} (h : cmpC a b c d = q) (w : World) : Calls Try.prog 37 #[.agg #[.int .i64 a, .int .i64 b], .agg #[.int .i64 c, .int .i64 d]] w fun e w' => e = .returned (.int .i64 q) ∧ Below w.heap.size w w' := by subst h; exact compareCurves_any a b c d w
theorem befS_lit {a b c d : Int} {q : Int} (h : cmpC a b c d = q) (w : World) : Calls Try.prog 31 #[.agg #[.int .i64 a, .int .i64 b], .agg #[.int .i64 c, .int .i64 d]] w fun e w' => e = .returned (.bool (decide (q < 0))) ∧ Below w.heap.size w w' := by subst h; exact icBefore_any a b c d w
set_option maxRecDepth 8000 in
set_option maxHeartbeats 16000000 in
theorem edgesI_any (v : Value) (L : List Cu) (w : World) (h : Rd cuS w w.heap.size v L) :
    Calls Try.prog 8 #[v] w fun r w' => NRetI w.heap.size (edgesV L) r w' ∧ Below w.heap.size w w' := by
  obtain ⟨i0, hi, hz0, hz1, hz2⟩ := info_parts infoSlI
  have Hr := Lib.hid h
  obtain ⟨A, c, rfl, hcc, hm, hA⟩ := h
  unfold maxLen at hm
  have hql := eqlCuI
  have hqn := neqCuI
  go_enter Try.func8, Try.ntmps8
  by_cases hl8 : L.length ≤ 8
  · have hl9 : ¬ (8 : Int) < (L.length : Int) := by omega
    have hl9d : decide ((8 : Int) < (L.length : Int)) = false := decide_eq_false hl9
    go_wp2
    go_loopw [19] (fun i wr => ∃ k : Nat, k ≤ L.length ∧ i = .int .i64 k ∧ Hid (∀ j, j < k → edOk L j = true) ∧ Hid (Below w.heap.size w wr)) (fun i _ => L.length - (intOf i).toNat)
    case atStart => exact ⟨0, Nat.zero_le _, rfl, Lib.hid (fun j hj => absurd hj (Nat.not_lt_zero _)), Lib.hid (Below.refl _ _)⟩
    case round =>
      obtain ⟨k, hk, rfl, Hok, Hb⟩ := hrel
      by_cases hlt : k < L.length
      · obtain ⟨g, off, rfl, hg, hcell⟩ := hA (by omega)
        have Hcell := Lib.hid (cu_cells hcell); clear hcell hA
        obtain ⟨f0, f1⟩ := Hcell.out k hlt
        rw [← Hb.out.cell (p := ⟨_, _, _⟩) hg] at f0 f1
        have hgr : g < wr.heap.size := Nat.lt_of_lt_of_le hg Hb.out.size
        have hgr1 : g < wr.heap.size + 1 := Nat.lt_succ_of_lt hgr
        have hi0 : (0 : Int) ≤ (k : Int) := by omega
        have hi1 : (k : Int) < (L.length : Int) := by omega
        have Hp := Lib.hid (edOk_parts L k)
        obtain ⟨x, hx⟩ : ∃ x, cuS.get L k = x := ⟨_, rfl⟩
        rw [hx] at f0 f1 Hp
        have Hx := Lib.hid hx; clear hx
        have HbX := Lib.hid (bal Hb.out (Obj.cells #[.int .i64 x.a, .int .i64 x.b] 37))
        have HBX := Lib.hid (Blk.new wr 37 #[.int .i64 x.a, .int .i64 x.b])
        cases hcv : curveB x.a x.b
        · have Hbad := Lib.hid (show edOk L k = false by rw [Hp.out, hcv]; rfl)
          go_wp2
          refine wp_region_tame (by kernel_rfl) (by kernel_rfl) (fun T _ W hT => ?_)
          have hxx := hT.cell
          repeat (go_big_quiet_step ((go_at_call 36; exact hT.call (cvI_lit hcv _))))
          refine wpQuiet_nil ?_
          intro t
          clear hxx
          go_wp2
          go_ret2
          exact ⟨⟨_, [], by rw [edges_no (edB_ok hlt Hbad.out)]; rfl, by rw [edges_no (edB_ok hlt Hbad.out)]; exact NOwn.nil _ _ _ _ _⟩, bthen HbX.out (hT.below t)⟩
        · rcases Nat.eq_zero_or_pos k with hk0 | hk0
          · have hd0 : decide (0 < k) = false := by simp; omega
            have hd0i : decide ((0 : Int) < (k : Int)) = false := decide_eq_false (by omega)
            have Hq := Lib.hid (show edOk L k = decide (smU x.a x.b = 1) by rw [Hp.out, hcv, hk0]; rfl)
            clear hk0 Hp
            go_wp2
            refine wp_region_tame (by kernel_rfl) (by kernel_rfl) (fun T _ W hT => ?_)
            have hxx := hT.cell
            repeat (go_big_quiet_step ((go_at_call 36; exact hT.call (cvI_lit hcv _))))
            refine wpQuiet_nil ?_
            intro t
            clear hxx
            have HbT := Lib.hid (bthen HbX.out (hT.below t))
            have HBT := Lib.hid (HBX.out.on (hT.below t))
            generalize W t = wt at HbT HBT ⊢
            clear hT f0 f1 hgr hgr1
            have q0 : wt.cell? ⟨wr.heap.size, 0, none⟩ = some (.int .i64 x.a) := HBT.out.cell 0
            have q1 : wt.cell? ⟨wr.heap.size, 1, none⟩ = some (.int .i64 x.b) := HBT.out.cell 1
            have ql := HBT.out.lt
            go_wp2_with fail
            refine (smallest_any x.a x.b _ hcv).mono ?_; rintro e w3 ⟨rfl, hb3⟩
            have Hb3 := Lib.hid (bthen HbT.out hb3)
            have HB3 := Lib.hid (HBT.out.on hb3)
            clear hb3 q0 q1 ql
            have Hsm := Lib.hid (sm_self hcv)
            have HbM := Lib.hid (bal Hb3.out (Obj.cells #[.int .i64 (smC x.a x.b).a, .int .i64 (smC x.a x.b).b] 37))
            have q0 : w3.cell? ⟨wr.heap.size, 0, none⟩ = some (.int .i64 x.a) := HB3.out.cell 0
            have q1 : w3.cell? ⟨wr.heap.size, 1, none⟩ = some (.int .i64 x.b) := HB3.out.cell 1
            have ql := HB3.out.lt
            have hub := smU_bd x.a x.b
            obtain ⟨s4, hs4⟩ : ∃ s, (smC x.a x.b).a = s := ⟨_, rfl⟩
            obtain ⟨s6, hs6⟩ : ∃ s, (smC x.a x.b).b = s := ⟨_, rfl⟩
            obtain ⟨u, hu⟩ : ∃ u, smU x.a x.b = u := ⟨_, rfl⟩
            rw [hs4, hs6, hu] at Hsm
            rw [hs4, hs6] at HbM
            rw [hs4, hs6, hu]
            rw [hu] at hub Hq
            clear hs4 hs6 hu hcv
            by_cases hu1 : u = 1
            · have hd : (s4 == x.a && s6 == x.b) = true := by rw [Hsm.out]; exact decide_eq_true hu1
              have Hgood := Lib.hid (show edOk L k = true by rw [Hq.out]; exact decide_eq_true hu1)
              clear hu1 Hsm hub
              go_wp2
              go_roundw
              case rel => exact ⟨k + 1, by omega, by go_num, Lib.hid (all_lt_succ (p := fun j => edOk L j = true) Hok.out Hgood.out), HbM⟩
              case measure => simp [intOf]; omega
            · have hd : (s4 == x.a && s6 == x.b) = false := by rw [Hsm.out]; exact decide_eq_false hu1
              have Hbad := Lib.hid (show edOk L k = false by rw [Hq.out]; exact decide_eq_false hu1)
              clear hu1 Hsm hub
              go_wp2
              go_ret2
              exact ⟨⟨_, [], by rw [edges_no (edB_ok hlt Hbad.out)]; rfl, by rw [edges_no (edB_ok hlt Hbad.out)]; exact NOwn.nil _ _ _ _ _⟩, HbM.out⟩
          · obtain ⟨m, rfl⟩ : ∃ m, k = m + 1 := ⟨k - 1, by omega⟩
            obtain ⟨p0, p1⟩ := Hcell.out m (by omega)
            rw [← Hb.out.cell (p := ⟨_, _, _⟩) hg] at p0 p1
            rw [Nat.add_sub_cancel] at Hp
            obtain ⟨y, hy⟩ : ∃ y, cuS.get L m = y := ⟨_, rfl⟩
            rw [hy] at p0 p1 Hp
            clear hy
            have hd2 : decide ((0 : Int) < (m : Int) + 1) = true := by rw [decide_eq_true_eq]; omega
            have hi2 : (0 : Int) ≤ (m : Int) + 1 - 1 := by omega
            obtain ⟨q, hcm⟩ : ∃ q, cmpC y.a y.b x.a x.b = q := ⟨_, rfl⟩
            rw [hcm] at Hp
            by_cases hq0 : q < 0
            · have Hq := Lib.hid (show edOk L (m + 1) = decide (smU x.a x.b = 1) by rw [Hp.out, hcv, decide_eq_true hq0]; simp)
              have hc1 : decide (0 ≤ q) = false := decide_eq_false (by omega)
              clear hq0 Hp hk0
              go_wp2
              refine wp_region_tame (by kernel_rfl) (by kernel_rfl) (fun T _ W hT => ?_)
              have hxx := hT.cell
              repeat (go_big_quiet_step ((first | (go_at_call 36; exact hT.call (cvI_lit hcv _)) | (go_at_call 37; exact hT.call (cmpI_lit hcm _)))))
              refine wpQuiet_nil ?_
              intro t
              clear hxx
              clear p0 p1 hcm hc1 hd2 hi2
              have HbT := Lib.hid (bthen HbX.out (hT.below t))
              have HBT := Lib.hid (HBX.out.on (hT.below t))
              generalize W t = wt at HbT HBT ⊢
              clear hT f0 f1 hgr hgr1
              have q0 : wt.cell? ⟨wr.heap.size, 0, none⟩ = some (.int .i64 x.a) := HBT.out.cell 0
              have q1 : wt.cell? ⟨wr.heap.size, 1, none⟩ = some (.int .i64 x.b) := HBT.out.cell 1
              have ql := HBT.out.lt
              go_wp2_with fail
              refine (smallest_any x.a x.b _ hcv).mono ?_; rintro e w3 ⟨rfl, hb3⟩
              have Hb3 := Lib.hid (bthen HbT.out hb3)
              have HB3 := Lib.hid (HBT.out.on hb3)
              clear hb3 q0 q1 ql
              have Hsm := Lib.hid (sm_self hcv)
              have HbM := Lib.hid (bal Hb3.out (Obj.cells #[.int .i64 (smC x.a x.b).a, .int .i64 (smC x.a x.b).b] 37))
              have q0 : w3.cell? ⟨wr.heap.size, 0, none⟩ = some (.int .i64 x.a) := HB3.out.cell 0
              have q1 : w3.cell? ⟨wr.heap.size, 1, none⟩ = some (.int .i64 x.b) := HB3.out.cell 1
              have ql := HB3.out.lt
              have hub := smU_bd x.a x.b
              obtain ⟨s4, hs4⟩ : ∃ s, (smC x.a x.b).a = s := ⟨_, rfl⟩
              obtain ⟨s6, hs6⟩ : ∃ s, (smC x.a x.b).b = s := ⟨_, rfl⟩
              obtain ⟨u, hu⟩ : ∃ u, smU x.a x.b = u := ⟨_, rfl⟩
              rw [hs4, hs6, hu] at Hsm
              rw [hs4, hs6] at HbM
              rw [hs4, hs6, hu]
              rw [hu] at hub Hq
              clear hs4 hs6 hu hcv
              by_cases hu1 : u = 1
              · have hd : (s4 == x.a && s6 == x.b) = true := by rw [Hsm.out]; exact decide_eq_true hu1
                have Hgood := Lib.hid (show edOk L (m + 1) = true by rw [Hq.out]; exact decide_eq_true hu1)
                clear hu1 Hsm hub
                go_wp2
                go_roundw
                case rel => exact ⟨(m + 1) + 1, by omega, by go_num, Lib.hid (all_lt_succ (p := fun j => edOk L j = true) Hok.out Hgood.out), HbM⟩
                case measure => simp [intOf]; omega
              · have hd : (s4 == x.a && s6 == x.b) = false := by rw [Hsm.out]; exact decide_eq_false hu1
                have Hbad := Lib.hid (show edOk L (m + 1) = false by rw [Hq.out]; exact decide_eq_false hu1)
                clear hu1 Hsm hub
                go_wp2
                go_ret2
                exact ⟨⟨_, [], by rw [edges_no (edB_ok hlt Hbad.out)]; rfl, by rw [edges_no (edB_ok hlt Hbad.out)]; exact NOwn.nil _ _ _ _ _⟩, HbM.out⟩
            · have Hbad := Lib.hid (show edOk L (m + 1) = false by rw [Hp.out, hcv, decide_eq_false hq0]; simp)
              have hc1 : decide (0 ≤ q) = true := decide_eq_true (by omega)
              clear hq0 Hp hk0
              go_wp2
              refine wp_region_tame (by kernel_rfl) (by kernel_rfl) (fun T _ W hT => ?_)
              have hxx := hT.cell
              repeat (go_big_quiet_step ((first | (go_at_call 36; exact hT.call (cvI_lit hcv _)) | (go_at_call 37; exact hT.call (cmpI_lit hcm _)))))
              refine wpQuiet_nil ?_
              intro t
              clear hxx
              go_wp2
              go_ret2
              exact ⟨⟨_, [], by rw [edges_no (edB_ok hlt Hbad.out)]; rfl, by rw [edges_no (edB_ok hlt Hbad.out)]; exact NOwn.nil _ _ _ _ _⟩, bthen HbX.out (hT.below t)⟩
      · obtain rfl : k = L.length := by omega
        have HOK := Lib.hid Hok.out; clear Hok hlt
        have HbP := Lib.hid Hb.out; clear Hb
        generalize wr = wp at HbP ⊢
        go_wp2
        go_loopw [52, 8] (fun i o wr => ∃ (k : Nat) (vs : List Value), k ≤ L.length ∧ i = .int .i64 k ∧ Hid (∀ j, j < k → (alC (cuS.get L j)).2 = true) ∧ Hid (NOwn wr 43 3 wp.heap.size wr.heap.size o vs (cellsII (edTo L k))) ∧ Hid (Below wp.heap.size wp wr)) (fun i _ _ => L.length - (intOf i).toNat)
        case atStart => exact ⟨0, [], Nat.zero_le _, rfl, Lib.hid (fun j hj => absurd hj (Nat.not_lt_zero _)), Lib.hid (NOwn.nil _ _ _ _ _), Lib.hid (Below.refl _ _)⟩
        case round =>
          obtain ⟨k, vs, hk, rfl, Hal, Hn, Hb2⟩ := hrel
          have Hb := Lib.hid (bthen HbP.out Hb2.out)
          by_cases hlt : k < L.length
          · obtain ⟨g, off, rfl, hg, hcell⟩ := hA (by omega)
            have Hcell := Lib.hid (cu_cells hcell); clear hcell hA
            obtain ⟨f0, f1⟩ := Hcell.out k hlt
            rw [← Hb.out.cell (p := ⟨_, _, _⟩) hg] at f0 f1
            have hgr : g < wr.heap.size := Nat.lt_of_lt_of_le hg Hb.out.size
            have hi0 : (0 : Int) ≤ (k : Int) := by omega
            have hi1 : (k : Int) < (L.length : Int) := by omega
            have hcv := edOk_cv (HOK.out k hlt)
            have Hstep := Lib.hid (fun hne => all_lt_succ (p := fun j => (alC (cuS.get L j)).2 = true) Hal.out hne)
            have Hbadk := Lib.hid (fun h => edB_al hlt h)
            have Hyes := Lib.hid (fun n (h1 : k < n) (h2 : cuS.get L n ∈ (alC (cuS.get L k)).1) => edAt_yes h1 h2)
            have Hno := Lib.hid (fun n (h2 : ¬ cuS.get L n ∈ (alC (cuS.get L k)).1) => edAt_no (i := k) (n := n) h2)
            obtain ⟨x, hx⟩ : ∃ x, cuS.get L k = x := ⟨_, rfl⟩
            rw [hx] at f0 f1 hcv Hstep Hbadk Hyes Hno
            clear hx
            have HbX := Lib.hid (bal (Below.refl wr.heap.size wr) (Obj.cells #[.int .i64 x.a, .int .i64 x.b] 37))
            go_wp2_with fail
            refine (twoNb_any x.a x.b _ hcv).mono ?_; rintro e w3 ⟨⟨v3, rfl, hown3⟩, hb3⟩
            have HbY := Lib.hid (bthen HbX.out hb3)
            have hal : alC x = allV x.a x.b := rfl
            rw [hal] at Hstep Hbadk Hyes Hno
            have hlen3 := allV_len x.a x.b
            obtain ⟨l3, ok, hlo⟩ : ∃ l b, allV x.a x.b = (l, b) := ⟨_, _, rfl⟩
            rw [hlo] at hown3 Hstep Hbadk Hyes Hno hlen3
            rw [hlo]
            clear hlo hal hcv f0 f1 hgr
            obtain ⟨A3, c3, rfl⟩ := own_formI hown3
            have Hown3 := Lib.hid (own_mono hown3 (show wr.heap.size ≤ _ by simp))
            have G3 := Lib.hid (World.ownsRow.lt Hown3.out)
            clear hown3 hb3
            have HbZ := Lib.hid (bthen Hb2.out HbY.out)
            have Hn3 := Lib.hid (Hn.out.on HbY.out)
            cases ok
            · have Hbad := Lib.hid (Hbadk.out rfl); clear Hbadk Hstep
              go_wp2
              go_ret2
              exact ⟨⟨_, [], by rw [edges_no (Hbad.out)]; rfl, by rw [edges_no (Hbad.out)]; exact NOwn.nil _ _ _ _ _⟩, bthen HbP.out HbZ.out⟩
            · have Hst := Lib.hid (Hstep.out rfl); clear Hstep Hbadk
              go_wp2
              go_loopw [13, 8] (fun i o wi => ∃ (n : Nat) (vs : List Value), k + 1 ≤ n ∧ n ≤ L.length ∧ i = .int .i64 n ∧ Hid (NOwn wi 43 3 wp.heap.size wi.heap.size o vs (cellsII (edTo L k ++ edAt L k n))) ∧ Hid (wi.ownsRow wr.heap.size 37 2 (.slice A3 l3.length c3) l3.length (cuS.flat l3)) ∧ Hid (∀ g, (Value.slice A3 l3.length c3).ownBlock = some g → o.ownBlock ≠ some g) ∧ Hid (w3.heap.size ≤ wi.heap.size) ∧ Hid (Below wp.heap.size wp wi)) (fun i _ _ => L.length - (intOf i).toNat)
              case atStart => exact ⟨k + 1, vs, Nat.le_refl _, by omega, by go_num, Lib.hid (by rw [edAt_low L k (k + 1) (Nat.le_refl _), List.append_nil]; exact Hn3.out.more HbY.out.size), Hown3, Lib.hid (fun g h1 h2 => by have a1 := (G3.out g h1).1; have a2 := Hn.out.vhi g h2; omega), Lib.hid (Nat.le_refl _), HbZ⟩
              case round =>
                obtain ⟨n, vs, hn1, hn2, rfl, Hn, Hown, Hap, Hsz, Hbi⟩ := hrel
                by_cases hltn : n < L.length
                · have Hbw := Lib.hid (bthen HbP.out Hbi.out)
                  obtain ⟨f0, f1⟩ := Hcell.out n hltn
                  rw [← Hbw.out.cell (p := ⟨_, _, _⟩) hg] at f0 f1
                  have hgr : g < wr.heap.size := Nat.lt_of_lt_of_le hg Hbw.out.size
                  have hj0 : (0 : Int) ≤ (n : Int) := by omega
                  have hj1 : (n : Int) < (L.length : Int) := by omega
                  have Hy := Lib.hid (Hyes.out n (by omega))
                  have Hno2 := Lib.hid (Hno.out n)
                  obtain ⟨z, hz⟩ : ∃ z, cuS.get L n = z := ⟨_, rfl⟩
                  rw [hz] at f0 f1 Hy Hno2
                  clear hz
                  have HRd := Lib.hid (Rd.of_own (S := cuS) Hown.out rfl)
                  go_wp2_with fail
                  refine (containsCu_any _ l3 z _ HRd.out).mono ?_; rintro e w5 ⟨rfl, hb5⟩
                  have Hn5 := Lib.hid (Hn.out.on hb5)
                  have Hown5 := Lib.hid (own_below Hown.out hb5)
                  have Hb5 := Lib.hid (bthen Hbi.out hb5)
                  have Hsz5 := Lib.hid (Nat.le_trans Hsz.out hb5.size)
                  have Hgr5 := Lib.hid hb5.size
                  have Hn5b := Lib.hid (Hn5.out.more hb5.size)
                  clear hb5 f0 f1 hgr HRd
                  have Hel := Lib.hid (edTo_len L k)
                  have Hal2 := Lib.hid (edAt_len L k n)
                  by_cases hm : z ∈ l3
                  · have hd : decide (z ∈ l3) = true := decide_eq_true hm
                    have Hadd := Lib.hid (Hy.out hm); clear hm Hy Hno2
                    have hlen : (edTo L k ++ edAt L k n).length ≤ 80 := by have h1 := Hel.out; have h2 := Hal2.out; rw [List.length_append]; have : k * L.length ≤ 8 * 8 := Nat.mul_le_mul (by omega) (by omega); omega
                    have Hlen := Lib.hid hlen; clear hlen
                    have Hout := Lib.hid Hn5.out.out
                    have hszw : wp.heap.size ≤ w5.heap.size := Hb5.out.size
                    go_wp2_with (at_builtin; refine wpList_append_own_at _ rfl _ _ 24 rfl wp.heap.size 43 i0 (.slice none 0 0) 1 24 Try.underlying24 hi hz0 hz1 hz2 rfl (by decide) _ _ _ rfl ((Hout.out.alloc _).alloc _) ⟨w5.heap.size + 1, 0, none⟩ 1 1 [.slice (some ⟨w5.heap.size, 0, none⟩) 2 2] rfl rfl ?c1 ?c2 ?c3 ?c4 ?c5 ?_)
                    try
                      case c1 =>
                        intro j u hj
                        match j, hj with
                        | 0, hj => simp at hj; subst hj; exact (Blk.new1 w5 _ _ _).cell 0
                    case c2 => first | rfl | (intro u hu; simp at hu; subst hu; rfl)
                    case c3 => have := Hlen.out; rw [lenII]; unfold maxLen; omega
                    case c4 => have := Hlen.out; rw [lenII]; omega
                    case c5 => first | omega | (simp; omega)
                    intro v8 w8 hown8 hg8 _ hat8
                    have hbA := bal (bal (Below.refl w5.heap.size w5) (Obj.cells #[.int .i64 (k : Int), .int .i64 (n : Int)] 3)) (Obj.cells #[.slice (some ⟨w5.heap.size, 0, none⟩) 2 2] 43)
                    have hin : ((w5.alloc (Obj.cells #[.int .i64 (k : Int), .int .i64 (n : Int)] 3)).alloc (Obj.cells #[.slice (some ⟨w5.heap.size, 0, none⟩) 2 2] 43)).ownsRow wp.heap.size 3 1 (.slice (some ⟨w5.heap.size, 0, none⟩) 2 2) [Value.int .i64 (k : Int), Value.int .i64 (n : Int)].length [Value.int .i64 (k : Int), Value.int .i64 (n : Int)] := (World.ownsRow_lit w5 #[.int .i64 (k : Int), .int .i64 (n : Int)] 2 hszw (by unfold maxLen; omega) (by simp)).alloc _
                    have Hn8 := Lib.hid (NOwn.snoc (Hn5b.out.on hbA) hg8 hown8 (by simpa only [World.size_alloc] using hat8) hin (fun g hg => by simp [Value.ownBlock] at hg; subst hg; constructor <;> (simp; try omega)) (by simp; omega))
                    have Hb8 := Lib.hid (show Below wp.heap.size wp w8 from Below.grown ((Hb5.out.alloc hszw _).alloc (by simp; omega) _) hg8 (by simp; omega) (fun j hj => (Hout.out.lt j hj).1))
                    have Hown8 := Lib.hid (World.ownsRow.kept (own_below Hown5.out hbA) hg8 (own_apartI (fun g h1 h2 => Hap.out g h1 h2)))
                    have Hap8 := Lib.hid (show ∀ g, (Value.slice A3 l3.length c3).ownBlock = some g → v8.ownBlock ≠ some g from fun g h1 h2 => hat8.elim (fun h3 => by rw [h3] at h2; exact Hap.out g h1 h2) (fun h3 => by rw [h3] at h2; have a1 := (G3.out g h1).2; have a2 := Hsz5.out; simp at h2; omega))
                    have Hsz8 := Lib.hid (show w3.heap.size ≤ w8.heap.size by have a1 := hg8.size; have a2 := Hsz5.out; simp at a1; omega)
                    clear hown8 hg8 hat8 hin hbA
                    go_wp2
                    go_roundw
                    case rel => exact ⟨n + 1, _, by omega, by omega, by go_num, Lib.hid (by rw [Hadd.out, ← List.append_assoc]; unfold cellsII; rw [List.map_append]; exact Hn8.out), Hown8, Hap8, Hsz8, Hb8⟩
                    case measure => simp [intOf]; omega
                  · have hd : decide (z ∈ l3) = false := decide_eq_false hm
                    have Hadd := Lib.hid (Hno2.out hm); clear hm Hy Hno2
                    go_wp2
                    go_roundw
                    case rel => exact ⟨n + 1, vs, by omega, by omega, by go_num, Lib.hid (by rw [Hadd.out]; exact Hn5b.out), Hown5, Hap, Hsz5, Hb5⟩
                    case measure => simp [intOf]; omega
                · obtain rfl : n = L.length := by omega
                  go_wp2
                  go_roundw
                  case rel => exact ⟨k + 1, vs, by omega, by go_num, Hst, Lib.hid (by rw [edTo_succ]; exact Hn.out), Hbi⟩
                  case measure => simp [intOf]; omega
          · obtain rfl : k = L.length := by omega
            have Hfin := Lib.hid (edges_yes (edB_yes hl8 HOK.out Hal.out))
            go_wp2
            go_ret2
            exact ⟨⟨_, vs, by rw [Hfin.out]; rfl, by rw [Hfin.out]; exact Hn.out.less HbP.out.size⟩, Hb.out⟩
  · have hl9d : decide ((8 : Int) < (L.length : Int)) = true := decide_eq_true (by omega)
    have Hl8 := Lib.hid (show 8 < L.length by omega)
    go_wp2
    go_ret2
    exact ⟨⟨_, [], by rw [edges_no (edB_long Hl8.out)]; rfl, by rw [edges_no (edB_long Hl8.out)]; exact NOwn.nil _ _ _ _ _⟩, Below.refl _ _⟩
set_option maxRecDepth 8000 in
set_option maxHeartbeats 16000000 in
theorem edgesS_any (v : Value) (L : List Cu) (w : World) (h : Rd cuS w w.heap.size v L) :
    Calls Try.prog 6 #[v] w fun r w' => NRetI w.heap.size (edgesV L) r w' ∧ Below w.heap.size w w' := by
  obtain ⟨i0, hi, hz0, hz1, hz2⟩ := info_parts infoSlI
  have Hr := Lib.hid h
  obtain ⟨A, c, rfl, hcc, hm, hA⟩ := h
  unfold maxLen at hm
  have hql := eqlCuI
  have hqn := neqCuI
  go_enter Try.func6, Try.ntmps6
  go_wp2
  go_loopw [16] (fun i wr => ∃ k : Nat, k ≤ L.length ∧ i = .int .i64 k ∧ Hid (∀ j, j < k → edOk L j = true) ∧ Hid (Below w.heap.size w wr)) (fun i _ => L.length - (intOf i).toNat)
  case atStart => exact ⟨0, Nat.zero_le _, rfl, Lib.hid (fun j hj => absurd hj (Nat.not_lt_zero _)), Lib.hid (Below.refl _ _)⟩
  case round =>
    obtain ⟨k, hk, rfl, Hok, Hb⟩ := hrel
    by_cases hlt : k < L.length
    · obtain ⟨g, off, rfl, hg, hcell⟩ := hA (by omega)
      have Hcell := Lib.hid (cu_cells hcell); clear hcell hA
      obtain ⟨f0, f1⟩ := Hcell.out k hlt
      rw [← Hb.out.cell (p := ⟨_, _, _⟩) hg] at f0 f1
      have hgr : g < wr.heap.size := Nat.lt_of_lt_of_le hg Hb.out.size
      have hgr1 : g < wr.heap.size + 1 := Nat.lt_succ_of_lt hgr
      have hi0 : (0 : Int) ≤ (k : Int) := by omega
      have hi1 : (k : Int) < (L.length : Int) := by omega
      have Hp := Lib.hid (edOk_parts L k)
      obtain ⟨x, hx⟩ : ∃ x, cuS.get L k = x := ⟨_, rfl⟩
      rw [hx] at f0 f1 Hp
      have Hx := Lib.hid hx; clear hx
      have HbX := Lib.hid (bal Hb.out (Obj.cells #[.int .i64 x.a, .int .i64 x.b] 37))
      have HBX := Lib.hid (Blk.new wr 37 #[.int .i64 x.a, .int .i64 x.b])
      cases hcv : curveB x.a x.b
      · have Hbad := Lib.hid (show edOk L k = false by rw [Hp.out, hcv]; rfl)
        go_wp2
        refine wp_region_tame (by kernel_rfl) (by kernel_rfl) (fun T _ W hT => ?_)
        have hxx := hT.cell
        repeat (go_big_quiet_step ((go_at_call 30; exact hT.call (cvS_lit hcv _))))
        refine wpQuiet_nil ?_
        intro t
        clear hxx
        go_wp2
        go_ret2
        exact ⟨⟨_, [], by rw [edges_no (edB_ok hlt Hbad.out)]; rfl, by rw [edges_no (edB_ok hlt Hbad.out)]; exact NOwn.nil _ _ _ _ _⟩, bthen HbX.out (hT.below t)⟩
      · rcases Nat.eq_zero_or_pos k with hk0 | hk0
        · have hd0 : decide (0 < k) = false := by simp; omega
          have hd0i : decide ((0 : Int) < (k : Int)) = false := decide_eq_false (by omega)
          have Hq := Lib.hid (show edOk L k = decide (smU x.a x.b = 1) by rw [Hp.out, hcv, hk0]; rfl)
          clear hk0 Hp
          go_wp2
          refine wp_region_tame (by kernel_rfl) (by kernel_rfl) (fun T _ W hT => ?_)
          have hxx := hT.cell
          repeat (go_big_quiet_step ((go_at_call 30; exact hT.call (cvS_lit hcv _))))
          refine wpQuiet_nil ?_
          intro t
          clear hxx
          have HbT := Lib.hid (bthen HbX.out (hT.below t))
          have HBT := Lib.hid (HBX.out.on (hT.below t))
          generalize W t = wt at HbT HBT ⊢
          clear hT f0 f1 hgr hgr1
          have q0 : wt.cell? ⟨wr.heap.size, 0, none⟩ = some (.int .i64 x.a) := HBT.out.cell 0
          have q1 : wt.cell? ⟨wr.heap.size, 1, none⟩ = some (.int .i64 x.b) := HBT.out.cell 1
          have ql := HBT.out.lt
          go_wp2_with fail
          refine (ecSmallest_any x.a x.b _ hcv).mono ?_; rintro e w3 ⟨rfl, hb3⟩
          have Hb3 := Lib.hid (bthen HbT.out hb3)
          have HB3 := Lib.hid (HBT.out.on hb3)
          clear hb3 q0 q1 ql
          have Hsm := Lib.hid (sm_self hcv)
          have HbM := Lib.hid (bal Hb3.out (Obj.cells #[.int .i64 (smC x.a x.b).a, .int .i64 (smC x.a x.b).b] 37))
          have q0 : w3.cell? ⟨wr.heap.size, 0, none⟩ = some (.int .i64 x.a) := HB3.out.cell 0
          have q1 : w3.cell? ⟨wr.heap.size, 1, none⟩ = some (.int .i64 x.b) := HB3.out.cell 1
          have ql := HB3.out.lt
          have hub := smU_bd x.a x.b
          obtain ⟨s4, hs4⟩ : ∃ s, (smC x.a x.b).a = s := ⟨_, rfl⟩
          obtain ⟨s6, hs6⟩ : ∃ s, (smC x.a x.b).b = s := ⟨_, rfl⟩
          obtain ⟨u, hu⟩ : ∃ u, smU x.a x.b = u := ⟨_, rfl⟩
          rw [hs4, hs6, hu] at Hsm
          rw [hs4, hs6] at HbM
          rw [hs4, hs6, hu]
          rw [hu] at hub Hq
          clear hs4 hs6 hu hcv
          by_cases hu1 : u = 1
          · have hd : decide (1 < u) = false := decide_eq_false (by omega)
            have Hgood := Lib.hid (show edOk L k = true by rw [Hq.out]; exact decide_eq_true hu1)
            clear hu1 Hsm hub
            go_wp2
            go_roundw
            case rel => exact ⟨k + 1, by omega, by go_num, Lib.hid (all_lt_succ (p := fun j => edOk L j = true) Hok.out Hgood.out), HbM⟩
            case measure => simp [intOf]; omega
          · have hd : decide (1 < u) = true := decide_eq_true (by omega)
            have Hbad := Lib.hid (show edOk L k = false by rw [Hq.out]; exact decide_eq_false hu1)
            clear hu1 Hsm hub
            go_wp2
            go_ret2
            exact ⟨⟨_, [], by rw [edges_no (edB_ok hlt Hbad.out)]; rfl, by rw [edges_no (edB_ok hlt Hbad.out)]; exact NOwn.nil _ _ _ _ _⟩, HbM.out⟩
        · obtain ⟨m, rfl⟩ : ∃ m, k = m + 1 := ⟨k - 1, by omega⟩
          obtain ⟨p0, p1⟩ := Hcell.out m (by omega)
          rw [← Hb.out.cell (p := ⟨_, _, _⟩) hg] at p0 p1
          rw [Nat.add_sub_cancel] at Hp
          obtain ⟨y, hy⟩ : ∃ y, cuS.get L m = y := ⟨_, rfl⟩
          rw [hy] at p0 p1 Hp
          clear hy
          have hd2 : decide ((0 : Int) < (m : Int) + 1) = true := by rw [decide_eq_true_eq]; omega
          have hi2 : (0 : Int) ≤ (m : Int) + 1 - 1 := by omega
          obtain ⟨q, hcm⟩ : ∃ q, cmpC y.a y.b x.a x.b = q := ⟨_, rfl⟩
          rw [hcm] at Hp
          by_cases hq0 : q < 0
          · have Hq := Lib.hid (show edOk L (m + 1) = decide (smU x.a x.b = 1) by rw [Hp.out, hcv, decide_eq_true hq0]; simp)
            have hc1 : decide (q < 0) = true := decide_eq_true hq0
            clear hq0 Hp hk0
            go_wp2
            refine wp_region_tame (by kernel_rfl) (by kernel_rfl) (fun T _ W hT => ?_)
            have hxx := hT.cell
            repeat (go_big_quiet_step ((first | (go_at_call 30; exact hT.call (cvS_lit hcv _)) | (go_at_call 31; exact hT.call (befS_lit hcm _)))))
            refine wpQuiet_nil ?_
            intro t
            clear hxx
            clear p0 p1 hcm hc1 hd2 hi2
            have HbT := Lib.hid (bthen HbX.out (hT.below t))
            have HBT := Lib.hid (HBX.out.on (hT.below t))
            generalize W t = wt at HbT HBT ⊢
            clear hT f0 f1 hgr hgr1
            have q0 : wt.cell? ⟨wr.heap.size, 0, none⟩ = some (.int .i64 x.a) := HBT.out.cell 0
            have q1 : wt.cell? ⟨wr.heap.size, 1, none⟩ = some (.int .i64 x.b) := HBT.out.cell 1
            have ql := HBT.out.lt
            go_wp2_with fail
            refine (ecSmallest_any x.a x.b _ hcv).mono ?_; rintro e w3 ⟨rfl, hb3⟩
            have Hb3 := Lib.hid (bthen HbT.out hb3)
            have HB3 := Lib.hid (HBT.out.on hb3)
            clear hb3 q0 q1 ql
            have Hsm := Lib.hid (sm_self hcv)
            have HbM := Lib.hid (bal Hb3.out (Obj.cells #[.int .i64 (smC x.a x.b).a, .int .i64 (smC x.a x.b).b] 37))
            have q0 : w3.cell? ⟨wr.heap.size, 0, none⟩ = some (.int .i64 x.a) := HB3.out.cell 0
            have q1 : w3.cell? ⟨wr.heap.size, 1, none⟩ = some (.int .i64 x.b) := HB3.out.cell 1
            have ql := HB3.out.lt
            have hub := smU_bd x.a x.b
            obtain ⟨s4, hs4⟩ : ∃ s, (smC x.a x.b).a = s := ⟨_, rfl⟩
            obtain ⟨s6, hs6⟩ : ∃ s, (smC x.a x.b).b = s := ⟨_, rfl⟩
            obtain ⟨u, hu⟩ : ∃ u, smU x.a x.b = u := ⟨_, rfl⟩
            rw [hs4, hs6, hu] at Hsm
            rw [hs4, hs6] at HbM
            rw [hs4, hs6, hu]
            rw [hu] at hub Hq
            clear hs4 hs6 hu hcv
            by_cases hu1 : u = 1
            · have hd : decide (1 < u) = false := decide_eq_false (by omega)
              have Hgood := Lib.hid (show edOk L (m + 1) = true by rw [Hq.out]; exact decide_eq_true hu1)
              clear hu1 Hsm hub
              go_wp2
              go_roundw
              case rel => exact ⟨(m + 1) + 1, by omega, by go_num, Lib.hid (all_lt_succ (p := fun j => edOk L j = true) Hok.out Hgood.out), HbM⟩
              case measure => simp [intOf]; omega
            · have hd : decide (1 < u) = true := decide_eq_true (by omega)
              have Hbad := Lib.hid (show edOk L (m + 1) = false by rw [Hq.out]; exact decide_eq_false hu1)
              clear hu1 Hsm hub
              go_wp2
              go_ret2
              exact ⟨⟨_, [], by rw [edges_no (edB_ok hlt Hbad.out)]; rfl, by rw [edges_no (edB_ok hlt Hbad.out)]; exact NOwn.nil _ _ _ _ _⟩, HbM.out⟩
          · have Hbad := Lib.hid (show edOk L (m + 1) = false by rw [Hp.out, hcv, decide_eq_false hq0]; simp)
            have hc1 : decide (q < 0) = false := decide_eq_false hq0
            clear hq0 Hp hk0
            go_wp2
            refine wp_region_tame (by kernel_rfl) (by kernel_rfl) (fun T _ W hT => ?_)
            have hxx := hT.cell
            repeat (go_big_quiet_step ((first | (go_at_call 30; exact hT.call (cvS_lit hcv _)) | (go_at_call 31; exact hT.call (befS_lit hcm _)))))
            refine wpQuiet_nil ?_
            intro t
            clear hxx
            go_wp2
            go_ret2
            exact ⟨⟨_, [], by rw [edges_no (edB_ok hlt Hbad.out)]; rfl, by rw [edges_no (edB_ok hlt Hbad.out)]; exact NOwn.nil _ _ _ _ _⟩, bthen HbX.out (hT.below t)⟩
    · obtain rfl : k = L.length := by omega
      have HOK := Lib.hid Hok.out; clear Hok hlt
      by_cases hl8 : L.length ≤ 8
      · have hl9 : ¬ (8 : Int) < (L.length : Int) := by omega
        have hl9d : decide ((8 : Int) < (L.length : Int)) = false := decide_eq_false hl9
        have HbP := Lib.hid Hb.out; clear Hb
        generalize wr = wp at HbP ⊢
        go_wp2
        go_loopw [51, 8] (fun i o wr => ∃ (k : Nat) (vs : List Value), k ≤ L.length ∧ i = .int .i64 k ∧ Hid (∀ j, j < k → (alC (cuS.get L j)).2 = true) ∧ Hid (NOwn wr 43 3 wp.heap.size wr.heap.size o vs (cellsII (edTo L k))) ∧ Hid (Below wp.heap.size wp wr)) (fun i _ _ => L.length - (intOf i).toNat)
        case atStart => exact ⟨0, [], Nat.zero_le _, rfl, Lib.hid (fun j hj => absurd hj (Nat.not_lt_zero _)), Lib.hid (NOwn.nil _ _ _ _ _), Lib.hid (Below.refl _ _)⟩
        case round =>
          obtain ⟨k, vs, hk, rfl, Hal, Hn, Hb2⟩ := hrel
          have Hb := Lib.hid (bthen HbP.out Hb2.out)
          by_cases hlt : k < L.length
          · obtain ⟨g, off, rfl, hg, hcell⟩ := hA (by omega)
            have Hcell := Lib.hid (cu_cells hcell); clear hcell hA
            obtain ⟨f0, f1⟩ := Hcell.out k hlt
            rw [← Hb.out.cell (p := ⟨_, _, _⟩) hg] at f0 f1
            have hgr : g < wr.heap.size := Nat.lt_of_lt_of_le hg Hb.out.size
            have hi0 : (0 : Int) ≤ (k : Int) := by omega
            have hi1 : (k : Int) < (L.length : Int) := by omega
            have hcv := edOk_cv (HOK.out k hlt)
            have Hstep := Lib.hid (fun hne => all_lt_succ (p := fun j => (alC (cuS.get L j)).2 = true) Hal.out hne)
            have Hbadk := Lib.hid (fun h => edB_al hlt h)
            have Hyes := Lib.hid (fun n (h1 : k < n) (h2 : cuS.get L n ∈ (alC (cuS.get L k)).1) => edAt_yes h1 h2)
            have Hno := Lib.hid (fun n (h2 : ¬ cuS.get L n ∈ (alC (cuS.get L k)).1) => edAt_no (i := k) (n := n) h2)
            obtain ⟨x, hx⟩ : ∃ x, cuS.get L k = x := ⟨_, rfl⟩
            rw [hx] at f0 f1 hcv Hstep Hbadk Hyes Hno
            clear hx
            have HbX := Lib.hid (bal (Below.refl wr.heap.size wr) (Obj.cells #[.int .i64 x.a, .int .i64 x.b] 37))
            go_wp2_with fail
            refine (icAll_any x.a x.b _ hcv).mono ?_; rintro e w3 ⟨⟨v3, rfl, hown3⟩, hb3⟩
            have HbY := Lib.hid (bthen HbX.out hb3)
            have hal : alC x = allV x.a x.b := rfl
            rw [hal] at Hstep Hbadk Hyes Hno
            have hlen3 := allV_len x.a x.b
            obtain ⟨l3, ok, hlo⟩ : ∃ l b, allV x.a x.b = (l, b) := ⟨_, _, rfl⟩
            rw [hlo] at hown3 Hstep Hbadk Hyes Hno hlen3
            rw [hlo]
            clear hlo hal hcv f0 f1 hgr
            obtain ⟨A3, c3, rfl⟩ := own_formI hown3
            have Hown3 := Lib.hid (own_mono hown3 (show wr.heap.size ≤ _ by simp))
            have G3 := Lib.hid (World.ownsRow.lt Hown3.out)
            clear hown3 hb3
            have HbZ := Lib.hid (bthen Hb2.out HbY.out)
            have Hn3 := Lib.hid (Hn.out.on HbY.out)
            cases ok
            · have Hbad := Lib.hid (Hbadk.out rfl); clear Hbadk Hstep
              go_wp2
              go_ret2
              exact ⟨⟨_, [], by rw [edges_no (Hbad.out)]; rfl, by rw [edges_no (Hbad.out)]; exact NOwn.nil _ _ _ _ _⟩, bthen HbP.out HbZ.out⟩
            · have Hst := Lib.hid (Hstep.out rfl); clear Hstep Hbadk
              go_wp2
              go_loopw [13, 8] (fun i o wi => ∃ (n : Nat) (vs : List Value), k + 1 ≤ n ∧ n ≤ L.length ∧ i = .int .i64 n ∧ Hid (NOwn wi 43 3 wp.heap.size wi.heap.size o vs (cellsII (edTo L k ++ edAt L k n))) ∧ Hid (wi.ownsRow wr.heap.size 37 2 (.slice A3 l3.length c3) l3.length (cuS.flat l3)) ∧ Hid (∀ g, (Value.slice A3 l3.length c3).ownBlock = some g → o.ownBlock ≠ some g) ∧ Hid (w3.heap.size ≤ wi.heap.size) ∧ Hid (Below wp.heap.size wp wi)) (fun i _ _ => L.length - (intOf i).toNat)
              case atStart => exact ⟨k + 1, vs, Nat.le_refl _, by omega, by go_num, Lib.hid (by rw [edAt_low L k (k + 1) (Nat.le_refl _), List.append_nil]; exact Hn3.out.more HbY.out.size), Hown3, Lib.hid (fun g h1 h2 => by have a1 := (G3.out g h1).1; have a2 := Hn.out.vhi g h2; omega), Lib.hid (Nat.le_refl _), HbZ⟩
              case round =>
                obtain ⟨n, vs, hn1, hn2, rfl, Hn, Hown, Hap, Hsz, Hbi⟩ := hrel
                by_cases hltn : n < L.length
                · have Hbw := Lib.hid (bthen HbP.out Hbi.out)
                  obtain ⟨f0, f1⟩ := Hcell.out n hltn
                  rw [← Hbw.out.cell (p := ⟨_, _, _⟩) hg] at f0 f1
                  have hgr : g < wr.heap.size := Nat.lt_of_lt_of_le hg Hbw.out.size
                  have hj0 : (0 : Int) ≤ (n : Int) := by omega
                  have hj1 : (n : Int) < (L.length : Int) := by omega
                  have Hy := Lib.hid (Hyes.out n (by omega))
                  have Hno2 := Lib.hid (Hno.out n)
                  obtain ⟨z, hz⟩ : ∃ z, cuS.get L n = z := ⟨_, rfl⟩
                  rw [hz] at f0 f1 Hy Hno2
                  clear hz
                  have HRd := Lib.hid (Rd.of_own (S := cuS) Hown.out rfl)
                  go_wp2_with fail
                  refine (icAt_any _ l3 z _ HRd.out).mono ?_; rintro e w5 ⟨rfl, hb5⟩
                  have Hn5 := Lib.hid (Hn.out.on hb5)
                  have Hown5 := Lib.hid (own_below Hown.out hb5)
                  have Hb5 := Lib.hid (bthen Hbi.out hb5)
                  have Hsz5 := Lib.hid (Nat.le_trans Hsz.out hb5.size)
                  have Hgr5 := Lib.hid hb5.size
                  have Hn5b := Lib.hid (Hn5.out.more hb5.size)
                  clear hb5 f0 f1 hgr HRd
                  have Hel := Lib.hid (edTo_len L k)
                  have Hal2 := Lib.hid (edAt_len L k n)
                  by_cases hm : z ∈ l3
                  · have hd : decide (0 ≤ atC l3 z) = true := by have h := atC_pos (L := l3) (c := z); rw [decide_eq_true hm] at h; exact h
                    have Hadd := Lib.hid (Hy.out hm); clear hm Hy Hno2
                    have hlen : (edTo L k ++ edAt L k n).length ≤ 80 := by have h1 := Hel.out; have h2 := Hal2.out; rw [List.length_append]; have : k * L.length ≤ 8 * 8 := Nat.mul_le_mul (by omega) (by omega); omega
                    have Hlen := Lib.hid hlen; clear hlen
                    have Hout := Lib.hid Hn5.out.out
                    have hszw : wp.heap.size ≤ w5.heap.size := Hb5.out.size
                    go_wp2_with (at_builtin; refine wpList_append_own_at _ rfl _ _ 24 rfl wp.heap.size 43 i0 (.slice none 0 0) 1 24 Try.underlying24 hi hz0 hz1 hz2 rfl (by decide) _ _ _ rfl ((Hout.out.alloc _).alloc _) ⟨w5.heap.size + 1, 0, none⟩ 1 1 [.slice (some ⟨w5.heap.size, 0, none⟩) 2 2] rfl rfl ?c1 ?c2 ?c3 ?c4 ?c5 ?_)
                    try
                      case c1 =>
                        intro j u hj
                        match j, hj with
                        | 0, hj => simp at hj; subst hj; exact (Blk.new1 w5 _ _ _).cell 0
                    case c2 => first | rfl | (intro u hu; simp at hu; subst hu; rfl)
                    case c3 => have := Hlen.out; rw [lenII]; unfold maxLen; omega
                    case c4 => have := Hlen.out; rw [lenII]; omega
                    case c5 => first | omega | (simp; omega)
                    intro v8 w8 hown8 hg8 _ hat8
                    have hbA := bal (bal (Below.refl w5.heap.size w5) (Obj.cells #[.int .i64 (k : Int), .int .i64 (n : Int)] 3)) (Obj.cells #[.slice (some ⟨w5.heap.size, 0, none⟩) 2 2] 43)
                    have hin : ((w5.alloc (Obj.cells #[.int .i64 (k : Int), .int .i64 (n : Int)] 3)).alloc (Obj.cells #[.slice (some ⟨w5.heap.size, 0, none⟩) 2 2] 43)).ownsRow wp.heap.size 3 1 (.slice (some ⟨w5.heap.size, 0, none⟩) 2 2) [Value.int .i64 (k : Int), Value.int .i64 (n : Int)].length [Value.int .i64 (k : Int), Value.int .i64 (n : Int)] := (World.ownsRow_lit w5 #[.int .i64 (k : Int), .int .i64 (n : Int)] 2 hszw (by unfold maxLen; omega) (by simp)).alloc _
                    have Hn8 := Lib.hid (NOwn.snoc (Hn5b.out.on hbA) hg8 hown8 (by simpa only [World.size_alloc] using hat8) hin (fun g hg => by simp [Value.ownBlock] at hg; subst hg; constructor <;> (simp; try omega)) (by simp; omega))
                    have Hb8 := Lib.hid (show Below wp.heap.size wp w8 from Below.grown ((Hb5.out.alloc hszw _).alloc (by simp; omega) _) hg8 (by simp; omega) (fun j hj => (Hout.out.lt j hj).1))
                    have Hown8 := Lib.hid (World.ownsRow.kept (own_below Hown5.out hbA) hg8 (own_apartI (fun g h1 h2 => Hap.out g h1 h2)))
                    have Hap8 := Lib.hid (show ∀ g, (Value.slice A3 l3.length c3).ownBlock = some g → v8.ownBlock ≠ some g from fun g h1 h2 => hat8.elim (fun h3 => by rw [h3] at h2; exact Hap.out g h1 h2) (fun h3 => by rw [h3] at h2; have a1 := (G3.out g h1).2; have a2 := Hsz5.out; simp at h2; omega))
                    have Hsz8 := Lib.hid (show w3.heap.size ≤ w8.heap.size by have a1 := hg8.size; have a2 := Hsz5.out; simp at a1; omega)
                    clear hown8 hg8 hat8 hin hbA
                    go_wp2
                    go_roundw
                    case rel => exact ⟨n + 1, _, by omega, by omega, by go_num, Lib.hid (by rw [Hadd.out, ← List.append_assoc]; unfold cellsII; rw [List.map_append]; exact Hn8.out), Hown8, Hap8, Hsz8, Hb8⟩
                    case measure => simp [intOf]; omega
                  · have hd : decide (0 ≤ atC l3 z) = false := by have h := atC_pos (L := l3) (c := z); rw [decide_eq_false hm] at h; exact h
                    have Hadd := Lib.hid (Hno2.out hm); clear hm Hy Hno2
                    go_wp2
                    go_roundw
                    case rel => exact ⟨n + 1, vs, by omega, by omega, by go_num, Lib.hid (by rw [Hadd.out]; exact Hn5b.out), Hown5, Hap, Hsz5, Hb5⟩
                    case measure => simp [intOf]; omega
                · obtain rfl : n = L.length := by omega
                  go_wp2
                  go_roundw
                  case rel => exact ⟨k + 1, vs, by omega, by go_num, Hst, Lib.hid (by rw [edTo_succ]; exact Hn.out), Hbi⟩
                  case measure => simp [intOf]; omega
          · obtain rfl : k = L.length := by omega
            have Hfin := Lib.hid (edges_yes (edB_yes hl8 HOK.out Hal.out))
            go_wp2
            go_ret2
            exact ⟨⟨_, vs, by rw [Hfin.out]; rfl, by rw [Hfin.out]; exact Hn.out.less HbP.out.size⟩, Hb.out⟩
      · have hl9d : decide ((8 : Int) < (L.length : Int)) = true := decide_eq_true (by omega)
        have Hl8 := Lib.hid (show 8 < L.length by omega)
        go_wp2
        go_ret2
        exact ⟨⟨_, [], by rw [edges_no (edB_long Hl8.out)]; rfl, by rw [edges_no (edB_long Hl8.out)]; exact NOwn.nil _ _ _ _ _⟩, Hb.out⟩
end Go.Proofs.Ytnhgdmhiblpknaa
