/- Forms grouped by isomorphism: the walks of both sides. Conditions: none. Printed by gen_icg.py. -/
import Derived.Test.YtnhgdmhiblpknaaIcF
import Derived.Test.YtnhgdmhiblpknaaNestG
import Derived.Test.YtnhgdmhiblpknaaIcM
import Derived.Test.YtnhgdmhiblpknaaSIntSS
namespace Go.Proofs.Ytnhgdmhiblpknaa
open Go Go.RowKit

def qG (f : Int) (g : List Int) : Bool := g.isEmpty || g.headD 0 == f
def fxG (G : List (List Int)) (f : Int) : Int := if G.findIdx (qG f) < G.length then (G.findIdx (qG f) : Int) else -1
theorem fxG_at {G : List (List Int)} {f : Int} {k : Nat} (hk : k < G.length) (hq : qG f (cat' G k) = true) (h : ∀ j, j < k → qG f (cat' G j) = false) : fxG G f = k := by
  have e : G.findIdx (qG f) = k := by
    rcases Nat.lt_trichotomy (G.findIdx (qG f)) k with h1 | h1 | h1
    · have h2 := List.findIdx_getElem (xs := G) (p := qG f) (w := Nat.lt_trans h1 hk)
      have h3 := h _ h1
      rw [cat_at (Nat.lt_trans h1 hk)] at h3
      rw [h2] at h3; cases h3
    · exact h1
    · have h2 := List.not_of_lt_findIdx (xs := G) (p := qG f) h1
      rw [cat_at hk] at hq
      rw [hq] at h2; cases h2
  unfold fxG
  rw [e, if_pos hk]
theorem fxG_no {G : List (List Int)} {f : Int} (h : ∀ j, j < G.length → qG f (cat' G j) = false) : fxG G f = -1 := by
  unfold fxG
  rw [if_neg]
  intro h1
  have h2 := List.findIdx_getElem (xs := G) (p := qG f) (w := h1)
  have h3 := h _ h1
  rw [cat_at h1] at h3
  rw [h2] at h3; cases h3
set_option maxHeartbeats 1600000 in
theorem closF_any (v : Value) (g : List Int) (p : Nat) (f : Int) (w : World) (h : Rd inS w w.heap.size v g) (hp : w.cell? ⟨p, 0, none⟩ = some (.int .i64 f)) (hlt : p < w.heap.size) :
    Calls Try.prog 57 #[v, .pointer (some ⟨p, 0, none⟩)] w fun r w' => r = .returned (.bool (qG f g)) ∧ Below w.heap.size w w' := by
  obtain ⟨A, c, rfl, hcc, hm, hA⟩ := h
  unfold maxLen at hm
  cases g with
  | nil =>
    clear hA
    have hd : ((0 : Int) == 0) = true := rfl
    go_enter Try.func57, Try.ntmps57
    go_wp2
    refine wp_region_tame (by kernel_rfl) (by kernel_rfl) (fun T _ W hT => ?_)
    have hxx := hT.cell
    repeat (go_big_quiet_step (fail))
    refine wpQuiet_nil ?_
    intro t
    clear hxx
    go_wp2
    go_ret
    exact ⟨rfl, hT.below t⟩
  | cons x l =>
    obtain ⟨gb, off, rfl, hg, hcell⟩ := hA (by simp)
    have f0 := in_cells hcell 0 (by simp)
    rw [Nat.add_zero] at f0
    have e0 : inS.get (x :: l) 0 = x := rfl
    rw [e0] at f0
    clear hcell hA e0
    have hq : qG f (x :: l) = (x == f) := by simp [qG]
    have Hq := Lib.hid hq; clear hq
    have hl : (x :: l).length = l.length + 1 := rfl
    rw [hl] at hcc ⊢
    have hd : (((l.length + 1 : Nat) : Int) == 0) = false := by simp; omega
    have hd' : ((l.length : Int) + 1 == 0) = false := by simp; omega
    have hlt0 : (0 : Int) < ((l.length + 1 : Nat) : Int) := by omega
    have hlt1 : (0 : Int) < (l.length : Int) + 1 := by omega
    go_enter Try.func57, Try.ntmps57
    go_wp2
    refine wp_region_tame (by kernel_rfl) (by kernel_rfl) (fun T _ W hT => ?_)
    have hxx := hT.cell
    repeat (go_big_quiet_step (fail))
    refine wpQuiet_nil ?_
    intro t
    clear hxx
    go_wp2
    go_ret
    exact ⟨by rw [Hq.out]; rfl, hT.below t⟩
theorem closEF : ∀ args w, (callFunc 57 args).run Try.prog w = .ok (.enter 57 args) w := enters_of Try.func57 (by kernel_rfl) rfl
set_option maxRecDepth 8000 in
set_option maxHeartbeats 3200000 in
theorem ixF_any (v : Value) (G : List (List Int)) (p : Nat) (f : Int) (w : World) (h : NRd w w.heap.size v G) (hp : w.cell? ⟨p, 0, none⟩ = some (.int .i64 f)) (hpl : p < w.heap.size) :
    Calls Try.prog 56 #[v, .func (Fn.func 57) #[] #[.pointer (some ⟨p, 0, none⟩)]] w fun r w' => r = .returned (.int .i64 (fxG G f)) ∧ Below w.heap.size w w' := by
  have eg := closEF
  obtain ⟨us, hul, hr, hi⟩ := h
  obtain ⟨A, c, rfl, hcc, hm, hA⟩ := hr
  rw [hul] at hcc hA ⊢
  unfold maxLen at hm
  have Hi := Lib.hid hi; clear hi hul
  go_enter Try.func56, Try.ntmps56
  go_wp2
  go_loopw [8] (fun i wr => ∃ k : Nat, k ≤ G.length ∧ i = .int .i64 k ∧ Hid (∀ j, j < k → qG f (cat' G j) = false) ∧ Hid (Below w.heap.size w wr)) (fun i _ => G.length - (intOf i).toNat)
  case atStart => exact ⟨0, Nat.zero_le _, rfl, Lib.hid (fun j hj => absurd hj (Nat.not_lt_zero _)), Lib.hid (Below.refl _ _)⟩
  case round =>
    obtain ⟨k, hk, rfl, Hno, Hb⟩ := hrel
    by_cases hlt : k < G.length
    · obtain ⟨g, off, rfl, hg, hcell⟩ := hA (by omega)
      have f0 := sl_cells hcell k hlt
      clear hcell hA
      rw [← Hb.out.cell (p := ⟨_, _, _⟩) hg] at f0
      have hgr : g < wr.heap.size := Nat.lt_of_lt_of_le hg Hb.out.size
      have Hrow := Lib.hid ((Hi.out k hlt).on Hb.out)
      have hp2 : wr.cell? ⟨p, 0, none⟩ = some (.int .i64 f) := (Hb.out.cell (p := ⟨p, 0, none⟩) hpl).trans hp
      have Hp2 := Lib.hid hp2; clear hp2
      have hpl2 : p < wr.heap.size := Nat.lt_of_lt_of_le hpl Hb.out.size
      have hi0 : (0 : Int) ≤ (k : Int) := by omega
      have hi1 : (k : Int) < (G.length : Int) := by omega
      have Hyes := Lib.hid (fun hq => fxG_at hlt hq Hno.out)
      have Hstep := Lib.hid (fun hq => all_lt_succ (p := fun j => qG f (cat' G j) = false) Hno.out hq)
      generalize vat us k = u at f0 Hrow
      generalize cat' G k = gk at Hrow Hyes Hstep
      go_wp2_with fail
      refine (closF_any u gk p f _ Hrow.out Hp2.out hpl2).mono ?_
      rintro e w1 ⟨rfl, hb1⟩
      have Hb1 := Lib.hid (bthen Hb.out hb1); clear hb1 f0
      cases hq : qG f gk
      · have Hst := Lib.hid (Hstep.out hq); clear hq Hstep Hyes
        go_wp2
        go_roundw
        case rel => exact ⟨k + 1, by omega, by go_num, Hst, Hb1⟩
        case measure => simp [intOf]; omega
      · have Hfin := Lib.hid (Hyes.out hq); clear hq Hstep Hyes
        go_wp2
        go_ret
        exact ⟨by rw [Hfin.out]; rfl, Hb1.out⟩
    · have Hfin := Lib.hid (fxG_no (fun j hj => Hno.out j (by omega)))
      go_wp2
      go_ret
      exact ⟨by rw [Hfin.out]; rfl, Hb.out⟩
theorem NOwn.growN {w w1 : World} {te ti : TypeId} {base hi g0 cap n : Nat} {vs : List Value} {css : List (List Value)} (hn : n = css.length) (h : NOwn w te ti base hi (.slice (some ⟨g0, 0, none⟩) n cap) vs css) {j : Nat} (hj : j < css.length) {u : Value} {c : List Value}
    (hrow : w1.ownsRow base ti 1 u c.length c) (hg : w.grownBy w1 (vat vs j).ownBlock) (hat : u.ownBlock = (vat vs j).ownBlock ∨ u.ownBlock = some w.heap.size) (hhi : hi ≤ w.heap.size) :
    NOwn (w1.setCell ⟨g0, j, none⟩ u) te ti base (w1.setCell ⟨g0, j, none⟩ u).heap.size (.slice (some ⟨g0, 0, none⟩) n cap) (vs.set j u) (css.set j c) := by
  subst hn
  have h1 := (h.grow hj hrow hg hat hhi).1
  rw [List.length_set] at h1
  exact h1
theorem own_slI {w : World} {b : Nat} {t : TypeId} {A : Option Addr} {n c : Nat} {vs : List Value} (h : w.ownsRow b t 1 (.slice A n c) n vs) (hn : n = vs.length) (k : Nat) (hk : k < n) :
    ∃ g, A = some ⟨g, 0, none⟩ ∧ b ≤ g ∧ g < w.heap.size ∧ w.cell? ⟨g, k, none⟩ = some (vat vs k) ∧ w.frozen? ⟨g, k, none⟩ = false := by
  rcases h.2 with ⟨h', h0⟩ | ⟨g, cap, cur, h', h1, h2, h3, h4, h5, h6⟩
  · omega
  · cases h'
    refine ⟨g, rfl, h1, (Array.getElem?_eq_some_iff.1 h2).1, ?_, h.frozenAt _⟩
    have hcell := h.cellAt k (by omega)
    rw [hcell]
    unfold vat
    rw [List.getD_eq_getElem?_getD, List.getElem?_eq_getElem (by omega)]
    rfl
theorem cells_set (G : List (List Int)) (j : Nat) (g : List Int) : cellsII (G.set j g) = (cellsII G).set j (g.map (Value.int .i64)) := by unfold cellsII; rw [List.map_set]
theorem cells_snoc (G : List (List Int)) (g : List Int) : cellsII (G ++ [g]) = cellsII G ++ [g.map (Value.int .i64)] := by unfold cellsII; rw [List.map_append]; rfl
theorem set_last (G : List (List Int)) (g : List Int) : (G ++ [[]]).set G.length g = G ++ [g] := by rw [List.set_append_right _ _ (Nat.le_refl _)]; simp
theorem cat_last (G : List (List Int)) : cat' (G ++ [[]]) G.length = [] := by unfold cat'; rw [List.getD_eq_getElem?_getD, List.getElem?_append_right (Nat.le_refl _)]; simp
theorem mdl_take {L : List Cu} {k : Nat} (h : k < L.length) : (mdl L).take (k + 1) = (mdl L).take k ++ [smC (cuS.get L k).a (cuS.get L k).b] := by
  have hk : k < (mdl L).length := by unfold mdl; rw [List.length_map]; exact h
  rw [List.take_succ_eq_append_getElem hk, ← mdl_get h, getCu hk]
theorem mdl_len (L : List Cu) : (mdl L).length = L.length := List.length_map ..
/-- Where a model is met first. -/
theorem atC_first {M : List Cu} {k : Nat} (hk : k < M.length) : ∃ f : Nat, atC M (cuS.get M k) = (f : Int) ∧ f ≤ k ∧ cuS.get M f = cuS.get M k ∧ ∀ j, j < f → cuS.get M j ≠ cuS.get M k := by
  have hm : cuS.get M k ∈ M := by rw [getCu hk]; exact List.getElem_mem hk
  have hlt := List.idxOf_lt_length_iff.2 hm
  have hg := List.getElem_idxOf hlt
  have hbef : ∀ j, j < M.idxOf (cuS.get M k) → cuS.get M j ≠ cuS.get M k := by
    intro j hj e
    have h2 := List.not_of_lt_findIdx (p := (· == cuS.get M k)) (xs := M) (i := j) hj
    rw [← getCu (Nat.lt_trans hj hlt), e] at h2
    simp at h2
  refine ⟨M.idxOf (cuS.get M k), by unfold atC; rw [if_pos hm], ?_, by rw [getCu hlt]; exact hg, hbef⟩
  rcases Nat.lt_or_ge k (M.idxOf (cuS.get M k)) with h1 | h1
  · exact absurd rfl (hbef k h1)
  · exact h1
/-- A group that is not empty: the closure asks for its head. -/
theorem Frm.qG {M : List Cu} {n : Nat} {G : List (List Int)} (h : Frm M n G) {k f : Nat} (hk : k < G.length) : qG (f : Int) (cat' G k) = decide (hdG (cat' G k) = f) := by
  have hmk : cat' G k ∈ G := by rw [cat_at hk]; exact List.getElem_mem hk
  obtain ⟨a, l, e, h1, h2⟩ := h.ne _ hmk
  rw [e, hdG_cons]
  unfold Proofs.Ytnhgdmhiblpknaa.qG
  simp only [List.isEmpty_cons, Bool.false_or, List.headD_cons]
  rw [Bool.eq_iff_iff]
  simp only [beq_iff_eq, decide_eq_true_eq]
  omega
set_option maxRecDepth 8000 in
set_option maxHeartbeats 16000000 in
theorem formsI_any (v : Value) (L : List Cu) (w : World) (h : Rd cuS w w.heap.size v L) :
    Calls Try.prog 24 #[v] w fun r w' => NRetI w.heap.size (formsV L) r w' ∧ Below w.heap.size w w' := by
  obtain ⟨i0, hi, hz0, hz1, hz2⟩ := info_parts infoCuI
  obtain ⟨j0, ji, jz0, jz1, jz2⟩ := info_parts infoIntC
  obtain ⟨s0, si, sz0, sz1, sz2⟩ := info_parts infoSlI
  have Hr := Lib.hid h
  obtain ⟨A, c, rfl, hcc, hm, hA⟩ := h
  unfold maxLen at hm
  by_cases hl : L.length ≤ 20
  · have hl9 : ¬ (20 : Int) < (L.length : Int) := by omega
    have hl9d : decide ((20 : Int) < (L.length : Int)) = false := decide_eq_false hl9
    go_enter Try.func24, Try.ntmps24
    go_wp2
    go_loopw [19, 4] (fun i o wr => ∃ k : Nat, k ≤ L.length ∧ i = .int .i64 k ∧ Hid (∀ j, j < k → curveB (cuS.get L j).a (cuS.get L j).b = true) ∧ Hid (wr.ownsRow w.heap.size 37 2 o ((mdl L).take k).length (cuS.flat ((mdl L).take k))) ∧ Hid (Below w.heap.size w wr)) (fun i _ _ => L.length - (intOf i).toNat)
    case atStart => exact ⟨0, Nat.zero_le _, rfl, Lib.hid (fun j hj => absurd hj (Nat.not_lt_zero _)), Lib.hid ⟨rfl, Or.inl ⟨rfl, rfl⟩⟩, Lib.hid (Below.refl _ _)⟩
    case round =>
      obtain ⟨k, hk, rfl, Hok, Hown, Hb⟩ := hrel
      by_cases hlt : k < L.length
      · obtain ⟨g, off, rfl, hg, hcell⟩ := hA (by omega)
        obtain ⟨f0, f1⟩ := cu_cells hcell k hlt
        clear hcell hA
        rw [← Hb.out.cell (p := ⟨_, _, _⟩) hg] at f0 f1
        have hgr : g < wr.heap.size := Nat.lt_of_lt_of_le hg Hb.out.size
        have hi0 : (0 : Int) ≤ (k : Int) := by omega
        have hi1 : (k : Int) < (L.length : Int) := by omega
        have Htk := Lib.hid (mdl_take hlt)
        have Hbad := Lib.hid (fun h => okF_bad hlt h)
        have Hst := Lib.hid (fun h => all_lt_succ (p := fun j => curveB (cuS.get L j).a (cuS.get L j).b = true) Hok.out h)
        have hln : ((mdl L).take k).length ≤ 20 := by rw [List.length_take]; omega
        have Hln := Lib.hid hln; clear hln
        generalize cuS.get L k = x at f0 f1 Htk Hbad Hst
        have HbX := Lib.hid (bal (Below.refl wr.heap.size wr) (Obj.cells #[.int .i64 x.a, .int .i64 x.b] 37))
        have HBX := Lib.hid (Blk.new wr 37 #[.int .i64 x.a, .int .i64 x.b])
        cases hcv : curveB x.a x.b
        · have Hv := Lib.hid (Hbad.out hcv)
          go_wp2_with fail
          refine (cvI_lit hcv _).mono ?_; rintro e w3 ⟨rfl, hb3⟩
          have Hb3 := Lib.hid (bthen Hb.out (bthen HbX.out hb3))
          clear hb3
          go_wp2
          go_ret2
          exact ⟨⟨_, [], by rw [Hv.out]; rfl, by rw [Hv.out]; exact NOwn.nil _ _ _ _ _⟩, Hb3.out⟩
        · have Hst2 := Lib.hid (Hst.out hcv)
          go_wp2_with fail
          refine (cvI_lit hcv _).mono ?_; rintro e w3 ⟨rfl, hb3⟩
          have HbX3 := Lib.hid (bthen HbX.out hb3)
          have HB3 := Lib.hid (HBX.out.on hb3)
          clear hb3 f0 f1 hgr
          have q0 : w3.cell? ⟨wr.heap.size, 0, none⟩ = some (.int .i64 x.a) := HB3.out.cell 0
          have q1 : w3.cell? ⟨wr.heap.size, 1, none⟩ = some (.int .i64 x.b) := HB3.out.cell 1
          have ql := HB3.out.lt
          go_wp2_with fail
          refine (smallest_any x.a x.b _ hcv).mono ?_; rintro e w4 ⟨rfl, hb4⟩
          have HbX4 := Lib.hid (bthen HbX3.out hb4)
          clear hb4 q0 q1 ql
          generalize smC x.a x.b = m at Htk ⊢
          have Hown4 := Lib.hid (own_below Hown.out HbX4.out)
          have hln := Hln.out
          have hw4 : w.heap.size ≤ w4.heap.size := Nat.le_trans Hb.out.size HbX4.out.size
          go_wp2_with (at_builtin; refine wpList_append_own_at _ rfl _ _ 27 rfl w.heap.size 37 i0 (.agg #[.int .i64 0, .int .i64 0]) 2 16 Try.underlying27 hi hz0 hz1 hz2 rfl (by decide) _ _ _ rfl ((Hown4.out.alloc _).alloc _) ⟨w4.heap.size + 1, 0, none⟩ 1 1 (cuS.flat [m]) rfl rfl ?c1 (cui_one _) ?c3 ?c4 ?c5 ?_)
          case c1 => exact oneCuI_cells (Blk.new1 w4 _ _ _)
          case c3 => unfold maxLen; omega
          case c4 => omega
          case c5 => simp; omega
          intro v7 w6 ho7 hg7 _ _
          have Hown6 := Lib.hid (show w6.ownsRow w.heap.size 37 2 v7 ((mdl L).take (k + 1)).length (cuS.flat ((mdl L).take (k + 1))) by rw [Htk.out, List.length_append, Shape.flat_append, List.length_take]; exact ho7)
          have Hb6 := Lib.hid (show Below w.heap.size w w6 from Below.grown (bal (bal (bthen Hb.out HbX4.out) _) _) hg7 (by simp; omega) (fun k9 h9 => (World.ownsRow.lt Hown4.out k9 h9).1))
          clear ho7 hg7
          go_wp2
          go_roundw
          case rel => exact ⟨k + 1, by omega, by go_num, Hst2, Hown6, Hb6⟩
          case measure => simp [intOf]; omega
      · obtain rfl : k = L.length := by omega
        have Hv := Lib.hid (okF_yes hl Hok.out)
        have hmt : (mdl L).take L.length = mdl L := by rw [← mdl_len L]; exact List.take_length
        rw [hmt] at Hown
        clear Hok hlt hmt
        have HbP := Lib.hid Hb.out; clear Hb
        generalize wr = wp at HbP Hown ⊢
        obtain ⟨A4, c4, hv4⟩ := own_formI Hown.out
        subst hv4
        have hML := mdl_len L
        have Hfrm := Lib.hid (fun n => frm (mdl L) n)
        obtain ⟨M, hMM⟩ : ∃ M, mdl L = M := ⟨_, rfl⟩
        rw [hMM] at Hown Hv hML Hfrm ⊢
        clear hMM
        have Hmr := Lib.hid (Rd.of_own (S := cuS) Hown.out rfl)
        rw [hML]
        go_wp2
        go_loopw [38, 9] (fun i o wr => ∃ (k : Nat) (vs : List Value), k ≤ L.length ∧ i = .int .i64 k ∧ Hid (NOwn wr 43 3 wp.heap.size wr.heap.size o vs (cellsII (frmV M k))) ∧ Hid (Below wp.heap.size wp wr)) (fun i _ _ => L.length - (intOf i).toNat)
        case atStart => exact ⟨0, [], Nat.zero_le _, rfl, Lib.hid (NOwn.nil _ _ _ _ _), Lib.hid (Below.refl _ _)⟩
        case round =>
          obtain ⟨k, vs, hk, rfl, Hn, Hb2⟩ := hrel
          by_cases hlt : k < L.length
          · have Hmr2 := Lib.hid (Hmr.out.on Hb2.out)
            obtain ⟨A5, c5, hv5, -, -, hA5⟩ := Hmr2.out
            cases hv5
            obtain ⟨g5, o5, rfl, hg5, hcell5⟩ := hA5 (by omega)
            obtain ⟨f0, f1⟩ := cu_cells hcell5 k (by omega)
            clear hcell5 hA5
            have hi0 : (0 : Int) ≤ (k : Int) := by omega
            have hi1 : (k : Int) < (L.length : Int) := by omega
            have hF := Hfrm.out k
            obtain ⟨f, hfat, hfk, hfe, hfb⟩ := atC_first (M := M) (k := k) (by omega)
            have Hgl := Lib.hid hF.len
            have Hnew := Lib.hid (fun (e : f = k) => (show ¬ ixG M (frmV M k) k < (frmV M k).length from fun h => by obtain ⟨j, hj, e2⟩ := hF.fresh.1 h; exact hfb j (by omega) e2))
            have Hold := Lib.hid (fun (e : ¬ f = k) => (show ixG M (frmV M k) k < (frmV M k).length from hF.fresh.2 ⟨f, by omega, hfe⟩))
            have Hcl := Lib.hid (fun j (hj : j < (frmV M k).length) => (show qG (f : Int) (cat' (frmV M k) j) = decide (cuS.get M (hdG (cat' (frmV M k) j)) = cuS.get M k) by rw [hF.qG hj, decide_eq_decide]; exact (hF.first hfe hfb hj).symm))
            have Hcl2 := Lib.hid (fun j (hj : j < (frmV M k).length) (e : f = k) => (show qG (f : Int) (cat' (frmV M k) j) = false by rw [hF.qG hj]; refine decide_eq_false (fun h => ?_); obtain ⟨a, l, e1, h1, h2⟩ := hF.ne (cat' (frmV M k) j) (by rw [cat_at hj]; exact List.getElem_mem hj); rw [e1, hdG_cons] at h; omega))
            have Hsucc := Lib.hid (show frmV M (k + 1) = addG M (frmV M k) k from rfl)
            have Hm9 := Lib.hid (show ∀ j, j < (frmV M k).length → (cat' (frmV M k) j).length ≤ 20 from fun j hj => by have h1 := cat_len_le (frmV M k) hj; rw [hF.tot] at h1; omega)
            clear hF hfe hfb
            obtain ⟨x, hx⟩ : ∃ x, cuS.get M k = x := ⟨_, rfl⟩
            rw [hx] at f0 f1 hfat
            have Hx := Lib.hid hx; clear hx
            have Hfat := Lib.hid hfat; clear hfat
            generalize hG : frmV M k = G at Hn Hgl Hnew Hold Hcl Hcl2 Hsucc Hm9
            clear hG
            have HbX := Lib.hid (bal (Below.refl wr.heap.size wr) (Obj.cells #[.int .i64 x.a, .int .i64 x.b] 37))
            have Hmr3 := Lib.hid (Hmr2.out.on HbX.out)
            go_wp2_with fail
            refine (indexCu_any _ M x _ (by rw [hML] at Hmr3; exact Hmr3.out)).mono ?_; rintro e w3 ⟨rfl, hb3⟩
            rw [Hfat.out]
            have Hs3 := Lib.hid (show wr.heap.size + 1 ≤ w3.heap.size by have h1 := hb3.size; simp only [World.size_alloc] at h1; omega)
            have hb33 := bthen HbX.out hb3
            have HbI := Lib.hid (bal hb33 (Obj.cells #[.int .i64 (f : Int)] 3))
            have HBI := Lib.hid (Blk.new w3 3 #[.int .i64 (f : Int)])
            clear hb3 hb33 f0 f1
            by_cases hfk2 : f = k
            · have hd : ((f : Int) == (k : Int)) = true := by rw [hfk2]; simp
              have Hni := Lib.hid (Hnew.out hfk2)
              have Hadd := Lib.hid (show frmV M (k + 1) = G ++ [[(k : Int)]] by rw [Hsucc.out]; unfold addG; rw [if_neg Hni.out])
              have Hfx := Lib.hid (show fxG (G ++ [[]]) (f : Int) = (G.length : Int) from fxG_at (by simp) (by rw [cat_last]; rfl) (fun j hj => by rw [cat_app_lt hj]; exact Hcl2.out j hj hfk2))
              have HN4 := Lib.hid ((Hn.out.on HbI.out).more HbI.out.size)
              have Hfk := Lib.hid hfk2; clear hfk2 Hcl Hcl2 Hold Hnew
              have hgl := Hgl.out
              have hwp : wp.heap.size ≤ w3.heap.size + 1 := by have h1 := Hb2.out.size; have h2 := HbI.out.size; simp at h2; omega
              have Hout := Lib.hid HN4.out.out
              have Hw4 := Lib.hid (bthen Hb2.out HbI.out)
              have Hsz4 := Lib.hid (show (w3.alloc (Obj.cells #[.int .i64 (f : Int)] 3)).heap.size = w3.heap.size + 1 by simp)
              have HBI2 := Lib.hid HBI.out
              go_wp2_with (at_builtin; refine wpList_append_own_at _ rfl _ _ 24 rfl wp.heap.size 43 s0 (.slice none 0 0) 1 24 Try.underlying24 si sz0 sz1 sz2 rfl (by decide) _ _ _ rfl (Hout.out.alloc _) ⟨w3.heap.size + 1, 0, none⟩ 1 1 [.slice none 0 0] rfl rfl ?e1 ?e2 ?e3 ?e4 ?e5 ?_)
              case e1 =>
                intro j u hj
                match j, hj with
                | 0, hj => simp at hj; subst hj; exact (Blk.new1 w3 _ _ _).cell 0
              case e2 => intro u hu; simp at hu; subst hu; rfl
              case e3 => rw [lenII]; unfold maxLen; omega
              case e4 => rw [lenII]; omega
              case e5 => simp; omega
              intro v8 w8 hown8 hg8 _ hat8
              have hbA := bal (Below.refl _ (w3.alloc (Obj.cells #[.int .i64 (f : Int)] 3))) (Obj.cells #[.slice none 0 0] 43)
              have HN8 := Lib.hid (NOwn.snoc (u := .slice none 0 0) (c := []) (HN4.out.on hbA) hg8 hown8 (by simpa only [World.size_alloc] using hat8) ⟨rfl, Or.inl ⟨rfl, rfl⟩⟩ (fun g hg => by simp [Value.ownBlock] at hg) (by simp))
              have Hb8 := Lib.hid (show Below wp.heap.size wp w8 from Below.grown (bal Hw4.out _) hg8 (by simp; omega) (fun j hj => (World.ownsRow.lt Hout.out j hj).1))
              have hb48 : Below (w3.heap.size + 1) (w3.alloc (Obj.cells #[.int .i64 (f : Int)] 3)) w8 → True := fun _ => trivial
              have HBI8 := Lib.hid (show Blk w8 w3.heap.size 3 #[.int .i64 (f : Int)] from (hg8.block _ (by simp only [World.size_alloc]; omega) (by intro e9; have h2 := Hn.out.vhi w3.heap.size e9.symm; have h3 := Hs3.out; omega)).trans ((HBI.out.alloc _)))
              clear hown8 hg8 hat8 hbA hb48
              have HN8b := Lib.hid (show NOwn w8 43 3 wp.heap.size w8.heap.size v8 (vs ++ [.slice none 0 0]) (cellsII (G ++ [[]])) by rw [cells_snoc]; exact HN8.out)
              clear HN8
              have p0 : w8.cell? ⟨w3.heap.size, 0, none⟩ = some (.int .i64 (f : Int)) := HBI8.out.cell 0
              have pl := HBI8.out.lt
              go_wp2_with fail
              refine (ixF_any v8 (G ++ [[]]) w3.heap.size (f : Int) _ (NRd.of_own HN8b.out) p0 pl).mono ?_; rintro e w9 ⟨rfl, hb9⟩
              rw [Hfx.out]
              have HN := Lib.hid ((HN8b.out.on hb9).more hb9.size)
              have Hbw := Lib.hid (bthen Hb8.out hb9)
              clear hb9 p0 pl
              generalize hvs9 : vs ++ [Value.slice none 0 0] = vs9 at HN
              obtain ⟨A9, c9, hv9⟩ := own_formI HN.out.out
              subst hv9
              have Hat := Lib.hid (show G.length < (G ++ [[]]).length by simp)
              have Hm9b := Lib.hid (show (cat' (G ++ [[]]) G.length).length ≤ 20 by rw [cat_last]; simp)
              clear Hm9 hvs9
              have Hm9 := Hm9b
              obtain ⟨g0, hA9, hgb, hgl, f0, -⟩ := own_slI (HN.out.out) (by rw [HN.out.len]) G.length (by rw [lenII]; exact Hat.out)
              subst hA9
              have hrow := HN.out.row G.length (by rw [lenII]; exact Hat.out)
              rw [cat_cellsII Hat.out] at hrow
              have hob := (rfl : vat vs9 G.length = vat vs9 G.length)
              obtain ⟨u, hu⟩ : ∃ u, vat vs9 G.length = u := ⟨_, rfl⟩
              rw [hu] at f0 hrow
              have Hu := Lib.hid hu; clear hu hob
              have hm9 := Hm9.out
              have hml : ((cat' (G ++ [[]]) G.length).map (Value.int .i64)).length = (cat' (G ++ [[]]) G.length).length := List.length_map ..
              obtain ⟨Au, cu, hu2⟩ := own_formI hrow
              subst hu2
              rw [hml] at hrow f0
              have Hrow := Lib.hid hrow; clear hrow hml
              have hN9 : (cellsII (G ++ [[]])).length = (G ++ [[]]).length := lenII _
              have hat9 := Hat.out
              have hi0 : (0 : Int) ≤ ((G.length : Nat) : Int) := by omega
              have hi1 : ((G.length : Nat) : Int) < (((G ++ [[]]).length : Nat) : Int) := by omega
              have HNn := Lib.hid (show NOwn w9 43 3 wp.heap.size w9.heap.size (.slice (some ⟨g0, 0, none⟩) (G ++ [[]]).length c9) vs9 (cellsII (G ++ [[]])) by rw [← hN9]; exact HN.out)
              rw [hN9]
              go_wp2_with (at_builtin; refine wpList_append_own_at _ rfl _ _ 43 rfl wp.heap.size 3 j0 (.int .i64 0) 1 8 Try.underlying43 ji jz0 jz1 jz2 rfl (by decide) _ _ _ rfl (Hrow.out.alloc _) ⟨w9.heap.size, 0, none⟩ 1 1 [.int .i64 (k : Int)] rfl rfl ?d1 ?d2 ?d3 ?d4 ?d5 ?_)
              case d1 =>
                intro j u hj
                match j, hj with
                | 0, hj => simp at hj; subst hj; exact (Blk.new w9 _ _).cell 0
              case d2 => intro u hu; simp at hu; subst hu; rfl
              case d3 => unfold maxLen; omega
              case d4 => omega
              case d5 => have := Hbw.out.size; simp; omega
              intro u6 w6 ho6 hg6 _ hat6
              obtain ⟨A6, c66, hu6⟩ := own_formI ho6
              have hbL := bal (Below.refl w9.heap.size w9) (Obj.cells #[.int .i64 (k : Int)] 3)
              have hvu : (vat vs9 G.length).ownBlock = (Value.slice Au (cat' (G ++ [[]]) G.length).length cu).ownBlock := by rw [Hu.out, List.length_map]
              have HG := Lib.hid (NOwn.growN hN9.symm (HNn.out.on hbL) (j := G.length) (by rw [hN9]; exact hat9) (u := u6) (c := (cat' (G ++ [[]]) G.length).map (Value.int .i64) ++ [.int .i64 (k : Int)]) (by rw [List.length_append, List.length_map]; exact ho6) (by rw [hvu]; exact hg6) (by rw [hvu]; simpa only [World.size_alloc] using hat6) (by simp))
              have hout6 := World.ownsRow.kept (HNn.out.on hbL).out hg6 (own_ne (fun g h1 h2 => (HNn.out.on hbL).top G.length g (by rw [hN9]; exact hat9) (by rw [hvu]; exact h2) h1))
              rw [hN9] at hout6
              have c6 := (own_slI hout6 (by rw [HNn.out.len, hN9]) G.length hat9)
              obtain ⟨g6, hg66, -, hgl6, f6, z6⟩ := c6
              cases hg66
              have Hb6 := Lib.hid (show Below wp.heap.size wp w6 from Below.grown (bal Hbw.out (Obj.cells #[.int .i64 (k : Int)] 3)) hg6 (by have := Hbw.out.size; simp; omega) (fun k9 h9 => (World.ownsRow.lt Hrow.out k9 h9).1))
              have Hb7 := Lib.hid (bst Hb6.out (p := ⟨g0, G.length, none⟩) hgb u6)
              have HGG := Lib.hid (show NOwn (w6.setCell ⟨g0, G.length, none⟩ u6) 43 3 wp.heap.size (w6.setCell ⟨g0, G.length, none⟩ u6).heap.size (.slice (some ⟨g0, 0, none⟩) (G ++ [[]]).length c9) (vs9.set G.length u6) (cellsII (frmV M (k + 1))) by rw [show cellsII (frmV M (k + 1)) = (cellsII (G ++ [[]])).set G.length ((cat' (G ++ [[]]) G.length).map (Value.int .i64) ++ [.int .i64 (k : Int)]) by rw [Hadd.out, cat_last, ← set_last G [(k : Int)], cells_set]; rfl]; exact HG.out)
              clear ho6 hg6 hat6 hbL hout6 hvu f0 HG
              subst hu6
              have hgg : (G ++ [[]]).length = G.length + 1 := by simp
              rw [hgg] at HGG
              go_wp2
              go_roundw
              case rel => exact ⟨k + 1, _, by omega, by go_num, HGG, Hb7⟩
              case measure => simp [intOf]; omega
            · have hd : ((f : Int) == (k : Int)) = false := by simp; omega
              have Hix := Lib.hid (Hold.out hfk2)
              have Hadd := Lib.hid (show frmV M (k + 1) = G.set (ixG M G k) (cat' G (ixG M G k) ++ [(k : Int)]) by rw [Hsucc.out]; unfold addG; rw [if_pos Hix.out])
              have Hfx := Lib.hid (show fxG G (f : Int) = (ixG M G k : Int) from fxG_at Hix.out (by rw [Hcl.out _ Hix.out]; exact decide_eq_true (ix_at Hix.out)) (fun j hj => by rw [Hcl.out j (Nat.lt_trans hj Hix.out)]; exact decide_eq_false (ix_before hj (Nat.lt_trans hj Hix.out))))
              have Hm9b := Lib.hid (Hm9.out _ Hix.out)
              have Hgl2 := Hgl
              clear hfk2 Hcl Hcl2 Hold Hnew Hm9
              have Hm9 := Hm9b
              generalize ixG M G k = q at Hix Hadd Hfx Hm9b Hm9
              have HN4 := Lib.hid ((Hn.out.on HbI.out).more HbI.out.size)
              have Hw4 := Lib.hid (bthen Hb2.out HbI.out)
              have p0 : (w3.alloc (Obj.cells #[.int .i64 (f : Int)] 3)).cell? ⟨w3.heap.size, 0, none⟩ = some (.int .i64 (f : Int)) := HBI.out.cell 0
              have pl := HBI.out.lt
              have P0 := Lib.hid p0; have Pl := Lib.hid pl; clear p0 pl
              go_wp2_with fail
              refine (ixF_any _ G w3.heap.size (f : Int) _ (NRd.of_own HN4.out) P0.out Pl.out).mono ?_; rintro e w9 ⟨rfl, hb9⟩
              rw [Hfx.out]
              have HN := Lib.hid ((HN4.out.on hb9).more hb9.size)
              have Hbw := Lib.hid (bthen Hw4.out hb9)
              clear hb9
              generalize hvs9 : vs = vs9 at HN
              obtain ⟨A9, c9, hv9⟩ := own_formI HN.out.out
              subst hv9
              have Hat := Hix
              clear hvs9
              obtain ⟨g0, hA9, hgb, hgl, f0, -⟩ := own_slI (HN.out.out) (by rw [HN.out.len]) q (by rw [lenII]; exact Hat.out)
              subst hA9
              have hrow := HN.out.row q (by rw [lenII]; exact Hat.out)
              rw [cat_cellsII Hat.out] at hrow
              have hob := (rfl : vat vs9 q = vat vs9 q)
              obtain ⟨u, hu⟩ : ∃ u, vat vs9 q = u := ⟨_, rfl⟩
              rw [hu] at f0 hrow
              have Hu := Lib.hid hu; clear hu hob
              have hm9 := Hm9.out
              have hml : ((cat' (G) q).map (Value.int .i64)).length = (cat' (G) q).length := List.length_map ..
              obtain ⟨Au, cu, hu2⟩ := own_formI hrow
              subst hu2
              rw [hml] at hrow f0
              have Hrow := Lib.hid hrow; clear hrow hml
              have hN9 : (cellsII (G)).length = (G).length := lenII _
              have hat9 := Hat.out
              have hi0 : (0 : Int) ≤ ((q : Nat) : Int) := by omega
              have hi1 : ((q : Nat) : Int) < (((G).length : Nat) : Int) := by omega
              have HNn := Lib.hid (show NOwn w9 43 3 wp.heap.size w9.heap.size (.slice (some ⟨g0, 0, none⟩) (G).length c9) vs9 (cellsII (G)) by rw [← hN9]; exact HN.out)
              rw [hN9]
              go_wp2_with (at_builtin; refine wpList_append_own_at _ rfl _ _ 43 rfl wp.heap.size 3 j0 (.int .i64 0) 1 8 Try.underlying43 ji jz0 jz1 jz2 rfl (by decide) _ _ _ rfl (Hrow.out.alloc _) ⟨w9.heap.size, 0, none⟩ 1 1 [.int .i64 (k : Int)] rfl rfl ?d1 ?d2 ?d3 ?d4 ?d5 ?_)
              case d1 =>
                intro j u hj
                match j, hj with
                | 0, hj => simp at hj; subst hj; exact (Blk.new w9 _ _).cell 0
              case d2 => intro u hu; simp at hu; subst hu; rfl
              case d3 => unfold maxLen; omega
              case d4 => omega
              case d5 => have := Hbw.out.size; simp; omega
              intro u6 w6 ho6 hg6 _ hat6
              obtain ⟨A6, c66, hu6⟩ := own_formI ho6
              have hbL := bal (Below.refl w9.heap.size w9) (Obj.cells #[.int .i64 (k : Int)] 3)
              have hvu : (vat vs9 q).ownBlock = (Value.slice Au (cat' (G) q).length cu).ownBlock := by rw [Hu.out, List.length_map]
              have HG := Lib.hid (NOwn.growN hN9.symm (HNn.out.on hbL) (j := q) (by rw [hN9]; exact hat9) (u := u6) (c := (cat' (G) q).map (Value.int .i64) ++ [.int .i64 (k : Int)]) (by rw [List.length_append, List.length_map]; exact ho6) (by rw [hvu]; exact hg6) (by rw [hvu]; simpa only [World.size_alloc] using hat6) (by simp))
              have hout6 := World.ownsRow.kept (HNn.out.on hbL).out hg6 (own_ne (fun g h1 h2 => (HNn.out.on hbL).top q g (by rw [hN9]; exact hat9) (by rw [hvu]; exact h2) h1))
              rw [hN9] at hout6
              have c6 := (own_slI hout6 (by rw [HNn.out.len, hN9]) q hat9)
              obtain ⟨g6, hg66, -, hgl6, f6, z6⟩ := c6
              cases hg66
              have Hb6 := Lib.hid (show Below wp.heap.size wp w6 from Below.grown (bal Hbw.out (Obj.cells #[.int .i64 (k : Int)] 3)) hg6 (by have := Hbw.out.size; simp; omega) (fun k9 h9 => (World.ownsRow.lt Hrow.out k9 h9).1))
              have Hb7 := Lib.hid (bst Hb6.out (p := ⟨g0, q, none⟩) hgb u6)
              have HGG := Lib.hid (show NOwn (w6.setCell ⟨g0, q, none⟩ u6) 43 3 wp.heap.size (w6.setCell ⟨g0, q, none⟩ u6).heap.size (.slice (some ⟨g0, 0, none⟩) (G).length c9) (vs9.set q u6) (cellsII (frmV M (k + 1))) by rw [show cellsII (frmV M (k + 1)) = (cellsII G).set q ((cat' G q).map (Value.int .i64) ++ [.int .i64 (k : Int)]) by rw [Hadd.out, cells_set, List.map_append]; rfl]; exact HG.out)
              clear ho6 hg6 hat6 hbL hout6 hvu f0 HG
              subst hu6
              go_wp2
              go_roundw
              case rel => exact ⟨k + 1, _, by omega, by go_num, HGG, Hb7⟩
              case measure => simp [intOf]; omega
          · obtain rfl : k = L.length := by omega
            go_wp2
            go_ret2
            exact ⟨⟨_, vs, by rw [Hv.out]; rfl, by rw [Hv.out]; exact Hn.out.less HbP.out.size⟩, bthen HbP.out Hb2.out⟩
  · have hl9d : decide ((20 : Int) < (L.length : Int)) = true := decide_eq_true (by omega)
    have Hv := Lib.hid (okF_long (L := L) (by omega))
    go_enter Try.func24, Try.ntmps24
    go_wp2
    go_ret2
    exact ⟨⟨_, [], by rw [Hv.out]; rfl, by rw [Hv.out]; exact NOwn.nil _ _ _ _ _⟩, Below.refl _ _⟩
end Go.Proofs.Ytnhgdmhiblpknaa
