/- Forms grouped by isomorphism: the specification's walk. Conditions: none. Printed by gen_icg2.py. -/
import Derived.Test.YtnhgdmhiblpknaaIcG
namespace Go.Proofs.Ytnhgdmhiblpknaa
open Go Go.RowKit

set_option maxRecDepth 8000 in
set_option maxHeartbeats 16000000 in
theorem formsS_any (v : Value) (L : List Cu) (w : World) (h : Rd cuS w w.heap.size v L) :
    Calls Try.prog 25 #[v] w fun r w' => NRetI w.heap.size (formsV L) r w' ∧ Below w.heap.size w w' := by
  obtain ⟨j0, ji, jz0, jz1, jz2⟩ := info_parts infoIntC
  obtain ⟨s0, si, sz0, sz1, sz2⟩ := info_parts infoSlI
  have Hr := Lib.hid h
  obtain ⟨A, c, rfl, hcc, hm, hA⟩ := h
  unfold maxLen at hm
  by_cases hl : L.length ≤ 20
  · have hl9 : ¬ (20 : Int) < (L.length : Int) := by omega
    have hl9d : decide ((20 : Int) < (L.length : Int)) = false := decide_eq_false hl9
    go_enter Try.func25, Try.ntmps25
    go_wp2
    go_loopw [17] (fun i wr => ∃ k : Nat, k ≤ L.length ∧ i = .int .i64 k ∧ Hid (∀ j, j < k → curveB (cuS.get L j).a (cuS.get L j).b = true) ∧ Hid (Below w.heap.size w wr)) (fun i _ => L.length - (intOf i).toNat)
    case atStart => exact ⟨0, Nat.zero_le _, rfl, Lib.hid (fun j hj => absurd hj (Nat.not_lt_zero _)), Lib.hid (Below.refl _ _)⟩
    case round =>
      obtain ⟨k, hk, rfl, Hok, Hb⟩ := hrel
      by_cases hlt : k < L.length
      · obtain ⟨g, off, rfl, hg, hcell⟩ := hA (by omega)
        obtain ⟨f0, f1⟩ := cu_cells hcell k hlt
        clear hcell hA
        rw [← Hb.out.cell (p := ⟨_, _, _⟩) hg] at f0 f1
        have hgr : g < wr.heap.size := Nat.lt_of_lt_of_le hg Hb.out.size
        have hi0 : (0 : Int) ≤ (k : Int) := by omega
        have hi1 : (k : Int) < (L.length : Int) := by omega
        have Hbad := Lib.hid (fun h => okF_bad hlt h)
        have Hst := Lib.hid (fun h => all_lt_succ (p := fun j => curveB (cuS.get L j).a (cuS.get L j).b = true) Hok.out h)
        generalize cuS.get L k = x at f0 f1 Hbad Hst
        have HbX := Lib.hid (bal (Below.refl wr.heap.size wr) (Obj.cells #[.int .i64 x.a, .int .i64 x.b] 37))
        cases hcv : curveB x.a x.b
        · have Hv := Lib.hid (Hbad.out hcv)
          go_wp2_with fail
          refine (cvS_lit hcv _).mono ?_; rintro e w3 ⟨rfl, hb3⟩
          have Hb3 := Lib.hid (bthen Hb.out (bthen HbX.out hb3))
          clear hb3
          go_wp2
          go_ret2
          exact ⟨⟨_, [], by rw [Hv.out]; rfl, by rw [Hv.out]; exact NOwn.nil _ _ _ _ _⟩, Hb3.out⟩
        · have Hst2 := Lib.hid (Hst.out hcv)
          go_wp2_with fail
          refine (cvS_lit hcv _).mono ?_; rintro e w3 ⟨rfl, hb3⟩
          have Hb3 := Lib.hid (bthen Hb.out (bthen HbX.out hb3))
          clear hb3 f0 f1 hgr
          go_wp2
          go_roundw
          case rel => exact ⟨k + 1, by omega, by go_num, Hst2, Hb3⟩
          case measure => simp [intOf]; omega
      · obtain rfl : k = L.length := by omega
        have Hv := Lib.hid (okF_yes hl Hok.out)
        have HOK := Lib.hid Hok.out
        have HbP := Lib.hid Hb.out; clear Hb Hok hlt
        generalize wr = wp at HbP ⊢
        have HMg := Lib.hid (fun j (hj : j < L.length) => mdl_get hj)
        have Hfrm := Lib.hid (fun n => frm (mdl L) n)
        obtain ⟨M, hMM⟩ : ∃ M, mdl L = M := ⟨_, rfl⟩
        rw [hMM] at Hv Hfrm HMg
        clear hMM
        go_wp2
        go_loopw [27, 6] (fun i o wr => ∃ (k : Nat) (vs : List Value), k ≤ L.length ∧ i = .int .i64 k ∧ Hid (NOwn wr 43 3 w.heap.size wr.heap.size o vs (cellsII (frmV M k))) ∧ Hid (Below w.heap.size w wr)) (fun i _ _ => L.length - (intOf i).toNat)
        case atStart => exact ⟨0, [], Nat.zero_le _, rfl, Lib.hid (NOwn.nil _ _ _ _ _), HbP⟩
        case round =>
          obtain ⟨k, vs, hk, rfl, Hn, Hb⟩ := hrel
          by_cases hlt : k < L.length
          · obtain ⟨g, off, rfl, hg, hcell⟩ := hA (by omega)
            obtain ⟨f0, f1⟩ := cu_cells hcell k hlt
            clear hcell hA
            rw [← Hb.out.cell (p := ⟨_, _, _⟩) hg] at f0 f1
            have hgr : g < wr.heap.size := Nat.lt_of_lt_of_le hg Hb.out.size
            have hi0 : (0 : Int) ≤ (k : Int) := by omega
            have hi1 : (k : Int) < (L.length : Int) := by omega
            have hF := Hfrm.out k
            have Hgl := Lib.hid hF.len
            have Hsucc := Lib.hid (show frmV M (k + 1) = addG M (frmV M k) k from rfl)
            have Hlen := Lib.hid (fun (h : ixG M (frmV M k) k < (frmV M k).length) => (show (frmV M (k + 1)).length = (frmV M k).length by show (addG M (frmV M k) k).length = _; unfold addG; rw [if_pos h, List.length_set]))
            have Hne := Lib.hid (fun j (hj : j < (frmV M k).length) => (show ∃ (h : Nat) (l : List Int), cat' (frmV M k) j = (h : Int) :: l ∧ h < k from by obtain ⟨a, l, e1, h1, h2⟩ := hF.ne (cat' (frmV M k) j) (by rw [cat_at hj]; exact List.getElem_mem hj); exact ⟨a, l, e1, h1⟩))
            have Hm9 := Lib.hid (show ∀ j, j < (frmV M k).length → (cat' (frmV M k) j).length ≤ 20 from fun j hj => by have h1 := cat_len_le (frmV M k) hj; rw [hF.tot] at h1; omega)
            clear hF
            have Hmk := Lib.hid (HMg.out k hlt)
            have Hcx := Lib.hid (HOK.out k hlt)
            obtain ⟨x, hx⟩ : ∃ x, cuS.get L k = x := ⟨_, rfl⟩
            rw [hx] at f0 f1 Hmk Hcx
            clear hx
            generalize hG : frmV M k = G at Hn Hgl Hsucc Hlen Hne Hm9
            clear hG
            have HbX := Lib.hid (bal (Below.refl wr.heap.size wr) (Obj.cells #[.int .i64 x.a, .int .i64 x.b] 37))
            have HBX := Lib.hid (Blk.new wr 37 #[.int .i64 x.a, .int .i64 x.b])
            have HnX := Lib.hid ((Hn.out.on HbX.out).more HbX.out.size)
            have HbZ := Lib.hid (bthen Hb.out HbX.out)
            obtain ⟨A9, c9, hv9⟩ := own_formI Hn.out.out
            subst hv9
            have hN9 : (cellsII G).length = G.length := lenII _
            rw [hN9] at HnX ⊢
            clear hN9 Hn
            obtain ⟨bx, hbx⟩ : ∃ bx, wr.heap.size = bx := ⟨_, rfl⟩
            rw [hbx] at HBX
            have Hbx := Lib.hid hbx; clear hbx
            go_wp2
            rw [Hbx.out]
            generalize hwb : wr.alloc (Obj.cells #[.int .i64 x.a, .int .i64 x.b] 37) = wb at HbX HBX HnX HbZ ⊢
            go_loopw [34, 9] (fun j p wr => ∃ (n : Nat) (q : Bool) (us : List Value), n ≤ G.length ∧ j = .int .i64 n ∧ p = .bool q ∧ Hid (NOwn wr 43 3 w.heap.size wr.heap.size (.slice A9 G.length c9) us (cellsII (if q = true then frmV M (k + 1) else G))) ∧ Hid (q = false → ∀ i, i < n → cuS.get M (hdG (cat' G i)) ≠ cuS.get M k) ∧ Hid (q = true → ixG M G k < G.length) ∧ Hid (q = false → Blk wr bx 37 #[.int .i64 x.a, .int .i64 x.b]) ∧ Hid (Below w.heap.size w wr)) (fun j _ _ => G.length - (intOf j).toNat)
            case atStart => exact ⟨0, false, vs, Nat.zero_le _, rfl, rfl, HnX, Lib.hid (fun _ i hi => absurd hi (Nat.not_lt_zero _)), Lib.hid (fun h => by cases h), Lib.hid (fun _ => HBX.out), HbZ⟩
            case round =>
              obtain ⟨n, q, us, hn, rfl, rfl, HN, Hno, Hyes, HB, Hbi⟩ := hrel
              have hgl9 := Hgl.out
              by_cases hltn : n < G.length
              · have Hat := Lib.hid hltn
                cases q
                · have HB0 := Lib.hid (HB.out rfl)
                  have HN0 := Lib.hid (show NOwn wr 43 3 w.heap.size wr.heap.size (.slice A9 G.length c9) us (cellsII G) from HN.out)
                  clear HN
                  have HN := HN0
                  have hN9 : (cellsII G).length = G.length := lenII _
                  obtain ⟨g0, hA9, hgb, hgl, f9, -⟩ := own_slI (show wr.ownsRow w.heap.size 43 1 (.slice A9 G.length c9) G.length us by have h1 := HN.out.out; rw [hN9] at h1; exact h1) (by rw [HN.out.len, hN9]) n hltn
                  subst hA9
                  have hrow := HN.out.row n (by rw [hN9]; exact hltn)
                  rw [cat_cellsII hltn] at hrow
                  have hml : ((cat' G n).map (Value.int .i64)).length = (cat' G n).length := List.length_map ..
                  obtain ⟨Au, cu, hu⟩ := own_formI hrow
                  rw [hml] at hu
                  have Hu := Lib.hid hu
                  rw [hu] at hrow f9
                  clear hu
                  rw [hml] at hrow
                  have Hrow := Lib.hid hrow
                  obtain ⟨h0, l0, he, hh0⟩ := Hne.out n hltn
                  have hlp : 0 < (cat' G n).length := by rw [he]; simp
                  obtain ⟨gr, hAu, hgrb, hgrl, f10, -⟩ := own_slI hrow (by rw [hml]) 0 hlp
                  subst hAu
                  have e10 : vat ((cat' G n).map (Value.int .i64)) 0 = .int .i64 (h0 : Int) := by rw [he]; rfl
                  rw [e10] at f10
                  clear e10 hrow hml hN9
                  have hd0 : hdG (cat' G n) = h0 := by rw [he, hdG_cons]
                  clear he
                  obtain ⟨g5, o5, hg55, -, hcell5⟩ := (by obtain ⟨A5, c5, hv5, -, -, hA5⟩ := Hr.out; cases hv5; obtain ⟨g5, o5, h5, h6, h7⟩ := hA5 (by omega); exact ⟨g5, o5, h5, h6, h7⟩ : ∃ g5 o5, (some (⟨g, off, none⟩ : Addr)) = some ⟨g5, o5, none⟩ ∧ g5 < w.heap.size ∧ ∀ k, k < L.length → ∀ j, j < cuS.size → w.cell? ⟨g5, o5 + k * cuS.size + j, none⟩ = some (cuS.cell (cuS.get L k) j))
                  cases hg55
                  obtain ⟨p0, p1⟩ := cu_cells hcell5 h0 (by omega)
                  clear hcell5
                  rw [← Hbi.out.cell (p := ⟨_, _, _⟩) hg] at p0 p1
                  have Hmh := Lib.hid (HMg.out h0 (by omega))
                  have Hcy := Lib.hid (HOK.out h0 (by omega))
                  obtain ⟨y, hy⟩ : ∃ y, cuS.get L h0 = y := ⟨_, rfl⟩
                  rw [hy] at p0 p1 Hmh Hcy
                  clear hy
                  have hi2 : (0 : Int) ≤ (h0 : Int) := by omega
                  have hi3 : (h0 : Int) < (L.length : Int) := by omega
                  have hj0 : (0 : Int) ≤ (n : Int) := by omega
                  have hj1 : (n : Int) < (G.length : Int) := by omega
                  have hl0 : (0 : Int) < ((cat' G n).length : Int) := by omega
                  have hgr2 : g < wr.heap.size := Nat.lt_of_lt_of_le hg Hbi.out.size
                  have q0 : wr.cell? ⟨bx, 0, none⟩ = some (.int .i64 x.a) := (HB.out rfl).cell 0
                  have q1 : wr.cell? ⟨bx, 1, none⟩ = some (.int .i64 x.b) := (HB.out rfl).cell 1
                  have ql := (HB.out rfl).lt
                  have Hec := Lib.hid (fun (W : World) => ecSame_any y.a y.b x.a x.b W Hcy.out Hcx.out)
                  rw [← Hmh.out, ← Hmk.out] at Hec
                  have Hm0 := Lib.hid (Hm9.out n hltn)
                  have Hd0 := Lib.hid hd0; clear hd0
                  by_cases hm : cuS.get M h0 = cuS.get M k
                  · have hdm : decide (cuS.get M h0 = cuS.get M k) = true := decide_eq_true hm
                    rw [hdm] at Hec
                    have Hix := Lib.hid (show ixG M G k = n from ix_eq hltn (by rw [Hd0.out]; exact hm) (Hno.out rfl))
                    have Hadd := Lib.hid (show frmV M (k + 1) = G.set n (cat' G n ++ [(k : Int)]) by rw [Hsucc.out]; unfold addG; rw [if_pos (by rw [Hix.out]; exact hltn), Hix.out])
                    clear hdm hm
                    go_wp2
                    refine wp_region_tame (by kernel_rfl) (by kernel_rfl) (fun T _ W hT => ?_)
                    have hxx := hT.cell
                    repeat (go_big_quiet_step (first | (go_at_call 58; with_reducible exact hT.call (Hec.out _)) | fail))
                    refine wpQuiet_nil ?_
                    intro t
                    clear hxx
                    have hbt := hT.below t
                    have HN8 := Lib.hid ((HN.out.on hbt).more hbt.size)
                    have Hrow8 := Lib.hid (own_below Hrow.out hbt)
                    have Hbw := Lib.hid (bthen Hbi.out hbt)
                    clear hbt f9 f10 p0 p1 q0 q1 ql HN Hrow
                    have HN := HN8
                    have Hrow := Hrow8
                    have Hm9 := Hm0
                    clear HN8 Hrow8 Hm0
                    generalize W t = w9 at HN Hrow Hbw ⊢
                    clear hT
                    have hN9 : (cellsII G).length = G.length := lenII _
                    have hat9 := Hat.out
                    have hm9 := Hm9.out
                    have HNn := HN
                    go_wp2_with (at_builtin; refine wpList_append_own_at _ rfl _ _ 43 rfl w.heap.size 3 j0 (.int .i64 0) 1 8 Try.underlying43 ji jz0 jz1 jz2 rfl (by decide) _ _ _ rfl (Hrow.out.alloc _) ⟨w9.heap.size, 0, none⟩ 1 1 [.int .i64 (k : Int)] rfl rfl ?d1 ?d2 ?d3 ?d4 ?d5 ?_)
                    case d1 =>
                      intro j u hj
                      match j, hj with
                      | 0, hj => simp at hj; subst hj; exact (Blk.new w9 _ _).cell 0
                    case d2 => intro u hu; simp at hu; subst hu; rfl
                    case d3 => unfold maxLen; omega
                    case d4 => omega
                    case d5 => have := Hbw.out.size; simp; omega
                    intro u6 w6 ho6 hg6 _ hat6
                    obtain ⟨A6, c66, hu6⟩ := own_formI ho6
                    have hbL := bal (Below.refl w9.heap.size w9) (Obj.cells #[.int .i64 (k : Int)] 3)
                    have hvu : (vat us n).ownBlock = (Value.slice (some ⟨gr, 0, none⟩) (cat' G n).length cu).ownBlock := by rw [Hu.out]
                    have HG := Lib.hid (NOwn.growN hN9.symm (HNn.out.on hbL) (j := n) (by rw [hN9]; exact hat9) (u := u6) (c := (cat' G n).map (Value.int .i64) ++ [.int .i64 (k : Int)]) (by rw [List.length_append, List.length_map]; exact ho6) (by rw [hvu]; exact hg6) (by rw [hvu]; simpa only [World.size_alloc] using hat6) (by simp))
                    have hout6 := World.ownsRow.kept (HNn.out.on hbL).out hg6 (own_ne (fun g h1 h2 => (HNn.out.on hbL).top n g (by rw [hN9]; exact hat9) (by rw [hvu]; exact h2) h1))
                    rw [hN9] at hout6
                    have c6 := (own_slI hout6 (by rw [HNn.out.len, hN9]) n hat9)
                    obtain ⟨g6, hg66, -, hgl6, f6, z6⟩ := c6
                    cases hg66
                    have Hb6 := Lib.hid (show Below w.heap.size w w6 from Below.grown (bal Hbw.out (Obj.cells #[.int .i64 (k : Int)] 3)) hg6 (by have := Hbw.out.size; simp; omega) (fun k9 h9 => (World.ownsRow.lt Hrow.out k9 h9).1))
                    have Hb7 := Lib.hid (bst Hb6.out (p := ⟨g0, n, none⟩) hgb u6)
                    have HGG := Lib.hid (show NOwn (w6.setCell ⟨g0, n, none⟩ u6) 43 3 w.heap.size (w6.setCell ⟨g0, n, none⟩ u6).heap.size (.slice (some ⟨g0, 0, none⟩) G.length c9) (us.set n u6) (cellsII (frmV M (k + 1))) by rw [show cellsII (frmV M (k + 1)) = (cellsII G).set n ((cat' G n).map (Value.int .i64) ++ [.int .i64 (k : Int)]) by rw [Hadd.out, cells_set, List.map_append]; rfl]; exact HG.out)
                    clear ho6 hg6 hat6 hbL hout6 hvu HG
                    subst hu6
                    go_wp2
                    go_roundw
                    case rel => exact ⟨n + 1, true, _, by omega, by go_num, rfl, HGG, Lib.hid (fun h => by cases h), Lib.hid (fun _ => by rw [Hix.out]; exact hltn), Lib.hid (fun h => by cases h), Hb7⟩
                    case measure => simp [intOf]; omega
                  · have hdm : decide (cuS.get M h0 = cuS.get M k) = false := decide_eq_false hm
                    rw [hdm] at Hec
                    have Hno2 := Lib.hid (all_lt_succ (p := fun i => cuS.get M (hdG (cat' G i)) ≠ cuS.get M k) (Hno.out rfl) (by rw [Hd0.out]; exact hm))
                    clear hdm hm
                    go_wp2
                    refine wp_region_tame (by kernel_rfl) (by kernel_rfl) (fun T _ W hT => ?_)
                    have hxx := hT.cell
                    repeat (go_big_quiet_step (first | (go_at_call 58; with_reducible exact hT.call (Hec.out _)) | fail))
                    refine wpQuiet_nil ?_
                    intro t
                    clear hxx
                    have hbt := hT.below t
                    have HN8 := Lib.hid ((HN.out.on hbt).more hbt.size)
                    have Hbw := Lib.hid (bthen Hbi.out hbt)
                    have HB8 := Lib.hid (HB0.out.on hbt)
                    clear hbt f9 f10 p0 p1 q0 q1 ql
                    go_wp2
                    go_roundw
                    case rel => exact ⟨n + 1, false, us, by omega, by go_num, rfl, HN8, Lib.hid (fun _ => Hno2.out), Lib.hid (fun h => by cases h), Lib.hid (fun _ => HB8.out), Hbw⟩
                    case measure => simp [intOf]; omega
                · have Hy2 := Lib.hid (Hyes.out rfl)
                  have HN0 := Lib.hid (show NOwn wr 43 3 w.heap.size wr.heap.size (.slice A9 G.length c9) us (cellsII (frmV M (k + 1))) from HN.out)
                  have hN9 : (cellsII (frmV M (k + 1))).length = G.length := by rw [lenII]; exact Hlen.out (Hyes.out rfl)
                  obtain ⟨g0, hA9, hgb, hgl, f9, -⟩ := own_slI (show wr.ownsRow w.heap.size 43 1 (.slice A9 G.length c9) G.length us by have h1 := HN0.out.out; rw [hN9] at h1; exact h1) (by rw [HN0.out.len, hN9]) n hltn
                  subst hA9
                  clear hN9 HN0
                  have hj0 : (0 : Int) ≤ (n : Int) := by omega
                  have hj1 : (n : Int) < (G.length : Int) := by omega
                  go_wp2
                  refine wp_region_tame (by kernel_rfl) (by kernel_rfl) (fun T _ W hT => ?_)
                  have hxx := hT.cell
                  repeat (go_big_quiet_step (fail))
                  refine wpQuiet_nil ?_
                  intro t
                  clear hxx
                  have hbt := hT.below t
                  have HN8 := Lib.hid ((HN.out.on hbt).more hbt.size)
                  have Hbw := Lib.hid (bthen Hbi.out hbt)
                  clear hbt f9
                  go_wp2
                  go_roundw
                  case rel => exact ⟨n + 1, true, us, by omega, by go_num, rfl, HN8, Lib.hid (fun h => by cases h), Lib.hid (fun _ => Hy2.out), Lib.hid (fun h => by cases h), Hbw⟩
                  case measure => simp [intOf]; omega
              · obtain rfl : n = G.length := by omega
                clear f0 f1
                cases q
                · have Hadd := Lib.hid (show frmV M (k + 1) = G ++ [[(k : Int)]] by rw [Hsucc.out]; unfold addG; rw [ix_none (Hno.out rfl), if_neg (Nat.lt_irrefl _)])
                  have HN0 := Lib.hid (show NOwn wr 43 3 w.heap.size wr.heap.size (.slice A9 G.length c9) us (cellsII G) from HN.out)
                  have hN9 : (cellsII G).length = G.length := lenII _
                  have Hout := Lib.hid (show wr.ownsRow w.heap.size 43 1 (.slice A9 G.length c9) G.length us by have h1 := HN0.out.out; rw [hN9] at h1; exact h1)
                  have hszw : w.heap.size ≤ wr.heap.size := Hbi.out.size
                  go_wp2_with (at_builtin; refine wpList_append_own_at _ rfl _ _ 24 rfl w.heap.size 43 s0 (.slice none 0 0) 1 24 Try.underlying24 si sz0 sz1 sz2 rfl (by decide) _ _ _ rfl ((Hout.out.alloc _).alloc _) ⟨wr.heap.size + 1, 0, none⟩ 1 1 [.slice (some ⟨wr.heap.size, 0, none⟩) 1 1] rfl rfl ?e1 ?e2 ?e3 ?e4 ?e5 ?_)
                  try
                    case e1 =>
                      intro j u hj
                      match j, hj with
                      | 0, hj => simp at hj; subst hj; exact (Blk.new1 wr _ _ _).cell 0
                  case e2 => first | rfl | (intro u hu; simp at hu; subst hu; rfl)
                  case e3 => unfold maxLen; omega
                  case e4 => omega
                  case e5 => first | omega | (simp; omega)
                  intro v8 w8 hown8 hg8 _ hat8
                  have hbA := bal (bal (Below.refl wr.heap.size wr) (Obj.cells #[.int .i64 (k : Int)] 3)) (Obj.cells #[.slice (some ⟨wr.heap.size, 0, none⟩) 1 1] 43)
                  have hin : ((wr.alloc (Obj.cells #[.int .i64 (k : Int)] 3)).alloc (Obj.cells #[.slice (some ⟨wr.heap.size, 0, none⟩) 1 1] 43)).ownsRow w.heap.size 3 1 (.slice (some ⟨wr.heap.size, 0, none⟩) 1 1) [Value.int .i64 (k : Int)].length [Value.int .i64 (k : Int)] := (World.ownsRow_lit wr #[.int .i64 (k : Int)] 1 hszw (by unfold maxLen; omega) (by simp)).alloc _
                  have hown8b := hown8
                  rw [← hN9] at hown8b
                  have Hn8 := Lib.hid (NOwn.snoc (HN0.out.on hbA) hg8 hown8b (by simpa only [World.size_alloc] using hat8) hin (fun g hg => by simp [Value.ownBlock] at hg; subst hg; constructor <;> (simp; try omega)) (by simp; omega))
                  have Hb8 := Lib.hid (show Below w.heap.size w w8 from Below.grown ((Hbi.out.alloc hszw _).alloc (by simp; omega) _) hg8 (by simp; omega) (fun j hj => (Hout.out.lt j hj).1))
                  clear hown8 hown8b hg8 hat8 hin hbA
                  go_wp2
                  go_roundw
                  case rel => exact ⟨k + 1, _, by omega, by go_num, Lib.hid (by rw [Hadd.out, cells_snoc]; exact Hn8.out), Hb8⟩
                  case measure => simp [intOf]; omega
                · go_wp2
                  go_roundw
                  case rel => exact ⟨k + 1, us, by omega, by go_num, Lib.hid (show NOwn wr 43 3 w.heap.size wr.heap.size (.slice A9 G.length c9) us (cellsII (frmV M (k + 1))) from HN.out), Hbi⟩
                  case measure => simp [intOf]; omega
          · obtain rfl : k = L.length := by omega
            go_wp2
            go_ret2
            exact ⟨⟨_, vs, by rw [Hv.out]; rfl, by rw [Hv.out]; exact Hn.out⟩, Hb.out⟩
  · have hl9d : decide ((20 : Int) < (L.length : Int)) = true := decide_eq_true (by omega)
    have Hv := Lib.hid (okF_long (L := L) (by omega))
    go_enter Try.func25, Try.ntmps25
    go_wp2
    go_ret2
    exact ⟨⟨_, [], by rw [Hv.out]; rfl, by rw [Hv.out]; exact NOwn.nil _ _ _ _ _⟩, Below.refl _ _⟩
end Go.Proofs.Ytnhgdmhiblpknaa
