/- The walk of the reference's ParseCatalogue. Conditions: a bound on the text's length. -/
import Derived.Test.YticbmpjdcanjkaaDoorPcS
namespace Go.Proofs.YticbmpjdcanjkaaDoor
open Go Go.RowKit

theorem own_more_le {w : World} {b : Nat} {t : TypeId} {z n c : Nat} {A : Option Addr} {xs : List Value} (h : w.ownsRow b t z (.slice A n c) n xs) : c ≤ maxLen := by
  rcases h.2 with ⟨h', hn⟩ | ⟨g, cap, cur, h', hb, hg, hnc, hcm, -⟩
  · cases h'; unfold maxLen; omega
  · cases h'; exact hcm
set_option linter.unusedSimpArgs false in
set_option maxRecDepth 20000 in
set_option maxHeartbeats 8000000 in
theorem specPc_any (s : ByteArray) (w : World) (hs : s.size ≤ 1900000) :
    Calls Tryd.prog 4 #[.string s] w fun e w' => PcRet s w.heap.size e w' ∧ Below w.heap.size w w' := by
  obtain ⟨i0, hi, hz0, hz1, hz2⟩ := info_parts infoEn
  have hlen : s.data.toList.length = s.size := rfl
  have Hsp := Lib.hid (fun W => l1Split_any s 10 W (by omega))
  have hspl := spl_len 10 s.data.toList
  have hsne : (spl 10 s.data.toList).length ≠ 0 := fun h => spl_ne 10 s.data.toList (List.eq_nil_of_length_eq_zero h)
  have Hmem := Lib.hid (fun x hx => spl_mem 10 s.data.toList x hx)
  have Hmany := Lib.hid (fun h => pc_many (s := s) h)
  have Hbad := Lib.hid (fun j hp hc => PcInv.badS (s := s) (j := j) hp hc)
  have Hnext := Lib.hid (fun j xs h hp e hc => PcInv.nextS (s := s) (j := j) (xs := xs) h hp (e := e) hc)
  have Hdone := Lib.hid (fun j xs h hj es he => PcInv.doneS (s := s) (j := j) (xs := xs) h hj (es := es) he)
  rw [hlen] at hspl
  change Hid (∀ j (hp : j + 1 < (spl 10 s.data.toList).length), clS ((spl 10 s.data.toList)[j]'(Nat.lt_of_succ_lt hp)) = none → NoPc s) at Hbad
  change Hid (∀ j xs, PcInv s j xs → ∀ (hp : j + 1 < (spl 10 s.data.toList).length) (e : En), clS ((spl 10 s.data.toList)[j]'(Nat.lt_of_succ_lt hp)) = some e → PcInv s (j + 1) (xs ++ [e])) at Hnext
  generalize spl 10 s.data.toList = P at Hsp hspl hsne Hmem Hmany Hbad Hnext Hdone
  go_enter Tryd.func4, Tryd.ntmps4
  go_wp2_with fail
  refine (Hsp.out _).mono ?_; rintro e w1 ⟨⟨v1, rfl, hown⟩, hb1⟩
  have Hb1 := Lib.hid hb1; clear hb1
  obtain ⟨A1, c1, rfl⟩ := own_form hown
  have Hown1 := Lib.hid hown; clear hown
  have hcap1 := own_cap Hown1.out
  by_cases hmy : 13 < P.length
  · have HN := Lib.hid (Hmany.out hmy)
    have h1 : (13 : Int) < (P.length : Int) := by omega
    go_wp2
    go_ret2
    exact ⟨PcRet.no HN.out, Hb1.out⟩
  · have h1 : ¬ (13 : Int) < (P.length : Int) := by omega
    obtain ⟨n, hn⟩ : ∃ n, P.length = n + 1 := ⟨P.length - 1, by omega⟩
    rcases own_two Hown1.out with ⟨h0, h0', -⟩ | ⟨g1, rfl, hbg1, hlg1⟩
    · exact absurd h0' (by omega)
    have Hcell := Lib.hid (fun j (hj : j < P.length) => Hown1.out.cellAt j (by omega))
    have hcm := own_more_le Hown1.out
    unfold maxLen at hcm
    have Hn1 := Lib.hid hn
    have hn2 : ((P.length : Nat) : Int) = (n : Int) + 1 := by omega
    clear hsne hspl
    have hn12 : n ≤ 12 := by omega
    have hc9 : n ≤ c1 := by omega
    rw [hn] at h1 hmy hcap1 ⊢
    clear hn hn2
    have h2 : (n : Int) ≤ (c1 : Int) := by omega
    go_wp2
    clear hcm h1 hmy
    go_loopw [21, 5] (fun i o wr => ∃ (j : Nat) (xs : List En), j ≤ n ∧ i = .int .i64 j ∧ Hid (xs.length = j) ∧ Hid (PcInv s j xs) ∧ Below w1.heap.size w1 wr ∧ Hid (wr.ownsRow w1.heap.size 33 5 o xs.length (enS.flat xs))) (fun i _ _ => n - (intOf i).toNat)
    case atStart => exact ⟨0, [], Nat.zero_le _, rfl, Lib.hid rfl, Lib.hid (PcInv.zero s), Below.refl _ _, Lib.hid ⟨by simp [Shape.flat], Or.inl ⟨rfl, rfl⟩⟩⟩
    case round =>
      obtain ⟨j, xs, hj, rfl, Hxj, Hinv, hb, Hown⟩ := hrel
      have Hbr := Lib.hid (bthen Hb1.out hb)
      obtain ⟨A9, c9, rfl⟩ := own_form Hown.out
      by_cases hlt : j < n
      · have hjl : j + 1 < P.length := by rw [Hn1.out]; exact Nat.succ_lt_succ hlt
        have hjl' : j < P.length := Nat.lt_of_succ_lt hjl
        have f0 : wr.cell? ⟨g1, j, none⟩ = some (bsv (P[j]'hjl')) := by
          rw [hb.cell (p := ⟨g1, j, none⟩) hlg1, Hcell.out j hjl', List.getElem?_map, List.getElem?_eq_getElem hjl']; rfl
        have hlo := Nat.lt_of_lt_of_le hlg1 hb.size
        have Hsz := Lib.hid (Hmem.out (P[j]'hjl') (List.getElem_mem hjl'))
        have Hba := Lib.hid (Hbad.out j hjl)
        have Hne := Lib.hid (Hnext.out j xs Hinv.out hjl)
        generalize P[j]'hjl' = p at f0 Hsz Hba Hne
        have hi0 : (0 : Int) ≤ (j : Int) := by omega
        have hi1 : (j : Int) < (n : Int) := by omega
        have psz : (⟨p.toArray⟩ : ByteArray).size ≤ 1900000 := by show p.toArray.size ≤ _; rw [List.size_toArray]; have := Hsz.out; omega
        have Hcl := Lib.hid (fun W => caLine_any ⟨p.toArray⟩ W psz)
        rw [show (⟨p.toArray⟩ : ByteArray).data.toList = p from rfl] at Hcl
        unfold bsv at f0
        generalize (⟨p.toArray⟩ : ByteArray) = q at f0 Hcl psz
        go_wp2_with fail
        refine (Hcl.out _).mono ?_; rintro e w2 ⟨hcl, hb2⟩
        clear f0 hlo
        have Hb2 := Lib.hid (bthen Hbr.out hb2); have Hb12 := Lib.hid (bthen hb hb2); have Hown2 := Lib.hid (own_below Hown.out hb2); clear hb2
        rcases hcl with ⟨x, hx, rfl⟩ | ⟨hno, rfl⟩
        · have Hnew := Lib.hid (Hne.out x hx)
          clear hx Hne Hba
          obtain ⟨a, b, lo, hi9, to9⟩ := x
          have HB3 := Lib.hid (Blk.new w2 33 #[.int .i64 a, .int .i64 b, .int .i64 lo, .int .i64 hi9, .int .i64 to9])
          go_wp2_with (at_builtin; refine wpList_append_own _ rfl _ _ 22 rfl w1.heap.size 33 i0 (.agg #[.int .i64 0, .int .i64 0, .int .i64 0, .int .i64 0, .int .i64 0]) 5 40 Tryd.underlying22 hi hz0 hz1 hz2 rfl (by decide) _ _ _ rfl ((Hown2.out.alloc _).alloc _) ⟨w2.heap.size + 1, 0, none⟩ 1 1 (enS.flat [En.mk a b lo hi9 to9]) rfl rfl ?c1 ?c2 ?c3 ?c4 ?c5 ?_)
          case c1 =>
            intro j u hj
            rw [en5] at hj
            match j, hj with
            | 0, hj => simp at hj; subst hj; exact (Blk.new1 w2 _ _ _).cell 0
            | 1, hj => simp at hj; subst hj; exact (Blk.new1 w2 _ _ _).cell 1
            | 2, hj => simp at hj; subst hj; exact (Blk.new1 w2 _ _ _).cell 2
            | 3, hj => simp at hj; subst hj; exact (Blk.new1 w2 _ _ _).cell 3
            | 4, hj => simp at hj; subst hj; exact (Blk.new1 w2 _ _ _).cell 4
          case c2 => intro u hu; rw [en5] at hu; simp at hu; rcases hu with rfl | rfl | rfl | rfl | rfl <;> rfl
          case c3 => have := Hxj.out; unfold maxLen; omega
          case c4 => have := Hxj.out; omega
          case c5 => have := Hb12.out.size; simp; omega
          intro v' w8 hown' hgrow _
          have hb18 : Below w1.heap.size w1 w8 := Below.grown (bal (bal Hb12.out _) _) hgrow (by have := Hb12.out.size; simp; omega) (fun j hj => (Hown2.out.lt j hj).1)
          have Hown' := Lib.hid (show w8.ownsRow w1.heap.size 33 5 v' (xs ++ [En.mk a b lo hi9 to9]).length (enS.flat (xs ++ [En.mk a b lo hi9 to9])) by rw [Shape.flat_append, List.length_append]; exact hown')
          clear hown' hgrow
          go_wp2
          go_roundw
          case rel => exact ⟨j + 1, xs ++ [En.mk a b lo hi9 to9], by omega, by go_num, Lib.hid (by rw [List.length_append, List.length_singleton, Hxj.out]), Hnew, hb18, Hown'⟩
          case measure => simp [intOf]; omega
        · have HN := Lib.hid (Hba.out hno)
          clear hno
          go_wp2
          go_ret2
          exact ⟨PcRet.no HN.out, bal Hb2.out _⟩
      · obtain rfl : j = n := by omega
        have Hall := Lib.hid (fun es he => Hdone.out j xs Hinv.out Hn1.out.symm es he)
        have HRd := Lib.hid (Rd.of_own (S := enS) Hown.out rfl)
        have hx12 : xs.length ≤ 12 := by have := Hxj.out; omega
        clear Hbad Hnext Hdone Hsp Hmany Hcell
        go_wp2_with fail
        refine (caGood_any _ xs _ HRd.out).mono ?_; rintro e w2 ⟨rfl, hb2⟩
        have HRd2 := Lib.hid (HRd.out.on hb2); have Hb2 := Lib.hid (bthen Hbr.out hb2); have Hown2 := Lib.hid (own_below Hown.out hb2); clear hb2
        cases hcb : catB xs
        · have HN : Hid (NoPc s) := Lib.hid (fun es he => by have h1 := Hall.out es he; have h2 := he.1; rw [← h1, hcb] at h2; cases h2)
          clear hcb
          go_wp2
          go_ret2
          exact ⟨PcRet.no HN.out, Hb2.out⟩
        · have Hcb := Lib.hid hcb; clear hcb
          go_wp2_with fail
          refine (caText_any _ xs _ HRd2.out hx12 (catB_all9 Hcb.out).2).mono ?_; rintro e w3 ⟨rfl, hb3⟩
          have Hb3 := Lib.hid (bthen Hb2.out hb3); have Hown3 := Lib.hid (own_below Hown2.out hb3); clear hb3
          by_cases htx : catT xs xs.length = s
          · have hq : ((catT xs xs.length).toList == s.toList) = true := by rw [htx]; simp
            have HY : Hid (PcIs s xs) := Lib.hid ⟨Hcb.out, htx⟩
            clear htx
            go_wp2
            go_ret2
            exact ⟨PcRet.yes HY.out (own_mono Hown3.out Hb1.out.size), Hb3.out⟩
          · have hq : ((catT xs xs.length).toList == s.toList) = false := beq_eq_false_iff_ne.2 (fun e => htx (bytes_inj e))
            have HN : Hid (NoPc s) := Lib.hid (fun es he => by have h1 := Hall.out es he; exact htx (by rw [h1]; exact he.2))
            clear htx
            go_wp2
            go_ret2
            exact ⟨PcRet.no HN.out, Hb3.out⟩
end Go.Proofs.YticbmpjdcanjkaaDoor
