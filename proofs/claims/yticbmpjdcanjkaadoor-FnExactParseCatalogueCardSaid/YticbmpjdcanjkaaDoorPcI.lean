/- The walk of the program's ParseCatalogue. Conditions: Env. -/
import Derived.Test.YticbmpjdcanjkaaDoorPcT
import Derived.Test.YticbmpjdcanjkaaDoorPcC
import Derived.Deep.RegionHeld3
import Derived.Deep.DeepCutAuto
namespace Go.Proofs.YticbmpjdcanjkaaDoor
open Go Go.RowKit

/-- What both hand back, in memory of their own. -/
def PcRet (s : ByteArray) (base : Nat) (e : Ending) (w' : World) : Prop :=
  ∃ v : Value, e = .returned (.tuple #[v, .bool (pkV s).2]) ∧ w'.ownsRow base 33 5 v (pkV s).1.length (enS.flat (pkV s).1)
theorem PcRet.no {s : ByteArray} {base : Nat} {w' : World} (h : NoPc s) : PcRet s base (.returned (.tuple #[.slice none 0 0, .bool false])) w' := by
  unfold PcRet
  rw [pkV_none h]
  exact ⟨_, rfl, by simp [Shape.flat], Or.inl ⟨rfl, rfl⟩⟩
theorem PcRet.yes {s : ByteArray} {base : Nat} {w' : World} {es : List En} {v : Value} (h : PcIs s es) (ho : w'.ownsRow base 33 5 v es.length (enS.flat es)) : PcRet s base (.returned (.tuple #[v, .bool true])) w' := by
  unfold PcRet
  rw [pkV_some h]
  exact ⟨_, rfl, ho⟩
theorem infoEn : (Tryd.prog.info? 33).map (fun i => (i.zero, i.size, i.bytes)) = some (some (.agg #[.int .i64 0, .int .i64 0, .int .i64 0, .int .i64 0, .int .i64 0]), 5, 40) := by kernel_rfl
theorem en5 (x : En) : enS.flat [x] = [.int .i64 x.a, .int .i64 x.b, .int .i64 x.lo, .int .i64 x.hi, .int .i64 x.to] := rfl
theorem splitB_size1 (sep : ByteArray) (sv : Nat) : ∀ (k : Nat) (s : ByteArray), ∀ x ∈ Lib.splitB sep sv k s, x.size ≤ s.size
  | 0, s, x, h => by
    have : x = s := by simpa [Lib.splitB] using h
    rw [this]; exact Nat.le_refl _
  | k + 1, s, x, h => by
    unfold Lib.splitB at h
    split at h
    · have : x = s := by simpa using h
      rw [this]; exact Nat.le_refl _
    · rcases List.mem_cons.1 h with rfl | h
      · rw [ByteArray.size_extract]; omega
      · have := splitB_size1 sep sv k _ x h
        rw [ByteArray.size_extract] at this
        omega
theorem pcsB_length (s : ByteArray) : (pcsB s).length = Lib.countB s ⟨#[10]⟩ + 1 := Lib.splitB_all ⟨#[10]⟩ (by decide) 1 _ _ rfl
set_option maxHeartbeats 1000000 in
theorem splitAfter_any (s : ByteArray) (w : World) (hs : s.size ≤ 100000000) (h : Env w) :
    Calls Tryd.prog 13 #[.string s, .string ⟨#[10]⟩] w fun e w' => e = .returned (.slice (some ⟨w.heap.size, 0, none⟩) (pcsB s).length (pcsB s).length) ∧ Blk w' w.heap.size 9 ((pcsB s).map Value.string).toArray ∧ Below w.heap.size w w' := by
  have hlen := pcsB_length s
  obtain ⟨m, hm⟩ := Tryd.laysM146.s1_3 w h.sh
  have c := Any.strings_genSplit { Tryd.laysM146 with } Tryd.laysM146.i9 s ⟨#[10]⟩ 1 (-1) (Lib.countB s ⟨#[10]⟩ + 1) m w (by omega) hm (by decide) (by decide) (by decide) (by decide) (by rw [if_pos (by decide)]; have := Lib.countB_le ⟨#[10]⟩ (by decide) s.size s (Nat.le_refl _); omega)
  rw [Nat.add_sub_cancel] at c
  have e2 : Lib.cellsOf (pcsB s) (Lib.countB s ⟨#[10]⟩ + 1) = ((pcsB s).map Value.string).toArray := by rw [← hlen]; exact Lib.cellsOf_full _
  unfold pcsB at e2 hlen ⊢
  rw [e2, hlen] at c
  rw [hlen]
  go_enter Tryd.func13, Tryd.ntmps13
  go_wp2_with (go_at_call 28; refine c.mono ?_; rintro e w' ⟨rfl, hw⟩; subst hw)
  go_ret
  exact ⟨rfl, Blk.new w _ _, bal (Below.refl _ _) _⟩
theorem trim_any (s : ByteArray) (w : World) (hs : s.size ≤ 100000000) : Calls Tryd.prog 15 #[.string s, .string ⟨#[10]⟩] w fun e w' => e = .returned (.string ⟨(trimL s.data.toList).toArray⟩) ∧ w = w' := by
  refine (Tryd.strings_TrimSuffix s ⟨#[10]⟩ w (by omega)).mono fun e w' hp => ?_
  obtain ⟨he, rfl⟩ := hp
  exact ⟨he, rfl⟩
theorem split_w4 (s : ByteArray) (w : World) (hs : s.size ≤ 100000000) (h : Env w) : Calls Tryd.prog 14 #[.string s, .string ⟨#[32]⟩] w fun e w' => e = .returned (.slice (some ⟨w.heap.size, 0, none⟩) (splW4 s).length (splW4 s).length) ∧ Blk w' w.heap.size 9 ((splW4 s).map Value.string).toArray ∧ Below w.heap.size w w' := by
  refine (Tryd.strings_Split_shaped s ⟨#[32]⟩ w h.sh (by omega) (by decide)).mono fun e w' hp => ?_
  obtain ⟨he, rfl⟩ := hp
  rw [splW4_length]
  exact ⟨he, Blk.new w _ _, bal (Below.refl _ _) _⟩
theorem splW4_size {s : ByteArray} {x : ByteArray} (h : x ∈ splW4 s) : x.size ≤ s.size := splitB_size1 _ _ _ _ x h
/-- How strconv.Atoi ends: its number and its error. -/
def AtE (x : List UInt8) (v : Int) (E : Value) : Prop :=
  (Lib.atoiAll x = .ok v ∧ E = .nilIface) ∨ ((∀ u : Int, Lib.atoiAll x ≠ .ok u) ∧ ∃ (t : TypeId) (N : Nat), E = .iface t (.pointer (some ⟨N, 0, none⟩)))
theorem atoi_e (s : ByteArray) (w : World) (hs : s.size ≤ 100000000) (h : Env w) : Calls Tryd.prog 18 #[.string s] w fun e w' => (∃ (v : Int) (E : Value), AtE s.data.toList v E ∧ e = .returned (.tuple #[.int .i64 v, E])) ∧ Below w.heap.size w w' := by
  refine (atoi_any s w hs h).mono fun e w' hp => ?_
  obtain ⟨ha, hb⟩ := hp
  refine ⟨?_, hb⟩
  rcases ha with ⟨v, hv, -, -, rfl⟩ | ⟨hno, v, t, N, rfl⟩
  · exact ⟨v, _, Or.inl ⟨hv, rfl⟩, rfl⟩
  · exact ⟨v, _, Or.inr ⟨hno, t, N, rfl⟩, rfl⟩
theorem clI_words {p : List UInt8} {y0 y1 y2 y3 : ByteArray} (h : splW4 ⟨(trimL p).toArray⟩ = [y0, y1, y2, y3]) : clI p = rd4I y0.data.toList y1.data.toList y2.data.toList y3.data.toList := by
  unfold clI; rw [h]; rfl
theorem clI_not4 {p : List UInt8} (h : (splW4 ⟨(trimL p).toArray⟩).length ≠ 4) : clI p = none := by
  unfold clI
  split
  · rename_i hh
    have := congrArg List.length hh
    simp at this
    exact absurd this h
  · rfl
theorem rd4I_pc {w0 w1 w2 w3 : List UInt8} (h : (pcV (w0 ++ 32 :: w1)).2.2 = false) : rd4I w0 w1 w2 w3 = none := by
  unfold rd4I
  have : paC (w0 ++ 32 :: w1) = none := by
    unfold pcV at h
    cases hp : paC (w0 ++ 32 :: w1) with
    | none => rfl
    | some p => rw [hp] at h; cases h
  rw [this]
theorem pcV_paC {l : List UInt8} (h : (pcV l).2.2 = true) : paC l = some ((pcV l).1, (pcV l).2.1) := by
  unfold pcV at h ⊢
  cases hp : paC l with
  | none => rw [hp] at h; cases h
  | some p => rfl
theorem rd4I_lo {w0 w1 w2 w3 : List UInt8} (h : ∀ u : Int, Lib.atoiAll (Lib.cut w2 [46, 46]).1 ≠ .ok u) : rd4I w0 w1 w2 w3 = none := by
  unfold rd4I
  split
  · rename_i h1 h2 h3 h4; exact absurd h2 (h _)
  · rfl
theorem rd4I_hi {w0 w1 w2 w3 : List UInt8} (h : ∀ u : Int, Lib.atoiAll (Lib.cut w2 [46, 46]).2.1 ≠ .ok u) : rd4I w0 w1 w2 w3 = none := by
  unfold rd4I
  split
  · rename_i h1 h2 h3 h4; exact absurd h3 (h _)
  · rfl
theorem rd4I_to {w0 w1 w2 w3 : List UInt8} (h : ∀ u : Int, Lib.atoiAll w3 ≠ .ok u) : rd4I w0 w1 w2 w3 = none := by
  unfold rd4I
  split
  · rename_i h1 h2 h3 h4; exact absurd h4 (h _)
  · rfl
theorem rd4I_yes {w0 w1 w2 w3 : List UInt8} {lo hi t : Int} (hc : (pcV (w0 ++ 32 :: w1)).2.2 = true) (h1 : Lib.atoiAll (Lib.cut w2 [46, 46]).1 = .ok lo) (h2 : Lib.atoiAll (Lib.cut w2 [46, 46]).2.1 = .ok hi) (h3 : Lib.atoiAll w3 = .ok t) :
    rd4I w0 w1 w2 w3 = some ⟨(pcV (w0 ++ 32 :: w1)).1, (pcV (w0 ++ 32 :: w1)).2.1, lo, hi, t⟩ := by
  unfold rd4I
  rw [pcV_paC hc, h1, h2, h3]
theorem list4r {E : Type} {l : List E} (h : l.length = 4) : ∃ a b c d, l = [a, b, c, d] := by
  match l, h with
  | [a, b, c, d], _ => exact ⟨a, b, c, d, rfl⟩
theorem parseCurve_det (s : ByteArray) (w : World) (hs : s.size ≤ 4000000) (h : Env w) :
    Calls Tryd.prog 16 #[.string s] w fun e w' => e = .returned (.tuple #[.agg #[.int .i64 (pcV s.data.toList).1, .int .i64 (pcV s.data.toList).2.1], .bool (pcV s.data.toList).2.2]) ∧ Below w.heap.size w w' := by
  refine (parseCurve_any s w hs h).mono fun e w' hh => ?_
  obtain ⟨h1, h2⟩ := hh
  refine ⟨?_, h2⟩
  unfold pcV
  rcases h1 with ⟨a, b, hp, rfl⟩ | ⟨hp, rfl⟩
  · rw [hp]
  · rw [hp]
set_option linter.unusedSimpArgs false in
set_option maxRecDepth 20000 in
set_option maxHeartbeats 8000000 in
theorem implPc_any (s : ByteArray) (w : World) (hs : s.size ≤ 1900000) (h : Env w) :
    Calls Tryd.prog 5 #[.string s] w fun e w' => PcRet s w.heap.size e w' ∧ Below w.heap.size w w' := by
  obtain ⟨i0, hi, hz0, hz1, hz2⟩ := info_parts infoEn
  have hpl := pcsB_length s
  have hcl := Lib.countB_le ⟨#[10]⟩ (by decide) s.size s (Nat.le_refl _)
  have hpl2 : (pcsB s).length ≤ 1900001 := by omega
  clear hpl hcl
  have Hpsz := Lib.hid (fun j (hj : j < (pcsB s).length) => Nat.le_trans (splitB_size1 ⟨#[10]⟩ 1 (Lib.countB s ⟨#[10]⟩) s _ (List.getElem_mem hj)) hs)
  have Hskip := Lib.hid (fun j xs h hp h0 => PcInv.skip (s := s) (j := j) (xs := xs) h hp h0)
  have Hfull := Lib.hid (fun j xs h hp h0 h12 => PcInv.full (s := s) (j := j) (xs := xs) h hp h0 h12)
  have Hbad := Lib.hid (fun j hp h0 hc => PcInv.bad (s := s) (j := j) hp h0 hc)
  have Hnext := Lib.hid (fun j xs h hp h0 e hc => PcInv.next (s := s) (j := j) (xs := xs) h hp h0 (e := e) hc)
  have Hdone := Lib.hid (fun j xs h hj es he => PcInv.done (s := s) (j := j) (xs := xs) h hj (es := es) he)
  have Hsa := Lib.hid (fun W h => splitAfter_any s W (by omega) h)
  change Hid (∀ j (hj : j < (pcsB s).length), (pcsB s)[j].size ≤ 1900000) at Hpsz
  generalize pcsB s = P at Hpsz Hskip Hfull Hbad Hnext Hdone Hsa hpl2
  have He := Lib.hid h; clear h
  go_enter Tryd.func5, Tryd.ntmps5
  go_wp2_with fail
  refine (Hsa.out _ He.out).mono ?_; rintro e w1 ⟨rfl, hB1, hb1⟩
  have HW1 := Lib.hid hB1; have He1 := Lib.hid (He.out.on hb1); have Hb1 := Lib.hid hb1; clear hb1 hB1
  have Hgw : Hid (w.heap.size < w1.heap.size) := Lib.hid HW1.out.lt
  obtain ⟨gw, hgw⟩ : ∃ g, w.heap.size = g := ⟨_, rfl⟩
  rw [hgw] at HW1 ⊢
  go_wp2
  go_loopw [22, 4] (fun i o wr => ∃ (j : Nat) (xs : List En), j ≤ P.length ∧ i = .int .i64 j ∧ xs.length ≤ 12 ∧ Hid (PcInv s j xs) ∧ Below w1.heap.size w1 wr ∧ Hid (wr.ownsRow w1.heap.size 33 5 o xs.length (enS.flat xs))) (fun i _ _ => P.length - (intOf i).toNat)
  case atStart => exact ⟨0, [], Nat.zero_le _, rfl, Nat.zero_le _, Lib.hid (PcInv.zero s), Below.refl _ _, Lib.hid ⟨by simp [Shape.flat], Or.inl ⟨rfl, rfl⟩⟩⟩
  case round =>
    obtain ⟨j, xs, hj, rfl, hx12, Hinv, hb, Hown⟩ := hrel
    have HWr := Lib.hid (HW1.out.on hb)
    have Her := Lib.hid (He1.out.on hb)
    have Hbr := Lib.hid (bthen Hb1.out hb)
    obtain ⟨A9, c9, rfl⟩ := own_form Hown.out
    by_cases hlt : j < P.length
    · have hlo := HWr.out.lt
      have f0 : wr.cell? ⟨gw, j, none⟩ = some (.string P[j]) := by
        rw [HWr.out.cell j, List.getElem?_toArray, List.getElem?_map, List.getElem?_eq_getElem hlt]; rfl
      have Hsz := Lib.hid (Hpsz.out j hlt)
      have Hsk := Lib.hid (Hskip.out j xs Hinv.out hlt)
      have Hfu := Lib.hid (Hfull.out j xs Hinv.out hlt)
      have Hba := Lib.hid (Hbad.out j hlt)
      have Hne := Lib.hid (Hnext.out j xs Hinv.out hlt)
      generalize P[j] = p at f0 Hsz Hsk Hfu Hba Hne
      have hi0 : (0 : Int) ≤ (j : Int) := by omega
      have hi1 : (j : Int) < (P.length : Int) := by omega
      by_cases hp0 : p = ⟨#[]⟩
      · subst hp0
        have Hnew := Lib.hid (Hsk.out rfl)
        go_wp2
        go_roundw
        case rel => exact ⟨j + 1, xs, by omega, by go_num, hx12, Hnew, hb, Hown⟩
        case measure => simp [intOf]; omega
      · have hq0 : p.toList.isEmpty = false := by
          cases hh : p.toList with
          | nil => exact absurd (bytes_inj (a := p) (b := ⟨#[]⟩) (by rw [hh, ByteArray.toList_eq])) hp0
          | cons x r => rfl
        have Hp0 : Hid (p.data.toList ≠ []) := Lib.hid (fun e => hp0 (bytes_ext e))
        clear hp0
        have Hfu := Lib.hid (Hfu.out Hp0.out)
        have Hba := Lib.hid (Hba.out Hp0.out)
        have Hne := Lib.hid (Hne.out Hp0.out)
        have Htl := Lib.hid (trimL_len p.data.toList)
        have Hsz1 : Hid ((⟨(trimL p.data.toList).toArray⟩ : ByteArray).size ≤ 1900000) := Lib.hid (by
          have h1 := Htl.out; have h2 := Hsz.out
          show (trimL p.data.toList).toArray.size ≤ _
          rw [List.size_toArray]
          have h3 : p.data.toList.length = p.size := rfl
          omega)
        have Hwsz := Lib.hid (fun x (hx : x ∈ splW4 ⟨(trimL p.data.toList).toArray⟩) => Nat.le_trans (splW4_size hx) Hsz1.out)
        have Hn4 := Lib.hid (fun h => Hba.out (clI_not4 (p := p.data.toList) h))
        have Hcl := Lib.hid (fun y0 y1 y2 y3 h => clI_words (p := p.data.toList) (y0 := y0) (y1 := y1) (y2 := y2) (y3 := y3) h)
        have Htr := Lib.hid (fun W => trim_any p W (by have := Hsz.out; omega))
        have Hsp := Lib.hid (fun W h => split_w4 ⟨(trimL p.data.toList).toArray⟩ W (by have := Hsz1.out; omega) h)
        generalize splW4 ⟨(trimL p.data.toList).toArray⟩ = ws at Hwsz Hn4 Hcl Hsp
        generalize (⟨(trimL p.data.toList).toArray⟩ : ByteArray) = pt at Htr Hsp
        clear Hskip Hfull Hbad Hnext Hsa
        go_wp2_with fail
        refine (Htr.out _).mono ?_; rintro e w9 ⟨rfl, rfl⟩
        go_wp2_with fail
        refine (Hsp.out _ Her.out).mono ?_; rintro e w2 ⟨rfl, hB2, hb2⟩
        clear f0 hlo
        have HW2 := Lib.hid hB2; have He2 := Lib.hid (Her.out.on hb2); have Hb2 := Lib.hid (bthen Hbr.out hb2); have Hb12 := Lib.hid (bthen hb hb2); have Hown2 := Lib.hid (own_below Hown.out hb2); clear hb2 hB2
        obtain ⟨gv, hgv⟩ : ∃ g, wr.heap.size = g := ⟨_, rfl⟩
        rw [hgv] at HW2 ⊢
        clear hgv
        by_cases h4 : ws.length = 4
        · obtain ⟨y0, y1, y2, y3, rfl⟩ := list4r h4
          clear h4
          by_cases h12 : xs.length = 12
          · have HN := Lib.hid (Hfu.out h12)
            have hq12 : ((xs.length : Int) == 12) = true := by rw [h12]; rfl
            go_wp2
            go_ret2
            exact ⟨PcRet.no HN.out, Hb2.out⟩
          · have hq12 : ((xs.length : Int) == 12) = false := beq_eq_false_iff_ne.2 (by omega)
            have hx11 : xs.length ≤ 11 := by omega
            clear h12 Hfu Hn4
            have Hc := Lib.hid (Hcl.out y0 y1 y2 y3 rfl)
            have z0 := Hwsz.out y0 (by simp)
            have z1 := Hwsz.out y1 (by simp)
            have z2 := Hwsz.out y2 (by simp)
            have z3 := Hwsz.out y3 (by simp)
            clear Hwsz Hcl
            have hT : (y0 ++ (⟨#[32]⟩ : ByteArray) ++ y1).data.toList = y0.data.toList ++ 32 :: y1.data.toList := by simp
            have s1 : (y0 ++ (⟨#[32]⟩ : ByteArray)).size ≤ 1900001 := by rw [ByteArray.size_append]; exact Nat.add_le_add z0 (Nat.le_refl _)
            have s2 : (y0 ++ (⟨#[32]⟩ : ByteArray) ++ y1).size ≤ 4000000 := by rw [ByteArray.size_append]; omega
            have Hec := Lib.hid (fun W h => parseCurve_det (y0 ++ (⟨#[32]⟩ : ByteArray) ++ y1) W s2 h)
            rw [hT] at Hec
            have a1 := str_add y0 (⟨#[32]⟩ : ByteArray) (by omega) (by decide)
            have a2 := str_add (y0 ++ (⟨#[32]⟩ : ByteArray)) y1 (by omega) (by omega)
            clear hT
            generalize (y0 ++ (⟨#[32]⟩ : ByteArray) ++ y1) = T at Hec a2 s2
            generalize (y0 ++ (⟨#[32]⟩ : ByteArray)) = Y at a1 a2 s1
            have f0 : w2.cell? ⟨gv, 0, none⟩ = some (.string y0) := by rw [HW2.out.cell 0]; rfl
            have f1 : w2.cell? ⟨gv, 1, none⟩ = some (.string y1) := by rw [HW2.out.cell 1]; rfl
            have f2 : w2.cell? ⟨gv, 2, none⟩ = some (.string y2) := by rw [HW2.out.cell 2]; rfl
            have f3 : w2.cell? ⟨gv, 3, none⟩ = some (.string y3) := by rw [HW2.out.cell 3]; rfl
            have hlg := HW2.out.lt
            have Hpn := Lib.hid (fun h => Hba.out (Hc.out.trans (rd4I_pc (w0 := y0.data.toList) (w1 := y1.data.toList) (w2 := y2.data.toList) (w3 := y3.data.toList) h)))
            have Hln := Lib.hid (fun h => Hba.out (Hc.out.trans (rd4I_lo (w0 := y0.data.toList) (w1 := y1.data.toList) (w2 := y2.data.toList) (w3 := y3.data.toList) h)))
            have Hhn := Lib.hid (fun h => Hba.out (Hc.out.trans (rd4I_hi (w0 := y0.data.toList) (w1 := y1.data.toList) (w2 := y2.data.toList) (w3 := y3.data.toList) h)))
            have Htn := Lib.hid (fun h => Hba.out (Hc.out.trans (rd4I_to (w0 := y0.data.toList) (w1 := y1.data.toList) (w2 := y2.data.toList) (w3 := y3.data.toList) h)))
            have Hye := Lib.hid (fun lo hi t hc h1 h2 h3 => Hne.out _ (Hc.out.trans (rd4I_yes (w0 := y0.data.toList) (w1 := y1.data.toList) (w2 := y2.data.toList) (w3 := y3.data.toList) (lo := lo) (hi := hi) (t := t) hc h1 h2 h3)))
            generalize pcV (y0.data.toList ++ 32 :: y1.data.toList) = pv at Hec Hpn Hye
            obtain ⟨a, b, ok⟩ := pv
            simp only at Hec Hpn Hye
            have Hcu := Lib.hid (fun W h => cut_gen y2 ⟨#[46, 46]⟩ W (by omega) h)
            rw [show (⟨#[46, 46]⟩ : ByteArray).data.toList = [46, 46] from rfl] at Hcu
            have hcs := cut_sizes y2.data.toList [46, 46]
            rw [show y2.data.toList.length = y2.size from rfl] at hcs
            generalize Lib.cut y2.data.toList [46, 46] = cu at Hcu Hln Hhn Hye hcs
            obtain ⟨u1, u2, u3⟩ := cu
            simp only at Hcu Hln Hhn Hye hcs
            have hu1 : (⟨u1.toArray⟩ : ByteArray).size ≤ 4000000 := by show u1.toArray.size ≤ _; rw [List.size_toArray]; omega
            have hu2 : (⟨u2.toArray⟩ : ByteArray).size ≤ 4000000 := by show u2.toArray.size ≤ _; rw [List.size_toArray]; omega
            have Hat1 := Lib.hid (fun W h => atoi_e ⟨u1.toArray⟩ W (by omega) h)
            have Hat2 := Lib.hid (fun W h => atoi_e ⟨u2.toArray⟩ W (by omega) h)
            have Hat3 := Lib.hid (fun W h => atoi_e y3 W (by omega) h)
            rw [show (⟨u1.toArray⟩ : ByteArray).data.toList = u1 from rfl] at Hat1
            rw [show (⟨u2.toArray⟩ : ByteArray).data.toList = u2 from rfl] at Hat2
            generalize (⟨u1.toArray⟩ : ByteArray) = U1 at Hcu Hat1
            generalize (⟨u2.toArray⟩ : ByteArray) = U2 at Hcu Hat2
            generalize y3.data.toList = d3 at Hat3 Htn Hye
            clear hcs hu1 hu2 Hba Hc Hne Hsz Hsz1 Htl Hp0 Hsp Htr
            have HS : Hid (∀ w', Below w2.heap.size w2 w' → (w'.cell? ⟨gv, 0, none⟩ = some (.string y0) ∧ w'.cell? ⟨gv, 1, none⟩ = some (.string y1) ∧ Below w2.heap.size w2 w')) := Lib.hid (fun w' hw => ⟨(hw.cell (p := ⟨gv, 0, none⟩) hlg).trans f0, (hw.cell (p := ⟨gv, 1, none⟩) hlg).trans f1, hw⟩)
            have F2 := Lib.hid f2; have F3 := Lib.hid f3; clear f2 f3
            go_wp2_with fail
            go_cut [8, 9] (fun p o wx => ∃ (q : Nat), p = .pointer (some ⟨q, 0, none⟩) ∧ o = .bool ok ∧ Blk wx q 31 #[.int .i64 a, .int .i64 b] ∧ w2.heap.size ≤ q ∧ Below w2.heap.size w2 wx)
            case first =>
              have HecE : Hid (∀ W, Below w2.heap.size w2 W → Env W) := Lib.hid (fun W hW => He2.out.on hW)
              go_region_held3 (fun w' => w'.cell? ⟨gv, 0, none⟩ = some (.string y0) ∧ w'.cell? ⟨gv, 1, none⟩ = some (.string y1) ∧ Below w2.heap.size w2 w')
                ((go_split_ands; refine HS.out _ ?_; repeat (first | (with_reducible assumption) | (with_reducible exact Below.refl _ _) | (with_reducible refine Below.drew ?_) | (with_reducible refine bal ?_ _) | (with_reducible refine bst ?_ (by first | omega | (simp; done) | (simp; omega)) _) | (with_reducible refine bthen ?_ (by with_reducible assumption)))))
                ((first
                  | (go_at_call 16; (with_reducible refine (Hec.out _ (HecE.out _ (by repeat (first | (with_reducible assumption) | (with_reducible exact Below.refl _ _) | (with_reducible refine Below.drew ?_) | (with_reducible refine bal ?_ _))))).mono ?_); rintro e w3 ⟨rfl, hb3⟩; (try (have hz3 : Blk w3 w2.heap.size 31 #[.int .i64 0, .int .i64 0] := (Blk.drew (Blk.new w2 31 #[.int .i64 0, .int .i64 0])).on hb3; have zc0 := hz3.cell 0; have zc1 := hz3.cell 1; have zf0 := hz3.frozen 0; have zf1 := hz3.frozen 1; have zl := hz3.lt; have Hz3 := Lib.hid hz3; clear hz3)))))
              all_goals
                go_wp2_with fail
                go_meet
                have hsz3 : Hid (w2.drew.heap.size ≤ w3.heap.size → w2.heap.size ≤ w3.heap.size) := Lib.hid (fun h => h)
                first
                  | with_reducible exact ⟨_, rfl, rfl, Blk.new _ _ _, hsz3.out hb3.size, by repeat (with_reducible first | exact Below.refl _ _ | refine Below.drew ?_ | refine bal ?_ _ | refine bthen ?_ hb3)⟩
                  | exact ⟨_, rfl, rfl, Blk.set2 Hz3.out, Nat.le_refl _, by repeat (with_reducible first | exact Below.refl _ _ | refine Below.drew ?_ | refine bal ?_ _ | (refine bst ?_ (by first | omega | (simp; done) | (simp; omega)) _) | refine bthen ?_ hb3)⟩
            obtain ⟨q, rfl, rfl, hBq, hq, hbc⟩ := hcut
            have HBq := Lib.hid hBq
            have Hb3 := Lib.hid (bthen Hb2.out hbc); have Hb13 := Lib.hid (bthen Hb12.out hbc); have He3 := Lib.hid (He2.out.on hbc); have Hown3 := Lib.hid (own_below Hown2.out hbc)
            have f2 := (hbc.cell (p := ⟨gv, 2, none⟩) hlg).trans F2.out
            have f3 := (hbc.cell (p := ⟨gv, 3, none⟩) hlg).trans F3.out
            have hlg3 := Nat.lt_of_lt_of_le hlg hbc.size
            have Fh : Hid (∀ W, Below wc.heap.size wc W → W.cell? ⟨gv, 3, none⟩ = some (.string y3) ∧ gv < W.heap.size) := Lib.hid (fun W hW => ⟨(hW.cell (p := ⟨gv, 3, none⟩) hlg3).trans f3, Nat.lt_of_lt_of_le hlg3 hW.size⟩)
            clear HS F2 F3 f0 f1 f3 a1 a2 hBq hq hbc Hec HW2 hlg
            go_wp2_with fail
            refine (Hcu.out _ He3.out).mono ?_; rintro e w4 ⟨rfl, hb4⟩
            clear f2
            have Hbc4 := Lib.hid hb4
            have HBq4 := Lib.hid (HBq.out.on hb4); have He4 := Lib.hid (He3.out.on hb4); have Hb4 := Lib.hid (bthen Hb3.out hb4); have Hb14 := Lib.hid (bthen Hb13.out hb4); have Hown4 := Lib.hid (own_below Hown3.out hb4); clear hb4
            go_wp2_with fail
            refine (Hat1.out _ He4.out).mono ?_; rintro e w5 ⟨⟨v1, E1, hE1, rfl⟩, hb5⟩
            have HE1 := Lib.hid hE1; clear hE1
            have Hbc5 := Lib.hid (bthen Hbc4.out hb5)
            have HBq5 := Lib.hid (HBq4.out.on hb5); have He5 := Lib.hid (He4.out.on hb5); have Hb5 := Lib.hid (bthen Hb4.out hb5); have Hb15 := Lib.hid (bthen Hb14.out hb5); have Hown5 := Lib.hid (own_below Hown4.out hb5); clear hb5
            go_wp2_with fail
            refine (Hat2.out _ He5.out).mono ?_; rintro e w6 ⟨⟨v2, E2, hE2, rfl⟩, hb6⟩
            have HE2 := Lib.hid hE2; clear hE2
            have Hbc6 := Lib.hid (bthen Hbc5.out hb6)
            have HBq6 := Lib.hid (HBq5.out.on hb6); have He6 := Lib.hid (He5.out.on hb6); have Hb6 := Lib.hid (bthen Hb5.out hb6); have Hb16 := Lib.hid (bthen Hb15.out hb6); have Hown6 := Lib.hid (own_below Hown5.out hb6); clear hb6
            have f3 := (Fh.out _ Hbc6.out).1
            have hl3 := (Fh.out _ Hbc6.out).2
            go_wp2_with fail
            refine (Hat3.out _ He6.out).mono ?_; rintro e w7 ⟨⟨v3, E3, hE3, rfl⟩, hb7⟩
            have HE3 := Lib.hid hE3; clear hE3 f3 hl3
            have HBq7 := Lib.hid (HBq6.out.on hb7); have He7 := Lib.hid (He6.out.on hb7); have Hb7 := Lib.hid (bthen Hb6.out hb7); have Hb17 := Lib.hid (bthen Hb16.out hb7); have Hown7 := Lib.hid (own_below Hown6.out hb7); clear hb7
            clear Hcu Hat1 Hat2 Hat3 HBq HBq4 HBq5 HBq6 Hown Hown2 Hown3 Hown4 Hown5 Hown6 Fh
            cases ok
            · have HN := Lib.hid (Hpn.out rfl)
              go_wp2
              go_ret2
              exact ⟨PcRet.no HN.out, Hb7.out⟩
            · rcases HE1.out with ⟨g1, rfl⟩ | ⟨g1, t1, N1, rfl⟩
              · rcases HE2.out with ⟨g2, rfl⟩ | ⟨g2, t2, N2, rfl⟩
                · rcases HE3.out with ⟨g3, rfl⟩ | ⟨g3, t3, N3, rfl⟩
                  · have Hnew := Lib.hid (Hye.out v1 v2 v3 rfl g1 g2 g3)
                    clear g1 g2 g3
                    have b0 := HBq7.out.cell 0
                    have b1 := HBq7.out.cell 1
                    have bl := HBq7.out.lt
                    simp at b0 b1
                    go_wp2_with (at_builtin; refine wpList_append_own _ rfl _ _ 22 rfl w1.heap.size 33 i0 (.agg #[.int .i64 0, .int .i64 0, .int .i64 0, .int .i64 0, .int .i64 0]) 5 40 Tryd.underlying22 hi hz0 hz1 hz2 rfl (by decide) _ _ _ rfl (Hown7.out.alloc _) ⟨w7.heap.size, 0, none⟩ 1 1 (enS.flat [En.mk a b v1 v2 v3]) rfl rfl ?c1 ?c2 ?c3 ?c4 ?c5 ?_)
                    case c1 =>
                      intro j u hj
                      rw [en5] at hj
                      match j, hj with
                      | 0, hj => simp at hj; subst hj; exact (Blk.new w7 _ _).cell 0
                      | 1, hj => simp at hj; subst hj; exact (Blk.new w7 _ _).cell 1
                      | 2, hj => simp at hj; subst hj; exact (Blk.new w7 _ _).cell 2
                      | 3, hj => simp at hj; subst hj; exact (Blk.new w7 _ _).cell 3
                      | 4, hj => simp at hj; subst hj; exact (Blk.new w7 _ _).cell 4
                    case c2 => intro u hu; rw [en5] at hu; simp at hu; rcases hu with rfl | rfl | rfl | rfl | rfl <;> rfl
                    case c3 => unfold maxLen; omega
                    case c4 => omega
                    case c5 => have := Hb17.out.size; simp; omega
                    intro v' w8 hown' hgrow _
                    have hb18 : Below w1.heap.size w1 w8 := Below.grown (bal Hb17.out _) hgrow (by have := Hb17.out.size; simp; omega) (fun j hj => (Hown7.out.lt j hj).1)
                    have Hown' := Lib.hid (show w8.ownsRow w1.heap.size 33 5 v' (xs ++ [En.mk a b v1 v2 v3]).length (enS.flat (xs ++ [En.mk a b v1 v2 v3])) by rw [Shape.flat_append, List.length_append]; exact hown')
                    clear hown' hgrow b0 b1
                    go_wp2
                    go_roundw
                    case rel => exact ⟨j + 1, xs ++ [En.mk a b v1 v2 v3], by omega, by go_num, by rw [List.length_append, List.length_singleton]; omega, Hnew, hb18, Hown'⟩
                    case measure => simp [intOf]; omega
                  · have HN := Lib.hid (Htn.out g3)
                    clear g1 g2 g3
                    go_wp2
                    go_ret2
                    exact ⟨PcRet.no HN.out, Hb7.out⟩
                · have HN := Lib.hid (Hhn.out g2)
                  clear g1 g2
                  go_wp2
                  go_ret2
                  exact ⟨PcRet.no HN.out, Hb7.out⟩
              · have HN := Lib.hid (Hln.out g1)
                clear g1
                go_wp2
                go_ret2
                exact ⟨PcRet.no HN.out, Hb7.out⟩
        · have HN := Lib.hid (Hn4.out h4)
          have h3 : ((ws.length : Int) == 4) = false := beq_eq_false_iff_ne.2 (by omega)
          have h5 : ((ws.length : Int) != 4) = true := by simp [bne, h3]
          go_wp2
          go_ret2
          exact ⟨PcRet.no HN.out, Hb2.out⟩
    · obtain rfl : j = P.length := by omega
      have Hall := Lib.hid (fun es he => Hdone.out _ xs Hinv.out rfl es he)
      have HRd := Lib.hid (Rd.of_own (S := enS) Hown.out rfl)
      clear Hskip Hfull Hbad Hnext Hdone Hsa Hpsz
      go_wp2_with fail
      refine (isCatalogue_any _ xs _ HRd.out).mono ?_; rintro e w2 ⟨rfl, hb2⟩
      have HRd2 := Lib.hid (HRd.out.on hb2); have He2 := Lib.hid (Her.out.on hb2); have Hb2 := Lib.hid (bthen Hbr.out hb2); have Hown2 := Lib.hid (own_below Hown.out hb2); clear hb2
      cases hcb : catB xs
      · have HN : Hid (NoPc s) := Lib.hid (fun es he => by have h1 := Hall.out es he; have h2 := he.1; rw [← h1, hcb] at h2; cases h2)
        clear hcb
        go_wp2
        go_ret2
        exact ⟨PcRet.no HN.out, Hb2.out⟩
      · have Hcb := Lib.hid hcb; clear hcb
        go_wp2_with fail
        refine (catalogueText_any _ xs _ HRd2.out hx12 (catB_all9 Hcb.out).2 He2.out.tab).mono ?_; rintro e w3 ⟨rfl, hb3⟩
        have Hb3 := Lib.hid (bthen Hb2.out hb3); have Hown3 := Lib.hid (own_below Hown2.out hb3); clear hb3
        by_cases htx : catT xs xs.length = s
        · have hq : ((catT xs xs.length).toList == s.toList) = true := by rw [htx]; simp
          have HY : Hid (PcIs s xs) := Lib.hid ⟨Hcb.out, htx⟩
          clear htx
          go_wp2
          go_ret2
          exact ⟨PcRet.yes HY.out (own_mono Hown3.out (by have := Hgw.out; omega)), Hb3.out⟩
        · have hq : ((catT xs xs.length).toList == s.toList) = false := beq_eq_false_iff_ne.2 (fun e => htx (bytes_inj e))
          have HN : Hid (NoPc s) := Lib.hid (fun es he => by have h1 := Hall.out es he; exact htx (by rw [h1]; exact he.2))
          clear htx
          go_wp2
          go_ret2
          exact ⟨PcRet.no HN.out, Hb3.out⟩
end Go.Proofs.YticbmpjdcanjkaaDoor
