/- The ranges of a task's candidates for some workers: the walks of both. Conditions: bounds of a task. -/
import Derived.Test.YticbmpjdcanjkaaTaskR
import Derived.Test.YticbmpjdcanjkaaNest
namespace Go.Proofs.Yticbmpjdcanjkaa
open Go Go.RowKit

def rgC (rest w k : Int) : Int := rest / w + (if k < rest % w then 1 else 0)
def rgN (rest w at0 : Int) : Nat → List (List Int) × Int
  | 0 => ([], at0)
  | k + 1 => (if 0 < rgC rest w k then (rgN rest w at0 k).1 ++ [[(rgN rest w at0 k).2, (rgN rest w at0 k).2 + rgC rest w k]] else (rgN rest w at0 k).1, (rgN rest w at0 k).2 + rgC rest w k)
theorem rgC_bd {rest w k : Int} (h0 : 0 ≤ rest ∧ rest ≤ 4010) (hw : 1 ≤ w) : 0 ≤ rgC rest w k ∧ rgC rest w k ≤ 4011 := by
  have h1 := Int.ediv_le_self w h0.1
  have h2 : 0 ≤ rest / w := Int.ediv_nonneg h0.1 (by omega)
  unfold rgC
  split <;> omega
theorem rgN_bd {rest w at0 : Int} (h0 : 0 ≤ rest ∧ rest ≤ 4010) (hw : 1 ≤ w) (ha : 0 ≤ at0 ∧ at0 ≤ 4010) : ∀ k : Nat, 0 ≤ (rgN rest w at0 k).2 ∧ (rgN rest w at0 k).2 ≤ 4010 + 4011 * (k : Int)
  | 0 => by simp [rgN]; omega
  | k + 1 => by
    have h1 := rgN_bd h0 hw ha k
    have h2 := rgC_bd (k := (k : Int)) h0 hw
    simp only [rgN]
    omega
theorem rgN_len (rest w at0 : Int) : ∀ k : Nat, (rgN rest w at0 k).1.length ≤ k
  | 0 => by simp [rgN]
  | k + 1 => by
    have h1 := rgN_len rest w at0 k
    simp only [rgN]
    split
    · rw [List.length_append]; simp; omega
    · omega
def rangesL (m d t w : Int) : List (List Int) := (rgN (totI m d - t) w t w.toNat).1

theorem infoSl : (Try.prog.info? 44).map (fun i => (i.zero, i.size, i.bytes)) = some (some (.slice none 0 0), 1, 24) := by kernel_rfl
/-- A result that is a slice of slices of the call's own; one with a bool beside it. -/
def NRet (base : Nat) (ess : List (List Int)) (r : Ending) (w' : World) : Prop := ∃ v' vs, r = .returned v' ∧ NOwn w' 44 3 base w'.heap.size v' vs (cellsII ess)
def NRet2 (base : Nat) (V : List (List Int) × Bool) (r : Ending) (w' : World) : Prop := ∃ v' vs, r = .returned (.tuple #[v', .bool V.2]) ∧ NOwn w' 44 3 base w'.heap.size v' vs (cellsII V.1)
theorem length_cellsII (ess : List (List Int)) : (cellsII ess).length = ess.length := by simp [cellsII]
--WALKS
set_option maxRecDepth 8000 in
set_option maxHeartbeats 8000000 in
theorem ranges_any (g : Nat) (a b m d t z : Int) (v : Value) (w : World) (h : Blk w g 33 #[.int .i64 a, .int .i64 b, .int .i64 m, .int .i64 d, .int .i64 t, v]) (ht : TkB a b m d) (htt : 0 ≤ t ∧ t ≤ totI m d) (hz : 1 ≤ z ∧ z ≤ 8) :
    Calls Try.prog 24 #[.pointer (some ⟨g, 0, none⟩), .int .i64 z] w fun r w' => NRet w.heap.size (rangesL m d t z) r w' ∧ Below w.heap.size w w' := by
  obtain ⟨i0, hi, hz0, hz1, hz2⟩ := info_parts infoSl
  have Htot := Lib.hid (totI_bd ht.m ht.d)
  have Ht := Lib.hid ht; clear ht
  obtain ⟨t1, t2⟩ := htt
  obtain ⟨zl, zh⟩ := hz
  obtain ⟨rest, hrest⟩ : ∃ rest, totI m d - t = rest := ⟨_, rfl⟩
  have hr0 : 0 ≤ rest ∧ rest ≤ 4010 := by have := Htot.out; omega
  have ht4 : t ≤ 4010 := by have := Htot.out; omega
  have Hfin := Lib.hid (show rangesL m d t z = (rgN rest z t z.toNat).1 by unfold rangesL; rw [hrest])
  have Hbd := Lib.hid (fun k => rgN_bd (rest := rest) (w := z) (at0 := t) hr0 zl ⟨t1, ht4⟩ k)
  have Hln := Lib.hid (fun k => rgN_len rest z t k)
  have e1 := Int.emod_nonneg rest (show z ≠ 0 by omega)
  have e2 := Int.emod_lt_of_pos rest (show 0 < z by omega)
  have e3 := Int.ediv_le_self z hr0.1
  have e4 : 0 ≤ rest / z := Int.ediv_nonneg hr0.1 (by omega)
  have Hrest := Lib.hid hrest
  have Hr0 := Lib.hid hr0; clear hr0
  have Hb := Lib.hid h
  have q0 := h.cell 0
  have q1 := h.cell 1
  have q2 := h.cell 2
  have q3 := h.cell 3
  have q4 := h.cell 4
  have q5 := h.cell 5
  have ql := h.lt
  simp at q0 q1 q2 q3 q4 q5
  clear h
  have hre : totI m d - t = rest := hrest
  obtain ⟨r1, r2⟩ := Hr0.out
  clear hrest
  have htl : totI m d = rest + t := by omega
  go_enter Try.func24, Try.ntmps24
  go_wp2
  refine wp_region_tame (by kernel_rfl) (by kernel_rfl) (fun T _ W hT => ?_)
  have hx := hT.cell
  repeat (go_big_quiet_step ((go_at_call 46; exact hT.call (tkTotal_any g a b m d t v _ (Hb.out.on (hT.below _)) Ht.out))))
  refine wpQuiet_nil ?_
  intro y
  clear hx htl hre
  have hbt := hT.below y
  generalize W y = wt at hbt ⊢
  clear hT q0 q1 q2 q3 q4 q5 ql
  have hB := Hb.out.on hbt
  have q0 := hB.cell 0
  have q1 := hB.cell 1
  have q2 := hB.cell 2
  have q3 := hB.cell 3
  have q4 := hB.cell 4
  have q5 := hB.cell 5
  have ql := hB.lt
  simp at q0 q1 q2 q3 q4 q5
  clear hB
  go_wp2
  clear q0 q1 q2 q3 q4 q5 ql
  go_loopw [5, 7, 22] (fun o f i wr => ∃ (k : Nat) (vs : List Value), (k : Int) ≤ z ∧ i = .int .i64 k ∧ f = .int .i64 (rgN rest z t k).2 ∧ Below w.heap.size w wr ∧ Hid (NOwn wr 44 3 w.heap.size wr.heap.size o vs (cellsII (rgN rest z t k).1))) (fun _ _ i _ => (z - intOf i).toNat)
  case atStart => exact ⟨0, [], by omega, rfl, rfl, hbt, Lib.hid (NOwn.nil _ _ _ _ _)⟩
  case round =>
    obtain ⟨k, vs, hk, rfl, rfl, hb, Hn⟩ := hrel
    have hwr : w.heap.size ≤ wr.heap.size := Nat.le_trans (Nat.le_refl _) hb.size
    by_cases hlt : (k : Int) < z
    · have Hln0 := Lib.hid (Hln.out k)
      have hf1 := (Hbd.out k).1
      have hf2 := (Hbd.out k).2
      have hc := rgC_bd (k := (k : Int)) Hr0.out zl
      have Hs1 := Lib.hid (show (rgN rest z t (k + 1)).2 = (rgN rest z t k).2 + rgC rest z k from rfl)
      have Hs0 := Lib.hid (show (rgN rest z t (k + 1)).1 = (if 0 < rgC rest z k then (rgN rest z t k).1 ++ [[(rgN rest z t k).2, (rgN rest z t k).2 + rgC rest z k]] else (rgN rest z t k).1) from rfl)
      have Hout := Lib.hid Hn.out.out
      generalize hF : (rgN rest z t k).2 = F at hf1 hf2 Hs1 Hs0
      generalize hL : (rgN rest z t k).1 = L at Hn Hs0 Hln0 Hout
      have Hc := Lib.hid hc; clear hc hF hL
      by_cases hm : (k : Int) < rest % z
      all_goals
        have Hcv := Lib.hid (show rgC rest z k = _ by unfold rgC; (first | rw [if_pos hm] | rw [if_neg hm]))
        have hpos := Hc.out.1
        by_cases hp : 0 < rgC rest z k
      · rw [Hcv.out] at hp hpos
        have Hs2 := Lib.hid (show (rgN rest z t (k + 1)).2 = F + (rest / z + 1) by rw [Hs1.out, Hcv.out])
        have Hs3 := Lib.hid (show (rgN rest z t (k + 1)).1 = L ++ [[F, F + (rest / z + 1)]] by rw [Hs0.out, Hcv.out, if_pos hp])
        clear hpos
        go_wp2_with (at_builtin; refine wpList_append_own_at _ rfl _ _ 27 rfl w.heap.size 44 i0 (.slice none 0 0) 1 24 Try.underlying27 hi hz0 hz1 hz2 rfl (by decide) _ _ _ rfl ((Hout.out.alloc _).alloc _) ⟨wr.heap.size + 1, 0, none⟩ 1 1 [.slice (some ⟨wr.heap.size, 0, none⟩) 2 2] rfl rfl ?c1 ?c2 ?c3 ?c4 ?c5 ?_)
        try
          case c1 =>
            intro j u hj
            match j, hj with
            | 0, hj => simp at hj; subst hj; exact (Blk.new1 wr _ _ _).cell 0
        case c2 => first | rfl | (intro u hu; simp at hu; subst hu; rfl)
        case c3 => have := Hln0.out; rw [length_cellsII]; unfold maxLen; omega
        case c4 => have := Hln0.out; rw [length_cellsII]; omega
        case c5 => first | omega | (simp; omega)
        intro v8 w8 hown8 hg8 _ hat8
        have hbA := bal (bal (Below.refl wr.heap.size wr) (Obj.cells #[.int .i64 F, .int .i64 (F + (rest / z + 1))] 3)) (Obj.cells #[.slice (some ⟨wr.heap.size, 0, none⟩) 2 2] 44)
        have hin : ((wr.alloc (Obj.cells #[.int .i64 F, .int .i64 (F + (rest / z + 1))] 3)).alloc (Obj.cells #[.slice (some ⟨wr.heap.size, 0, none⟩) 2 2] 44)).ownsRow w.heap.size 3 1 (.slice (some ⟨wr.heap.size, 0, none⟩) 2 2) [Value.int .i64 F, Value.int .i64 (F + (rest / z + 1))].length [Value.int .i64 F, Value.int .i64 (F + (rest / z + 1))] := (World.ownsRow_lit (base := w.heap.size) wr #[.int .i64 F, .int .i64 (F + (rest / z + 1))] 2 hwr (by unfold maxLen; omega) rfl).alloc _
        have Hn8 := Lib.hid (NOwn.snoc (Hn.out.on hbA) hg8 hown8 (by simpa only [World.size_alloc] using hat8) hin (fun g hg => by simp [Value.ownBlock] at hg; subst hg; constructor <;> (simp; try omega)) (by simp; omega))
        have hb8 : Below w.heap.size w w8 := Below.grown ((hb.alloc hwr _).alloc (by simp; omega) _) hg8 (by simp; omega) (fun j hj => (Hout.out.lt j hj).1)
        clear hown8 hg8 hat8 hin hbA
        go_wp2
        go_roundw
        case rel => exact ⟨k + 1, _, by omega, by go_num, by rw [Hs2.out], hb8, by rw [Hs3.out]; unfold cellsII; rw [List.map_append]; exact Hn8⟩
        case measure => simp [intOf]; omega
      · exfalso
        rw [Hcv.out] at hp
        omega
      · rw [Hcv.out, Int.add_zero] at hp hpos
        have Hs2 := Lib.hid (show (rgN rest z t (k + 1)).2 = F + rest / z by rw [Hs1.out, Hcv.out, Int.add_zero])
        have Hs3 := Lib.hid (show (rgN rest z t (k + 1)).1 = L ++ [[F, F + rest / z]] by rw [Hs0.out, Hcv.out, Int.add_zero, if_pos hp])
        clear hpos
        go_wp2_with (at_builtin; refine wpList_append_own_at _ rfl _ _ 27 rfl w.heap.size 44 i0 (.slice none 0 0) 1 24 Try.underlying27 hi hz0 hz1 hz2 rfl (by decide) _ _ _ rfl ((Hout.out.alloc _).alloc _) ⟨wr.heap.size + 1, 0, none⟩ 1 1 [.slice (some ⟨wr.heap.size, 0, none⟩) 2 2] rfl rfl ?d1 ?d2 ?d3 ?d4 ?d5 ?_)
        try
          case d1 =>
            intro j u hj
            match j, hj with
            | 0, hj => simp at hj; subst hj; exact (Blk.new1 wr _ _ _).cell 0
        case d2 => first | rfl | (intro u hu; simp at hu; subst hu; rfl)
        case d3 => have := Hln0.out; rw [length_cellsII]; unfold maxLen; omega
        case d4 => have := Hln0.out; rw [length_cellsII]; omega
        case d5 => first | omega | (simp; omega)
        intro v8 w8 hown8 hg8 _ hat8
        have hbA := bal (bal (Below.refl wr.heap.size wr) (Obj.cells #[.int .i64 F, .int .i64 (F + (rest / z))] 3)) (Obj.cells #[.slice (some ⟨wr.heap.size, 0, none⟩) 2 2] 44)
        have hin : ((wr.alloc (Obj.cells #[.int .i64 F, .int .i64 (F + (rest / z))] 3)).alloc (Obj.cells #[.slice (some ⟨wr.heap.size, 0, none⟩) 2 2] 44)).ownsRow w.heap.size 3 1 (.slice (some ⟨wr.heap.size, 0, none⟩) 2 2) [Value.int .i64 F, Value.int .i64 (F + (rest / z))].length [Value.int .i64 F, Value.int .i64 (F + (rest / z))] := (World.ownsRow_lit (base := w.heap.size) wr #[.int .i64 F, .int .i64 (F + (rest / z))] 2 hwr (by unfold maxLen; omega) rfl).alloc _
        have Hn8 := Lib.hid (NOwn.snoc (Hn.out.on hbA) hg8 hown8 (by simpa only [World.size_alloc] using hat8) hin (fun g hg => by simp [Value.ownBlock] at hg; subst hg; constructor <;> (simp; try omega)) (by simp; omega))
        have hb8 : Below w.heap.size w w8 := Below.grown ((hb.alloc hwr _).alloc (by simp; omega) _) hg8 (by simp; omega) (fun j hj => (Hout.out.lt j hj).1)
        clear hown8 hg8 hat8 hin hbA
        go_wp2
        go_roundw
        case rel => exact ⟨k + 1, _, by omega, by go_num, by rw [Hs2.out], hb8, by rw [Hs3.out]; unfold cellsII; rw [List.map_append]; exact Hn8⟩
        case measure => simp [intOf]; omega
      · rw [Hcv.out, Int.add_zero] at hp hpos
        have hz9 : rest / z = 0 := by omega
        have Hs2 := Lib.hid (show (rgN rest z t (k + 1)).2 = F by rw [Hs1.out, Hcv.out, hz9]; omega)
        have Hs3 := Lib.hid (show (rgN rest z t (k + 1)).1 = L by rw [Hs0.out, Hcv.out, hz9]; rfl)
        clear e3 e4
        have Hz9 := Lib.hid hz9
        go_wp2
        go_roundw
        case rel => exact ⟨k + 1, vs, by omega, by go_num, by rw [Hs2.out]; (try rw [Hz9.out]); (try simp), hb, by rw [Hs3.out]; exact Hn⟩
        case measure => simp [intOf]; omega
    · obtain rfl : z = (k : Int) := by omega
      have Hk := Lib.hid (show rangesL m d t (k : Int) = (rgN rest (k : Int) t k).1 by rw [Hfin.out, Int.toNat_natCast])
      go_wp2
      go_ret
      exact ⟨⟨_, vs, rfl, by rw [Hk.out]; exact Hn.out.less (Nat.le_refl _)⟩, hb⟩
set_option maxRecDepth 8000 in
set_option maxHeartbeats 8000000 in
theorem skRanges_any (a b m d t z : Int) (v : Value) (w : World) (ht : TkB a b m d) (htt : 0 ≤ t ∧ t ≤ totI m d) (hz : 1 ≤ z ∧ z ≤ 8) :
    Calls Try.prog 41 #[.agg #[.int .i64 a, .int .i64 b, .int .i64 m, .int .i64 d, .int .i64 t, v], .int .i64 z] w fun r w' => NRet w.heap.size (rangesL m d t z) r w' ∧ Below w.heap.size w w' := by
  obtain ⟨i0, hi, hz0, hz1, hz2⟩ := info_parts infoSl
  have Htot := Lib.hid (totI_bd ht.m ht.d)
  have Ht := Lib.hid ht; clear ht
  obtain ⟨t1, t2⟩ := htt
  obtain ⟨zl, zh⟩ := hz
  obtain ⟨rest, hrest⟩ : ∃ rest, totI m d - t = rest := ⟨_, rfl⟩
  have hr0 : 0 ≤ rest ∧ rest ≤ 4010 := by have := Htot.out; omega
  have ht4 : t ≤ 4010 := by have := Htot.out; omega
  have Hfin := Lib.hid (show rangesL m d t z = (rgN rest z t z.toNat).1 by unfold rangesL; rw [hrest])
  have Hbd := Lib.hid (fun k => rgN_bd (rest := rest) (w := z) (at0 := t) hr0 zl ⟨t1, ht4⟩ k)
  have Hln := Lib.hid (fun k => rgN_len rest z t k)
  have e1 := Int.emod_nonneg rest (show z ≠ 0 by omega)
  have e2 := Int.emod_lt_of_pos rest (show 0 < z by omega)
  have e3 := Int.ediv_le_self z hr0.1
  have e4 : 0 ≤ rest / z := Int.ediv_nonneg hr0.1 (by omega)
  have Hrest := Lib.hid hrest
  have Hr0 := Lib.hid hr0; clear hr0
  have HbA := Lib.hid (show Below w.heap.size w (w.alloc (Obj.cells #[.int .i64 a, .int .i64 b, .int .i64 m, .int .i64 d, .int .i64 t, v] 33)) from bal (Below.refl _ _) _)
  have Hb := Lib.hid (Blk.new w 33 #[.int .i64 a, .int .i64 b, .int .i64 m, .int .i64 d, .int .i64 t, v])
  have Hsz := Lib.hid (World.size_alloc w (Obj.cells #[.int .i64 a, .int .i64 b, .int .i64 m, .int .i64 d, .int .i64 t, v] 33))
  obtain ⟨r1, r2⟩ := Hr0.out
  clear hrest
  have htl : totI m d = rest + t := by have := Hrest.out; omega
  go_enter Try.func41, Try.ntmps41
  go_wp2
  generalize w.alloc (Obj.cells #[.int .i64 a, .int .i64 b, .int .i64 m, .int .i64 d, .int .i64 t, v] 33) = W1 at HbA Hb Hsz ⊢
  have q0 := Hb.out.cell 0
  have q1 := Hb.out.cell 1
  have q2 := Hb.out.cell 2
  have q3 := Hb.out.cell 3
  have q4 := Hb.out.cell 4
  have q5 := Hb.out.cell 5
  have ql := Hb.out.lt
  simp at q0 q1 q2 q3 q4 q5
  refine wp_region_tame (by kernel_rfl) (by kernel_rfl) (fun T _ W hT => ?_)
  have hx := hT.cell
  repeat (go_big_quiet_step ((go_at_call 38; exact hT.call (skCount_any a b m d t v _ Ht.out))))
  refine wpQuiet_nil ?_
  intro y
  clear hx htl
  have hbt := hT.below y
  generalize W y = wt at hbt ⊢
  clear hT q0 q1 q2 q3 q4 q5 ql
  have hB := Hb.out.on hbt
  have q0 := hB.cell 0
  have q1 := hB.cell 1
  have q2 := hB.cell 2
  have q3 := hB.cell 3
  have q4 := hB.cell 4
  have q5 := hB.cell 5
  have ql := hB.lt
  simp at q0 q1 q2 q3 q4 q5
  clear hB
  go_wp2
  clear q0 q1 q2 q3 q4 q5 ql
  have hbt : Below (w.heap.size + 1) W1 wt := by have h9 := Hsz.out; rw [← h9]; exact hbt
  go_loopw [6, 7, 8] (fun f o i wr => ∃ (k : Nat) (vs : List Value), (k : Int) ≤ z ∧ i = .int .i64 k ∧ f = .int .i64 (rgN rest z t k).2 ∧ Below (w.heap.size + 1) W1 wr ∧ Hid (NOwn wr 44 3 (w.heap.size + 1) wr.heap.size o vs (cellsII (rgN rest z t k).1))) (fun _ _ i _ => (z - intOf i).toNat)
  case atStart => exact ⟨0, [], by omega, rfl, rfl, hbt, Lib.hid (NOwn.nil _ _ _ _ _)⟩
  case round =>
    obtain ⟨k, vs, hk, rfl, rfl, hb, Hn⟩ := hrel
    have hwr : (w.heap.size + 1) ≤ wr.heap.size := Nat.le_trans (by rw [Hsz.out]; exact Nat.le_refl _) hb.size
    by_cases hlt : (k : Int) < z
    · have Hln0 := Lib.hid (Hln.out k)
      have hf1 := (Hbd.out k).1
      have hf2 := (Hbd.out k).2
      have hc := rgC_bd (k := (k : Int)) Hr0.out zl
      have Hs1 := Lib.hid (show (rgN rest z t (k + 1)).2 = (rgN rest z t k).2 + rgC rest z k from rfl)
      have Hs0 := Lib.hid (show (rgN rest z t (k + 1)).1 = (if 0 < rgC rest z k then (rgN rest z t k).1 ++ [[(rgN rest z t k).2, (rgN rest z t k).2 + rgC rest z k]] else (rgN rest z t k).1) from rfl)
      have Hout := Lib.hid Hn.out.out
      generalize hF : (rgN rest z t k).2 = F at hf1 hf2 Hs1 Hs0
      generalize hL : (rgN rest z t k).1 = L at Hn Hs0 Hln0 Hout
      have Hc := Lib.hid hc; clear hc hF hL
      by_cases hm : (k : Int) < rest % z
      all_goals
        have Hcv := Lib.hid (show rgC rest z k = _ by unfold rgC; (first | rw [if_pos hm] | rw [if_neg hm]))
        have hpos := Hc.out.1
        by_cases hp : 0 < rgC rest z k
      · rw [Hcv.out] at hp hpos
        have Hs2 := Lib.hid (show (rgN rest z t (k + 1)).2 = F + (rest / z + 1) by rw [Hs1.out, Hcv.out])
        have Hs3 := Lib.hid (show (rgN rest z t (k + 1)).1 = L ++ [[F, F + (rest / z + 1)]] by rw [Hs0.out, Hcv.out, if_pos hp])
        clear hpos
        go_wp2_with (at_builtin; refine wpList_append_own_at _ rfl _ _ 27 rfl (w.heap.size + 1) 44 i0 (.slice none 0 0) 1 24 Try.underlying27 hi hz0 hz1 hz2 rfl (by decide) _ _ _ rfl ((Hout.out.alloc _).alloc _) ⟨wr.heap.size + 1, 0, none⟩ 1 1 [.slice (some ⟨wr.heap.size, 0, none⟩) 2 2] rfl rfl ?c1 ?c2 ?c3 ?c4 ?c5 ?_)
        try
          case c1 =>
            intro j u hj
            match j, hj with
            | 0, hj => simp at hj; subst hj; exact (Blk.new1 wr _ _ _).cell 0
        case c2 => first | rfl | (intro u hu; simp at hu; subst hu; rfl)
        case c3 => have := Hln0.out; rw [length_cellsII]; unfold maxLen; omega
        case c4 => have := Hln0.out; rw [length_cellsII]; omega
        case c5 => first | omega | (simp; omega)
        intro v8 w8 hown8 hg8 _ hat8
        have hbA := bal (bal (Below.refl wr.heap.size wr) (Obj.cells #[.int .i64 F, .int .i64 (F + (rest / z + 1))] 3)) (Obj.cells #[.slice (some ⟨wr.heap.size, 0, none⟩) 2 2] 44)
        have hin : ((wr.alloc (Obj.cells #[.int .i64 F, .int .i64 (F + (rest / z + 1))] 3)).alloc (Obj.cells #[.slice (some ⟨wr.heap.size, 0, none⟩) 2 2] 44)).ownsRow (w.heap.size + 1) 3 1 (.slice (some ⟨wr.heap.size, 0, none⟩) 2 2) [Value.int .i64 F, Value.int .i64 (F + (rest / z + 1))].length [Value.int .i64 F, Value.int .i64 (F + (rest / z + 1))] := (World.ownsRow_lit (base := (w.heap.size + 1)) wr #[.int .i64 F, .int .i64 (F + (rest / z + 1))] 2 hwr (by unfold maxLen; omega) rfl).alloc _
        have Hn8 := Lib.hid (NOwn.snoc (Hn.out.on hbA) hg8 hown8 (by simpa only [World.size_alloc] using hat8) hin (fun g hg => by simp [Value.ownBlock] at hg; subst hg; constructor <;> (simp; try omega)) (by simp; omega))
        have hb8 : Below (w.heap.size + 1) W1 w8 := Below.grown ((hb.alloc hwr _).alloc (by simp; omega) _) hg8 (by simp; omega) (fun j hj => (Hout.out.lt j hj).1)
        clear hown8 hg8 hat8 hin hbA
        go_wp2
        go_roundw
        case rel => exact ⟨k + 1, _, by omega, by go_num, by rw [Hs2.out], hb8, by rw [Hs3.out]; unfold cellsII; rw [List.map_append]; exact Hn8⟩
        case measure => simp [intOf]; omega
      · exfalso
        rw [Hcv.out] at hp
        omega
      · rw [Hcv.out, Int.add_zero] at hp hpos
        have Hs2 := Lib.hid (show (rgN rest z t (k + 1)).2 = F + rest / z by rw [Hs1.out, Hcv.out, Int.add_zero])
        have Hs3 := Lib.hid (show (rgN rest z t (k + 1)).1 = L ++ [[F, F + rest / z]] by rw [Hs0.out, Hcv.out, Int.add_zero, if_pos hp])
        clear hpos
        go_wp2_with (at_builtin; refine wpList_append_own_at _ rfl _ _ 27 rfl (w.heap.size + 1) 44 i0 (.slice none 0 0) 1 24 Try.underlying27 hi hz0 hz1 hz2 rfl (by decide) _ _ _ rfl ((Hout.out.alloc _).alloc _) ⟨wr.heap.size + 1, 0, none⟩ 1 1 [.slice (some ⟨wr.heap.size, 0, none⟩) 2 2] rfl rfl ?d1 ?d2 ?d3 ?d4 ?d5 ?_)
        try
          case d1 =>
            intro j u hj
            match j, hj with
            | 0, hj => simp at hj; subst hj; exact (Blk.new1 wr _ _ _).cell 0
        case d2 => first | rfl | (intro u hu; simp at hu; subst hu; rfl)
        case d3 => have := Hln0.out; rw [length_cellsII]; unfold maxLen; omega
        case d4 => have := Hln0.out; rw [length_cellsII]; omega
        case d5 => first | omega | (simp; omega)
        intro v8 w8 hown8 hg8 _ hat8
        have hbA := bal (bal (Below.refl wr.heap.size wr) (Obj.cells #[.int .i64 F, .int .i64 (F + (rest / z))] 3)) (Obj.cells #[.slice (some ⟨wr.heap.size, 0, none⟩) 2 2] 44)
        have hin : ((wr.alloc (Obj.cells #[.int .i64 F, .int .i64 (F + (rest / z))] 3)).alloc (Obj.cells #[.slice (some ⟨wr.heap.size, 0, none⟩) 2 2] 44)).ownsRow (w.heap.size + 1) 3 1 (.slice (some ⟨wr.heap.size, 0, none⟩) 2 2) [Value.int .i64 F, Value.int .i64 (F + (rest / z))].length [Value.int .i64 F, Value.int .i64 (F + (rest / z))] := (World.ownsRow_lit (base := (w.heap.size + 1)) wr #[.int .i64 F, .int .i64 (F + (rest / z))] 2 hwr (by unfold maxLen; omega) rfl).alloc _
        have Hn8 := Lib.hid (NOwn.snoc (Hn.out.on hbA) hg8 hown8 (by simpa only [World.size_alloc] using hat8) hin (fun g hg => by simp [Value.ownBlock] at hg; subst hg; constructor <;> (simp; try omega)) (by simp; omega))
        have hb8 : Below (w.heap.size + 1) W1 w8 := Below.grown ((hb.alloc hwr _).alloc (by simp; omega) _) hg8 (by simp; omega) (fun j hj => (Hout.out.lt j hj).1)
        clear hown8 hg8 hat8 hin hbA
        go_wp2
        go_roundw
        case rel => exact ⟨k + 1, _, by omega, by go_num, by rw [Hs2.out], hb8, by rw [Hs3.out]; unfold cellsII; rw [List.map_append]; exact Hn8⟩
        case measure => simp [intOf]; omega
      · rw [Hcv.out, Int.add_zero] at hp hpos
        have hz9 : rest / z = 0 := by omega
        have Hs2 := Lib.hid (show (rgN rest z t (k + 1)).2 = F by rw [Hs1.out, Hcv.out, hz9]; omega)
        have Hs3 := Lib.hid (show (rgN rest z t (k + 1)).1 = L by rw [Hs0.out, Hcv.out, hz9]; rfl)
        clear e3 e4
        have Hz9 := Lib.hid hz9
        go_wp2
        go_roundw
        case rel => exact ⟨k + 1, vs, by omega, by go_num, by rw [Hs2.out]; (try rw [Hz9.out]); (try simp), hb, by rw [Hs3.out]; exact Hn⟩
        case measure => simp [intOf]; omega
    · obtain rfl : z = (k : Int) := by omega
      have Hk := Lib.hid (show rangesL m d t (k : Int) = (rgN rest (k : Int) t k).1 by rw [Hfin.out, Int.toNat_natCast])
      go_wp2
      go_ret
      exact ⟨⟨_, vs, rfl, by rw [Hk.out]; exact Hn.out.less (Nat.le_succ _)⟩, HbA.out.trans (hb.mono (Nat.le_succ _))⟩
def rangesV (a b m d t : Int) (fs : List Pt) (z : Int) : List (List Int) × Bool := if tkG a b m d t fs && insB z 1 8 then (rangesL m d t z, true) else ([], false)
theorem rgN_tot (rest w at0 : Int) : ∀ k : Nat, totL (cellsII (rgN rest w at0 k).1) = 2 * (rgN rest w at0 k).1.length
  | 0 => by simp [rgN, totL, cellsII]
  | k + 1 => by
    have ih := rgN_tot rest w at0 k
    simp only [rgN]
    split
    · simp only [totL, cellsII, List.map_append, List.sum_append, List.length_append] at ih ⊢
      rw [ih]; simp; omega
    · exact ih
theorem rangesV_len (a b m d t : Int) (fs : List Pt) (z : Int) : (rangesV a b m d t fs z).1.length ≤ 8 ∧ totL (cellsII (rangesV a b m d t fs z).1) ≤ 16 := by
  unfold rangesV
  by_cases h : (tkG a b m d t fs && insB z 1 8) = true
  · rw [if_pos h]
    simp only [Bool.and_eq_true] at h
    have hz := insB_true h.2
    have h1 := rgN_len (totI m d - t) z t z.toNat
    have h2 := rgN_tot (totI m d - t) z t z.toNat
    show (rangesL m d t z).length ≤ 8 ∧ totL (cellsII (rangesL m d t z)) ≤ 16
    unfold rangesL
    omega
  · rw [if_neg h]; simp [totL, cellsII]
end Go.Proofs.Yticbmpjdcanjkaa
