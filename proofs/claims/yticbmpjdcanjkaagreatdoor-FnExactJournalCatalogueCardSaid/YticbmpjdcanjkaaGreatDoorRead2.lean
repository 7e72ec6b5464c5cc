/- The program's reader of a record's line: the walk. Conditions: Env. -/
import Derived.Test.YticbmpjdcanjkaaGreatDoorRead
namespace Go.Proofs.YticbmpjdcanjkaaGreatDoor
open Go Go.RowKit

theorem infoIntR : (Tryz.prog.info? 3).map (fun i => (i.zero, i.size, i.bytes)) = some (some (.int .i64 0), 1, 8) := by kernel_rfl
theorem splitB_size (sep : ByteArray) : ∀ (k : Nat) (s : ByteArray), ∀ x ∈ Lib.splitB sep 0 k s, x.size ≤ s.size
  | 0, s, x, h => by
    have : x = s := by simpa [Lib.splitB] using h
    rw [this]; exact Nat.le_refl _
  | k + 1, s, x, h => by
    unfold Lib.splitB at h
    split at h
    · have : x = s := by simpa using h
      rw [this]; exact Nat.le_refl _
    · rcases List.mem_cons.1 h with rfl | h
      · rw [ByteArray.size_extract]; omega
      · have := splitB_size sep k _ x h
        rw [ByteArray.size_extract] at this
        omega
theorem jrW_size {line : ByteArray} {j : Nat} (h : j < (jrW line).length) : (jrW line)[j].size ≤ line.size :=
  Nat.le_trans (splitB_size _ _ _ _ (List.getElem_mem h)) (jrT_size line)
theorem own_form {w : World} {b : Nat} {t : TypeId} {z : Nat} {v : Value} {n : Nat} {xs : List Value} (h : w.ownsRow b t z v n xs) : ∃ A c, v = .slice A n c := by
  rcases h.2 with ⟨h', h0⟩ | ⟨g', cap', cur, h', _⟩
  · exact ⟨none, 0, by rw [h', h0]⟩
  · exact ⟨_, _, h'⟩
theorem bytes_inj {a b : ByteArray} (h : a.toList = b.toList) : a = b := by
  rw [ByteArray.toList_eq, ByteArray.toList_eq] at h
  obtain ⟨⟨a⟩⟩ := a; obtain ⟨⟨b⟩⟩ := b
  exact congrArg (fun l => ByteArray.mk ⟨l⟩) h
def cv (w : World) (a : Addr) : Value := (w.cell? a).getD (.int .i64 0)
structure HasC (w : World) (g : Nat) : Prop where
  h : ∃ a b c d : Value, Blk w g 72 #[a, b, c, d]
theorem HasC.drew {w : World} {g : Nat} (h : HasC w g) : HasC w.drew g := ⟨h.h⟩
theorem HasC.on {w w' : World} {g : Nat} (h : HasC w g) (hb : Below w.heap.size w w') : HasC w' g := let ⟨a, b, c, d, k⟩ := h.h; ⟨a, b, c, d, k.on hb⟩
theorem HasC.st {w : World} {g : Nat} (h : HasC w g) (v0 v1 v2 v3 : Value) : HasC ((((w.setCell ⟨g, 0, none⟩ v0).setCell ⟨g, 1, none⟩ v1).setCell ⟨g, 2, none⟩ v2).setCell ⟨g, 3, none⟩ v3) g := let ⟨_, _, _, _, k⟩ := h.h; ⟨v0, v1, v2, v3, k.set4⟩
theorem HasC.cv {w : World} {g : Nat} (h : HasC w g) (j : Nat) (hj : j < 4) : w.cell? ⟨g, j, none⟩ = some (cv w ⟨g, j, none⟩) := by
  obtain ⟨a, b, c, d, k⟩ := h.h
  unfold Proofs.YticbmpjdcanjkaaGreatDoor.cv
  rw [k.cell j]
  match j, hj with
  | 0, _ => rfl
  | 1, _ => rfl
  | 2, _ => rfl
  | 3, _ => rfl
theorem HasC.fr {w : World} {g : Nat} (h : HasC w g) : w.frozen? ⟨g, 0, none⟩ = false := let ⟨_, _, _, _, k⟩ := h.h; k.frozen 0
theorem list5r {xs : List Int} (h : xs.length = 5) : ∃ a b c d e, xs = [a, b, c, d, e] := by
  match xs, h with
  | [a, b, c, d, e], _ => exact ⟨a, b, c, d, e, rfl⟩
theorem RdP.no {k : Int} {line : ByteArray} (h : ∀ a b lo hi : Int, recB a b lo hi = true → lineS k a b lo hi ≠ line) (a b lo hi : Int) : RdP k line (.returned (.tuple #[.agg #[.int .i64 a, .int .i64 b, .int .i64 lo, .int .i64 hi], .bool false])) := Or.inr ⟨h, a, b, lo, hi, rfl⟩
theorem RdP.yes {k : Int} {line : ByteArray} {a b lo hi : Int} (h : recB a b lo hi = true) (hl : lineS k a b lo hi = line) : RdP k line (.returned (.tuple #[.agg #[.int .i64 a, .int .i64 b, .int .i64 lo, .int .i64 hi], .bool true])) := Or.inl ⟨a, b, lo, hi, h, hl, rfl⟩
set_option linter.unusedSimpArgs false in
set_option maxRecDepth 8000 in
set_option maxHeartbeats 4000000 in
theorem readRecord_any (k : Int) (line : ByteArray) (w : World) (hk : 0 ≤ k ∧ k ≤ 29) (hs : line.size ≤ 2000000) (h : Env w) :
    Calls Tryz.prog 102 #[.int .i64 k, .string line] w fun e w' => RdP k line e ∧ Below w.heap.size w w' := by
  obtain ⟨i0, hi, hz0, hz1, hz2⟩ := info_parts infoIntR
  have Hn5 := Lib.hid (fun hn => not_rec_len (k := k) (line := line) hk hn)
  have Hnw := Lib.hid (fun j hj hn => not_rec_word (k := k) (line := line) (j := j) hk hj hn)
  have Hnv := Lib.hid (fun x0 a b lo hi hw hn => not_rec_vals (k := k) (line := line) (x0 := x0) (a := a) (b := b) (lo := lo) (hi := hi) hk hw hn)
  have hwl : (jrW line).length ≤ 2000001 := by
    rw [jrW_length]
    have := Lib.countB_le ⟨#[32]⟩ (by decide) _ (jrT line) (Nat.le_refl _)
    have := jrT_size line
    omega
  have HR := Lib.hid (Blk.new w 72 #[.int .i64 0, .int .i64 0, .int .i64 0, .int .i64 0])
  have hA := bal (Below.refl w.heap.size w) (Obj.cells #[.int .i64 0, .int .i64 0, .int .i64 0, .int .i64 0] 72)
  have He := Lib.hid (h.on hA)
  have HbA := Lib.hid hA
  have Ht0 := Lib.hid (fun W (hW : Below w.heap.size w W) => (h.on hW).tab)
  clear h hA
  go_enter Tryz.func102, Tryz.ntmps102
  go_wp2_with fail
  refine (cut_any line _ (by omega) He.out).mono ?_; rintro e w1 ⟨⟨u, bb, rfl⟩, hb1⟩
  have HR1 := Lib.hid (HR.out.on hb1); have He1 := Lib.hid (He.out.on hb1); have Hb1 := Lib.hid (bthen HbA.out hb1); clear hb1
  go_wp2_with fail
  refine (split_any line _ (by omega) He1.out).mono ?_; rintro e w2 ⟨rfl, hB2, hb2⟩
  have HW2 := Lib.hid hB2; have HR2 := Lib.hid (HR1.out.on hb2); have He2 := Lib.hid (He1.out.on hb2); have Hb2 := Lib.hid (bthen Hb1.out hb2); clear hb2 hB2
  obtain ⟨gw, hgw⟩ : ∃ g, w1.heap.size = g := ⟨_, rfl⟩
  rw [hgw] at HW2 ⊢
  clear hgw
  go_wp2
  go_loopw [24, 9] (fun i o wr => ∃ (j : Nat) (xs : List Int), j ≤ (jrW line).length ∧ i = .int .i64 j ∧ xs.length = j ∧ Hid (okNums ((jrW line).take j) xs) ∧ Below w2.heap.size w2 wr ∧ Hid (wr.ownsRow w2.heap.size 3 1 o xs.length (xs.map (Value.int .i64)))) (fun i _ _ => (jrW line).length - (intOf i).toNat)
  case atStart => exact ⟨0, [], Nat.zero_le _, rfl, rfl, Lib.hid rfl, Below.refl _ _, Lib.hid ⟨rfl, Or.inl ⟨rfl, rfl⟩⟩⟩
  case round =>
    obtain ⟨j, xs, hj, rfl, hxj, Hok, hb, Hown⟩ := hrel
    have HRr := Lib.hid (HR2.out.on hb)
    have HWr := Lib.hid (HW2.out.on hb)
    have Her := Lib.hid (He2.out.on hb)
    have Hbr := Lib.hid (bthen Hb2.out hb)
    by_cases hlt : j < (jrW line).length
    · have hlo := HWr.out.lt
      have f0 : wr.cell? ⟨gw, j, none⟩ = some (.string (jrW line)[j]) := by
        rw [HWr.out.cell j, List.getElem?_toArray, List.getElem?_map, List.getElem?_eq_getElem hlt]; rfl
      have Hsz := Lib.hid (Nat.le_trans (jrW_size hlt) hs)
      have Hnj := Lib.hid (Hnw.out j hlt)
      have Hsn := Lib.hid (fun v hv => okNums_snoc (v := v) Hok.out hlt hv)
      generalize (jrW line)[j] = s at f0 Hsz Hnj Hsn
      have hi0 : (0 : Int) ≤ (j : Int) := by omega
      have hi1 : (j : Int) < ((jrW line).length : Int) := by omega
      go_wp2_with fail
      refine (atoi_any s _ (by have := Hsz.out; omega) Her.out).mono ?_; rintro e w3 ⟨hat, hb3⟩
      have Hown3 := Lib.hid (own_below Hown.out hb3)
      have HR3 := Lib.hid (HRr.out.on hb3)
      have Hb23 := Lib.hid (bthen hb hb3)
      have Hb3 := Lib.hid (bthen Hbr.out hb3)
      clear f0 hlo hb3
      rcases hat with ⟨v, hv, v1, v2, rfl⟩ | ⟨hno, v, t, N, rfl⟩
      · have Hsv := Lib.hid (Hsn.out v hv)
        clear hv
        go_wp2_with (at_builtin; refine wpList_append_own _ rfl _ _ 53 rfl w2.heap.size 3 i0 (.int .i64 0) 1 8 Tryz.underlying53 hi hz0 hz1 hz2 rfl (by decide) _ _ _ rfl (Hown3.out.alloc _) ⟨w3.heap.size, 0, none⟩ 1 1 [.int .i64 v] rfl rfl ?c1 ?c2 ?c3 ?c4 ?c5 ?_)
        case c1 =>
          intro j u hj
          match j, hj with
          | 0, hj => simp at hj; subst hj; exact (Blk.new w3 _ _).cell 0
        case c2 => intro u hu; simp at hu; subst hu; rfl
        case c3 => unfold maxLen; omega
        case c4 => omega
        case c5 => have := Hb23.out.size; simp; omega
        intro v6 w6 hown6 hgrow _
        have Hb6 := Lib.hid (Below.grown (bal Hb23.out _) hgrow (by have := Hb23.out.size; simp; omega) (fun j hj => (Hown3.out.lt j hj).1))
        have Hown6 := Lib.hid (show w6.ownsRow w2.heap.size 3 1 v6 (xs ++ [v]).length ((xs ++ [v]).map (Value.int .i64)) by rw [List.map_append, List.length_append, hxj]; exact hown6)
        clear hown6 hgrow
        go_wp2
        go_roundw
        case rel => exact ⟨j + 1, xs ++ [v], by omega, by go_num, by rw [List.length_append, hxj]; rfl, Hsv, Hb6.out, Hown6⟩
        case measure => simp [intOf]; omega
      · have Hno := Lib.hid (RdP.no (Hnj.out hno) 0 0 0 0)
        clear hno
        have r0 := HR3.out.cell 0
        have r1 := HR3.out.cell 1
        have r2 := HR3.out.cell 2
        have r3 := HR3.out.cell 3
        have rl := HR3.out.lt
        have rf := HR3.out.frozen
        simp at r0 r1 r2 r3
        go_wp2
        clear r0 r1 r2 r3 rf
        have HR4 := Lib.hid (HR3.out.set4 (b0 := .int .i64 0) (b1 := .int .i64 0) (b2 := .int .i64 0) (b3 := .int .i64 0))
        have Hb4 := bst (bst (bst (bst Hb3.out (p := ⟨w.heap.size, 0, none⟩) (Nat.le_refl _) (.int .i64 0)) (p := ⟨w.heap.size, 1, none⟩) (Nat.le_refl _) (.int .i64 0)) (p := ⟨w.heap.size, 2, none⟩) (Nat.le_refl _) (.int .i64 0)) (p := ⟨w.heap.size, 3, none⟩) (Nat.le_refl _) (.int .i64 0)
        have r0 := HR4.out.cell 0
        have r1 := HR4.out.cell 1
        have r2 := HR4.out.cell 2
        have r3 := HR4.out.cell 3
        simp at r0 r1 r2 r3
        exact bodyPost_ret (v := .tuple #[.agg #[.int .i64 0, .int .i64 0, .int .i64 0, .int .i64 0], .bool false]) (by simp [results, Tryz.results102, go_sem, r0, r1, r2, r3]) rfl ⟨Hno.out, Hb4⟩
    · obtain rfl : j = (jrW line).length := by omega
      have Hok' := Lib.hid (show okNums (jrW line) xs by have := Hok.out; rwa [List.take_length] at this)
      clear Hok
      by_cases h5 : xs.length = 5
      · obtain ⟨x0, x1, x2, x3, x4, rfl⟩ := list5r h5
        clear h5
        obtain ⟨g2, cap, rfl, hbg, hlg⟩ := Hown.out.form (by simp)
        have c1 := Hown.out.cellAt 1 (by simp)
        have c2 := Hown.out.cellAt 2 (by simp)
        have c3 := Hown.out.cellAt 3 (by simp)
        have c4 := Hown.out.cellAt 4 (by simp)
        have hne : g2 ≠ w.heap.size := by have := HR2.out.lt; omega
        simp at c1 c2 c3 c4
        have Hxj := Lib.hid hxj; clear hxj
        have hcap : 5 ≤ cap := by
          rcases Hown.out.2 with ⟨h', _⟩ | ⟨g', cap', cur, h', hb', hg', hnc, -⟩
          · cases h'
          · cases h'; exact hnc
        have HS : Hid (∀ w', Below wr.heap.size wr w' → ((w'.cell? ⟨g2, 1, none⟩ = some (.int .i64 x1) ∧ w'.cell? ⟨g2, 2, none⟩ = some (.int .i64 x2) ∧ w'.cell? ⟨g2, 3, none⟩ = some (.int .i64 x3) ∧ w'.cell? ⟨g2, 4, none⟩ = some (.int .i64 x4)) ∧ Below wr.heap.size wr w')) := Lib.hid (fun w' hw => ⟨⟨(hw.cell (p := ⟨g2, 1, none⟩) hlg).trans c1, (hw.cell (p := ⟨g2, 2, none⟩) hlg).trans c2, (hw.cell (p := ⟨g2, 3, none⟩) hlg).trans c3, (hw.cell (p := ⟨g2, 4, none⟩) hlg).trans c4⟩, hw⟩)
        have hb0 := Below.refl wr.heap.size wr
        go_wp2
        go_region_held3 (fun w' => (w'.cell? ⟨g2, 1, none⟩ = some (.int .i64 x1) ∧ w'.cell? ⟨g2, 2, none⟩ = some (.int .i64 x2) ∧ w'.cell? ⟨g2, 3, none⟩ = some (.int .i64 x3) ∧ w'.cell? ⟨g2, 4, none⟩ = some (.int .i64 x4)) ∧ Below wr.heap.size wr w') (((go_split_ands; refine HS.out _ ?_; repeat (first | (with_reducible assumption) | (with_reducible exact Below.refl _ _) | (with_reducible refine Below.drew ?_) | (with_reducible refine bal ?_ _) | (with_reducible refine bst ?_ (by exact Nat.le_refl _) _) | (with_reducible refine bthen ?_ (by with_reducible assumption)))))) (fail)
        have Hrx := Lib.hid (fun hn => Hnv.out x0 x1 x2 x3 x4 Hok'.out hn)
        have Hne := Lib.hid (show wr.heap.size ≠ w.heap.size by have := HRr.out.lt; omega)
        have HB1 : Blk (World.drew (wr.alloc (Obj.cells #[.int .i64 x1, .int .i64 x2, .int .i64 x3, .int .i64 x4] 72))) wr.heap.size 72 #[.int .i64 x1, .int .i64 x2, .int .i64 x3, .int .i64 x4] := (Blk.new wr _ _).drew
        have HZ1 : Blk (World.drew (wr.alloc (Obj.cells #[.int .i64 x1, .int .i64 x2, .int .i64 x3, .int .i64 x4] 72))) w.heap.size 72 #[.int .i64 0, .int .i64 0, .int .i64 0, .int .i64 0] := ((HRr.out).alloc _).drew
        have HbZ : Below w.heap.size w (World.drew (wr.alloc (Obj.cells #[.int .i64 x1, .int .i64 x2, .int .i64 x3, .int .i64 x4] 72))) := Below.drew (bal Hbr.out _)
        clear HS hb0 c1 c2 c3 c4
        have g0 := HB1.cell 0
        have g1 := HB1.cell 1
        have g2' := HB1.cell 2
        have g3 := HB1.cell 3
        have y0 := HZ1.cell 0
        have y1 := HZ1.cell 1
        have y2 := HZ1.cell 2
        have y3 := HZ1.cell 3
        have yf := HZ1.frozen
        simp at g0 g1 g2' g3 y0 y1 y2 y3
        by_cases hrec : recB x1 x2 x3 x4 = true
        · have Hrc := Lib.hid (recB_bd hrec hk)
          by_cases hlin : lineS k x1 x2 x3 x4 = line
          · have Hyes := Lib.hid (RdP.yes hrec hlin)
            go_wp2
            go_region_with (first | (go_at_call 136; (with_reducible refine (isRecord_any x1 x2 x3 x4 _).mono ?_); rintro e wa ⟨rfl, hba⟩; have HB_wa : Blk wa wr.heap.size 72 #[.int .i64 x1, .int .i64 x2, .int .i64 x3, .int .i64 x4] := (by repeat (first | (with_reducible assumption) | (with_reducible refine Blk.drew ?_) | (with_reducible refine Blk.on ?_ (by with_reducible assumption)))); have HZ_wa : Blk wa w.heap.size 72 #[.int .i64 0, .int .i64 0, .int .i64 0, .int .i64 0] := (by repeat (first | (with_reducible assumption) | (with_reducible refine Blk.drew ?_) | (with_reducible refine Blk.on ?_ (by with_reducible assumption)))); have hb_wa : Below w.heap.size w wa := (by repeat (first | (with_reducible assumption) | (with_reducible refine Below.drew ?_) | (with_reducible refine bthen ?_ (by with_reducible assumption)))); have f_wa_0 := HB_wa.cell 0; have f_wa_1 := HB_wa.cell 1; have f_wa_2 := HB_wa.cell 2; have f_wa_3 := HB_wa.cell 3; have z_wa_0 := HZ_wa.cell 0; have z_wa_1 := HZ_wa.cell 1; have z_wa_2 := HZ_wa.cell 2; have z_wa_3 := HZ_wa.cell 3; have zf_wa := HZ_wa.frozen; have zl_wa := HZ_wa.lt; simp at f_wa_0 z_wa_0 f_wa_1 z_wa_1 f_wa_2 z_wa_2 f_wa_3 z_wa_3) | (go_at_call 137; (with_reducible refine (sealRecord_any k x1 x2 x3 x4 _ Hrc.out (Ht0.out _ (by repeat (first | (with_reducible assumption) | (with_reducible refine Below.drew ?_) | (with_reducible refine bthen ?_ (by with_reducible assumption)))))).mono ?_); rintro e wc ⟨rfl, hbc⟩; have HB_wc : Blk wc wr.heap.size 72 #[.int .i64 x1, .int .i64 x2, .int .i64 x3, .int .i64 x4] := (by repeat (first | (with_reducible assumption) | (with_reducible refine Blk.drew ?_) | (with_reducible refine Blk.on ?_ (by with_reducible assumption)))); have HZ_wc : Blk wc w.heap.size 72 #[.int .i64 0, .int .i64 0, .int .i64 0, .int .i64 0] := (by repeat (first | (with_reducible assumption) | (with_reducible refine Blk.drew ?_) | (with_reducible refine Blk.on ?_ (by with_reducible assumption)))); have hb_wc : Below w.heap.size w wc := (by repeat (first | (with_reducible assumption) | (with_reducible refine Below.drew ?_) | (with_reducible refine bthen ?_ (by with_reducible assumption)))); have f_wc_0 := HB_wc.cell 0; have f_wc_1 := HB_wc.cell 1; have f_wc_2 := HB_wc.cell 2; have f_wc_3 := HB_wc.cell 3; have z_wc_0 := HZ_wc.cell 0; have z_wc_1 := HZ_wc.cell 1; have z_wc_2 := HZ_wc.cell 2; have z_wc_3 := HZ_wc.cell 3; have zf_wc := HZ_wc.frozen; have zl_wc := HZ_wc.lt; simp at f_wc_0 z_wc_0 f_wc_1 z_wc_1 f_wc_2 z_wc_2 f_wc_3 z_wc_3))
            all_goals
              go_wp2
              have HR4 := HZ_wc.set4 (b0 := .int .i64 x1) (b1 := .int .i64 x2) (b2 := .int .i64 x3) (b3 := .int .i64 x4)
              have HR5 := HZ_wc.drew.set4 (b0 := .int .i64 x1) (b1 := .int .i64 x2) (b2 := .int .i64 x3) (b3 := .int .i64 x4)
              have r0 := HR4.cell 0
              have r1 := HR4.cell 1
              have r2 := HR4.cell 2
              have r3 := HR4.cell 3
              have s0 := HR5.cell 0
              have s1 := HR5.cell 1
              have s2 := HR5.cell 2
              have s3 := HR5.cell 3
              simp at r0 r1 r2 r3 s0 s1 s2 s3
              exact bodyPost_ret (v := .tuple #[.agg #[.int .i64 x1, .int .i64 x2, .int .i64 x3, .int .i64 x4], .bool true]) (by simp [results, Tryz.results102, go_sem, r0, r1, r2, r3, s0, s1, s2, s3]) rfl ⟨Hyes.out, by repeat (first | (with_reducible assumption) | (with_reducible refine bst ?_ (by exact Nat.le_refl _) _) | (with_reducible refine Below.drew ?_))⟩
          · have Hno := Lib.hid (RdP.no (Hrx.out (fun hh => hlin hh.2)) x1 x2 x3 x4)
            have hq : ((lineS k x1 x2 x3 x4).toList == line.toList) = false := beq_eq_false_iff_ne.2 (fun e => hlin (bytes_inj e))
            clear hlin
            go_wp2
            go_region_with (first | (go_at_call 136; (with_reducible refine (isRecord_any x1 x2 x3 x4 _).mono ?_); rintro e wa ⟨rfl, hba⟩; have HB_wa : Blk wa wr.heap.size 72 #[.int .i64 x1, .int .i64 x2, .int .i64 x3, .int .i64 x4] := (by repeat (first | (with_reducible assumption) | (with_reducible refine Blk.drew ?_) | (with_reducible refine Blk.on ?_ (by with_reducible assumption)))); have HZ_wa : Blk wa w.heap.size 72 #[.int .i64 0, .int .i64 0, .int .i64 0, .int .i64 0] := (by repeat (first | (with_reducible assumption) | (with_reducible refine Blk.drew ?_) | (with_reducible refine Blk.on ?_ (by with_reducible assumption)))); have hb_wa : Below w.heap.size w wa := (by repeat (first | (with_reducible assumption) | (with_reducible refine Below.drew ?_) | (with_reducible refine bthen ?_ (by with_reducible assumption)))); have f_wa_0 := HB_wa.cell 0; have f_wa_1 := HB_wa.cell 1; have f_wa_2 := HB_wa.cell 2; have f_wa_3 := HB_wa.cell 3; have z_wa_0 := HZ_wa.cell 0; have z_wa_1 := HZ_wa.cell 1; have z_wa_2 := HZ_wa.cell 2; have z_wa_3 := HZ_wa.cell 3; have zf_wa := HZ_wa.frozen; have zl_wa := HZ_wa.lt; simp at f_wa_0 z_wa_0 f_wa_1 z_wa_1 f_wa_2 z_wa_2 f_wa_3 z_wa_3) | (go_at_call 137; (with_reducible refine (sealRecord_any k x1 x2 x3 x4 _ Hrc.out (Ht0.out _ (by repeat (first | (with_reducible assumption) | (with_reducible refine Below.drew ?_) | (with_reducible refine bthen ?_ (by with_reducible assumption)))))).mono ?_); rintro e wc ⟨rfl, hbc⟩; have HB_wc : Blk wc wr.heap.size 72 #[.int .i64 x1, .int .i64 x2, .int .i64 x3, .int .i64 x4] := (by repeat (first | (with_reducible assumption) | (with_reducible refine Blk.drew ?_) | (with_reducible refine Blk.on ?_ (by with_reducible assumption)))); have HZ_wc : Blk wc w.heap.size 72 #[.int .i64 0, .int .i64 0, .int .i64 0, .int .i64 0] := (by repeat (first | (with_reducible assumption) | (with_reducible refine Blk.drew ?_) | (with_reducible refine Blk.on ?_ (by with_reducible assumption)))); have hb_wc : Below w.heap.size w wc := (by repeat (first | (with_reducible assumption) | (with_reducible refine Below.drew ?_) | (with_reducible refine bthen ?_ (by with_reducible assumption)))); have f_wc_0 := HB_wc.cell 0; have f_wc_1 := HB_wc.cell 1; have f_wc_2 := HB_wc.cell 2; have f_wc_3 := HB_wc.cell 3; have z_wc_0 := HZ_wc.cell 0; have z_wc_1 := HZ_wc.cell 1; have z_wc_2 := HZ_wc.cell 2; have z_wc_3 := HZ_wc.cell 3; have zf_wc := HZ_wc.frozen; have zl_wc := HZ_wc.lt; simp at f_wc_0 z_wc_0 f_wc_1 z_wc_1 f_wc_2 z_wc_2 f_wc_3 z_wc_3))
            all_goals
              go_wp2
              have HR4 := HZ_wc.set4 (b0 := .int .i64 x1) (b1 := .int .i64 x2) (b2 := .int .i64 x3) (b3 := .int .i64 x4)
              have HR5 := HZ_wc.drew.set4 (b0 := .int .i64 x1) (b1 := .int .i64 x2) (b2 := .int .i64 x3) (b3 := .int .i64 x4)
              have r0 := HR4.cell 0
              have r1 := HR4.cell 1
              have r2 := HR4.cell 2
              have r3 := HR4.cell 3
              have s0 := HR5.cell 0
              have s1 := HR5.cell 1
              have s2 := HR5.cell 2
              have s3 := HR5.cell 3
              simp at r0 r1 r2 r3 s0 s1 s2 s3
              exact bodyPost_ret (v := .tuple #[.agg #[.int .i64 x1, .int .i64 x2, .int .i64 x3, .int .i64 x4], .bool false]) (by simp [results, Tryz.results102, go_sem, r0, r1, r2, r3, s0, s1, s2, s3]) rfl ⟨Hno.out, by repeat (first | (with_reducible assumption) | (with_reducible refine bst ?_ (by exact Nat.le_refl _) _) | (with_reducible refine Below.drew ?_))⟩
        · have Hno := Lib.hid (RdP.no (Hrx.out (fun hh => hrec hh.1)) x1 x2 x3 x4)
          have hrf : recB x1 x2 x3 x4 = false := Bool.eq_false_iff.2 hrec
          have Hisf : Hid (∀ W, Calls Tryz.prog 136 #[.agg #[.int .i64 x1, .int .i64 x2, .int .i64 x3, .int .i64 x4]] W fun e w' => e = .returned (.bool false) ∧ Below W.heap.size W w') := Lib.hid (fun W => by have := isRecord_any x1 x2 x3 x4 W; rwa [hrf] at this)
          clear hrec hrf
          clear g0 g1 g2' g3 y0 y1 y2 y3 yf
          go_wp2
          generalize World.drew (wr.alloc (Obj.cells #[.int .i64 x1, .int .i64 x2, .int .i64 x3, .int .i64 x4] 72)) = wq at HB1 HZ1 HbZ ⊢
          refine wp_region_held_drew (S := fun w' => Blk w' wr.heap.size 72 #[.int .i64 x1, .int .i64 x2, .int .i64 x3, .int .i64 x4]) (by kernel_rfl) HB1.drew (fun hH => ?_)
          refine wpAnyH_take (i := 0) (v := .agg #[.int .i64 x1, .int .i64 x2, .int .i64 x3, .int .i64 x4]) rfl (by kernel_rfl) (by kernel_rfl) (by kernel_rfl) (fun _ _ _ h => h) (Or.inl ⟨by rfl, ?_⟩) hH ?_
          · intro w hw
            have f0 := hw.cell 0
            have f1 := hw.cell 1
            have f2 := hw.cell 2
            have f3 := hw.cell 3
            simp at f0 f1 f2 f3
            go_simp
          try simp only [Act.put, List.setIfInBounds_toArray, List.set_cons_zero, List.set_cons_succ]
          refine wpAnyH_take (i := 1) (v := .agg #[.int .i64 x1, .int .i64 x2, .int .i64 x3, .int .i64 x4]) rfl (by kernel_rfl) (by kernel_rfl) (by kernel_rfl) (fun _ _ _ h => h) (Or.inl ⟨by rfl, ?_⟩) hH ?_
          · intro w hw
            have f0 := hw.cell 0
            have f1 := hw.cell 1
            have f2 := hw.cell 2
            have f3 := hw.cell 3
            simp at f0 f1 f2 f3
            go_simp
          try simp only [Act.put, List.setIfInBounds_toArray, List.set_cons_zero, List.set_cons_succ]
          refine wpAnyH_ready (rs := [2]) (by kernel_rfl) (by simp) (AllReadyH.cons rfl (fun K hK => ?_) AllReadyH.nil)
          go_simp
          refine (Hisf.out _).mono ?_
          rintro e wa ⟨rfl, hba⟩
          go_wp2_with fail
          refine hK.out _ _ ?_ (fun hH2 => ?_)
          · exact HB1.drew.on hba
          clear hK K
          try simp only [Act.put, List.setIfInBounds_toArray, List.set_cons_zero, List.set_cons_succ]
          refine wpAnyH_take (i := 3) (v := .bool false) rfl (by kernel_rfl) (by kernel_rfl) (by kernel_rfl) (fun _ _ _ h => h) (Or.inl ⟨by rfl, ?_⟩) hH2 ?_
          · intro w _
            go_simp
          try simp only [Act.put, List.setIfInBounds_toArray, List.set_cons_zero, List.set_cons_succ]
          refine wpAnyH_take (i := 4) (v := undef) rfl (by kernel_rfl) (by kernel_rfl) (by kernel_rfl) (fun _ _ _ h => h) (Or.inr ⟨by rfl, rfl⟩) hH2 ?_
          try simp only [Act.put, List.setIfInBounds_toArray, List.set_cons_zero, List.set_cons_succ]
          refine wpAnyH_take (i := 5) (v := undef) rfl (by kernel_rfl) (by kernel_rfl) (by kernel_rfl) (fun _ _ _ h => h) (Or.inr ⟨by rfl, rfl⟩) hH2 ?_
          try simp only [Act.put, List.setIfInBounds_toArray, List.set_cons_zero, List.set_cons_succ]
          refine wpAnyH_take (i := 6) (v := undef) rfl (by kernel_rfl) (by kernel_rfl) (by kernel_rfl) (fun _ _ _ h => h) (Or.inr ⟨by rfl, rfl⟩) hH2 ?_
          try simp only [Act.put, List.setIfInBounds_toArray, List.set_cons_zero, List.set_cons_succ]
          refine wpAnyH_take (i := 7) (v := undef) rfl (by kernel_rfl) (by kernel_rfl) (by kernel_rfl) (fun _ _ _ h => h) (Or.inr ⟨by rfl, rfl⟩) hH2 ?_
          try simp only [Act.put, List.setIfInBounds_toArray, List.set_cons_zero, List.set_cons_succ]
          refine wpAnyH_take (i := 8) (v := undef) rfl (by kernel_rfl) (by kernel_rfl) (by kernel_rfl) (fun _ _ _ h => h) (Or.inr ⟨by rfl, rfl⟩) hH2 ?_
          try simp only [Act.put, List.setIfInBounds_toArray, List.set_cons_zero, List.set_cons_succ]
          refine wpAnyH_take (i := 9) (v := .bool false) rfl (by kernel_rfl) (by kernel_rfl) (by kernel_rfl) (fun _ _ _ h => h) (Or.inl ⟨by rfl, ?_⟩) hH2 ?_
          · intro w _
            go_simp
          try simp only [Act.put, List.setIfInBounds_toArray, List.set_cons_zero, List.set_cons_succ]
          have HZ_wa := HZ1.drew.on hba
          have hb_wa := bthen HbZ.drew hba
          have HB1' := HB1.drew
          clear HZ1 HbZ HB1 hH
          have y0 := HZ_wa.cell 0
          have y1 := HZ_wa.cell 1
          have y2 := HZ_wa.cell 2
          have y3 := HZ_wa.cell 3
          have yf := HZ_wa.frozen
          have yl := HZ_wa.lt
          simp at y0 y1 y2 y3
          refine wpAnyH_ready (rs := [10]) (by kernel_rfl) (by simp) (AllReadyH.cons rfl (fun K hK => ?_) AllReadyH.nil)
          go_simp
          refine hK.out _ _ ?_ (fun hH3 => ?_)
          · exact (((((HB1'.on hba).far (p := ⟨w.heap.size, 0, none⟩) Hne.out _).far (p := ⟨w.heap.size, 1, none⟩) Hne.out _).far (p := ⟨w.heap.size, 2, none⟩) Hne.out _).far (p := ⟨w.heap.size, 3, none⟩) Hne.out _)
          clear hK K
          try simp only [Act.put, List.setIfInBounds_toArray, List.set_cons_zero, List.set_cons_succ]
          refine wpAnyH_take (i := 11) (oi := { dst := some 5, op := .assign (.tmp 68), type := _, pos := _, after := _, guard := _ }) (v := .bool false) rfl (by kernel_rfl) (by kernel_rfl) (by kernel_rfl) (fun _ _ _ h => h) (Or.inl ⟨by rfl, ?_⟩) hH3 ?_
          · intro w _
            go_simp
          try simp only [Act.put, List.setIfInBounds_toArray, List.set_cons_zero, List.set_cons_succ]
          refine wpAnyH_done (by kernel_rfl) ?_ _
          go_wp2
          have HR4 := HZ_wa.set4 (b0 := .int .i64 x1) (b1 := .int .i64 x2) (b2 := .int .i64 x3) (b3 := .int .i64 x4)
          have r0 := HR4.cell 0
          have r1 := HR4.cell 1
          have r2 := HR4.cell 2
          have r3 := HR4.cell 3
          simp at r0 r1 r2 r3
          exact bodyPost_ret (v := .tuple #[.agg #[.int .i64 x1, .int .i64 x2, .int .i64 x3, .int .i64 x4], .bool false]) (by simp [results, Tryz.results102, go_sem, r0, r1, r2, r3]) rfl ⟨Hno.out, by repeat (first | (with_reducible assumption) | (with_reducible refine bst ?_ (by exact Nat.le_refl _) _) | (with_reducible refine Below.drew ?_))⟩
      · have Hno := Lib.hid (RdP.no (Hn5.out (by omega)) 0 0 0 0)
        obtain ⟨A9, c9, rfl⟩ := own_form Hown.out
        have hx5 : ¬ ((xs.length : Int) = 5) := by omega
        have r0 := HRr.out.cell 0
        have r1 := HRr.out.cell 1
        have r2 := HRr.out.cell 2
        have r3 := HRr.out.cell 3
        have rl := HRr.out.lt
        have rf := HRr.out.frozen
        simp at r0 r1 r2 r3
        have hx6 : ((xs.length : Int) == 5) = false := beq_eq_false_iff_ne.2 hx5
        have hx7 : ((xs.length : Int) != 5) = true := by simp [bne, hx6]
        go_wp2
        clear r0 r1 r2 r3 rf
        have HR4 := Lib.hid (HRr.out.set4 (b0 := .int .i64 0) (b1 := .int .i64 0) (b2 := .int .i64 0) (b3 := .int .i64 0))
        have Hb4 := bst (bst (bst (bst Hbr.out (p := ⟨w.heap.size, 0, none⟩) (Nat.le_refl _) (.int .i64 0)) (p := ⟨w.heap.size, 1, none⟩) (Nat.le_refl _) (.int .i64 0)) (p := ⟨w.heap.size, 2, none⟩) (Nat.le_refl _) (.int .i64 0)) (p := ⟨w.heap.size, 3, none⟩) (Nat.le_refl _) (.int .i64 0)
        have r0 := HR4.out.cell 0
        have r1 := HR4.out.cell 1
        have r2 := HR4.out.cell 2
        have r3 := HR4.out.cell 3
        simp at r0 r1 r2 r3
        exact bodyPost_ret (v := .tuple #[.agg #[.int .i64 0, .int .i64 0, .int .i64 0, .int .i64 0], .bool false]) (by simp [results, Tryz.results102, go_sem, r0, r1, r2, r3]) rfl ⟨Hno.out, Hb4⟩
end Go.Proofs.YticbmpjdcanjkaaGreatDoor
