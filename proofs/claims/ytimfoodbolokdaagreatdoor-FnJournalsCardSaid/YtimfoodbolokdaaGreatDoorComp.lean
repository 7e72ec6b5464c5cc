/- CompactJournal of both. Conditions: Env; bounds. -/
import Derived.Test.YtimfoodbolokdaaGreatDoorBest2
import Derived.Test.YtimfoodbolokdaaGreatDoorJour2
namespace Go.Proofs.YtimfoodbolokdaaGreatDoor
open Go Go.RowKit

def cmpP (l : List Rc) : Nat → ByteArray
  | 0 => ⟨#[]⟩
  | k + 1 => cmpP l k ++ (rcS.get l k).line k
def coV (D P : ByteArray) : ByteArray × Bool := if jrOk D P = true ∧ (bestV (jrV D P)).2 = true then (cmpP (bestV (jrV D P)).1 (bestV (jrV D P)).1.length, true) else (⟨#[]⟩, false)
theorem blk_set0 {w : World} {g : Nat} {t : TypeId} {a0 a1 b0 : Value} (h : Blk w g t #[a0, a1]) : Blk (w.setCell ⟨g, 0, none⟩ b0) g t #[b0, a1] := by
  have q := h.set 0 b0
  simp only [List.setIfInBounds_toArray, List.set_cons_zero] at q
  exact q
theorem curve_of_ok {r : Rc} (h : r.ok = true) : curveB r.a r.b = true := recB_curve h
theorem bestL_ok {all : List Rc} : ∀ (rs acc l : List Rc), (∀ r ∈ rs, r.ok = true) → (∀ s ∈ acc, s.ok = true) → bestL all rs acc = some l → (∀ s ∈ l, s.ok = true) ∧ l.length ≤ acc.length + rs.length := by
  intro rs
  induction rs with
  | nil =>
    intro acc l _ ha h
    simp only [bestL] at h
    injection h with h
    subst h
    exact ⟨ha, by simp⟩
  | cons r rs ih =>
    intro acc l hr ha h
    unfold bestL at h
    split at h
    · have := ih acc l (fun x hx => hr x (List.mem_cons_of_mem _ hx)) ha h
      exact ⟨this.1, by rw [List.length_cons]; omega⟩
    · split at h
      · rename_i hb
        have hbd := bndV_bd hb
        have hro := hr r (List.mem_cons_self ..)
        have := ih _ l (fun x hx => hr x (List.mem_cons_of_mem _ hx)) (fun s hs => by
          rcases List.mem_append.1 hs with hs | hs
          · exact ha s hs
          · have e : s = (⟨r.a, r.b, (bndV r.a r.b all).1, (bndV r.a r.b all).2.1⟩ : Rc) := by simpa using hs
            subst e
            show recB _ _ _ _ = true
            unfold recB
            rw [curve_of_ok hro, Bool.true_and]
            exact decide_eq_true hbd) h
        refine ⟨this.1, ?_⟩
        have h2 := this.2
        rw [List.length_append, List.length_singleton] at h2
        rw [List.length_cons]; omega
      · cases h
theorem bestV_ok {all : List Rc} (h : ∀ r ∈ all, r.ok = true) : (∀ s ∈ (bestV all).1, s.ok = true) ∧ (bestV all).1.length ≤ all.length := by
  unfold bestV
  cases hb : bestO all with
  | none => exact ⟨fun s hs => (by cases hs), Nat.zero_le _⟩
  | some l =>
    have := bestL_ok all [] l h (fun s hs => by cases hs) hb
    exact ⟨this.1, by simpa using this.2⟩
theorem jrV_rok (D P : ByteArray) : ∀ r ∈ jrV D P, r.ok = true := by
  intro r hr
  unfold jrV at hr
  split at hr
  · exact jrRecs_ok D P r hr
  · cases hr
theorem cmpP_size {l : List Rc} (h : ∀ s ∈ l, s.ok = true) (hl : l.length ≤ 30) : ∀ k, k ≤ l.length → (cmpP l k).size ≤ 40 * k
  | 0, _ => Nat.le_refl _
  | k + 1, hk => by
    have ih := cmpP_size h hl k (by omega)
    have h2 := line_len (k := (k : Int)) (h _ (get_mem (k := k) (by omega))) (by omega)
    unfold cmpP
    rw [ByteArray.size_append]
    omega
set_option linter.unusedSimpArgs false in
set_option maxRecDepth 8000 in
set_option maxHeartbeats 4000000 in
theorem implComp_any (D P : ByteArray) (w : World) (h : JB D P) (he : Env w) : Calls Tryz.prog 60 #[.agg #[.string D, .string P]] w fun e w' => e = .returned (.tuple #[.agg #[.string (coV D P).1, .string ⟨#[]⟩], .bool (coV D P).2]) ∧ Below w.heap.size w w' := by
  have hd := h.d; have hp := h.p
  have hbx := bal (bal (Below.refl w.heap.size w) (Obj.cells #[.string D, .string P] 76)) (Obj.cells #[.string (⟨#[]⟩ : ByteArray), .string (⟨#[]⟩ : ByteArray)] 76)
  have He := Lib.hid (he.on hbx); clear he
  have HX := Lib.hid ((Blk.new w 76 #[.string D, .string P]).alloc (Obj.cells #[.string (⟨#[]⟩ : ByteArray), .string (⟨#[]⟩ : ByteArray)] 76))
  have HZ := Lib.hid (Blk.new1 w (Obj.cells #[.string D, .string P] 76) 76 #[.string (⟨#[]⟩ : ByteArray), .string (⟨#[]⟩ : ByteArray)])
  have Hbx := Lib.hid hbx; clear hbx
  have hrl := jrV_len D P
  go_enter Tryz.func60, Tryz.ntmps60
  go_wp2_with fail
  refine (recordsOf_any D P _ (by omega) (by omega) He.out).mono ?_; rintro e w1 ⟨⟨v, rfl, hown⟩, hb1⟩
  have Hown := Lib.hid (Rd.of_own (S := rcS) hown rfl)
  obtain ⟨A1, c1, rfl⟩ := own_form hown
  clear hown
  have He1 := Lib.hid (He.out.on hb1)
  have HX1 := Lib.hid (HX.out.on hb1); have HZ1 := Lib.hid (HZ.out.on hb1); have Hb1 := Lib.hid (bthen Hbx.out hb1); clear hb1
  have x0 := HX1.out.cell 0
  have x1 := HX1.out.cell 1
  have xl := HX1.out.lt
  have z0 := HZ1.out.cell 0
  have z1 := HZ1.out.cell 1
  have zl := HZ1.out.lt
  have zf := HZ1.out.frozen
  simp at x0 x1 z0 z1
  cases hok : jrOk D P
  · have Hv := Lib.hid (show coV D P = (⟨#[]⟩, false) by unfold coV; rw [if_neg (fun hh => by rw [hok] at hh; cases hh.1)])
    clear hok
    go_wp2
    have HR4 := HZ1.out.set2 (b0 := .string (⟨#[]⟩ : ByteArray)) (b1 := .string (⟨#[]⟩ : ByteArray))
    have q0 := HR4.cell 0
    have q1 := HR4.cell 1
    simp at q0 q1
    exact bodyPost_ret (v := .tuple #[.agg #[.string (⟨#[]⟩ : ByteArray), .string (⟨#[]⟩ : ByteArray)], .bool false]) (by simp [results, Tryz.results60, go_sem, q0, q1]) rfl ⟨by rw [Hv.out] <;> rfl, bst (bst Hb1.out (Nat.le_succ _) _) (Nat.le_succ _) _⟩
  · skip
    go_wp2_with fail
    refine (bestRecords_any _ (jrV D P) _ Hown.out (by omega)).mono ?_; rintro e w2 ⟨⟨v2, rfl, hown2⟩, hb2⟩
    clear x0 x1 xl z0 z1 zl zf
    have HZ2 := Lib.hid (HZ1.out.on hb2); have Hb2 := Lib.hid (bthen Hb1.out hb2)
    have He2 := Lib.hid (He1.out.on hb2)
    clear hb2
    have hbok := bestV_ok (jrV_rok D P)
    have Hval := Lib.hid hbok.1
    have hbl : (bestV (jrV D P)).1.length ≤ 30 := Nat.le_trans hbok.2 hrl
    clear hbok hrl
    have Hco := Lib.hid (show coV D P = if (bestV (jrV D P)).2 = true then (cmpP (bestV (jrV D P)).1 (bestV (jrV D P)).1.length, true) else (⟨#[]⟩, false) by
      unfold coV
      cases hb : (bestV (jrV D P)).2
      · rw [if_neg (fun hh => by cases hh.2)]; rfl
      · rw [if_pos ⟨hok, rfl⟩]; rfl)
    clear hok
    generalize bestV (jrV D P) = bv at Hval hbl Hco hown2 ⊢
    obtain ⟨l, ok⟩ := bv
    simp only at Hval hbl Hco hown2
    obtain ⟨A2, c2, rfl⟩ := own_form hown2
    have Hown2 := Lib.hid hown2; clear hown2
    have z0 := HZ2.out.cell 0
    have z1 := HZ2.out.cell 1
    have zl := HZ2.out.lt
    have zf := HZ2.out.frozen
    simp at z0 z1
    cases ok
    · have Hv := Lib.hid (show coV D P = (⟨#[]⟩, false) from Hco.out)
      go_wp2
      have HR4 := HZ2.out.set2 (b0 := .string (⟨#[]⟩ : ByteArray)) (b1 := .string (⟨#[]⟩ : ByteArray))
      have q0 := HR4.cell 0
      have q1 := HR4.cell 1
      simp at q0 q1
      exact bodyPost_ret (v := .tuple #[.agg #[.string (⟨#[]⟩ : ByteArray), .string (⟨#[]⟩ : ByteArray)], .bool false]) (by simp [results, Tryz.results60, go_sem, q0, q1]) rfl ⟨by rw [Hv.out] <;> rfl, bst (bst Hb2.out (Nat.le_succ _) _) (Nat.le_succ _) _⟩
    · have Hv := Lib.hid (show coV D P = (cmpP l l.length, true) from Hco.out)
      have Hsz := Lib.hid (cmpP_size Hval.out hbl)
      have Hrd := Lib.hid (Rd.of_own (S := rcS) Hown2.out rfl)
      clear z0 z1 zl zf Hco
      obtain ⟨Ar, cr, hAr, hcr, hmr, hAA⟩ := Hrd.out
      cases hAr
      unfold maxLen at hmr
      rcases Nat.eq_zero_or_pos l.length with h0 | h0
      · obtain rfl : l = [] := List.eq_nil_of_length_eq_zero h0
        clear hAA h0
        have Hv0 := Lib.hid (show coV D P = (⟨#[]⟩, true) from Hv.out)
        have HQ := Lib.hid (Blk.new w2 76 #[.string (⟨#[]⟩ : ByteArray), .string (⟨#[]⟩ : ByteArray)])
        have HZ3 := Lib.hid (HZ2.out.alloc (Obj.cells #[.string (⟨#[]⟩ : ByteArray), .string (⟨#[]⟩ : ByteArray)] 76))
        have Hb3 := Lib.hid (bal Hb2.out (Obj.cells #[.string (⟨#[]⟩ : ByteArray), .string (⟨#[]⟩ : ByteArray)] 76))
        have z0 := HZ3.out.cell 0
        have z1 := HZ3.out.cell 1
        have zl := HZ3.out.lt
        have zf := HZ3.out.frozen
        simp at z0 z1
        go_wp2
        refine wp_loop_rounds 1 ?_
        rw [rounds_succ]
        go_wp2
        have HR4 := HZ3.out.set2 (b0 := .string (⟨#[]⟩ : ByteArray)) (b1 := .string (⟨#[]⟩ : ByteArray))
        have q0 := HR4.cell 0
        have q1 := HR4.cell 1
        simp at q0 q1
        exact bodyPost_ret (v := .tuple #[.agg #[.string (⟨#[]⟩ : ByteArray), .string (⟨#[]⟩ : ByteArray)], .bool true]) (by simp [results, Tryz.results60, go_sem, q0, q1]) rfl ⟨by rw [Hv0.out] <;> rfl, bst (bst Hb3.out (Nat.le_succ _) _) (Nat.le_succ _) _⟩
      · obtain ⟨g, off, rfl, hg, hcell⟩ := hAA h0
        clear hAA h0
        have Hcell := Lib.hid (rc_cells hcell); clear hcell
        have HQ := Lib.hid (Blk.new w2 76 #[.string (⟨#[]⟩ : ByteArray), .string (⟨#[]⟩ : ByteArray)])
        go_wp2
        go_loopw [29] (fun i wr => ∃ k : Nat, k ≤ l.length ∧ i = .int .i64 k ∧ Hid (Blk wr w2.heap.size 76 #[.string (cmpP l k), .string (⟨#[]⟩ : ByteArray)]) ∧ Below w2.heap.size w2 wr) (fun i _ => l.length - (intOf i).toNat)
        case atStart => exact ⟨0, Nat.zero_le _, rfl, HQ, bal (Below.refl _ _) _⟩
        case round =>
          obtain ⟨k, hk, rfl, HQr, hb⟩ := hrel
          by_cases hlt : k < l.length
          · obtain ⟨f0, f1, f2, f3⟩ := Hcell.out k hlt
            rw [← hb.cell (p := ⟨_, _, _⟩) hg] at f0 f1 f2 f3
            have hxo := Hval.out _ (get_mem hlt)
            have Hrc := Lib.hid (recB_bd (k := (k : Int)) hxo (by omega))
            have hsk := Hsz.out k hk
            have hll := line_len (k := (k : Int)) hxo (by omega)
            have HL := Lib.hid (show cmpP l (k + 1) = cmpP l k ++ (rcS.get l k).line k from rfl)
            have Hse := Lib.hid (fun W ht => sealRecord_any (k : Int) _ _ _ _ W Hrc.out ht)
            unfold Rc.line at HL hll
            clear hxo
            generalize rcS.get l k = x at f0 f1 f2 f3 HL Hse hll Hrc
            generalize lineS (k : Int) x.a x.b x.lo x.hi = L at HL Hse hll
            generalize cmpP l k = C at HQr HL hsk
            have hgr : g < wr.heap.size := Nat.lt_of_lt_of_le hg hb.size
            have hi0 : (0 : Int) ≤ (k : Int) := by omega
            have hi1 : (k : Int) < (l.length : Int) := by omega
            have hne : w2.heap.size ≠ wr.heap.size := by have := HQr.out.lt; omega
            have HN := (Blk.new wr 78 #[.int .i64 x.a, .int .i64 x.b, .int .i64 x.lo, .int .i64 x.hi])
            have HQa := HQr.out.alloc (Obj.cells #[.int .i64 x.a, .int .i64 x.b, .int .i64 x.lo, .int .i64 x.hi] 78)
            have hba := bal hb (Obj.cells #[.int .i64 x.a, .int .i64 x.b, .int .i64 x.lo, .int .i64 x.hi] 78)
            have Hne := Lib.hid hne; clear hne
            have Hgr := Lib.hid hgr
            go_wp2
            clear f0 f1 f2 f3 hgr
            generalize wr.alloc (Obj.cells #[.int .i64 x.a, .int .i64 x.b, .int .i64 x.lo, .int .i64 x.hi] 78) = wa at HN HQa hba ⊢
            have Hta := Lib.hid (He2.out.on hba).tab
            have n0 := HN.drew.cell 0
            have n1 := HN.drew.cell 1
            have n2 := HN.drew.cell 2
            have n3 := HN.drew.cell 3
            have u0 := HQa.drew.cell 0
            simp at n0 n1 n2 n3 u0
            go_region_with (first | (go_at_call 138; (with_reducible refine (Hse.out _ (Hta.out.on (Below.refl _ _).drew)).mono ?_); rintro e wc ⟨rfl, hbc⟩; have HQc := HQa.drew.on hbc; have c0 := HQc.cell 0; have cf := HQc.frozen 0; have cl := HQc.lt; have hbwc := bthen hba.drew hbc; simp at c0))
            all_goals
              go_wp2
              go_roundw
              case rel => exact ⟨k + 1, by omega, by go_num, Lib.hid (by rw [HL.out]; first | exact blk_set0 HQc | exact (blk_set0 HQc).drew | exact blk_set0 HQc.drew), by first | exact bst hbwc (Nat.le_refl _) _ | exact (bst hbwc (Nat.le_refl _) _).drew | exact bst hbwc.drew (Nat.le_refl _) _⟩
              case measure => simp [intOf]; omega
          · obtain rfl : k = l.length := by omega
            have HZr := HZ2.out.on hb
            have hbr := bthen Hb2.out hb
            have u0 := HQr.out.cell 0
            have u1 := HQr.out.cell 1
            have ul := HQr.out.lt
            have z0 := HZr.cell 0
            have z1 := HZr.cell 1
            have zl := HZr.lt
            have zf := HZr.frozen
            simp at u0 u1 z0 z1
            go_wp2
            have HR4 := HZr.set2 (b0 := .string (cmpP l l.length)) (b1 := .string (⟨#[]⟩ : ByteArray))
            have q0 := HR4.cell 0
            have q1 := HR4.cell 1
            simp at q0 q1
            exact bodyPost_ret (v := .tuple #[.agg #[.string (cmpP l l.length), .string (⟨#[]⟩ : ByteArray)], .bool true]) (by simp [results, Tryz.results60, go_sem, q0, q1]) rfl ⟨by rw [Hv.out] <;> rfl, bst (bst hbr (Nat.le_succ _) _) (Nat.le_succ _) _⟩
set_option linter.unusedSimpArgs false in
set_option maxRecDepth 8000 in
set_option maxHeartbeats 4000000 in
theorem specComp_any (D P : ByteArray) (w : World) (h : JB D P) : Calls Tryz.prog 61 #[.agg #[.string D, .string P]] w fun e w' => e = .returned (.tuple #[.agg #[.string (coV D P).1, .string ⟨#[]⟩], .bool (coV D P).2]) ∧ Below w.heap.size w w' := by
  have hd := h.d; have hp := h.p
  have hbx := bal (bal (Below.refl w.heap.size w) (Obj.cells #[.string D, .string P] 76)) (Obj.cells #[.string (⟨#[]⟩ : ByteArray), .string (⟨#[]⟩ : ByteArray)] 76)
  have HX := Lib.hid ((Blk.new w 76 #[.string D, .string P]).alloc (Obj.cells #[.string (⟨#[]⟩ : ByteArray), .string (⟨#[]⟩ : ByteArray)] 76))
  have HZ := Lib.hid (Blk.new1 w (Obj.cells #[.string D, .string P] 76) 76 #[.string (⟨#[]⟩ : ByteArray), .string (⟨#[]⟩ : ByteArray)])
  have Hbx := Lib.hid hbx; clear hbx
  have hrl := jrV_len D P
  go_enter Tryz.func61, Tryz.ntmps61
  go_wp2_with fail
  refine (jrGood_any D P _ h).mono ?_; rintro e w1 ⟨rfl, hb1⟩
  have HX1 := Lib.hid (HX.out.on hb1); have HZ1 := Lib.hid (HZ.out.on hb1); have Hb1 := Lib.hid (bthen Hbx.out hb1); clear hb1
  have x0 := HX1.out.cell 0
  have x1 := HX1.out.cell 1
  have xl := HX1.out.lt
  have z0 := HZ1.out.cell 0
  have z1 := HZ1.out.cell 1
  have zl := HZ1.out.lt
  have zf := HZ1.out.frozen
  simp at x0 x1 z0 z1
  cases hok : jrOk D P
  · have Hv := Lib.hid (show coV D P = (⟨#[]⟩, false) by unfold coV; rw [if_neg (fun hh => by rw [hok] at hh; cases hh.1)])
    clear hok
    go_wp2
    have HR4 := HZ1.out.set2 (b0 := .string (⟨#[]⟩ : ByteArray)) (b1 := .string (⟨#[]⟩ : ByteArray))
    have q0 := HR4.cell 0
    have q1 := HR4.cell 1
    simp at q0 q1
    exact bodyPost_ret (v := .tuple #[.agg #[.string (⟨#[]⟩ : ByteArray), .string (⟨#[]⟩ : ByteArray)], .bool false]) (by simp [results, Tryz.results61, go_sem, q0, q1]) rfl ⟨by rw [Hv.out] <;> rfl, bst (bst Hb1.out (Nat.le_succ _) _) (Nat.le_succ _) _⟩
  · have Hall := Lib.hid (fun W => jrAll_any D P W h hok)
    rw [← jrV_ok hok] at Hall
    go_wp2_with fail
    refine (Hall.out _).mono ?_; rintro e w9 ⟨⟨v, rfl, hown⟩, hb9⟩
    have Hown := Lib.hid (Rd.of_own (S := rcS) hown rfl)
    obtain ⟨A1, c1, rfl⟩ := own_form hown
    clear hown x0 x1 xl z0 z1 zl zf
    have HX9 := Lib.hid (HX1.out.on hb9); have HZ9 := Lib.hid (HZ1.out.on hb9); have Hb9 := Lib.hid (bthen Hb1.out hb9); clear hb9
    go_wp2_with fail
    refine (jrShorter_any _ (jrV D P) _ Hown.out (by omega)).mono ?_; rintro e w2 ⟨⟨v2, rfl, hown2⟩, hb2⟩
    have HZ2 := Lib.hid (HZ9.out.on hb2); have Hb2 := Lib.hid (bthen Hb9.out hb2)
    clear hb2
    have hbok := bestV_ok (jrV_rok D P)
    have Hval := Lib.hid hbok.1
    have hbl : (bestV (jrV D P)).1.length ≤ 30 := Nat.le_trans hbok.2 hrl
    clear hbok hrl
    have Hco := Lib.hid (show coV D P = if (bestV (jrV D P)).2 = true then (cmpP (bestV (jrV D P)).1 (bestV (jrV D P)).1.length, true) else (⟨#[]⟩, false) by
      unfold coV
      cases hb : (bestV (jrV D P)).2
      · rw [if_neg (fun hh => by cases hh.2)]; rfl
      · rw [if_pos ⟨hok, rfl⟩]; rfl)
    clear hok
    generalize bestV (jrV D P) = bv at Hval hbl Hco hown2 ⊢
    obtain ⟨l, ok⟩ := bv
    simp only at Hval hbl Hco hown2
    obtain ⟨A2, c2, rfl⟩ := own_form hown2
    have Hown2 := Lib.hid hown2; clear hown2
    have z0 := HZ2.out.cell 0
    have z1 := HZ2.out.cell 1
    have zl := HZ2.out.lt
    have zf := HZ2.out.frozen
    simp at z0 z1
    cases ok
    · have Hv := Lib.hid (show coV D P = (⟨#[]⟩, false) from Hco.out)
      go_wp2
      have HR4 := HZ2.out.set2 (b0 := .string (⟨#[]⟩ : ByteArray)) (b1 := .string (⟨#[]⟩ : ByteArray))
      have q0 := HR4.cell 0
      have q1 := HR4.cell 1
      simp at q0 q1
      exact bodyPost_ret (v := .tuple #[.agg #[.string (⟨#[]⟩ : ByteArray), .string (⟨#[]⟩ : ByteArray)], .bool false]) (by simp [results, Tryz.results61, go_sem, q0, q1]) rfl ⟨by rw [Hv.out] <;> rfl, bst (bst Hb2.out (Nat.le_succ _) _) (Nat.le_succ _) _⟩
    · have Hv := Lib.hid (show coV D P = (cmpP l l.length, true) from Hco.out)
      have Hsz := Lib.hid (cmpP_size Hval.out hbl)
      have Hrd := Lib.hid (Rd.of_own (S := rcS) Hown2.out rfl)
      clear z0 z1 zl zf Hco
      obtain ⟨Ar, cr, hAr, hcr, hmr, hAA⟩ := Hrd.out
      cases hAr
      unfold maxLen at hmr
      have HZ3 := HZ2
      rcases Nat.eq_zero_or_pos l.length with h0 | h0
      · obtain rfl : l = [] := List.eq_nil_of_length_eq_zero h0
        clear hAA h0
        have Hv0 := Lib.hid (show coV D P = (⟨#[]⟩, true) from Hv.out)
        have z0 := HZ2.out.cell 0
        have z1 := HZ2.out.cell 1
        have zl := HZ2.out.lt
        have zf := HZ2.out.frozen
        simp at z0 z1
        go_wp2
        refine wp_loop_rounds 1 ?_
        rw [rounds_succ]
        go_wp2
        have HR4 := HZ2.out.set2 (b0 := .string (⟨#[]⟩ : ByteArray)) (b1 := .string (⟨#[]⟩ : ByteArray))
        have q0 := HR4.cell 0
        have q1 := HR4.cell 1
        simp at q0 q1
        exact bodyPost_ret (v := .tuple #[.agg #[.string (⟨#[]⟩ : ByteArray), .string (⟨#[]⟩ : ByteArray)], .bool true]) (by simp [results, Tryz.results61, go_sem, q0, q1]) rfl ⟨by rw [Hv0.out] <;> rfl, bst (bst Hb2.out (Nat.le_succ _) _) (Nat.le_succ _) _⟩
      · obtain ⟨g, off, rfl, hg, hcell⟩ := hAA h0
        clear hAA h0
        have Hcell := Lib.hid (rc_cells hcell); clear hcell
        go_wp2
        go_loopw [24, 6] (fun i s wr => ∃ k : Nat, k ≤ l.length ∧ i = .int .i64 k ∧ s = .string (cmpP l k) ∧ Below w2.heap.size w2 wr) (fun i _ _ => l.length - (intOf i).toNat)
        case atStart => exact ⟨0, Nat.zero_le _, rfl, rfl, Below.refl _ _⟩
        case round =>
          obtain ⟨k, hk, rfl, rfl, hb⟩ := hrel
          by_cases hlt : k < l.length
          · obtain ⟨f0, f1, f2, f3⟩ := Hcell.out k hlt
            rw [← hb.cell (p := ⟨_, _, _⟩) hg] at f0 f1 f2 f3
            have hxo := Hval.out _ (get_mem hlt)
            have Hrc := Lib.hid (recB_bd (k := (k : Int)) hxo (by omega))
            have hsk := Hsz.out k hk
            have hll := line_len (k := (k : Int)) hxo (by omega)
            have HL := Lib.hid (show cmpP l (k + 1) = cmpP l k ++ (rcS.get l k).line k from rfl)
            have Hse := Lib.hid (fun W => jrLine_any (k : Int) _ _ _ _ W Hrc.out)
            unfold Rc.line at HL hll
            clear hxo
            generalize rcS.get l k = x at f0 f1 f2 f3 HL Hse hll Hrc
            generalize lineS (k : Int) x.a x.b x.lo x.hi = L at HL Hse hll
            generalize cmpP l k = C at HL hsk ⊢
            have hgr : g < wr.heap.size := Nat.lt_of_lt_of_le hg hb.size
            have hi0 : (0 : Int) ≤ (k : Int) := by omega
            have hi1 : (k : Int) < (l.length : Int) := by omega
            have hba := bal hb (Obj.cells #[.int .i64 x.a, .int .i64 x.b, .int .i64 x.lo, .int .i64 x.hi] 78)
            go_wp2_with fail
            refine (Hse.out _).mono ?_; rintro e wc ⟨rfl, hbc⟩
            go_wp2
            go_roundw
            case rel => exact ⟨k + 1, by omega, by go_num, by rw [HL.out], bthen hba hbc⟩
            case measure => simp [intOf]; omega
          · obtain rfl : k = l.length := by omega
            have HZr := HZ2.out.on hb
            have hbr := bthen Hb2.out hb
            have z0 := HZr.cell 0
            have z1 := HZr.cell 1
            have zl := HZr.lt
            have zf := HZr.frozen
            simp at z0 z1
            go_wp2
            have HR4 := HZr.set2 (b0 := .string (cmpP l l.length)) (b1 := .string (⟨#[]⟩ : ByteArray))
            have q0 := HR4.cell 0
            have q1 := HR4.cell 1
            simp at q0 q1
            exact bodyPost_ret (v := .tuple #[.agg #[.string (cmpP l l.length), .string (⟨#[]⟩ : ByteArray)], .bool true]) (by simp [results, Tryz.results61, go_sem, q0, q1]) rfl ⟨by rw [Hv.out] <;> rfl, bst (bst hbr (Nat.le_succ _) _) (Nat.le_succ _) _⟩
end Go.Proofs.YtimfoodbolokdaaGreatDoor
