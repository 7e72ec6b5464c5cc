/- A catalogue out of records: the plain law, with what it rests on: The walk of the reference's JournalCatalogue; The order of a journal's catalogue: the closure's walk, to the world itself; A row of entries as the shelf's sort sees it: the cells held, and an own row behind; The sort of a journal's catalogue: on an own row; The walk of the program's JournalCatalogue. Conditions: those of each theorem. -/
import Derived.Test.YticbmpjdcanjkaaGreatDoorTightL
import Derived.Test.YticbmpjdcanjkaaGreatDoorBest2
import Derived.Test.YticbmpjdcanjkaaGreatDoorJRecs
import Derived.Test.YticbmpjdcanjkaaGreatDoorComp
import Derived.Test.YticbmpjdcanjkaaGreatDoorTight2
import Derived.Sort.Grow
import Derived.Deep.RegionHeld3
import Derived.Shelf.GgSortFunc.InsertionK
import Derived.Test.YticbmpjdcanjkaaGreatDoorShelfS
import Derived.Test.YticbmpjdcanjkaaGreatDoorCloneE
namespace Go.Proofs.YticbmpjdcanjkaaGreatDoor
section
open Go Go.RowKit

def enR (r : Rc) : En := ⟨r.a, r.b, r.lo, r.hi, 0⟩
theorem enR_ent {r : Rc} (h : r.ok = true) : entE (enR r) = true := by
  unfold Rc.ok recB at h
  unfold entE entB enR
  simp only [Bool.and_eq_true, decide_eq_true_eq] at h ⊢
  exact ⟨h.1, by omega⟩
/-- Two of other curves. -/
def dst (x y : Rc) : Prop := ¬ (x.a = y.a ∧ x.b = y.b)
def dE (x y : En) : Prop := ¬ (x.a = y.a ∧ x.b = y.b)
theorem bestL_dst {all : List Rc} : ∀ (rs acc l : List Rc), acc.Pairwise dst → bestL all rs acc = some l → l.Pairwise dst
  | [], acc, l, h, e => by unfold bestL at e; cases e; exact h
  | r :: rs, acc, l, h, e => by
    unfold bestL at e
    split at e
    · exact bestL_dst rs acc l h e
    · rename_i hn
      split at e
      · refine bestL_dst rs _ l ?_ e
        rw [List.pairwise_append]
        refine ⟨h, List.pairwise_singleton _ _, fun x hx y hy => ?_⟩
        simp only [List.mem_singleton] at hy
        subst hy
        intro hh
        exact hn (List.any_eq_true.2 ⟨x, hx, decide_eq_true hh⟩)
      · cases e
theorem bestV_dst (all : List Rc) : (bestV all).1.Pairwise dst := by
  cases h : bestO all with
  | none => rw [bestV_none h]; exact List.Pairwise.nil
  | some l => rw [bestV_some h]; exact bestL_dst all [] l List.Pairwise.nil h
theorem map_dE {l : List Rc} (h : l.Pairwise dst) : (l.map enR).Pairwise dE := List.pairwise_map.2 h
theorem getE_at {es : List En} {k : Nat} (h : k < es.length) : enS.get es k = es[k] := by
  unfold Shape.get; rw [List.getD_eq_getElem?_getD, List.getElem?_eq_getElem h]; rfl
theorem getE_mem {es : List En} {k : Nat} (h : k < es.length) : enS.get es k ∈ es := by
  rw [getE_at h]; exact List.getElem_mem h
theorem tight_new {es : List En} {y : En} (h : ∀ x ∈ es, dE x y) : ∃ z, tightO es y = some z ∧ z.Perm (es ++ [y]) := by
  have hn : ¬ (atB es (placeN es y.a y.b) y.a y.b = true) := fun hh => by
    obtain ⟨h1, h2, h3⟩ := atB_spec hh
    exact h _ (getE_mem h1) ⟨h2, h3⟩
  refine ⟨ins es (placeN es y.a y.b) y, by unfold tightO; rw [if_neg hn], ?_⟩
  unfold ins
  refine List.perm_middle.trans ?_
  rw [List.take_append_drop]
  exact (List.perm_append_singleton y es).symm
theorem okCat_pair {es : List En} (h : okCat es) : es.Pairwise (fun x y => cmpE x y < 0) := by
  rw [List.pairwise_iff_getElem]
  intro i j hi hj hij
  have := catE_lt h hij hj
  rwa [getE_at hi, getE_at hj] at this
theorem pair_okCat {es : List En} (he : ∀ x ∈ es, entE x = true) (h : es.Pairwise (fun x y => cmpE x y < 0)) : okCat es := by
  intro k hk
  rw [okAtE, he _ (getE_mem hk), Bool.true_and]
  by_cases h0 : k = 0
  · subst h0; rfl
  · rw [List.pairwise_iff_getElem] at h
    have := h (k - 1) k (by omega) hk (by omega)
    rw [getE_at (show k - 1 < es.length by omega), getE_at hk, decide_eq_true this, Bool.or_true]
theorem cmpE_self (x : En) : ¬ cmpE x x < 0 := by
  unfold cmpE
  rw [cmpC_lt]
  omega
theorem okCat_eq {x y : List En} (hx : okCat x) (hy : okCat y) (h : x.Perm y) : x = y :=
  List.Perm.eq_of_pairwise (le := fun x y => cmpE x y < 0) (fun a _ _ _ h1 h2 => absurd (cmpE_trans h1 h2) (cmpE_self a)) (okCat_pair hx) (okCat_pair hy) h
/-- The catalogue that entries of other curves make up. -/
def jcZ (bs : List En) : List En := (foldO [] bs).getD []
theorem jc_fold {bs : List En} (hd : bs.Pairwise dE) (he : ∀ x ∈ bs, entE x = true) : ∀ k, k ≤ bs.length → ∃ z, foldO [] (bs.take k) = some z ∧ okCat z ∧ z.Perm (bs.take k)
  | 0, _ => ⟨[], by rw [foldO_zero], fun k hk => absurd hk (Nat.not_lt_zero _), by simp⟩
  | k + 1, h => by
    obtain ⟨z, h1, h2, h3⟩ := jc_fold hd he k (by omega)
    have hk : k < bs.length := by omega
    have hnew : ∀ x ∈ z, dE x (enS.get bs k) := fun x hx => by
      have hx2 := h3.mem_iff.1 hx
      obtain ⟨i, hi, rfl⟩ := List.getElem_of_mem hx2
      rw [List.length_take] at hi
      rw [List.getElem_take, getE_at hk]
      exact List.pairwise_iff_getElem.1 hd i k (by omega) hk (by omega)
    obtain ⟨z2, h4, h5⟩ := tight_new hnew
    refine ⟨z2, by rw [foldO_succ _ hk, h1]; exact h4, tight_ok h2 (he _ (getE_mem hk)) h4, h5.trans ?_⟩
    rw [List.take_add_one, List.getElem?_eq_getElem hk, getE_at hk]
    exact h3.append_right _
theorem jcZ_spec {bs : List En} (hd : bs.Pairwise dE) (he : ∀ x ∈ bs, entE x = true) : foldO [] bs = some (jcZ bs) ∧ okCat (jcZ bs) ∧ (jcZ bs).Perm bs := by
  obtain ⟨z, h1, h2, h3⟩ := jc_fold hd he bs.length (Nat.le_refl _)
  rw [List.take_length] at h1 h3
  unfold jcZ
  rw [h1]
  exact ⟨rfl, h2, h3⟩
/-- What is sorted is that catalogue. -/
theorem jcZ_sorted {bs d : List En} (hd : bs.Pairwise dE) (he : ∀ x ∈ bs, entE x = true) (hp : d.Perm bs) (hs : ∀ i j, i < j → (hj : j < d.length) → ¬ cmpE (enS.get d j) (enS.get d i) < 0) : d = jcZ bs := by
  obtain ⟨-, h2, h3⟩ := jcZ_spec hd he
  refine okCat_eq (pair_okCat (fun x hx => he x (hp.mem_iff.1 hx)) ?_) h2 (hp.trans h3.symm)
  have hd2 : d.Pairwise dE := hp.symm.pairwise hd (fun h1 h2 => h1 ⟨h2.1.symm, h2.2.symm⟩)
  rw [List.pairwise_iff_getElem] at hd2 ⊢
  intro i j hi hj hij
  have h1 := hs i j hij hj
  rw [getE_at hi, getE_at hj] at h1
  exact cmpE_neg h1 (fun h => hd2 i j hi hj hij ⟨h.1.symm, h.2.symm⟩)
/-- What both hand back. -/
def jcB (D P : ByteArray) : Bool := jrOk D P && (bestV (jrV D P)).2 && catB (jcZ ((bestV (jrV D P)).1.map enR))
def jcV (D P : ByteArray) : List En × Bool := if jcB D P = true then (jcZ ((bestV (jrV D P)).1.map enR), true) else ([], false)
theorem jcV_no {D P : ByteArray} (h : jcB D P = false) : jcV D P = ([], false) := by unfold jcV; rw [if_neg (by rw [h]; exact Bool.false_ne_true)]
theorem jcV_yes {D P : ByteArray} (h : jcB D P = true) : jcV D P = (jcZ ((bestV (jrV D P)).1.map enR), true) := by unfold jcV; rw [if_pos h]
theorem jcV_len (D P : ByteArray) : (jcV D P).1.length ≤ 30 := by
  cases h : jcB D P
  · rw [jcV_no h]; simp
  · rw [jcV_yes h]
    unfold jcB at h
    simp only [Bool.and_eq_true] at h
    have := (catB_spec h.2).1
    show (jcZ _).length ≤ 30
    omega
end
section
open Go Go.RowKit
set_option linter.unusedSimpArgs false in
set_option maxRecDepth 8000 in
set_option maxHeartbeats 4000000 in
theorem specJc_any (D P : ByteArray) (w : World) (h : JB D P) : Calls Tryz.prog 11 #[.agg #[.string D, .string P]] w fun e w' => (∃ v : Value, e = .returned (.tuple #[v, .bool (jcV D P).2]) ∧ w'.ownsRow w.heap.size 75 5 v (jcV D P).1.length (enS.flat (jcV D P).1)) ∧ Below w.heap.size w w' := by
  have hd := h.d; have hp := h.p
  have hbx := bal (Below.refl w.heap.size w) (Obj.cells #[.string D, .string P] 38)
  have HX := Lib.hid (Blk.new w 38 #[.string D, .string P])
  have Hbx := Lib.hid hbx; clear hbx
  have hrl := jrV_len D P
  go_enter Tryz.func11, Tryz.ntmps11
  go_wp2_with fail
  refine (jrGood_any D P _ h).mono ?_; rintro e w1 ⟨rfl, hb1⟩
  have HX1 := Lib.hid (HX.out.on hb1); have Hb1 := Lib.hid (bthen Hbx.out hb1); clear hb1
  have q0 := HX1.out.cell 0
  have q1 := HX1.out.cell 1
  have ql := HX1.out.lt
  simp at q0 q1
  cases hok : jrOk D P
  · have Hno := Lib.hid (jcV_no (D := D) (P := P) (by unfold jcB; rw [hok]; rfl))
    clear hok
    go_wp2
    go_ret2
    exact ⟨⟨_, by rw [Hno.out] <;> rfl, by rw [Hno.out]; exact ⟨rfl, Or.inl ⟨rfl, rfl⟩⟩⟩, Hb1.out⟩
  · have Hall := Lib.hid (fun W => jrAll_any D P W h hok)
    rw [← jrV_ok hok] at Hall
    go_wp2_with fail
    refine (Hall.out _).mono ?_; rintro e w9 ⟨⟨v, rfl, hown⟩, hb9⟩
    have Hown := Lib.hid (Rd.of_own (S := rcS) hown rfl)
    obtain ⟨A1, c1, rfl⟩ := own_form hown
    clear hown q0 q1 ql
    have Hb9 := Lib.hid (bthen Hb1.out hb9); clear hb9
    go_wp2_with fail
    refine (jrShorter_any _ (jrV D P) _ Hown.out (by omega)).mono ?_; rintro e w2 ⟨⟨v2, rfl, hown2⟩, hb2⟩
    have Hb2 := Lib.hid (bthen Hb9.out hb2)
    clear hb2
    have hbok := bestV_ok (jrV_rok D P)
    have Hval := Lib.hid hbok.1
    have Hdst := Lib.hid (bestV_dst (jrV D P))
    have hbl : (bestV (jrV D P)).1.length ≤ 30 := Nat.le_trans hbok.2 hrl
    clear hbok hrl
    have Hjb := Lib.hid (show jcB D P = ((bestV (jrV D P)).2 && catB (jcZ ((bestV (jrV D P)).1.map enR))) by unfold jcB; rw [hok, Bool.true_and])
    have Hye := Lib.hid (fun h => jcV_yes (D := D) (P := P) h)
    have Hnn := Lib.hid (fun h => jcV_no (D := D) (P := P) h)
    clear hok
    generalize bestV (jrV D P) = bv at Hval Hdst hbl Hjb Hye hown2 ⊢
    obtain ⟨l, ok⟩ := bv
    simp only at Hval Hdst hbl Hjb Hye hown2
    obtain ⟨A2, c2, rfl⟩ := own_form hown2
    have Hown2 := Lib.hid hown2; clear hown2
    cases ok
    · have Hno := Lib.hid (Hnn.out (by rw [Hjb.out]; rfl))
      go_wp2
      go_ret2
      exact ⟨⟨_, by rw [Hno.out] <;> rfl, by rw [Hno.out]; exact ⟨rfl, Or.inl ⟨rfl, rfl⟩⟩⟩, Hb2.out⟩
    · have Hjb2 := Lib.hid (show jcB D P = catB (jcZ (l.map enR)) by rw [Hjb.out, Bool.true_and])
      have Hent := Lib.hid (show ∀ x ∈ l.map enR, entE x = true from fun x hx => by obtain ⟨r, hr, rfl⟩ := List.mem_map.1 hx; exact enR_ent (Hval.out r hr))
      have Hsp := Lib.hid (jcZ_spec (map_dE Hdst.out) Hent.out)
      have Hrd := Lib.hid (Rd.of_own (S := rcS) Hown2.out rfl)
      clear Hjb
      obtain ⟨Ar, cr, hAr, hcr, hmr, hAA⟩ := Hrd.out
      cases hAr
      unfold maxLen at hmr
      rcases Nat.eq_zero_or_pos l.length with h0 | h0
      · obtain rfl : l = [] := List.eq_nil_of_length_eq_zero h0
        clear hAA h0
        have Hz0 := Lib.hid (show w2.ownsRow w2.heap.size 75 5 (.slice none 0 0) (jcZ (([] : List Rc).map enR)).length (enS.flat (jcZ (([] : List Rc).map enR))) from ⟨rfl, Or.inl ⟨rfl, rfl⟩⟩)
        have Hs0 := Lib.hid (Hb2.out.size)
        go_wp2
        refine wp_loop_rounds 1 ?_
        rw [rounds_succ]
        go_wp2_with fail
        refine (caGood_any _ (jcZ (([] : List Rc).map enR)) _ (Rd.of_own Hz0.out rfl)).mono ?_; rintro e w7 ⟨rfl, hb7⟩
        have Hb7 := Lib.hid (bthen Hb2.out hb7); have Hown7 := Lib.hid (own_below Hz0.out hb7); clear hb7
        cases hcb : catB (jcZ (([] : List Rc).map enR))
        · have Hno := Lib.hid (Hnn.out (by rw [Hjb2.out, hcb]))
          clear hcb
          go_wp2
          go_ret2
          exact ⟨⟨_, by rw [Hno.out] <;> rfl, by rw [Hno.out]; exact ⟨rfl, Or.inl ⟨rfl, rfl⟩⟩⟩, Hb7.out⟩
        · have Hyy := Lib.hid (Hye.out (by rw [Hjb2.out, hcb]))
          clear hcb
          go_wp2
          go_ret2
          exact ⟨⟨_, by rw [Hyy.out] <;> rfl, by rw [Hyy.out]; exact own_mono Hown7.out Hs0.out⟩, Hb7.out⟩
      · obtain ⟨g, off, rfl, hgl, hcell⟩ := hAA h0
        clear hAA
        have Hcell := Lib.hid (rc_cells hcell); clear hcell
        have Hs2 := Lib.hid (Hb2.out.size)
        go_wp2
        go_loopw [24, 6] (fun i o wr => ∃ (k : Nat) (z : List En), k ≤ l.length ∧ i = .int .i64 k ∧ Hid (foldO [] ((l.map enR).take k) = some z) ∧ Hid (okCat z) ∧ z.length ≤ k ∧ Below w2.heap.size w2 wr ∧ Hid (wr.ownsRow w2.heap.size 75 5 o z.length (enS.flat z))) (fun i _ _ => l.length - (intOf i).toNat)
        case atStart => exact ⟨0, [], Nat.zero_le _, rfl, Lib.hid (foldO_zero _ _), Lib.hid (fun k hk => absurd hk (Nat.not_lt_zero _)), Nat.le_refl _, Below.refl _ _, Lib.hid ⟨rfl, Or.inl ⟨rfl, rfl⟩⟩⟩
        case round =>
          obtain ⟨k, z, hk, rfl, Hz, Hzv, hzl, hb, Hown⟩ := hrel
          by_cases hlt : k < l.length
          · obtain ⟨f0, f1, f2, f3⟩ := Hcell.out k hlt
            rw [← hb.cell (p := ⟨_, _, _⟩) hgl] at f0 f1 f2 f3
            have hlm : k < (l.map enR).length := by rw [List.length_map]; exact hlt
            have Hsucc := Lib.hid (foldO_succ [] hlm)
            have hget : enS.get (l.map enR) k = enR (rcS.get l k) := by
              rw [getE_at hlm, List.getElem_map]
              unfold Shape.get; rw [List.getD_eq_getElem?_getD, List.getElem?_eq_getElem hlt]; rfl
            have Hy := Lib.hid (show entE (enR (rcS.get l k)) = true from enR_ent (Hval.out _ (get_mem hlt)))
            rw [hget] at Hsucc
            clear hget
            have hgr : g < wr.heap.size := Nat.lt_of_lt_of_le hgl hb.size
            generalize rcS.get l k = x at f0 f1 f2 f3 Hy Hsucc
            have hi0 : (0 : Int) ≤ (k : Int) := by omega
            have hi1 : (k : Int) < (l.length : Int) := by omega
            have HbA := Lib.hid (show Below wr.heap.size wr (wr.alloc (Obj.cells #[.int .i64 x.a, .int .i64 x.b, .int .i64 x.lo, .int .i64 x.hi] 72)) from bal (Below.refl _ _) _)
            go_wp2_with fail
            refine (caTighten_any _ z (enR x) _ (Rd.of_own (own_below Hown.out HbA.out) rfl) (by omega) Hzv.out Hy.out).mono ?_
            rintro e w5 ⟨⟨v5, z', b, rfl, ht, -, ho5⟩, hb5⟩
            have Ho5 := Lib.hid ho5; clear ho5
            have Ht := Lib.hid ht; clear ht
            have hb5' := bthen (bthen hb HbA.out) hb5
            have Hbw := Lib.hid (bthen hb HbA.out).size
            cases b
            · exfalso
              have hno : foldO [] (l.map enR) = none := by refine foldO_stop (k := k + 1) ?_; rw [Hsucc.out, Hz.out]; exact Ht.out
              rw [Hsp.out.1] at hno
              cases hno
            · have Hnew := Lib.hid (show foldO [] ((l.map enR).take (k + 1)) = some z' by rw [Hsucc.out, Hz.out]; exact Ht.out)
              have Hnv := Lib.hid (tight_ok Hzv.out Hy.out Ht.out)
              have hl5 := tight_len Ht.out
              clear f0 f1 f2 f3
              go_wp2
              go_roundw
              case rel => exact ⟨k + 1, z', by omega, by go_num, Hnew, Hnv, by omega, hb5', Lib.hid (own_mono Ho5.out Hbw.out)⟩
              case measure => simp [intOf]; omega
          · obtain rfl : k = l.length := by omega
            have hd0 : decide (l.length < l.length) = false := decide_eq_false (by omega)
            have hz' : z = jcZ (l.map enR) := by have := Hz.out; rw [← List.length_map (f := enR), List.take_length, Hsp.out.1] at this; exact (Option.some.inj this).symm
            subst hz'
            have Hbr := Lib.hid (bthen Hb2.out hb)
            go_wp2_with fail
            refine (caGood_any _ (jcZ (l.map enR)) _ (Rd.of_own Hown.out rfl)).mono ?_; rintro e w7 ⟨rfl, hb7⟩
            have Hb7 := Lib.hid (bthen Hbr.out hb7); have Hown7 := Lib.hid (own_below Hown.out hb7); clear hb7
            cases hcb : catB (jcZ (l.map enR))
            · have Hno := Lib.hid (Hnn.out (by rw [Hjb2.out, hcb]))
              clear hcb
              go_wp2
              go_ret2
              exact ⟨⟨_, by rw [Hno.out] <;> rfl, by rw [Hno.out]; exact ⟨rfl, Or.inl ⟨rfl, rfl⟩⟩⟩, Hb7.out⟩
            · have Hyy := Lib.hid (Hye.out (by rw [Hjb2.out, hcb]))
              clear hcb
              go_wp2
              go_ret2
              exact ⟨⟨_, by rw [Hyy.out] <;> rfl, by rw [Hyy.out]; exact own_mono Hown7.out Hs2.out⟩, Hb7.out⟩
end
section
open Go Go.RowKit Go.Sort

/-- Draws and new blocks, nothing else. -/
def Gr (w w' : World) : Prop := ∃ (q : Nat) (os : Array Obj), w' = grow (w.drewN q) os
theorem Gr.refl (w : World) : Gr w w := ⟨0, #[], by rw [grow_empty]; rfl⟩
theorem Gr.drew {w w' : World} (h : Gr w w') : Gr w w'.drew := by
  obtain ⟨q, os, rfl⟩ := h
  exact ⟨q + 1, os, rfl⟩
theorem Gr.alloc {w w' : World} (h : Gr w w') (o : Obj) : Gr w (w'.alloc o) := by
  obtain ⟨q, os, rfl⟩ := h
  exact ⟨q, os ++ #[o], by rw [alloc_eq_grow, grow_grow]⟩
theorem Gr.trans {w w1 w2 : World} (h : Gr w w1) (k : Gr w1 w2) : Gr w w2 := by
  obtain ⟨q, os, rfl⟩ := h
  obtain ⟨p, ot, rfl⟩ := k
  refine ⟨q + p, os ++ ot, ?_⟩
  rw [← grow_grow]
  unfold grow World.drewN
  simp only [Nat.add_assoc]
set_option maxHeartbeats 800000 in
theorem compareCurves_gr (a b c d : Int) (w : World) :
    Calls Tryz.prog 45 #[.agg #[.int .i64 a, .int .i64 b], .agg #[.int .i64 c, .int .i64 d]] w fun e w' => e = .returned (.int .i64 (cmpC a b c d)) ∧ Gr w w' := by
  go_enter Tryz.func45, Tryz.ntmps45
  go_wp2
  go_region_held3 (fun w' => w'.cell? ⟨w.heap.size, 0, none⟩ = some (.int .i64 a) ∧ w'.cell? ⟨w.heap.size, 1, none⟩ = some (.int .i64 b) ∧ w'.cell? ⟨w.heap.size + 1, 0, none⟩ = some (.int .i64 c) ∧ w'.cell? ⟨w.heap.size + 1, 1, none⟩ = some (.int .i64 d)) (simp [go_sem, World.cell?_alloc_past])
    (first
      | (go_at_call 75; refine (cmpCompare_any _ _ _).mono ?_; rintro e w' ⟨rfl, rfl⟩)
      | (go_at_call 74; refine (cmpOr_two _ _ (cmpI a c) (cmpI b d) _ ?_ ?_).mono ?_; (simp [go_sem]); (simp [go_sem]); rintro e w' ⟨rfl, rfl⟩))
  all_goals go_wp2
  all_goals go_ret
  all_goals exact ⟨by rw [← or2_cmp]; rfl, by repeat (with_reducible first | exact Gr.refl _ | refine Gr.drew ?_ | refine Gr.alloc ?_ _)⟩
set_option maxHeartbeats 800000 in
theorem cmpEntries_gr (x y : En) (w : World) :
    Calls Tryz.prog 44 #[.agg #[.int .i64 x.a, .int .i64 x.b, .int .i64 x.lo, .int .i64 x.hi, .int .i64 x.to], .agg #[.int .i64 y.a, .int .i64 y.b, .int .i64 y.lo, .int .i64 y.hi, .int .i64 y.to]] w fun e w' => e = .returned (.int .i64 (cmpE x y)) ∧ Gr w w' := by
  go_enter Tryz.func44, Tryz.ntmps44
  go_wp2_with fail
  refine (compareCurves_gr x.a x.b y.a y.b _).mono ?_; rintro e w1 ⟨rfl, hg⟩
  go_wp2
  go_ret
  exact ⟨rfl, Gr.trans (by repeat (with_reducible first | exact Gr.refl _ | refine Gr.drew ?_ | refine Gr.alloc ?_ _)) hg⟩
end
section
open Go Go.RowKit Go.Sort Go.Shelf

instance : Inhabited En := ⟨⟨0, 0, 0, 0, 0⟩⟩
def encE (x : En) : List Value := [.int .i64 x.a, .int .i64 x.b, .int .i64 x.lo, .int .i64 x.hi, .int .i64 x.to]
theorem encE_len (x : En) : (encE x).length = 5 := rfl
theorem encE_cell (x : En) (j : Nat) (hj : j < 5) : (encE x)[j]! = enS.cell x j := by
  match j, hj with
  | 0, _ => rfl
  | 1, _ => rfl
  | 2, _ => rfl
  | 3, _ => rfl
  | 4, _ => rfl
theorem getE_bang (d : List En) (k : Nat) (h : k < d.length) : d.toArray[k]! = enS.get d k := by
  rw [getE_at h, getElem!_pos d.toArray k (by simpa using h)]
  simp
theorem flatK_flat (d : List En) (j : Nat) (h : j < d.length * 5) : some (flatK encE 5 d.toArray)[j]! = (enS.flat d)[j]? := by
  have hk : j / 5 < d.length := by omega
  have hm : j % 5 < 5 := Nat.mod_lt _ (by decide)
  rw [get_flatK encE 5 d.toArray j (by simpa using h), getE_bang d _ hk, encE_cell _ _ hm]
  have := enS.flat_at d (j / 5) (j % 5) hk hm
  rw [← this]
  congr 1
  show j / 5 * 5 + j % 5 = j
  omega
section
variable {w : World} {base g n c : Nat} {d d' : List En} {cur : Array Value}
theorem own_cur (h : w.ownsRow base 75 5 (.slice (some ⟨g, 0, none⟩) n c) n (enS.flat d)) : ∃ cur, base ≤ g ∧ w.heap[g]? = some (.cells cur 75 (0, 0)) ∧ n ≤ c ∧ c ≤ maxLen ∧ cur.size = c * 5 ∧ cur.toList.take (n * 5) = enS.flat d := by
  obtain ⟨-, ⟨h', -⟩ | ⟨g', cap', cur, h', hb, hg, hc, hm, hs, ht⟩⟩ := h
  · cases h'
  · cases h'
    exact ⟨cur, hb, hg, hc, hm, hs, ht⟩
theorem own_holdsK (h : w.ownsRow base 75 5 (.slice (some ⟨g, 0, none⟩) n c) n (enS.flat d)) (hn : n = d.length) : HoldsK encE 5 w g 0 d.toArray := by
  obtain ⟨cur, -, hg, -, -, -, ht⟩ := own_cur h
  intro j hj
  have hj' : j < d.length * 5 := by simpa using hj
  have hB : Blk w g 75 cur := hg
  refine ⟨?_, hB.frozen _⟩
  rw [Nat.zero_add, hB.cell j]
  show cur[j]? = some (flatK encE 5 d.toArray)[j]!
  rw [flatK_flat d j hj', ← ht, List.getElem?_take, if_pos (by omega)]
  simp
theorem heap_sortK (hg : w.heap[g]? = some (.cells cur 75 (0, 0))) (m : Nat) (os : Array Obj) : (sortWorldK encE 5 w g 0 m d.toArray os).heap[g]? = some (.cells (putCells id 0 (flatK encE 5 d.toArray) cur) 75 (0, 0)) := by
  have hlt : g < w.heap.size := (Array.getElem?_eq_some_iff.1 hg).1
  show ((w.heap.modify g (onCells (putCells id 0 (flatK encE 5 d.toArray)))) ++ os)[g]? = _
  rw [Array.getElem?_append_left (by rw [Array.size_modify]; exact hlt), Array.getElem?_modify, if_pos rfl, hg]
  rfl
theorem own_behind (h : w.ownsRow base 75 5 (.slice (some ⟨g, 0, none⟩) n c) n (enS.flat d)) (hn : n = d'.length) (m : Nat) (os : Array Obj) :
    (sortWorldK encE 5 w g 0 m d'.toArray os).ownsRow base 75 5 (.slice (some ⟨g, 0, none⟩) n c) n (enS.flat d') ∧ Below base w (sortWorldK encE 5 w g 0 m d'.toArray os) := by
  obtain ⟨cur, hb, hg, hc, hm, hs, -⟩ := own_cur h
  have hfl : (enS.flat d').length = d'.length * 5 := Shape.length_flat d'
  refine ⟨⟨by rw [hfl, hn], Or.inr ⟨g, c, _, rfl, hb, heap_sortK hg m os, hc, hm, by rw [← hs]; simp [putCells], ?_⟩⟩, rfl, rfl, rfl, ?_, ?_⟩
  · apply List.ext_getElem?
    intro i
    rw [List.getElem?_take]
    by_cases hi : i < n * 5
    · rw [if_pos hi, ← flatK_flat d' i (by omega), Array.getElem?_toList]
      have hic : i < cur.size := by rw [hs]; omega
      unfold putCells
      rw [Array.getElem?_mapIdx, Array.getElem?_eq_getElem hic, Option.map_some, if_pos ⟨Nat.zero_le _, by rw [size_flatK]; simp; omega⟩]
      rfl
    · rw [if_neg hi, List.getElem?_eq_none (by omega)]
  · show w.heap.size ≤ ((w.heap.modify g _) ++ os).size
    rw [Array.size_append, Array.size_modify]
    omega
  · intro k hk
    show ((w.heap.modify g _) ++ os)[k]? = _
    have hlt : g < w.heap.size := (Array.getElem?_eq_some_iff.1 hg).1
    rw [Array.getElem?_append_left (by rw [Array.size_modify]; omega), Array.getElem?_modify, if_neg (by omega)]
end
end
section
open Go Go.RowKit Go.Sort Go.Shelf

theorem ltE (x y : En) : ltOf cmpE x y = decide (cmpE x y < 0) := rfl
theorem swoE : SWO (ltOf cmpE) where
  irrefl x := by rw [ltE]; exact decide_eq_false (cmpE_self x)
  trans x y z h1 h2 := by
    rw [ltE] at *
    exact decide_eq_true (cmpE_trans (of_decide_eq_true h1) (of_decide_eq_true h2))
  ntrans x y z h1 h2 := by
    rw [ltE] at *
    have h1 := of_decide_eq_false h1
    have h2 := of_decide_eq_false h2
    refine decide_eq_false (fun h => ?_)
    unfold cmpE at *
    rw [cmpC_lt] at *
    omega
theorem cmpLaysE (g n : Nat) (w : World) : CmpLays Tryz.prog 44 #[] encE 5 cmpE g 0 n w := fun _ _ _ _ x y =>
  (cmpEntries_gr x y _).mono fun _ _ ⟨he, q, os', hq⟩ => ⟨he, q, os', hq⟩
theorem closE : ∀ args w, (callFunc 44 args).run Tryz.prog w = .ok (.enter 44 args) w := enters_of Tryz.func44 (by kernel_rfl) rfl
theorem insNone (fv : Value) (w : World) : Calls Tryz.prog 104 #[.slice none 0 0, .int .i64 0, .int .i64 0, fv] w fun e w' => e = .returned (.tuple #[]) ∧ w' = w := by
  go_enter Tryz.func104, Tryz.ntmps104
  go_wp2
  refine wp_loop_rounds 1 ?_
  rw [rounds_succ]
  go_wp2
  go_end0
  exact ⟨rfl, rfl⟩
theorem pdqNone (lim : Int) (fv : Value) (w : World) : Calls Tryz.prog 72 #[.slice none 0 0, .int .i64 0, .int .i64 0, .int .i64 lim, fv] w fun e w' => e = .returned (.tuple #[]) ∧ w' = w := by
  go_enter Tryz.func72, Tryz.ntmps72
  go_wp2
  refine wp_loop_rounds 1 ?_
  rw [rounds_succ]
  go_wp2_with (go_at_call 104; refine (insNone _ _).mono ?_; rintro e w' ⟨rfl, rfl⟩)
  (try simp only [Exit.inBlock, Exit.then]); refine bodyPost_ret (results_none rfl _ _ _) rfl ?_
  exact ⟨rfl, rfl⟩
theorem sortNone (fv : Value) (w : World) : Calls Tryz.prog 43 #[.slice none 0 0, fv] w fun e w' => e = .returned (.tuple #[]) ∧ w' = w := by
  have hl : Calls Tryz.prog 73 #[.int .u64 0] w fun e w' => e = .returned (.int .i64 0) ∧ w' = w := Any.bits_Len (SlLaysF0.n15.bits (P := Tryz.prog) (ρ := Tryz.sortEn_ren) { Tryz.sortEn with }) 0 w (by omega) (by omega)
  go_enter Tryz.func43, Tryz.ntmps43
  go_wp2_with (first | (go_at_call 73; refine hl.mono ?_; rintro e w' ⟨rfl, rfl⟩) | (go_at_call 72; refine (pdqNone _ _ _).mono ?_; rintro e w' ⟨rfl, rfl⟩))
  go_end0
  exact ⟨rfl, rfl⟩
theorem sortEn_any (base : Nat) (v : Value) (xs : List En) (w : World) (ho : w.ownsRow base 75 5 v xs.length (enS.flat xs)) (hlen : xs.length ≤ 1000000) :
    Calls Tryz.prog 43 #[v, .func (.func 44) #[] #[]] w fun e w' => e = .returned (.tuple #[]) ∧ ∃ d : List En, d.Perm xs ∧ (∀ i j, i < j → j < d.length → ¬ cmpE (enS.get d j) (enS.get d i) < 0) ∧ w'.ownsRow base 75 5 v d.length (enS.flat d) ∧ Below base w w' := by
  have hform : (v = .slice none 0 0 ∧ xs.length = 0) ∨ ∃ g c, v = .slice (some ⟨g, 0, none⟩) xs.length c := by
    rcases ho.2 with h | ⟨g, c, _, h, _⟩
    · exact Or.inl h
    · exact Or.inr ⟨g, c, h⟩
  rcases hform with ⟨rfl, h0⟩ | ⟨g, c, rfl⟩
  · obtain rfl := List.eq_nil_of_length_eq_zero h0
    have hcon := sortNone (.func (.func 44) #[] #[]) w
    refine hcon.mono fun e w' ⟨he, hw⟩ => ?_
    subst hw
    exact ⟨he, [], List.Perm.refl _, fun i j _ hj => absurd hj (Nat.not_lt_zero _), ho, Below.refl _ _⟩
  · obtain ⟨cur, hb, hg, -⟩ := own_cur ho
    have hlt : g < w.heap.size := (Array.getElem?_eq_some_iff.1 hg).1
    have hcon := AnyQ.slices_SortFunc Tryz.sortEn 5 (fun _ => by kernel_rfl) (fun _ => by kernel_rfl) encE encE_len (fun x u hu => by simp [encE] at hu; rcases hu with rfl | rfl | rfl | rfl | rfl <;> rfl) cmpE swoE 44 #[] g 0 c xs.toArray w closE (cmpLaysE g xs.toArray.size w) (own_holdsK ho rfl) hlt (by simp; omega)
    change Calls Tryz.prog 43 _ _ _ at hcon
    rw [List.size_toArray] at hcon
    refine hcon.mono fun e w' ⟨he, d', n, os, hp, hs, hw⟩ => ?_
    subst hw
    obtain ⟨hsz, -, hpm⟩ := hp
    have hsz' : d'.toList.length = xs.length := by simpa using hsz
    have hpl : d'.toList.Perm xs := by
      have h2 : d'.extract 0 xs.length = d' := by rw [← hsz']; simp
      rw [h2] at hpm
      simpa using hpm
    have hd : d' = d'.toList.toArray := by simp
    obtain ⟨h3, h4⟩ := own_behind (d' := d'.toList) ho hsz'.symm n os
    refine ⟨he, d'.toList, hpl, fun i j hij hj h => ?_, ?_, ?_⟩
    · have h5 := hs i j (Nat.zero_le _) hij (by omega)
      rw [ltE] at h5
      rw [hd, getE_bang _ j hj, getE_bang _ i (by omega)] at h5
      exact of_decide_eq_false h5 h
    · rw [hsz', ← hd] at *; exact h3
    · rw [← hd] at h4; exact h4
end
section
open Go Go.RowKit
set_option linter.unusedSimpArgs false in
set_option maxRecDepth 8000 in
set_option maxHeartbeats 4000000 in
theorem implJc_any (D P : ByteArray) (w : World) (h : JB D P) (he : Env w) : Calls Tryz.prog 13 #[.agg #[.string D, .string P]] w fun e w' => (∃ v : Value, e = .returned (.tuple #[v, .bool (jcV D P).2]) ∧ w'.ownsRow w.heap.size 75 5 v (jcV D P).1.length (enS.flat (jcV D P).1)) ∧ Below w.heap.size w w' := by
  have hd := h.d; have hp := h.p
  have hbx := bal (Below.refl w.heap.size w) (Obj.cells #[.string D, .string P] 38)
  have He := Lib.hid (he.on hbx); clear he
  have HX := Lib.hid (Blk.new w 38 #[.string D, .string P])
  have Hbx := Lib.hid hbx; clear hbx
  have hrl := jrV_len D P
  obtain ⟨i0, hi, hz0, hz1, hz2⟩ := info_parts infoEn2
  go_enter Tryz.func13, Tryz.ntmps13
  go_wp2_with fail
  refine (recordsOf_any D P _ (by omega) (by omega) He.out).mono ?_; rintro e w1 ⟨⟨v, rfl, hown⟩, hb1⟩
  have Hown := Lib.hid (Rd.of_own (S := rcS) hown rfl)
  obtain ⟨A1, c1, rfl⟩ := own_form hown
  clear hown
  have Hb1 := Lib.hid (bthen Hbx.out hb1); clear hb1
  cases hok : jrOk D P
  · have Hno := Lib.hid (jcV_no (D := D) (P := P) (by unfold jcB; rw [hok]; rfl))
    clear hok
    go_wp2
    go_ret2
    exact ⟨⟨_, by rw [Hno.out] <;> rfl, by rw [Hno.out]; exact ⟨rfl, Or.inl ⟨rfl, rfl⟩⟩⟩, Hb1.out⟩
  · skip
    go_wp2_with fail
    refine (bestRecords_any _ (jrV D P) _ Hown.out (by omega)).mono ?_; rintro e w2 ⟨⟨v2, rfl, hown2⟩, hb2⟩
    have Hb2 := Lib.hid (bthen Hb1.out hb2)
    clear hb2
    have hbok := bestV_ok (jrV_rok D P)
    have Hval := Lib.hid hbok.1
    have Hdst := Lib.hid (bestV_dst (jrV D P))
    have hbl : (bestV (jrV D P)).1.length ≤ 30 := Nat.le_trans hbok.2 hrl
    clear hbok hrl
    have Hjb := Lib.hid (show jcB D P = ((bestV (jrV D P)).2 && catB (jcZ ((bestV (jrV D P)).1.map enR))) by unfold jcB; rw [hok, Bool.true_and])
    have Hye := Lib.hid (fun h => jcV_yes (D := D) (P := P) h)
    have Hnn := Lib.hid (fun h => jcV_no (D := D) (P := P) h)
    clear hok
    generalize bestV (jrV D P) = bv at Hval Hdst hbl Hjb Hye hown2 ⊢
    obtain ⟨l, ok⟩ := bv
    simp only at Hval Hdst hbl Hjb Hye hown2
    obtain ⟨A2, c2, rfl⟩ := own_form hown2
    have Hown2 := Lib.hid hown2; clear hown2
    cases ok
    · have Hno := Lib.hid (Hnn.out (by rw [Hjb.out]; rfl))
      go_wp2
      go_ret2
      exact ⟨⟨_, by rw [Hno.out] <;> rfl, by rw [Hno.out]; exact ⟨rfl, Or.inl ⟨rfl, rfl⟩⟩⟩, Hb2.out⟩
    · have Hjb2 := Lib.hid (show jcB D P = catB (jcZ (l.map enR)) by rw [Hjb.out, Bool.true_and])
      have Hent := Lib.hid (show ∀ x ∈ l.map enR, entE x = true from fun x hx => by obtain ⟨r, hr, rfl⟩ := List.mem_map.1 hx; exact enR_ent (Hval.out r hr))
      have Hsp := Lib.hid (jcZ_spec (map_dE Hdst.out) Hent.out)
      have Hrd := Lib.hid (Rd.of_own (S := rcS) Hown2.out rfl)
      clear Hjb
      obtain ⟨Ar, cr, hAr, hcr, hmr, hAA⟩ := Hrd.out
      cases hAr
      unfold maxLen at hmr
      have Hs2 := Lib.hid (Hb2.out.size)
      rcases Nat.eq_zero_or_pos l.length with h0 | h0
      · obtain rfl : l = [] := List.eq_nil_of_length_eq_zero h0
        clear hAA h0
        have Hz0 := Lib.hid (show w2.ownsRow w2.heap.size 75 5 (.slice none 0 0) (([] : List Rc).map enR).length (enS.flat (([] : List Rc).map enR)) from ⟨rfl, Or.inl ⟨rfl, rfl⟩⟩)
        go_wp2
        refine wp_loop_rounds 1 ?_
        rw [rounds_succ]
        go_wp2_with fail
        refine (sortEn_any w2.heap.size _ (([] : List Rc).map enR) _ Hz0.out (by simp)).mono ?_; rintro e w6 ⟨rfl, d, hp, hs, hown6, hb6⟩
        obtain rfl : d = jcZ (([] : List Rc).map enR) := jcZ_sorted (map_dE Hdst.out) Hent.out hp hs
        have hld : (jcZ (([] : List Rc).map enR)).length = 0 := hp.length_eq
        rw [hld] at hown6
        have Hown6 := Lib.hid hown6; clear hown6
        have Hb6 := Lib.hid (Hb2.out.trans (hb6.mono Hs2.out)); clear hb6 hp hs
        go_wp2_with fail
        refine (isCatalogue_any _ (jcZ (([] : List Rc).map enR)) _ (Rd.of_own Hown6.out hld.symm)).mono ?_; rintro e w7 ⟨rfl, hb7⟩
        have Hb7 := Lib.hid (bthen Hb6.out hb7); have Hown7 := Lib.hid (own_below Hown6.out hb7); clear hb7
        cases hcb : catB (jcZ (([] : List Rc).map enR))
        · have Hno := Lib.hid (Hnn.out (by rw [Hjb2.out, hcb]))
          clear hcb
          go_wp2
          go_ret2
          exact ⟨⟨_, by rw [Hno.out] <;> rfl, by rw [Hno.out]; exact ⟨rfl, Or.inl ⟨rfl, rfl⟩⟩⟩, Hb7.out⟩
        · have Hyy := Lib.hid (Hye.out (by rw [Hjb2.out, hcb]))
          clear hcb
          go_wp2
          go_ret2
          exact ⟨⟨_, by rw [Hyy.out] <;> rfl, by rw [Hyy.out]; exact own_mono (by rw [hld]; exact Hown7.out) Hs2.out⟩, Hb7.out⟩
      · obtain ⟨g, off, rfl, hgl, hcell⟩ := hAA h0
        clear hAA
        have Hcell := Lib.hid (rc_cells hcell); clear hcell
        go_wp2
        go_loopw [26, 7] (fun i o wr => ∃ (k : Nat), k ≤ l.length ∧ i = .int .i64 k ∧ Below w2.heap.size w2 wr ∧ Hid (wr.ownsRow w2.heap.size 75 5 o ((l.take k).map enR).length (enS.flat ((l.take k).map enR)))) (fun i _ _ => l.length - (intOf i).toNat)
        case atStart => exact ⟨0, Nat.zero_le _, rfl, Below.refl _ _, Lib.hid ⟨rfl, Or.inl ⟨rfl, rfl⟩⟩⟩
        case round =>
          obtain ⟨k, hk, rfl, hb, Hown⟩ := hrel
          by_cases hlt : k < l.length
          · obtain ⟨f0, f1, f2, f3⟩ := Hcell.out k hlt
            rw [← hb.cell (p := ⟨_, _, _⟩) hgl] at f0 f1 f2 f3
            have Htk := Lib.hid (show (l.take (k + 1)).map enR = (l.take k).map enR ++ [enR (rcS.get l k)] by rw [rc_take hlt, List.map_append]; rfl)
            have hgr : g < wr.heap.size := Nat.lt_of_lt_of_le hgl hb.size
            generalize rcS.get l k = x at f0 f1 f2 f3 Htk
            have hi0 : (0 : Int) ≤ (k : Int) := by omega
            have hi1 : (k : Int) < (l.length : Int) := by omega
            have hkl : ((l.take k).map enR).length = k := by rw [List.length_map, List.length_take]; omega
            generalize hys : (l.take k).map enR = ys at Hown Htk hkl
            clear hys
            have HbA := Lib.hid (show Below w2.heap.size w2 (wr.alloc (Obj.cells #[.int .i64 x.a, .int .i64 x.b, .int .i64 x.lo, .int .i64 x.hi] 72)) from bal hb _)
            have HownA := Lib.hid (Hown.out.alloc (Obj.cells #[.int .i64 x.a, .int .i64 x.b, .int .i64 x.lo, .int .i64 x.hi] 72))
            have Hw2 := Lib.hid hb.size
            go_wp2_with (at_builtin; refine wpList_append_own _ rfl _ _ 35 rfl w2.heap.size 75 i0 (.agg #[.int .i64 0, .int .i64 0, .int .i64 0, .int .i64 0, .int .i64 0]) 5 40 Tryz.underlying35 hi hz0 hz1 hz2 rfl (by decide) _ _ _ rfl (HownA.out.alloc _) ⟨wr.heap.size + 1, 0, none⟩ 1 1 (enS.flat [enR x]) rfl rfl ?c1 (en_one _) ?c3 ?c4 ?c5 ?_)
            case c1 =>
              intro j u hj
              rw [show enS.flat [enR x] = [.int .i64 x.a, .int .i64 x.b, .int .i64 x.lo, .int .i64 x.hi, .int .i64 0] from rfl] at hj
              match j, hj with
              | 0, hj => simp at hj; subst hj; simp [Addr.add]
              | 1, hj => simp at hj; subst hj; simp [Addr.add]
              | 2, hj => simp at hj; subst hj; simp [Addr.add]
              | 3, hj => simp at hj; subst hj; simp [Addr.add]
              | 4, hj => simp at hj; subst hj; simp [Addr.add]
            case c3 => unfold maxLen; omega
            case c4 => omega
            case c5 => have := Hw2.out; simp; omega
            intro v' w3 hown' hgrow _
            have hbn : Below w2.heap.size w2 w3 := Below.grown (bal HbA.out _) hgrow (by have := HbA.out.size; simp at this ⊢; omega) (fun j hj => (HownA.out.lt j hj).1)
            have Hown' := Lib.hid (show w3.ownsRow w2.heap.size 75 5 v' ((l.take (k + 1)).map enR).length (enS.flat ((l.take (k + 1)).map enR)) by rw [Htk.out, Shape.flat_append, List.length_append, hkl]; exact hown')
            clear hown' hgrow f0 f1 f2 f3
            go_wp2
            go_roundw
            case rel => exact ⟨k + 1, by omega, by go_num, hbn, Hown'⟩
            case measure => simp [intOf]; omega
          · obtain rfl : k = l.length := by omega
            have hd0 : decide (l.length < l.length) = false := decide_eq_false (by omega)
            rw [List.take_length] at Hown
            have hlm : (l.map enR).length = l.length := List.length_map ..
            have Hbr := Lib.hid (Hb2.out.trans (hb.mono Hs2.out))
            obtain ⟨A8, c8, rfl⟩ := own_form Hown.out
            rw [hlm] at Hown ⊢
            go_wp2_with fail
            refine (sortEn_any w2.heap.size (.slice A8 l.length c8) (l.map enR) _ (by rw [hlm]; exact Hown.out) (by omega)).mono ?_; rintro e w6 ⟨rfl, d, hp, hs, hown6, hb6⟩
            obtain rfl : d = jcZ (l.map enR) := jcZ_sorted (map_dE Hdst.out) Hent.out hp hs
            have hld : (jcZ (l.map enR)).length = l.length := hp.length_eq.trans hlm
            rw [hld] at hown6
            have Hown6 := Lib.hid hown6; clear hown6
            have Hb6 := Lib.hid (Hbr.out.trans (hb6.mono Hs2.out)); clear hb6 hp hs
            go_wp2_with fail
            refine (isCatalogue_any _ (jcZ (l.map enR)) _ (Rd.of_own Hown6.out hld.symm)).mono ?_; rintro e w7 ⟨rfl, hb7⟩
            have Hb7 := Lib.hid (bthen Hb6.out hb7); have Hown7 := Lib.hid (own_below Hown6.out hb7); clear hb7
            cases hcb : catB (jcZ (l.map enR))
            · have Hno := Lib.hid (Hnn.out (by rw [Hjb2.out, hcb]))
              clear hcb
              go_wp2
              go_ret2
              exact ⟨⟨_, by rw [Hno.out] <;> rfl, by rw [Hno.out]; exact ⟨rfl, Or.inl ⟨rfl, rfl⟩⟩⟩, Hb7.out⟩
            · have Hyy := Lib.hid (Hye.out (by rw [Hjb2.out, hcb]))
              clear hcb
              go_wp2
              go_ret2
              exact ⟨⟨_, by rw [Hyy.out] <;> rfl, by rw [Hyy.out]; exact own_mono (by rw [hld]; exact Hown7.out) Hs2.out⟩, Hb7.out⟩
end
end Go.Proofs.YticbmpjdcanjkaaGreatDoor
