/- MergeCatalogues and TightenEntry of the reference and of the program: the walks. Conditions: none. -/
import Derived.Test.YtnphipfdpkgbaaaApp2
import Derived.Test.YtnphipfdpkgbaaaTight2
import Derived.Test.YtnphipfdpkgbaaaMergeI
namespace Go.Proofs.Ytnphipfdpkgbaaa
open Go Go.RowKit

theorem rd_lit {w : World} {b : Nat} {y : En} (h : Blk w b 36 #[.int .i64 y.a, .int .i64 y.b, .int .i64 y.lo, .int .i64 y.hi, .int .i64 y.to]) : Rd enS w w.heap.size (.slice (some ⟨b, 0, none⟩) 1 1) [y] := by
  refine ⟨some ⟨b, 0, none⟩, 1, rfl, Nat.le_refl _, by unfold maxLen; omega, fun _ => ⟨b, 0, rfl, h.lt, fun k hk j hj => ?_⟩⟩
  have hk0 : k = 0 := by simpa using hk
  subst hk0
  have hj5 : j < 5 := hj
  match j, hj5 with
  | 0, _ => exact h.cell 0
  | 1, _ => exact h.cell 1
  | 2, _ => exact h.cell 2
  | 3, _ => exact h.cell 3
  | 4, _ => exact h.cell 4
theorem cat_ok {es : List En} (h : catB es = true) : es.length ≤ 12 ∧ okCat es := catB_spec h
theorem one_ent {y : En} (hy : entE y = true) : ∀ k, k < [y].length → entE (enS.get [y] k) = true := by
  intro k hk
  have hk0 : k = 0 := by simpa using hk
  subst hk0
  exact hy
theorem cat_ents {bs : List En} (h : catB bs = true) : ∀ k, k < bs.length → entE (enS.get bs k) = true := fun k hk => okE_ent ((catB_spec h).2 k hk)

set_option maxRecDepth 8000 in
set_option maxHeartbeats 1600000 in
theorem specTight_any (v : Value) (es : List En) (y : En) (w : World) (h : Rd enS w w.heap.size v es) :
    Calls Try.prog 15 #[v, .agg #[.int .i64 y.a, .int .i64 y.b, .int .i64 y.lo, .int .i64 y.hi, .int .i64 y.to]] w fun r w' => (∃ (v' : Value) (z : List En) (b : Bool), r = .returned (.tuple #[v', .bool b]) ∧ tightG es y = (z, b) ∧ w'.ownsRow w.heap.size 36 5 v' z.length (enS.flat z)) ∧ Below w.heap.size w w' := by
  have Hr := Lib.hid h; clear h
  have hbA : Below w.heap.size w (w.alloc _) := bal (Below.refl _ _) (Obj.cells #[.int .i64 y.a, .int .i64 y.b, .int .i64 y.lo, .int .i64 y.hi, .int .i64 y.to] 36)
  have hbox : Blk _ w.heap.size 36 #[.int .i64 y.a, .int .i64 y.b, .int .i64 y.lo, .int .i64 y.hi, .int .i64 y.to] := Blk.new w _ _
  cases hg : catB es
  · have Hfin := Lib.hid (show tightG es y = ([], false) by unfold tightG; rw [hg]; rfl)
    go_enter Try.func15, Try.ntmps15
    go_wp2_with fail
    refine (caGood_any _ es _ (Hr.out.on hbA)).mono ?_; rintro e w1 ⟨rfl, hb1⟩
    rw [hg]
    go_wp2
    go_ret2
    exact ⟨⟨_, [], false, rfl, Hfin.out, by simp [Shape.flat], Or.inl ⟨rfl, rfl⟩⟩, bthen hbA hb1⟩
  · obtain ⟨hl, hv⟩ := cat_ok hg
    have Hv := Lib.hid hv; clear hv
    cases hy : entE y
    · have Hfin := Lib.hid (show tightG es y = ([], false) by unfold tightG; rw [hy, Bool.and_false]; rfl)
      have Hy := Lib.hid (show entB y.a y.b y.lo y.hi y.to = false from hy)
      go_enter Try.func15, Try.ntmps15
      go_wp2_with fail
      refine (caGood_any _ es _ (Hr.out.on hbA)).mono ?_; rintro e w1 ⟨rfl, hb1⟩
      rw [hg]
      have hbox1 := hbox.on hb1
      have q0 := hbox1.cell 0
      have q1 := hbox1.cell 1
      have q2 := hbox1.cell 2
      have q3 := hbox1.cell 3
      have q4 := hbox1.cell 4
      have ql := hbox1.lt
      go_wp2_with fail
      refine (caEntry_any _ _ _ _ _ _).mono ?_; rintro e w2 ⟨rfl, hb2⟩
      rw [Hy.out]
      go_wp2
      go_ret2
      exact ⟨⟨_, [], false, rfl, Hfin.out, by simp [Shape.flat], Or.inl ⟨rfl, rfl⟩⟩, bthen (bthen hbA hb1) hb2⟩
    · have Hy := Lib.hid (show entB y.a y.b y.lo y.hi y.to = true from hy)
      have Hy' := Lib.hid hy
      have Hfin := Lib.hid (show tightG es y = mergeV es [y] by unfold tightG; rw [hg, hy]; rfl)
      go_enter Try.func15, Try.ntmps15
      go_wp2_with fail
      refine (caGood_any _ es _ (Hr.out.on hbA)).mono ?_; rintro e w1 ⟨rfl, hb1⟩
      rw [hg]
      have hbox1 := hbox.on hb1
      have q0 := hbox1.cell 0
      have q1 := hbox1.cell 1
      have q2 := hbox1.cell 2
      have q3 := hbox1.cell 3
      have q4 := hbox1.cell 4
      have ql := hbox1.lt
      go_wp2_with fail
      refine (caEntry_any _ _ _ _ _ _).mono ?_; rintro e w2 ⟨rfl, hb2⟩
      rw [Hy.out]
      have hb2' := bthen (bthen hbA hb1) hb2
      have hbox2 := hbox1.on hb2
      clear q0 q1 q2 q3 q4 ql
      have q0 := hbox2.cell 0
      have q1 := hbox2.cell 1
      have q2 := hbox2.cell 2
      have q3 := hbox2.cell 3
      have q4 := hbox2.cell 4
      have ql := hbox2.lt
      go_wp2_with fail
      refine (caTighten_any _ es y _ (Hr.out.on hb2') (by omega) Hv.out Hy'.out).mono ?_
      rintro e w3 ⟨⟨v3, z, b, rfl, ht, hbz, ho3⟩, hb3⟩
      have Ho3 := Lib.hid ho3; clear ho3
      have Ht := Lib.hid ht; clear ht
      have hb3' := bthen hb2' hb3
      cases b
      · clear hbz
        go_wp2
        go_ret2
        exact ⟨⟨_, [], false, rfl, by rw [Hfin.out, mergeV_one, Ht.out]; rfl, by simp [Shape.flat], Or.inl ⟨rfl, rfl⟩⟩, hb3'⟩
      · clear hbz
        have Hcat := Lib.hid (catB_all (tight_ok Hv.out Hy'.out Ht.out))
        go_wp2_with fail
        refine (caGood_any _ z _ (Rd.of_own Ho3.out rfl)).mono ?_; rintro e w4 ⟨rfl, hb4⟩
        have Hb4 := Lib.hid hb4
        rw [Hcat.out]
        by_cases hl2 : z.length ≤ 12
        · have hd : decide (z.length ≤ 12) = true := decide_eq_true hl2
          have Hl2 := Lib.hid hl2; clear hl2
          rw [hd]
          go_wp2
          go_ret2
          exact ⟨⟨_, z, true, rfl, by rw [Hfin.out, mergeV_one, Ht.out]; exact if_pos Hl2.out, own_mono (own_below Ho3.out Hb4.out) hb2'.size⟩, bthen hb3' hb4⟩
        · have hd : decide (z.length ≤ 12) = false := decide_eq_false hl2
          have Hl2 := Lib.hid hl2; clear hl2
          rw [hd]
          go_wp2
          go_ret2
          exact ⟨⟨_, [], false, rfl, by rw [Hfin.out, mergeV_one, Ht.out]; exact if_neg Hl2.out, by simp [Shape.flat], Or.inl ⟨rfl, rfl⟩⟩, bthen hb3' hb4⟩
theorem specTight_ints (v : Value) (es : List En) (a b lo hi tor : Int) (w : World) (h : Rd enS w w.heap.size v es) :
    Calls Try.prog 15 #[v, .agg #[.int .i64 a, .int .i64 b, .int .i64 lo, .int .i64 hi, .int .i64 tor]] w fun r w' => (∃ (v' : Value) (z : List En) (b' : Bool), r = .returned (.tuple #[v', .bool b']) ∧ tightG es ⟨a, b, lo, hi, tor⟩ = (z, b') ∧ w'.ownsRow w.heap.size 36 5 v' z.length (enS.flat z)) ∧ Below w.heap.size w w' :=
  specTight_any v es ⟨a, b, lo, hi, tor⟩ w h

set_option maxRecDepth 8000 in
set_option maxHeartbeats 1600000 in
theorem implTight_any (v : Value) (es : List En) (y : En) (w : World) (h : Rd enS w w.heap.size v es) :
    Calls Try.prog 14 #[v, .agg #[.int .i64 y.a, .int .i64 y.b, .int .i64 y.lo, .int .i64 y.hi, .int .i64 y.to]] w fun r w' => (∃ (v' : Value) (z : List En) (b : Bool), r = .returned (.tuple #[v', .bool b]) ∧ tightG es y = (z, b) ∧ w'.ownsRow w.heap.size 36 5 v' z.length (enS.flat z)) ∧ Below w.heap.size w w' := by
  have Hr := Lib.hid h; clear h
  have hbA : Below w.heap.size w (w.alloc _) := bal (Below.refl _ _) (Obj.cells #[.int .i64 y.a, .int .i64 y.b, .int .i64 y.lo, .int .i64 y.hi, .int .i64 y.to] 36)
  have hbox : Blk _ w.heap.size 36 #[.int .i64 y.a, .int .i64 y.b, .int .i64 y.lo, .int .i64 y.hi, .int .i64 y.to] := Blk.new w _ _
  cases hg : catB es
  · have Hfin := Lib.hid (show tightG es y = ([], false) by unfold tightG; rw [hg]; rfl)
    go_enter Try.func14, Try.ntmps14
    go_wp2_with fail
    refine (isCatalogue_any _ es _ (Hr.out.on hbA)).mono ?_; rintro e w1 ⟨rfl, hb1⟩
    rw [hg]
    go_wp2
    go_ret2
    exact ⟨⟨_, [], false, rfl, Hfin.out, by simp [Shape.flat], Or.inl ⟨rfl, rfl⟩⟩, bthen hbA hb1⟩
  · obtain ⟨hl, hv⟩ := cat_ok hg
    have Hv := Lib.hid hv; clear hv
    cases hy : entE y
    · have Hfin := Lib.hid (show tightG es y = ([], false) by unfold tightG; rw [hy, Bool.and_false]; rfl)
      have Hy := Lib.hid (show entB y.a y.b y.lo y.hi y.to = false from hy)
      go_enter Try.func14, Try.ntmps14
      go_wp2_with fail
      refine (isCatalogue_any _ es _ (Hr.out.on hbA)).mono ?_; rintro e w1 ⟨rfl, hb1⟩
      rw [hg]
      have hbox1 := hbox.on hb1
      have q0 := hbox1.cell 0
      have q1 := hbox1.cell 1
      have q2 := hbox1.cell 2
      have q3 := hbox1.cell 3
      have q4 := hbox1.cell 4
      have ql := hbox1.lt
      go_wp2_with fail
      refine (isEntry_any _ _ _ _ _ _).mono ?_; rintro e w2 ⟨rfl, hb2⟩
      rw [Hy.out]
      go_wp2
      go_ret2
      exact ⟨⟨_, [], false, rfl, Hfin.out, by simp [Shape.flat], Or.inl ⟨rfl, rfl⟩⟩, bthen (bthen hbA hb1) hb2⟩
    · have Hy := Lib.hid (show entB y.a y.b y.lo y.hi y.to = true from hy)
      have Hy' := Lib.hid hy
      have Hfin := Lib.hid (show tightG es y = mergeV es [y] by unfold tightG; rw [hg, hy]; rfl)
      go_enter Try.func14, Try.ntmps14
      go_wp2_with fail
      refine (isCatalogue_any _ es _ (Hr.out.on hbA)).mono ?_; rintro e w1 ⟨rfl, hb1⟩
      rw [hg]
      have hbox1 := hbox.on hb1
      have q0 := hbox1.cell 0
      have q1 := hbox1.cell 1
      have q2 := hbox1.cell 2
      have q3 := hbox1.cell 3
      have q4 := hbox1.cell 4
      have ql := hbox1.lt
      go_wp2_with fail
      refine (isEntry_any _ _ _ _ _ _).mono ?_; rintro e w2 ⟨rfl, hb2⟩
      rw [Hy.out]
      have hb2' := bthen (bthen hbA hb1) hb2
      have hbox2 := hbox1.on hb2
      clear q0 q1 q2 q3 q4 ql
      have q0 := hbox2.cell 0
      have q1 := hbox2.cell 1
      have q2 := hbox2.cell 2
      have q3 := hbox2.cell 3
      have q4 := hbox2.cell 4
      have ql := hbox2.lt
      have Hlb := Lib.hid (bal hb2' (Obj.cells #[.int .i64 y.a, .int .i64 y.b, .int .i64 y.lo, .int .i64 y.hi, .int .i64 y.to] 36))
      go_wp2_with fail
      refine (mergeCat_any _ es _ [y] _ (Hr.out.on Hlb.out) (rd_lit (Blk.new _ _ _)) (by omega) (by simp) Hv.out (one_ent Hy'.out)).mono ?_
      rintro e w3 ⟨⟨v3, z, b, rfl, hz, ho3⟩, hb3⟩
      have Ho3 := Lib.hid ho3; clear ho3
      have Hz := Lib.hid hz; clear hz
      go_wp2
      go_ret2
      exact ⟨⟨_, z, b, rfl, by rw [Hfin.out, Hz.out], own_mono Ho3.out Hlb.out.size⟩, bthen Hlb.out hb3⟩
theorem implTight_ints (v : Value) (es : List En) (a b lo hi tor : Int) (w : World) (h : Rd enS w w.heap.size v es) :
    Calls Try.prog 14 #[v, .agg #[.int .i64 a, .int .i64 b, .int .i64 lo, .int .i64 hi, .int .i64 tor]] w fun r w' => (∃ (v' : Value) (z : List En) (b' : Bool), r = .returned (.tuple #[v', .bool b']) ∧ tightG es ⟨a, b, lo, hi, tor⟩ = (z, b') ∧ w'.ownsRow w.heap.size 36 5 v' z.length (enS.flat z)) ∧ Below w.heap.size w w' :=
  implTight_any v es ⟨a, b, lo, hi, tor⟩ w h

set_option maxHeartbeats 1600000 in
theorem implMerge_any (va : Value) (xs : List En) (v : Value) (bs : List En) (w : World) (ha : Rd enS w w.heap.size va xs) (h : Rd enS w w.heap.size v bs) :
    Calls Try.prog 7 #[va, v] w fun r w' => (∃ (v' : Value) (z : List En) (b : Bool), r = .returned (.tuple #[v', .bool b]) ∧ mergeG xs bs = (z, b) ∧ w'.ownsRow w.heap.size 36 5 v' z.length (enS.flat z)) ∧ Below w.heap.size w w' := by
  have Ha := Lib.hid ha; clear ha
  have Hb := Lib.hid h; clear h
  cases hg : catB xs
  · have Hfin := Lib.hid (show mergeG xs bs = ([], false) by unfold mergeG; rw [hg]; rfl)
    go_enter Try.func7, Try.ntmps7
    go_wp2_with fail
    refine (isCatalogue_any _ xs _ Ha.out).mono ?_; rintro e w1 ⟨rfl, hb1⟩
    rw [hg]
    go_wp2
    go_ret2
    exact ⟨⟨_, [], false, rfl, Hfin.out, by simp [Shape.flat], Or.inl ⟨rfl, rfl⟩⟩, hb1⟩
  · cases hg2 : catB bs
    · have Hfin := Lib.hid (show mergeG xs bs = ([], false) by unfold mergeG; rw [hg2, Bool.and_false]; rfl)
      go_enter Try.func7, Try.ntmps7
      go_wp2_with fail
      refine (isCatalogue_any _ xs _ Ha.out).mono ?_; rintro e w1 ⟨rfl, hb1⟩
      rw [hg]
      go_wp2_with fail
      refine (isCatalogue_any _ bs _ (Hb.out.on hb1)).mono ?_; rintro e w2 ⟨rfl, hb2⟩
      rw [hg2]
      go_wp2
      go_ret2
      exact ⟨⟨_, [], false, rfl, Hfin.out, by simp [Shape.flat], Or.inl ⟨rfl, rfl⟩⟩, bthen hb1 hb2⟩
    · have Hfin := Lib.hid (show mergeG xs bs = mergeV xs bs by unfold mergeG; rw [hg, hg2]; rfl)
      have Hx := Lib.hid (cat_ok hg)
      have Hl2 := Lib.hid (cat_ok hg2).1
      have He := Lib.hid (cat_ents hg2)
      go_enter Try.func7, Try.ntmps7
      go_wp2_with fail
      refine (isCatalogue_any _ xs _ Ha.out).mono ?_; rintro e w1 ⟨rfl, hb1⟩
      rw [hg]
      go_wp2_with fail
      refine (isCatalogue_any _ bs _ (Hb.out.on hb1)).mono ?_; rintro e w2 ⟨rfl, hb2⟩
      rw [hg2]
      have hb2' := bthen hb1 hb2
      go_wp2_with fail
      refine (mergeCat_any _ xs _ bs _ (Ha.out.on hb2') (Hb.out.on hb2') (by have := Hx.out.1; omega) (by have := Hl2.out; omega) Hx.out.2 He.out).mono ?_
      rintro e w3 ⟨⟨v3, z, b, rfl, hz, ho3⟩, hb3⟩
      have Ho3 := Lib.hid ho3; clear ho3
      have Hz := Lib.hid hz; clear hz
      go_wp2
      go_ret2
      exact ⟨⟨_, z, b, rfl, by rw [Hfin.out, Hz.out], own_mono Ho3.out hb2'.size⟩, bthen hb2' hb3⟩

set_option maxRecDepth 8000 in
set_option maxHeartbeats 4000000 in
theorem specMerge_any (va : Value) (xs : List En) (v : Value) (bs : List En) (w : World) (ha : Rd enS w w.heap.size va xs) (h : Rd enS w w.heap.size v bs) :
    Calls Try.prog 8 #[va, v] w fun r w' => (∃ (v' : Value) (z : List En) (b : Bool), r = .returned (.tuple #[v', .bool b]) ∧ mergeG xs bs = (z, b) ∧ w'.ownsRow w.heap.size 36 5 v' z.length (enS.flat z)) ∧ Below w.heap.size w w' := by
  have Ha := Lib.hid ha
  have Hb := Lib.hid h
  obtain ⟨A, c, rfl, hcc, hm, hA⟩ := h
  unfold maxLen at hm
  cases hg : catB xs
  · have Hfin := Lib.hid (show mergeG xs bs = ([], false) by unfold mergeG; rw [hg]; rfl)
    clear hA ha
    go_enter Try.func8, Try.ntmps8
    go_wp2_with fail
    refine (caGood_any _ xs _ Ha.out).mono ?_; rintro e w1 ⟨rfl, hb1⟩
    rw [hg]
    go_wp2
    go_ret2
    exact ⟨⟨_, [], false, rfl, Hfin.out, by simp [Shape.flat], Or.inl ⟨rfl, rfl⟩⟩, hb1⟩
  · cases hg2 : catB bs
    · have Hfin := Lib.hid (show mergeG xs bs = ([], false) by unfold mergeG; rw [hg2, Bool.and_false]; rfl)
      clear hA ha
      go_enter Try.func8, Try.ntmps8
      go_wp2_with fail
      refine (caGood_any _ xs _ Ha.out).mono ?_; rintro e w1 ⟨rfl, hb1⟩
      rw [hg]
      go_wp2_with fail
      refine (caGood_any _ bs _ (Hb.out.on hb1)).mono ?_; rintro e w2 ⟨rfl, hb2⟩
      rw [hg2]
      go_wp2
      go_ret2
      exact ⟨⟨_, [], false, rfl, Hfin.out, by simp [Shape.flat], Or.inl ⟨rfl, rfl⟩⟩, bthen hb1 hb2⟩
    · have Hfin := Lib.hid (show mergeG xs bs = mergeV xs bs by unfold mergeG; rw [hg, hg2]; rfl)
      have Hx := Lib.hid (cat_ok hg)
      have Hl2 := Lib.hid (cat_ok hg2).1
      have He := Lib.hid (cat_ents hg2)
      obtain ⟨i0, hi, hz0, hz1, hz2⟩ := info_parts infoEn2
      obtain ⟨Aa, ca, rfl, -, -, hAa⟩ := ha
      have hcells : Hid (∀ a, Aa = some a → ∀ j u, (enS.flat xs)[j]? = some u → w.cell? (a.add j) = some u) := Lib.hid (fun a e => by subst e; exact en_flat_cells Ha.out)
      have hAn : Hid (Aa = none → xs.length = 0) := Lib.hid (fun e => by
        subst e
        rcases Nat.eq_zero_or_pos xs.length with h | h
        · exact h
        · obtain ⟨g, off, h1, -⟩ := hAa h
          cases h1)
      clear hAa
      have Hxl := Lib.hid (show 0 + xs.length ≤ 12 by have := Hx.out.1; omega)
      go_enter Try.func8, Try.ntmps8
      go_wp2_with fail
      refine (caGood_any _ xs _ Ha.out).mono ?_; rintro e w1 ⟨rfl, hb1⟩
      rw [hg]
      go_wp2_with fail
      refine (caGood_any _ bs _ (Hb.out.on hb1)).mono ?_; rintro e w2 ⟨rfl, hb2⟩
      rw [hg2]
      have hb2' := bthen hb1 hb2
      have hown0 := Lib.hid (World.ownsRow_lit (base := w.heap.size) (e := 36) (size := 5) w2 #[] 0 hb2'.size (by unfold maxLen; omega) rfl)
      have hbE : Below w.heap.size w (w2.alloc (Obj.cells #[] 36)) := bal hb2' _
      have Hsrc := Lib.hid (fun a (e : Aa = some a) j u (hj : (enS.flat xs)[j]? = some u) => show (w2.alloc (Obj.cells #[] 36)).cell? (a.add j) = some u by
        have := hcells.out a e j u hj
        rw [hbE.cell (World.block_lt_of_cell? w _ this)]
        exact this)
      go_wp2_with (at_builtin; refine wpList_append_src rfl _ _ 23 rfl w.heap.size 36 i0 (.agg #[.int .i64 0, .int .i64 0, .int .i64 0, .int .i64 0, .int .i64 0]) 5 40 Try.underlying23 hi hz0 hz1 hz2 rfl (by decide) _ _ _ rfl hown0.out Aa xs.length ca (enS.flat xs) rfl (Shape.length_flat xs) hAn.out Hsrc.out (en_one xs) ?c3 ?c4 hbE.size ?_)
      case c3 => have := Hxl.out; unfold maxLen; omega
      case c4 => have := Hxl.out; omega
      intro v' w3 hown' hgrow
      have hbn : Below w.heap.size w w3 := Below.grown hbE hgrow hbE.size (fun j hj => (hown0.out.lt j hj).1)
      have Ho3 := Lib.hid (show w3.ownsRow w.heap.size 36 5 v' xs.length (enS.flat xs) by simpa using hown')
      clear hown' hgrow hbE
      have Hzx := Lib.hid (foldO_zero xs bs)
      rcases Nat.eq_zero_or_pos bs.length with h0 | h0
      · obtain rfl : bs = [] := List.eq_nil_of_length_eq_zero h0
        clear hA h0
        have Hcat := Lib.hid (catB_all Hx.out.2)
        have hd := Lib.hid (decide_eq_true Hx.out.1)
        have Hv := Lib.hid (show mergeV xs [] = if xs.length ≤ 12 then (xs, true) else ([], false) from rfl)
        go_wp2
        refine wp_loop_rounds 1 ?_
        rw [rounds_succ]
        go_wp2_with fail
        refine (caGood_any _ xs _ (Rd.of_own Ho3.out rfl)).mono ?_; rintro e w4 ⟨rfl, hb4⟩
        have Hb4 := Lib.hid hb4
        rw [hg]
        go_wp2
        go_ret2
        exact ⟨⟨_, xs, true, rfl, by rw [Hfin.out, Hv.out, if_pos Hx.out.1], own_below Ho3.out Hb4.out⟩, bthen hbn hb4⟩
      · obtain ⟨g, off, rfl, hgl, hcell⟩ := hA h0
        clear hA
        have hcell := en_cells hcell
        clear hg hg2
        go_wp2
        go_loopw [24, 6] (fun i o wr => ∃ (k : Nat) (z : List En), k ≤ bs.length ∧ i = .int .i64 k ∧ Hid (foldO xs (bs.take k) = some z) ∧ Hid (okCat z) ∧ z.length ≤ xs.length + k ∧ Below w.heap.size w wr ∧ wr.ownsRow w.heap.size 36 5 o z.length (enS.flat z)) (fun i _ _ => bs.length - (intOf i).toNat)
        case atStart => exact ⟨0, xs, Nat.zero_le _, rfl, Hzx, Lib.hid Hx.out.2, Nat.le_refl _, hbn, Ho3.out⟩
        case round =>
          obtain ⟨k, z, hk, rfl, Hz, Hzv, hzl, hb, hown⟩ := hrel
          have Hown := Lib.hid hown; clear hown
          by_cases hlt : k < bs.length
          · obtain ⟨f0, f1, f2, f3, f4⟩ := hcell k hlt
            rw [← hb.cell (p := ⟨_, _, _⟩) hgl] at f0 f1 f2 f3 f4
            have Hy := Lib.hid (He.out k hlt)
            have Hsucc := Lib.hid (foldO_succ xs hlt)
            have hgr : g < wr.heap.size := Nat.lt_of_lt_of_le hgl hb.size
            generalize enS.get bs k = y at f0 f1 f2 f3 f4 Hy Hsucc
            have hi0 : (0 : Int) ≤ (k : Int) := by omega
            have hi1 : (k : Int) < (bs.length : Int) := by omega
            have hbA : Below wr.heap.size wr (wr.alloc (Obj.cells #[.int .i64 y.a, .int .i64 y.b, .int .i64 y.lo, .int .i64 y.hi, .int .i64 y.to] 36)) := bal (Below.refl _ _) _
            have HbA := Lib.hid hbA; clear hbA
            have hxl12 := Hxl.out
            have hbl12 := Hl2.out
            clear hcell
            go_wp2_with fail
            refine (caTighten_any _ z y _ (Rd.of_own (own_below Hown.out HbA.out) rfl) (by omega) Hzv.out Hy.out).mono ?_
            rintro e w5 ⟨⟨v5, z', b, rfl, ht, -, ho5⟩, hb5⟩
            have Ho5 := Lib.hid ho5; clear ho5
            have Ht := Lib.hid ht; clear ht
            have hb5' := bthen (bthen hb HbA.out) hb5
            have Hbw := Lib.hid (bthen hb HbA.out).size
            cases b
            · have Hno := Lib.hid (show foldO xs bs = none by refine foldO_stop (k := k + 1) ?_; rw [Hsucc.out, Hz.out]; exact Ht.out)
              go_wp2
              go_ret2
              exact ⟨⟨_, [], false, rfl, by rw [Hfin.out]; unfold mergeV; rw [Hno.out], by simp [Shape.flat], Or.inl ⟨rfl, rfl⟩⟩, hb5'⟩
            · have Hnew := Lib.hid (show foldO xs (bs.take (k + 1)) = some z' by rw [Hsucc.out, Hz.out]; exact Ht.out)
              have Hnv := Lib.hid (tight_ok Hzv.out Hy.out Ht.out)
              have hl5 := tight_len Ht.out
              go_wp2
              go_roundw
              case rel => exact ⟨k + 1, z', by omega, by go_num, Hnew, Hnv, by omega, hb5', own_mono Ho5.out Hbw.out⟩
              case measure => simp [intOf]; omega
          · obtain rfl : k = bs.length := by omega
            have hd0 : decide (bs.length < bs.length) = false := decide_eq_false (by omega)
            have Hz' := Lib.hid (show foldO xs bs = some z by have := Hz.out; rwa [List.take_length] at this)
            have Hv := Lib.hid (show mergeV xs bs = if z.length ≤ 12 then (z, true) else ([], false) by unfold mergeV; rw [Hz'.out])
            have Hcat := Lib.hid (catB_all Hzv.out)
            clear hcell
            go_wp2_with fail
            refine (caGood_any _ z _ (Rd.of_own Hown.out rfl)).mono ?_; rintro e w4 ⟨rfl, hb4⟩
            have Hb4 := Lib.hid hb4
            rw [Hcat.out]
            by_cases hl : z.length ≤ 12
            · have hd : decide (z.length ≤ 12) = true := decide_eq_true hl
              have Hl := Lib.hid hl; clear hl
              rw [hd]
              go_wp2
              go_ret2
              exact ⟨⟨_, z, true, rfl, by rw [Hfin.out, Hv.out, if_pos Hl.out], own_below Hown.out Hb4.out⟩, bthen hb hb4⟩
            · have hd : decide (z.length ≤ 12) = false := decide_eq_false hl
              have Hl := Lib.hid hl; clear hl
              rw [hd]
              go_wp2
              go_ret2
              exact ⟨⟨_, [], false, rfl, by rw [Hfin.out, Hv.out, if_neg Hl.out], by simp [Shape.flat], Or.inl ⟨rfl, rfl⟩⟩, bthen hb hb4⟩
end Go.Proofs.Ytnphipfdpkgbaaa
