/- The bounds of a task; is a task valid, in both. Conditions: none. -/
import Derived.Test.YtjnghjgfhlgbiaaTaskE
namespace Go.Proofs.Ytjnghjgfhlgbiaa
open Go Go.RowKit

def tkB (a b m d : Int) : Bool := curveB a b && (insB m 0 200 && insB d 1 10)
theorem tkB_tk {a b m d : Int} (h : tkB a b m d = true) : TkB a b m d := by
  unfold tkB at h
  simp only [Bool.and_eq_true] at h
  obtain ⟨h1, h2, h3⟩ := h
  exact ⟨(curveB_bd h1).1, (curveB_bd h1).2, insB_true h2, insB_true h3⟩
/-- Is a task valid? -/
def tkG (a b m d t : Int) (fs : List Pt) : Bool := tkB a b m d && (insB t 0 (totI m d) && decide (fs = hitsZ a b m 0 t))

theorem tkTotal_any (g : Nat) (a b m d t : Int) (v : Value) (w : World) (h : Blk w g 28 #[.int .i64 a, .int .i64 b, .int .i64 m, .int .i64 d, .int .i64 t, v]) (ht : TkB a b m d) :
    Calls Try.prog 27 #[.pointer (some ⟨g, 0, none⟩)] w fun r w' => r = .returned (.int .i64 (totI m d)) ∧ Below w.heap.size w w' := by
  have q2 := h.cell 2
  have q3 := h.cell 3
  simp at q2 q3
  have ql := h.lt
  have ⟨m1, m2⟩ := ht.m
  have ⟨d1, d2⟩ := ht.d
  have ⟨t1, t2⟩ := totI_bd ht.m ht.d
  unfold totI at t1 t2 ⊢
  clear h ht
  go_enter Try.func27, Try.ntmps27
  go_wp2
  refine wp_region_tame (by kernel_rfl) (by kernel_rfl) (fun T _ W hT => ?_)
  have hx := hT.cell
  repeat (go_big_quiet_step (fail))
  refine wpQuiet_nil ?_
  intro t
  clear hx
  go_wp2
  go_ret
  exact ⟨rfl, hT.below t⟩
theorem skCount_any (a b m d t : Int) (v : Value) (w : World) (ht : TkB a b m d) :
    Calls Try.prog 32 #[.agg #[.int .i64 a, .int .i64 b, .int .i64 m, .int .i64 d, .int .i64 t, v]] w fun r w' => r = .returned (.int .i64 (totI m d)) ∧ Below w.heap.size w w' := by
  have q2 := (Blk.new w 28 #[.int .i64 a, .int .i64 b, .int .i64 m, .int .i64 d, .int .i64 t, v]).cell 2
  have q3 := (Blk.new w 28 #[.int .i64 a, .int .i64 b, .int .i64 m, .int .i64 d, .int .i64 t, v]).cell 3
  have HbA := Lib.hid (show Below w.heap.size w (w.alloc (Obj.cells #[.int .i64 a, .int .i64 b, .int .i64 m, .int .i64 d, .int .i64 t, v] 28)) from bal (Below.refl _ _) _)
  have ⟨m1, m2⟩ := ht.m
  have ⟨d1, d2⟩ := ht.d
  have ⟨t1, t2⟩ := totI_bd ht.m ht.d
  unfold totI at t1 t2 ⊢
  clear ht
  go_enter Try.func32, Try.ntmps32
  go_wp2
  try (
    refine wp_region_tame (by kernel_rfl) (by kernel_rfl) (fun T _ W hT => ?_)
    have hx := hT.cell
    repeat (go_big_quiet_step (fail))
    refine wpQuiet_nil ?_
    intro t
    clear hx
    go_wp2)
  go_ret
  exact ⟨rfl, by first | exact HbA.out | exact bthen HbA.out (hT.below t)⟩
set_option maxHeartbeats 1600000 in
theorem skBounds_any (a b m d t : Int) (v : Value) (w : World) : Calls Try.prog 37 #[.agg #[.int .i64 a, .int .i64 b, .int .i64 m, .int .i64 d, .int .i64 t, v]] w fun r w' => r = .returned (.bool (tkB a b m d)) ∧ Below w.heap.size w w' := by
  have hbox := Blk.new w 28 #[.int .i64 a, .int .i64 b, .int .i64 m, .int .i64 d, .int .i64 t, v]
  have hbA : Below w.heap.size w (w.alloc (Obj.cells #[.int .i64 a, .int .i64 b, .int .i64 m, .int .i64 d, .int .i64 t, v] 28)) := bal (Below.refl _ _) _
  have hv : tkB a b m d = (curveB a b && (insB m 0 200 && insB d 1 10)) := rfl
  have Hv := Lib.hid hv; clear hv
  have Hbox := Lib.hid hbox; clear hbox
  go_enter Try.func37, Try.ntmps37
  go_wp2_with fail
  refine (ecGood_any _ _ _).mono ?_; rintro e w1 ⟨rfl, hb1⟩
  have hbox1 := Hbox.out.on hb1
  have q0 := hbox1.cell 0
  have q1 := hbox1.cell 1
  have q2 := hbox1.cell 2
  have q3 := hbox1.cell 3
  have q4 := hbox1.cell 4
  have q5 := hbox1.cell 5
  have ql := hbox1.lt
  have hb1' := bthen hbA hb1
  clear hbox1
  cases hc : curveB a b
  · go_wp2
    go_ret
    exact ⟨by rw [Hv.out, hc]; rfl, hb1'⟩
  · go_wp2_with fail
    refine (l1In_any _ _ _ _).mono ?_; rintro e w2 ⟨rfl, rfl⟩
    cases hm : insB m 0 200
    · go_wp2
      go_ret
      exact ⟨by rw [Hv.out, hc, hm]; rfl, hb1'⟩
    · go_wp2_with fail
      refine (l1In_any _ _ _ _).mono ?_; rintro e w2 ⟨rfl, rfl⟩
      go_wp2
      go_ret
      exact ⟨by rw [Hv.out, hc, hm]; simp, hb1'⟩
set_option maxRecDepth 20000 in
set_option maxHeartbeats 4000000 in
theorem isTask_any (g : Nat) (a b m d t : Int) (v : Value) (fs : List Pt) (w : World) (h : Blk w g 28 #[.int .i64 a, .int .i64 b, .int .i64 m, .int .i64 d, .int .i64 t, v]) (hv : Rd ptS w w.heap.size v fs) :
    Calls Try.prog 24 #[.pointer (some ⟨g, 0, none⟩)] w fun r w' => r = .returned (.bool (tkG a b m d t fs)) ∧ Below w.heap.size w w' := by
  have q0 := h.cell 0
  have q1 := h.cell 1
  have q2 := h.cell 2
  have q3 := h.cell 3
  have q4 := h.cell 4
  have q5 := h.cell 5
  have ql := h.lt
  simp at q0 q1 q2 q3 q4 q5
  have Hb := Lib.hid h
  have HR := Lib.hid hv
  have inB : ∀ (n lo hi : Int) (w' : World), Calls Try.prog 25 #[.int .i64 n, .int .i64 lo, .int .i64 hi] w' fun r w'' => r = .returned (.bool (insB n lo hi)) ∧ Below w'.heap.size w' w'' := fun n lo hi w' => (inside_any n lo hi w').mono (fun _ _ h => ⟨h.1, h.2 ▸ Below.refl _ _⟩)
  have InB := Lib.hid inB; clear inB h hv
  have HC := Lib.hid (fun w' => isCurve_any a b w')
  have HM := Lib.hid (fun w' => InB.out m 0 200 w')
  have HD := Lib.hid (fun w' => InB.out d 1 10 w')
  have Hv := Lib.hid (show tkG a b m d t fs = (curveB a b && (insB m 0 200 && insB d 1 10) && (insB t 0 (totI m d) && decide (fs = hitsZ a b m 0 t))) from rfl)
  cases hc : curveB a b
  all_goals rw [hc] at HC
  · have Hfin := Lib.hid (show false = tkG a b m d t fs by rw [Hv.out, hc]; rfl)
    clear hc
    go_enter Try.func24, Try.ntmps24
    go_wp2
    refine wp_region_tame (by kernel_rfl) (by kernel_rfl) (fun T _ W hT => ?_)
    have hx := hT.cell
    repeat (go_big_quiet_step ((first | (go_at_call 44; exact hT.call (HC.out _)))))
    refine wpQuiet_nil ?_
    intro t
    clear hx
    go_wp2
    go_ret
    exact ⟨ret_bool Hfin.out, hT.below t⟩
  · cases hm : insB m 0 200
    all_goals rw [hm] at HM
    · have Hfin := Lib.hid (show false = tkG a b m d t fs by rw [Hv.out, hc, hm]; rfl)
      clear hc hm
      go_enter Try.func24, Try.ntmps24
      go_wp2
      refine wp_region_tame (by kernel_rfl) (by kernel_rfl) (fun T _ W hT => ?_)
      have hx := hT.cell
      repeat (go_big_quiet_step ((first | (go_at_call 44; exact hT.call (HC.out _)) | (go_at_call 25; with_reducible exact hT.call (HM.out _)))))
      refine wpQuiet_nil ?_
      intro t
      clear hx
      go_wp2
      go_ret
      exact ⟨ret_bool Hfin.out, hT.below t⟩
    · cases hd : insB d 1 10
      all_goals rw [hd] at HD
      · have Hfin := Lib.hid (show false = tkG a b m d t fs by rw [Hv.out, hc, hm, hd]; rfl)
        clear hc hm hd
        go_enter Try.func24, Try.ntmps24
        go_wp2
        refine wp_region_tame (by kernel_rfl) (by kernel_rfl) (fun T _ W hT => ?_)
        have hx := hT.cell
        repeat (go_big_quiet_step ((first | (go_at_call 44; exact hT.call (HC.out _)) | (go_at_call 25; with_reducible exact hT.call (HM.out _)) | (go_at_call 25; with_reducible exact hT.call (HD.out _)))))
        refine wpQuiet_nil ?_
        intro t
        clear hx
        go_wp2
        go_ret
        exact ⟨ret_bool Hfin.out, hT.below t⟩
      · have Htk := Lib.hid (tkB_tk (show tkB a b m d = true by unfold tkB; rw [hc, hm, hd]; rfl))
        have Htot := Lib.hid (fun (w' : World) (hb : Below w.heap.size w w') => tkTotal_any g a b m d t v w' (Hb.out.on hb) Htk.out)
        have HT := Lib.hid (fun w' => InB.out t 0 (totI m d) w')
        cases hin : insB t 0 (totI m d)
        all_goals rw [hin] at HT
        · have Hfin := Lib.hid (show false = tkG a b m d t fs by rw [Hv.out, hc, hm, hd, hin]; rfl)
          clear hc hm hd hin
          go_enter Try.func24, Try.ntmps24
          go_wp2
          refine wp_region_tame (by kernel_rfl) (by kernel_rfl) (fun T _ W hT => ?_)
          have hx := hT.cell
          repeat (go_big_quiet_step ((first | (go_at_call 44; exact hT.call (HC.out _)) | (go_at_call 25; with_reducible exact hT.call (HM.out _)) | (go_at_call 25; with_reducible exact hT.call (HD.out _)) | (go_at_call 25; with_reducible exact hT.call (HT.out _)) | (go_at_call 27; exact hT.call (Htot.out _ (hT.below _))))))
          refine wpQuiet_nil ?_
          intro t
          clear hx
          go_wp2
          go_ret
          exact ⟨ret_bool Hfin.out, hT.below t⟩
        · have Hfin := Lib.hid (show decide (fs = hitsZ a b m 0 t) = tkG a b m d t fs by rw [Hv.out, hc, hm, hd, hin]; rfl)
          have Hin := Lib.hid (insB_true hin)
          clear hc hm hd hin
          have HS : Hid (∀ w', Below w.heap.size w w' → (w'.cell? ⟨g, 0, none⟩ = some (.int .i64 a) ∧ w'.cell? ⟨g, 1, none⟩ = some (.int .i64 b) ∧ w'.cell? ⟨g, 2, none⟩ = some (.int .i64 m) ∧ w'.cell? ⟨g, 3, none⟩ = some (.int .i64 d) ∧ w'.cell? ⟨g, 4, none⟩ = some (.int .i64 t) ∧ w'.cell? ⟨g, 5, none⟩ = some (v) ∧ Below w.heap.size w w')) := Lib.hid (fun w' hw => ⟨(hw.cell (p := ⟨g, 0, none⟩) ql).trans q0, (hw.cell (p := ⟨g, 1, none⟩) ql).trans q1, (hw.cell (p := ⟨g, 2, none⟩) ql).trans q2, (hw.cell (p := ⟨g, 3, none⟩) ql).trans q3, (hw.cell (p := ⟨g, 4, none⟩) ql).trans q4, (hw.cell (p := ⟨g, 5, none⟩) ql).trans q5, hw⟩)
          have HB := Lib.hid (Below.refl w.heap.size w)
          go_enter Try.func24, Try.ntmps24
          go_wp2
          go_region_held3 (fun w' => w'.cell? ⟨g, 0, none⟩ = some (.int .i64 a) ∧ w'.cell? ⟨g, 1, none⟩ = some (.int .i64 b) ∧ w'.cell? ⟨g, 2, none⟩ = some (.int .i64 m) ∧ w'.cell? ⟨g, 3, none⟩ = some (.int .i64 d) ∧ w'.cell? ⟨g, 4, none⟩ = some (.int .i64 t) ∧ w'.cell? ⟨g, 5, none⟩ = some (v) ∧ Below w.heap.size w w') (((go_split_ands; refine HS.out _ ?_; repeat (first | (with_reducible assumption) | (with_reducible exact Below.refl _ _) | (with_reducible refine Below.drew ?_) | (with_reducible refine bthen ?_ (by with_reducible assumption)))))) ((first | (go_at_call 44; refine (HC.out _).mono ?_; rintro r w1 ⟨rfl, hb1⟩) | (go_at_call 25; with_reducible refine (HM.out _).mono ?_; rintro r w2 ⟨rfl, hb2⟩) | (go_at_call 25; with_reducible refine (HD.out _).mono ?_; rintro r w3 ⟨rfl, hb3⟩) | (go_at_call 25; with_reducible refine (HT.out _).mono ?_; rintro r w4 ⟨rfl, hb4⟩) | (go_at_call 27; refine (Htot.out _ (by go_split_ands; with_reducible assumption)).mono ?_; rintro r w5 ⟨rfl, hb5⟩) | (go_at_call 46; refine (hits_any g a b m d t 0 t v _ (Hb.out.on (by go_split_ands; with_reducible assumption)) Htk.out (by omega) Hin.out.2).mono ?_; rintro r w6 ⟨⟨v6, rfl, ho6⟩, hb6⟩) | (go_at_call 45; refine (equal_any _ _ fs (hitsZ a b m 0 t) _ (HR.out.on (by go_split_ands; with_reducible assumption)) ((Rd.of_own ho6 rfl).on (by first | (with_reducible exact Below.refl _ _) | (with_reducible refine Below.drew ?_; with_reducible exact Below.refl _ _)))).mono ?_; rintro r w7 ⟨rfl, hb7⟩)))
          all_goals go_wp2
          all_goals go_ret
          all_goals exact ⟨ret_bool Hfin.out, by go_split_ands; repeat (first | (with_reducible assumption) | (with_reducible refine bthen ?_ (by with_reducible assumption)))⟩
end Go.Proofs.Ytjnghjgfhlgbiaa
