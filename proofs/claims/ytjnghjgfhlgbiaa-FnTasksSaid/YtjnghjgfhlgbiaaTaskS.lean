/- Is a task valid, in the reference. Conditions: none. -/
import Derived.Test.YtjnghjgfhlgbiaaTaskG
namespace Go.Proofs.Ytjnghjgfhlgbiaa
open Go Go.RowKit

set_option maxRecDepth 20000 in
set_option maxHeartbeats 4000000 in
theorem skGood_any (a b m d t : Int) (v : Value) (fs : List Pt) (w : World) (hv : Rd ptS w w.heap.size v fs) :
    Calls Try.prog 28 #[.agg #[.int .i64 a, .int .i64 b, .int .i64 m, .int .i64 d, .int .i64 t, v]] w fun r w' => r = .returned (.bool (tkG a b m d t fs)) ∧ Below w.heap.size w w' := by
  have Hb := Lib.hid (Blk.new w 28 #[.int .i64 a, .int .i64 b, .int .i64 m, .int .i64 d, .int .i64 t, v])
  have hb0 := bal (Below.refl w.heap.size w) (Obj.cells #[.int .i64 a, .int .i64 b, .int .i64 m, .int .i64 d, .int .i64 t, v] 28)
  have HR := Lib.hid (hv.on hb0)
  have HbA := Lib.hid hb0; clear hb0
  have inB : ∀ (n lo hi : Int) (w' : World), Calls Try.prog 40 #[.int .i64 n, .int .i64 lo, .int .i64 hi] w' fun r w'' => r = .returned (.bool (insB n lo hi)) ∧ Below w'.heap.size w' w'' := fun n lo hi w' => (l1In_any n lo hi w').mono (fun _ _ h => ⟨h.1, h.2 ▸ Below.refl _ _⟩)
  have InB := Lib.hid inB; clear inB hv
  have HK := Lib.hid (fun w' => skBounds_any a b m d t v w')
  have Hv := Lib.hid (show tkG a b m d t fs = (tkB a b m d && (insB t 0 (totI m d) && decide (fs = hitsZ a b m 0 t))) from rfl)
  cases hc : tkB a b m d
  all_goals rw [hc] at HK
  · have Hfin := Lib.hid (show false = tkG a b m d t fs by rw [Hv.out, hc]; rfl)
    clear hc
    go_enter Try.func28, Try.ntmps28
    go_wp2
    refine wp_region_tame (by kernel_rfl) (by kernel_rfl) (fun T _ W hT => ?_)
    have hx := hT.cell
    repeat (go_big_quiet_step ((first | (go_at_call 37; with_reducible exact hT.call (HK.out _)))))
    refine wpQuiet_nil ?_
    intro t
    clear hx
    go_wp2
    go_ret
    exact ⟨ret_bool Hfin.out, bthen HbA.out (hT.below t)⟩
  · have Htk := Lib.hid (tkB_tk hc)
    have Htot := Lib.hid (fun (w' : World) => skCount_any a b m d t v w' Htk.out)
    have HT := Lib.hid (fun w' => InB.out t 0 (totI m d) w')
    cases hin : insB t 0 (totI m d)
    all_goals rw [hin] at HT
    · have Hfin := Lib.hid (show false = tkG a b m d t fs by rw [Hv.out, hc, hin]; rfl)
      clear hc hin
      go_enter Try.func28, Try.ntmps28
      go_wp2
      refine wp_region_tame (by kernel_rfl) (by kernel_rfl) (fun T _ W hT => ?_)
      have hx := hT.cell
      repeat (go_big_quiet_step ((first | (go_at_call 37; with_reducible exact hT.call (HK.out _)) | (go_at_call 40; with_reducible exact hT.call (HT.out _)) | (go_at_call 32; with_reducible exact hT.call (Htot.out _)))))
      refine wpQuiet_nil ?_
      intro t
      clear hx
      go_wp2
      go_ret
      exact ⟨ret_bool Hfin.out, bthen HbA.out (hT.below t)⟩
    · have Hfin := Lib.hid (show decide (fs = hitsZ a b m 0 t) = tkG a b m d t fs by rw [Hv.out, hc, hin]; rfl)
      have Hin := Lib.hid (insB_true hin)
      clear hc hin
      go_enter Try.func28, Try.ntmps28
      go_wp2
      obtain ⟨wt, hwt⟩ : ∃ wt, w.alloc (Obj.cells #[.int .i64 a, .int .i64 b, .int .i64 m, .int .i64 d, .int .i64 t, v] 28) = wt := ⟨_, rfl⟩
      obtain ⟨g, hg⟩ : ∃ g, w.heap.size = g := ⟨_, rfl⟩
      have Hbt := Lib.hid (show Blk wt g 28 #[.int .i64 a, .int .i64 b, .int .i64 m, .int .i64 d, .int .i64 t, v] by rw [← hwt, ← hg]; exact Hb.out)
      have Hat := Lib.hid (show Below w.heap.size w wt by rw [← hwt]; exact HbA.out)
      have HRt := Lib.hid (show Rd ptS wt wt.heap.size v fs by rw [← hwt]; exact HR.out)
      rw [hwt]
      try rw [hg]
      clear hwt Hb HbA HR
      have q0 := Hbt.out.cell 0
      have q1 := Hbt.out.cell 1
      have q2 := Hbt.out.cell 2
      have q3 := Hbt.out.cell 3
      have q4 := Hbt.out.cell 4
      have q5 := Hbt.out.cell 5
      have ql := Hbt.out.lt
      simp at q0 q1 q2 q3 q4 q5
      have Hg := Lib.hid hg; clear hg
      have HS : Hid (∀ w', Below wt.heap.size wt w' → (w'.cell? ⟨g, 0, none⟩ = some (.int .i64 a) ∧ w'.cell? ⟨g, 1, none⟩ = some (.int .i64 b) ∧ w'.cell? ⟨g, 2, none⟩ = some (.int .i64 m) ∧ w'.cell? ⟨g, 3, none⟩ = some (.int .i64 d) ∧ w'.cell? ⟨g, 4, none⟩ = some (.int .i64 t) ∧ w'.cell? ⟨g, 5, none⟩ = some (v) ∧ Below wt.heap.size wt w')) := Lib.hid (fun w' hw => ⟨(hw.cell (p := ⟨g, 0, none⟩) ql).trans q0, (hw.cell (p := ⟨g, 1, none⟩) ql).trans q1, (hw.cell (p := ⟨g, 2, none⟩) ql).trans q2, (hw.cell (p := ⟨g, 3, none⟩) ql).trans q3, (hw.cell (p := ⟨g, 4, none⟩) ql).trans q4, (hw.cell (p := ⟨g, 5, none⟩) ql).trans q5, hw⟩)
      have HB := Lib.hid (Below.refl wt.heap.size wt)
      go_region_held3 (fun w' => w'.cell? ⟨g, 0, none⟩ = some (.int .i64 a) ∧ w'.cell? ⟨g, 1, none⟩ = some (.int .i64 b) ∧ w'.cell? ⟨g, 2, none⟩ = some (.int .i64 m) ∧ w'.cell? ⟨g, 3, none⟩ = some (.int .i64 d) ∧ w'.cell? ⟨g, 4, none⟩ = some (.int .i64 t) ∧ w'.cell? ⟨g, 5, none⟩ = some (v) ∧ Below wt.heap.size wt w') (((go_split_ands; refine HS.out _ ?_; repeat (first | (with_reducible assumption) | (with_reducible exact Below.refl _ _) | (with_reducible refine Below.drew ?_) | (with_reducible refine bthen ?_ (by with_reducible assumption)))))) ((first | (go_at_call 37; with_reducible refine (HK.out _).mono ?_; rintro r w1 ⟨rfl, hb1⟩) | (go_at_call 40; with_reducible refine (HT.out _).mono ?_; rintro r w4 ⟨rfl, hb4⟩) | (go_at_call 32; with_reducible refine (Htot.out _).mono ?_; rintro r w5 ⟨rfl, hb5⟩) | (go_at_call 48; refine (skRun_any a b m d t 0 t v _ Htk.out (by omega) Hin.out.2).mono ?_; rintro r w6 ⟨⟨v6, rfl, ho6⟩, hb6⟩) | (go_at_call 47; refine (skSame_any _ _ fs (hitsZ a b m 0 t) _ (HRt.out.on (by go_split_ands; with_reducible assumption)) ((Rd.of_own ho6 rfl).on (by first | (with_reducible exact Below.refl _ _) | (with_reducible refine Below.drew ?_; with_reducible exact Below.refl _ _)))).mono ?_; rintro r w7 ⟨rfl, hb7⟩)))
      all_goals go_wp2
      all_goals go_ret
      all_goals exact ⟨ret_bool Hfin.out, bthen Hat.out (by go_split_ands; repeat (first | (with_reducible assumption) | (with_reducible refine bthen ?_ (by with_reducible assumption))))⟩
end Go.Proofs.Ytjnghjgfhlgbiaa
