/- The text of a task, in both; TaskText of both. Conditions: the table of powers of ten. -/
import Derived.Test.YticbmpjdcanjkaaGreatDoorTaskR
import Derived.Test.YticbmpjdcanjkaaGreatDoorSeal
namespace Go.Proofs.YticbmpjdcanjkaaGreatDoor
open Go Go.RowKit

theorem nText5b (a b m d t : Int) : nText [a, b, m, d, t] = nText [a, b] ++ ⟨#[32]⟩ ++ itS m ++ ⟨#[32]⟩ ++ itS d ++ ⟨#[32]⟩ ++ itS t := by
  unfold nText
  apply ByteArray.ext
  simp [Lib.join, List.intercalate]
def textV (a b m d t : Int) (fs : List Pt) : ByteArray × Bool := if tkG a b m d t fs then (nText [a, b, m, d, t], true) else (⟨#[]⟩, false)
theorem ret_sb2 {s : ByteArray} {k : Bool} {p : ByteArray × Bool} (h : p = (s, k)) : Ending.returned (.tuple #[.string s, .bool k]) = .returned (.tuple #[.string p.1, .bool p.2]) := by rw [h]

set_option maxRecDepth 20000 in
set_option maxHeartbeats 4000000 in
theorem text_any (g : Nat) (a b m d t : Int) (v : Value) (w : World) (h : Blk w g 26 #[.int .i64 a, .int .i64 b, .int .i64 m, .int .i64 d, .int .i64 t, v]) (ht : TkB a b m d) (htt : 0 ≤ t ∧ t ≤ 4010) (htab : Tab w) :
    Calls Tryz.prog 31 #[.pointer (some ⟨g, 0, none⟩)] w fun r w' => r = .returned (.string (nText [a, b, m, d, t])) ∧ Below w.heap.size w w' := by
  have q0 := h.cell 0
  have q1 := h.cell 1
  have q2 := h.cell 2
  have q3 := h.cell 3
  have q4 := h.cell 4
  have q5 := h.cell 5
  have ql := h.lt
  simp at q0 q1 q2 q3 q4 q5
  have HS : Hid (∀ w', Below w.heap.size w w' → (w'.cell? ⟨g, 0, none⟩ = some (.int .i64 a) ∧ w'.cell? ⟨g, 1, none⟩ = some (.int .i64 b) ∧ w'.cell? ⟨g, 2, none⟩ = some (.int .i64 m) ∧ w'.cell? ⟨g, 3, none⟩ = some (.int .i64 d) ∧ w'.cell? ⟨g, 4, none⟩ = some (.int .i64 t) ∧ w'.cell? ⟨g, 5, none⟩ = some (v) ∧ Below w.heap.size w w')) := Lib.hid (fun w' hw => ⟨(hw.cell (p := ⟨g, 0, none⟩) ql).trans q0, (hw.cell (p := ⟨g, 1, none⟩) ql).trans q1, (hw.cell (p := ⟨g, 2, none⟩) ql).trans q2, (hw.cell (p := ⟨g, 3, none⟩) ql).trans q3, (hw.cell (p := ⟨g, 4, none⟩) ql).trans q4, (hw.cell (p := ⟨g, 5, none⟩) ql).trans q5, hw⟩)
  have Hnt := Lib.hid (fun (W : World) (hb : Below (w.alloc (Obj.cells #[.int .i64 a, .int .i64 b, .int .i64 m, .int .i64 d, .int .i64 t] 3)).heap.size (w.alloc (Obj.cells #[.int .i64 a, .int .i64 b, .int .i64 m, .int .i64 d, .int .i64 t] 3)) W) =>
    numbersText_any (.slice (some ⟨w.heap.size, 0, none⟩) 5 5) [a, b, m, d, t] W ((rd_ints w 3 [a, b, m, d, t] (by simp)).on hb) (by simp) (by
      intro j hj
      rw [inS_get hj]
      have h1 := ht.a; have h2 := ht.b; have h3 := ht.m; have h4 := ht.d
      have h6 : [a, b, m, d, t][j] ∈ [a, b, m, d, t] := List.getElem_mem hj
      generalize [a, b, m, d, t][j] = y at h6
      simp at h6
      omega) ((htab.on (bal (Below.refl _ _) _)).on hb))
  have hb0 := Below.refl w.heap.size w
  clear h htab ht htt
  go_enter Tryz.func31, Tryz.ntmps31
  go_wp2
  go_region_held3 (fun w' => w'.cell? ⟨g, 0, none⟩ = some (.int .i64 a) ∧ w'.cell? ⟨g, 1, none⟩ = some (.int .i64 b) ∧ w'.cell? ⟨g, 2, none⟩ = some (.int .i64 m) ∧ w'.cell? ⟨g, 3, none⟩ = some (.int .i64 d) ∧ w'.cell? ⟨g, 4, none⟩ = some (.int .i64 t) ∧ w'.cell? ⟨g, 5, none⟩ = some (v) ∧ Below w.heap.size w w') (((go_split_ands; refine HS.out _ ?_; repeat (first | (with_reducible assumption) | (with_reducible exact Below.refl _ _) | (with_reducible refine Below.drew ?_) | (with_reducible refine bal ?_ _) | (with_reducible refine bthen ?_ (by with_reducible assumption)))))) ((go_at_call 58; (with_reducible refine (Hnt.out _ (by first | (with_reducible exact Below.refl _ _) | (with_reducible exact Below.drew (Below.refl _ _)))).mono ?_); rintro r w2 ⟨rfl, hb2⟩))
  all_goals go_wp2
  all_goals go_ret
  all_goals exact ⟨rfl, by go_split_ands; repeat (first | (with_reducible assumption) | (with_reducible refine Below.drew ?_) | (with_reducible refine bal ?_ _) | (with_reducible refine bthen ?_ (by with_reducible assumption)))⟩
set_option maxRecDepth 8000 in
set_option maxHeartbeats 2000000 in
theorem skText_any (a b m d t : Int) (v : Value) (w : World) (h : TkB a b m d) (htt : 0 ≤ t ∧ t ≤ 4010) :
    Calls Tryz.prog 23 #[.agg #[.int .i64 a, .int .i64 b, .int .i64 m, .int .i64 d, .int .i64 t, v]] w fun r w' => r = .returned (.string (nText [a, b, m, d, t])) ∧ Below w.heap.size w w' := by
  have H2 := Lib.hid (fun w => ecText_any a b w (by have := h.a; omega) (by have := h.b; omega))
  have H1 := Lib.hid (fun w => l1Num_int m w (by have := h.m; omega))
  have H3 := Lib.hid (fun w => l1Num_int d w (by have := h.d; omega))
  have H4 := Lib.hid (fun w => l1Num_int t w (by omega))
  have Hv := Lib.hid (nText5b a b m d t)
  have s1 : (itS m).size ≤ 10000 := by have := itS_size m; have := h.m; omega
  have s3 : (itS d).size ≤ 10000 := by have := itS_size d; have := h.d; omega
  have s4 : (itS t).size ≤ 10000 := by have := itS_size t; omega
  have s2 : (nText [a, b]).size ≤ 100000 := by
    have := nText_size [a, b] 10000 (by intro e he; have h2 := h.a; have h3 := h.b; simp at he; omega)
    simp at this; omega
  have HbA := Lib.hid (show Below w.heap.size w (w.alloc (Obj.cells #[.int .i64 a, .int .i64 b, .int .i64 m, .int .i64 d, .int .i64 t, v] 26)) from bal (Below.refl _ _) _)
  have hB := Blk.new w 26 #[.int .i64 a, .int .i64 b, .int .i64 m, .int .i64 d, .int .i64 t, v]
  have Hbx := Lib.hid hB; clear hB
  generalize nText [a, b] = P2 at H2 Hv s2
  generalize itS m = P1 at H1 Hv s1
  generalize itS d = P3 at H3 Hv s3
  generalize itS t = P4 at H4 Hv s4
  clear h htt
  go_enter Tryz.func23, Tryz.ntmps23
  go_wp2
  refine wp_region_tame (by kernel_rfl) (by kernel_rfl) (fun T _ W hT => ?_)
  have hx := hT.cell
  repeat (go_big_quiet_step ((first | (go_at_call 50; with_reducible exact hT.call (H2.out _)) | (go_at_call 51; with_reducible exact hT.call (H1.out _)) | (go_at_call 51; with_reducible exact hT.call (H3.out _)) | (go_at_call 51; with_reducible exact hT.call (H4.out _)))))
  refine wpQuiet_nil ?_
  intro z
  clear hx
  go_wp2
  go_ret
  exact ⟨by rw [Hv.out]; rfl, bthen HbA.out (hT.below z)⟩
end Go.Proofs.YticbmpjdcanjkaaGreatDoor
