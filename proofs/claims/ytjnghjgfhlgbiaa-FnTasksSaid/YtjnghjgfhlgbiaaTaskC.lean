/- CrashTask and StepTask of both: the walks. Conditions: none. -/
import Derived.Test.YtjnghjgfhlgbiaaTaskR
namespace Go.Proofs.Ytjnghjgfhlgbiaa
open Go Go.RowKit

def zeroT : Int × Int × Int × Int × Int × List Pt × Bool := (0, 0, 0, 0, 0, [], false)
/-- A result that is a task and a bool. -/
def TkRet (V : Int × Int × Int × Int × Int × List Pt × Bool) (base : Nat) (r : Ending) (w' : World) : Prop :=
  ∃ (A B M D T : Int) (L : List Pt) (k : Bool) (v' : Value), r = .returned (.tuple #[.agg #[.int .i64 A, .int .i64 B, .int .i64 M, .int .i64 D, .int .i64 T, v'], .bool k]) ∧ V = (A, B, M, D, T, L, k) ∧ w'.ownsRow base 62 3 v' L.length (ptS.flat L)
theorem TkRet.zero {V : Int × Int × Int × Int × Int × List Pt × Bool} {base : Nat} {w' : World} (h : V = zeroT) : TkRet V base (.returned (.tuple #[.agg #[.int .i64 0, .int .i64 0, .int .i64 0, .int .i64 0, .int .i64 0, .slice none 0 0], .bool false])) w' :=
  ⟨0, 0, 0, 0, 0, [], false, _, rfl, h, rfl, Or.inl ⟨rfl, rfl⟩⟩
theorem TkRet.mk {V : Int × Int × Int × Int × Int × List Pt × Bool} {base a1 : Nat} {a b m d n : Int} {A : Option Addr} {c : Nat} {w' : World} (h : V = (a, b, m, d, n, hitsZ a b m 0 n, true)) (ho : w'.ownsRow a1 62 3 (.slice A (hitsZ a b m 0 n).length c) (hitsZ a b m 0 n).length (ptS.flat (hitsZ a b m 0 n))) (hb : base ≤ a1) :
    TkRet V base (.returned (.tuple #[.agg #[.int .i64 a, .int .i64 b, .int .i64 m, .int .i64 d, .int .i64 n, .slice A (hitsZ a b m 0 n).length c], .bool true])) w' :=
  ⟨a, b, m, d, n, _, true, _, rfl, h, own_mono ho hb⟩
def stepV (a b m d t : Int) (fs : List Pt) (n : Int) : Int × Int × Int × Int × Int × List Pt × Bool := if tkG a b m d t fs && insB n 0 5000 then (a, b, m, d, min (t + n) (totI m d), hitsZ a b m 0 (min (t + n) (totI m d)), true) else zeroT
def crashV (a b m d t : Int) (fs : List Pt) (e : Int) : Int × Int × Int × Int × Int × List Pt × Bool := if tkG a b m d t fs && insB e 1 5000 then (a, b, m, d, t - t % e, hitsZ a b m 0 (t - t % e), true) else zeroT

theorem skMany_any (n : Int) (w : World) : Calls Try.prog 29 #[.int .i64 n] w fun r w' => r = .returned (.bool (insB n 0 5000)) ∧ w = w' := by
  go_enter Try.func29, Try.ntmps29
  go_wp2_with (go_at_call 40; refine (l1In_any _ _ _ _).mono ?_; rintro r w' ⟨rfl, rfl⟩)
  go_ret
  exact ⟨rfl, rfl⟩
set_option maxRecDepth 20000 in
set_option maxHeartbeats 4000000 in
theorem implStepTask_any (a b m d t : Int) (v : Value) (fs : List Pt) (n : Int) (w : World) (hv : Rd ptS w w.heap.size v fs) :
    Calls Try.prog 6 #[.agg #[.int .i64 a, .int .i64 b, .int .i64 m, .int .i64 d, .int .i64 t, v], .int .i64 n] w fun r w' => TkRet (stepV a b m d t fs n) w.heap.size r w' ∧ Below w.heap.size w w' := by
  have Hb := Lib.hid ((Blk.new w 28 #[.int .i64 a, .int .i64 b, .int .i64 m, .int .i64 d, .int .i64 t, v]).alloc (Obj.cells #[.int .i64 0, .int .i64 0, .int .i64 0, .int .i64 0, .int .i64 0, .slice none 0 0] 28))
  have HR := Lib.hid (Blk.new1 w (Obj.cells #[.int .i64 a, .int .i64 b, .int .i64 m, .int .i64 d, .int .i64 t, v] 28) 28 #[.int .i64 0, .int .i64 0, .int .i64 0, .int .i64 0, .int .i64 0, .slice none 0 0])
  have hb0 := bal (bal (Below.refl w.heap.size w) (Obj.cells #[.int .i64 a, .int .i64 b, .int .i64 m, .int .i64 d, .int .i64 t, v] 28)) (Obj.cells #[.int .i64 0, .int .i64 0, .int .i64 0, .int .i64 0, .int .i64 0, .slice none 0 0] 28)
  have Hrd := Lib.hid (hv.on hb0)
  have HbA := Lib.hid hb0; clear hb0 hv
  have Hsz := Lib.hid (show ((w.alloc (Obj.cells #[.int .i64 a, .int .i64 b, .int .i64 m, .int .i64 d, .int .i64 t, v] 28)).alloc (Obj.cells #[.int .i64 0, .int .i64 0, .int .i64 0, .int .i64 0, .int .i64 0, .slice none 0 0] 28)).heap.size = w.heap.size + 2 by rw [World.size_alloc, World.size_alloc])
  have Hsp := Lib.hid (tkG_spec (a := a) (b := b) (m := m) (d := d) (t := t) (fs := fs))
  go_enter Try.func6, Try.ntmps6
  go_wp2_with fail
  refine (isTask_any _ a b m d t v fs _ Hb.out Hrd.out).mono ?_; rintro r w1 ⟨rfl, hb1⟩
  have HB1 := Lib.hid (Hb.out.on hb1)
  have HR1 := Lib.hid (HR.out.on hb1)
  have q0 := HB1.out.cell 0
  have q1 := HB1.out.cell 1
  have q2 := HB1.out.cell 2
  have q3 := HB1.out.cell 3
  have q4 := HB1.out.cell 4
  have q5 := HB1.out.cell 5
  have ql := HB1.out.lt
  simp at q0 q1 q2 q3 q4 q5
  have r0 := HR1.out.cell 0
  have r1 := HR1.out.cell 1
  have r2 := HR1.out.cell 2
  have r3 := HR1.out.cell 3
  have r4 := HR1.out.cell 4
  have r5 := HR1.out.cell 5
  have rl := HR1.out.lt
  have z0 := HR1.out.frozen 0
  have z1 := HR1.out.frozen 1
  have z2 := HR1.out.frozen 2
  have z3 := HR1.out.frozen 3
  have z4 := HR1.out.frozen 4
  have z5 := HR1.out.frozen 5
  simp at r0 r1 r2 r3 r4 r5
  have Hb01 := Lib.hid (bthen HbA.out hb1)
  have hB1 : w.heap.size + 1 ≤ w1.heap.size := by have := hb1.size; have := Hsz.out; omega
  have hB2 : w.heap.size ≤ w1.heap.size := by omega
  have hB3 : w.heap.size + 2 ≤ w1.heap.size := by have := hb1.size; have := Hsz.out; omega
  clear hb1
  cases hk : tkG a b m d t fs
  · have Hv := Lib.hid (show stepV a b m d t fs n = zeroT by unfold stepV; rw [hk]; rfl)
    clear hk
    go_wp2
    exact bodyPost_ret (v := .tuple #[.agg #[.int .i64 0, .int .i64 0, .int .i64 0, .int .i64 0, .int .i64 0, .slice none 0 0], .bool false]) (by simp [results, Try.results6, go_sem, r0, r1, r2, r3, r4, r5]) rfl ⟨TkRet.zero Hv.out, (by repeat (first | (with_reducible exact Hb01.out) | (with_reducible refine Below.drew ?_) | (with_reducible refine bst ?_ (by exact Nat.le_succ _) _)))⟩
  · have Hs := Lib.hid (Hsp.out hk)
    have Hk := Lib.hid hk; clear hk
    obtain ⟨t1, t2⟩ := Hs.out.2.1
    obtain ⟨t3, t4⟩ := Hs.out.2.2.2
    go_wp2_with fail
    refine (inside_any _ _ _ _).mono ?_; rintro r w2 ⟨rfl, rfl⟩
    cases hi : insB n 0 5000
    · have Hv := Lib.hid (show stepV a b m d t fs n = zeroT by unfold stepV; rw [Hk.out, hi]; rfl)
      clear hi
      go_wp2
      exact bodyPost_ret (v := .tuple #[.agg #[.int .i64 0, .int .i64 0, .int .i64 0, .int .i64 0, .int .i64 0, .slice none 0 0], .bool false]) (by simp [results, Try.results6, go_sem, r0, r1, r2, r3, r4, r5]) rfl ⟨TkRet.zero Hv.out, (by repeat (first | (with_reducible exact Hb01.out) | (with_reducible refine Below.drew ?_) | (with_reducible refine bst ?_ (by exact Nat.le_succ _) _)))⟩
    · have Hv := Lib.hid (show stepV a b m d t fs n = (a, b, m, d, min (t + n) (totI m d), hitsZ a b m 0 (min (t + n) (totI m d)), true) by unfold stepV; rw [Hk.out, hi]; rfl)
      obtain ⟨n1, n2⟩ := insB_true hi
      have Hw1 := Lib.hid (show IntKind.i64.wrap (t + n) = t + n by rw [IntKind.wrap_i64]; omega)
      clear hi
      by_cases hmn : totI m d < t + n
      · have hmm := Lib.hid (show min (t + n) (totI m d) = totI m d by omega)
        have Hx := Lib.hid (show 0 ≤ totI m d ∧ totI m d ≤ totI m d by first | omega | (have hmn := of_eq_false hmn2; omega))
        have hw1 := Hw1.out
        have HS : Hid (∀ w', Below (w.heap.size + 1) w1 w' → (w'.cell? ⟨w.heap.size, 0, none⟩ = some (.int .i64 a) ∧ w'.cell? ⟨w.heap.size, 1, none⟩ = some (.int .i64 b) ∧ w'.cell? ⟨w.heap.size, 2, none⟩ = some (.int .i64 m) ∧ w'.cell? ⟨w.heap.size, 3, none⟩ = some (.int .i64 d) ∧ w'.cell? ⟨w.heap.size, 4, none⟩ = some (.int .i64 t) ∧ w'.cell? ⟨w.heap.size, 5, none⟩ = some (v) ∧ Below (w.heap.size + 1) w1 w')) := Lib.hid (fun w' hw => ⟨(hw.cell (p := ⟨w.heap.size, 0, none⟩) (Nat.lt_succ_self _)).trans q0, (hw.cell (p := ⟨w.heap.size, 1, none⟩) (Nat.lt_succ_self _)).trans q1, (hw.cell (p := ⟨w.heap.size, 2, none⟩) (Nat.lt_succ_self _)).trans q2, (hw.cell (p := ⟨w.heap.size, 3, none⟩) (Nat.lt_succ_self _)).trans q3, (hw.cell (p := ⟨w.heap.size, 4, none⟩) (Nat.lt_succ_self _)).trans q4, (hw.cell (p := ⟨w.heap.size, 5, none⟩) (Nat.lt_succ_self _)).trans q5, hw⟩)
        have hrefl := Below.refl (w.heap.size + 1) w1
        clear r0 r1 r2 r3 r4 r5 rl z0 z1 z2 z3 z4 z5
        go_wp2
        go_region_held3 (fun w' => w'.cell? ⟨w.heap.size, 0, none⟩ = some (.int .i64 a) ∧ w'.cell? ⟨w.heap.size, 1, none⟩ = some (.int .i64 b) ∧ w'.cell? ⟨w.heap.size, 2, none⟩ = some (.int .i64 m) ∧ w'.cell? ⟨w.heap.size, 3, none⟩ = some (.int .i64 d) ∧ w'.cell? ⟨w.heap.size, 4, none⟩ = some (.int .i64 t) ∧ w'.cell? ⟨w.heap.size, 5, none⟩ = some (v) ∧ Below (w.heap.size + 1) w1 w') (((go_split_ands; refine HS.out _ ?_; repeat (first | (with_reducible assumption) | (with_reducible refine Below.drew ?_) | (with_reducible refine bstB ?_ (by exact Nat.le_refl _) _) | (with_reducible refine bthenB ?_ hB1 (by with_reducible assumption)))))) ((first | (go_at_call 27; (with_reducible refine (tkTotal_any w.heap.size a b m d t v _ (HB1.out.below (B := w.heap.size + 1) (by go_split_ands; with_reducible assumption) (Nat.lt_succ_self _)) Hs.out.1).mono ?_); rintro r w5 ⟨rfl, hb5⟩; have HR5 := Lib.hid (Blk.on (g := w.heap.size + 1) (t := 28) (cs :=  #[.int .i64 0, .int .i64 0, .int .i64 0, .int .i64 0, .int .i64 0, .slice none 0 0]) (by first | (with_reducible exact HR1.out) | (with_reducible exact HR1.out.drew)) hb5)) | (go_at_call 26; (with_reducible refine (doneTo_any w.heap.size a b m d t (totI m d) v _ (HB1.out.below (B := w.heap.size + 1) (by go_split_ands; with_reducible assumption) (Nat.lt_succ_self _)) Hs.out.1 ⟨Hx.out.1, Hx.out.2⟩).mono ?_); rintro r w6 ⟨⟨v6, rfl, ho6⟩, hb6⟩; have hR6 := Blk.on (g := w.heap.size + 1) (t := 28) (cs :=  #[.int .i64 0, .int .i64 0, .int .i64 0, .int .i64 0, .int .i64 0, .slice none 0 0]) (by first | (with_reducible exact HR5.out) | (with_reducible exact HR5.out.drew)) hb6; have s0 := hR6.cell 0; have s1 := hR6.cell 1; have s2 := hR6.cell 2; have s3 := hR6.cell 3; have s4 := hR6.cell 4; have s5 := hR6.cell 5; have sl := hR6.lt; have y0 := hR6.frozen 0; have y1 := hR6.frozen 1; have y2 := hR6.frozen 2; have y3 := hR6.frozen 3; have y4 := hR6.frozen 4; have y5 := hR6.frozen 5; clear hR6; have hz6 := hb6.size; obtain ⟨A6, c6, rfl, -, -, -⟩ := Rd.of_own (S := ptS) ho6 rfl; have Ho6 := Lib.hid ho6; clear ho6)))
        all_goals go_wp2
        all_goals exact bodyPost_ret (v := .tuple #[.agg #[.int .i64 a, .int .i64 b, .int .i64 m, .int .i64 d, .int .i64 (totI m d), .slice A6 (hitsZ a b m 0 (totI m d)).length c6], .bool true]) (by simp [results, Try.results6, go_sem, s0, s1, s2, s3, s4, s5]) rfl ⟨TkRet.mk (by rw [Hv.out]; rw [hmm.out]) (own_far (g := w.heap.size + 1) Ho6.out (by repeat (first | (with_reducible exact grefl _ _) | (with_reducible refine only_cell ?_) | (with_reducible refine only_drew ?_))) (by have hz5 := hb5.size; simp at hz5; simp at hz6 ⊢; omega)) (by have hz5 := hb5.size; simp at hz5; simp at hz6 ⊢; omega), (by refine Below.trans Hb01.out ?_; go_split_ands; repeat (first | (with_reducible exact Below.refl _ _) | (with_reducible refine Below.drew ?_) | (with_reducible refine bstB ?_ (by exact Nat.le_succ _) _) | (with_reducible refine bthenB ?_ hB2 (by with_reducible assumption))))⟩
      · have hmm := Lib.hid (show min (t + n) (totI m d) = t + n by omega)
        have hmn2 : (totI m d < t + n) = False := eq_false hmn
        clear hmn
        have Hx := Lib.hid (show 0 ≤ t + n ∧ t + n ≤ totI m d by first | omega | (have hmn := of_eq_false hmn2; omega))
        have hw1 := Hw1.out
        have HS : Hid (∀ w', Below (w.heap.size + 1) w1 w' → (w'.cell? ⟨w.heap.size, 0, none⟩ = some (.int .i64 a) ∧ w'.cell? ⟨w.heap.size, 1, none⟩ = some (.int .i64 b) ∧ w'.cell? ⟨w.heap.size, 2, none⟩ = some (.int .i64 m) ∧ w'.cell? ⟨w.heap.size, 3, none⟩ = some (.int .i64 d) ∧ w'.cell? ⟨w.heap.size, 4, none⟩ = some (.int .i64 t) ∧ w'.cell? ⟨w.heap.size, 5, none⟩ = some (v) ∧ Below (w.heap.size + 1) w1 w')) := Lib.hid (fun w' hw => ⟨(hw.cell (p := ⟨w.heap.size, 0, none⟩) (Nat.lt_succ_self _)).trans q0, (hw.cell (p := ⟨w.heap.size, 1, none⟩) (Nat.lt_succ_self _)).trans q1, (hw.cell (p := ⟨w.heap.size, 2, none⟩) (Nat.lt_succ_self _)).trans q2, (hw.cell (p := ⟨w.heap.size, 3, none⟩) (Nat.lt_succ_self _)).trans q3, (hw.cell (p := ⟨w.heap.size, 4, none⟩) (Nat.lt_succ_self _)).trans q4, (hw.cell (p := ⟨w.heap.size, 5, none⟩) (Nat.lt_succ_self _)).trans q5, hw⟩)
        have hrefl := Below.refl (w.heap.size + 1) w1
        clear r0 r1 r2 r3 r4 r5 rl z0 z1 z2 z3 z4 z5
        go_wp2
        go_region_held3 (fun w' => w'.cell? ⟨w.heap.size, 0, none⟩ = some (.int .i64 a) ∧ w'.cell? ⟨w.heap.size, 1, none⟩ = some (.int .i64 b) ∧ w'.cell? ⟨w.heap.size, 2, none⟩ = some (.int .i64 m) ∧ w'.cell? ⟨w.heap.size, 3, none⟩ = some (.int .i64 d) ∧ w'.cell? ⟨w.heap.size, 4, none⟩ = some (.int .i64 t) ∧ w'.cell? ⟨w.heap.size, 5, none⟩ = some (v) ∧ Below (w.heap.size + 1) w1 w') (((go_split_ands; refine HS.out _ ?_; repeat (first | (with_reducible assumption) | (with_reducible refine Below.drew ?_) | (with_reducible refine bstB ?_ (by exact Nat.le_refl _) _) | (with_reducible refine bthenB ?_ hB1 (by with_reducible assumption)))))) ((first | (go_at_call 27; (with_reducible refine (tkTotal_any w.heap.size a b m d t v _ (HB1.out.below (B := w.heap.size + 1) (by go_split_ands; with_reducible assumption) (Nat.lt_succ_self _)) Hs.out.1).mono ?_); rintro r w5 ⟨rfl, hb5⟩; have HR5 := Lib.hid (Blk.on (g := w.heap.size + 1) (t := 28) (cs :=  #[.int .i64 0, .int .i64 0, .int .i64 0, .int .i64 0, .int .i64 0, .slice none 0 0]) (by first | (with_reducible exact HR1.out) | (with_reducible exact HR1.out.drew)) hb5)) | (go_at_call 26; (with_reducible refine (doneTo_any w.heap.size a b m d t (t + n) v _ (HB1.out.below (B := w.heap.size + 1) (by go_split_ands; with_reducible assumption) (Nat.lt_succ_self _)) Hs.out.1 ⟨Hx.out.1, Hx.out.2⟩).mono ?_); rintro r w6 ⟨⟨v6, rfl, ho6⟩, hb6⟩; have hR6 := Blk.on (g := w.heap.size + 1) (t := 28) (cs :=  #[.int .i64 0, .int .i64 0, .int .i64 0, .int .i64 0, .int .i64 0, .slice none 0 0]) (by first | (with_reducible exact HR5.out) | (with_reducible exact HR5.out.drew)) hb6; have s0 := hR6.cell 0; have s1 := hR6.cell 1; have s2 := hR6.cell 2; have s3 := hR6.cell 3; have s4 := hR6.cell 4; have s5 := hR6.cell 5; have sl := hR6.lt; have y0 := hR6.frozen 0; have y1 := hR6.frozen 1; have y2 := hR6.frozen 2; have y3 := hR6.frozen 3; have y4 := hR6.frozen 4; have y5 := hR6.frozen 5; clear hR6; have hz6 := hb6.size; obtain ⟨A6, c6, rfl, -, -, -⟩ := Rd.of_own (S := ptS) ho6 rfl; have Ho6 := Lib.hid ho6; clear ho6)))
        all_goals go_wp2
        all_goals exact bodyPost_ret (v := .tuple #[.agg #[.int .i64 a, .int .i64 b, .int .i64 m, .int .i64 d, .int .i64 (t + n), .slice A6 (hitsZ a b m 0 (t + n)).length c6], .bool true]) (by simp [results, Try.results6, go_sem, s0, s1, s2, s3, s4, s5]) rfl ⟨TkRet.mk (by rw [Hv.out]; rw [hmm.out]) (own_far (g := w.heap.size + 1) Ho6.out (by repeat (first | (with_reducible exact grefl _ _) | (with_reducible refine only_cell ?_) | (with_reducible refine only_drew ?_))) (by have hz5 := hb5.size; simp at hz5; simp at hz6 ⊢; omega)) (by have hz5 := hb5.size; simp at hz5; simp at hz6 ⊢; omega), (by refine Below.trans Hb01.out ?_; go_split_ands; repeat (first | (with_reducible exact Below.refl _ _) | (with_reducible refine Below.drew ?_) | (with_reducible refine bstB ?_ (by exact Nat.le_succ _) _) | (with_reducible refine bthenB ?_ hB2 (by with_reducible assumption))))⟩
set_option maxRecDepth 20000 in
set_option maxHeartbeats 4000000 in
theorem implCrashTask_any (a b m d t : Int) (v : Value) (fs : List Pt) (n : Int) (w : World) (hv : Rd ptS w w.heap.size v fs) :
    Calls Try.prog 16 #[.agg #[.int .i64 a, .int .i64 b, .int .i64 m, .int .i64 d, .int .i64 t, v], .int .i64 n] w fun r w' => TkRet (crashV a b m d t fs n) w.heap.size r w' ∧ Below w.heap.size w w' := by
  have Hb := Lib.hid ((Blk.new w 28 #[.int .i64 a, .int .i64 b, .int .i64 m, .int .i64 d, .int .i64 t, v]).alloc (Obj.cells #[.int .i64 0, .int .i64 0, .int .i64 0, .int .i64 0, .int .i64 0, .slice none 0 0] 28))
  have HR := Lib.hid (Blk.new1 w (Obj.cells #[.int .i64 a, .int .i64 b, .int .i64 m, .int .i64 d, .int .i64 t, v] 28) 28 #[.int .i64 0, .int .i64 0, .int .i64 0, .int .i64 0, .int .i64 0, .slice none 0 0])
  have hb0 := bal (bal (Below.refl w.heap.size w) (Obj.cells #[.int .i64 a, .int .i64 b, .int .i64 m, .int .i64 d, .int .i64 t, v] 28)) (Obj.cells #[.int .i64 0, .int .i64 0, .int .i64 0, .int .i64 0, .int .i64 0, .slice none 0 0] 28)
  have Hrd := Lib.hid (hv.on hb0)
  have HbA := Lib.hid hb0; clear hb0 hv
  have Hsz := Lib.hid (show ((w.alloc (Obj.cells #[.int .i64 a, .int .i64 b, .int .i64 m, .int .i64 d, .int .i64 t, v] 28)).alloc (Obj.cells #[.int .i64 0, .int .i64 0, .int .i64 0, .int .i64 0, .int .i64 0, .slice none 0 0] 28)).heap.size = w.heap.size + 2 by rw [World.size_alloc, World.size_alloc])
  have Hsp := Lib.hid (tkG_spec (a := a) (b := b) (m := m) (d := d) (t := t) (fs := fs))
  go_enter Try.func16, Try.ntmps16
  go_wp2_with fail
  refine (isTask_any _ a b m d t v fs _ Hb.out Hrd.out).mono ?_; rintro r w1 ⟨rfl, hb1⟩
  have HB1 := Lib.hid (Hb.out.on hb1)
  have HR1 := Lib.hid (HR.out.on hb1)
  have q0 := HB1.out.cell 0
  have q1 := HB1.out.cell 1
  have q2 := HB1.out.cell 2
  have q3 := HB1.out.cell 3
  have q4 := HB1.out.cell 4
  have q5 := HB1.out.cell 5
  have ql := HB1.out.lt
  simp at q0 q1 q2 q3 q4 q5
  have r0 := HR1.out.cell 0
  have r1 := HR1.out.cell 1
  have r2 := HR1.out.cell 2
  have r3 := HR1.out.cell 3
  have r4 := HR1.out.cell 4
  have r5 := HR1.out.cell 5
  have rl := HR1.out.lt
  have z0 := HR1.out.frozen 0
  have z1 := HR1.out.frozen 1
  have z2 := HR1.out.frozen 2
  have z3 := HR1.out.frozen 3
  have z4 := HR1.out.frozen 4
  have z5 := HR1.out.frozen 5
  simp at r0 r1 r2 r3 r4 r5
  have Hb01 := Lib.hid (bthen HbA.out hb1)
  have hB1 : w.heap.size + 1 ≤ w1.heap.size := by have := hb1.size; have := Hsz.out; omega
  have hB2 : w.heap.size ≤ w1.heap.size := by omega
  have hB3 : w.heap.size + 2 ≤ w1.heap.size := by have := hb1.size; have := Hsz.out; omega
  clear hb1
  cases hk : tkG a b m d t fs
  · have Hv := Lib.hid (show crashV a b m d t fs n = zeroT by unfold crashV; rw [hk]; rfl)
    clear hk
    go_wp2
    exact bodyPost_ret (v := .tuple #[.agg #[.int .i64 0, .int .i64 0, .int .i64 0, .int .i64 0, .int .i64 0, .slice none 0 0], .bool false]) (by simp [results, Try.results16, go_sem, r0, r1, r2, r3, r4, r5]) rfl ⟨TkRet.zero Hv.out, (by repeat (first | (with_reducible exact Hb01.out) | (with_reducible refine Below.drew ?_) | (with_reducible refine bst ?_ (by exact Nat.le_succ _) _)))⟩
  · have Hs := Lib.hid (Hsp.out hk)
    have Hk := Lib.hid hk; clear hk
    obtain ⟨t1, t2⟩ := Hs.out.2.1
    obtain ⟨t3, t4⟩ := Hs.out.2.2.2
    go_wp2_with fail
    refine (inside_any _ _ _ _).mono ?_; rintro r w2 ⟨rfl, rfl⟩
    cases hi : insB n 1 5000
    · have Hv := Lib.hid (show crashV a b m d t fs n = zeroT by unfold crashV; rw [Hk.out, hi]; rfl)
      clear hi
      go_wp2
      exact bodyPost_ret (v := .tuple #[.agg #[.int .i64 0, .int .i64 0, .int .i64 0, .int .i64 0, .int .i64 0, .slice none 0 0], .bool false]) (by simp [results, Try.results16, go_sem, r0, r1, r2, r3, r4, r5]) rfl ⟨TkRet.zero Hv.out, (by repeat (first | (with_reducible exact Hb01.out) | (with_reducible refine Below.drew ?_) | (with_reducible refine bst ?_ (by exact Nat.le_succ _) _)))⟩
    · have Hv := Lib.hid (show crashV a b m d t fs n = (a, b, m, d, t - t % n, hitsZ a b m 0 (t - t % n), true) by unfold crashV; rw [Hk.out, hi]; rfl)
      have p1 := Int.emod_nonneg t (show n ≠ 0 by have := insB_true hi; omega)
      have p2 : t % n ≤ t := by
        have h2 := insB_true hi
        rcases Int.lt_or_le t n with h | h
        · rw [Int.emod_eq_of_lt t1 h]; omega
        · have := Int.emod_lt_of_pos t (show 0 < n by omega); omega
      obtain ⟨n1, n2⟩ := insB_true hi
      have Hw1 := Lib.hid (show IntKind.i64.wrap (t - t % n) = t - t % n by rw [IntKind.wrap_i64]; omega)
      have hn0 : n ≠ 0 := by omega
      clear hi
      have Hx := Lib.hid (show 0 ≤ t - t % n ∧ t - t % n ≤ totI m d by first | omega | (have hmn := of_eq_false hmn2; omega))
      have hw1 := Hw1.out
      have hrem : t.tmod n = t % n := Int.tmod_eq_emod_of_nonneg t1
      have HS : Hid (∀ w', Below (w.heap.size + 1) w1 w' → (w'.cell? ⟨w.heap.size, 0, none⟩ = some (.int .i64 a) ∧ w'.cell? ⟨w.heap.size, 1, none⟩ = some (.int .i64 b) ∧ w'.cell? ⟨w.heap.size, 2, none⟩ = some (.int .i64 m) ∧ w'.cell? ⟨w.heap.size, 3, none⟩ = some (.int .i64 d) ∧ w'.cell? ⟨w.heap.size, 4, none⟩ = some (.int .i64 t) ∧ w'.cell? ⟨w.heap.size, 5, none⟩ = some (v) ∧ Below (w.heap.size + 1) w1 w')) := Lib.hid (fun w' hw => ⟨(hw.cell (p := ⟨w.heap.size, 0, none⟩) (Nat.lt_succ_self _)).trans q0, (hw.cell (p := ⟨w.heap.size, 1, none⟩) (Nat.lt_succ_self _)).trans q1, (hw.cell (p := ⟨w.heap.size, 2, none⟩) (Nat.lt_succ_self _)).trans q2, (hw.cell (p := ⟨w.heap.size, 3, none⟩) (Nat.lt_succ_self _)).trans q3, (hw.cell (p := ⟨w.heap.size, 4, none⟩) (Nat.lt_succ_self _)).trans q4, (hw.cell (p := ⟨w.heap.size, 5, none⟩) (Nat.lt_succ_self _)).trans q5, hw⟩)
      have hrefl := Below.refl (w.heap.size + 1) w1
      clear r0 r1 r2 r3 r4 r5 rl z0 z1 z2 z3 z4 z5
      go_wp2
      go_region_held3 (fun w' => w'.cell? ⟨w.heap.size, 0, none⟩ = some (.int .i64 a) ∧ w'.cell? ⟨w.heap.size, 1, none⟩ = some (.int .i64 b) ∧ w'.cell? ⟨w.heap.size, 2, none⟩ = some (.int .i64 m) ∧ w'.cell? ⟨w.heap.size, 3, none⟩ = some (.int .i64 d) ∧ w'.cell? ⟨w.heap.size, 4, none⟩ = some (.int .i64 t) ∧ w'.cell? ⟨w.heap.size, 5, none⟩ = some (v) ∧ Below (w.heap.size + 1) w1 w') (((go_split_ands; refine HS.out _ ?_; repeat (first | (with_reducible assumption) | (with_reducible refine Below.drew ?_) | (with_reducible refine bstB ?_ (by exact Nat.le_refl _) _) | (with_reducible refine bthenB ?_ hB1 (by with_reducible assumption)))))) ((first | (go_at_call 26; (with_reducible refine (doneTo_any w.heap.size a b m d t (t - t % n) v _ (HB1.out.below (B := w.heap.size + 1) (by go_split_ands; with_reducible assumption) (Nat.lt_succ_self _)) Hs.out.1 ⟨Hx.out.1, Hx.out.2⟩).mono ?_); rintro r w6 ⟨⟨v6, rfl, ho6⟩, hb6⟩; have hR6 := Blk.on (g := w.heap.size + 1) (t := 28) (cs :=  #[.int .i64 0, .int .i64 0, .int .i64 0, .int .i64 0, .int .i64 0, .slice none 0 0]) (by first | (with_reducible exact HR1.out) | (with_reducible exact HR1.out.drew)) hb6; have s0 := hR6.cell 0; have s1 := hR6.cell 1; have s2 := hR6.cell 2; have s3 := hR6.cell 3; have s4 := hR6.cell 4; have s5 := hR6.cell 5; have sl := hR6.lt; have y0 := hR6.frozen 0; have y1 := hR6.frozen 1; have y2 := hR6.frozen 2; have y3 := hR6.frozen 3; have y4 := hR6.frozen 4; have y5 := hR6.frozen 5; clear hR6; have hz6 := hb6.size; obtain ⟨A6, c6, rfl, -, -, -⟩ := Rd.of_own (S := ptS) ho6 rfl; have Ho6 := Lib.hid ho6; clear ho6)))
      all_goals go_wp2
      all_goals exact bodyPost_ret (v := .tuple #[.agg #[.int .i64 a, .int .i64 b, .int .i64 m, .int .i64 d, .int .i64 (t - t % n), .slice A6 (hitsZ a b m 0 (t - t % n)).length c6], .bool true]) (by simp [results, Try.results16, go_sem, s0, s1, s2, s3, s4, s5]) rfl ⟨TkRet.mk (by rw [Hv.out]) (own_far (g := w.heap.size + 1) Ho6.out (by repeat (first | (with_reducible exact grefl _ _) | (with_reducible refine only_cell ?_) | (with_reducible refine only_drew ?_))) (by simp at hz6 ⊢; omega)) (by simp at hz6 ⊢; omega), (by refine Below.trans Hb01.out ?_; go_split_ands; repeat (first | (with_reducible exact Below.refl _ _) | (with_reducible refine Below.drew ?_) | (with_reducible refine bstB ?_ (by exact Nat.le_succ _) _) | (with_reducible refine bthenB ?_ hB2 (by with_reducible assumption))))⟩
set_option maxRecDepth 20000 in
set_option maxHeartbeats 4000000 in
theorem specStepTask_any (a b m d t : Int) (v : Value) (fs : List Pt) (n : Int) (w : World) (hv : Rd ptS w w.heap.size v fs) :
    Calls Try.prog 7 #[.agg #[.int .i64 a, .int .i64 b, .int .i64 m, .int .i64 d, .int .i64 t, v], .int .i64 n] w fun r w' => TkRet (stepV a b m d t fs n) w.heap.size r w' ∧ Below w.heap.size w w' := by
  have Hb := Lib.hid ((Blk.new w 28 #[.int .i64 a, .int .i64 b, .int .i64 m, .int .i64 d, .int .i64 t, v]).alloc (Obj.cells #[.int .i64 0, .int .i64 0, .int .i64 0, .int .i64 0, .int .i64 0, .slice none 0 0] 28))
  have HR := Lib.hid (Blk.new1 w (Obj.cells #[.int .i64 a, .int .i64 b, .int .i64 m, .int .i64 d, .int .i64 t, v] 28) 28 #[.int .i64 0, .int .i64 0, .int .i64 0, .int .i64 0, .int .i64 0, .slice none 0 0])
  have hb0 := bal (bal (Below.refl w.heap.size w) (Obj.cells #[.int .i64 a, .int .i64 b, .int .i64 m, .int .i64 d, .int .i64 t, v] 28)) (Obj.cells #[.int .i64 0, .int .i64 0, .int .i64 0, .int .i64 0, .int .i64 0, .slice none 0 0] 28)
  have Hrd := Lib.hid (hv.on hb0)
  have HbA := Lib.hid hb0; clear hb0 hv
  have Hsz := Lib.hid (show ((w.alloc (Obj.cells #[.int .i64 a, .int .i64 b, .int .i64 m, .int .i64 d, .int .i64 t, v] 28)).alloc (Obj.cells #[.int .i64 0, .int .i64 0, .int .i64 0, .int .i64 0, .int .i64 0, .slice none 0 0] 28)).heap.size = w.heap.size + 2 by rw [World.size_alloc, World.size_alloc])
  have Hsp := Lib.hid (tkG_spec (a := a) (b := b) (m := m) (d := d) (t := t) (fs := fs))
  go_enter Try.func7, Try.ntmps7
  go_wp2_with fail
  refine (skGood_any a b m d t v fs _ Hrd.out).mono ?_; rintro r w1 ⟨rfl, hb1⟩
  have HB1 := Lib.hid (Hb.out.on hb1)
  have HR1 := Lib.hid (HR.out.on hb1)
  have q0 := HB1.out.cell 0
  have q1 := HB1.out.cell 1
  have q2 := HB1.out.cell 2
  have q3 := HB1.out.cell 3
  have q4 := HB1.out.cell 4
  have q5 := HB1.out.cell 5
  have ql := HB1.out.lt
  simp at q0 q1 q2 q3 q4 q5
  have r0 := HR1.out.cell 0
  have r1 := HR1.out.cell 1
  have r2 := HR1.out.cell 2
  have r3 := HR1.out.cell 3
  have r4 := HR1.out.cell 4
  have r5 := HR1.out.cell 5
  have rl := HR1.out.lt
  have z0 := HR1.out.frozen 0
  have z1 := HR1.out.frozen 1
  have z2 := HR1.out.frozen 2
  have z3 := HR1.out.frozen 3
  have z4 := HR1.out.frozen 4
  have z5 := HR1.out.frozen 5
  simp at r0 r1 r2 r3 r4 r5
  have Hb01 := Lib.hid (bthen HbA.out hb1)
  have hB1 : w.heap.size + 1 ≤ w1.heap.size := by have := hb1.size; have := Hsz.out; omega
  have hB2 : w.heap.size ≤ w1.heap.size := by omega
  have hB3 : w.heap.size + 2 ≤ w1.heap.size := by have := hb1.size; have := Hsz.out; omega
  clear hb1
  cases hk : tkG a b m d t fs
  · have Hv := Lib.hid (show stepV a b m d t fs n = zeroT by unfold stepV; rw [hk]; rfl)
    clear hk
    go_wp2
    exact bodyPost_ret (v := .tuple #[.agg #[.int .i64 0, .int .i64 0, .int .i64 0, .int .i64 0, .int .i64 0, .slice none 0 0], .bool false]) (by simp [results, Try.results7, go_sem, r0, r1, r2, r3, r4, r5]) rfl ⟨TkRet.zero Hv.out, (by repeat (first | (with_reducible exact Hb01.out) | (with_reducible refine Below.drew ?_) | (with_reducible refine bst ?_ (by exact Nat.le_succ _) _)))⟩
  · have Hs := Lib.hid (Hsp.out hk)
    have Hk := Lib.hid hk; clear hk
    obtain ⟨t1, t2⟩ := Hs.out.2.1
    obtain ⟨t3, t4⟩ := Hs.out.2.2.2
    go_wp2_with fail
    refine (skMany_any _ _).mono ?_; rintro r w2 ⟨rfl, rfl⟩
    cases hi : insB n 0 5000
    · have Hv := Lib.hid (show stepV a b m d t fs n = zeroT by unfold stepV; rw [Hk.out, hi]; rfl)
      clear hi
      go_wp2
      exact bodyPost_ret (v := .tuple #[.agg #[.int .i64 0, .int .i64 0, .int .i64 0, .int .i64 0, .int .i64 0, .slice none 0 0], .bool false]) (by simp [results, Try.results7, go_sem, r0, r1, r2, r3, r4, r5]) rfl ⟨TkRet.zero Hv.out, (by repeat (first | (with_reducible exact Hb01.out) | (with_reducible refine Below.drew ?_) | (with_reducible refine bst ?_ (by exact Nat.le_succ _) _)))⟩
    · have Hv := Lib.hid (show stepV a b m d t fs n = (a, b, m, d, min (t + n) (totI m d), hitsZ a b m 0 (min (t + n) (totI m d)), true) by unfold stepV; rw [Hk.out, hi]; rfl)
      obtain ⟨n1, n2⟩ := insB_true hi
      have Hw1 := Lib.hid (show IntKind.i64.wrap (t + n) = t + n by rw [IntKind.wrap_i64]; omega)
      clear hi
      have Hx := Lib.hid (show 0 ≤ min (totI m d) (t + n) ∧ min (totI m d) (t + n) ≤ totI m d by first | omega | (have hmn := of_eq_false hmn2; omega))
      have hw1 := Hw1.out
      have HS : Hid (∀ w', Below (w.heap.size + 1) w1 w' → (w'.cell? ⟨w.heap.size, 0, none⟩ = some (.int .i64 a) ∧ w'.cell? ⟨w.heap.size, 1, none⟩ = some (.int .i64 b) ∧ w'.cell? ⟨w.heap.size, 2, none⟩ = some (.int .i64 m) ∧ w'.cell? ⟨w.heap.size, 3, none⟩ = some (.int .i64 d) ∧ w'.cell? ⟨w.heap.size, 4, none⟩ = some (.int .i64 t) ∧ w'.cell? ⟨w.heap.size, 5, none⟩ = some (v) ∧ Below (w.heap.size + 1) w1 w')) := Lib.hid (fun w' hw => ⟨(hw.cell (p := ⟨w.heap.size, 0, none⟩) (Nat.lt_succ_self _)).trans q0, (hw.cell (p := ⟨w.heap.size, 1, none⟩) (Nat.lt_succ_self _)).trans q1, (hw.cell (p := ⟨w.heap.size, 2, none⟩) (Nat.lt_succ_self _)).trans q2, (hw.cell (p := ⟨w.heap.size, 3, none⟩) (Nat.lt_succ_self _)).trans q3, (hw.cell (p := ⟨w.heap.size, 4, none⟩) (Nat.lt_succ_self _)).trans q4, (hw.cell (p := ⟨w.heap.size, 5, none⟩) (Nat.lt_succ_self _)).trans q5, hw⟩)
      have hrefl := Below.refl (w.heap.size + 1) w1
      clear r0 r1 r2 r3 r4 r5 rl z0 z1 z2 z3 z4 z5
      go_wp2
      go_region_held3 (fun w' => w'.cell? ⟨w.heap.size, 0, none⟩ = some (.int .i64 a) ∧ w'.cell? ⟨w.heap.size, 1, none⟩ = some (.int .i64 b) ∧ w'.cell? ⟨w.heap.size, 2, none⟩ = some (.int .i64 m) ∧ w'.cell? ⟨w.heap.size, 3, none⟩ = some (.int .i64 d) ∧ w'.cell? ⟨w.heap.size, 4, none⟩ = some (.int .i64 t) ∧ w'.cell? ⟨w.heap.size, 5, none⟩ = some (v) ∧ Below (w.heap.size + 1) w1 w') (((go_split_ands; refine HS.out _ ?_; repeat (first | (with_reducible assumption) | (with_reducible refine Below.drew ?_) | (with_reducible refine bstB ?_ (by exact Nat.le_refl _) _) | (with_reducible refine bthenB ?_ hB1 (by with_reducible assumption)))))) ((first | (go_at_call 32; (with_reducible refine (skCount_any a b m d t v _ Hs.out.1).mono ?_); rintro r w5 ⟨rfl, hb5⟩; have HR5 := Lib.hid (Blk.on (g := w.heap.size + 1) (t := 28) (cs :=  #[.int .i64 0, .int .i64 0, .int .i64 0, .int .i64 0, .int .i64 0, .slice none 0 0]) (by first | (with_reducible exact HR1.out) | (with_reducible exact HR1.out.drew)) hb5)) | (go_at_call 31; refine (l1Least_any _ _ _).mono ?_; rintro r w7 ⟨rfl, rfl⟩) | (go_at_call 30; (with_reducible refine (skAt_any a b m d t (min (totI m d) (t + n)) v _ Hs.out.1 ⟨Hx.out.1, Hx.out.2⟩).mono ?_); rintro r w6 ⟨⟨v6, rfl, ho6⟩, hb6⟩; have hR6 := Blk.on (g := w.heap.size + 1) (t := 28) (cs :=  #[.int .i64 0, .int .i64 0, .int .i64 0, .int .i64 0, .int .i64 0, .slice none 0 0]) (by first | (with_reducible exact HR5.out) | (with_reducible exact HR5.out.drew)) hb6; have s0 := hR6.cell 0; have s1 := hR6.cell 1; have s2 := hR6.cell 2; have s3 := hR6.cell 3; have s4 := hR6.cell 4; have s5 := hR6.cell 5; have sl := hR6.lt; have y0 := hR6.frozen 0; have y1 := hR6.frozen 1; have y2 := hR6.frozen 2; have y3 := hR6.frozen 3; have y4 := hR6.frozen 4; have y5 := hR6.frozen 5; clear hR6; have hz6 := hb6.size; obtain ⟨A6, c6, rfl, -, -, -⟩ := Rd.of_own (S := ptS) ho6 rfl; have Ho6 := Lib.hid ho6; clear ho6)))
      all_goals go_wp2
      all_goals exact bodyPost_ret (v := .tuple #[.agg #[.int .i64 a, .int .i64 b, .int .i64 m, .int .i64 d, .int .i64 (min (totI m d) (t + n)), .slice A6 (hitsZ a b m 0 (min (totI m d) (t + n))).length c6], .bool true]) (by simp [results, Try.results7, go_sem, s0, s1, s2, s3, s4, s5]) rfl ⟨TkRet.mk (by rw [Hv.out]; rw [Int.min_comm (totI m d) (t + n)]) (own_far (g := w.heap.size + 1) Ho6.out (by repeat (first | (with_reducible exact grefl _ _) | (with_reducible refine only_cell ?_) | (with_reducible refine only_drew ?_))) (by have hz5 := hb5.size; simp at hz5; simp at hz6 ⊢; omega)) (by have hz5 := hb5.size; simp at hz5; simp at hz6 ⊢; omega), (by refine Below.trans Hb01.out ?_; go_split_ands; repeat (first | (with_reducible exact Below.refl _ _) | (with_reducible refine Below.drew ?_) | (with_reducible refine bstB ?_ (by exact Nat.le_succ _) _) | (with_reducible refine bthenB ?_ hB2 (by with_reducible assumption))))⟩
set_option maxRecDepth 20000 in
set_option maxHeartbeats 4000000 in
theorem specCrashTask_any (a b m d t : Int) (v : Value) (fs : List Pt) (n : Int) (w : World) (hv : Rd ptS w w.heap.size v fs) :
    Calls Try.prog 17 #[.agg #[.int .i64 a, .int .i64 b, .int .i64 m, .int .i64 d, .int .i64 t, v], .int .i64 n] w fun r w' => TkRet (crashV a b m d t fs n) w.heap.size r w' ∧ Below w.heap.size w w' := by
  have Hb := Lib.hid ((Blk.new w 28 #[.int .i64 a, .int .i64 b, .int .i64 m, .int .i64 d, .int .i64 t, v]).alloc (Obj.cells #[.int .i64 0, .int .i64 0, .int .i64 0, .int .i64 0, .int .i64 0, .slice none 0 0] 28))
  have HR := Lib.hid (Blk.new1 w (Obj.cells #[.int .i64 a, .int .i64 b, .int .i64 m, .int .i64 d, .int .i64 t, v] 28) 28 #[.int .i64 0, .int .i64 0, .int .i64 0, .int .i64 0, .int .i64 0, .slice none 0 0])
  have hb0 := bal (bal (Below.refl w.heap.size w) (Obj.cells #[.int .i64 a, .int .i64 b, .int .i64 m, .int .i64 d, .int .i64 t, v] 28)) (Obj.cells #[.int .i64 0, .int .i64 0, .int .i64 0, .int .i64 0, .int .i64 0, .slice none 0 0] 28)
  have Hrd := Lib.hid (hv.on hb0)
  have HbA := Lib.hid hb0; clear hb0 hv
  have Hsz := Lib.hid (show ((w.alloc (Obj.cells #[.int .i64 a, .int .i64 b, .int .i64 m, .int .i64 d, .int .i64 t, v] 28)).alloc (Obj.cells #[.int .i64 0, .int .i64 0, .int .i64 0, .int .i64 0, .int .i64 0, .slice none 0 0] 28)).heap.size = w.heap.size + 2 by rw [World.size_alloc, World.size_alloc])
  have Hsp := Lib.hid (tkG_spec (a := a) (b := b) (m := m) (d := d) (t := t) (fs := fs))
  go_enter Try.func17, Try.ntmps17
  go_wp2_with fail
  refine (skGood_any a b m d t v fs _ Hrd.out).mono ?_; rintro r w1 ⟨rfl, hb1⟩
  have HB1 := Lib.hid (Hb.out.on hb1)
  have HR1 := Lib.hid (HR.out.on hb1)
  have q0 := HB1.out.cell 0
  have q1 := HB1.out.cell 1
  have q2 := HB1.out.cell 2
  have q3 := HB1.out.cell 3
  have q4 := HB1.out.cell 4
  have q5 := HB1.out.cell 5
  have ql := HB1.out.lt
  simp at q0 q1 q2 q3 q4 q5
  have r0 := HR1.out.cell 0
  have r1 := HR1.out.cell 1
  have r2 := HR1.out.cell 2
  have r3 := HR1.out.cell 3
  have r4 := HR1.out.cell 4
  have r5 := HR1.out.cell 5
  have rl := HR1.out.lt
  have z0 := HR1.out.frozen 0
  have z1 := HR1.out.frozen 1
  have z2 := HR1.out.frozen 2
  have z3 := HR1.out.frozen 3
  have z4 := HR1.out.frozen 4
  have z5 := HR1.out.frozen 5
  simp at r0 r1 r2 r3 r4 r5
  have Hb01 := Lib.hid (bthen HbA.out hb1)
  have hB1 : w.heap.size + 1 ≤ w1.heap.size := by have := hb1.size; have := Hsz.out; omega
  have hB2 : w.heap.size ≤ w1.heap.size := by omega
  have hB3 : w.heap.size + 2 ≤ w1.heap.size := by have := hb1.size; have := Hsz.out; omega
  clear hb1
  cases hk : tkG a b m d t fs
  · have Hv := Lib.hid (show crashV a b m d t fs n = zeroT by unfold crashV; rw [hk]; rfl)
    clear hk
    go_wp2
    exact bodyPost_ret (v := .tuple #[.agg #[.int .i64 0, .int .i64 0, .int .i64 0, .int .i64 0, .int .i64 0, .slice none 0 0], .bool false]) (by simp [results, Try.results17, go_sem, r0, r1, r2, r3, r4, r5]) rfl ⟨TkRet.zero Hv.out, (by repeat (first | (with_reducible exact Hb01.out) | (with_reducible refine Below.drew ?_) | (with_reducible refine bst ?_ (by exact Nat.le_succ _) _)))⟩
  · have Hs := Lib.hid (Hsp.out hk)
    have Hk := Lib.hid hk; clear hk
    obtain ⟨t1, t2⟩ := Hs.out.2.1
    obtain ⟨t3, t4⟩ := Hs.out.2.2.2
    go_wp2_with fail
    refine (skMany_any _ _).mono ?_; rintro r w2 ⟨rfl, rfl⟩
    cases hi0 : insB n 0 5000
    · have hi : insB n 1 5000 = false := by
        rw [Bool.eq_false_iff]; intro hc
        have := insB_true hc
        rw [insB_mk (by omega) this.2] at hi0; cases hi0
      have Hv := Lib.hid (show crashV a b m d t fs n = zeroT by unfold crashV; rw [Hk.out, hi]; rfl)
      clear hi hi0
      go_wp2
      exact bodyPost_ret (v := .tuple #[.agg #[.int .i64 0, .int .i64 0, .int .i64 0, .int .i64 0, .int .i64 0, .slice none 0 0], .bool false]) (by simp [results, Try.results17, go_sem, r0, r1, r2, r3, r4, r5]) rfl ⟨TkRet.zero Hv.out, (by repeat (first | (with_reducible exact Hb01.out) | (with_reducible refine Below.drew ?_) | (with_reducible refine bst ?_ (by exact Nat.le_succ _) _)))⟩
    · by_cases hn : n = 0
      · subst hn
        have Hv := Lib.hid (show crashV a b m d t fs 0 = zeroT by unfold crashV; rw [show insB 0 1 5000 = false from rfl, Bool.and_false]; rfl)
        clear hi0
        go_wp2
        exact bodyPost_ret (v := .tuple #[.agg #[.int .i64 0, .int .i64 0, .int .i64 0, .int .i64 0, .int .i64 0, .slice none 0 0], .bool false]) (by simp [results, Try.results17, go_sem, r0, r1, r2, r3, r4, r5]) rfl ⟨TkRet.zero Hv.out, (by repeat (first | (with_reducible exact Hb01.out) | (with_reducible refine Below.drew ?_) | (with_reducible refine bst ?_ (by exact Nat.le_succ _) _)))⟩
      · have hi : insB n 1 5000 = true := insB_mk (by have := insB_true hi0; omega) (insB_true hi0).2
        have hne : (n == 0) = false := by simp [hn]
        clear hi0 hn
        have Hv := Lib.hid (show crashV a b m d t fs n = (a, b, m, d, t - t % n, hitsZ a b m 0 (t - t % n), true) by unfold crashV; rw [Hk.out, hi]; rfl)
        have p1 := Int.emod_nonneg t (show n ≠ 0 by have := insB_true hi; omega)
        have p2 : t % n ≤ t := by
          have h2 := insB_true hi
          rcases Int.lt_or_le t n with h | h
          · rw [Int.emod_eq_of_lt t1 h]; omega
          · have := Int.emod_lt_of_pos t (show 0 < n by omega); omega
        obtain ⟨n1, n2⟩ := insB_true hi
        have Hw1 := Lib.hid (show IntKind.i64.wrap (t - t % n) = t - t % n by rw [IntKind.wrap_i64]; omega)
        have hn0 : n ≠ 0 := by omega
        clear hi
        have Hx := Lib.hid (show 0 ≤ t - t % n ∧ t - t % n ≤ totI m d by first | omega | (have hmn := of_eq_false hmn2; omega))
        have hw1 := Hw1.out
        have hrem : t.tmod n = t % n := Int.tmod_eq_emod_of_nonneg t1
        have HS : Hid (∀ w', Below (w.heap.size + 1) w1 w' → (w'.cell? ⟨w.heap.size, 0, none⟩ = some (.int .i64 a) ∧ w'.cell? ⟨w.heap.size, 1, none⟩ = some (.int .i64 b) ∧ w'.cell? ⟨w.heap.size, 2, none⟩ = some (.int .i64 m) ∧ w'.cell? ⟨w.heap.size, 3, none⟩ = some (.int .i64 d) ∧ w'.cell? ⟨w.heap.size, 4, none⟩ = some (.int .i64 t) ∧ w'.cell? ⟨w.heap.size, 5, none⟩ = some (v) ∧ Below (w.heap.size + 1) w1 w')) := Lib.hid (fun w' hw => ⟨(hw.cell (p := ⟨w.heap.size, 0, none⟩) (Nat.lt_succ_self _)).trans q0, (hw.cell (p := ⟨w.heap.size, 1, none⟩) (Nat.lt_succ_self _)).trans q1, (hw.cell (p := ⟨w.heap.size, 2, none⟩) (Nat.lt_succ_self _)).trans q2, (hw.cell (p := ⟨w.heap.size, 3, none⟩) (Nat.lt_succ_self _)).trans q3, (hw.cell (p := ⟨w.heap.size, 4, none⟩) (Nat.lt_succ_self _)).trans q4, (hw.cell (p := ⟨w.heap.size, 5, none⟩) (Nat.lt_succ_self _)).trans q5, hw⟩)
        have hrefl := Below.refl (w.heap.size + 1) w1
        clear r0 r1 r2 r3 r4 r5 rl z0 z1 z2 z3 z4 z5
        go_wp2
        go_region_held3 (fun w' => w'.cell? ⟨w.heap.size, 0, none⟩ = some (.int .i64 a) ∧ w'.cell? ⟨w.heap.size, 1, none⟩ = some (.int .i64 b) ∧ w'.cell? ⟨w.heap.size, 2, none⟩ = some (.int .i64 m) ∧ w'.cell? ⟨w.heap.size, 3, none⟩ = some (.int .i64 d) ∧ w'.cell? ⟨w.heap.size, 4, none⟩ = some (.int .i64 t) ∧ w'.cell? ⟨w.heap.size, 5, none⟩ = some (v) ∧ Below (w.heap.size + 1) w1 w') (((go_split_ands; refine HS.out _ ?_; repeat (first | (with_reducible assumption) | (with_reducible refine Below.drew ?_) | (with_reducible refine bstB ?_ (by exact Nat.le_refl _) _) | (with_reducible refine bthenB ?_ hB1 (by with_reducible assumption)))))) ((first | (go_at_call 30; (with_reducible refine (skAt_any a b m d t (t - t % n) v _ Hs.out.1 ⟨Hx.out.1, Hx.out.2⟩).mono ?_); rintro r w6 ⟨⟨v6, rfl, ho6⟩, hb6⟩; have hR6 := Blk.on (g := w.heap.size + 1) (t := 28) (cs :=  #[.int .i64 0, .int .i64 0, .int .i64 0, .int .i64 0, .int .i64 0, .slice none 0 0]) (by first | (with_reducible exact HR1.out) | (with_reducible exact HR1.out.drew)) hb6; have s0 := hR6.cell 0; have s1 := hR6.cell 1; have s2 := hR6.cell 2; have s3 := hR6.cell 3; have s4 := hR6.cell 4; have s5 := hR6.cell 5; have sl := hR6.lt; have y0 := hR6.frozen 0; have y1 := hR6.frozen 1; have y2 := hR6.frozen 2; have y3 := hR6.frozen 3; have y4 := hR6.frozen 4; have y5 := hR6.frozen 5; clear hR6; have hz6 := hb6.size; obtain ⟨A6, c6, rfl, -, -, -⟩ := Rd.of_own (S := ptS) ho6 rfl; have Ho6 := Lib.hid ho6; clear ho6)))
        all_goals go_wp2
        all_goals exact bodyPost_ret (v := .tuple #[.agg #[.int .i64 a, .int .i64 b, .int .i64 m, .int .i64 d, .int .i64 (t - t % n), .slice A6 (hitsZ a b m 0 (t - t % n)).length c6], .bool true]) (by simp [results, Try.results17, go_sem, s0, s1, s2, s3, s4, s5]) rfl ⟨TkRet.mk (by rw [Hv.out]) (own_far (g := w.heap.size + 1) Ho6.out (by repeat (first | (with_reducible exact grefl _ _) | (with_reducible refine only_cell ?_) | (with_reducible refine only_drew ?_))) (by simp at hz6 ⊢; omega)) (by simp at hz6 ⊢; omega), (by refine Below.trans Hb01.out ?_; go_split_ands; repeat (first | (with_reducible exact Below.refl _ _) | (with_reducible refine Below.drew ?_) | (with_reducible refine bstB ?_ (by exact Nat.le_succ _) _) | (with_reducible refine bthenB ?_ hB2 (by with_reducible assumption))))⟩
theorem hitsZ_len2 {a b m d t : Int} {fs : List Pt} {n : Int} (h : tkG a b m d t fs = true) (hn : n ≤ totI m d) : (hitsZ a b m 0 n).length ≤ 4010 := by
  have h1 := hitsZ_len a b m 0 n
  have h2 := (tkG_spec h).2.2.2
  omega
theorem stepV_len {a b m d t : Int} {fs : List Pt} {n A B M D T : Int} {L : List Pt} {k : Bool} (h : stepV a b m d t fs n = (A, B, M, D, T, L, k)) : L.length ≤ 4010 := by
  unfold stepV at h
  by_cases hg : (tkG a b m d t fs && insB n 0 5000) = true
  · rw [if_pos hg] at h
    simp only [Bool.and_eq_true] at hg
    simp only [Prod.mk.injEq] at h
    rw [← h.2.2.2.2.2.1]
    exact hitsZ_len2 hg.1 (by omega)
  · rw [if_neg hg] at h
    unfold zeroT at h
    simp only [Prod.mk.injEq] at h
    rw [← h.2.2.2.2.2.1]; simp
theorem crashV_len {a b m d t : Int} {fs : List Pt} {n A B M D T : Int} {L : List Pt} {k : Bool} (h : crashV a b m d t fs n = (A, B, M, D, T, L, k)) : L.length ≤ 4010 := by
  unfold crashV at h
  by_cases hg : (tkG a b m d t fs && insB n 1 5000) = true
  · rw [if_pos hg] at h
    simp only [Bool.and_eq_true] at hg
    simp only [Prod.mk.injEq] at h
    rw [← h.2.2.2.2.2.1]
    have h1 := (tkG_spec hg.1).2.1
    have h2 := insB_true hg.2
    exact hitsZ_len2 hg.1 (by have := Int.emod_nonneg t (show n ≠ 0 by omega); omega)
  · rw [if_neg hg] at h
    unfold zeroT at h
    simp only [Prod.mk.injEq] at h
    rw [← h.2.2.2.2.2.1]; simp
theorem runV_len (a b m d t : Int) (fs : List Pt) (f l : Int) : (runV a b m d t fs f l).1.length ≤ 4010 := by
  unfold runV
  split
  · rename_i hg
    simp only [Bool.and_eq_true, decide_eq_true_eq] at hg
    have h1 := hitsZ_len a b m f l
    have h2 := insB_true hg.2.1
    have h3 := (tkG_spec hg.1).2.2.2
    show (hitsZ a b m f l).length ≤ 4010
    omega
  · simp
end Go.Proofs.Ytjnghjgfhlgbiaa
