/- What the draws of curves with neighbours call: a number in a list, an asked neighbour, a curve scaled by two. Conditions: none. -/
import Derived.Test.YtnhgdmhiblpknaaIcM
import Derived.Test.YtnhgdmhiblpknaaNest
import Derived.Test.YtnhgdmhiblpknaaDrw
namespace Go.Proofs.Ytnhgdmhiblpknaa
open Go Go.RowKit

def askB (a b e : Int) : Bool := curveB a b && decide (e ∈ rootsV a b)
def nqV (a b e : Int) : Option Cu := if askB a b e = true then nbV a b e else none
theorem hasNo {es : List Int} {x : Int} (h : ∀ j, j < es.length → ¬ inS.get es j = x) : decide (x ∈ es) = false := by
  refine decide_eq_false (fun hm => ?_)
  obtain ⟨j, hj, e⟩ := List.getElem_of_mem hm
  exact h j hj (by show (es.getD j 0) = x; rw [List.getD_eq_getElem?_getD, List.getElem?_eq_getElem hj]; exact e)
theorem hasYes {es : List Int} {x : Int} {j : Nat} (hj : j < es.length) (h : inS.get es j = x) : decide (x ∈ es) = true := by
  refine decide_eq_true ?_
  have e : inS.get es j = es[j] := by show (es.getD j 0) = _; rw [List.getD_eq_getElem?_getD, List.getElem?_eq_getElem hj]; rfl
  rw [← h, e]; exact List.getElem_mem hj
set_option maxHeartbeats 1600000 in
theorem l1Has_any (v : Value) (es : List Int) (x : Int) (w : World) (h : Rd inS w w.heap.size v es) :
    Calls Try.prog 95 #[v, .int .i64 x] w fun r w' => r = .returned (.bool (decide (x ∈ es))) ∧ Below w.heap.size w w' := by
  obtain ⟨A, c, rfl, hcc, hm, hA⟩ := h
  unfold maxLen at hm
  go_enter Try.func95, Try.ntmps95
  go_wp2
  go_loopw [9] (fun i wr => ∃ k : Nat, k ≤ es.length ∧ i = .int .i64 k ∧ Hid (∀ j, j < k → ¬ inS.get es j = x) ∧ Hid (Below w.heap.size w wr)) (fun i _ => es.length - (intOf i).toNat)
  case atStart => exact ⟨0, Nat.zero_le _, rfl, Lib.hid (fun j hj => absurd hj (Nat.not_lt_zero _)), Lib.hid (Below.refl _ _)⟩
  case round =>
    obtain ⟨k, hk, rfl, Hno, Hb⟩ := hrel
    by_cases hlt : k < es.length
    · obtain ⟨g, off, rfl, hg, hcell⟩ := hA (by omega)
      have f0 := in_cells hcell k hlt
      clear hcell hA
      rw [← Hb.out.cell (p := ⟨_, _, _⟩) hg] at f0
      have hgr : g < wr.heap.size := Nat.lt_of_lt_of_le hg Hb.out.size
      have hi0 : (0 : Int) ≤ (k : Int) := by omega
      have hi1 : (k : Int) < (es.length : Int) := by omega
      have Hy := Lib.hid (fun (h : inS.get es k = x) => hasYes hlt h)
      have Hn := Lib.hid (fun (h : ¬ inS.get es k = x) => all_lt_succ (p := fun j => ¬ inS.get es j = x) Hno.out h)
      obtain ⟨y, hy⟩ : ∃ y, inS.get es k = y := ⟨_, rfl⟩
      rw [hy] at f0 Hy Hn
      clear hy
      by_cases hq : y = x
      · have hd : (y == x) = true := by rw [hq]; simp
        have Hfin := Lib.hid (Hy.out hq)
        clear hq Hy Hn
        go_wp2
        go_ret
        exact ⟨by rw [Hfin.out]; rfl, Hb.out⟩
      · have hd : (y == x) = false := by simp [hq]
        have Hst := Lib.hid (Hn.out hq)
        clear hq Hy Hn
        go_wp2
        go_roundw
        case rel => exact ⟨k + 1, by omega, by go_num, Hst, Hb⟩
        case measure => simp [intOf]; omega
    · have Hfin := Lib.hid (hasNo (fun j hj => Hno.out j (by omega)))
      go_wp2
      go_ret
      exact ⟨by rw [Hfin.out]; rfl, Hb.out⟩
set_option maxRecDepth 8000 in
set_option maxHeartbeats 4000000 in
theorem asked_any (a b e : Int) (w : World) :
    Calls Try.prog 78 #[.agg #[.int .i64 a, .int .i64 b], .int .i64 e] w fun r w' => r = .returned (.bool (askB a b e)) ∧ Below w.heap.size w w' := by
  have HB := Lib.hid (Blk.new w 37 #[.int .i64 a, .int .i64 b])
  cases h1 : curveB a b
  · have Hf := Lib.hid (show askB a b e = false by unfold askB; rw [h1]; rfl)
    go_enter Try.func78, Try.ntmps78
    go_wp2_with fail
    refine (cvS_lit h1 _).mono ?_; rintro r w1 ⟨rfl, hb1⟩
    have Hb1 := Lib.hid (bthen (bal (Below.refl _ _) _) hb1); clear hb1
    go_wp2
    go_ret
    exact ⟨by rw [Hf.out]; rfl, Hb1.out⟩
  · have Hf := Lib.hid (show askB a b e = decide (e ∈ rootsV a b) by unfold askB; rw [h1]; rfl)
    go_enter Try.func78, Try.ntmps78
    go_wp2_with fail
    refine (cvS_lit h1 _).mono ?_; rintro r w1 ⟨rfl, hb1⟩
    have Hb1 := Lib.hid (bthen (bal (Below.refl _ _) _) hb1)
    have HB1 := Lib.hid (HB.out.on hb1); clear hb1
    have q0 : w1.cell? ⟨w.heap.size, 0, none⟩ = some (.int .i64 a) := HB1.out.cell 0
    have q1 : w1.cell? ⟨w.heap.size, 1, none⟩ = some (.int .i64 b) := HB1.out.cell 1
    have ql := HB1.out.lt
    go_wp2_with fail
    refine (ecRoots_any a b _ h1).mono ?_; rintro r w2 ⟨⟨v, rfl, hown⟩, hb2⟩
    have Hb2 := Lib.hid (bthen Hb1.out hb2)
    have Hrd := Lib.hid (Rd.of_own (S := inS) (es := rootsV a b) (by rw [inS_flat]; exact hown) rfl)
    clear hb2 hown q0 q1 ql
    go_wp2_with fail
    refine (l1Has_any _ (rootsV a b) e _ Hrd.out).mono ?_; rintro r w3 ⟨rfl, hb3⟩
    have Hb3 := Lib.hid (bthen Hb2.out hb3); clear hb3
    go_wp2
    go_ret
    exact ⟨by rw [Hf.out]; rfl, Hb3.out⟩
set_option maxRecDepth 8000 in
set_option maxHeartbeats 4000000 in
theorem neS_any (a b e : Int) (w : World) :
    Calls Try.prog 60 #[.agg #[.int .i64 a, .int .i64 b], .int .i64 e] w fun r w' => CuR (nqV a b e) r ∧ Below w.heap.size w w' := by
  have HB := Lib.hid ((Blk.new w 37 #[.int .i64 a, .int .i64 b]).alloc (Obj.cells #[.int .i64 0, .int .i64 0] 37))
  have HR := Lib.hid (Blk.new1 w (Obj.cells #[.int .i64 a, .int .i64 b] 37) 37 #[.int .i64 0, .int .i64 0])
  have HbA := Lib.hid (show Below w.heap.size w ((w.alloc (Obj.cells #[.int .i64 a, .int .i64 b] 37)).alloc (Obj.cells #[.int .i64 0, .int .i64 0] 37)) from bal (bal (Below.refl _ _) _) _)
  cases h1 : askB a b e
  · have Hf := Lib.hid (show nqV a b e = none by unfold nqV; rw [if_neg (by rw [h1]; exact Bool.false_ne_true)])
    go_enter Try.func60, Try.ntmps60
    go_wp2_with fail
    refine (asked_any a b e _).mono ?_; rintro r w1 ⟨rfl, hb1⟩
    rw [h1]
    clear h1
    have HR1 := Lib.hid (HR.out.on hb1)
    have Hb1 := Lib.hid (bthen HbA.out hb1); clear hb1
    have r0 := HR1.out.cell 0
    have r1 := HR1.out.cell 1
    have rl := HR1.out.lt
    have rf := HR1.out.frozen
    simp at r0 r1
    have HB0 := Lib.hid (bst (bst Hb1.out (p := ⟨w.heap.size + 1, 0, none⟩) (by simp) (.int .i64 0)) (p := ⟨w.heap.size + 1, 1, none⟩) (by simp) (.int .i64 0))
    go_wp2
    clear r0 r1 rl rf
    have HR5 := HR1.out.set2 (b0 := .int .i64 0) (b1 := .int .i64 0)
    have r0 := HR5.cell 0
    have r1 := HR5.cell 1
    simp at r0 r1
    exact bodyPost_ret (v := .tuple #[.agg #[.int .i64 0, .int .i64 0], .bool false]) (by simp [results, Try.results60, go_sem, r0, r1]) rfl ⟨by rw [Hf.out]; rfl, HB0.out⟩
  · have Hf := Lib.hid (show nqV a b e = nbV a b e by unfold nqV; rw [if_pos h1])
    have Hq := Lib.hid (show curveB a b = true ∧ e ∈ rootsV a b by unfold askB at h1; rw [Bool.and_eq_true, decide_eq_true_eq] at h1; exact h1)
    go_enter Try.func60, Try.ntmps60
    go_wp2_with fail
    refine (asked_any a b e _).mono ?_; rintro r w1 ⟨rfl, hb1⟩
    rw [h1]
    clear h1
    have HR1 := Lib.hid (HR.out.on hb1)
    have HB1 := Lib.hid (HB.out.on hb1)
    have Hb1 := Lib.hid (bthen HbA.out hb1); clear hb1
    have q0 : w1.cell? ⟨w.heap.size, 0, none⟩ = some (.int .i64 a) := HB1.out.cell 0
    have q1 : w1.cell? ⟨w.heap.size, 1, none⟩ = some (.int .i64 b) := HB1.out.cell 1
    have ql := HB1.out.lt
    go_wp2_with fail
    refine (nbS_any a b e _ Hq.out.1 ((roots_mem Hq.out.1).1 Hq.out.2) (root_bd Hq.out.2)).mono ?_; rintro r w2 ⟨hr, hb2⟩
    clear q0 q1 ql
    have HR2 := Lib.hid (HR1.out.on hb2)
    have Hb2 := Lib.hid (bthen Hb1.out hb2); clear hb2
    have r0 := HR2.out.cell 0
    have r1 := HR2.out.cell 1
    have rl := HR2.out.lt
    have rf := HR2.out.frozen
    simp at r0 r1
    cases hv : nbV a b e with
    | none =>
      rw [hv] at hr Hf
      have hr2 : r = .returned (.tuple #[.agg #[.int .i64 0, .int .i64 0], .bool false]) := hr
      subst hr2
      clear hr hv
      have HB0 := Lib.hid (bst (bst Hb2.out (p := ⟨w.heap.size + 1, 0, none⟩) (by simp) (.int .i64 0)) (p := ⟨w.heap.size + 1, 1, none⟩) (by simp) (.int .i64 0))
      go_wp2
      clear r0 r1 rl rf
      have HR5 := HR2.out.set2 (b0 := .int .i64 0) (b1 := .int .i64 0)
      have r0 := HR5.cell 0
      have r1 := HR5.cell 1
      simp at r0 r1
      exact bodyPost_ret (v := .tuple #[.agg #[.int .i64 0, .int .i64 0], .bool false]) (by simp [results, Try.results60, go_sem, r0, r1]) rfl ⟨by rw [Hf.out]; rfl, HB0.out⟩
    | some d =>
      rw [hv] at hr Hf
      obtain ⟨x0, y0⟩ := d
      have hr2 : r = .returned (.tuple #[.agg #[.int .i64 x0, .int .i64 y0], .bool true]) := hr
      subst hr2
      clear hr hv
      have HB0 := Lib.hid (bst (bst Hb2.out (p := ⟨w.heap.size + 1, 0, none⟩) (by simp) (.int .i64 x0)) (p := ⟨w.heap.size + 1, 1, none⟩) (by simp) (.int .i64 y0))
      go_wp2
      clear r0 r1 rl rf
      have HR5 := HR2.out.set2 (b0 := .int .i64 x0) (b1 := .int .i64 y0)
      have r0 := HR5.cell 0
      have r1 := HR5.cell 1
      simp at r0 r1
      exact bodyPost_ret (v := .tuple #[.agg #[.int .i64 x0, .int .i64 y0], .bool true]) (by simp [results, Try.results60, go_sem, r0, r1]) rfl ⟨by rw [Hf.out]; rfl, HB0.out⟩
set_option maxRecDepth 8000 in
set_option maxHeartbeats 4000000 in
theorem scale2_any (a b : Int) (w : World) :
    Calls Try.prog 55 #[.agg #[.int .i64 a, .int .i64 b], .int .i64 2] w fun r w' => (∃ (x y : Int) (q : Bool), r = .returned (.tuple #[.agg #[.int .i64 x, .int .i64 y], .bool q])) ∧ Below w.heap.size w w' := by
  have HB := Lib.hid ((Blk.new w 37 #[.int .i64 a, .int .i64 b]).alloc (Obj.cells #[.int .i64 0, .int .i64 0] 37))
  have HR := Lib.hid (Blk.new1 w (Obj.cells #[.int .i64 a, .int .i64 b] 37) 37 #[.int .i64 0, .int .i64 0])
  have HbA := Lib.hid (show Below w.heap.size w ((w.alloc (Obj.cells #[.int .i64 a, .int .i64 b] 37)).alloc (Obj.cells #[.int .i64 0, .int .i64 0] 37)) from bal (bal (Below.refl _ _) _) _)
  cases h1 : curveB a b
  · go_enter Try.func55, Try.ntmps55
    go_wp2_with fail
    refine (cvS_lit h1 _).mono ?_; rintro r w1 ⟨rfl, hb1⟩
    clear h1
    have HR1 := Lib.hid (HR.out.on hb1)
    have Hb1 := Lib.hid (bthen HbA.out hb1); clear hb1
    have r0 := HR1.out.cell 0
    have r1 := HR1.out.cell 1
    have rl := HR1.out.lt
    have rf := HR1.out.frozen
    simp at r0 r1
    have HB0 := Lib.hid (bst (bst Hb1.out (p := ⟨w.heap.size + 1, 0, none⟩) (by simp) (.int .i64 0)) (p := ⟨w.heap.size + 1, 1, none⟩) (by simp) (.int .i64 0))
    go_wp2
    clear r0 r1 rl rf
    have HR5 := HR1.out.set2 (b0 := .int .i64 0) (b1 := .int .i64 0)
    have r0 := HR5.cell 0
    have r1 := HR5.cell 1
    simp at r0 r1
    exact bodyPost_ret (v := .tuple #[.agg #[.int .i64 0, .int .i64 0], .bool false]) (by simp [results, Try.results55, go_sem, r0, r1]) rfl ⟨⟨_, _, _, rfl⟩, HB0.out⟩
  · obtain ⟨⟨a1, a2⟩, b1, b2⟩ := curveB_bd h1
    go_enter Try.func55, Try.ntmps55
    go_wp2_with fail
    refine (cvS_lit h1 _).mono ?_; rintro r w1 ⟨rfl, hb1⟩
    clear h1
    have HR1 := Lib.hid (HR.out.on hb1)
    have HB1 := Lib.hid (HB.out.on hb1)
    have Hb1 := Lib.hid (bthen HbA.out hb1); clear hb1
    have hin : insB 2 1 5 = true := by decide
    go_wp2_with fail
    refine (l1In_any 2 1 5 _).mono ?_; rintro r w2 ⟨rfl, rfl⟩
    rw [hin]
    clear hin
    have q0 : w1.cell? ⟨w.heap.size, 0, none⟩ = some (.int .i64 a) := HB1.out.cell 0
    have q1 : w1.cell? ⟨w.heap.size, 1, none⟩ = some (.int .i64 b) := HB1.out.cell 1
    have ql := HB1.out.lt
    go_wp2_with fail
    clear q0 q1 ql
    refine (ecGood_any _ _ _).mono ?_; rintro r w3 ⟨rfl, hb3⟩
    have HR3 := Lib.hid (HR1.out.on (bthen (bal (Below.refl _ _) _) hb3))
    have HE3 := Lib.hid ((Blk.new w1 37 #[.int .i64 (a * 2 * 2 * 2 * 2), .int .i64 (b * 2 * 2 * 2 * 2 * 2 * 2)]).on hb3)
    have Hb3 := Lib.hid (bthen (bal Hb1.out _) hb3); clear hb3
    generalize a * 2 * 2 * 2 * 2 = x at HE3 ⊢
    generalize b * 2 * 2 * 2 * 2 * 2 * 2 = y at HE3 ⊢
    have r0 := HR3.out.cell 0
    have r1 := HR3.out.cell 1
    have rl := HR3.out.lt
    have rf := HR3.out.frozen
    simp at r0 r1
    have q0 : w3.cell? ⟨w1.heap.size, 0, none⟩ = some (.int .i64 x) := HE3.out.cell 0
    have q1 : w3.cell? ⟨w1.heap.size, 1, none⟩ = some (.int .i64 y) := HE3.out.cell 1
    have ql := HE3.out.lt
    have HB0 := Lib.hid (fun u v => bst (bst Hb3.out (p := ⟨w.heap.size + 1, 0, none⟩) (by simp) (.int .i64 u)) (p := ⟨w.heap.size + 1, 1, none⟩) (by simp) (.int .i64 v))
    cases hcv : curveB x y
    · go_wp2
      clear r0 r1 rl rf hcv
      have HR5 := HR3.out.set2 (b0 := .int .i64 0) (b1 := .int .i64 0)
      have r0 := HR5.cell 0
      have r1 := HR5.cell 1
      simp at r0 r1
      exact bodyPost_ret (v := .tuple #[.agg #[.int .i64 0, .int .i64 0], .bool false]) (by simp [results, Try.results55, go_sem, r0, r1]) rfl ⟨⟨_, _, _, rfl⟩, HB0.out 0 0⟩
    · go_wp2
      clear r0 r1 rl rf hcv
      have HR5 := HR3.out.set2 (b0 := .int .i64 x) (b1 := .int .i64 y)
      have r0 := HR5.cell 0
      have r1 := HR5.cell 1
      simp at r0 r1
      exact bodyPost_ret (v := .tuple #[.agg #[.int .i64 x, .int .i64 y], .bool true]) (by simp [results, Try.results55, go_sem, r0, r1]) rfl ⟨⟨_, _, _, rfl⟩, HB0.out x y⟩
end Go.Proofs.Ytnhgdmhiblpknaa
