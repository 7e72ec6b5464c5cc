/- A task with other candidates done: doneTo and skAt. Conditions: bounds of a task. -/
import Derived.Test.YtjnghjgfhlgbiaaTaskS
import Derived.Test.YtjnghjgfhlgbiaaRow
import Derived.Test.YtjnghjgfhlgbiaaFrame
namespace Go.Proofs.Ytjnghjgfhlgbiaa
open Go Go.RowKit

theorem own_far {w w' : World} {base : Nat} {e : TypeId} {size : Nat} {v : Value} {n : Nat} {xs : List Value} {g : Nat} (h : w.ownsRow base e size v n xs) (hw : w.grownBy w' (some g)) (hg : g < base) : w'.ownsRow base e size v n xs :=
  World.ownsRow.kept h hw (by
    cases hv : v.ownBlock with
    | none => exact .inl rfl
    | some k =>
      have := (h.lt k hv).1
      refine .inr (fun e => ?_)
      injection e with e
      omega)
theorem bthenB {B : Nat} {W0 w1 w2 : World} (h : Below B W0 w1) (hs : B ≤ W0.heap.size) (k : Below w1.heap.size w1 w2) : Below B W0 w2 := h.trans (k.mono (Nat.le_trans hs h.size))
theorem bstB {B : Nat} {W0 w1 : World} (h : Below B W0 w1) {p : Addr} (hp : B ≤ p.block) (u : Value) : Below B W0 (w1.setCell p u) := h.setCell hp u
theorem only_drew {a w : World} {row : Option Nat} (h : a.grownBy w row) : a.grownBy w.drew row := ⟨h.os, h.tape, h.output, h.size, h.block⟩

set_option maxRecDepth 20000 in
set_option maxHeartbeats 4000000 in
theorem doneTo_any (g : Nat) (a b m d t n : Int) (v : Value) (w : World) (h : Blk w g 28 #[.int .i64 a, .int .i64 b, .int .i64 m, .int .i64 d, .int .i64 t, v]) (ht : TkB a b m d) (hn : 0 ≤ n ∧ n ≤ totI m d) :
    Calls Try.prog 26 #[.pointer (some ⟨g, 0, none⟩), .int .i64 n] w fun r w' => (∃ v', r = .returned (.agg #[.int .i64 a, .int .i64 b, .int .i64 m, .int .i64 d, .int .i64 n, v']) ∧ w'.ownsRow w.heap.size 62 3 v' (hitsZ a b m 0 n).length (ptS.flat (hitsZ a b m 0 n))) ∧ Below w.heap.size w w' := by
  have Ht := Lib.hid ht; clear ht
  have Hn := Lib.hid hn; clear hn
  have Hb := Lib.hid h
  have hgl := h.lt
  have q0 := h.cell 0
  have q1 := h.cell 1
  have q2 := h.cell 2
  have q3 := h.cell 3
  have q4 := h.cell 4
  have q5 := h.cell 5
  have ql := h.lt
  simp at q0 q1 q2 q3 q4 q5
  clear h
  have HR := Lib.hid (Blk.new w 28 #[.int .i64 0, .int .i64 0, .int .i64 0, .int .i64 0, .int .i64 0, .slice none 0 0])
  have hbA := bal (Below.refl w.heap.size w) (Obj.cells #[.int .i64 0, .int .i64 0, .int .i64 0, .int .i64 0, .int .i64 0, .slice none 0 0] 28)
  have Hsz := Lib.hid (World.size_alloc w (Obj.cells #[.int .i64 0, .int .i64 0, .int .i64 0, .int .i64 0, .int .i64 0, .slice none 0 0] 28))
  have HS : Hid (∀ w', Below w.heap.size w w' → (w'.cell? ⟨g, 0, none⟩ = some (.int .i64 a) ∧ w'.cell? ⟨g, 1, none⟩ = some (.int .i64 b) ∧ w'.cell? ⟨g, 2, none⟩ = some (.int .i64 m) ∧ w'.cell? ⟨g, 3, none⟩ = some (.int .i64 d) ∧ w'.cell? ⟨g, 4, none⟩ = some (.int .i64 t) ∧ w'.cell? ⟨g, 5, none⟩ = some (v) ∧ Below w.heap.size w w')) := Lib.hid (fun w' hw => ⟨(hw.cell (p := ⟨g, 0, none⟩) hgl).trans q0, (hw.cell (p := ⟨g, 1, none⟩) hgl).trans q1, (hw.cell (p := ⟨g, 2, none⟩) hgl).trans q2, (hw.cell (p := ⟨g, 3, none⟩) hgl).trans q3, (hw.cell (p := ⟨g, 4, none⟩) hgl).trans q4, (hw.cell (p := ⟨g, 5, none⟩) hgl).trans q5, hw⟩)
  go_enter Try.func26, Try.ntmps26
  go_wp2
  generalize w.alloc (Obj.cells #[.int .i64 0, .int .i64 0, .int .i64 0, .int .i64 0, .int .i64 0, .slice none 0 0] 28) = W0 at hbA HR Hsz ⊢
  have hW0 := hbA.size
  go_region_held3 (fun w' => w'.cell? ⟨g, 0, none⟩ = some (.int .i64 a) ∧ w'.cell? ⟨g, 1, none⟩ = some (.int .i64 b) ∧ w'.cell? ⟨g, 2, none⟩ = some (.int .i64 m) ∧ w'.cell? ⟨g, 3, none⟩ = some (.int .i64 d) ∧ w'.cell? ⟨g, 4, none⟩ = some (.int .i64 t) ∧ w'.cell? ⟨g, 5, none⟩ = some (v) ∧ Below w.heap.size w w') (((go_split_ands; refine HS.out _ ?_; repeat (first | (with_reducible assumption) | (with_reducible exact Below.refl _ _) | (with_reducible refine Below.drew ?_) | (with_reducible refine bthen ?_ (by with_reducible assumption)) | (with_reducible refine bst ?_ (Nat.le_refl _) _))))) ((first | (go_at_call 46; refine (hits_any g a b m d t 0 n v _ (Hb.out.on (by go_split_ands; with_reducible assumption)) Ht.out (by omega) Hn.out.2).mono ?_; rintro r w5 ⟨⟨v5, rfl, ho5⟩, hb5⟩; have hR5 := Blk.on (g := w.heap.size) (t := 28) (cs :=  #[.int .i64 0, .int .i64 0, .int .i64 0, .int .i64 0, .int .i64 0, .slice none 0 0]) (by first | (with_reducible exact HR.out) | (with_reducible exact HR.out.drew)) hb5; have r0 := hR5.cell 0; have r1 := hR5.cell 1; have r2 := hR5.cell 2; have r3 := hR5.cell 3; have r4 := hR5.cell 4; have r5 := hR5.cell 5; have rl := hR5.lt; have z0 := hR5.frozen 0; have z1 := hR5.frozen 1; have z2 := hR5.frozen 2; have z3 := hR5.frozen 3; have z4 := hR5.frozen 4; have z5 := hR5.frozen 5; clear hR5; obtain ⟨A5, c5, rfl, -, -, -⟩ := Rd.of_own (S := ptS) ho5 rfl; have Ho5 := Lib.hid ho5; clear ho5)))
  all_goals go_wp2
  all_goals exact bodyPost_ret (v := .agg #[.int .i64 a, .int .i64 b, .int .i64 m, .int .i64 d, .int .i64 n, .slice A5 (hitsZ a b m 0 n).length c5]) (by simp [results, Try.results26, go_sem, r0, r1, r2, r3, r4, r5]) rfl ⟨⟨_, rfl, own_mono (own_far (g := w.heap.size) Ho5.out (by repeat (first | (with_reducible exact grefl _ _) | (with_reducible refine only_cell ?_) | (with_reducible refine only_drew ?_))) (by have := Hsz.out; simp; omega)) (by have := Hsz.out; simp; omega)⟩, (by go_split_ands; repeat (first | (with_reducible assumption) | (with_reducible refine Below.drew ?_) | (with_reducible refine bthen ?_ (by with_reducible assumption)) | (with_reducible refine bst ?_ (Nat.le_refl _) _)))⟩
set_option maxRecDepth 20000 in
set_option maxHeartbeats 4000000 in
theorem skAt_any (a b m d t n : Int) (v : Value) (w : World) (ht : TkB a b m d) (hn : 0 ≤ n ∧ n ≤ totI m d) :
    Calls Try.prog 30 #[.agg #[.int .i64 a, .int .i64 b, .int .i64 m, .int .i64 d, .int .i64 t, v], .int .i64 n] w fun r w' => (∃ v', r = .returned (.agg #[.int .i64 a, .int .i64 b, .int .i64 m, .int .i64 d, .int .i64 n, v']) ∧ w'.ownsRow w.heap.size 62 3 v' (hitsZ a b m 0 n).length (ptS.flat (hitsZ a b m 0 n))) ∧ Below w.heap.size w w' := by
  have Ht := Lib.hid ht; clear ht
  have Hn := Lib.hid hn; clear hn
  have Hb := Lib.hid ((Blk.new w 28 #[.int .i64 a, .int .i64 b, .int .i64 m, .int .i64 d, .int .i64 t, v]).alloc (Obj.cells #[.int .i64 0, .int .i64 0, .int .i64 0, .int .i64 0, .int .i64 0, .slice none 0 0] 28))
  have HR := Lib.hid (Blk.new1 w (Obj.cells #[.int .i64 a, .int .i64 b, .int .i64 m, .int .i64 d, .int .i64 t, v] 28) 28 #[.int .i64 0, .int .i64 0, .int .i64 0, .int .i64 0, .int .i64 0, .slice none 0 0])
  have hbA := bal (bal (Below.refl w.heap.size w) (Obj.cells #[.int .i64 a, .int .i64 b, .int .i64 m, .int .i64 d, .int .i64 t, v] 28)) (Obj.cells #[.int .i64 0, .int .i64 0, .int .i64 0, .int .i64 0, .int .i64 0, .slice none 0 0] 28)
  have Hsz := Lib.hid (show ((w.alloc (Obj.cells #[.int .i64 a, .int .i64 b, .int .i64 m, .int .i64 d, .int .i64 t, v] 28)).alloc (Obj.cells #[.int .i64 0, .int .i64 0, .int .i64 0, .int .i64 0, .int .i64 0, .slice none 0 0] 28)).heap.size = w.heap.size + 2 by rw [World.size_alloc, World.size_alloc])
  go_enter Try.func30, Try.ntmps30
  go_wp2
  generalize (w.alloc (Obj.cells #[.int .i64 a, .int .i64 b, .int .i64 m, .int .i64 d, .int .i64 t, v] 28)).alloc (Obj.cells #[.int .i64 0, .int .i64 0, .int .i64 0, .int .i64 0, .int .i64 0, .slice none 0 0] 28) = W0 at hbA HR Hb Hsz ⊢
  have hW0 := hbA.size
  have q0 := Hb.out.cell 0
  have q1 := Hb.out.cell 1
  have q2 := Hb.out.cell 2
  have q3 := Hb.out.cell 3
  have q4 := Hb.out.cell 4
  have q5 := Hb.out.cell 5
  have ql := Hb.out.lt
  simp at q0 q1 q2 q3 q4 q5
  have HS : Hid (∀ w', Below (w.heap.size + 1) W0 w' → (w'.cell? ⟨w.heap.size, 0, none⟩ = some (.int .i64 a) ∧ w'.cell? ⟨w.heap.size, 1, none⟩ = some (.int .i64 b) ∧ w'.cell? ⟨w.heap.size, 2, none⟩ = some (.int .i64 m) ∧ w'.cell? ⟨w.heap.size, 3, none⟩ = some (.int .i64 d) ∧ w'.cell? ⟨w.heap.size, 4, none⟩ = some (.int .i64 t) ∧ w'.cell? ⟨w.heap.size, 5, none⟩ = some (v) ∧ Below (w.heap.size + 1) W0 w')) := Lib.hid (fun w' hw => ⟨(hw.cell (p := ⟨w.heap.size, 0, none⟩) (Nat.lt_succ_self _)).trans q0, (hw.cell (p := ⟨w.heap.size, 1, none⟩) (Nat.lt_succ_self _)).trans q1, (hw.cell (p := ⟨w.heap.size, 2, none⟩) (Nat.lt_succ_self _)).trans q2, (hw.cell (p := ⟨w.heap.size, 3, none⟩) (Nat.lt_succ_self _)).trans q3, (hw.cell (p := ⟨w.heap.size, 4, none⟩) (Nat.lt_succ_self _)).trans q4, (hw.cell (p := ⟨w.heap.size, 5, none⟩) (Nat.lt_succ_self _)).trans q5, hw⟩)
  have hrefl := Below.refl (w.heap.size + 1) W0
  have hB1 : w.heap.size + 1 ≤ W0.heap.size := by have := Hsz.out; omega
  have hB2 : w.heap.size ≤ W0.heap.size := by omega
  go_region_held3 (fun w' => w'.cell? ⟨w.heap.size, 0, none⟩ = some (.int .i64 a) ∧ w'.cell? ⟨w.heap.size, 1, none⟩ = some (.int .i64 b) ∧ w'.cell? ⟨w.heap.size, 2, none⟩ = some (.int .i64 m) ∧ w'.cell? ⟨w.heap.size, 3, none⟩ = some (.int .i64 d) ∧ w'.cell? ⟨w.heap.size, 4, none⟩ = some (.int .i64 t) ∧ w'.cell? ⟨w.heap.size, 5, none⟩ = some (v) ∧ Below (w.heap.size + 1) W0 w') (((go_split_ands; refine HS.out _ ?_; repeat (first | (with_reducible assumption) | (with_reducible refine Below.drew ?_) | (with_reducible refine bstB ?_ (by exact Nat.le_refl _) _) | (with_reducible refine bthenB ?_ hB1 (by with_reducible assumption)))))) ((first | (go_at_call 48; refine (skRun_any a b m d t 0 n v _ Ht.out (by omega) Hn.out.2).mono ?_; rintro r w5 ⟨⟨v5, rfl, ho5⟩, hb5⟩; have hR5 := Blk.on (g := w.heap.size + 1) (t := 28) (cs :=  #[.int .i64 0, .int .i64 0, .int .i64 0, .int .i64 0, .int .i64 0, .slice none 0 0]) (by first | (with_reducible exact HR.out) | (with_reducible exact HR.out.drew)) hb5; have r0 := hR5.cell 0; have r1 := hR5.cell 1; have r2 := hR5.cell 2; have r3 := hR5.cell 3; have r4 := hR5.cell 4; have r5 := hR5.cell 5; have rl := hR5.lt; have z0 := hR5.frozen 0; have z1 := hR5.frozen 1; have z2 := hR5.frozen 2; have z3 := hR5.frozen 3; have z4 := hR5.frozen 4; have z5 := hR5.frozen 5; clear hR5; obtain ⟨A5, c5, rfl, -, -, -⟩ := Rd.of_own (S := ptS) ho5 rfl; have Ho5 := Lib.hid ho5; clear ho5)))
  all_goals go_wp2
  all_goals exact bodyPost_ret (v := .agg #[.int .i64 a, .int .i64 b, .int .i64 m, .int .i64 d, .int .i64 n, .slice A5 (hitsZ a b m 0 n).length c5]) (by simp [results, Try.results30, go_sem, r0, r1, r2, r3, r4, r5]) rfl ⟨⟨_, rfl, own_mono (own_far (g := w.heap.size + 1) Ho5.out (by repeat (first | (with_reducible exact grefl _ _) | (with_reducible refine only_cell ?_) | (with_reducible refine only_drew ?_))) (by have := Hsz.out; simp; omega)) (by have := Hsz.out; simp; omega)⟩, (by refine Below.trans hbA ?_; go_split_ands; repeat (first | (with_reducible exact Below.refl _ _) | (with_reducible refine Below.drew ?_) | (with_reducible refine bstB ?_ (by exact Nat.le_succ _) _) | (with_reducible refine bthenB ?_ hB2 (by with_reducible assumption))))⟩
end Go.Proofs.Ytjnghjgfhlgbiaa
