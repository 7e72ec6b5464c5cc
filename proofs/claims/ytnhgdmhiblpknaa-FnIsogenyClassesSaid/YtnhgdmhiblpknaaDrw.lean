/- The reference's source of drawn numbers: its cursor, and what a call leaves as it was; next, pick, one, among. Conditions: a bound on how far the cursor has come. -/
import Derived.Test.YtnhgdmhiblpknaaBase
import Derived.Test.YtnhgdmhiblpknaaRow
import Derived.Laws.Bits64b
namespace Go.Proofs.Ytnhgdmhiblpknaa
open Go Go.RowKit

/-! ### What a call that draws leaves as it was: all blocks but the cursor's -/
structure Dg (g : Nat) (w w' : World) : Prop where
  os : w'.os = w.os
  tape : w'.tape = w.tape
  output : w'.output = w.output
  size : w.heap.size ≤ w'.heap.size
  block : ∀ i, i < w.heap.size → i ≠ g → w'.heap[i]? = w.heap[i]?
section
variable {g : Nat} {w w' w1 w2 x y : World}
theorem Dg.refl (g : Nat) (w : World) : Dg g w w := ⟨rfl, rfl, rfl, Nat.le_refl _, fun _ _ _ => rfl⟩
theorem Dg.trans (h : Dg g w w1) (k : Dg g w1 w2) : Dg g w w2 :=
  ⟨k.os.trans h.os, k.tape.trans h.tape, k.output.trans h.output, Nat.le_trans h.size k.size, fun i h1 h2 => (k.block i (Nat.lt_of_lt_of_le h1 h.size) h2).trans (h.block i h1 h2)⟩
theorem Dg.of_below (h : Below w.heap.size w w') : Dg g w w' := ⟨h.os, h.tape, h.output, h.size, fun i h1 _ => h.block i h1⟩
theorem Dg.on (h : Dg g w x) (k : Below x.heap.size x y) : Dg g w y := h.trans (Dg.of_below k)
theorem Dg.alloc (h : Dg g w x) (o : Obj) : Dg g w (x.alloc o) := h.on (bal (Below.refl _ _) o)
theorem Dg.drew (h : Dg g w x) : Dg g w x.drew := ⟨h.os, h.tape, h.output, h.size, h.block⟩
theorem Dg.st (h : Dg g w x) {p : Addr} (hp : w.heap.size ≤ p.block) (u : Value) : Dg g w (x.setCell p u) :=
  ⟨h.os, h.tape, h.output, by rw [World.size_setCell]; exact h.size, fun i h1 h2 => (Below.heap_setCell x p u i (by omega)).trans (h.block i h1 h2)⟩
theorem Dg.stg (h : Dg g w x) (j : Nat) (u : Value) : Dg g w (x.setCell ⟨g, j, none⟩ u) :=
  ⟨h.os, h.tape, h.output, by rw [World.size_setCell]; exact h.size, fun i h1 h2 => (Below.heap_setCell x ⟨g, j, none⟩ u i h2).trans (h.block i h1 h2)⟩
theorem Dg.grown {row : Option Nat} (h : Dg g w x) (k : x.grownBy y row) (hr : ∀ r, row = some r → w.heap.size ≤ r) : Dg g w y :=
  ⟨k.os.trans h.os, k.tape.trans h.tape, k.output.trans h.output, Nat.le_trans h.size k.size, fun i h1 h2 => (k.block i (Nat.lt_of_lt_of_le h1 h.size) (fun e => by have := hr i e.symm; omega)).trans (h.block i h1 h2)⟩
theorem Dg.below (h : Dg g w w') {B : Nat} (hB : B ≤ g) (hw : B ≤ w.heap.size) : Below B w w' := ⟨h.os, h.tape, h.output, h.size, fun i hi => h.block i (by omega) (by omega)⟩
theorem Dg.to_grown (h : Dg g w w') : w.grownBy w' (some g) := ⟨h.os, h.tape, h.output, h.size, fun i h1 h2 => h.block i h1 (fun e => h2 (by rw [e]))⟩
theorem Blk.dg {b : Nat} {t : TypeId} {cs : Array Value} (h : Blk w b t cs) (hd : Dg g w w') (hne : b ≠ g) : Blk w' b t cs := (hd.block b h.lt hne).trans h
theorem own_dg {base : Nat} {e : TypeId} {size n : Nat} {v : Value} {xs : List Value} (h : w.ownsRow base e size v n xs) (hd : Dg g w w') (hb : g < base) : w'.ownsRow base e size v n xs := by
  refine World.ownsRow.kept h hd.to_grown ?_
  cases hv : v.ownBlock with
  | none => exact .inl rfl
  | some k => exact .inr (fun e => by injection e with e; have := (h.lt k hv).1; omega)
theorem dcell {p : Addr} (hd : Dg g w w') (h1 : p.block < w.heap.size) (h2 : p.block ≠ g) : w'.cell? p = w.cell? p := by
  unfold World.cell?
  rw [hd.block _ h1 h2]
end

theorem Blk.set12 {w : World} {g : Nat} {t : TypeId} {a b c b' c' : Value} (h : Blk w g t #[a, b, c]) : Blk ((w.setCell ⟨g, 1, none⟩ b').setCell ⟨g, 2, none⟩ c') g t #[a, b', c'] := by
  have q := ((h.set 1 b').set 2 c')
  simp only [List.setIfInBounds_toArray, List.set_cons_zero, List.set_cons_succ] at q
  exact q
/-! ### The cursor -/
/-- A slice of bytes that lies below g. -/
def BytesAt (w : World) (g : Nat) (A : Option Addr) (n : Nat) : Prop :=
  n ≤ maxLen ∧ (0 < n → ∃ gc off, A = some ⟨gc, off, none⟩ ∧ gc < g ∧ gc < w.heap.size ∧ ∀ j, j < n → ∃ b : Nat, b ≤ 255 ∧ w.cell? ⟨gc, off + j, none⟩ = some (.int .u8 (b : Int)))
structure Cur (w : World) (g k : Nat) : Prop where
  ex : ∃ (A : Option Addr) (n c q : Nat) (s : Int), Blk w g 67 #[.slice A n c, .int .i64 (q : Int), .int .u64 s] ∧ q ≤ k ∧ BytesAt w g A n
section
variable {g k : Nat} {w w' x y : World}
theorem BytesAt.dg {A : Option Addr} {n : Nat} (h : BytesAt w g A n) (hd : Dg g w w') : BytesAt w' g A n :=
  ⟨h.1, fun h0 => by
    obtain ⟨gc, off, hA, h1, h2, hc⟩ := h.2 h0
    refine ⟨gc, off, hA, h1, Nat.lt_of_lt_of_le h2 hd.size, fun j hj => ?_⟩
    obtain ⟨b, hb, hcell⟩ := hc j hj
    exact ⟨b, hb, (dcell (p := ⟨gc, off + j, none⟩) hd h2 (Nat.ne_of_lt h1)).trans hcell⟩⟩
theorem Cur.lt (h : Cur w g k) : g < w.heap.size := let ⟨_, _, _, _, _, hB, _⟩ := h.ex; hB.lt
theorem Cur.mono (h : Cur w g k) {j : Nat} (hj : k ≤ j) : Cur w g j := let ⟨A, n, c, q, s, hB, hq, hb⟩ := h.ex; ⟨A, n, c, q, s, hB, Nat.le_trans hq hj, hb⟩
theorem Cur.on (h : Cur w g k) (hb : Below w.heap.size w w') : Cur w' g k := let ⟨A, n, c, q, s, hB, hq, hr⟩ := h.ex; ⟨A, n, c, q, s, hB.on hb, hq, hr.dg (Dg.of_below hb)⟩
theorem Cur.alloc (h : Cur w g k) (o : Obj) : Cur (w.alloc o) g k := h.on (bal (Below.refl _ _) o)
theorem Cur.st (h : Cur w g k) {p : Addr} (hp : g < p.block) (u : Value) : Cur (w.setCell p u) g k := by
  obtain ⟨A, n, c, q, s, hB, hq, hr⟩ := h.ex
  refine ⟨A, n, c, q, s, hB.far (by omega) u, hq, hr.1, fun h0 => ?_⟩
  obtain ⟨gc, off, hA, h1, h2, hc⟩ := hr.2 h0
  refine ⟨gc, off, hA, h1, by rw [World.size_setCell]; exact h2, fun j hj => ?_⟩
  obtain ⟨b, hb, hcell⟩ := hc j hj
  exact ⟨b, hb, (World.cell?_setCell_other _ _ _ _ (by intro e; have h9 := congrArg Addr.block e; simp only at h9; omega)).trans hcell⟩
theorem Cur.grown {row : Option Nat} (h : Cur x g k) (hg : x.grownBy y row) (hr : ∀ r, row = some r → g < r) : Cur y g k := by
  obtain ⟨A, n, c, q, s, hB, hq, hr2⟩ := h.ex
  refine ⟨A, n, c, q, s, (hg.block g hB.lt (fun e => by have := hr g e.symm; omega)).trans hB, hq, hr2.1, fun h0 => ?_⟩
  obtain ⟨gc, off, hA, h1, h2, hc⟩ := hr2.2 h0
  refine ⟨gc, off, hA, h1, Nat.lt_of_lt_of_le h2 hg.size, fun j hj => ?_⟩
  obtain ⟨b, hb, hcell⟩ := hc j hj
  refine ⟨b, hb, ?_⟩
  rw [← hcell]
  unfold World.cell?
  rw [hg.block gc h2 (fun e => by have := hr gc e.symm; omega)]
end
theorem lowbyte (S : Int) (h0 : 0 ≤ S) (h1 : S < 18446744073709551616) : 0 ≤ wrap64 (bits .and .u64 (S / 1099511627776) 255) ∧ wrap64 (bits .and .u64 (S / 1099511627776) 255) ≤ 255 := by
  obtain ⟨a, ha⟩ : ∃ a : Nat, S / 1099511627776 = a := ⟨(S / 1099511627776).toNat, by omega⟩
  have h2 := bits_and_u64_nat a 255 (by omega) (by decide)
  rw [ha, show (255 : Int) = ((255 : Nat) : Int) from rfl, h2]
  have h3 : a &&& 255 ≤ 255 := Nat.and_le_right
  unfold wrap64
  omega
theorem wrap_bd (n : Int) : 0 ≤ IntKind.u64.wrap n ∧ IntKind.u64.wrap n < 18446744073709551616 := by
  rw [IntKind.wrap_u64]
  omega
set_option maxRecDepth 8000 in
set_option maxHeartbeats 4000000 in
theorem next_any (g k : Nat) (w : World) (hc : Cur w g k) (hk : k ≤ 1000000) :
    Calls Try.prog 75 #[.pointer (some ⟨g, 0, none⟩)] w fun e w' => (∃ b : Int, 0 ≤ b ∧ b ≤ 255 ∧ e = .returned (.int .i64 b)) ∧ Cur w' g (k + 1) ∧ Dg g w w' := by
  obtain ⟨A, n, c, q, s, hB, hq, hr⟩ := hc.ex
  clear hc
  have hn := hr.1
  unfold maxLen at hn
  have hqn : (q : Int) ≤ 1000000 := by omega
  have Hq := Lib.hid hq
  have HB0 := Lib.hid hB
  have Hr0 := Lib.hid hr
  have Hd0 := Lib.hid (Dg.refl g w)
  have r0 := hB.cell 0
  have r1 := hB.cell 1
  have r2 := hB.cell 2
  have rl := hB.lt
  simp at r0 r1 r2
  clear hB hr hq hk
  go_enter Try.func75, Try.ntmps75
  go_wp2
  refine wp_region_tame (by kernel_rfl) (by kernel_rfl) (fun T _ W hT => ?_)
  have hx := hT.cell
  repeat (go_big_quiet_step (fail))
  refine wpQuiet_nil ?_
  intro t
  clear hx
  have hbt := hT.below t
  generalize W t = wt1 at hbt ⊢
  clear hT r0 r1 r2 rl
  have HB1 := Lib.hid (HB0.out.on hbt)
  have Hr1 := Lib.hid (Hr0.out.dg (Dg.of_below (g := g) hbt))
  have Hd1 := Lib.hid (Hd0.out.on hbt)
  clear hbt
  have r0 := HB1.out.cell 0
  have r1 := HB1.out.cell 1
  have r2 := HB1.out.cell 2
  have rl := HB1.out.lt
  have rf := HB1.out.frozen
  simp at r0 r1 r2
  by_cases hlt : q < n
  · obtain ⟨gc, off, rfl, hgc, hgl, hcell⟩ := Hr1.out.2 (by omega)
    obtain ⟨b, hb, f0⟩ := hcell q hlt
    clear hcell
    have hb0 : (b : Int) ≤ 255 := by omega
    have hqq : (q : Int) < (n : Int) := by omega
    clear rf
    go_wp2
    refine wp_region_tame (by kernel_rfl) (by kernel_rfl) (fun T _ W hT => ?_)
    have hx := hT.cell
    repeat (go_big_quiet_step (fail))
    refine wpQuiet_nil ?_
    intro t
    clear hx
    have hbt := hT.below t
    generalize W t = wt2 at hbt ⊢
    clear hT r0 r1 r2 rl f0
    have HB2 := Lib.hid (HB1.out.on hbt)
    have Hr2 := Lib.hid (Hr1.out.dg (Dg.of_below (g := g) hbt))
    have Hd2 := Lib.hid (Hd1.out.on hbt)
    clear hbt
    have r0 := HB2.out.cell 0
    have r1 := HB2.out.cell 1
    have r2 := HB2.out.cell 2
    have rl := HB2.out.lt
    have rf := HB2.out.frozen
    simp at r0 r1 r2
    go_wp2
    have HS := Lib.hid (wrap_bd (IntKind.u64.wrap (IntKind.u64.wrap (s * 6364136223846793005) + (b : Int)) + 1442695040888963407))
    generalize IntKind.u64.wrap (IntKind.u64.wrap (IntKind.u64.wrap (s * 6364136223846793005) + (b : Int)) + 1442695040888963407) = S at HS ⊢
    have HBq := Lib.hid (show Blk (World.setCell (World.setCell wt2 ⟨g, 1, none⟩ (.int .i64 ((q : Int) + 1))) ⟨g, 2, none⟩ (.int .u64 S)) g _ _ from HB2.out.set12)
    have Hrq := Lib.hid (Hr2.out.dg (show Dg g wt2 (World.setCell (World.setCell wt2 ⟨g, 1, none⟩ (.int .i64 ((q : Int) + 1))) ⟨g, 2, none⟩ (.int .u64 S)) from ((Dg.refl g _).stg _ _).stg _ _))
    have Hdq := Lib.hid (show Dg g w (World.setCell (World.setCell wt2 ⟨g, 1, none⟩ (.int .i64 ((q : Int) + 1))) ⟨g, 2, none⟩ (.int .u64 S)) from (Hd2.out.stg _ _).stg _ _)
    generalize (World.setCell (World.setCell wt2 ⟨g, 1, none⟩ (.int .i64 ((q : Int) + 1))) ⟨g, 2, none⟩ (.int .u64 S)) = wq at HBq Hrq Hdq ⊢
    clear r0 r1 r2 rl rf
    have r0 := HBq.out.cell 0
    have r1 := HBq.out.cell 1
    have r2 := HBq.out.cell 2
    have rl := HBq.out.lt
    have rf := HBq.out.frozen
    simp at r0 r1 r2
    refine wp_region_tame (by kernel_rfl) (by kernel_rfl) (fun T _ W hT => ?_)
    have hx := hT.cell
    repeat (go_big_quiet_step (fail))
    refine wpQuiet_nil ?_
    intro t
    clear hx
    have hbt := hT.below t
    generalize W t = wt9 at hbt ⊢
    clear hT r0 r1 r2 rl
    have HB9 := Lib.hid (HBq.out.on hbt)
    have Hr9 := Lib.hid (Hrq.out.dg (Dg.of_below (g := g) hbt))
    have Hd9 := Lib.hid (Hdq.out.on hbt)
    clear hbt
    have r0 := HB9.out.cell 0
    have r1 := HB9.out.cell 1
    have r2 := HB9.out.cell 2
    have rl := HB9.out.lt
    have rf := HB9.out.frozen
    simp at r0 r1 r2
    have hqq9 : (q : Int) + 1 ≤ (n : Int) := by omega
    go_wp2
    go_ret
    exact ⟨⟨_, by omega, by omega, rfl⟩, ⟨_, n, c, q + 1, S, by have h9 := HB9.out; rw [show ((q + 1 : Nat) : Int) = (q : Int) + 1 by omega]; exact h9, by have := Hq.out; omega, Hr9.out⟩, Hd9.out⟩
  · go_wp2
    have HS := Lib.hid (wrap_bd (IntKind.u64.wrap (IntKind.u64.wrap (s * 6364136223846793005)) + 1442695040888963407))
    generalize IntKind.u64.wrap (IntKind.u64.wrap (IntKind.u64.wrap (s * 6364136223846793005)) + 1442695040888963407) = S at HS ⊢
    have HBq := Lib.hid (show Blk (World.setCell (World.setCell wt1 ⟨g, 1, none⟩ (.int .i64 ((q : Int) + 1))) ⟨g, 2, none⟩ (.int .u64 S)) g _ _ from HB1.out.set12)
    have Hrq := Lib.hid (Hr1.out.dg (show Dg g wt1 (World.setCell (World.setCell wt1 ⟨g, 1, none⟩ (.int .i64 ((q : Int) + 1))) ⟨g, 2, none⟩ (.int .u64 S)) from ((Dg.refl g _).stg _ _).stg _ _))
    have Hdq := Lib.hid (show Dg g w (World.setCell (World.setCell wt1 ⟨g, 1, none⟩ (.int .i64 ((q : Int) + 1))) ⟨g, 2, none⟩ (.int .u64 S)) from (Hd1.out.stg _ _).stg _ _)
    generalize (World.setCell (World.setCell wt1 ⟨g, 1, none⟩ (.int .i64 ((q : Int) + 1))) ⟨g, 2, none⟩ (.int .u64 S)) = wq at HBq Hrq Hdq ⊢
    clear r0 r1 r2 rl rf
    have r0 := HBq.out.cell 0
    have r1 := HBq.out.cell 1
    have r2 := HBq.out.cell 2
    have rl := HBq.out.lt
    have rf := HBq.out.frozen
    simp at r0 r1 r2
    refine wp_region_tame (by kernel_rfl) (by kernel_rfl) (fun T _ W hT => ?_)
    have hx := hT.cell
    repeat (go_big_quiet_step (fail))
    refine wpQuiet_nil ?_
    intro t
    clear hx
    have hbt := hT.below t
    generalize W t = wt9 at hbt ⊢
    clear hT r0 r1 r2 rl
    have HB9 := Lib.hid (HBq.out.on hbt)
    have Hr9 := Lib.hid (Hrq.out.dg (Dg.of_below (g := g) hbt))
    have Hd9 := Lib.hid (Hdq.out.on hbt)
    clear hbt
    have r0 := HB9.out.cell 0
    have r1 := HB9.out.cell 1
    have r2 := HB9.out.cell 2
    have rl := HB9.out.lt
    have rf := HB9.out.frozen
    simp at r0 r1 r2
    have hqq9 : ¬ (q : Int) + 1 ≤ (n : Int) := by omega
    have Hlb := Lib.hid (lowbyte S HS.out.1 HS.out.2)
    go_wp2
    go_ret
    exact ⟨⟨_, Hlb.out.1, Hlb.out.2, rfl⟩, ⟨_, n, c, q + 1, S, by have h9 := HB9.out; rw [show ((q + 1 : Nat) : Int) = (q : Int) + 1 by omega]; exact h9, by have := Hq.out; omega, Hr9.out⟩, Hd9.out⟩
theorem emod_bd {x n : Int} (hn : 1 < n) : 0 ≤ x % n ∧ x % n ≤ n - 1 := by
  have h1 := Int.emod_nonneg x (show n ≠ 0 by omega)
  have h2 := Int.emod_lt_of_pos x (show 0 < n by omega)
  omega
set_option maxRecDepth 8000 in
set_option maxHeartbeats 4000000 in
theorem pick_any (g k : Nat) (n : Int) (w : World) (hc : Cur w g k) (hk : k ≤ 900000) :
    Calls Try.prog 52 #[.pointer (some ⟨g, 0, none⟩), .int .i64 n] w fun e w' => (∃ x : Int, 0 ≤ x ∧ x ≤ max (n - 1) 0 ∧ e = .returned (.int .i64 x)) ∧ Cur w' g (k + 2) ∧ Dg g w w' := by
  have Hc := Lib.hid hc; clear hc
  have Hk := Lib.hid hk; clear hk
  by_cases h1 : n ≤ 1
  · go_enter Try.func52, Try.ntmps52
    go_wp2
    go_ret
    exact ⟨⟨0, by omega, by omega, rfl⟩, Hc.out.mono (by omega), Dg.refl _ _⟩
  · go_enter Try.func52, Try.ntmps52
    go_wp2_with fail
    refine (next_any g k _ Hc.out (by have := Hk.out; omega)).mono ?_; rintro e w1 ⟨⟨b, hb0, hb1, rfl⟩, hc1, hd1⟩
    have Hc1 := Lib.hid hc1; have Hd1 := Lib.hid hd1; clear hc1 hd1
    by_cases h2 : n > 200
    · go_wp2_with fail
      refine (next_any g (k + 1) _ Hc1.out (by have := Hk.out; omega)).mono ?_; rintro e w2 ⟨⟨b2, hb3, hb4, rfl⟩, hc2, hd2⟩
      have Hc2 := Lib.hid hc2; have Hd2 := Lib.hid (Hd1.out.trans hd2); clear hc2 hd2
      have hn1 : (1 : Int) < n := by omega
      have Hm := Lib.hid (emod_bd (x := b * 256 + b2) hn1)
      have hn0 : n ≠ 0 := by omega
      go_wp2
      go_ret
      exact ⟨⟨_, Hm.out.1, by have := Hm.out.2; omega, rfl⟩, Hc2.out, Hd2.out⟩
    · have hn1 : (1 : Int) < n := by omega
      have Hm := Lib.hid (emod_bd (x := b) hn1)
      have hn0 : n ≠ 0 := by omega
      go_wp2
      go_ret
      exact ⟨⟨_, Hm.out.1, by have := Hm.out.2; omega, rfl⟩, Hc1.out.mono (by omega), Hd1.out⟩
set_option maxHeartbeats 1000000 in
theorem one_any (g k : Nat) (n : Int) (w : World) (hc : Cur w g k) (hk : k ≤ 900000) :
    Calls Try.prog 53 #[.pointer (some ⟨g, 0, none⟩), .int .i64 n] w fun e w' => (∃ b : Bool, e = .returned (.bool b)) ∧ Cur w' g (k + 2) ∧ Dg g w w' := by
  have Hc := Lib.hid hc; clear hc
  have Hk := Lib.hid hk; clear hk
  go_enter Try.func53, Try.ntmps53
  go_wp2_with fail
  refine (pick_any g k n _ Hc.out Hk.out).mono ?_; rintro e w1 ⟨⟨x, hx0, hx1, rfl⟩, hc1, hd1⟩
  clear hx0 hx1
  go_wp2
  go_ret
  exact ⟨⟨_, rfl⟩, hc1, hd1⟩
/-- A slice of ints just made. -/
theorem rdI (w : World) (t : TypeId) (es : List Int) (hl : es.length ≤ 1000) : Rd inS (w.alloc (.cells (es.map (Value.int .i64)).toArray t)) (w.alloc (.cells (es.map (Value.int .i64)).toArray t)).heap.size (.slice (some ⟨w.heap.size, 0, none⟩) es.length es.length) es := by
  refine ⟨_, es.length, rfl, Nat.le_refl _, by unfold maxLen; omega, fun _ => ⟨w.heap.size, 0, rfl, by rw [World.size_alloc]; omega, fun k hk j hj => ?_⟩⟩
  have hj0 : j = 0 := by simp [inS] at hj; exact hj
  subst hj0
  rw [show 0 + k * inS.size + 0 = k by simp [inS], (Blk.new w t (es.map (Value.int .i64)).toArray).cell k]
  simp only [List.getElem?_toArray, List.getElem?_map, List.getElem?_eq_getElem hk, Option.map_some]
  show some (Value.int .i64 es[k]) = some (Value.int .i64 (inS.get es k))
  unfold Shape.get
  rw [List.getD_eq_getElem?_getD, List.getElem?_eq_getElem hk]; rfl
set_option maxHeartbeats 1000000 in
theorem among_any (g k : Nat) (v : Value) (es : List Int) (w : World) (hc : Cur w g k) (hv : Rd inS w w.heap.size v es) (hne : es ≠ []) (hng : ∀ A n c, v = .slice (some A) n c → A.block ≠ g) (hk : k ≤ 900000) :
    Calls Try.prog 77 #[.pointer (some ⟨g, 0, none⟩), v] w fun e w' => (∃ y : Int, y ∈ es ∧ e = .returned (.int .i64 y)) ∧ Cur w' g (k + 2) ∧ Dg g w w' := by
  have Hc := Lib.hid hc; clear hc
  have Hk := Lib.hid hk; clear hk
  have h0 : 0 < es.length := List.length_pos_iff.2 hne
  obtain ⟨A, c, rfl, hcc, hm, hA⟩ := hv
  unfold maxLen at hm
  obtain ⟨ga, off, rfl, hga, hcell⟩ := hA h0
  have hgg := hng _ _ _ rfl
  have hcell := in_cells hcell
  simp only at hgg
  clear hA hne hng
  go_enter Try.func77, Try.ntmps77
  go_wp2_with fail
  refine (pick_any g k (es.length : Int) _ Hc.out Hk.out).mono ?_; rintro e w1 ⟨⟨x, hx0, hx1, rfl⟩, hc1, hd1⟩
  obtain ⟨q, rfl⟩ : ∃ q : Nat, x = q := ⟨x.toNat, by omega⟩
  have hql : q < es.length := by omega
  have f0 := (dcell (p := ⟨ga, off + q, none⟩) hd1 hga hgg).trans (hcell q hql)
  have hgs := Nat.lt_of_lt_of_le hga hd1.size
  have Hmem : Hid (inS.get es q ∈ es) := Lib.hid (by unfold Shape.get; rw [List.getD_eq_getElem?_getD, List.getElem?_eq_getElem hql]; exact List.getElem_mem hql)
  generalize inS.get es q = y at f0 Hmem
  have Hc1 := Lib.hid hc1; have Hd1 := Lib.hid hd1
  have hi1 : (q : Int) < (es.length : Int) := by omega
  clear hcell hc1 hd1 hx1
  go_wp2
  go_ret
  exact ⟨⟨_, Hmem.out, rfl⟩, Hc1.out, Hd1.out⟩
end Go.Proofs.Ytnhgdmhiblpknaa
