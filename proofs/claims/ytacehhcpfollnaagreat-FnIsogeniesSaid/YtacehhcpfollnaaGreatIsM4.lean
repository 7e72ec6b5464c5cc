/- Own texts put together: The reference's source of drawn numbers: its cursor, and what a call leaves as it was; next, pick, one, among; The program's calculator of fractions, which remembers whether all steps were valid; The plain law of isogeny classes: what the search over neighbours finds, from whichever curve of the class; the steps; the edges. Conditions: those of each theorem. -/
import Derived.Test.YtacehhcpfollnaaGreatIsM1
import Derived.Test.YtacehhcpfollnaaGreatIsM3
import Derived.Laws.Bits64b
import Derived.Test.YtacehhcpfollnaaGreatIsM2
namespace Go.Proofs.YtacehhcpfollnaaGreat
section
open Go Go.RowKit

/-! ### What a call that draws leaves as it was: all blocks but the cursor's -/
structure Dg (g : Nat) (w w' : World) : Prop where
  os : w'.os = w.os
  tape : w'.tape = w.tape
  output : w'.output = w.output
  size : w.heap.size ≤ w'.heap.size
  block : ∀ i, i < w.heap.size → i ≠ g → w'.heap[i]? = w.heap[i]?
section
variable {g : Nat} {w w' w1 w2 x y : World}
theorem Dg.refl (g : Nat) (w : World) : Dg g w w := ⟨rfl, rfl, rfl, Nat.le_refl _, fun _ _ _ => rfl⟩
theorem Dg.trans (h : Dg g w w1) (k : Dg g w1 w2) : Dg g w w2 :=
  ⟨k.os.trans h.os, k.tape.trans h.tape, k.output.trans h.output, Nat.le_trans h.size k.size, fun i h1 h2 => (k.block i (Nat.lt_of_lt_of_le h1 h.size) h2).trans (h.block i h1 h2)⟩
theorem Dg.of_below (h : Below w.heap.size w w') : Dg g w w' := ⟨h.os, h.tape, h.output, h.size, fun i h1 _ => h.block i h1⟩
theorem Dg.on (h : Dg g w x) (k : Below x.heap.size x y) : Dg g w y := h.trans (Dg.of_below k)
theorem Dg.alloc (h : Dg g w x) (o : Obj) : Dg g w (x.alloc o) := h.on (bal (Below.refl _ _) o)
theorem Dg.drew (h : Dg g w x) : Dg g w x.drew := ⟨h.os, h.tape, h.output, h.size, h.block⟩
theorem Dg.st (h : Dg g w x) {p : Addr} (hp : w.heap.size ≤ p.block) (u : Value) : Dg g w (x.setCell p u) :=
  ⟨h.os, h.tape, h.output, by rw [World.size_setCell]; exact h.size, fun i h1 h2 => (Below.heap_setCell x p u i (by omega)).trans (h.block i h1 h2)⟩
theorem Dg.stg (h : Dg g w x) (j : Nat) (u : Value) : Dg g w (x.setCell ⟨g, j, none⟩ u) :=
  ⟨h.os, h.tape, h.output, by rw [World.size_setCell]; exact h.size, fun i h1 h2 => (Below.heap_setCell x ⟨g, j, none⟩ u i h2).trans (h.block i h1 h2)⟩
theorem Dg.grown {row : Option Nat} (h : Dg g w x) (k : x.grownBy y row) (hr : ∀ r, row = some r → w.heap.size ≤ r) : Dg g w y :=
  ⟨k.os.trans h.os, k.tape.trans h.tape, k.output.trans h.output, Nat.le_trans h.size k.size, fun i h1 h2 => (k.block i (Nat.lt_of_lt_of_le h1 h.size) (fun e => by have := hr i e.symm; omega)).trans (h.block i h1 h2)⟩
theorem Dg.below (h : Dg g w w') {B : Nat} (hB : B ≤ g) (hw : B ≤ w.heap.size) : Below B w w' := ⟨h.os, h.tape, h.output, h.size, fun i hi => h.block i (by omega) (by omega)⟩
theorem Dg.to_grown (h : Dg g w w') : w.grownBy w' (some g) := ⟨h.os, h.tape, h.output, h.size, fun i h1 h2 => h.block i h1 (fun e => h2 (by rw [e]))⟩
theorem Blk.dg {b : Nat} {t : TypeId} {cs : Array Value} (h : Blk w b t cs) (hd : Dg g w w') (hne : b ≠ g) : Blk w' b t cs := (hd.block b h.lt hne).trans h
theorem own_dg {base : Nat} {e : TypeId} {size n : Nat} {v : Value} {xs : List Value} (h : w.ownsRow base e size v n xs) (hd : Dg g w w') (hb : g < base) : w'.ownsRow base e size v n xs := by
  refine World.ownsRow.kept h hd.to_grown ?_
  cases hv : v.ownBlock with
  | none => exact .inl rfl
  | some k => exact .inr (fun e => by injection e with e; have := (h.lt k hv).1; omega)
theorem dcell {p : Addr} (hd : Dg g w w') (h1 : p.block < w.heap.size) (h2 : p.block ≠ g) : w'.cell? p = w.cell? p := by
  unfold World.cell?
  rw [hd.block _ h1 h2]
end

theorem Blk.set12 {w : World} {g : Nat} {t : TypeId} {a b c b' c' : Value} (h : Blk w g t #[a, b, c]) : Blk ((w.setCell ⟨g, 1, none⟩ b').setCell ⟨g, 2, none⟩ c') g t #[a, b', c'] := by
  have q := ((h.set 1 b').set 2 c')
  simp only [List.setIfInBounds_toArray, List.set_cons_zero, List.set_cons_succ] at q
  exact q
/-! ### The cursor -/
/-- A slice of bytes that lies below g. -/
def BytesAt (w : World) (g : Nat) (A : Option Addr) (n : Nat) : Prop :=
  n ≤ maxLen ∧ (0 < n → ∃ gc off, A = some ⟨gc, off, none⟩ ∧ gc < g ∧ gc < w.heap.size ∧ ∀ j, j < n → ∃ b : Nat, b ≤ 255 ∧ w.cell? ⟨gc, off + j, none⟩ = some (.int .u8 (b : Int)))
structure Cur (w : World) (g k : Nat) : Prop where
  ex : ∃ (A : Option Addr) (n c q : Nat) (s : Int), Blk w g 72 #[.slice A n c, .int .i64 (q : Int), .int .u64 s] ∧ q ≤ k ∧ BytesAt w g A n
section
variable {g k : Nat} {w w' x y : World}
theorem BytesAt.dg {A : Option Addr} {n : Nat} (h : BytesAt w g A n) (hd : Dg g w w') : BytesAt w' g A n :=
  ⟨h.1, fun h0 => by
    obtain ⟨gc, off, hA, h1, h2, hc⟩ := h.2 h0
    refine ⟨gc, off, hA, h1, Nat.lt_of_lt_of_le h2 hd.size, fun j hj => ?_⟩
    obtain ⟨b, hb, hcell⟩ := hc j hj
    exact ⟨b, hb, (dcell (p := ⟨gc, off + j, none⟩) hd h2 (Nat.ne_of_lt h1)).trans hcell⟩⟩
theorem Cur.lt (h : Cur w g k) : g < w.heap.size := let ⟨_, _, _, _, _, hB, _⟩ := h.ex; hB.lt
theorem Cur.mono (h : Cur w g k) {j : Nat} (hj : k ≤ j) : Cur w g j := let ⟨A, n, c, q, s, hB, hq, hb⟩ := h.ex; ⟨A, n, c, q, s, hB, Nat.le_trans hq hj, hb⟩
theorem Cur.on (h : Cur w g k) (hb : Below w.heap.size w w') : Cur w' g k := let ⟨A, n, c, q, s, hB, hq, hr⟩ := h.ex; ⟨A, n, c, q, s, hB.on hb, hq, hr.dg (Dg.of_below hb)⟩
theorem Cur.alloc (h : Cur w g k) (o : Obj) : Cur (w.alloc o) g k := h.on (bal (Below.refl _ _) o)
theorem Cur.st (h : Cur w g k) {p : Addr} (hp : g < p.block) (u : Value) : Cur (w.setCell p u) g k := by
  obtain ⟨A, n, c, q, s, hB, hq, hr⟩ := h.ex
  refine ⟨A, n, c, q, s, hB.far (by omega) u, hq, hr.1, fun h0 => ?_⟩
  obtain ⟨gc, off, hA, h1, h2, hc⟩ := hr.2 h0
  refine ⟨gc, off, hA, h1, by rw [World.size_setCell]; exact h2, fun j hj => ?_⟩
  obtain ⟨b, hb, hcell⟩ := hc j hj
  exact ⟨b, hb, (World.cell?_setCell_other _ _ _ _ (by intro e; have h9 := congrArg Addr.block e; simp only at h9; omega)).trans hcell⟩
theorem Cur.grown {row : Option Nat} (h : Cur x g k) (hg : x.grownBy y row) (hr : ∀ r, row = some r → g < r) : Cur y g k := by
  obtain ⟨A, n, c, q, s, hB, hq, hr2⟩ := h.ex
  refine ⟨A, n, c, q, s, (hg.block g hB.lt (fun e => by have := hr g e.symm; omega)).trans hB, hq, hr2.1, fun h0 => ?_⟩
  obtain ⟨gc, off, hA, h1, h2, hc⟩ := hr2.2 h0
  refine ⟨gc, off, hA, h1, Nat.lt_of_lt_of_le h2 hg.size, fun j hj => ?_⟩
  obtain ⟨b, hb, hcell⟩ := hc j hj
  refine ⟨b, hb, ?_⟩
  rw [← hcell]
  unfold World.cell?
  rw [hg.block gc h2 (fun e => by have := hr gc e.symm; omega)]
end
theorem lowbyte (S : Int) (h0 : 0 ≤ S) (h1 : S < 18446744073709551616) : 0 ≤ wrap64 (bits .and .u64 (S / 1099511627776) 255) ∧ wrap64 (bits .and .u64 (S / 1099511627776) 255) ≤ 255 := by
  obtain ⟨a, ha⟩ : ∃ a : Nat, S / 1099511627776 = a := ⟨(S / 1099511627776).toNat, by omega⟩
  have h2 := bits_and_u64_nat a 255 (by omega) (by decide)
  rw [ha, show (255 : Int) = ((255 : Nat) : Int) from rfl, h2]
  have h3 : a &&& 255 ≤ 255 := Nat.and_le_right
  unfold wrap64
  omega
theorem wrap_bd (n : Int) : 0 ≤ IntKind.u64.wrap n ∧ IntKind.u64.wrap n < 18446744073709551616 := by
  rw [IntKind.wrap_u64]
  omega
set_option maxRecDepth 8000 in
set_option maxHeartbeats 4000000 in
theorem next_any (g k : Nat) (w : World) (hc : Cur w g k) (hk : k ≤ 1000000) :
    Calls Tryz.prog 154 #[.pointer (some ⟨g, 0, none⟩)] w fun e w' => (∃ b : Int, 0 ≤ b ∧ b ≤ 255 ∧ e = .returned (.int .i64 b)) ∧ Cur w' g (k + 1) ∧ Dg g w w' := by
  obtain ⟨A, n, c, q, s, hB, hq, hr⟩ := hc.ex
  clear hc
  have hn := hr.1
  unfold maxLen at hn
  have hqn : (q : Int) ≤ 1000000 := by omega
  have Hq := Lib.hid hq
  have HB0 := Lib.hid hB
  have Hr0 := Lib.hid hr
  have Hd0 := Lib.hid (Dg.refl g w)
  have r0 := hB.cell 0
  have r1 := hB.cell 1
  have r2 := hB.cell 2
  have rl := hB.lt
  simp at r0 r1 r2
  clear hB hr hq hk
  go_enter Tryz.func154, Tryz.ntmps154
  go_wp2
  refine wp_region_tame (by kernel_rfl) (by kernel_rfl) (fun T _ W hT => ?_)
  have hx := hT.cell
  repeat (go_big_quiet_step (fail))
  refine wpQuiet_nil ?_
  intro t
  clear hx
  have hbt := hT.below t
  generalize W t = wt1 at hbt ⊢
  clear hT r0 r1 r2 rl
  have HB1 := Lib.hid (HB0.out.on hbt)
  have Hr1 := Lib.hid (Hr0.out.dg (Dg.of_below (g := g) hbt))
  have Hd1 := Lib.hid (Hd0.out.on hbt)
  clear hbt
  have r0 := HB1.out.cell 0
  have r1 := HB1.out.cell 1
  have r2 := HB1.out.cell 2
  have rl := HB1.out.lt
  have rf := HB1.out.frozen
  simp at r0 r1 r2
  by_cases hlt : q < n
  · obtain ⟨gc, off, rfl, hgc, hgl, hcell⟩ := Hr1.out.2 (by omega)
    obtain ⟨b, hb, f0⟩ := hcell q hlt
    clear hcell
    have hb0 : (b : Int) ≤ 255 := by omega
    have hqq : (q : Int) < (n : Int) := by omega
    clear rf
    go_wp2
    refine wp_region_tame (by kernel_rfl) (by kernel_rfl) (fun T _ W hT => ?_)
    have hx := hT.cell
    repeat (go_big_quiet_step (fail))
    refine wpQuiet_nil ?_
    intro t
    clear hx
    have hbt := hT.below t
    generalize W t = wt2 at hbt ⊢
    clear hT r0 r1 r2 rl f0
    have HB2 := Lib.hid (HB1.out.on hbt)
    have Hr2 := Lib.hid (Hr1.out.dg (Dg.of_below (g := g) hbt))
    have Hd2 := Lib.hid (Hd1.out.on hbt)
    clear hbt
    have r0 := HB2.out.cell 0
    have r1 := HB2.out.cell 1
    have r2 := HB2.out.cell 2
    have rl := HB2.out.lt
    have rf := HB2.out.frozen
    simp at r0 r1 r2
    go_wp2
    have HS := Lib.hid (wrap_bd (IntKind.u64.wrap (IntKind.u64.wrap (s * 6364136223846793005) + (b : Int)) + 1442695040888963407))
    generalize IntKind.u64.wrap (IntKind.u64.wrap (IntKind.u64.wrap (s * 6364136223846793005) + (b : Int)) + 1442695040888963407) = S at HS ⊢
    have HBq := Lib.hid (show Blk (World.setCell (World.setCell wt2 ⟨g, 1, none⟩ (.int .i64 ((q : Int) + 1))) ⟨g, 2, none⟩ (.int .u64 S)) g _ _ from HB2.out.set12)
    have Hrq := Lib.hid (Hr2.out.dg (show Dg g wt2 (World.setCell (World.setCell wt2 ⟨g, 1, none⟩ (.int .i64 ((q : Int) + 1))) ⟨g, 2, none⟩ (.int .u64 S)) from ((Dg.refl g _).stg _ _).stg _ _))
    have Hdq := Lib.hid (show Dg g w (World.setCell (World.setCell wt2 ⟨g, 1, none⟩ (.int .i64 ((q : Int) + 1))) ⟨g, 2, none⟩ (.int .u64 S)) from (Hd2.out.stg _ _).stg _ _)
    generalize (World.setCell (World.setCell wt2 ⟨g, 1, none⟩ (.int .i64 ((q : Int) + 1))) ⟨g, 2, none⟩ (.int .u64 S)) = wq at HBq Hrq Hdq ⊢
    clear r0 r1 r2 rl rf
    have r0 := HBq.out.cell 0
    have r1 := HBq.out.cell 1
    have r2 := HBq.out.cell 2
    have rl := HBq.out.lt
    have rf := HBq.out.frozen
    simp at r0 r1 r2
    refine wp_region_tame (by kernel_rfl) (by kernel_rfl) (fun T _ W hT => ?_)
    have hx := hT.cell
    repeat (go_big_quiet_step (fail))
    refine wpQuiet_nil ?_
    intro t
    clear hx
    have hbt := hT.below t
    generalize W t = wt9 at hbt ⊢
    clear hT r0 r1 r2 rl
    have HB9 := Lib.hid (HBq.out.on hbt)
    have Hr9 := Lib.hid (Hrq.out.dg (Dg.of_below (g := g) hbt))
    have Hd9 := Lib.hid (Hdq.out.on hbt)
    clear hbt
    have r0 := HB9.out.cell 0
    have r1 := HB9.out.cell 1
    have r2 := HB9.out.cell 2
    have rl := HB9.out.lt
    have rf := HB9.out.frozen
    simp at r0 r1 r2
    have hqq9 : (q : Int) + 1 ≤ (n : Int) := by omega
    go_wp2
    go_ret
    exact ⟨⟨_, by omega, by omega, rfl⟩, ⟨_, n, c, q + 1, S, by have h9 := HB9.out; rw [show ((q + 1 : Nat) : Int) = (q : Int) + 1 by omega]; exact h9, by have := Hq.out; omega, Hr9.out⟩, Hd9.out⟩
  · go_wp2
    have HS := Lib.hid (wrap_bd (IntKind.u64.wrap (IntKind.u64.wrap (s * 6364136223846793005)) + 1442695040888963407))
    generalize IntKind.u64.wrap (IntKind.u64.wrap (IntKind.u64.wrap (s * 6364136223846793005)) + 1442695040888963407) = S at HS ⊢
    have HBq := Lib.hid (show Blk (World.setCell (World.setCell wt1 ⟨g, 1, none⟩ (.int .i64 ((q : Int) + 1))) ⟨g, 2, none⟩ (.int .u64 S)) g _ _ from HB1.out.set12)
    have Hrq := Lib.hid (Hr1.out.dg (show Dg g wt1 (World.setCell (World.setCell wt1 ⟨g, 1, none⟩ (.int .i64 ((q : Int) + 1))) ⟨g, 2, none⟩ (.int .u64 S)) from ((Dg.refl g _).stg _ _).stg _ _))
    have Hdq := Lib.hid (show Dg g w (World.setCell (World.setCell wt1 ⟨g, 1, none⟩ (.int .i64 ((q : Int) + 1))) ⟨g, 2, none⟩ (.int .u64 S)) from (Hd1.out.stg _ _).stg _ _)
    generalize (World.setCell (World.setCell wt1 ⟨g, 1, none⟩ (.int .i64 ((q : Int) + 1))) ⟨g, 2, none⟩ (.int .u64 S)) = wq at HBq Hrq Hdq ⊢
    clear r0 r1 r2 rl rf
    have r0 := HBq.out.cell 0
    have r1 := HBq.out.cell 1
    have r2 := HBq.out.cell 2
    have rl := HBq.out.lt
    have rf := HBq.out.frozen
    simp at r0 r1 r2
    refine wp_region_tame (by kernel_rfl) (by kernel_rfl) (fun T _ W hT => ?_)
    have hx := hT.cell
    repeat (go_big_quiet_step (fail))
    refine wpQuiet_nil ?_
    intro t
    clear hx
    have hbt := hT.below t
    generalize W t = wt9 at hbt ⊢
    clear hT r0 r1 r2 rl
    have HB9 := Lib.hid (HBq.out.on hbt)
    have Hr9 := Lib.hid (Hrq.out.dg (Dg.of_below (g := g) hbt))
    have Hd9 := Lib.hid (Hdq.out.on hbt)
    clear hbt
    have r0 := HB9.out.cell 0
    have r1 := HB9.out.cell 1
    have r2 := HB9.out.cell 2
    have rl := HB9.out.lt
    have rf := HB9.out.frozen
    simp at r0 r1 r2
    have hqq9 : ¬ (q : Int) + 1 ≤ (n : Int) := by omega
    have Hlb := Lib.hid (lowbyte S HS.out.1 HS.out.2)
    go_wp2
    go_ret
    exact ⟨⟨_, Hlb.out.1, Hlb.out.2, rfl⟩, ⟨_, n, c, q + 1, S, by have h9 := HB9.out; rw [show ((q + 1 : Nat) : Int) = (q : Int) + 1 by omega]; exact h9, by have := Hq.out; omega, Hr9.out⟩, Hd9.out⟩
theorem emod_bd {x n : Int} (hn : 1 < n) : 0 ≤ x % n ∧ x % n ≤ n - 1 := by
  have h1 := Int.emod_nonneg x (show n ≠ 0 by omega)
  have h2 := Int.emod_lt_of_pos x (show 0 < n by omega)
  omega
set_option maxRecDepth 8000 in
set_option maxHeartbeats 4000000 in
theorem pick_any (g k : Nat) (n : Int) (w : World) (hc : Cur w g k) (hk : k ≤ 900000) :
    Calls Tryz.prog 102 #[.pointer (some ⟨g, 0, none⟩), .int .i64 n] w fun e w' => (∃ x : Int, 0 ≤ x ∧ x ≤ max (n - 1) 0 ∧ e = .returned (.int .i64 x)) ∧ Cur w' g (k + 2) ∧ Dg g w w' := by
  have Hc := Lib.hid hc; clear hc
  have Hk := Lib.hid hk; clear hk
  by_cases h1 : n ≤ 1
  · go_enter Tryz.func102, Tryz.ntmps102
    go_wp2
    go_ret
    exact ⟨⟨0, by omega, by omega, rfl⟩, Hc.out.mono (by omega), Dg.refl _ _⟩
  · go_enter Tryz.func102, Tryz.ntmps102
    go_wp2_with fail
    refine (next_any g k _ Hc.out (by have := Hk.out; omega)).mono ?_; rintro e w1 ⟨⟨b, hb0, hb1, rfl⟩, hc1, hd1⟩
    have Hc1 := Lib.hid hc1; have Hd1 := Lib.hid hd1; clear hc1 hd1
    by_cases h2 : n > 200
    · go_wp2_with fail
      refine (next_any g (k + 1) _ Hc1.out (by have := Hk.out; omega)).mono ?_; rintro e w2 ⟨⟨b2, hb3, hb4, rfl⟩, hc2, hd2⟩
      have Hc2 := Lib.hid hc2; have Hd2 := Lib.hid (Hd1.out.trans hd2); clear hc2 hd2
      have hn1 : (1 : Int) < n := by omega
      have Hm := Lib.hid (emod_bd (x := b * 256 + b2) hn1)
      have hn0 : n ≠ 0 := by omega
      go_wp2
      go_ret
      exact ⟨⟨_, Hm.out.1, by have := Hm.out.2; omega, rfl⟩, Hc2.out, Hd2.out⟩
    · have hn1 : (1 : Int) < n := by omega
      have Hm := Lib.hid (emod_bd (x := b) hn1)
      have hn0 : n ≠ 0 := by omega
      go_wp2
      go_ret
      exact ⟨⟨_, Hm.out.1, by have := Hm.out.2; omega, rfl⟩, Hc1.out.mono (by omega), Hd1.out⟩
set_option maxHeartbeats 1000000 in
theorem one_any (g k : Nat) (n : Int) (w : World) (hc : Cur w g k) (hk : k ≤ 900000) :
    Calls Tryz.prog 59 #[.pointer (some ⟨g, 0, none⟩), .int .i64 n] w fun e w' => (∃ b : Bool, e = .returned (.bool b)) ∧ Cur w' g (k + 2) ∧ Dg g w w' := by
  have Hc := Lib.hid hc; clear hc
  have Hk := Lib.hid hk; clear hk
  go_enter Tryz.func59, Tryz.ntmps59
  go_wp2_with fail
  refine (pick_any g k n _ Hc.out Hk.out).mono ?_; rintro e w1 ⟨⟨x, hx0, hx1, rfl⟩, hc1, hd1⟩
  clear hx0 hx1
  go_wp2
  go_ret
  exact ⟨⟨_, rfl⟩, hc1, hd1⟩
/-- A slice of ints just made. -/
theorem rdI (w : World) (t : TypeId) (es : List Int) (hl : es.length ≤ 1000) : Rd inS (w.alloc (.cells (es.map (Value.int .i64)).toArray t)) (w.alloc (.cells (es.map (Value.int .i64)).toArray t)).heap.size (.slice (some ⟨w.heap.size, 0, none⟩) es.length es.length) es := by
  refine ⟨_, es.length, rfl, Nat.le_refl _, by unfold maxLen; omega, fun _ => ⟨w.heap.size, 0, rfl, by rw [World.size_alloc]; omega, fun k hk j hj => ?_⟩⟩
  have hj0 : j = 0 := by simp [inS] at hj; exact hj
  subst hj0
  rw [show 0 + k * inS.size + 0 = k by simp [inS], (Blk.new w t (es.map (Value.int .i64)).toArray).cell k]
  simp only [List.getElem?_toArray, List.getElem?_map, List.getElem?_eq_getElem hk, Option.map_some]
  show some (Value.int .i64 es[k]) = some (Value.int .i64 (inS.get es k))
  unfold Shape.get
  rw [List.getD_eq_getElem?_getD, List.getElem?_eq_getElem hk]; rfl
set_option maxHeartbeats 1000000 in
theorem among_any (g k : Nat) (v : Value) (es : List Int) (w : World) (hc : Cur w g k) (hv : Rd inS w w.heap.size v es) (hne : es ≠ []) (hng : ∀ A n c, v = .slice (some A) n c → A.block ≠ g) (hk : k ≤ 900000) :
    Calls Tryz.prog 95 #[.pointer (some ⟨g, 0, none⟩), v] w fun e w' => (∃ y : Int, y ∈ es ∧ e = .returned (.int .i64 y)) ∧ Cur w' g (k + 2) ∧ Dg g w w' := by
  have Hc := Lib.hid hc; clear hc
  have Hk := Lib.hid hk; clear hk
  have h0 : 0 < es.length := List.length_pos_iff.2 hne
  obtain ⟨A, c, rfl, hcc, hm, hA⟩ := hv
  unfold maxLen at hm
  obtain ⟨ga, off, rfl, hga, hcell⟩ := hA h0
  have hgg := hng _ _ _ rfl
  have hcell := in_cells hcell
  simp only at hgg
  clear hA hne hng
  go_enter Tryz.func95, Tryz.ntmps95
  go_wp2_with fail
  refine (pick_any g k (es.length : Int) _ Hc.out Hk.out).mono ?_; rintro e w1 ⟨⟨x, hx0, hx1, rfl⟩, hc1, hd1⟩
  obtain ⟨q, rfl⟩ : ∃ q : Nat, x = q := ⟨x.toNat, by omega⟩
  have hql : q < es.length := by omega
  have f0 := (dcell (p := ⟨ga, off + q, none⟩) hd1 hga hgg).trans (hcell q hql)
  have hgs := Nat.lt_of_lt_of_le hga hd1.size
  have Hmem : Hid (inS.get es q ∈ es) := Lib.hid (by unfold Shape.get; rw [List.getD_eq_getElem?_getD, List.getElem?_eq_getElem hql]; exact List.getElem_mem hql)
  generalize inS.get es q = y at f0 Hmem
  have Hc1 := Lib.hid hc1; have Hd1 := Lib.hid hd1
  have hi1 : (q : Int) < (es.length : Int) := by omega
  clear hcell hc1 hd1 hx1
  go_wp2
  go_ret
  exact ⟨⟨_, Hmem.out, rfl⟩, Hc1.out, Hd1.out⟩
end
section
open Go Go.RowKit

/-- What a step leaves: the flag and the fraction; {0, 1} behind a step that failed. -/
def KpQ (k : Bool) (o : Option Fq) (x y : Int) (k' : Bool) : Prop := (k' = true ∧ k = true ∧ o = some (x, y)) ∨ (k' = false ∧ (k = false ∨ o = none) ∧ x = 0 ∧ y = 1)
theorem KpQ.ex (k : Bool) (o : Option Fq) : ∃ x y k', KpQ k o x y k' := by
  cases k with
  | false => exact ⟨0, 1, false, Or.inr ⟨rfl, Or.inl rfl, rfl, rfl⟩⟩
  | true => cases o with
    | none => exact ⟨0, 1, false, Or.inr ⟨rfl, Or.inr rfl, rfl, rfl⟩⟩
    | some f => exact ⟨f.1, f.2, true, Or.inl ⟨rfl, rfl, rfl⟩⟩
theorem KpQ.yes {k k' : Bool} {o : Option Fq} {x y : Int} (h : KpQ k o x y k') (e : k' = true) : k = true ∧ o = some (x, y) := by
  rcases h with h | h
  · exact h.2
  · rw [h.1] at e; cases e
theorem KpQ.no {k k' : Bool} {o : Option Fq} {x y : Int} (h : KpQ k o x y k') (e : k' = false) : k = false ∨ o = none := by
  rcases h with h | h
  · rw [h.1] at e; cases e
  · exact h.2.1
theorem KpQ.keep {k k' ok : Bool} {o : Option Fq} {x y u v : Int} (h : KpQ k o x y k') (hf : FrQ o u v ok) : k' = (k && ok) ∧ x = (if k' = true then u else 0) ∧ y = (if k' = true then v else 1) := by
  rcases h with ⟨rfl, rfl, rfl⟩ | ⟨rfl, h, rfl, rfl⟩
  · obtain ⟨rfl, rfl, rfl⟩ := hf
    exact ⟨rfl, rfl, rfl⟩
  · refine ⟨?_, rfl, rfl⟩
    rcases h with rfl | rfl
    · rfl
    · obtain ⟨-, -, rfl⟩ := hf
      rw [Bool.and_false]
def whoG (n : Int) : Option Fq := mkF 1000000000 n 1

set_option linter.unusedSimpArgs false in
set_option maxHeartbeats 1600000 in
theorem keep_lit {g : Nat} {k k2 ok : Bool} {x y u v : Int} (h : k2 = (k && ok) ∧ x = (if k2 = true then u else 0) ∧ y = (if k2 = true then v else 1)) (w : World) (hK : Blk w g 90 #[.bool k]) :
    Calls Tryz.prog 127 #[.pointer (some ⟨g, 0, none⟩), .agg #[.int .i64 u, .int .i64 v], .bool ok] w fun e w' => e = .returned (.agg #[.int .i64 x, .int .i64 y]) ∧ Blk w' g 90 #[.bool k2] ∧ Dg g w w' := by
  have K := Lib.hid hK; have SK := Lib.hid hK.lt; clear hK
  cases k
  · obtain ⟨rfl, rfl, rfl⟩ : k2 = false ∧ x = 0 ∧ y = 1 := by obtain ⟨h1, h2, h3⟩ := h; rw [Bool.false_and] at h1; subst h1; exact ⟨rfl, h2, h3⟩
    clear h
    go_enter Tryz.func127, Tryz.ntmps127
    have qK0 : w.cell? ⟨g, 0, none⟩ = some (.bool false) := K.out.cell 0
    have qKl := K.out.lt
    have qKl1 : g < w.heap.size + 1 := Nat.lt_succ_of_lt qKl
    have qKf0 := K.out.frozen 0
    go_wp2
    clear qK0 qKl qKl1 qKf0
    have R9K : Blk _ g 90 #[.bool false] := (show Blk (World.alloc (World.alloc (World.setCell w ⟨g, 0, none⟩ (.bool false)) (Obj.cells #[.int .i64 u, .int .i64 v] 42)) (Obj.cells #[.int .i64 0, .int .i64 1] 42)) (g) 90 #[.bool false] by have h9 := (((K.out.set 0 (.bool false)).alloc (Obj.cells #[.int .i64 u, .int .i64 v] 42)).alloc (Obj.cells #[.int .i64 0, .int .i64 1] 42)); simpa using h9)
    have R9R := (show Blk (World.alloc (World.alloc (World.setCell w ⟨g, 0, none⟩ (.bool false)) (Obj.cells #[.int .i64 u, .int .i64 v] 42)) (Obj.cells #[.int .i64 0, .int .i64 1] 42)) (w.heap.size + 1) 42 #[.int .i64 0, .int .i64 1] by have h9 := (Blk.new (World.alloc (World.setCell w ⟨g, 0, none⟩ (.bool false)) (Obj.cells #[.int .i64 u, .int .i64 v] 42)) 42 #[.int .i64 0, .int .i64 1]); (try simp only [World.size_alloc, World.size_setCell] at h9); exact h9)
    have k0 := R9R.cell 0; have k1 := R9R.cell 1
    simp at k0 k1
    exact bodyPost_ret (v := .agg #[.int .i64 0, .int .i64 1]) (by simp [results, Tryz.results127, go_sem, k0, k1]) rfl ⟨rfl, R9K, ((((Dg.refl g w).stg 0 (.bool false)).alloc (Obj.cells #[.int .i64 u, .int .i64 v] 42)).alloc (Obj.cells #[.int .i64 0, .int .i64 1] 42))⟩
  · cases ok
    · obtain ⟨rfl, rfl, rfl⟩ : k2 = false ∧ x = 0 ∧ y = 1 := by obtain ⟨h1, h2, h3⟩ := h; rw [Bool.and_false] at h1; subst h1; exact ⟨rfl, h2, h3⟩
      clear h
      go_enter Tryz.func127, Tryz.ntmps127
      have qK0 : w.cell? ⟨g, 0, none⟩ = some (.bool true) := K.out.cell 0
      have qKl := K.out.lt
      have qKl1 : g < w.heap.size + 1 := Nat.lt_succ_of_lt qKl
      have qKf0 := K.out.frozen 0
      go_wp2
      clear qK0 qKl qKl1 qKf0
      have R9K : Blk _ g 90 #[.bool false] := (show Blk (World.alloc (World.alloc (World.setCell w ⟨g, 0, none⟩ (.bool false)) (Obj.cells #[.int .i64 u, .int .i64 v] 42)) (Obj.cells #[.int .i64 0, .int .i64 1] 42)) (g) 90 #[.bool false] by have h9 := (((K.out.set 0 (.bool false)).alloc (Obj.cells #[.int .i64 u, .int .i64 v] 42)).alloc (Obj.cells #[.int .i64 0, .int .i64 1] 42)); simpa using h9)
      have R9R := (show Blk (World.alloc (World.alloc (World.setCell w ⟨g, 0, none⟩ (.bool false)) (Obj.cells #[.int .i64 u, .int .i64 v] 42)) (Obj.cells #[.int .i64 0, .int .i64 1] 42)) (w.heap.size + 1) 42 #[.int .i64 0, .int .i64 1] by have h9 := (Blk.new (World.alloc (World.setCell w ⟨g, 0, none⟩ (.bool false)) (Obj.cells #[.int .i64 u, .int .i64 v] 42)) 42 #[.int .i64 0, .int .i64 1]); (try simp only [World.size_alloc, World.size_setCell] at h9); exact h9)
      have k0 := R9R.cell 0; have k1 := R9R.cell 1
      simp at k0 k1
      exact bodyPost_ret (v := .agg #[.int .i64 0, .int .i64 1]) (by simp [results, Tryz.results127, go_sem, k0, k1]) rfl ⟨rfl, R9K, ((((Dg.refl g w).stg 0 (.bool false)).alloc (Obj.cells #[.int .i64 u, .int .i64 v] 42)).alloc (Obj.cells #[.int .i64 0, .int .i64 1] 42))⟩
    · obtain ⟨rfl, rfl, rfl⟩ : k2 = true ∧ x = u ∧ y = v := by obtain ⟨h1, h2, h3⟩ := h; rw [Bool.and_true] at h1; subst h1; exact ⟨rfl, h2, h3⟩
      clear h
      go_enter Tryz.func127, Tryz.ntmps127
      have qK0 : w.cell? ⟨g, 0, none⟩ = some (.bool true) := K.out.cell 0
      have qKl := K.out.lt
      have qKl1 : g < w.heap.size + 1 := Nat.lt_succ_of_lt qKl
      have qKf0 := K.out.frozen 0
      go_wp2
      clear qK0 qKl qKl1 qKf0
      have R9K : Blk _ g 90 #[.bool true] := (show Blk (World.alloc (World.alloc (World.setCell w ⟨g, 0, none⟩ (.bool true)) (Obj.cells #[.int .i64 x, .int .i64 y] 42)) (Obj.cells #[.int .i64 x, .int .i64 y] 42)) (g) 90 #[.bool true] by have h9 := (((K.out.set 0 (.bool true)).alloc (Obj.cells #[.int .i64 x, .int .i64 y] 42)).alloc (Obj.cells #[.int .i64 x, .int .i64 y] 42)); simpa using h9)
      have R9R := (show Blk (World.alloc (World.alloc (World.setCell w ⟨g, 0, none⟩ (.bool true)) (Obj.cells #[.int .i64 x, .int .i64 y] 42)) (Obj.cells #[.int .i64 x, .int .i64 y] 42)) (w.heap.size + 1) 42 #[.int .i64 x, .int .i64 y] by have h9 := (Blk.new (World.alloc (World.setCell w ⟨g, 0, none⟩ (.bool true)) (Obj.cells #[.int .i64 x, .int .i64 y] 42)) 42 #[.int .i64 x, .int .i64 y]); (try simp only [World.size_alloc, World.size_setCell] at h9); exact h9)
      have k0 := R9R.cell 0; have k1 := R9R.cell 1
      simp at k0 k1
      exact bodyPost_ret (v := .agg #[.int .i64 x, .int .i64 y]) (by simp [results, Tryz.results127, go_sem, k0, k1]) rfl ⟨rfl, R9K, ((((Dg.refl g w).stg 0 (.bool true)).alloc (Obj.cells #[.int .i64 x, .int .i64 y] 42)).alloc (Obj.cells #[.int .i64 x, .int .i64 y] 42))⟩
set_option linter.unusedSimpArgs false in
set_option maxHeartbeats 1600000 in
theorem whole_lit {g : Nat} {k k2 : Bool} {n x y : Int} (h : KpQ k (whoG n) x y k2) (hn : -4000000000000000000 ≤ n ∧ n ≤ 4000000000000000000) (w : World) (hK : Blk w g 90 #[.bool k]) :
    Calls Tryz.prog 66 #[.pointer (some ⟨g, 0, none⟩), .int .i64 n] w fun e w' => e = .returned (.agg #[.int .i64 x, .int .i64 y]) ∧ Blk w' g 90 #[.bool k2] ∧ Dg g w w' := by
  obtain ⟨u, v, ok, hf⟩ := FrQ.ex (whoG n)
  have Hf := Lib.hid hf; have Hk := Lib.hid (h.keep hf); clear hf h
  have K := Lib.hid hK; have SK := Lib.hid hK.lt; clear hK
  go_enter Tryz.func66, Tryz.ntmps66
  go_wp2_with fail
  refine (mkI_lit Hf.out (by omega) _ (by omega) (by omega)).mono ?_; rintro e w1 ⟨rfl, hb1⟩
  have S1 := Lib.hid (show w.heap.size + 1 ≤ w1.heap.size by have h9 := hb1.size; (try simp only [World.size_alloc, World.size_setCell, World.size_drew] at h9); omega)
  have NK := Lib.hid ((K.out.alloc (Obj.cells #[.int .i64 0, .int .i64 0] 42)).on hb1)
  have NR := Lib.hid ((Blk.new w 42 #[.int .i64 0, .int .i64 0]).on hb1)
  have K := NK; clear NK
  have R := NR; clear NR
  have Hb1 := Lib.hid (Dg.on ((Dg.refl g w).alloc (Obj.cells #[.int .i64 0, .int .i64 0] 42)) hb1)
  clear hb1
  go_wp2_with fail
  refine (keep_lit Hk.out _ (K.out)).mono ?_; rintro e w2 ⟨rfl, hk2, hb2⟩
  have S2 := Lib.hid (show w1.heap.size + 0 ≤ w2.heap.size by have h9 := hb2.size; (try simp only [World.size_alloc, World.size_setCell, World.size_drew] at h9); omega)
  have NR := Lib.hid (R.out.dg hb2 (show w.heap.size ≠ g by have := SK.out; have := S1.out; have := S2.out; (try simp only [World.size_alloc, World.size_setCell, World.size_drew]); omega))
  have NK := Lib.hid (show Blk w2 (g) 90 #[.bool k2] from hk2)
  clear hk2
  have R := NR; clear NR
  have K := NK; clear NK
  have Hb2 := Lib.hid (Dg.trans Hb1.out hb2)
  clear hb2
  have qR0 : w2.cell? ⟨w.heap.size, 0, none⟩ = some (.int .i64 0) := R.out.cell 0
  have qR1 : w2.cell? ⟨w.heap.size, 1, none⟩ = some (.int .i64 0) := R.out.cell 1
  have qRl := R.out.lt
  have qRf0 := R.out.frozen 0
  have qRf1 := R.out.frozen 1
  go_wp2
  clear qR0 qR1 qRl qRf0 qRf1
  have R9R := (show Blk (World.setCell (World.setCell w2 ⟨w.heap.size, 0, none⟩ (.int .i64 x)) ⟨w.heap.size, 1, none⟩ (.int .i64 y)) (w.heap.size) 42 #[.int .i64 x, .int .i64 y] by have h9 := ((R.out.set 0 (.int .i64 x)).set 1 (.int .i64 y)); simpa using h9)
  have kR0 := R9R.cell 0
  have kR1 := R9R.cell 1
  simp at kR0 kR1
  have R9K := ((K.out.far (p := ⟨w.heap.size, 0, none⟩) (show g ≠ w.heap.size by have := SK.out; have := S1.out; have := S2.out; (try simp only [World.size_alloc, World.size_setCell, World.size_drew]); omega) (.int .i64 x)).far (p := ⟨w.heap.size, 1, none⟩) (show g ≠ w.heap.size by have := SK.out; have := S1.out; have := S2.out; (try simp only [World.size_alloc, World.size_setCell, World.size_drew]); omega) (.int .i64 y))
  exact bodyPost_ret (v := .agg #[.int .i64 x, .int .i64 y]) (by simp [results, Tryz.results66, go_sem, kR0, kR1]) rfl ⟨rfl, R9K, ((Hb2.out.st (p := ⟨w.heap.size, 0, none⟩) (show w.heap.size ≤ w.heap.size by have := SK.out; have := S1.out; have := S2.out; (try simp only [World.size_alloc, World.size_setCell, World.size_drew]); omega) (.int .i64 x)).st (p := ⟨w.heap.size, 1, none⟩) (show w.heap.size ≤ w.heap.size by have := SK.out; have := S1.out; have := S2.out; (try simp only [World.size_alloc, World.size_setCell, World.size_drew]); omega) (.int .i64 y))⟩
set_option linter.unusedSimpArgs false in
set_option maxHeartbeats 1600000 in
theorem plus_lit {g : Nat} {k k2 : Bool} {a b c d x y : Int} (h : KpQ k (sumG (a, b) (c, d)) x y k2) (w : World) (hK : Blk w g 90 #[.bool k]) :
    Calls Tryz.prog 65 #[.pointer (some ⟨g, 0, none⟩), .agg #[.int .i64 a, .int .i64 b], .agg #[.int .i64 c, .int .i64 d]] w fun e w' => e = .returned (.agg #[.int .i64 x, .int .i64 y]) ∧ Blk w' g 90 #[.bool k2] ∧ Dg g w w' := by
  obtain ⟨u, v, ok, hf⟩ := FrQ.ex (sumG (a, b) (c, d))
  have Hf := Lib.hid hf; have Hk := Lib.hid (h.keep hf); clear hf h
  have K := Lib.hid hK; have SK := Lib.hid hK.lt; clear hK
  go_enter Tryz.func65, Tryz.ntmps65
  go_wp2_with fail
  refine (sumI_lit Hf.out _).mono ?_; rintro e w1 ⟨rfl, hb1⟩
  have S1 := Lib.hid (show w.heap.size + 3 ≤ w1.heap.size by have h9 := hb1.size; (try simp only [World.size_alloc, World.size_setCell, World.size_drew] at h9); omega)
  have NK := Lib.hid ((((K.out.alloc (Obj.cells #[.int .i64 a, .int .i64 b] 42)).alloc (Obj.cells #[.int .i64 c, .int .i64 d] 42)).alloc (Obj.cells #[.int .i64 0, .int .i64 0] 42)).on hb1)
  have NA := Lib.hid ((((Blk.new w 42 #[.int .i64 a, .int .i64 b]).alloc (Obj.cells #[.int .i64 c, .int .i64 d] 42)).alloc (Obj.cells #[.int .i64 0, .int .i64 0] 42)).on hb1)
  have NB := Lib.hid (((show Blk (World.alloc (World.alloc w (Obj.cells #[.int .i64 a, .int .i64 b] 42)) (Obj.cells #[.int .i64 c, .int .i64 d] 42)) (w.heap.size + 1) 42 #[.int .i64 c, .int .i64 d] by have h9 := (Blk.new (World.alloc w (Obj.cells #[.int .i64 a, .int .i64 b] 42)) 42 #[.int .i64 c, .int .i64 d]); (try simp only [World.size_alloc, World.size_setCell] at h9); exact h9).alloc (Obj.cells #[.int .i64 0, .int .i64 0] 42)).on hb1)
  have NR := Lib.hid ((show Blk (World.alloc (World.alloc (World.alloc w (Obj.cells #[.int .i64 a, .int .i64 b] 42)) (Obj.cells #[.int .i64 c, .int .i64 d] 42)) (Obj.cells #[.int .i64 0, .int .i64 0] 42)) (w.heap.size + 1 + 1) 42 #[.int .i64 0, .int .i64 0] by have h9 := (Blk.new (World.alloc (World.alloc w (Obj.cells #[.int .i64 a, .int .i64 b] 42)) (Obj.cells #[.int .i64 c, .int .i64 d] 42)) 42 #[.int .i64 0, .int .i64 0]); (try simp only [World.size_alloc, World.size_setCell] at h9); exact h9).on hb1)
  have K := NK; clear NK
  have A := NA; clear NA
  have B := NB; clear NB
  have R := NR; clear NR
  have Hb1 := Lib.hid (Dg.on ((((Dg.refl g w).alloc (Obj.cells #[.int .i64 a, .int .i64 b] 42)).alloc (Obj.cells #[.int .i64 c, .int .i64 d] 42)).alloc (Obj.cells #[.int .i64 0, .int .i64 0] 42)) hb1)
  clear hb1
  go_wp2_with fail
  refine (keep_lit Hk.out _ (K.out)).mono ?_; rintro e w2 ⟨rfl, hk2, hb2⟩
  have S2 := Lib.hid (show w1.heap.size + 0 ≤ w2.heap.size by have h9 := hb2.size; (try simp only [World.size_alloc, World.size_setCell, World.size_drew] at h9); omega)
  have NA := Lib.hid (A.out.dg hb2 (show w.heap.size ≠ g by have := SK.out; have := S1.out; have := S2.out; (try simp only [World.size_alloc, World.size_setCell, World.size_drew]); omega))
  have NB := Lib.hid (B.out.dg hb2 (show w.heap.size + 1 ≠ g by have := SK.out; have := S1.out; have := S2.out; (try simp only [World.size_alloc, World.size_setCell, World.size_drew]); omega))
  have NR := Lib.hid (R.out.dg hb2 (show w.heap.size + 1 + 1 ≠ g by have := SK.out; have := S1.out; have := S2.out; (try simp only [World.size_alloc, World.size_setCell, World.size_drew]); omega))
  have NK := Lib.hid (show Blk w2 (g) 90 #[.bool k2] from hk2)
  clear hk2
  have A := NA; clear NA
  have B := NB; clear NB
  have R := NR; clear NR
  have K := NK; clear NK
  have Hb2 := Lib.hid (Dg.trans Hb1.out hb2)
  clear hb2
  have qR0 : w2.cell? ⟨w.heap.size + 1 + 1, 0, none⟩ = some (.int .i64 0) := R.out.cell 0
  have qR1 : w2.cell? ⟨w.heap.size + 1 + 1, 1, none⟩ = some (.int .i64 0) := R.out.cell 1
  have qRl := R.out.lt
  have qRf0 := R.out.frozen 0
  have qRf1 := R.out.frozen 1
  go_wp2
  clear qR0 qR1 qRl qRf0 qRf1
  have R9R := (show Blk (World.setCell (World.setCell w2 ⟨w.heap.size + 1 + 1, 0, none⟩ (.int .i64 x)) ⟨w.heap.size + 1 + 1, 1, none⟩ (.int .i64 y)) (w.heap.size + 1 + 1) 42 #[.int .i64 x, .int .i64 y] by have h9 := ((R.out.set 0 (.int .i64 x)).set 1 (.int .i64 y)); simpa using h9)
  have kR0 := R9R.cell 0
  have kR1 := R9R.cell 1
  simp at kR0 kR1
  have R9K := ((K.out.far (p := ⟨w.heap.size + 1 + 1, 0, none⟩) (show g ≠ w.heap.size + 1 + 1 by have := SK.out; have := S1.out; have := S2.out; (try simp only [World.size_alloc, World.size_setCell, World.size_drew]); omega) (.int .i64 x)).far (p := ⟨w.heap.size + 1 + 1, 1, none⟩) (show g ≠ w.heap.size + 1 + 1 by have := SK.out; have := S1.out; have := S2.out; (try simp only [World.size_alloc, World.size_setCell, World.size_drew]); omega) (.int .i64 y))
  exact bodyPost_ret (v := .agg #[.int .i64 x, .int .i64 y]) (by simp [results, Tryz.results65, go_sem, kR0, kR1]) rfl ⟨rfl, R9K, ((Hb2.out.st (p := ⟨w.heap.size + 1 + 1, 0, none⟩) (show w.heap.size ≤ w.heap.size + 1 + 1 by have := SK.out; have := S1.out; have := S2.out; (try simp only [World.size_alloc, World.size_setCell, World.size_drew]); omega) (.int .i64 x)).st (p := ⟨w.heap.size + 1 + 1, 1, none⟩) (show w.heap.size ≤ w.heap.size + 1 + 1 by have := SK.out; have := S1.out; have := S2.out; (try simp only [World.size_alloc, World.size_setCell, World.size_drew]); omega) (.int .i64 y))⟩
set_option linter.unusedSimpArgs false in
set_option maxHeartbeats 1600000 in
theorem minus_lit {g : Nat} {k k2 : Bool} {a b c d x y : Int} (h : KpQ k (difG (a, b) (c, d)) x y k2) (w : World) (hK : Blk w g 90 #[.bool k]) :
    Calls Tryz.prog 67 #[.pointer (some ⟨g, 0, none⟩), .agg #[.int .i64 a, .int .i64 b], .agg #[.int .i64 c, .int .i64 d]] w fun e w' => e = .returned (.agg #[.int .i64 x, .int .i64 y]) ∧ Blk w' g 90 #[.bool k2] ∧ Dg g w w' := by
  obtain ⟨u, v, ok, hf⟩ := FrQ.ex (difG (a, b) (c, d))
  have Hf := Lib.hid hf; have Hk := Lib.hid (h.keep hf); clear hf h
  have K := Lib.hid hK; have SK := Lib.hid hK.lt; clear hK
  go_enter Tryz.func67, Tryz.ntmps67
  go_wp2_with fail
  refine (difI_lit Hf.out _).mono ?_; rintro e w1 ⟨rfl, hb1⟩
  have S1 := Lib.hid (show w.heap.size + 3 ≤ w1.heap.size by have h9 := hb1.size; (try simp only [World.size_alloc, World.size_setCell, World.size_drew] at h9); omega)
  have NK := Lib.hid ((((K.out.alloc (Obj.cells #[.int .i64 a, .int .i64 b] 42)).alloc (Obj.cells #[.int .i64 c, .int .i64 d] 42)).alloc (Obj.cells #[.int .i64 0, .int .i64 0] 42)).on hb1)
  have NA := Lib.hid ((((Blk.new w 42 #[.int .i64 a, .int .i64 b]).alloc (Obj.cells #[.int .i64 c, .int .i64 d] 42)).alloc (Obj.cells #[.int .i64 0, .int .i64 0] 42)).on hb1)
  have NB := Lib.hid (((show Blk (World.alloc (World.alloc w (Obj.cells #[.int .i64 a, .int .i64 b] 42)) (Obj.cells #[.int .i64 c, .int .i64 d] 42)) (w.heap.size + 1) 42 #[.int .i64 c, .int .i64 d] by have h9 := (Blk.new (World.alloc w (Obj.cells #[.int .i64 a, .int .i64 b] 42)) 42 #[.int .i64 c, .int .i64 d]); (try simp only [World.size_alloc, World.size_setCell] at h9); exact h9).alloc (Obj.cells #[.int .i64 0, .int .i64 0] 42)).on hb1)
  have NR := Lib.hid ((show Blk (World.alloc (World.alloc (World.alloc w (Obj.cells #[.int .i64 a, .int .i64 b] 42)) (Obj.cells #[.int .i64 c, .int .i64 d] 42)) (Obj.cells #[.int .i64 0, .int .i64 0] 42)) (w.heap.size + 1 + 1) 42 #[.int .i64 0, .int .i64 0] by have h9 := (Blk.new (World.alloc (World.alloc w (Obj.cells #[.int .i64 a, .int .i64 b] 42)) (Obj.cells #[.int .i64 c, .int .i64 d] 42)) 42 #[.int .i64 0, .int .i64 0]); (try simp only [World.size_alloc, World.size_setCell] at h9); exact h9).on hb1)
  have K := NK; clear NK
  have A := NA; clear NA
  have B := NB; clear NB
  have R := NR; clear NR
  have Hb1 := Lib.hid (Dg.on ((((Dg.refl g w).alloc (Obj.cells #[.int .i64 a, .int .i64 b] 42)).alloc (Obj.cells #[.int .i64 c, .int .i64 d] 42)).alloc (Obj.cells #[.int .i64 0, .int .i64 0] 42)) hb1)
  clear hb1
  go_wp2_with fail
  refine (keep_lit Hk.out _ (K.out)).mono ?_; rintro e w2 ⟨rfl, hk2, hb2⟩
  have S2 := Lib.hid (show w1.heap.size + 0 ≤ w2.heap.size by have h9 := hb2.size; (try simp only [World.size_alloc, World.size_setCell, World.size_drew] at h9); omega)
  have NA := Lib.hid (A.out.dg hb2 (show w.heap.size ≠ g by have := SK.out; have := S1.out; have := S2.out; (try simp only [World.size_alloc, World.size_setCell, World.size_drew]); omega))
  have NB := Lib.hid (B.out.dg hb2 (show w.heap.size + 1 ≠ g by have := SK.out; have := S1.out; have := S2.out; (try simp only [World.size_alloc, World.size_setCell, World.size_drew]); omega))
  have NR := Lib.hid (R.out.dg hb2 (show w.heap.size + 1 + 1 ≠ g by have := SK.out; have := S1.out; have := S2.out; (try simp only [World.size_alloc, World.size_setCell, World.size_drew]); omega))
  have NK := Lib.hid (show Blk w2 (g) 90 #[.bool k2] from hk2)
  clear hk2
  have A := NA; clear NA
  have B := NB; clear NB
  have R := NR; clear NR
  have K := NK; clear NK
  have Hb2 := Lib.hid (Dg.trans Hb1.out hb2)
  clear hb2
  have qR0 : w2.cell? ⟨w.heap.size + 1 + 1, 0, none⟩ = some (.int .i64 0) := R.out.cell 0
  have qR1 : w2.cell? ⟨w.heap.size + 1 + 1, 1, none⟩ = some (.int .i64 0) := R.out.cell 1
  have qRl := R.out.lt
  have qRf0 := R.out.frozen 0
  have qRf1 := R.out.frozen 1
  go_wp2
  clear qR0 qR1 qRl qRf0 qRf1
  have R9R := (show Blk (World.setCell (World.setCell w2 ⟨w.heap.size + 1 + 1, 0, none⟩ (.int .i64 x)) ⟨w.heap.size + 1 + 1, 1, none⟩ (.int .i64 y)) (w.heap.size + 1 + 1) 42 #[.int .i64 x, .int .i64 y] by have h9 := ((R.out.set 0 (.int .i64 x)).set 1 (.int .i64 y)); simpa using h9)
  have kR0 := R9R.cell 0
  have kR1 := R9R.cell 1
  simp at kR0 kR1
  have R9K := ((K.out.far (p := ⟨w.heap.size + 1 + 1, 0, none⟩) (show g ≠ w.heap.size + 1 + 1 by have := SK.out; have := S1.out; have := S2.out; (try simp only [World.size_alloc, World.size_setCell, World.size_drew]); omega) (.int .i64 x)).far (p := ⟨w.heap.size + 1 + 1, 1, none⟩) (show g ≠ w.heap.size + 1 + 1 by have := SK.out; have := S1.out; have := S2.out; (try simp only [World.size_alloc, World.size_setCell, World.size_drew]); omega) (.int .i64 y))
  exact bodyPost_ret (v := .agg #[.int .i64 x, .int .i64 y]) (by simp [results, Tryz.results67, go_sem, kR0, kR1]) rfl ⟨rfl, R9K, ((Hb2.out.st (p := ⟨w.heap.size + 1 + 1, 0, none⟩) (show w.heap.size ≤ w.heap.size + 1 + 1 by have := SK.out; have := S1.out; have := S2.out; (try simp only [World.size_alloc, World.size_setCell, World.size_drew]); omega) (.int .i64 x)).st (p := ⟨w.heap.size + 1 + 1, 1, none⟩) (show w.heap.size ≤ w.heap.size + 1 + 1 by have := SK.out; have := S1.out; have := S2.out; (try simp only [World.size_alloc, World.size_setCell, World.size_drew]); omega) (.int .i64 y))⟩
set_option linter.unusedSimpArgs false in
set_option maxHeartbeats 1600000 in
theorem times_lit {g : Nat} {k k2 : Bool} {a b c d x y : Int} (h : KpQ k (mulG (a, b) (c, d)) x y k2) (w : World) (hK : Blk w g 90 #[.bool k]) :
    Calls Tryz.prog 64 #[.pointer (some ⟨g, 0, none⟩), .agg #[.int .i64 a, .int .i64 b], .agg #[.int .i64 c, .int .i64 d]] w fun e w' => e = .returned (.agg #[.int .i64 x, .int .i64 y]) ∧ Blk w' g 90 #[.bool k2] ∧ Dg g w w' := by
  obtain ⟨u, v, ok, hf⟩ := FrQ.ex (mulG (a, b) (c, d))
  have Hf := Lib.hid hf; have Hk := Lib.hid (h.keep hf); clear hf h
  have K := Lib.hid hK; have SK := Lib.hid hK.lt; clear hK
  go_enter Tryz.func64, Tryz.ntmps64
  go_wp2_with fail
  refine (prodI_lit Hf.out _).mono ?_; rintro e w1 ⟨rfl, hb1⟩
  have S1 := Lib.hid (show w.heap.size + 3 ≤ w1.heap.size by have h9 := hb1.size; (try simp only [World.size_alloc, World.size_setCell, World.size_drew] at h9); omega)
  have NK := Lib.hid ((((K.out.alloc (Obj.cells #[.int .i64 a, .int .i64 b] 42)).alloc (Obj.cells #[.int .i64 c, .int .i64 d] 42)).alloc (Obj.cells #[.int .i64 0, .int .i64 0] 42)).on hb1)
  have NA := Lib.hid ((((Blk.new w 42 #[.int .i64 a, .int .i64 b]).alloc (Obj.cells #[.int .i64 c, .int .i64 d] 42)).alloc (Obj.cells #[.int .i64 0, .int .i64 0] 42)).on hb1)
  have NB := Lib.hid (((show Blk (World.alloc (World.alloc w (Obj.cells #[.int .i64 a, .int .i64 b] 42)) (Obj.cells #[.int .i64 c, .int .i64 d] 42)) (w.heap.size + 1) 42 #[.int .i64 c, .int .i64 d] by have h9 := (Blk.new (World.alloc w (Obj.cells #[.int .i64 a, .int .i64 b] 42)) 42 #[.int .i64 c, .int .i64 d]); (try simp only [World.size_alloc, World.size_setCell] at h9); exact h9).alloc (Obj.cells #[.int .i64 0, .int .i64 0] 42)).on hb1)
  have NR := Lib.hid ((show Blk (World.alloc (World.alloc (World.alloc w (Obj.cells #[.int .i64 a, .int .i64 b] 42)) (Obj.cells #[.int .i64 c, .int .i64 d] 42)) (Obj.cells #[.int .i64 0, .int .i64 0] 42)) (w.heap.size + 1 + 1) 42 #[.int .i64 0, .int .i64 0] by have h9 := (Blk.new (World.alloc (World.alloc w (Obj.cells #[.int .i64 a, .int .i64 b] 42)) (Obj.cells #[.int .i64 c, .int .i64 d] 42)) 42 #[.int .i64 0, .int .i64 0]); (try simp only [World.size_alloc, World.size_setCell] at h9); exact h9).on hb1)
  have K := NK; clear NK
  have A := NA; clear NA
  have B := NB; clear NB
  have R := NR; clear NR
  have Hb1 := Lib.hid (Dg.on ((((Dg.refl g w).alloc (Obj.cells #[.int .i64 a, .int .i64 b] 42)).alloc (Obj.cells #[.int .i64 c, .int .i64 d] 42)).alloc (Obj.cells #[.int .i64 0, .int .i64 0] 42)) hb1)
  clear hb1
  go_wp2_with fail
  refine (keep_lit Hk.out _ (K.out)).mono ?_; rintro e w2 ⟨rfl, hk2, hb2⟩
  have S2 := Lib.hid (show w1.heap.size + 0 ≤ w2.heap.size by have h9 := hb2.size; (try simp only [World.size_alloc, World.size_setCell, World.size_drew] at h9); omega)
  have NA := Lib.hid (A.out.dg hb2 (show w.heap.size ≠ g by have := SK.out; have := S1.out; have := S2.out; (try simp only [World.size_alloc, World.size_setCell, World.size_drew]); omega))
  have NB := Lib.hid (B.out.dg hb2 (show w.heap.size + 1 ≠ g by have := SK.out; have := S1.out; have := S2.out; (try simp only [World.size_alloc, World.size_setCell, World.size_drew]); omega))
  have NR := Lib.hid (R.out.dg hb2 (show w.heap.size + 1 + 1 ≠ g by have := SK.out; have := S1.out; have := S2.out; (try simp only [World.size_alloc, World.size_setCell, World.size_drew]); omega))
  have NK := Lib.hid (show Blk w2 (g) 90 #[.bool k2] from hk2)
  clear hk2
  have A := NA; clear NA
  have B := NB; clear NB
  have R := NR; clear NR
  have K := NK; clear NK
  have Hb2 := Lib.hid (Dg.trans Hb1.out hb2)
  clear hb2
  have qR0 : w2.cell? ⟨w.heap.size + 1 + 1, 0, none⟩ = some (.int .i64 0) := R.out.cell 0
  have qR1 : w2.cell? ⟨w.heap.size + 1 + 1, 1, none⟩ = some (.int .i64 0) := R.out.cell 1
  have qRl := R.out.lt
  have qRf0 := R.out.frozen 0
  have qRf1 := R.out.frozen 1
  go_wp2
  clear qR0 qR1 qRl qRf0 qRf1
  have R9R := (show Blk (World.setCell (World.setCell w2 ⟨w.heap.size + 1 + 1, 0, none⟩ (.int .i64 x)) ⟨w.heap.size + 1 + 1, 1, none⟩ (.int .i64 y)) (w.heap.size + 1 + 1) 42 #[.int .i64 x, .int .i64 y] by have h9 := ((R.out.set 0 (.int .i64 x)).set 1 (.int .i64 y)); simpa using h9)
  have kR0 := R9R.cell 0
  have kR1 := R9R.cell 1
  simp at kR0 kR1
  have R9K := ((K.out.far (p := ⟨w.heap.size + 1 + 1, 0, none⟩) (show g ≠ w.heap.size + 1 + 1 by have := SK.out; have := S1.out; have := S2.out; (try simp only [World.size_alloc, World.size_setCell, World.size_drew]); omega) (.int .i64 x)).far (p := ⟨w.heap.size + 1 + 1, 1, none⟩) (show g ≠ w.heap.size + 1 + 1 by have := SK.out; have := S1.out; have := S2.out; (try simp only [World.size_alloc, World.size_setCell, World.size_drew]); omega) (.int .i64 y))
  exact bodyPost_ret (v := .agg #[.int .i64 x, .int .i64 y]) (by simp [results, Tryz.results64, go_sem, kR0, kR1]) rfl ⟨rfl, R9K, ((Hb2.out.st (p := ⟨w.heap.size + 1 + 1, 0, none⟩) (show w.heap.size ≤ w.heap.size + 1 + 1 by have := SK.out; have := S1.out; have := S2.out; (try simp only [World.size_alloc, World.size_setCell, World.size_drew]); omega) (.int .i64 x)).st (p := ⟨w.heap.size + 1 + 1, 1, none⟩) (show w.heap.size ≤ w.heap.size + 1 + 1 by have := SK.out; have := S1.out; have := S2.out; (try simp only [World.size_alloc, World.size_setCell, World.size_drew]); omega) (.int .i64 y))⟩
set_option linter.unusedSimpArgs false in
set_option maxHeartbeats 1600000 in
theorem over_lit {g : Nat} {k k2 : Bool} {a b c d x y : Int} (h : KpQ k (quoG (a, b) (c, d)) x y k2) (w : World) (hK : Blk w g 90 #[.bool k]) :
    Calls Tryz.prog 68 #[.pointer (some ⟨g, 0, none⟩), .agg #[.int .i64 a, .int .i64 b], .agg #[.int .i64 c, .int .i64 d]] w fun e w' => e = .returned (.agg #[.int .i64 x, .int .i64 y]) ∧ Blk w' g 90 #[.bool k2] ∧ Dg g w w' := by
  obtain ⟨u, v, ok, hf⟩ := FrQ.ex (quoG (a, b) (c, d))
  have Hf := Lib.hid hf; have Hk := Lib.hid (h.keep hf); clear hf h
  have K := Lib.hid hK; have SK := Lib.hid hK.lt; clear hK
  go_enter Tryz.func68, Tryz.ntmps68
  go_wp2_with fail
  refine (quoI_lit Hf.out _).mono ?_; rintro e w1 ⟨rfl, hb1⟩
  have S1 := Lib.hid (show w.heap.size + 3 ≤ w1.heap.size by have h9 := hb1.size; (try simp only [World.size_alloc, World.size_setCell, World.size_drew] at h9); omega)
  have NK := Lib.hid ((((K.out.alloc (Obj.cells #[.int .i64 a, .int .i64 b] 42)).alloc (Obj.cells #[.int .i64 c, .int .i64 d] 42)).alloc (Obj.cells #[.int .i64 0, .int .i64 0] 42)).on hb1)
  have NA := Lib.hid ((((Blk.new w 42 #[.int .i64 a, .int .i64 b]).alloc (Obj.cells #[.int .i64 c, .int .i64 d] 42)).alloc (Obj.cells #[.int .i64 0, .int .i64 0] 42)).on hb1)
  have NB := Lib.hid (((show Blk (World.alloc (World.alloc w (Obj.cells #[.int .i64 a, .int .i64 b] 42)) (Obj.cells #[.int .i64 c, .int .i64 d] 42)) (w.heap.size + 1) 42 #[.int .i64 c, .int .i64 d] by have h9 := (Blk.new (World.alloc w (Obj.cells #[.int .i64 a, .int .i64 b] 42)) 42 #[.int .i64 c, .int .i64 d]); (try simp only [World.size_alloc, World.size_setCell] at h9); exact h9).alloc (Obj.cells #[.int .i64 0, .int .i64 0] 42)).on hb1)
  have NR := Lib.hid ((show Blk (World.alloc (World.alloc (World.alloc w (Obj.cells #[.int .i64 a, .int .i64 b] 42)) (Obj.cells #[.int .i64 c, .int .i64 d] 42)) (Obj.cells #[.int .i64 0, .int .i64 0] 42)) (w.heap.size + 1 + 1) 42 #[.int .i64 0, .int .i64 0] by have h9 := (Blk.new (World.alloc (World.alloc w (Obj.cells #[.int .i64 a, .int .i64 b] 42)) (Obj.cells #[.int .i64 c, .int .i64 d] 42)) 42 #[.int .i64 0, .int .i64 0]); (try simp only [World.size_alloc, World.size_setCell] at h9); exact h9).on hb1)
  have K := NK; clear NK
  have A := NA; clear NA
  have B := NB; clear NB
  have R := NR; clear NR
  have Hb1 := Lib.hid (Dg.on ((((Dg.refl g w).alloc (Obj.cells #[.int .i64 a, .int .i64 b] 42)).alloc (Obj.cells #[.int .i64 c, .int .i64 d] 42)).alloc (Obj.cells #[.int .i64 0, .int .i64 0] 42)) hb1)
  clear hb1
  go_wp2_with fail
  refine (keep_lit Hk.out _ (K.out)).mono ?_; rintro e w2 ⟨rfl, hk2, hb2⟩
  have S2 := Lib.hid (show w1.heap.size + 0 ≤ w2.heap.size by have h9 := hb2.size; (try simp only [World.size_alloc, World.size_setCell, World.size_drew] at h9); omega)
  have NA := Lib.hid (A.out.dg hb2 (show w.heap.size ≠ g by have := SK.out; have := S1.out; have := S2.out; (try simp only [World.size_alloc, World.size_setCell, World.size_drew]); omega))
  have NB := Lib.hid (B.out.dg hb2 (show w.heap.size + 1 ≠ g by have := SK.out; have := S1.out; have := S2.out; (try simp only [World.size_alloc, World.size_setCell, World.size_drew]); omega))
  have NR := Lib.hid (R.out.dg hb2 (show w.heap.size + 1 + 1 ≠ g by have := SK.out; have := S1.out; have := S2.out; (try simp only [World.size_alloc, World.size_setCell, World.size_drew]); omega))
  have NK := Lib.hid (show Blk w2 (g) 90 #[.bool k2] from hk2)
  clear hk2
  have A := NA; clear NA
  have B := NB; clear NB
  have R := NR; clear NR
  have K := NK; clear NK
  have Hb2 := Lib.hid (Dg.trans Hb1.out hb2)
  clear hb2
  have qR0 : w2.cell? ⟨w.heap.size + 1 + 1, 0, none⟩ = some (.int .i64 0) := R.out.cell 0
  have qR1 : w2.cell? ⟨w.heap.size + 1 + 1, 1, none⟩ = some (.int .i64 0) := R.out.cell 1
  have qRl := R.out.lt
  have qRf0 := R.out.frozen 0
  have qRf1 := R.out.frozen 1
  go_wp2
  clear qR0 qR1 qRl qRf0 qRf1
  have R9R := (show Blk (World.setCell (World.setCell w2 ⟨w.heap.size + 1 + 1, 0, none⟩ (.int .i64 x)) ⟨w.heap.size + 1 + 1, 1, none⟩ (.int .i64 y)) (w.heap.size + 1 + 1) 42 #[.int .i64 x, .int .i64 y] by have h9 := ((R.out.set 0 (.int .i64 x)).set 1 (.int .i64 y)); simpa using h9)
  have kR0 := R9R.cell 0
  have kR1 := R9R.cell 1
  simp at kR0 kR1
  have R9K := ((K.out.far (p := ⟨w.heap.size + 1 + 1, 0, none⟩) (show g ≠ w.heap.size + 1 + 1 by have := SK.out; have := S1.out; have := S2.out; (try simp only [World.size_alloc, World.size_setCell, World.size_drew]); omega) (.int .i64 x)).far (p := ⟨w.heap.size + 1 + 1, 1, none⟩) (show g ≠ w.heap.size + 1 + 1 by have := SK.out; have := S1.out; have := S2.out; (try simp only [World.size_alloc, World.size_setCell, World.size_drew]); omega) (.int .i64 y))
  exact bodyPost_ret (v := .agg #[.int .i64 x, .int .i64 y]) (by simp [results, Tryz.results68, go_sem, kR0, kR1]) rfl ⟨rfl, R9K, ((Hb2.out.st (p := ⟨w.heap.size + 1 + 1, 0, none⟩) (show w.heap.size ≤ w.heap.size + 1 + 1 by have := SK.out; have := S1.out; have := S2.out; (try simp only [World.size_alloc, World.size_setCell, World.size_drew]); omega) (.int .i64 x)).st (p := ⟨w.heap.size + 1 + 1, 1, none⟩) (show w.heap.size ≤ w.heap.size + 1 + 1 by have := SK.out; have := S1.out; have := S2.out; (try simp only [World.size_alloc, World.size_setCell, World.size_drew]); omega) (.int .i64 y))⟩
set_option linter.unusedSimpArgs false in
set_option maxHeartbeats 1600000 in
theorem pair_any (g : Nat) (k : Bool) (a b c d : Int) (w : World) (hK : Blk w g 90 #[.bool k]) :
    Calls Tryz.prog 69 #[.pointer (some ⟨g, 0, none⟩), .agg #[.int .i64 a, .int .i64 b], .agg #[.int .i64 c, .int .i64 d]] w fun e w' => e = .returned (if k = true then .tuple #[.agg #[.int .i64 a, .int .i64 b], .agg #[.int .i64 c, .int .i64 d], .bool true] else .tuple #[.agg #[.int .i64 0, .int .i64 0], .agg #[.int .i64 0, .int .i64 0], .bool false]) ∧ Below w.heap.size w w' := by
  have K := Lib.hid hK; have SK := Lib.hid hK.lt; clear hK
  cases k
  · go_enter Tryz.func69, Tryz.ntmps69
    have qK0 : w.cell? ⟨g, 0, none⟩ = some (.bool false) := K.out.cell 0
    have qKl := K.out.lt
    have qKl1 : g < w.heap.size + 1 := Nat.lt_succ_of_lt qKl
    have qKl2 : g < w.heap.size + 1 + 1 := Nat.lt_succ_of_lt qKl1
    have qKl3 : g < w.heap.size + 1 + 1 + 1 := Nat.lt_succ_of_lt qKl2
    go_wp2
    clear qK0 qKl qKl1 qKl2 qKl3
    have R9R := ((show Blk (World.alloc (World.alloc (World.alloc w (Obj.cells #[.int .i64 a, .int .i64 b] 42)) (Obj.cells #[.int .i64 c, .int .i64 d] 42)) (Obj.cells #[.int .i64 0, .int .i64 0] 42)) (w.heap.size + 1 + 1) 42 #[.int .i64 0, .int .i64 0] by have h9 := (Blk.new (World.alloc (World.alloc w (Obj.cells #[.int .i64 a, .int .i64 b] 42)) (Obj.cells #[.int .i64 c, .int .i64 d] 42)) 42 #[.int .i64 0, .int .i64 0]); (try simp only [World.size_alloc, World.size_setCell] at h9); exact h9).alloc (Obj.cells #[.int .i64 0, .int .i64 0] 42))
    have kR0 := R9R.cell 0
    have kR1 := R9R.cell 1
    have R9Q := (show Blk (World.alloc (World.alloc (World.alloc (World.alloc w (Obj.cells #[.int .i64 a, .int .i64 b] 42)) (Obj.cells #[.int .i64 c, .int .i64 d] 42)) (Obj.cells #[.int .i64 0, .int .i64 0] 42)) (Obj.cells #[.int .i64 0, .int .i64 0] 42)) (w.heap.size + 1 + 1 + 1) 42 #[.int .i64 0, .int .i64 0] by have h9 := (Blk.new (World.alloc (World.alloc (World.alloc w (Obj.cells #[.int .i64 a, .int .i64 b] 42)) (Obj.cells #[.int .i64 c, .int .i64 d] 42)) (Obj.cells #[.int .i64 0, .int .i64 0] 42)) 42 #[.int .i64 0, .int .i64 0]); (try simp only [World.size_alloc, World.size_setCell] at h9); exact h9)
    have kQ0 := R9Q.cell 0
    have kQ1 := R9Q.cell 1
    simp at kR0 kR1 kQ0 kQ1
    exact bodyPost_ret (v := .tuple #[.agg #[.int .i64 0, .int .i64 0], .agg #[.int .i64 0, .int .i64 0], .bool false]) (by simp [results, Tryz.results69, go_sem, kR0, kR1, kQ0, kQ1]) rfl ⟨rfl, (bal (bal (bal (bal (Below.refl w.heap.size w) (Obj.cells #[.int .i64 a, .int .i64 b] 42)) (Obj.cells #[.int .i64 c, .int .i64 d] 42)) (Obj.cells #[.int .i64 0, .int .i64 0] 42)) (Obj.cells #[.int .i64 0, .int .i64 0] 42))⟩
  · go_enter Tryz.func69, Tryz.ntmps69
    have qK0 : w.cell? ⟨g, 0, none⟩ = some (.bool true) := K.out.cell 0
    have qKl := K.out.lt
    have qKl1 : g < w.heap.size + 1 := Nat.lt_succ_of_lt qKl
    have qKl2 : g < w.heap.size + 1 + 1 := Nat.lt_succ_of_lt qKl1
    have qKl3 : g < w.heap.size + 1 + 1 + 1 := Nat.lt_succ_of_lt qKl2
    go_wp2_with fail
    obtain ⟨w1, hw9⟩ : ∃ x, x = (World.alloc (World.alloc (World.alloc (World.alloc w (Obj.cells #[.int .i64 a, .int .i64 b] 42)) (Obj.cells #[.int .i64 c, .int .i64 d] 42)) (Obj.cells #[.int .i64 0, .int .i64 0] 42)) (Obj.cells #[.int .i64 0, .int .i64 0] 42)) := ⟨_, rfl⟩
    rw [← hw9]
    have hb1 : Below ((World.alloc (World.alloc (World.alloc (World.alloc w (Obj.cells #[.int .i64 a, .int .i64 b] 42)) (Obj.cells #[.int .i64 c, .int .i64 d] 42)) (Obj.cells #[.int .i64 0, .int .i64 0] 42)) (Obj.cells #[.int .i64 0, .int .i64 0] 42))).heap.size (World.alloc (World.alloc (World.alloc (World.alloc w (Obj.cells #[.int .i64 a, .int .i64 b] 42)) (Obj.cells #[.int .i64 c, .int .i64 d] 42)) (Obj.cells #[.int .i64 0, .int .i64 0] 42)) (Obj.cells #[.int .i64 0, .int .i64 0] 42)) w1 := by rw [hw9]; exact Below.refl _ _
    have S1 := Lib.hid (show w.heap.size + 4 ≤ w1.heap.size by have h9 := hb1.size; (try simp only [World.size_alloc, World.size_setCell, World.size_drew] at h9); omega)
    have NK := Lib.hid (((((K.out.alloc (Obj.cells #[.int .i64 a, .int .i64 b] 42)).alloc (Obj.cells #[.int .i64 c, .int .i64 d] 42)).alloc (Obj.cells #[.int .i64 0, .int .i64 0] 42)).alloc (Obj.cells #[.int .i64 0, .int .i64 0] 42)).on hb1)
    have NA := Lib.hid (((((Blk.new w 42 #[.int .i64 a, .int .i64 b]).alloc (Obj.cells #[.int .i64 c, .int .i64 d] 42)).alloc (Obj.cells #[.int .i64 0, .int .i64 0] 42)).alloc (Obj.cells #[.int .i64 0, .int .i64 0] 42)).on hb1)
    have NB := Lib.hid ((((show Blk (World.alloc (World.alloc w (Obj.cells #[.int .i64 a, .int .i64 b] 42)) (Obj.cells #[.int .i64 c, .int .i64 d] 42)) (w.heap.size + 1) 42 #[.int .i64 c, .int .i64 d] by have h9 := (Blk.new (World.alloc w (Obj.cells #[.int .i64 a, .int .i64 b] 42)) 42 #[.int .i64 c, .int .i64 d]); (try simp only [World.size_alloc, World.size_setCell] at h9); exact h9).alloc (Obj.cells #[.int .i64 0, .int .i64 0] 42)).alloc (Obj.cells #[.int .i64 0, .int .i64 0] 42)).on hb1)
    have NR := Lib.hid (((show Blk (World.alloc (World.alloc (World.alloc w (Obj.cells #[.int .i64 a, .int .i64 b] 42)) (Obj.cells #[.int .i64 c, .int .i64 d] 42)) (Obj.cells #[.int .i64 0, .int .i64 0] 42)) (w.heap.size + 1 + 1) 42 #[.int .i64 0, .int .i64 0] by have h9 := (Blk.new (World.alloc (World.alloc w (Obj.cells #[.int .i64 a, .int .i64 b] 42)) (Obj.cells #[.int .i64 c, .int .i64 d] 42)) 42 #[.int .i64 0, .int .i64 0]); (try simp only [World.size_alloc, World.size_setCell] at h9); exact h9).alloc (Obj.cells #[.int .i64 0, .int .i64 0] 42)).on hb1)
    have NQ := Lib.hid ((show Blk (World.alloc (World.alloc (World.alloc (World.alloc w (Obj.cells #[.int .i64 a, .int .i64 b] 42)) (Obj.cells #[.int .i64 c, .int .i64 d] 42)) (Obj.cells #[.int .i64 0, .int .i64 0] 42)) (Obj.cells #[.int .i64 0, .int .i64 0] 42)) (w.heap.size + 1 + 1 + 1) 42 #[.int .i64 0, .int .i64 0] by have h9 := (Blk.new (World.alloc (World.alloc (World.alloc w (Obj.cells #[.int .i64 a, .int .i64 b] 42)) (Obj.cells #[.int .i64 c, .int .i64 d] 42)) (Obj.cells #[.int .i64 0, .int .i64 0] 42)) 42 #[.int .i64 0, .int .i64 0]); (try simp only [World.size_alloc, World.size_setCell] at h9); exact h9).on hb1)
    have K := NK; clear NK
    have A := NA; clear NA
    have B := NB; clear NB
    have R := NR; clear NR
    have Q := NQ; clear NQ
    have Hb1 := Lib.hid (bthen (bal (bal (bal (bal (Below.refl w.heap.size w) (Obj.cells #[.int .i64 a, .int .i64 b] 42)) (Obj.cells #[.int .i64 c, .int .i64 d] 42)) (Obj.cells #[.int .i64 0, .int .i64 0] 42)) (Obj.cells #[.int .i64 0, .int .i64 0] 42)) hb1)
    clear hb1
    clear hw9
    have qA0 : w1.cell? ⟨w.heap.size, 0, none⟩ = some (.int .i64 a) := A.out.cell 0
    have qA1 : w1.cell? ⟨w.heap.size, 1, none⟩ = some (.int .i64 b) := A.out.cell 1
    have qAl := A.out.lt
    have qB0 : w1.cell? ⟨w.heap.size + 1, 0, none⟩ = some (.int .i64 c) := B.out.cell 0
    have qB1 : w1.cell? ⟨w.heap.size + 1, 1, none⟩ = some (.int .i64 d) := B.out.cell 1
    have qBl := B.out.lt
    have qR0 : w1.cell? ⟨w.heap.size + 1 + 1, 0, none⟩ = some (.int .i64 0) := R.out.cell 0
    have qR1 : w1.cell? ⟨w.heap.size + 1 + 1, 1, none⟩ = some (.int .i64 0) := R.out.cell 1
    have qRl := R.out.lt
    have qRf0 := R.out.frozen 0
    have qRf1 := R.out.frozen 1
    have qQ0 : w1.cell? ⟨w.heap.size + 1 + 1 + 1, 0, none⟩ = some (.int .i64 0) := Q.out.cell 0
    have qQ1 : w1.cell? ⟨w.heap.size + 1 + 1 + 1, 1, none⟩ = some (.int .i64 0) := Q.out.cell 1
    have qQl := Q.out.lt
    have qQf0 := Q.out.frozen 0
    have qQf1 := Q.out.frozen 1
    have nAB : w.heap.size ≠ w.heap.size + 1 := by have := SK.out; have := S1.out; (try simp only [World.size_alloc, World.size_setCell, World.size_drew]); omega
    have nBA : w.heap.size + 1 ≠ w.heap.size := fun e => nAB e.symm
    have nAR : w.heap.size ≠ w.heap.size + 1 + 1 := by have := SK.out; have := S1.out; (try simp only [World.size_alloc, World.size_setCell, World.size_drew]); omega
    have nRA : w.heap.size + 1 + 1 ≠ w.heap.size := fun e => nAR e.symm
    have nAQ : w.heap.size ≠ w.heap.size + 1 + 1 + 1 := by have := SK.out; have := S1.out; (try simp only [World.size_alloc, World.size_setCell, World.size_drew]); omega
    have nQA : w.heap.size + 1 + 1 + 1 ≠ w.heap.size := fun e => nAQ e.symm
    have nBR : w.heap.size + 1 ≠ w.heap.size + 1 + 1 := by have := SK.out; have := S1.out; (try simp only [World.size_alloc, World.size_setCell, World.size_drew]); omega
    have nRB : w.heap.size + 1 + 1 ≠ w.heap.size + 1 := fun e => nBR e.symm
    have nBQ : w.heap.size + 1 ≠ w.heap.size + 1 + 1 + 1 := by have := SK.out; have := S1.out; (try simp only [World.size_alloc, World.size_setCell, World.size_drew]); omega
    have nQB : w.heap.size + 1 + 1 + 1 ≠ w.heap.size + 1 := fun e => nBQ e.symm
    have nQR : w.heap.size + 1 + 1 + 1 ≠ w.heap.size + 1 + 1 := by have := SK.out; have := S1.out; (try simp only [World.size_alloc, World.size_setCell, World.size_drew]); omega
    have nRQ : w.heap.size + 1 + 1 ≠ w.heap.size + 1 + 1 + 1 := fun e => nQR e.symm
    go_region
    go_wp2
    clear qA0 qA1 qAl qB0 qB1 qBl qR0 qR1 qRl qRf0 qRf1 qQ0 qQ1 qQl qQf0 qQf1 nAB nBA nAR nRA nAQ nQA nBR nRB nBQ nQB nQR nRQ
    have R9R := (show Blk (World.drew (World.setCell (World.setCell (World.setCell (World.setCell w1 ⟨w.heap.size + 1 + 1, 0, none⟩ (.int .i64 a)) ⟨w.heap.size + 1 + 1, 1, none⟩ (.int .i64 b)) ⟨w.heap.size + 1 + 1 + 1, 0, none⟩ (.int .i64 c)) ⟨w.heap.size + 1 + 1 + 1, 1, none⟩ (.int .i64 d))) (w.heap.size + 1 + 1) 42 #[.int .i64 a, .int .i64 b] by have h9 := (Blk.drew ((((R.out.set 0 (.int .i64 a)).set 1 (.int .i64 b)).far (p := ⟨w.heap.size + 1 + 1 + 1, 0, none⟩) (show w.heap.size + 1 + 1 ≠ w.heap.size + 1 + 1 + 1 by have := SK.out; have := S1.out; (try simp only [World.size_alloc, World.size_setCell, World.size_drew]); omega) (.int .i64 c)).far (p := ⟨w.heap.size + 1 + 1 + 1, 1, none⟩) (show w.heap.size + 1 + 1 ≠ w.heap.size + 1 + 1 + 1 by have := SK.out; have := S1.out; (try simp only [World.size_alloc, World.size_setCell, World.size_drew]); omega) (.int .i64 d))); simpa using h9)
    have kR0 := R9R.cell 0; have kR1 := R9R.cell 1
    have R9Q := (show Blk (World.drew (World.setCell (World.setCell (World.setCell (World.setCell w1 ⟨w.heap.size + 1 + 1, 0, none⟩ (.int .i64 a)) ⟨w.heap.size + 1 + 1, 1, none⟩ (.int .i64 b)) ⟨w.heap.size + 1 + 1 + 1, 0, none⟩ (.int .i64 c)) ⟨w.heap.size + 1 + 1 + 1, 1, none⟩ (.int .i64 d))) (w.heap.size + 1 + 1 + 1) 42 #[.int .i64 c, .int .i64 d] by have h9 := (Blk.drew ((((Q.out.far (p := ⟨w.heap.size + 1 + 1, 0, none⟩) (show w.heap.size + 1 + 1 + 1 ≠ w.heap.size + 1 + 1 by have := SK.out; have := S1.out; (try simp only [World.size_alloc, World.size_setCell, World.size_drew]); omega) (.int .i64 a)).far (p := ⟨w.heap.size + 1 + 1, 1, none⟩) (show w.heap.size + 1 + 1 + 1 ≠ w.heap.size + 1 + 1 by have := SK.out; have := S1.out; (try simp only [World.size_alloc, World.size_setCell, World.size_drew]); omega) (.int .i64 b)).set 0 (.int .i64 c)).set 1 (.int .i64 d))); simpa using h9)
    have kQ0 := R9Q.cell 0; have kQ1 := R9Q.cell 1
    simp at kR0 kR1 kQ0 kQ1
    exact bodyPost_ret (v := .tuple #[.agg #[.int .i64 a, .int .i64 b], .agg #[.int .i64 c, .int .i64 d], .bool true]) (by simp [results, Tryz.results69, go_sem, kR0, kR1, kQ0, kQ1]) rfl ⟨rfl, (Below.drew (bst (bst (bst (bst Hb1.out (p := ⟨w.heap.size + 1 + 1, 0, none⟩) (show w.heap.size ≤ w.heap.size + 1 + 1 by have := SK.out; have := S1.out; (try simp only [World.size_alloc, World.size_setCell, World.size_drew]); omega) (.int .i64 a)) (p := ⟨w.heap.size + 1 + 1, 1, none⟩) (show w.heap.size ≤ w.heap.size + 1 + 1 by have := SK.out; have := S1.out; (try simp only [World.size_alloc, World.size_setCell, World.size_drew]); omega) (.int .i64 b)) (p := ⟨w.heap.size + 1 + 1 + 1, 0, none⟩) (show w.heap.size ≤ w.heap.size + 1 + 1 + 1 by have := SK.out; have := S1.out; (try simp only [World.size_alloc, World.size_setCell, World.size_drew]); omega) (.int .i64 c)) (p := ⟨w.heap.size + 1 + 1 + 1, 1, none⟩) (show w.heap.size ≤ w.heap.size + 1 + 1 + 1 by have := SK.out; have := S1.out; (try simp only [World.size_alloc, World.size_setCell, World.size_drew]); omega) (.int .i64 d)))⟩
end
section
open Go Go.RowKit

/-- A smallest model. -/
def gdC (x : Cu) : Prop := curveB x.a x.b = true ∧ mn x.a x.b
theorem gdC_sm {a b : Int} (h : curveB a b = true) : gdC (smC a b) := ⟨smC_good h, (smC_mn h).1⟩
theorem gdC_one {x : Cu} (h : gdC x) : smU x.a x.b = 1 := mn_smU h.2
theorem gdC_self {x : Cu} (h : gdC x) : smC x.a x.b = x := smC_one (gdC_one h)
theorem al_mem {x : Cu} (hx : curveB x.a x.b = true) {y : Cu} (hy : y ∈ (alC x).1) : ∃ e, evZ x.a x.b e = 0 ∧ nbV x.a x.b e = some y := by
  unfold alC allV at hy
  cases h : nbsF x.a x.b (rootsV x.a x.b) with
  | none => rw [h] at hy; simp at hy
  | some l =>
    rw [h] at hy
    rw [setC_mem, nbsF_mem h] at hy
    obtain ⟨e, he, h2⟩ := hy
    exact ⟨e, (roots_mem hx).1 he, h2⟩
theorem al_mem_ok {x : Cu} (hx : curveB x.a x.b = true) (ho : (alC x).2 = true) {y : Cu} : y ∈ (alC x).1 ↔ ∃ e, evZ x.a x.b e = 0 ∧ nbV x.a x.b e = some y := by
  refine ⟨al_mem hx, ?_⟩
  rintro ⟨e, he, h2⟩
  unfold alC allV at ho ⊢
  cases h : nbsF x.a x.b (rootsV x.a x.b) with
  | none => rw [h] at ho; simp at ho
  | some l =>
    simp only
    rw [setC_mem, nbsF_mem h]
    exact ⟨e, (roots_mem hx).2 he, h2⟩
theorem nb_gd {x y : Cu} (hx : curveB x.a x.b = true) (hy : y ∈ (alC x).1) : gdC y := by
  obtain ⟨e, he, h2⟩ := al_mem hx hy
  obtain ⟨s, -, -, -, hm⟩ := nbV_some hx he h2
  exact ⟨(nbV_good h2).1, hm⟩
/-- Neighbours go both ways. -/
theorem nb_sym {x y : Cu} (hx : gdC x) (hy : y ∈ (alC x).1) (ho : (alC y).2 = true) : x ∈ (alC y).1 := by
  obtain ⟨e, he, h2⟩ := al_mem hx.1 hy
  obtain ⟨f, hf, h3⟩ := nb_back hx.1 he h2
  rw [gdC_self hx] at h3
  exact (al_mem_ok (nb_gd hx.1 hy).1 ho).2 ⟨f, hf, h3⟩

/-! ### The search -/
def addT (s : Int) : List Cu → List (Cu × Int) → List (Cu × Int)
  | [], T => T
  | d :: l, T => if d ∈ T.map Prod.fst then addT s l T else addT s l (T ++ [(d, s)])
theorem addT_one (s : Int) (d : Cu) (T : List (Cu × Int)) : addT s [d] T = if d ∈ T.map Prod.fst then T else T ++ [(d, s)] := by
  unfold addT
  split <;> rfl
theorem addT_snoc (s : Int) (d : Cu) : ∀ (l : List Cu) (T : List (Cu × Int)), addT s (l ++ [d]) T = if d ∈ (addT s l T).map Prod.fst then addT s l T else addT s l T ++ [(d, s)]
  | [], T => addT_one s d T
  | x :: l, T => by
    have ih := addT_snoc s d l
    simp only [List.cons_append, addT]
    split
    · exact ih T
    · exact ih _
def bfs : Nat → Nat → List (Cu × Int) → Option (List (Cu × Int))
  | 0, _, _ => none
  | f + 1, i, T => match T[i]? with
    | none => some T
    | some x => if (alC x.1).2 = true then (if (addT (x.2 + 1) (alC x.1).1 T).length ≤ 8 then bfs f (i + 1) (addT (x.2 + 1) (alC x.1).1 T) else none) else none
def clsV (a b : Int) : Option (List (Cu × Int)) := bfs 9 0 [(smC a b, 0)]
theorem bfs_end {f i : Nat} {T : List (Cu × Int)} (h : T.length ≤ i) : bfs (f + 1) i T = some T := by
  unfold bfs
  rw [List.getElem?_eq_none h]
theorem bfs_bad {f i : Nat} {T : List (Cu × Int)} (h : i < T.length) (ho : (alC T[i].1).2 = false) : bfs (f + 1) i T = none := by
  unfold bfs
  rw [List.getElem?_eq_getElem h]
  simp [ho]
theorem bfs_long {f i : Nat} {T : List (Cu × Int)} (h : i < T.length) (hl : 8 < (addT (T[i].2 + 1) (alC T[i].1).1 T).length) : bfs (f + 1) i T = none := by
  unfold bfs
  rw [List.getElem?_eq_getElem h]
  simp only
  rw [if_neg (show ¬ (addT (T[i].2 + 1) (alC T[i].1).1 T).length ≤ 8 by omega)]
  split <;> rfl
theorem bfs_step {f i : Nat} {T : List (Cu × Int)} (h : i < T.length) (ho : (alC T[i].1).2 = true) (hl : (addT (T[i].2 + 1) (alC T[i].1).1 T).length ≤ 8) : bfs (f + 1) i T = bfs f (i + 1) (addT (T[i].2 + 1) (alC T[i].1).1 T) := by
  conv => lhs; unfold bfs
  rw [List.getElem?_eq_getElem h]
  simp only
  rw [if_pos ho, if_pos hl]

/-- What holds in the search. -/
structure Srch (m : Cu) (i : Nat) (T : List (Cu × Int)) : Prop where
  nod : (T.map Prod.fst).Nodup
  hd : T[0]? = some (m, 0)
  gd : ∀ q ∈ T, gdC q.1 ∧ 0 ≤ q.2
  par : ∀ k (h : k < T.length), 0 < k → ∃ j, ∃ hj : j < k, T[k].1 ∈ (alC (T[j]'(Nat.lt_trans hj h)).1).1 ∧ T[k].2 = (T[j]'(Nat.lt_trans hj h)).2 + 1
  don : ∀ j (h : j < T.length), j < i → (alC T[j].1).2 = true ∧ ∀ y ∈ (alC T[j].1).1, ∃ q ∈ T, q.1 = y ∧ q.2 ≤ T[j].2 + 1
  mono : T.Pairwise (fun p q => p.2 ≤ q.2)
  top : ∀ q ∈ T, ∀ h : i < T.length, q.2 ≤ T[i].2 + 1
theorem Srch.start {m : Cu} (h : gdC m) : Srch m 0 [(m, 0)] where
  nod := by simp
  hd := rfl
  gd q hq := by rw [List.mem_singleton] at hq; subst hq; exact ⟨h, Int.le_refl _⟩
  par k hk h0 := by simp at hk; omega
  don j _ hj := absurd hj (Nat.not_lt_zero _)
  mono := by simp
  top q hq _ := by rw [List.mem_singleton] at hq; subst hq; simp
/-- One curve more. -/
theorem Srch.more {m d : Cu} {i : Nat} {T : List (Cu × Int)} (h : Srch m i T) (hi : i < T.length) (hd : d ∈ (alC T[i].1).1) (hn : d ∉ T.map Prod.fst) : Srch m i (T ++ [(d, T[i].2 + 1)]) where
  nod := by
    rw [List.map_append, List.nodup_append]
    refine ⟨h.nod, by simp, fun x hx y hy => ?_⟩
    simp only [List.map_cons, List.map_nil, List.mem_singleton] at hy
    subst hy
    exact fun e => hn (e ▸ hx)
  hd := by rw [List.getElem?_append_left (by omega)]; exact h.hd
  gd q hq := by
    rw [List.mem_append, List.mem_singleton] at hq
    rcases hq with hq | rfl
    · exact h.gd q hq
    · have := h.gd T[i] (List.getElem_mem hi)
      exact ⟨nb_gd this.1.1 hd, by simp only; omega⟩
  par k hk h0 := by
    rw [List.length_append, List.length_singleton] at hk
    rcases Nat.lt_or_ge k T.length with h1 | h1
    · obtain ⟨j, hj, h2⟩ := h.par k h1 h0
      refine ⟨j, hj, ?_⟩
      rw [List.getElem_append_left h1, List.getElem_append_left (Nat.lt_trans hj h1)]
      exact h2
    · obtain rfl : k = T.length := by omega
      refine ⟨i, hi, ?_⟩
      rw [List.getElem_append_right (Nat.le_refl _), List.getElem_append_left hi]
      simp [hd]
  don j hj hji := by
    have h1 : j < T.length := by omega
    obtain ⟨h2, h3⟩ := h.don j h1 hji
    rw [List.getElem_append_left h1]
    refine ⟨h2, fun y hy => ?_⟩
    obtain ⟨q, hq, h4⟩ := h3 y hy
    exact ⟨q, List.mem_append_left _ hq, h4⟩
  mono := by
    rw [List.pairwise_append]
    refine ⟨h.mono, by simp, fun p hp q hq => ?_⟩
    rw [List.mem_singleton] at hq
    subst hq
    exact h.top p hp hi
  top q hq _ := by
    rw [List.getElem_append_left hi]
    rw [List.mem_append, List.mem_singleton] at hq
    rcases hq with hq | rfl
    · exact h.top q hq hi
    · exact Int.le_refl _
theorem addT_grow (s : Int) : ∀ (l : List Cu) (T : List (Cu × Int)), ∃ R, addT s l T = T ++ R
  | [], T => ⟨[], by simp [addT]⟩
  | d :: l, T => by
    unfold addT
    split
    · exact addT_grow s l T
    · obtain ⟨R, hR⟩ := addT_grow s l (T ++ [(d, s)])
      exact ⟨(d, s) :: R, by rw [hR]; simp⟩
theorem Srch.adds {m : Cu} {i : Nat} : ∀ (l : List Cu) {T : List (Cu × Int)} (_ : Srch m i T) (hi : i < T.length) (_ : ∀ d ∈ l, d ∈ (alC T[i].1).1), Srch m i (addT (T[i].2 + 1) l T) ∧ ∀ d ∈ l, ∃ q ∈ addT (T[i].2 + 1) l T, q.1 = d ∧ q.2 ≤ T[i].2 + 1
  | [], T, h, _, _ => ⟨h, by simp⟩
  | d :: l, T, h, hi, hl => by
    unfold addT
    have hl2 : ∀ x ∈ l, x ∈ (alC T[i].1).1 := fun x hx => hl x (List.mem_cons_of_mem _ hx)
    split
    · rename_i hd
      obtain ⟨h1, h2⟩ := Srch.adds l h hi hl2
      refine ⟨h1, fun x hx => ?_⟩
      rcases List.mem_cons.1 hx with rfl | hx
      · obtain ⟨q, hq, rfl⟩ := List.mem_map.1 hd
        obtain ⟨R, hR⟩ := addT_grow (T[i].2 + 1) l T
        exact ⟨q, by rw [hR]; exact List.mem_append_left _ hq, rfl, h.top q hq hi⟩
      · exact h2 x hx
    · rename_i hd
      have hm := h.more hi (hl d List.mem_cons_self) hd
      have hi2 : i < (T ++ [(d, T[i].2 + 1)]).length := by rw [List.length_append]; omega
      have he : (T ++ [(d, T[i].2 + 1)])[i] = T[i] := List.getElem_append_left hi
      obtain ⟨h1, h2⟩ := Srch.adds l hm hi2 (by rw [he]; exact hl2)
      rw [he] at h1 h2
      refine ⟨h1, fun x hx => ?_⟩
      rcases List.mem_cons.1 hx with rfl | hx
      · obtain ⟨R, hR⟩ := addT_grow (T[i].2 + 1) l (T ++ [(x, T[i].2 + 1)])
        exact ⟨(x, T[i].2 + 1), by rw [hR]; simp, rfl, Int.le_refl _⟩
      · exact h2 x hx
theorem Srch.next {m : Cu} {i : Nat} {T : List (Cu × Int)} (h : Srch m i T) (hi : i < T.length) (ho : (alC T[i].1).2 = true) : Srch m (i + 1) (addT (T[i].2 + 1) (alC T[i].1).1 T) := by
  obtain ⟨h1, h2⟩ := Srch.adds _ h hi (fun _ h => h)
  obtain ⟨R, hR⟩ := addT_grow (T[i].2 + 1) (alC T[i].1).1 T
  have he : ∀ j (hj : j < T.length) (hj2 : j < (addT (T[i].2 + 1) (alC T[i].1).1 T).length), (addT (T[i].2 + 1) (alC T[i].1).1 T)[j] = T[j] := by
    intro j hj hj2
    have h9 : (addT (T[i].2 + 1) (alC T[i].1).1 T)[j]? = T[j]? := by rw [hR, List.getElem?_append_left hj]
    rw [List.getElem?_eq_getElem hj2, List.getElem?_eq_getElem hj] at h9
    exact Option.some.inj h9
  refine ⟨h1.nod, h1.hd, h1.gd, h1.par, fun j hj hji => ?_, h1.mono, fun q hq hi2 => ?_⟩
  · rcases Nat.lt_or_ge j i with h3 | h3
    · exact h1.don j hj h3
    · obtain rfl : j = i := by omega
      rw [he j hi hj]
      exact ⟨ho, h2⟩
  · have hi3 : i < (addT (T[i].2 + 1) (alC T[i].1).1 T).length := by omega
    have h3 := h1.top q hq hi3
    have h4 := List.pairwise_iff_getElem.1 h1.mono i (i + 1) hi3 hi2 (by omega)
    omega
/-- What the search has found. -/
structure Cls (m : Cu) (T : List (Cu × Int)) : Prop where
  nod : (T.map Prod.fst).Nodup
  hd : T[0]? = some (m, 0)
  gd : ∀ q ∈ T, gdC q.1 ∧ 0 ≤ q.2
  par : ∀ k (h : k < T.length), 0 < k → ∃ j, ∃ hj : j < k, T[k].1 ∈ (alC (T[j]'(Nat.lt_trans hj h)).1).1 ∧ T[k].2 = (T[j]'(Nat.lt_trans hj h)).2 + 1
  don : ∀ p ∈ T, (alC p.1).2 = true ∧ ∀ y ∈ (alC p.1).1, ∃ q ∈ T, q.1 = y ∧ q.2 ≤ p.2 + 1
  len : T.length ≤ 8
theorem bfs_cls {m : Cu} : ∀ (f i : Nat) (T T' : List (Cu × Int)), Srch m i T → T.length ≤ 8 → bfs f i T = some T' → Cls m T'
  | 0, i, T, T', h, hl, e => by cases e
  | f + 1, i, T, T', h, hl, e => by
    rcases Nat.lt_or_ge i T.length with hi | hi
    · cases ho : (alC T[i].1).2
      · rw [bfs_bad hi ho] at e; cases e
      · rcases Nat.lt_or_ge 8 (addT (T[i].2 + 1) (alC T[i].1).1 T).length with h8 | h8
        · rw [bfs_long hi h8] at e; cases e
        · rw [bfs_step hi ho h8] at e
          exact bfs_cls f (i + 1) _ T' (h.next hi ho) h8 e
    · rw [bfs_end hi] at e
      cases e
      refine ⟨h.nod, h.hd, h.gd, h.par, fun p hp => ?_, hl⟩
      obtain ⟨j, hj, rfl⟩ := List.getElem_of_mem hp
      exact h.don j hj (by omega)
theorem cls_of {a b : Int} (h : curveB a b = true) {T : List (Cu × Int)} (e : clsV a b = some T) : Cls (smC a b) T :=
  bfs_cls 9 0 _ T (Srch.start (gdC_sm h)) (by simp) e

/-! ### Paths -/
def pth : Nat → Cu → Cu → Prop
  | 0, x, y => x = y
  | n + 1, x, y => ∃ z, pth n x z ∧ y ∈ (alC z).1
theorem pth_cons {x z : Cu} (hz : z ∈ (alC x).1) : ∀ (n : Nat) (y : Cu), pth n z y → pth (n + 1) x y
  | 0, y, h => by cases h; exact ⟨x, rfl, hz⟩
  | n + 1, y, ⟨u, h1, h2⟩ => ⟨u, pth_cons hz n u h1, h2⟩
section
variable {m : Cu} {T : List (Cu × Int)}
theorem Cls.fst (h : Cls m T) : (m, 0) ∈ T := by
  have := h.hd
  rw [List.getElem?_eq_some_iff] at this
  obtain ⟨h0, h1⟩ := this
  rw [← h1]; exact List.getElem_mem h0
/-- A path to each, as long as its steps tell. -/
theorem Cls.to (h : Cls m T) : ∀ (k : Nat) (hk : k < T.length), pth T[k].2.toNat m T[k].1 := by
  intro k
  induction k using Nat.strongRecOn with
  | ind k ih =>
    intro hk
    rcases Nat.eq_zero_or_pos k with rfl | h0
    · have := h.hd
      rw [List.getElem?_eq_getElem hk] at this
      rw [Option.some.inj this]
      rfl
    · obtain ⟨j, hj, h1, h2⟩ := h.par k hk h0
      have h3 := ih j hj (by omega)
      have h4 := (h.gd _ (List.getElem_mem (show j < T.length by omega))).2
      rw [h2, show (T[j].2 + 1).toNat = T[j].2.toNat + 1 by omega]
      exact ⟨_, h3, h1⟩
theorem Cls.le (h : Cls m T) : ∀ (k : Nat) (hk : k < T.length), T[k].2 ≤ k := by
  intro k
  induction k using Nat.strongRecOn with
  | ind k ih =>
    intro hk
    rcases Nat.eq_zero_or_pos k with rfl | h0
    · have := h.hd
      rw [List.getElem?_eq_getElem hk] at this
      rw [Option.some.inj this]
      exact Int.le_refl _
    · obtain ⟨j, hj, h1, h2⟩ := h.par k hk h0
      have h3 := ih j hj (by omega)
      omega
/-- No path is shorter. -/
theorem Cls.short (h : Cls m T) : ∀ (n : Nat) (y : Cu), pth n m y → ∃ q ∈ T, q.1 = y ∧ q.2 ≤ n
  | 0, y, e => by cases e; exact ⟨(m, 0), h.fst, rfl, Int.le_refl _⟩
  | n + 1, y, ⟨z, h1, h2⟩ => by
    obtain ⟨q, hq, rfl, h3⟩ := h.short n z h1
    obtain ⟨r, hr, h4, h5⟩ := (h.don q hq).2 y h2
    exact ⟨r, hr, h4, by omega⟩
theorem Cls.closed (h : Cls m T) {x y : Cu} (hx : x ∈ T.map Prod.fst) (hy : y ∈ (alC x).1) : y ∈ T.map Prod.fst := by
  obtain ⟨q, hq, rfl⟩ := List.mem_map.1 hx
  obtain ⟨r, hr, h4, -⟩ := (h.don q hq).2 y hy
  exact List.mem_map.2 ⟨r, hr, h4⟩
theorem Cls.okx (h : Cls m T) {x : Cu} (hx : x ∈ T.map Prod.fst) : (alC x).2 = true ∧ gdC x := by
  obtain ⟨q, hq, rfl⟩ := List.mem_map.1 hx
  exact ⟨(h.don q hq).1, (h.gd q hq).1⟩
theorem Cls.sym (h : Cls m T) {x y : Cu} (hx : x ∈ T.map Prod.fst) (hy : y ∈ (alC x).1) : x ∈ (alC y).1 :=
  nb_sym (h.okx hx).2 hy (h.okx (h.closed hx hy)).1
theorem Cls.pclosed (h : Cls m T) {x : Cu} (hx : x ∈ T.map Prod.fst) : ∀ (n : Nat) (y : Cu), pth n x y → y ∈ T.map Prod.fst
  | 0, y, e => by cases e; exact hx
  | n + 1, y, ⟨z, h1, h2⟩ => h.closed (h.pclosed hx n z h1) h2
theorem Cls.psym (h : Cls m T) {x : Cu} (hx : x ∈ T.map Prod.fst) : ∀ (n : Nat) (y : Cu), pth n x y → pth n y x
  | 0, y, e => by cases e; rfl
  | n + 1, y, ⟨z, h1, h2⟩ => pth_cons (h.sym (h.pclosed hx n z h1) h2) n x (h.psym hx n z h1)
end

/-! ### The search from another curve of the class -/
theorem bfs_ok {m d : Cu} {T : List (Cu × Int)} (h : Cls m T) : ∀ (f i : Nat) (U : List (Cu × Int)), Srch d i U → (∀ x ∈ U.map Prod.fst, x ∈ T.map Prod.fst) → 9 ≤ f + i → i ≤ 8 → ∃ U', bfs f i U = some U'
  | 0, i, U, _, _, h9, h8 => by omega
  | f + 1, i, U, hs, hin, h9, h8 => by
    rcases Nat.lt_or_ge i U.length with hi | hi
    · have hx : U[i].1 ∈ T.map Prod.fst := hin _ (List.mem_map.2 ⟨_, List.getElem_mem hi, rfl⟩)
      have ho := (h.okx hx).1
      have hnext := hs.next hi ho
      have hin2 : ∀ x ∈ (addT (U[i].2 + 1) (alC U[i].1).1 U).map Prod.fst, x ∈ T.map Prod.fst := by
        have key : ∀ (s : Int) (l : List Cu) (V : List (Cu × Int)), (∀ x ∈ l, x ∈ T.map Prod.fst) → (∀ x ∈ V.map Prod.fst, x ∈ T.map Prod.fst) → ∀ x ∈ (addT s l V).map Prod.fst, x ∈ T.map Prod.fst := by
          intro s l
          induction l with
          | nil => intro V _ hv; exact hv
          | cons c l ih =>
            intro V hl hv
            unfold addT
            split
            · exact ih V (fun x hx => hl x (List.mem_cons_of_mem _ hx)) hv
            · refine ih _ (fun x hx => hl x (List.mem_cons_of_mem _ hx)) (fun x hx => ?_)
              rw [List.map_append, List.mem_append] at hx
              rcases hx with hx | hx
              · exact hv x hx
              · simp only [List.map_cons, List.map_nil, List.mem_singleton] at hx
                subst hx
                exact hl x List.mem_cons_self
        exact key _ _ _ (fun x hx2 => h.closed hx hx2) hin
      have h8' : (addT (U[i].2 + 1) (alC U[i].1).1 U).length ≤ 8 := by
        have h1 := List.Nodup.length_le_of_subset hnext.nod (fun x hx => hin2 x hx)
        rw [List.length_map, List.length_map] at h1
        exact Nat.le_trans h1 h.len
      rw [bfs_step hi ho h8']
      obtain ⟨R, hR⟩ := addT_grow (U[i].2 + 1) (alC U[i].1).1 U
      rcases Nat.lt_or_ge i 8 with h7 | h7
      · exact bfs_ok h f (i + 1) _ hnext hin2 (by omega) (by omega)
      · rw [hR, List.length_append] at h8'
        omega
    · exact ⟨U, bfs_end hi⟩
theorem cls_other {m d : Cu} {T : List (Cu × Int)} (h : Cls m T) (hd : d ∈ T.map Prod.fst) : ∃ U, clsV d.a d.b = some U ∧ Cls d U ∧ (∀ x, x ∈ U.map Prod.fst ↔ x ∈ T.map Prod.fst) := by
  have hg := (h.okx hd).2
  have hs := gdC_self hg
  obtain ⟨U, hU⟩ := bfs_ok h 9 0 [(d, 0)] (Srch.start hg) (by intro x hx; simp only [List.map_cons, List.map_nil, List.mem_singleton] at hx; subst hx; exact hd) (by omega) (by omega)
  have e : clsV d.a d.b = some U := by unfold clsV; rw [hs]; exact hU
  have hc : Cls d U := by have := cls_of hg.1 e; rw [hs] at this; exact this
  refine ⟨U, e, hc, fun x => ⟨fun hx => ?_, fun hx => ?_⟩⟩
  · obtain ⟨q, hq, rfl⟩ := List.mem_map.1 hx
    obtain ⟨k, hk, rfl⟩ := List.getElem_of_mem hq
    exact h.pclosed hd _ _ (hc.to k hk)
  · have hm : m ∈ U.map Prod.fst := by
      obtain ⟨q, hq, h2⟩ := List.mem_map.1 hd
      obtain ⟨k, hk, rfl⟩ := List.getElem_of_mem hq
      have h3 := h.to k hk
      rw [h2] at h3
      have h4 := h.psym (List.mem_map.2 ⟨_, h.fst, rfl⟩) _ _ h3
      obtain ⟨r, hr, h5, -⟩ := hc.short _ _ h4
      exact List.mem_map.2 ⟨r, hr, h5⟩
    obtain ⟨q, hq, h2⟩ := List.mem_map.1 hx
    obtain ⟨k, hk, rfl⟩ := List.getElem_of_mem hq
    have h3 := h.to k hk
    rw [h2] at h3
    exact hc.pclosed hm _ _ h3
/-- The steps there and back are as many. -/
theorem steps_sym {m d : Cu} {T U : List (Cu × Int)} (h : Cls m T) (k : Cls d U) {p q : Cu × Int} (hp : p ∈ T) (hp1 : p.1 = d) (hq : q ∈ U) (hq1 : q.1 = m) : p.2 = q.2 := by
  have hpg := (h.gd p hp).2
  have hqg := (k.gd q hq).2
  have uniq : ∀ {x : Cu} {V : List (Cu × Int)}, Cls x V → ∀ {r s : Cu × Int}, r ∈ V → s ∈ V → r.1 = s.1 → r = s := by
    intro x V hv r s hr hs e
    obtain ⟨i, hi, rfl⟩ := List.getElem_of_mem hr
    obtain ⟨j, hj, rfl⟩ := List.getElem_of_mem hs
    have hn := hv.nod
    rw [List.nodup_iff_pairwise_ne, List.pairwise_iff_getElem] at hn
    rcases Nat.lt_trichotomy i j with h1 | h1 | h1
    · exact absurd (by rw [List.getElem_map, List.getElem_map]; exact e) (hn i j (by simpa using hi) (by simpa using hj) h1)
    · subst h1; rfl
    · exact absurd (by rw [List.getElem_map, List.getElem_map]; exact e.symm) (hn j i (by simpa using hj) (by simpa using hi) h1)
  have a1 : p.2 ≤ q.2 := by
    obtain ⟨j, hj, rfl⟩ := List.getElem_of_mem hq
    have h1 := k.to j hj
    rw [hq1] at h1
    have h2 := k.psym (List.mem_map.2 ⟨_, k.fst, rfl⟩) _ _ h1
    obtain ⟨r, hr, h3, h4⟩ := h.short _ _ h2
    have := uniq h hr hp (h3.trans hp1.symm)
    subst this
    omega
  have a2 : q.2 ≤ p.2 := by
    obtain ⟨j, hj, rfl⟩ := List.getElem_of_mem hp
    have h1 := h.to j hj
    rw [hp1] at h1
    have h2 := h.psym (List.mem_map.2 ⟨_, h.fst, rfl⟩) _ _ h1
    obtain ⟨r, hr, h3, h4⟩ := k.short _ _ h2
    have := uniq k hr hq (h3.trans hq1.symm)
    subst this
    omega
  omega

/-! ### The edges -/
theorem srt_idx {C : List Cu} (hs : C.Pairwise ltC) {i j : Nat} (hi : i < C.length) (hj : j < C.length) (e : C[i] = C[j]) : i = j := by
  rw [List.pairwise_iff_getElem] at hs
  rcases Nat.lt_trichotomy i j with h | h | h
  · have := hs i j hi hj h; rw [e] at this; exact absurd this (ltC_irr _)
  · exact h
  · have := hs j i hj hi h; rw [e] at this; exact absurd this (ltC_irr _)
theorem getC_at {C : List Cu} {k : Nat} (h : k < C.length) : cuS.get C k = C[k] := by
  unfold Shape.get; rw [List.getD_eq_getElem?_getD, List.getElem?_eq_getElem h]; rfl
theorem edAt_mem {L : List Cu} {i k n : Nat} (h : i < k) (hk : k < n) (hm : cuS.get L k ∈ (alC (cuS.get L i)).1) : [(i : Int), (k : Int)] ∈ edAt L i n := by
  unfold edAt
  rw [List.mem_map]
  refine ⟨k, ?_, rfl⟩
  rw [List.mem_filter]
  exact ⟨List.mem_range.2 hk, by rw [decide_eq_true h, decide_eq_true hm]; rfl⟩
theorem edTo_mem {L : List Cu} {i k : Nat} (h : i < k) (hk : k < L.length) (hm : cuS.get L k ∈ (alC (cuS.get L i)).1) : [(i : Int), (k : Int)] ∈ edTo L L.length := by
  unfold edTo
  rw [List.mem_flatMap]
  exact ⟨i, List.mem_range.2 (by omega), edAt_mem h hk hm⟩
theorem edTo_of {L : List Cu} {x : List Int} {n : Nat} (h : x ∈ edTo L n) : ∃ i k : Nat, x = [(i : Int), (k : Int)] ∧ i < k ∧ k < L.length ∧ cuS.get L k ∈ (alC (cuS.get L i)).1 := by
  unfold edTo edAt at h
  rw [List.mem_flatMap] at h
  obtain ⟨i, hi, h⟩ := h
  rw [List.mem_map] at h
  obtain ⟨k, hk, rfl⟩ := h
  rw [List.mem_filter] at hk
  simp only [Bool.and_eq_true, decide_eq_true_eq, List.mem_range] at hk
  exact ⟨i, k, rfl, hk.2.1, hk.1, hk.2.2⟩
section
variable {m : Cu} {T : List (Cu × Int)}
def srt (T : List (Cu × Int)) : List Cu := setC (T.map Prod.fst)
theorem srt_mem (x : Cu) : x ∈ srt T ↔ x ∈ T.map Prod.fst := setC_mem x _
theorem srt_srt (T : List (Cu × Int)) : (srt T).Pairwise ltC := setC_srt _
theorem srt_len (h : Cls m T) : (srt T).length = T.length := by
  have h1 : (srt T).length ≤ T.length := by have := setC_len (T.map Prod.fst); rwa [List.length_map] at this
  have h2 := List.Nodup.length_le_of_subset h.nod (fun x hx => (srt_mem (T := T) x).2 hx)
  rw [List.length_map] at h2
  omega
theorem Cls.idx (_ : Cls m T) {x : Cu} (hx : x ∈ T.map Prod.fst) : ∃ i, i < (srt T).length ∧ cuS.get (srt T) i = x := by
  obtain ⟨i, hi, he⟩ := List.getElem_of_mem ((srt_mem x).2 hx)
  exact ⟨i, hi, by rw [getC_at hi]; exact he⟩
/-- An edge for each curve but the first. -/
theorem Cls.tree (h : Cls m T) : ∀ t, 1 ≤ t → t ≤ T.length → ∃ E : List (List Int), E.Nodup ∧ E.length = t - 1 ∧ (∀ e ∈ E, e ∈ edTo (srt T) (srt T).length) ∧
    (∀ e ∈ E, ∃ i k : Nat, e = [(i : Int), (k : Int)] ∧ (∃ j, ∃ hj : j < T.length, j < t ∧ cuS.get (srt T) i = T[j].1) ∧ (∃ j, ∃ hj : j < T.length, j < t ∧ cuS.get (srt T) k = T[j].1))
  | 0, h1, _ => by omega
  | 1, _, _ => ⟨[], by simp, rfl, by simp, by simp⟩
  | t + 2, _, h2 => by
    obtain ⟨E, e1, e2, e3, e4⟩ := h.tree (t + 1) (by omega) (by omega)
    have ht : t + 1 < T.length := by omega
    obtain ⟨j, hj, p1, -⟩ := h.par (t + 1) ht (by omega)
    have hjT : j < T.length := by omega
    have mt : T[t + 1].1 ∈ T.map Prod.fst := List.mem_map.2 ⟨_, List.getElem_mem ht, rfl⟩
    have mj : T[j].1 ∈ T.map Prod.fst := List.mem_map.2 ⟨_, List.getElem_mem hjT, rfl⟩
    obtain ⟨a, ha, ga⟩ := h.idx mt
    obtain ⟨b, hb, gb⟩ := h.idx mj
    have hnod := h.nod
    rw [List.nodup_iff_pairwise_ne, List.pairwise_iff_getElem] at hnod
    have hne : ∀ k (hk : k < T.length), k < t + 1 → T[k].1 ≠ T[t + 1].1 := fun k hk hlt e => hnod k (t + 1) (by simpa using hk) (by simpa using ht) hlt (by simpa using e)
    have hab : a ≠ b := fun e => hne j hjT hj (by rw [← ga, ← gb, e])
    have new : ∀ i k : Nat, [(i : Int), (k : Int)] ∈ E → i ≠ a ∧ k ≠ a := by
      intro i k hik
      obtain ⟨i', k', e, ⟨x, hx, hxt, gx⟩, ⟨y, hy, hyt, gy⟩⟩ := e4 _ hik
      simp only [List.cons.injEq, and_true] at e
      obtain ⟨e5, e6⟩ := e
      have e5 : i = i' := by omega
      have e6 : k = k' := by omega
      subst e5; subst e6
      exact ⟨fun e => hne x hx hxt (by rw [← ga, ← gx, e]), fun e => hne y hy hyt (by rw [← ga, ← gy, e])⟩
    have old : ∀ e ∈ E, ∃ i k : Nat, e = [(i : Int), (k : Int)] ∧ (∃ j, ∃ hj : j < T.length, j < t + 2 ∧ cuS.get (srt T) i = T[j].1) ∧ (∃ j, ∃ hj : j < T.length, j < t + 2 ∧ cuS.get (srt T) k = T[j].1) := by
      intro e he
      obtain ⟨i, k, e5, ⟨x, hx, hxt, gx⟩, ⟨y, hy, hyt, gy⟩⟩ := e4 e he
      exact ⟨i, k, e5, ⟨x, hx, by omega, gx⟩, ⟨y, hy, by omega, gy⟩⟩
    rcases Nat.lt_or_ge a b with hlt | hge
    · refine ⟨[(a : Int), (b : Int)] :: E, ?_, by simp; omega, ?_, ?_⟩
      · rw [List.nodup_cons]; exact ⟨fun he => (new a b he).1 rfl, e1⟩
      · intro e he
        rcases List.mem_cons.1 he with rfl | he
        · refine edTo_mem hlt hb ?_
          rw [ga, gb]; exact h.sym mj p1
        · exact e3 e he
      · intro e he
        rcases List.mem_cons.1 he with rfl | he
        · exact ⟨a, b, rfl, ⟨t + 1, ht, by omega, ga⟩, ⟨j, hjT, by omega, gb⟩⟩
        · exact old e he
    · refine ⟨[(b : Int), (a : Int)] :: E, ?_, by simp; omega, ?_, ?_⟩
      · rw [List.nodup_cons]; exact ⟨fun he => (new b a he).2 rfl, e1⟩
      · intro e he
        rcases List.mem_cons.1 he with rfl | he
        · refine edTo_mem (by omega) ha ?_
          rw [ga, gb]; exact p1
        · exact e3 e he
      · intro e he
        rcases List.mem_cons.1 he with rfl | he
        · exact ⟨b, a, rfl, ⟨j, hjT, by omega, gb⟩, ⟨t + 1, ht, by omega, ga⟩⟩
        · exact old e he
theorem Cls.edges (h : Cls m T) : T.length - 1 ≤ (edTo (srt T) (srt T).length).length := by
  have h1 : 0 < T.length := by have := h.fst; exact List.length_pos_of_mem this
  obtain ⟨E, e1, e2, e3, -⟩ := h.tree T.length h1 (Nat.le_refl _)
  have := List.Nodup.length_le_of_subset e1 (fun x hx => e3 x hx)
  omega
theorem Cls.edgesV (h : Cls m T) : edgesV (srt T) = (edTo (srt T) (srt T).length, true) := by
  unfold Proofs.YtacehhcpfollnaaGreat.edgesV
  have hb : edB (srt T) = true := by
    unfold edB
    simp only [Bool.and_eq_true, decide_eq_true_eq, List.all_eq_true, List.mem_range]
    refine ⟨by rw [srt_len h]; exact h.len, fun k hk => ?_, fun k hk => ?_⟩
    · have hx : cuS.get (srt T) k ∈ T.map Prod.fst := by rw [← srt_mem, getC_at hk]; exact List.getElem_mem hk
      have hg := (h.okx hx).2
      unfold edOk
      rw [hg.1, decide_eq_true (gdC_one hg), Bool.and_true, Bool.true_and]
      rcases Nat.eq_zero_or_pos k with rfl | h0
      · rfl
      · have := List.pairwise_iff_getElem.1 (srt_srt T) (k - 1) k (by omega) hk (by omega)
        rw [← getC_at, ← getC_at] at this
        rw [decide_eq_true this, Bool.or_true]
    · have hx : cuS.get (srt T) k ∈ T.map Prod.fst := by rw [← srt_mem, getC_at hk]; exact List.getElem_mem hk
      exact (h.okx hx).1
  rw [hb]; rfl
end
end
end Go.Proofs.YtacehhcpfollnaaGreat
