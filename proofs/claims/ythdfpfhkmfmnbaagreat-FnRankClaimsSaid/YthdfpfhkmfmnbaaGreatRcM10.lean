/- Own texts put together: The iterator over the candidates: its contract, for every loop body that keeps what lay and the rows of bools; The program's next pairs, and the first candidate that lifts: walks over the iterator; The program's first candidate that lifts: the walk over the iterator. Conditions: those of each theorem. -/
import Derived.RangeFuncNested
import Derived.RangeFuncBox
import Derived.RangeFuncBound
import Derived.RangeFuncCalls
import Derived.RangeFuncLeaves
import Derived.Shelf.Abstract
import Derived.Shelf.RegionOpen
import Derived.OwnWalkIn
import Derived.TacticsInMore
import Derived.LoopNIn
import Derived.LoopIn
import Derived.Test.YthdfpfhkmfmnbaaGreatRcM9
namespace Go.Proofs.YthdfpfhkmfmnbaaGreat
section
open Go Go.RowKit
attribute [local go_sem] Oper.semAt_some

/-- Rows of bools, and the blocks of S, lie as they lay. -/
def BK (S : List Nat) (A B : World) : Prop := ∀ (i : Nat) (cs : Array Value) (t : TypeId), (t = 4 ∨ i ∈ S) → A.heap[i]? = some (.cells cs t (0, 0)) → B.heap[i]? = some (.cells cs t (0, 0))
def KpB (n₀ : Nat) (S : List Nat) (A B : World) : Prop := Below n₀ A B ∧ BK S A B
theorem KpB.refl (n₀ : Nat) (S : List Nat) (A : World) : KpB n₀ S A A := ⟨Below.refl _ _, fun _ _ _ _ h => h⟩
theorem KpB.trans {n₀ : Nat} {S : List Nat} {A B C : World} (h : KpB n₀ S A B) (k : KpB n₀ S B C) : KpB n₀ S A C := ⟨h.1.trans k.1, fun i cs t ht hi => k.2 i cs t ht (h.2 i cs t ht hi)⟩
theorem KpB.of_below {n₀ : Nat} {S : List Nat} {A B : World} (hn : n₀ ≤ A.heap.size) (h : Below A.heap.size A B) : KpB n₀ S A B := ⟨h.mono hn, fun i _ _ _ hi => (h.block i (Array.getElem?_eq_some_iff.1 hi).1).trans hi⟩
theorem KpB.alloc {n₀ : Nat} {S : List Nat} {A B : World} (h : KpB n₀ S A B) (hn : n₀ ≤ B.heap.size) (o : Obj) : KpB n₀ S A (B.alloc o) := h.trans (KpB.of_below hn (bal (Below.refl _ _) o))
theorem kpB_t {n₀ : Nat} {S : List Nat} {A B C : World} (h : KpB n₀ S A B) (k : KpB n₀ S B C) : KpB n₀ S A C := h.trans k
theorem kpB_b {n₀ : Nat} {S : List Nat} {w : World} (hn : n₀ ≤ w.heap.size) (W : World) (l : Nat) (o o' : Obj) (hl : w.heap.size ≤ l) (h : W.heap[l]? = some o) (ho : o.isCells = false) (hw : o.isWalk = false) : KpB n₀ S W (W.putObj l o') :=
  ⟨belowK_b hn W l o o' hl h ho hw, fun i _ _ _ hi => by
    have hne : i ≠ l := by
      rintro rfl
      rw [h] at hi
      obtain rfl := Option.some.inj hi
      exact absurd ho (by simp [Obj.isCells])
    rw [World.putObj_heap_other hne]; exact hi⟩
theorem KpB.blk {n₀ : Nat} {S : List Nat} {A B : World} (h : KpB n₀ S A B) {g : Nat} {t : TypeId} {cs : Array Value} (hg : g ∈ S) (k : Blk A g t cs) : Blk B g t cs := h.2 g cs t (.inr hg) k
theorem KpB.bools {n₀ : Nat} {S : List Nat} {A B : World} (h : KpB n₀ S A B) {g : Nat} {cs : Array Value} (k : Blk A g 4 cs) : Blk B g 4 cs := h.2 g cs _ (.inl rfl) k
theorem np_at {w : World} {hi : Nat} {A : Option Addr} {n c : Nat} {l : List (Nat × Nat)} (h : Rd npS w hi (.slice A n c) l) {k : Nat} (hk : k < l.length) :
    ∃ g off, A = some ⟨g, off, none⟩ ∧ g < hi ∧ w.cell? ⟨g, off + k * 2, none⟩ = some (.int .i64 (l[k].1 : Int)) ∧ w.cell? ⟨g, off + k * 2 + 1, none⟩ = some (.int .i64 (l[k].2 : Int)) := by
  obtain ⟨A', c', hv, hc, hm, hA⟩ := h
  obtain ⟨rfl, rfl, rfl⟩ : A = A' ∧ n = l.length ∧ c = c' := by simpa using hv
  obtain ⟨g, off, rfl, hg, hcell⟩ := hA (by omega)
  have := np_cells (fun k hk => hcell k hk) k hk
  rw [np_get hk] at this
  exact ⟨g, off, rfl, hg, this⟩
set_option linter.unusedSimpArgs false in
set_option linter.unusedVariables false in
set_option maxRecDepth 100000 in
set_option maxHeartbeats 8000000 in
theorem cand1_in (F : Fence) (n : Nat) (h160 : F.fn 156) (hro : F.round = none) (hn : 1 ≤ n) (lr bp bl bs n₀ p s : Nat) (A : Option Addr) (cp : Nat) (L : List (Nat × Nat)) (hp : p ≤ 1000) (hs : s ≤ 1000000000) (hL : ∀ x ∈ L, x.1 ≤ 1000000000 ∧ x.2 ≤ 1000000000) (hLl : L.length ≤ 100000000000)
    (S : List Nat) (b1 : bp ∈ S) (b2 : bl ∈ S) (b3 : bs ∈ S) (J Jx : List (Nat × Nat) → World → Prop)
    (hY : ∀ pre x W, J pre W → pre.length < (cdV s p L).length → YieldAt F (n - 1) Tryz.prog lr #[.agg #[.int .i64 (x.1 : Int), .int .i64 (x.2 : Int)]] W fun e W' =>
      (e = .returned (.bool true) ∧ J (pre ++ [x]) W' ∧ KpB n₀ S W W') ∨ (e = .returned (.bool false) ∧ Jx (pre ++ [x]) W'))
    (W : World) (hn0 : n₀ ≤ W.heap.size) (Bp : Blk W bp 3 #[.int .i64 (p : Int)]) (Bl : Blk W bl 120 #[.slice A L.length cp]) (Bs : Blk W bs 3 #[.int .i64 (s : Int)]) (hR : Rd npS W n₀ (.slice A L.length cp) L)
    (hJa : AbidesFrom W.heap.size J) (h0 : J [] W) :
    CallsIn F n Tryz.prog 156 #[.func (.yield lr) #[] #[], .pointer (some ⟨bp, 0, none⟩), .pointer (some ⟨bl, 0, none⟩), .pointer (some ⟨bs, 0, none⟩)] W fun e W' => (∃ v, e = .returned v) ∧
      ((∃ ys, ys = cdV s p L ∧ J ys W') ∨ (∃ pre, pre <+: cdV s p L ∧ Jx pre W')) := by
  have HBp := Lib.hid Bp; have HBl := Lib.hid Bl; have HBs := Lib.hid Bs; have HR := Lib.hid hR; clear Bp Bl Bs hR
  have HL := Lib.hid hL; clear hL
  have hal : ∀ (q : List (Nat × Nat)) (X : World) (o : Obj), J q X → J q (X.alloc o) := fun q X o hq => hJa q X (X.alloc o) none hq (World.grownBy_alloc X o none) (fun r e => by cases e)
  have Hal := Lib.hid hal; clear hal hJa
  have HY := Lib.hid hY; clear hY
  have qp : W.cell? ⟨bp, 0, none⟩ = some (.int .i64 (p : Int)) := HBp.out.cell 0
  refine callsIn_of_wp Tryz.func156 rfl h160 ?_ hro
  simp only [Tryz.ntmps156, List.size_toArray, List.length_cons, List.length_nil, Nat.reduceAdd, Nat.reduceSub, Array.replicate_succ, Array.replicate_zero, List.push_toArray, List.append_toArray, List.nil_append, List.cons_append]
  gi_wp2
  have HW1 := Lib.hid (KpB.alloc (KpB.refl n₀ S W) hn0 (Obj.cells #[.bool true, .bool false] 4))
  have HBb := Lib.hid (Blk.new W 4 #[.bool true, .bool false])
  clear qp
  gi_loopw [12] (fun i wr => ∃ ph : Nat, ((ph = 0 ∧ i = .int .i64 0) ∨ (ph = 1 ∧ i = .int .i64 1) ∨ (ph = 2 ∧ i = .int .i64 2)) ∧ Hid (J (pfF s p L ph 0 0) wr) ∧ Hid (KpB n₀ S (W.alloc (Obj.cells #[.bool true, .bool false] 4)) wr)) (fun i _ => 2 - (intOf i).toNat)
  case atStart => exact ⟨0, .inl ⟨rfl, rfl⟩, Lib.hid (by rw [pfF_start]; exact Hal.out _ _ _ h0), Lib.hid (KpB.refl _ _ _)⟩
  case round =>
    obtain ⟨ph, hph, HJ, HK⟩ := hrel
    have Hbb := Lib.hid (HK.out.bools HBb.out)
    have hsz : n₀ ≤ wr.heap.size := by have h9 := HK.out.1.size; simp only [World.size_alloc] at h9; omega
    rcases hph with ⟨rfl, rfl⟩ | ⟨rfl, rfl⟩ | ⟨rfl, rfl⟩
    · have qb : wr.cell? ⟨W.heap.size, 0, none⟩ = some (.bool true) := Hbb.out.cell 0
      have qp : wr.cell? ⟨bp, 0, none⟩ = some (.int .i64 (p : Int)) := (HK.out.blk b1 (HBp.out.alloc _)).cell 0
      gi_wp2
      clear qb qp Hbb hsz
      gi_loopw [17] (fun i wr => ∃ j : Nat, j ≤ p ∧ i = .int .i64 (j : Int) ∧ Hid (J (pfF s p L 0 j 0) wr) ∧ Hid (KpB n₀ S (W.alloc (Obj.cells #[.bool true, .bool false] 4)) wr)) (fun i _ => p - (intOf i).toNat)
      case atStart => exact ⟨0, by omega, rfl, HJ, HK⟩
      case round =>
        obtain ⟨j, hj, rfl, HJ, HK⟩ := hrel
        by_cases hlt : j < p
        · have hd : decide ((j : Int) < (p : Int)) = true := decide_eq_true (by omega)
          have hdn : decide (j < p) = true := decide_eq_true hlt
          have ql : wr.cell? ⟨bl, 0, none⟩ = some (.slice A L.length cp) := (HK.out.blk b2 (HBl.out.alloc _)).cell 0
          gi_wp2
          clear ql
          gi_loopw [22] (fun i wr => ∃ i9 : Nat, i9 ≤ L.length ∧ i = .int .i64 (i9 : Int) ∧ Hid (J (pfF s p L 0 j i9) wr) ∧ Hid (KpB n₀ S (W.alloc (Obj.cells #[.bool true, .bool false] 4)) wr)) (fun i _ => L.length - (intOf i).toNat)
          case atStart => exact ⟨0, by omega, rfl, HJ, HK⟩
          case round =>
            obtain ⟨i, hi, rfl, HJ, HK⟩ := hrel
            have hsz : n₀ ≤ wr.heap.size := by have h9 := HK.out.1.size; simp only [World.size_alloc] at h9; omega
            by_cases hil : i < L.length
            · have hd2 : decide ((i : Int) < (L.length : Int)) = true := decide_eq_true (by omega)
              have hd2n : decide (i < L.length) = true := decide_eq_true hil
              have Hx := Lib.hid (HL.out L[i] (List.getElem_mem hil))
              have HyesP := Lib.hid (fun h => pfF_yes (s := s) (p := p) (l := L) (ph := 0) (j := j) (by omega) hil h)
              have HnoP := Lib.hid (fun h => pfF_no (s := s) (p := p) (l := L) (ph := 0) (j := j) (by omega) hil h)
              obtain ⟨g, off, hA, hg, k1, k2⟩ := np_at ((HR.out.below (((Below.refl n₀ W).alloc hn0 _).trans HK.out.1))) hil
              have qs : wr.cell? ⟨bs, 0, none⟩ = some (.int .i64 (s : Int)) := (HK.out.blk b3 (HBs.out.alloc _)).cell 0
              have qsl : bs < wr.heap.size := (HK.out.blk b3 (HBs.out.alloc _)).lt
              have qgl : g < wr.heap.size := by omega
              obtain ⟨x1, hx1⟩ : ∃ z, L[i].1 = z := ⟨_, rfl⟩
              obtain ⟨x2, hx2⟩ : ∃ z, L[i].2 = z := ⟨_, rfl⟩
              have HS := Lib.hid (show shP s (plB 0) j L[i] = (x1 + j * s, x2) from by rw [← hx1, ← hx2]; rfl)
              rw [HS.out] at HyesP
              rw [hx1] at k1 Hx; rw [hx2] at k2 Hx HyesP HnoP
              obtain ⟨y1, y2⟩ := Hx.out
              have hjs : j * s ≤ 1000 * 1000000000 := Nat.mul_le_mul (by omega) hs
              obtain ⟨Z, hZ⟩ : ∃ z, j * s = z := ⟨_, rfl⟩
              rw [hZ] at hjs HyesP
              have hZi : (j : Int) * (s : Int) = (Z : Int) := by rw [← Int.natCast_mul, hZ]
              clear HS hx1 hx2 hZ Hx
              subst hA
              by_cases he : x2 = 1
              · have e1 : ((x2 : Int) == 1) = true := beq_iff_eq.2 (by omega)
                have e2 : (x2 == 1) = true := beq_iff_eq.2 he
                have e3 : decide (x2 = 1) = true := decide_eq_true he
                have Hpf := Lib.hid (HyesP.out e3)
                have Hpre := Lib.hid (pfF_pre (s := s) (p := p) (l := L) (ph := 0) (j := j) (i := i + 1) hlt)
                clear HyesP HnoP he e3
                obtain ⟨M, hM⟩ : ∃ z, x1 + Z = z := ⟨_, rfl⟩
                rw [hM] at Hpf
                have hMi : (x1 : Int) + (Z : Int) = (M : Int) := by omega
                have hMb : M ≤ 2000000000000 := by omega
                clear hM
                obtain ⟨fn, tmps, assign, body, hy, hR⟩ := HY.out _ (M, x2) (wr.alloc (Obj.cells #[.int .i64 (M : Int), .int .i64 (x2 : Int)] 123)) (Hal.out _ _ _ HJ.out) (by have h9 := Hpre.out.length_le; rw [Hpf.out, List.length_append, List.length_singleton] at h9; omega)
                dsimp only at hy
                gi_wp2
                refine hR.mono ?_
                rintro e W3 (⟨rfl, hJ3, hk3⟩ | ⟨rfl, hJx3⟩)
                · have Hj3 := Lib.hid hJ3; have Hk3 := Lib.hid hk3; clear hJ3 hk3
                  gi_wp2
                  go_roundw
                  case rel => exact ⟨i + 1, by omega, by go_num, Lib.hid (by rw [Hpf.out]; exact Hj3.out), Lib.hid ((HK.out.alloc hsz _).trans Hk3.out)⟩
                  case measure => simp [intOf]; omega
                · have Hj3 := Lib.hid hJx3; clear hJx3
                  gi_wp2
                  refine bodyPost_ret (results_none rfl _ _ _) rfl ?_
                  exact ⟨⟨_, rfl⟩, .inr ⟨_, by have h9 := Hpre.out; rwa [Hpf.out] at h9, Hj3.out⟩⟩
              · have e1 : ((x2 : Int) == 1) = false := beq_eq_false_iff_ne.2 (by omega)
                have e2 : (x2 == 1) = false := beq_eq_false_iff_ne.2 he
                have e3 : decide (x2 = 1) = false := decide_eq_false he
                have Hpf := Lib.hid (HnoP.out (by rw [e3]; decide))
                clear HyesP HnoP he e3
                gi_wp2
                go_roundw
                case rel => exact ⟨i + 1, by omega, by go_num, Lib.hid (by rw [Hpf.out]; exact Hal.out _ _ _ HJ.out), Lib.hid (HK.out.alloc hsz _)⟩
                case measure => simp [intOf]; omega
            · obtain rfl : i = L.length := by omega
              have hd2 : decide ((L.length : Int) < (L.length : Int)) = false := decide_eq_false (by omega)
              gi_wp2
              go_roundw
              case rel => exact ⟨j + 1, by omega, by go_num, Lib.hid (by have h9 := HJ.out; rwa [pfF_row] at h9), HK⟩
              case measure => simp [intOf]; omega
        · obtain rfl : j = p := by omega
          have hd : decide ((j : Int) < (j : Int)) = false := decide_eq_false (by omega)
          gi_wp2
          go_roundw
          case rel => exact ⟨1, .inr (.inl ⟨rfl, by first | rfl | go_num⟩), Lib.hid (by have h9 := HJ.out; rwa [pfF_ph0] at h9), HK⟩
          case measure => simp [intOf]
    · have qb : wr.cell? ⟨W.heap.size, 1, none⟩ = some (.bool false) := Hbb.out.cell 1
      have qp : wr.cell? ⟨bp, 0, none⟩ = some (.int .i64 (p : Int)) := (HK.out.blk b1 (HBp.out.alloc _)).cell 0
      gi_wp2
      clear qb qp Hbb hsz
      gi_loopw [17] (fun i wr => ∃ j : Nat, j ≤ p ∧ i = .int .i64 (j : Int) ∧ Hid (J (pfF s p L 1 j 0) wr) ∧ Hid (KpB n₀ S (W.alloc (Obj.cells #[.bool true, .bool false] 4)) wr)) (fun i _ => p - (intOf i).toNat)
      case atStart => exact ⟨0, by omega, rfl, HJ, HK⟩
      case round =>
        obtain ⟨j, hj, rfl, HJ, HK⟩ := hrel
        by_cases hlt : j < p
        · have hd : decide ((j : Int) < (p : Int)) = true := decide_eq_true (by omega)
          have hdn : decide (j < p) = true := decide_eq_true hlt
          have ql : wr.cell? ⟨bl, 0, none⟩ = some (.slice A L.length cp) := (HK.out.blk b2 (HBl.out.alloc _)).cell 0
          gi_wp2
          clear ql
          gi_loopw [22] (fun i wr => ∃ i9 : Nat, i9 ≤ L.length ∧ i = .int .i64 (i9 : Int) ∧ Hid (J (pfF s p L 1 j i9) wr) ∧ Hid (KpB n₀ S (W.alloc (Obj.cells #[.bool true, .bool false] 4)) wr)) (fun i _ => L.length - (intOf i).toNat)
          case atStart => exact ⟨0, by omega, rfl, HJ, HK⟩
          case round =>
            obtain ⟨i, hi, rfl, HJ, HK⟩ := hrel
            have hsz : n₀ ≤ wr.heap.size := by have h9 := HK.out.1.size; simp only [World.size_alloc] at h9; omega
            by_cases hil : i < L.length
            · have hd2 : decide ((i : Int) < (L.length : Int)) = true := decide_eq_true (by omega)
              have hd2n : decide (i < L.length) = true := decide_eq_true hil
              have Hx := Lib.hid (HL.out L[i] (List.getElem_mem hil))
              have HyesP := Lib.hid (fun h => pfF_yes (s := s) (p := p) (l := L) (ph := 1) (j := j) (by omega) hil h)
              have HnoP := Lib.hid (fun h => pfF_no (s := s) (p := p) (l := L) (ph := 1) (j := j) (by omega) hil h)
              obtain ⟨g, off, hA, hg, k1, k2⟩ := np_at ((HR.out.below (((Below.refl n₀ W).alloc hn0 _).trans HK.out.1))) hil
              have qs : wr.cell? ⟨bs, 0, none⟩ = some (.int .i64 (s : Int)) := (HK.out.blk b3 (HBs.out.alloc _)).cell 0
              have qsl : bs < wr.heap.size := (HK.out.blk b3 (HBs.out.alloc _)).lt
              have qgl : g < wr.heap.size := by omega
              obtain ⟨x1, hx1⟩ : ∃ z, L[i].1 = z := ⟨_, rfl⟩
              obtain ⟨x2, hx2⟩ : ∃ z, L[i].2 = z := ⟨_, rfl⟩
              have HS := Lib.hid (show shP s (plB 1) j L[i] = (x1, x2 + j * s) from by rw [← hx1, ← hx2]; rfl)
              rw [HS.out] at HyesP
              rw [hx1] at k1 Hx; rw [hx2] at k2 Hx HyesP HnoP
              obtain ⟨y1, y2⟩ := Hx.out
              have hjs : j * s ≤ 1000 * 1000000000 := Nat.mul_le_mul (by omega) hs
              obtain ⟨Z, hZ⟩ : ∃ z, j * s = z := ⟨_, rfl⟩
              rw [hZ] at hjs HyesP
              have hZi : (j : Int) * (s : Int) = (Z : Int) := by rw [← Int.natCast_mul, hZ]
              clear HS hx1 hx2 hZ Hx
              subst hA
              by_cases he : x2 = 1
              · have e1 : ((x2 : Int) == 1) = true := beq_iff_eq.2 (by omega)
                have e2 : (x2 == 1) = true := beq_iff_eq.2 he
                have e3 : decide (x2 = 1) = true := decide_eq_true he
                have Hpf := Lib.hid (HnoP.out (by rw [e3]; decide))
                clear HyesP HnoP he e3
                gi_wp2
                go_roundw
                case rel => exact ⟨i + 1, by omega, by go_num, Lib.hid (by rw [Hpf.out]; exact Hal.out _ _ _ HJ.out), Lib.hid (HK.out.alloc hsz _)⟩
                case measure => simp [intOf]; omega
              · have e1 : ((x2 : Int) == 1) = false := beq_eq_false_iff_ne.2 (by omega)
                have e2 : (x2 == 1) = false := beq_eq_false_iff_ne.2 he
                have e3 : decide (x2 = 1) = false := decide_eq_false he
                have Hpf := Lib.hid (HyesP.out e3)
                have Hpre := Lib.hid (pfF_pre (s := s) (p := p) (l := L) (ph := 1) (j := j) (i := i + 1) hlt)
                clear HyesP HnoP he e3
                obtain ⟨M, hM⟩ : ∃ z, x2 + Z = z := ⟨_, rfl⟩
                rw [hM] at Hpf
                have hMi : (x2 : Int) + (Z : Int) = (M : Int) := by omega
                have hMb : M ≤ 2000000000000 := by omega
                clear hM
                obtain ⟨fn, tmps, assign, body, hy, hR⟩ := HY.out _ (x1, M) (wr.alloc (Obj.cells #[.int .i64 (x1 : Int), .int .i64 (M : Int)] 123)) (Hal.out _ _ _ HJ.out) (by have h9 := Hpre.out.length_le; rw [Hpf.out, List.length_append, List.length_singleton] at h9; omega)
                dsimp only at hy
                gi_wp2
                refine hR.mono ?_
                rintro e W3 (⟨rfl, hJ3, hk3⟩ | ⟨rfl, hJx3⟩)
                · have Hj3 := Lib.hid hJ3; have Hk3 := Lib.hid hk3; clear hJ3 hk3
                  gi_wp2
                  go_roundw
                  case rel => exact ⟨i + 1, by omega, by go_num, Lib.hid (by rw [Hpf.out]; exact Hj3.out), Lib.hid ((HK.out.alloc hsz _).trans Hk3.out)⟩
                  case measure => simp [intOf]; omega
                · have Hj3 := Lib.hid hJx3; clear hJx3
                  gi_wp2
                  refine bodyPost_ret (results_none rfl _ _ _) rfl ?_
                  exact ⟨⟨_, rfl⟩, .inr ⟨_, by have h9 := Hpre.out; rwa [Hpf.out] at h9, Hj3.out⟩⟩
            · obtain rfl : i = L.length := by omega
              have hd2 : decide ((L.length : Int) < (L.length : Int)) = false := decide_eq_false (by omega)
              gi_wp2
              go_roundw
              case rel => exact ⟨j + 1, by omega, by go_num, Lib.hid (by have h9 := HJ.out; rwa [pfF_row] at h9), HK⟩
              case measure => simp [intOf]; omega
        · obtain rfl : j = p := by omega
          have hd : decide ((j : Int) < (j : Int)) = false := decide_eq_false (by omega)
          gi_wp2
          go_roundw
          case rel => exact ⟨2, .inr (.inr ⟨rfl, by first | rfl | go_num⟩), Lib.hid (by have h9 := HJ.out; rwa [pfF_ph1] at h9), HK⟩
          case measure => simp [intOf]
    · gi_wp2
      go_end0
      exact ⟨⟨_, rfl⟩, .inl ⟨_, rfl, by have h9 := HJ.out; rwa [pfF_end] at h9⟩⟩
theorem cand_stops (F : Fence) (n : Nat) (h160 : F.fn 156) (hro : F.round = none) (hn : 1 ≤ n) (bp bl bs n₀ p s : Nat) (A : Option Addr) (cp : Nat) (L : List (Nat × Nat)) (hp : p ≤ 1000) (hs : s ≤ 1000000000) (hL : ∀ x ∈ L, x.1 ≤ 1000000000 ∧ x.2 ≤ 1000000000) (hLl : L.length ≤ 100000000000)
    (w : World) (S : List Nat) (b1 : bp ∈ S) (b2 : bl ∈ S) (b3 : bs ∈ S) (hn0 : n₀ ≤ w.heap.size) (Bp : Blk w bp 3 #[.int .i64 (p : Int)]) (Bl : Blk w bl 120 #[.slice A L.length cp]) (Bs : Blk w bs 3 #[.int .i64 (s : Int)]) (hR : Rd npS w n₀ (.slice A L.length cp) L) :
    SeqStopsK F n Tryz.prog 156 #[.pointer (some ⟨bp, 0, none⟩), .pointer (some ⟨bl, 0, none⟩), .pointer (some ⟨bs, 0, none⟩)] (fun x : Nat × Nat => #[Value.agg #[.int .i64 (x.1 : Int), .int .i64 (x.2 : Int)]]) (KpB n₀ S) (fun ys => ys = cdV s p L) (fun pre => pre <+: cdV s p L) (cdV s p L).length w := fun l J Jx W hW hJ _ hY h0 =>
  cand1_in F n h160 hro hn l bp bl bs n₀ p s A cp L hp hs hL hLl S b1 b2 b3 J Jx hY W (Nat.le_trans hn0 hW.size) (Bp.on hW) (Bl.on hW) (Bs.on hW) (hR.below (hW.mono hn0)) hJ h0
end
section
open Go Go.RowKit
attribute [local go_sem] Oper.semAt_some

theorem infoPr : (Tryz.prog.info? 123).map (fun i => (i.zero, i.size, i.bytes)) = some (some (.agg #[.int .i64 0, .int .i64 0]), 2, 16) := by kernel_rfl
theorem blk_own {β : Type} (b : Nat) (t : TypeId) (cs : Array Value) : Own (fun (_ : β) W => Blk W b t cs) := by
  intro s X Y row hs hg hr
  refine (hg.block b hs.lt (fun e => ?_)).trans hs
  obtain ⟨o, ho, hc⟩ := hr b e.symm
  rw [show X.heap[b]? = _ from hs] at ho
  obtain rfl := Option.some.inj ho
  exact absurd hc (by simp [Obj.isCells])
theorem cell_two_new (w : World) (x y : Value) (t : TypeId) : ∀ j u, [x, y][j]? = some u → (w.alloc (.cells #[x, y] t)).cell? ((⟨w.heap.size, 0, none⟩ : Addr).add j) = some u := by
  intro j u hj
  match j, hj with
  | 0, hj => simp at hj; subst hj; simp [Addr.add]
  | 1, hj => simp at hj; subst hj; simp [Addr.add]
theorem keepsFrom_below {B : Nat} {W W' : World} (h : Below W.heap.size W W') : KeepsFrom B W W' := ⟨h.size, fun k _ _ hk _ => (h.block k (Array.getElem?_eq_some_iff.1 hk).1).trans hk⟩
/-- An append of the call's own keeps what the iterator wants. -/
theorem KpB.appended {n₀ : Nat} {S : List Nat} {W w1 : World} {bo : Nat} {v v' : Value} {k m : Nat} {xs ys : List Value} {tmp : Obj} (hS : ∀ i ∈ S, i ≠ bo ∧ ∃ cs t, Blk W i t cs ∧ t ≠ 123)
    (hv : Boxed W bo 120 v) (hrow : W.ownsRow n₀ 123 2 v k xs) (hn₀ : n₀ ≤ W.heap.size) (hB : n₀ ≤ bo) (hown' : w1.ownsRow n₀ 123 2 v' m ys) (hgrow : (W.alloc tmp).grownBy w1 v.ownBlock) :
    KpB n₀ S W (w1.setCell ⟨bo, 0, none⟩ v') := by
  refine ⟨(hv.appended (by decide) hrow hn₀ hB hown' hgrow).2.2.2.2, fun i cs t ht hi => ?_⟩
  have hlt : i < W.heap.size := (Array.getElem?_eq_some_iff.1 hi).1
  have hbo : i ≠ bo := by
    rcases ht with rfl | ht
    · rintro rfl
      have := (show W.heap[i]? = _ from hv).symm.trans hi
      simp at this
    · exact (hS i ht).1
  have hrw : some i ≠ v.ownBlock := by
    intro e
    rcases hrow.2 with ⟨rfl, _⟩ | ⟨g, cap, cur, rfl, _, hgb, _⟩
    · simp [Value.ownBlock] at e
    · obtain rfl : i = g := by simpa [Value.ownBlock] using e
      have h9 := hgb.symm.trans hi
      rcases ht with rfl | ht
      · simp at h9
      · obtain ⟨-, cs', t', h1, h2⟩ := hS i ht
        have h8 := hgb.symm.trans h1
        simp at h8
        exact h2 h8.2.symm
  rw [Below.heap_setCell _ _ _ _ hbo, hgrow.block i (by simp; omega) hrw]
  exact (Below.heap_alloc W tmp i hlt).trans hi
set_option linter.unusedSimpArgs false in
set_option linter.unusedVariables false in
set_option maxRecDepth 100000 in
set_option maxHeartbeats 8000000 in
theorem candidates_any (d a c : Int) (A : Option Addr) (n cp p k : Nat) (w : World) (hp : 2 ≤ p) (hp2 : p ≤ 1000) (hk : 1 ≤ k) (hk2 : k ≤ 100) (hb : p ^ (k - 1) ≤ 1000000000) :
    Calls Tryz.prog 150 #[.agg #[.int .i64 d, .int .i64 a, .int .i64 c], .slice A n cp, .int .i64 (p : Int), .int .i64 (k : Int)] w fun e w' => ∃ bp bl bs : Nat, e = .returned (.func (.func 156) #[] #[.pointer (some ⟨bp, 0, none⟩), .pointer (some ⟨bl, 0, none⟩), .pointer (some ⟨bs, 0, none⟩)]) ∧
      Blk w' bp 3 #[.int .i64 (p : Int)] ∧ Blk w' bl 120 #[.slice A n cp] ∧ Blk w' bs 3 #[.int .i64 ((p ^ (k - 1) : Nat) : Int)] ∧ w.heap.size ≤ bp ∧ w.heap.size ≤ bl ∧ w.heap.size ≤ bs ∧ Below w.heap.size w w' := by
  obtain ⟨N, hN⟩ : ∃ N, p ^ (k - 1) = N := ⟨_, rfl⟩
  have Hw := Lib.hid (show ∀ w9, Calls Tryz.prog 146 #[.int .i64 (p : Int), .int .i64 ((k : Int) - 1)] w9 fun r w' => r = .returned (.int .i64 (N : Int)) ∧ Below w9.heap.size w9 w' from fun w9 => by have h9 := intPower_blw p (k - 1) w9 (by omega) (by omega) (by omega) hb; rwa [hN, show (((k - 1 : Nat) : Int)) = (k : Int) - 1 by omega] at h9)
  rw [hN]
  clear hN hb
  go_enter Tryz.func150, Tryz.ntmps150
  go_wp2_with fail
  refine (Hw.out _).mono ?_; rintro e w1 ⟨rfl, hb1⟩
  have S1 := Lib.hid (show w.heap.size + 3 ≤ w1.heap.size by have h9 := hb1.size; (try simp only [World.size_alloc, World.size_setCell, World.size_drew] at h9); omega)
  have NQQ := Lib.hid ((((Blk.new w 82 #[.int .i64 d, .int .i64 a, .int .i64 c]).alloc (Obj.cells #[.slice A n cp] 120)).alloc (Obj.cells #[.int .i64 (p : Int)] 3)).on hb1)
  have NLB := Lib.hid (((show Blk (World.alloc (World.alloc w (Obj.cells #[.int .i64 d, .int .i64 a, .int .i64 c] 82)) (Obj.cells #[.slice A n cp] 120)) (w.heap.size + 1) 120 #[.slice A n cp] by have h9 := (Blk.new (World.alloc w (Obj.cells #[.int .i64 d, .int .i64 a, .int .i64 c] 82)) 120 #[.slice A n cp]); (try simp only [World.size_alloc, World.size_setCell] at h9); exact h9).alloc (Obj.cells #[.int .i64 (p : Int)] 3)).on hb1)
  have NPB := Lib.hid ((show Blk (World.alloc (World.alloc (World.alloc w (Obj.cells #[.int .i64 d, .int .i64 a, .int .i64 c] 82)) (Obj.cells #[.slice A n cp] 120)) (Obj.cells #[.int .i64 (p : Int)] 3)) (w.heap.size + 1 + 1) 3 #[.int .i64 (p : Int)] by have h9 := (Blk.new (World.alloc (World.alloc w (Obj.cells #[.int .i64 d, .int .i64 a, .int .i64 c] 82)) (Obj.cells #[.slice A n cp] 120)) 3 #[.int .i64 (p : Int)]); (try simp only [World.size_alloc, World.size_setCell] at h9); exact h9).on hb1)
  have QQ := NQQ; clear NQQ
  have LB := NLB; clear NLB
  have PB := NPB; clear NPB
  have Hb1 := Lib.hid (bthen (bal (bal (bal (Below.refl w.heap.size w) (Obj.cells #[.int .i64 d, .int .i64 a, .int .i64 c] 82)) (Obj.cells #[.slice A n cp] 120)) (Obj.cells #[.int .i64 (p : Int)] 3)) hb1)
  clear hb1
  go_wp2
  go_ret
  exact ⟨_, _, _, rfl, (PB.out.alloc (Obj.cells #[.int .i64 (N : Int)] 3)), (LB.out.alloc (Obj.cells #[.int .i64 (N : Int)] 3)), (Blk.new w1 3 #[.int .i64 (N : Int)]), by omega, by omega, by have := S1.out; (try simp only [World.size_alloc, World.size_setCell, World.size_drew]); omega, (bal Hb1.out (Obj.cells #[.int .i64 (N : Int)] 3))⟩
theorem bound_pw {p k : Nat} (hp : 2 ≤ p) (hb : p ^ k ≤ 1000000000) : p ^ (k - 1) ≤ 1000000000 := Nat.le_trans (pow_mono (by omega) (by omega)) hb
set_option linter.unusedSimpArgs false in
set_option linter.unusedVariables false in
set_option maxRecDepth 100000 in
set_option maxHeartbeats 8000000 in
theorem nextPairs_any (d a c : Int) (A : Option Addr) (cp p k : Nat) (L : List (Nat × Nat)) (w : World) (hp : 2 ≤ p) (hp2 : p ≤ 1000) (hk : 1 ≤ k) (hk2 : k ≤ 100) (hb : p ^ k ≤ 1000000000)
    (hL : ∀ x ∈ L, x.1 ≤ 1000000000 ∧ x.2 ≤ 1000000000) (hLl : p * L.length ≤ 4000000000) (hR : Rd npS w w.heap.size (.slice A L.length cp) L) :
    Calls Tryz.prog 135 #[.agg #[.int .i64 d, .int .i64 a, .int .i64 c], .slice A L.length cp, .int .i64 (p : Int), .int .i64 (k : Int)] w fun e W' => (∃ v, e = .returned v ∧ W'.ownsRow w.heap.size 123 2 v (nxV d a c p k L).length (npS.flat (nxV d a c p k L))) ∧ Below w.heap.size w W' := by
  obtain ⟨i0, hi, hz0, hz1, hz2⟩ := info_parts infoPr
  have hll : L.length ≤ 100000000000 := by have := Nat.mul_le_mul_right L.length hp; omega
  have Hcl := Lib.hid (show (cdV (p ^ (k - 1)) p L).length ≤ 4000000000 by rw [length_cdV]; exact hLl)
  have Hnx := Lib.hid (show nxV d a c p k L = (cdV (p ^ (k - 1)) p L).filter (fun x : Nat × Nat => lpB d a c x.1 x.2 p k) from rfl)
  refine (callsIn_wide (n := 9)).1 ?_
  refine callsIn_of_wp_marks Tryz.func135 rfl trivial ?_ rfl
  simp only [Tryz.ntmps135, List.size_toArray, List.length_cons, List.length_nil, Nat.reduceAdd, Nat.reduceSub, Array.replicate_succ, Array.replicate_zero, List.push_toArray, List.append_toArray, List.nil_append, List.cons_append]
  gi_wp2_with (refine ⟨trivial, ?_⟩; gi_at_call 150; refine (callsIn_wide.2 (candidates_any d a c A L.length cp p k _ hp hp2 hk hk2 (bound_pw hp hb))).mono ?_; rintro e w2 ⟨bp, bl, bs, rfl, hbp, hbl, hbs, gp, gl, gs, hb2⟩)
  have Hb2 := Lib.hid (show Below w.heap.size w w2 from ((((Below.refl w.heap.size w).alloc (Nat.le_refl _) _).alloc (by simp) _).alloc (by simp; omega) _ |>.alloc (by simp; omega) _).trans (hb2.mono (by simp; omega)))
  have hsz2 : w.heap.size + 4 ≤ w2.heap.size := by have h9 := hb2.size; simp at h9; omega
  have hQ : Blk w2 w.heap.size 82 #[.int .i64 d, .int .i64 a, .int .i64 c] := (((Blk.new w 82 #[.int .i64 d, .int .i64 a, .int .i64 c]).alloc _).alloc _ |>.alloc _).on hb2
  have hP : Blk w2 (w.heap.size + 1) 3 #[.int .i64 (p : Int)] := (((Blk.new1 w _ 3 #[.int .i64 (p : Int)]).alloc _).alloc _).on hb2
  have hKK : Blk w2 (w.heap.size + 1 + 1) 3 #[.int .i64 (k : Int)] := Blk.on (Blk.alloc (show Blk (((w.alloc _).alloc _).alloc _) (w.heap.size + 1 + 1) 3 #[.int .i64 (k : Int)] by have h9 := Blk.new ((w.alloc (Obj.cells #[.int .i64 d, .int .i64 a, .int .i64 c] 82)).alloc (Obj.cells #[.int .i64 (p : Int)] 3)) 3 #[.int .i64 (k : Int)]; simpa only [World.size_alloc] using h9) _) hb2
  have hO : Boxed w2 (w.heap.size + 1 + 1 + 1) 120 (.slice none 0 0) := Blk.on (show Blk ((((w.alloc _).alloc _).alloc _).alloc _) (w.heap.size + 1 + 1 + 1) 120 #[.slice none 0 0] by have h9 := Blk.new (((w.alloc (Obj.cells #[.int .i64 d, .int .i64 a, .int .i64 c] 82)).alloc (Obj.cells #[.int .i64 (p : Int)] 3)).alloc (Obj.cells #[.int .i64 (k : Int)] 3)) 120 #[.slice none 0 0]; simpa only [World.size_alloc] using h9) hb2
  clear hb2
  have gp4 : w.heap.size + 4 ≤ bp := by simp at gp; omega
  have gl4 : w.heap.size + 4 ≤ bl := by simp at gl; omega
  have gs4 : w.heap.size + 4 ≤ bs := by simp at gs; omega
  clear gp gl gs
  have hR2 : Rd npS w2 w.heap.size (.slice A L.length cp) L := hR.below Hb2.out
  have Hc := Lib.hid (fun (x : Nat × Nat) w9 => possible_any d a c x.1 x.2 p k w9 hp hp2 hk2 hb)
  refine wpIn_rangeFunc_ownH rfl (by omega) (gf := 156) (lb := #[.pointer (some ⟨bp, 0, none⟩), .pointer (some ⟨bl, 0, none⟩), .pointer (some ⟨bs, 0, none⟩)]) rfl trivial (enters_of Tryz.func156 (by kernel_rfl) rfl)
    (cand_stops Fence.wide _ trivial rfl (by omega) bp bl bs w.heap.size p (p ^ (k - 1)) A cp L hp2 (bound_pw hp hb) hL hll w2 [w.heap.size, w.heap.size + 1, w.heap.size + 1 + 1, bp, bl, bs] (by simp) (by simp) (by simp) (by omega) hbp hbl hbs hR2)
    kpB_t (kpB_b (by omega)) (Below.refl _ _) (fun _ => rfl)
    (fun (pre : List (Nat × Nat)) W => (∃ v, Boxed W (w.heap.size + 1 + 1 + 1) 120 v ∧ W.ownsRow w.heap.size 123 2 v (pre.filter (fun x : Nat × Nat => lpB d a c x.1 x.2 p k)).length (npS.flat (pre.filter (fun x : Nat × Nat => lpB d a c x.1 x.2 p k))) ∧ True) ∧ (Blk W (w.heap.size) 82 #[.int .i64 d, .int .i64 a, .int .i64 c] ∧ Blk W (w.heap.size + 1) 3 #[.int .i64 (p : Int)] ∧ Blk W (w.heap.size + 1 + 1) 3 #[.int .i64 (k : Int)] ∧ Blk W (bp) 3 #[.int .i64 (p : Int)] ∧ Blk W (bl) 120 #[.slice A L.length cp] ∧ Blk W (bs) 3 #[.int .i64 ((p ^ (k - 1) : Nat) : Int)]) ∧ Below w.heap.size w W)
    (fun _ _ _ => False)
    (OwnFrom.and (Own.from (holdsRow_own w.heap.size (w.heap.size + 1 + 1 + 1) 120 123 2 (fun (pre : List (Nat × Nat)) => (pre.filter (fun x : Nat × Nat => lpB d a c x.1 x.2 p k)).length) (fun (pre : List (Nat × Nat)) => npS.flat (pre.filter (fun x : Nat × Nat => lpB d a c x.1 x.2 p k))) (fun _ _ => True)) _) (OwnFrom.and (OwnFrom.and (Own.from (blk_own _ _ _) _) <| OwnFrom.and (Own.from (blk_own _ _ _) _) <| OwnFrom.and (Own.from (blk_own _ _ _) _) <| OwnFrom.and (Own.from (blk_own _ _ _) _) <| OwnFrom.and (Own.from (blk_own _ _ _) _) <| Own.from (blk_own _ _ _) _) (ownFrom_below (Nat.le_refl _) (by omega))))
    (fun _ _ _ _ _ hs _ _ => hs)
    ⟨⟨_, hO, World.ownsRow_nil _ _ _ _, trivial⟩, ⟨hQ, hP, hKK, hbp, hbl, hbs⟩, Hb2.out⟩
    (fun x a' W => ∃ Bx, Blk W Bx 123 #[.int .i64 (x.1 : Int), .int .i64 (x.2 : Int)] ∧ a' = { tmps := #[.agg #[.int .i64 d, .int .i64 a, .int .i64 c], .slice A L.length cp, .int .i64 (p : Int), .int .i64 (k : Int), .pointer (some ⟨w.heap.size, 0, none⟩), undef, .pointer (some ⟨w.heap.size + 1, 0, none⟩), .pointer (some ⟨w.heap.size + 1 + 1, 0, none⟩), .slice none 0 0, .pointer (some ⟨w.heap.size + 1 + 1 + 1, 0, none⟩), .pointer (some ⟨Bx, 0, none⟩), .agg #[.int .i64 d, .int .i64 a, .int .i64 c], .slice A L.length cp, .int .i64 (p : Int), .int .i64 (k : Int), .func (.func 156) #[] #[.pointer (some ⟨bp, 0, none⟩), .pointer (some ⟨bl, 0, none⟩), .pointer (some ⟨bs, 0, none⟩)], .agg #[.int .i64 (x.1 : Int), .int .i64 (x.2 : Int)], undef, undef, undef, undef, undef, undef, undef, undef, undef, undef, undef, undef, undef], defers := [] })
    (fun x a' _ X Y row hs hg hr => by obtain ⟨Bx, h2, h3⟩ := hs; exact ⟨Bx, blk_own Bx 123 #[.int .i64 (x.1 : Int), .int .i64 (x.2 : Int)] () X Y row h2 hg (fun r e => (hr r e).2), h3⟩)
    ?assign ?body ?done ?stop
  case assign =>
    rintro l pre x W K ⟨⟨v, hv, hrow, -⟩, ⟨kQ, kP, kK, kp, kl, ks⟩, hB⟩ hK
    gi_wp2
    exact hK _ _ ((KeepsOthers.alloc _ _).from _) (KpB.alloc (KpB.refl _ _ _) hB.size _) ⟨⟨v, hv.alloc _, hrow.alloc _, trivial⟩, ⟨kQ.alloc _, kP.alloc _, kK.alloc _, kp.alloc _, kl.alloc _, ks.alloc _⟩, hB.alloc hB.size _⟩ ⟨W.heap.size, Blk.new W _ _, rfl⟩
  case body =>
    rintro l pre x a' W hl ⟨r, hr⟩ ⟨⟨v, hv, hrow, -⟩, ⟨kQ, kP, kK, kp, kl, ks⟩, hB⟩ ⟨Bx, bX, rfl⟩ hlt
    have hsz := hB.size
    have hfl : (pre.filter (fun x : Nat × Nat => lpB d a c x.1 x.2 p k)).length ≤ 4000000000 := Nat.le_trans (List.length_filter_le _ _) (by have := Hcl.out; omega)
    have Hfl := Lib.hid hfl; clear hfl
    have q0 : W.cell? ⟨w.heap.size, 0, none⟩ = some (.int .i64 d) := kQ.cell 0
    have q1 : W.cell? ⟨w.heap.size, 1, none⟩ = some (.int .i64 a) := kQ.cell 1
    have q2 : W.cell? ⟨w.heap.size, 2, none⟩ = some (.int .i64 c) := kQ.cell 2
    have q3 : W.cell? ⟨Bx, 0, none⟩ = some (.int .i64 (x.1 : Int)) := bX.cell 0
    have q4 : W.cell? ⟨Bx, 1, none⟩ = some (.int .i64 (x.2 : Int)) := bX.cell 1
    have q5 : W.cell? ⟨w.heap.size + 1, 0, none⟩ = some (.int .i64 (p : Int)) := kP.cell 0
    have q6 : W.cell? ⟨w.heap.size + 1 + 1, 0, none⟩ = some (.int .i64 (k : Int)) := kK.cell 0
    have hSl : ∀ X, Below W.heap.size W X → ∀ i ∈ [w.heap.size, w.heap.size + 1, w.heap.size + 1 + 1, bp, bl, bs], i ≠ w.heap.size + 1 + 1 + 1 ∧ ∃ cs t, Blk X i t cs ∧ t ≠ 123 := by
      intro X hX i h9
      simp only [List.mem_cons, List.not_mem_nil, or_false] at h9
      rcases h9 with rfl | rfl | rfl | rfl | rfl | rfl
      · exact ⟨by omega, _, _, kQ.on hX, by decide⟩
      · exact ⟨by omega, _, _, kP.on hX, by decide⟩
      · exact ⟨by omega, _, _, kK.on hX, by decide⟩
      · exact ⟨by omega, _, _, kp.on hX, by decide⟩
      · exact ⟨by omega, _, _, kl.on hX, by decide⟩
      · exact ⟨by omega, _, _, ks.on hX, by decide⟩
    have HSl := Lib.hid hSl; clear hSl
    have Hx := Lib.hid (Hc.out x)
    cases hbx : lpB d a c x.1 x.2 p k
    · rw [hbx] at Hx
      have Hnf := Lib.hid (show (pre ++ [x]).filter (fun x : Nat × Nat => lpB d a c x.1 x.2 p k) = pre.filter (fun x : Nat × Nat => lpB d a c x.1 x.2 p k) by rw [List.filter_append, List.filter_cons_of_neg (by rw [hbx]; decide)]; simp)
      clear hbx
      gi_wp2_with (refine ⟨trivial, ?_⟩; gi_at_call 145; refine (CallsIn.inRound l (callsIn_wide.2 (Hx.out _))).mono ?_; rintro e w3 ⟨rfl, hb3⟩)
      exact ⟨keepsFrom_below hb3, KpB.of_below hsz hb3, ⟨⟨v, Blk.on hv hb3, by rw [Hnf.out]; exact own_below hrow hb3, trivial⟩, ⟨kQ.on hb3, kP.on hb3, kK.on hb3, kp.on hb3, kl.on hb3, ks.on hb3⟩, hB.trans (hb3.mono hsz)⟩⟩
    · rw [hbx] at Hx
      have Hnf := Lib.hid (show (pre ++ [x]).filter (fun x : Nat × Nat => lpB d a c x.1 x.2 p k) = pre.filter (fun x : Nat × Nat => lpB d a c x.1 x.2 p k) ++ [x] by rw [List.filter_append, List.filter_cons_of_pos (by rw [hbx])]; rfl)
      clear hbx
      gi_wp2_with (first
        | (refine ⟨trivial, ?_⟩; gi_at_call 145; refine (CallsIn.inRound l (callsIn_wide.2 (Hx.out _))).mono ?_; rintro e w3 ⟨rfl, hb3⟩; have Hb3 := Lib.hid hb3; have hv3 := Blk.on hv hb3; have Hrow3 := Lib.hid (own_below hrow hb3); have hc3 : w3.cell? ⟨w.heap.size + 1 + 1 + 1, 0, none⟩ = some v := hv3.cell 0; have hX3 := bX.on hb3; have q3 := hX3.cell 0; have q4 := hX3.cell 1; simp at q3 q4; have hsz3 : w.heap.size ≤ w3.heap.size := Nat.le_trans hsz hb3.size; clear hb3)
        | (gi_at_builtin; refine wpListIn_append_own _ rfl _ _ 120 rfl w.heap.size 123 i0 (.agg #[.int .i64 0, .int .i64 0]) 2 16 Tryz.underlying120 hi hz0 hz1 hz2 rfl (by decide) _ _ _ rfl (Hrow3.out.alloc _) ⟨w3.heap.size, 0, none⟩ 1 1 [.int .i64 (x.1 : Int), .int .i64 (x.2 : Int)] rfl rfl (cell_two_new _ _ _ _) (by simp [Value.oneCell']) (by have := Hfl.out; unfold maxLen; omega) (by have := Hfl.out; omega) (by simp; omega) ?_; intro v' w4 hown' hgrow _; obtain ⟨g', cap', rfl⟩ := ownsRow_succ hown'; obtain ⟨hv4, hv5, hr5, hk5, hb5⟩ := Boxed.appended (show Boxed w3 (w.heap.size + 1 + 1 + 1) 120 v from hv3) (by decide) Hrow3.out hsz3 (by omega) hown' hgrow; have hkp := KpB.appended (S := [w.heap.size, w.heap.size + 1, w.heap.size + 1 + 1, bp, bl, bs]) (HSl.out w3 Hb3.out) (show Boxed w3 (w.heap.size + 1 + 1 + 1) 120 v from hv3) Hrow3.out hsz3 (by omega) hown' hgrow; have hc4 := hv4.cell; have hf4 := hv4.frozen; have Hkp := Lib.hid hkp; have Hv5 := Lib.hid hv5; have Hr5 := Lib.hid hr5; have Hk5 := Lib.hid hk5; clear hkp hv5 hr5 hk5 hb5 hown' hgrow hv4))
      exact ⟨(keepsFrom_below Hb3.out).trans (Hk5.out.from _), (KpB.of_below hsz Hb3.out).trans Hkp.out, ⟨⟨_, Hv5.out, by rw [Hnf.out, np_snoc, List.length_append]; exact Hr5.out, trivial⟩, ⟨Hkp.out.blk (by simp) (kQ.on Hb3.out), Hkp.out.blk (by simp) (kP.on Hb3.out), Hkp.out.blk (by simp) (kK.on Hb3.out), Hkp.out.blk (by simp) (kp.on Hb3.out), Hkp.out.blk (by simp) (kl.on Hb3.out), Hkp.out.blk (by simp) (ks.on Hb3.out)⟩, hB.trans (((Hb3.out.mono hsz)).trans Hkp.out.1)⟩⟩
  case done =>
    rintro D ys W hD rfl ⟨⟨v, hv, hrow, -⟩, -, hB⟩ hK
    have hc := hv.cell
    gi_wp2
    refine ⟨by simp, .inl ⟨_, _, rfl, run_takeDeferred hK, ?_⟩⟩
    exact ⟨_, results_tmp rfl _ _ _, ⟨v, rfl, ownsRow_putObj hrow _ hK rfl⟩, hB.trans (belowK_b (w := w) (Nat.le_refl _) W D _ _ (by omega) hK rfl rfl)⟩
  case stop =>
    rintro D c pre W _ _ h _
    exact h.elim
end
section
open Go Go.RowKit
attribute [local go_sem] Oper.semAt_some

set_option linter.unusedSimpArgs false in
set_option linter.unusedVariables false in
set_option maxRecDepth 100000 in
set_option maxHeartbeats 8000000 in
theorem firstLift_any (d a c : Int) (A : Option Addr) (cp p k : Nat) (L : List (Nat × Nat)) (w : World) (hp : 2 ≤ p) (hp2 : p ≤ 1000) (hk : 1 ≤ k) (hk2 : k ≤ 100) (hb : p ^ k ≤ 1000000000)
    (hL : ∀ x ∈ L, x.1 ≤ 1000000000 ∧ x.2 ≤ 1000000000) (hLl : p * L.length ≤ 4000000000) (hR : Rd npS w w.heap.size (.slice A L.length cp) L) :
    Calls Tryz.prog 134 #[.agg #[.int .i64 d, .int .i64 a, .int .i64 c], .slice A L.length cp, .int .i64 (p : Int), .int .i64 (k : Int)] w fun e W' => (∃ m n : Int, e = .returned (.tuple #[.agg #[.int .i64 m, .int .i64 n], .bool ((cdV (p ^ (k - 1)) p L).any (lfB d a c p k))])) ∧ Below w.heap.size w W' := by
  have hll : L.length ≤ 100000000000 := by have := Nat.mul_le_mul_right L.length hp; omega
  refine (callsIn_wide (n := 9)).1 ?_
  refine callsIn_of_wp_marks Tryz.func134 rfl trivial ?_ rfl
  simp only [Tryz.ntmps134, List.size_toArray, List.length_cons, List.length_nil, Nat.reduceAdd, Nat.reduceSub, Array.replicate_succ, Array.replicate_zero, List.push_toArray, List.append_toArray, List.nil_append, List.cons_append]
  gi_wp2_with (refine ⟨trivial, ?_⟩; gi_at_call 150; refine (callsIn_wide.2 (candidates_any d a c A L.length cp p k _ hp hp2 hk hk2 (bound_pw hp hb))).mono ?_; rintro e w2 ⟨bp, bl, bs, rfl, hbp, hbl, hbs, gp, gl, gs, hb2⟩)
  have Hb2 := Lib.hid (show Below w.heap.size w w2 from ((((((Below.refl w.heap.size w).alloc (Nat.le_refl _) _).alloc (by simp) _).alloc (by simp; omega) _).alloc (by simp; omega) _).alloc (by simp; omega) _).trans (hb2.mono (by simp; omega)))
  have hsz2 : w.heap.size + 5 ≤ w2.heap.size := by have h9 := hb2.size; simp at h9; omega
  have hQ := (show Blk (World.alloc (World.alloc (World.alloc (World.alloc (World.alloc w (Obj.cells #[.int .i64 d, .int .i64 a, .int .i64 c] 82)) (Obj.cells #[.int .i64 (p : Int)] 3)) (Obj.cells #[.int .i64 (k : Int)] 3)) (Obj.cells #[.int .i64 0, .int .i64 0] 123)) (Obj.cells #[.bool false] 4)) (w.heap.size) 82 #[.int .i64 d, .int .i64 a, .int .i64 c] by have h9 := ((((Blk.new w 82 #[.int .i64 d, .int .i64 a, .int .i64 c]).alloc (Obj.cells #[.int .i64 (p : Int)] 3)).alloc (Obj.cells #[.int .i64 (k : Int)] 3)).alloc (Obj.cells #[.int .i64 0, .int .i64 0] 123)).alloc (Obj.cells #[.bool false] 4); simpa only [World.size_alloc] using h9).on hb2
  have hP := (show Blk (World.alloc (World.alloc (World.alloc (World.alloc (World.alloc w (Obj.cells #[.int .i64 d, .int .i64 a, .int .i64 c] 82)) (Obj.cells #[.int .i64 (p : Int)] 3)) (Obj.cells #[.int .i64 (k : Int)] 3)) (Obj.cells #[.int .i64 0, .int .i64 0] 123)) (Obj.cells #[.bool false] 4)) (w.heap.size + 1) 3 #[.int .i64 (p : Int)] by have h9 := (((Blk.new (World.alloc w (Obj.cells #[.int .i64 d, .int .i64 a, .int .i64 c] 82)) 3 #[.int .i64 (p : Int)]).alloc (Obj.cells #[.int .i64 (k : Int)] 3)).alloc (Obj.cells #[.int .i64 0, .int .i64 0] 123)).alloc (Obj.cells #[.bool false] 4); simpa only [World.size_alloc] using h9).on hb2
  have hKK := (show Blk (World.alloc (World.alloc (World.alloc (World.alloc (World.alloc w (Obj.cells #[.int .i64 d, .int .i64 a, .int .i64 c] 82)) (Obj.cells #[.int .i64 (p : Int)] 3)) (Obj.cells #[.int .i64 (k : Int)] 3)) (Obj.cells #[.int .i64 0, .int .i64 0] 123)) (Obj.cells #[.bool false] 4)) (w.heap.size + 1 + 1) 3 #[.int .i64 (k : Int)] by have h9 := ((Blk.new (World.alloc (World.alloc w (Obj.cells #[.int .i64 d, .int .i64 a, .int .i64 c] 82)) (Obj.cells #[.int .i64 (p : Int)] 3)) 3 #[.int .i64 (k : Int)]).alloc (Obj.cells #[.int .i64 0, .int .i64 0] 123)).alloc (Obj.cells #[.bool false] 4); simpa only [World.size_alloc] using h9).on hb2
  have hPT := (show Blk (World.alloc (World.alloc (World.alloc (World.alloc (World.alloc w (Obj.cells #[.int .i64 d, .int .i64 a, .int .i64 c] 82)) (Obj.cells #[.int .i64 (p : Int)] 3)) (Obj.cells #[.int .i64 (k : Int)] 3)) (Obj.cells #[.int .i64 0, .int .i64 0] 123)) (Obj.cells #[.bool false] 4)) (w.heap.size + 1 + 1 + 1) 123 #[.int .i64 0, .int .i64 0] by have h9 := (Blk.new (World.alloc (World.alloc (World.alloc w (Obj.cells #[.int .i64 d, .int .i64 a, .int .i64 c] 82)) (Obj.cells #[.int .i64 (p : Int)] 3)) (Obj.cells #[.int .i64 (k : Int)] 3)) 123 #[.int .i64 0, .int .i64 0]).alloc (Obj.cells #[.bool false] 4); simpa only [World.size_alloc] using h9).on hb2
  have hOK := (show Blk (World.alloc (World.alloc (World.alloc (World.alloc (World.alloc w (Obj.cells #[.int .i64 d, .int .i64 a, .int .i64 c] 82)) (Obj.cells #[.int .i64 (p : Int)] 3)) (Obj.cells #[.int .i64 (k : Int)] 3)) (Obj.cells #[.int .i64 0, .int .i64 0] 123)) (Obj.cells #[.bool false] 4)) (w.heap.size + 1 + 1 + 1 + 1) 4 #[.bool false] by have h9 := Blk.new (World.alloc (World.alloc (World.alloc (World.alloc w (Obj.cells #[.int .i64 d, .int .i64 a, .int .i64 c] 82)) (Obj.cells #[.int .i64 (p : Int)] 3)) (Obj.cells #[.int .i64 (k : Int)] 3)) (Obj.cells #[.int .i64 0, .int .i64 0] 123)) 4 #[.bool false]; simpa only [World.size_alloc] using h9).on hb2
  clear hb2
  have gp4 : w.heap.size + 5 ≤ bp := by simp at gp; omega
  have gl4 : w.heap.size + 5 ≤ bl := by simp at gl; omega
  have gs4 : w.heap.size + 5 ≤ bs := by simp at gs; omega
  clear gp gl gs
  have hR2 : Rd npS w2 w.heap.size (.slice A L.length cp) L := hR.below Hb2.out
  have Hc := Lib.hid (fun (x : Nat × Nat) w9 => lifts_any d a c x.1 x.2 p k w9 hp hp2 hk2 hb)
  refine wpIn_rangeFunc_ownH rfl (by omega) (gf := 156) (lb := #[.pointer (some ⟨bp, 0, none⟩), .pointer (some ⟨bl, 0, none⟩), .pointer (some ⟨bs, 0, none⟩)]) rfl trivial (enters_of Tryz.func156 (by kernel_rfl) rfl)
    (cand_stops Fence.wide _ trivial rfl (by omega) bp bl bs w.heap.size p (p ^ (k - 1)) A cp L hp2 (bound_pw hp hb) hL hll w2 [w.heap.size, w.heap.size + 1, w.heap.size + 1 + 1, bp, bl, bs] (by simp) (by simp) (by simp) (by omega) hbp hbl hbs hR2)
    kpB_t (kpB_b (by omega)) (Below.refl _ _) (fun _ => rfl)
    (fun (pre : List (Nat × Nat)) W => ((∀ y ∈ pre, lfB d a c p k y = false) ∧ True) ∧ (Blk W (w.heap.size + 1 + 1 + 1) 123 #[.int .i64 0, .int .i64 0] ∧ Blk W (w.heap.size + 1 + 1 + 1 + 1) 4 #[.bool false] ∧ Blk W (w.heap.size) 82 #[.int .i64 d, .int .i64 a, .int .i64 c] ∧ Blk W (w.heap.size + 1) 3 #[.int .i64 (p : Int)] ∧ Blk W (w.heap.size + 1 + 1) 3 #[.int .i64 (k : Int)] ∧ Blk W (bp) 3 #[.int .i64 (p : Int)] ∧ Blk W (bl) 120 #[.slice A L.length cp] ∧ Blk W (bs) 3 #[.int .i64 ((p ^ (k - 1) : Nat) : Int)]) ∧ Below w.heap.size w W)
    (fun c9 (pre : List (Nat × Nat)) W => (c9 = .ret ∧ ∃ last ∈ pre, lfB d a c p k last = true ∧ Blk W (w.heap.size + 1 + 1 + 1) 123 #[.int .i64 (last.1 : Int), .int .i64 (last.2 : Int)] ∧ Blk W (w.heap.size + 1 + 1 + 1 + 1) 4 #[.bool true]) ∧ Below w.heap.size w W)
    (OwnFrom.and (Own.from (fun _ _ _ _ hs _ _ => hs) _) (OwnFrom.and (OwnFrom.and (Own.from (blk_own _ _ _) _) <| OwnFrom.and (Own.from (blk_own _ _ _) _) <| OwnFrom.and (Own.from (blk_own _ _ _) _) <| OwnFrom.and (Own.from (blk_own _ _ _) _) <| OwnFrom.and (Own.from (blk_own _ _ _) _) <| OwnFrom.and (Own.from (blk_own _ _ _) _) <| OwnFrom.and (Own.from (blk_own _ _ _) _) <| Own.from (blk_own _ _ _) _) (ownFrom_below (Nat.le_refl _) (by omega))))
    (fun c9 => OwnFrom.and (Own.from (fun s X Y row hs hg hr => by obtain ⟨hc, last, e1, e2, e3, e4⟩ := hs; exact ⟨hc, last, e1, e2, blk_own _ _ _ () X Y row e3 hg hr, blk_own _ _ _ () X Y row e4 hg hr⟩) _) (ownFrom_below (Nat.le_refl _) (by omega)))
    ⟨⟨fun y hy => by simp at hy, trivial⟩, ⟨hPT, hOK, hQ, hP, hKK, hbp, hbl, hbs⟩, Hb2.out⟩
    (fun x a' W => ∃ Bx, Blk W Bx 123 #[.int .i64 (x.1 : Int), .int .i64 (x.2 : Int)] ∧ a' = { tmps := #[.agg #[.int .i64 d, .int .i64 a, .int .i64 c], .slice A L.length cp, .int .i64 (p : Int), .int .i64 (k : Int), .pointer (some ⟨w.heap.size, 0, none⟩), undef, .pointer (some ⟨w.heap.size + 1, 0, none⟩), .pointer (some ⟨w.heap.size + 1 + 1, 0, none⟩), .pointer (some ⟨w.heap.size + 1 + 1 + 1, 0, none⟩), .pointer (some ⟨w.heap.size + 1 + 1 + 1 + 1, 0, none⟩), .pointer (some ⟨Bx, 0, none⟩), .agg #[.int .i64 d, .int .i64 a, .int .i64 c], .slice A L.length cp, .int .i64 (p : Int), .int .i64 (k : Int), .func (.func 156) #[] #[.pointer (some ⟨bp, 0, none⟩), .pointer (some ⟨bl, 0, none⟩), .pointer (some ⟨bs, 0, none⟩)], .agg #[.int .i64 (x.1 : Int), .int .i64 (x.2 : Int)], undef, undef, undef, undef, undef, undef, undef, undef, undef, undef], defers := [] })
    (fun x a' _ X Y row hs hg hr => by obtain ⟨Bx, h2, h3⟩ := hs; exact ⟨Bx, blk_own Bx 123 #[.int .i64 (x.1 : Int), .int .i64 (x.2 : Int)] () X Y row h2 hg (fun r e => (hr r e).2), h3⟩)
    ?assign ?body ?done ?stop
  case assign =>
    rintro l pre x W K ⟨hpre, ⟨kT, kO, kQ, kP, kK, kp, kl, ks⟩, hB⟩ hK
    gi_wp2
    exact hK _ _ ((KeepsOthers.alloc _ _).from _) (KpB.alloc (KpB.refl _ _ _) hB.size _) ⟨hpre, ⟨kT.alloc _, kO.alloc _, kQ.alloc _, kP.alloc _, kK.alloc _, kp.alloc _, kl.alloc _, ks.alloc _⟩, hB.alloc hB.size _⟩ ⟨W.heap.size, Blk.new W _ _, rfl⟩
  case body =>
    rintro l pre x a' W hl ⟨r, hr⟩ ⟨⟨hpre, -⟩, ⟨kT, kO, kQ, kP, kK, kp, kl, ks⟩, hB⟩ ⟨Bx, bX, rfl⟩ hlt
    have hsz := hB.size
    have q0 : W.cell? ⟨w.heap.size, 0, none⟩ = some (.int .i64 d) := kQ.cell 0
    have q1 : W.cell? ⟨w.heap.size, 1, none⟩ = some (.int .i64 a) := kQ.cell 1
    have q2 : W.cell? ⟨w.heap.size, 2, none⟩ = some (.int .i64 c) := kQ.cell 2
    have q3 : W.cell? ⟨Bx, 0, none⟩ = some (.int .i64 (x.1 : Int)) := bX.cell 0
    have q4 : W.cell? ⟨Bx, 1, none⟩ = some (.int .i64 (x.2 : Int)) := bX.cell 1
    have q5 : W.cell? ⟨w.heap.size + 1, 0, none⟩ = some (.int .i64 (p : Int)) := kP.cell 0
    have q6 : W.cell? ⟨w.heap.size + 1 + 1, 0, none⟩ = some (.int .i64 (k : Int)) := kK.cell 0
    have Hx := Lib.hid (Hc.out x)
    have Hpre := Lib.hid hpre; clear hpre
    have Hlf := Lib.hid (show lfB d a c p k x = (lpB d a c x.1 x.2 p k && llB d a c x.1 x.2 p k) from rfl)
    rw [← Hlf.out] at Hx
    cases hbx : lfB d a c p k x
    · rw [hbx] at Hx
      have Hbx := Lib.hid hbx; clear hbx
      gi_wp2_with (refine ⟨trivial, ?_⟩; gi_at_call 132; refine (CallsIn.inRound l (callsIn_wide.2 (Hx.out _))).mono ?_; rintro e w3 ⟨rfl, hb3⟩)
      exact ⟨keepsFrom_below hb3, KpB.of_below hsz hb3, ⟨⟨fun y hy => by rcases List.mem_append.1 hy with h | h; exact Hpre.out y h; rw [List.mem_singleton.1 h]; exact Hbx.out, trivial⟩, ⟨kT.on hb3, kO.on hb3, kQ.on hb3, kP.on hb3, kK.on hb3, kp.on hb3, kl.on hb3, ks.on hb3⟩, hB.trans (hb3.mono hsz)⟩⟩
    · rw [hbx] at Hx
      have Hbx := Lib.hid hbx; clear hbx
      gi_wp2_with (refine ⟨trivial, ?_⟩; gi_at_call 132; refine (CallsIn.inRound l (callsIn_wide.2 (Hx.out _))).mono ?_; rintro e w3 ⟨rfl, hb3⟩; have Hb3 := Lib.hid hb3; have hX3 := bX.on hb3; have q3 := hX3.cell 0; have q4 := hX3.cell 1; simp at q3 q4; have hT3 := kT.on hb3; have hO3 := kO.on hb3; have t0 := hT3.cell 0; have t1 := hT3.cell 1; have tf0 := hT3.frozen 0; have tf1 := hT3.frozen 1; have o0 := hO3.cell 0; have of0 := hO3.frozen 0; simp at t0 t1 o0; have hsz3 : w.heap.size ≤ w3.heap.size := Nat.le_trans hsz hb3.size; clear hb3)
      have z1 := hT3.set2 (b0 := .int .i64 (x.1 : Int)) (b1 := .int .i64 (x.2 : Int))
      have z2 := (((hO3.far (p := ⟨w.heap.size + 1 + 1 + 1, 0, none⟩) (by dsimp only; omega) (.int .i64 (x.1 : Int))).far (p := ⟨w.heap.size + 1 + 1 + 1, 1, none⟩) (by dsimp only; omega) (.int .i64 (x.2 : Int))).set 0 (.bool true))
      exact ⟨(keepsFrom_below Hb3.out).trans ((((KeepsOthers.setCell _ _ _).trans (KeepsOthers.setCell _ _ _)).trans (KeepsOthers.setCell _ _ _)).from _), ⟨rfl, x, List.mem_append.2 (.inr (List.mem_singleton.2 rfl)), Hbx.out, z1.far (by dsimp only; omega) _, by simpa using z2⟩,
        (((hB.trans (Hb3.out.mono hsz)).setCell (p := ⟨w.heap.size + 1 + 1 + 1, 0, none⟩) (by dsimp only; omega) _).setCell (p := ⟨w.heap.size + 1 + 1 + 1, 1, none⟩) (by dsimp only; omega) _).setCell (p := ⟨w.heap.size + 1 + 1 + 1 + 1, 0, none⟩) (by dsimp only; omega) _⟩
  case done =>
    rintro D ys W hD rfl ⟨⟨hpre, -⟩, ⟨kT, kO, -⟩, hB⟩ hK
    have t0 := kT.cell 0
    have t1 := kT.cell 1
    have tf0 := kT.frozen 0
    have tf1 := kT.frozen 1
    have o0 := kO.cell 0
    have of0 := kO.frozen 0
    simp at t0 t1 o0
    have Hany := Lib.hid (show (cdV (p ^ (k - 1)) p L).any (lfB d a c p k) = false from List.any_eq_false.2 (fun y hy => by rw [hpre y hy]; decide))
    gi_wp2
    have hZ1 := (kT.set2 (b0 := .int .i64 0) (b1 := .int .i64 0)).far (p := ⟨w.heap.size + 1 + 1 + 1 + 1, 0, none⟩) (by dsimp only; omega) (.bool false)
    have hZ2 := (((kO.far (p := ⟨w.heap.size + 1 + 1 + 1, 0, none⟩) (by dsimp only; omega) (.int .i64 0)).far (p := ⟨w.heap.size + 1 + 1 + 1, 1, none⟩) (by dsimp only; omega) (.int .i64 0)).set 0 (.bool false))
    have hK' := (((KeepsOthers.setCell W ⟨w.heap.size + 1 + 1 + 1, 0, none⟩ (.int .i64 0)).trans (KeepsOthers.setCell _ ⟨w.heap.size + 1 + 1 + 1, 1, none⟩ (.int .i64 0))).trans (KeepsOthers.setCell _ ⟨w.heap.size + 1 + 1 + 1 + 1, 0, none⟩ (.bool false))).same D _ hK rfl
    have hBZ := (((hB.setCell (p := ⟨w.heap.size + 1 + 1 + 1, 0, none⟩) (by dsimp only; omega) (.int .i64 0)).setCell (p := ⟨w.heap.size + 1 + 1 + 1, 1, none⟩) (by dsimp only; omega) (.int .i64 0)).setCell (p := ⟨w.heap.size + 1 + 1 + 1 + 1, 0, none⟩) (by dsimp only; omega) (.bool false))
    have c0 := cell_kept (hZ1.cell 0) (grownBy_putObj' _ D (.deferred none)) (fun r e => by cases e; exact ⟨_, hK', rfl⟩)
    have c1 := cell_kept (hZ1.cell 1) (grownBy_putObj' _ D (.deferred none)) (fun r e => by cases e; exact ⟨_, hK', rfl⟩)
    have c2 := cell_kept (hZ2.cell 0) (grownBy_putObj' _ D (.deferred none)) (fun r e => by cases e; exact ⟨_, hK', rfl⟩)
    refine ⟨by simp, .inl ⟨_, _, rfl, run_takeDeferred hK', ?_⟩⟩
    refine ⟨.tuple #[.agg #[.int .i64 0, .int .i64 0], .bool false], ?_, ⟨0, 0, by rw [Hany.out]⟩, hBZ.trans (belowK_b (w := w) (Nat.le_refl _) _ D _ _ (by omega) hK' rfl rfl)⟩
    simp [results, Tryz.results134, go_sem, c0, c1, c2]
  case stop =>
    rintro D c9 pre W hD hsub ⟨⟨rfl, last, hmem, hlf, kT, kO⟩, hB⟩ hK
    have Hany := Lib.hid (show (cdV (p ^ (k - 1)) p L).any (lfB d a c p k) = true from List.any_eq_true.2 ⟨last, hsub.subset hmem, hlf⟩)
    gi_wp2
    have c0 := cell_kept (kT.cell 0) (grownBy_putObj' _ D (.deferred none)) (fun r e => by cases e; exact ⟨_, hK, rfl⟩)
    have c1 := cell_kept (kT.cell 1) (grownBy_putObj' _ D (.deferred none)) (fun r e => by cases e; exact ⟨_, hK, rfl⟩)
    have c2 := cell_kept (kO.cell 0) (grownBy_putObj' _ D (.deferred none)) (fun r e => by cases e; exact ⟨_, hK, rfl⟩)
    refine ⟨by simp, .inl ⟨_, _, rfl, run_takeDeferred hK, ?_⟩⟩
    refine ⟨.tuple #[.agg #[.int .i64 (last.1 : Int), .int .i64 (last.2 : Int)], .bool true], ?_, ⟨_, _, by rw [Hany.out]⟩, hB.trans (belowK_b (w := w) (Nat.le_refl _) _ D _ _ (by omega) hK rfl rfl)⟩
    simp [results, Tryz.results134, go_sem, c0, c1, c2]
end
end Go.Proofs.YthdfpfhkmfmnbaaGreat
