/- Own texts put together: Is a pair possible, does it lift: the program's walks; Lists of pairs of numbers: all that continue some pairs, those that are possible at every level. Conditions: those of each theorem. -/
import Derived.Test.YthdfpfhkmfmnbaaGreatRcM8
namespace Go.Proofs.YthdfpfhkmfmnbaaGreat
section
open Go Go.RowKit

theorem intPower_blw (p k : Nat) (w : World) (hp : 0 < p) (hp2 : p ≤ 1000000000) (hk : k ≤ 100) (hb : p ^ k ≤ 1000000000) :
    Calls Tryz.prog 146 #[.int .i64 (p : Int), .int .i64 (k : Int)] w fun r w' => r = .returned (.int .i64 ((p ^ k : Nat) : Int)) ∧ Below w.heap.size w w' := by
  refine (intPower_any p k w hp hp2 hk hb).mono ?_
  rintro e w1 ⟨rfl, rfl⟩
  exact ⟨rfl, Below.refl _ _⟩
set_option linter.unusedSimpArgs false in
set_option linter.unusedVariables false in
set_option maxRecDepth 8000 in
set_option maxHeartbeats 8000000 in
theorem possible_any (d a c : Int) (m e p k : Nat) (w : World) (hp : 2 ≤ p) (hp2 : p ≤ 1000) (hk : k ≤ 100) (hb : p ^ k ≤ 1000000000) :
    Calls Tryz.prog 145 #[.agg #[.int .i64 d, .int .i64 a, .int .i64 c], .int .i64 (m : Int), .int .i64 (e : Int), .int .i64 (p : Int), .int .i64 (k : Int)] w fun r w' => r = .returned (.bool (lpB d a c m e p k)) ∧ Below w.heap.size w w' := by
  have h0 : 0 < p ^ k := Nat.pow_pos (by omega)
  have L := LF.of d a c m e k hp
  have Hp1 := Lib.hid (show lpB d a c m e p k = sqV (vqN d a c m e p k) p k from rfl)
  have Hw := Lib.hid (fun w9 => intPower_blw p k w9 (by omega) (by omega) hk hb)
  have Hv := Lib.hid (fun w9 => by have h9 := valueModulo_any d a c m e ((p ^ k : Nat) : Int) w9 (by omega) (by omega); rwa [L.f1] at h9)
  have Hs := Lib.hid (fun w9 => squareModulo_any ((vqN d a c m e p k : Nat) : Int) (vqN d a c m e p k) p k w9 hp hp2 hk (Int.emod_eq_of_lt (by omega) (by have := L.f4; omega)) hb)
  clear L
  generalize vqN d a c m e p k = V at *
  generalize p ^ k = PK at *
  go_enter Tryz.func145, Tryz.ntmps145
  go_upto_region 1 with fail
  obtain ⟨w1, hw9⟩ : ∃ x, x = (World.alloc w (Obj.cells #[.int .i64 d, .int .i64 a, .int .i64 c] 82)) := ⟨_, rfl⟩
  rw [← hw9]
  have hb1 : Below ((World.alloc w (Obj.cells #[.int .i64 d, .int .i64 a, .int .i64 c] 82))).heap.size (World.alloc w (Obj.cells #[.int .i64 d, .int .i64 a, .int .i64 c] 82)) w1 := by rw [hw9]; exact Below.refl _ _
  have S1 := Lib.hid (show w.heap.size + 1 ≤ w1.heap.size by have h9 := hb1.size; (try simp only [World.size_alloc, World.size_setCell, World.size_drew] at h9); omega)
  have NQQ := Lib.hid ((Blk.new w 82 #[.int .i64 d, .int .i64 a, .int .i64 c]).on hb1)
  have QQ := NQQ; clear NQQ
  have Hb1 := Lib.hid (bthen (bal (Below.refl w.heap.size w) (Obj.cells #[.int .i64 d, .int .i64 a, .int .i64 c] 82)) hb1)
  clear hb1
  clear hw9
  have qQQ0 : w1.cell? ⟨w.heap.size, 0, none⟩ = some (.int .i64 d) := QQ.out.cell 0
  have qQQ1 : w1.cell? ⟨w.heap.size, 1, none⟩ = some (.int .i64 a) := QQ.out.cell 1
  have qQQ2 : w1.cell? ⟨w.heap.size, 2, none⟩ = some (.int .i64 c) := QQ.out.cell 2
  have qQQl := QQ.out.lt
  go_wp2_with fail
  refine wp_region_tame (by kernel_rfl) (by kernel_rfl) (fun T _ W hT => ?_)
  have hx := hT.cell
  repeat (go_big_quiet_step ((first | (go_at_call 146; with_reducible exact hT.call (Hw.out _)) | (go_at_call 149; with_reducible exact hT.call (Hv.out _)) | (go_at_call 154; with_reducible exact hT.call (Hs.out _)) | fail)))
  refine wpQuiet_nil ?_
  intro tt
  clear hx
  have hb2 := hT.below tt
  generalize W tt = w2 at hb2 ⊢
  clear hT
  clear qQQ0 qQQ1 qQQ2 qQQl
  have S2 := Lib.hid (show w1.heap.size + 0 ≤ w2.heap.size by have h9 := hb2.size; (try simp only [World.size_alloc, World.size_setCell, World.size_drew] at h9); omega)
  have Z2 := Lib.hid (And.intro S1.out S2.out)
  have NQQ := Lib.hid (QQ.out.on hb2)
  have QQ := NQQ; clear NQQ
  have Hb2 := Lib.hid (bthen Hb1.out hb2)
  clear hb2
  go_wp2
  exact bodyPost_ret (v := .bool (sqV V p k)) (by simp [results, Tryz.results145, go_sem]) rfl ⟨by rw [Hp1.out], Hb2.out⟩
theorem ofV_md {x p k : Nat} (h : x % p ^ k ≠ 0) : ofV (x % p ^ k) p k = vlN (x % p ^ k) p := by unfold ofV; rw [if_neg h]
set_option linter.unusedSimpArgs false in
set_option linter.unusedVariables false in
set_option maxRecDepth 8000 in
set_option maxHeartbeats 8000000 in
theorem capped_any (x p k bn bk bp : Nat) (w : World) (hp : 2 ≤ p) (hp2 : p ≤ 1000) (hk : k ≤ 100) (hb : p ^ k ≤ 1000000000) (hx : x ≤ 10000000000) (hBn : Blk w bn 3 #[.int .i64 ((p ^ k : Nat) : Int)]) (hBk : Blk w bk 3 #[.int .i64 (k : Int)]) (hBp : Blk w bp 3 #[.int .i64 (p : Int)]) :
    Calls Tryz.prog 147 #[.int .i64 (x : Int), .pointer (some ⟨bn, 0, none⟩), .pointer (some ⟨bk, 0, none⟩), .pointer (some ⟨bp, 0, none⟩)] w fun r w' => r = .returned (.int .i64 ((ofV (x % p ^ k) p k : Nat) : Int)) ∧ Below w.heap.size w w' := by
  have h0 : 0 < p ^ k := Nat.pow_pos (by omega)
  have hmb : x % p ^ k < p ^ k := Nat.mod_lt _ h0
  have BN := Lib.hid hBn; have BK := Lib.hid hBk; have BP := Lib.hid hBp; clear hBn hBk hBp
  have qn : w.cell? ⟨bn, 0, none⟩ = some (.int .i64 ((p ^ k : Nat) : Int)) := BN.out.cell 0
  have qk : w.cell? ⟨bk, 0, none⟩ = some (.int .i64 (k : Int)) := BK.out.cell 0
  have qp : w.cell? ⟨bp, 0, none⟩ = some (.int .i64 (p : Int)) := BP.out.cell 0
  have qnl := BN.out.lt; have qkl := BK.out.lt; have qpl := BP.out.lt
  by_cases hz : x % p ^ k = 0
  · have Hf := Lib.hid (show ofV (x % p ^ k) p k = k by unfold ofV; rw [if_pos hz])
    generalize ofV (x % p ^ k) p k = r9 at *
    have hdz : decide (x % p ^ k = 0) = true := decide_eq_true hz
    have Hcast := Lib.hid (show ((x % p ^ k : Nat) : Int) = (x : Int) % ((p ^ k : Nat) : Int) from Int.natCast_emod _ _)
    have hpk0 : ¬ ((p ^ k : Nat) : Int) = 0 := by omega
    obtain ⟨y, hy⟩ : ∃ y, x % p ^ k = y := ⟨_, rfl⟩
    have Hy := Lib.hid (show (x : Int) % ((p ^ k : Nat) : Int) = (y : Int) by rw [← Hcast.out, hy])
    have Hyt := Lib.hid (show (x : Int).tmod ((p ^ k : Nat) : Int) = (y : Int) by rw [Int.tmod_eq_emod_of_nonneg (by omega)]; exact Hy.out)
    rw [hy] at hz hmb hdz
    have hy0 : ((y : Int) == 0) = true := beq_iff_eq.2 (by omega)
    have hyt := Hyt.out
    have hye := Hy.out
    clear hy Hcast
    generalize ((p ^ k : Nat) : Int) = PK at *
    go_enter Tryz.func147, Tryz.ntmps147
    go_wp2
    go_ret
    exact ⟨by rw [Hf.out] <;> rfl, Below.refl _ _⟩
  · have Hf := Lib.hid (ofV_md hz)
    have Hc := Lib.hid (fun w9 => valI_any ((x % p ^ k : Nat) : Int) p w9 (by omega) (by rw [Int.natAbs_natCast]; omega) hp (by omega))
    rw [Int.natAbs_natCast] at Hc
    generalize ofV (x % p ^ k) p k = r9 at *
    have hdz : decide (x % p ^ k = 0) = false := decide_eq_false hz
    have Hcast := Lib.hid (show ((x % p ^ k : Nat) : Int) = (x : Int) % ((p ^ k : Nat) : Int) from Int.natCast_emod _ _)
    have hpk0 : ¬ ((p ^ k : Nat) : Int) = 0 := by omega
    obtain ⟨y, hy⟩ : ∃ y, x % p ^ k = y := ⟨_, rfl⟩
    have Hy := Lib.hid (show (x : Int) % ((p ^ k : Nat) : Int) = (y : Int) by rw [← Hcast.out, hy])
    have Hyt := Lib.hid (show (x : Int).tmod ((p ^ k : Nat) : Int) = (y : Int) by rw [Int.tmod_eq_emod_of_nonneg (by omega)]; exact Hy.out)
    rw [hy] at hz hmb hdz Hc Hf
    have hy0 : ((y : Int) == 0) = false := beq_eq_false_iff_ne.2 (by omega)
    have hyt := Hyt.out
    have hye := Hy.out
    clear hy Hcast
    generalize ((p ^ k : Nat) : Int) = PK at *
    go_enter Tryz.func147, Tryz.ntmps147
    go_upto_region 3 with fail
    go_wp2_with fail
    refine wp_region_tame (by kernel_rfl) (by kernel_rfl) (fun T _ W hT => ?_)
    have hx9 := hT.cell
    repeat (go_big_quiet_step ((first | (go_at_call 79; with_reducible exact hT.call (Hc.out _)) | fail)))
    refine wpQuiet_nil ?_
    intro tt
    clear hx9
    go_wp2
    go_ret
    exact ⟨by rw [Hf.out] <;> rfl, hT.below tt⟩
theorem capL {x p k bn bk bp M N : Nat} {W : World} (hN : p ^ k = N) (hM : x % N = M) (hp : 2 ≤ p) (hp2 : p ≤ 1000) (hk : k ≤ 100) (hb : N ≤ 1000000000) (hx : x ≤ 10000000000) (hBn : Blk W bn 3 #[.int .i64 (N : Int)]) (hBk : Blk W bk 3 #[.int .i64 (k : Int)]) (hBp : Blk W bp 3 #[.int .i64 (p : Int)]) :
    Calls Tryz.prog 147 #[.int .i64 (x : Int), .pointer (some ⟨bn, 0, none⟩), .pointer (some ⟨bk, 0, none⟩), .pointer (some ⟨bp, 0, none⟩)] W fun r w' => ∃ v, r = .returned v ∧ v = .int .i64 ((ofV M p k : Nat) : Int) ∧ Below W.heap.size W w' := by
  subst hN
  refine (capped_any x p k bn bk bp W hp hp2 hk hb hx hBn hBk hBp).mono ?_
  rintro e w1 ⟨rfl, h⟩
  exact ⟨_, rfl, by rw [hM], h⟩
set_option linter.unusedSimpArgs false in
set_option linter.unusedVariables false in
set_option maxRecDepth 8000 in
set_option maxHeartbeats 8000000 in
theorem lifts_any (d a c : Int) (m e p k : Nat) (w : World) (hp : 2 ≤ p) (hp2 : p ≤ 1000) (hk : k ≤ 100) (hb : p ^ k ≤ 1000000000) :
    Calls Tryz.prog 132 #[.agg #[.int .i64 d, .int .i64 a, .int .i64 c], .int .i64 (m : Int), .int .i64 (e : Int), .int .i64 (p : Int), .int .i64 (k : Int)] w fun r w' => r = .returned (.bool (lpB d a c m e p k && llB d a c m e p k)) ∧ Below w.heap.size w w' := by
  have h0 : 0 < p ^ k := Nat.pow_pos (by omega)
  have L := LF.of d a c m e k hp
  obtain ⟨N, hN⟩ : ∃ N, p ^ k = N := ⟨_, rfl⟩
  have Hp1 := Lib.hid (show lpB d a c m e p k = sqV (vqN d a c m e p k) p k from rfl)
  have Hp2 := Lib.hid (show llB d a c m e p k = decide (2 * lwV p k (ofV (vqN d a c m e p k) p k) (ofV (bmN d a m e p k) p k) (ofV (beN a c m e p k) p k) + 1 ≤ k) from rfl)
  have Hpo := Lib.hid (fun w9 => possible_any d a c m e p k w9 hp hp2 hk hb)
  have Hw := Lib.hid (fun w9 => by have h9 := intPower_blw p k w9 (by omega) (by omega) hk hb; rwa [hN] at h9)
  have Hv := Lib.hid (fun w9 => by have h9 := valueModulo_any d a c m e ((p ^ k : Nat) : Int) w9 (by omega) (by omega); rwa [L.f1, hN] at h9)
  generalize lpB d a c m e p k = B1 at *
  generalize llB d a c m e p k = B2 at *
  generalize vqN d a c m e p k = V at *
  generalize bmN d a m e p k = M at *
  generalize beN a c m e p k = E at *
  obtain ⟨l1, l2, l3, l4, l5, l6⟩ := L
  have b1 := ofV_le hp l4
  have b2 := ofV_le hp l5
  have b3 := ofV_le hp l6
  have Hvn := Lib.hid (show 0 < V → ofV V p k = vlN V p ∧ vlN V p < k from fun h => ⟨by unfold ofV; rw [if_neg (by omega)], vl_lt hp h l4⟩)
  have HN := Lib.hid hN
  rw [hN] at l1 l2 l3 l4 l5 l6 hb h0
  clear hN
  have ht1 := tmV_bd (n := (N : Int)) (by omega) [4, d, (m : Int), m, m]
  have ht2 := tmV_bd (n := (N : Int)) (by omega) [2, a, (m : Int), e, e]
  have ht3 := tmV_bd (n := (N : Int)) (by omega) [2, a, (m : Int), m, e]
  have ht4 := tmV_bd (n := (N : Int)) (by omega) [4, c, (e : Int), e, e]
  obtain ⟨T1, hT1⟩ : ∃ T : Nat, tmV (N : Int) [4, d, (m : Int), m, m] = (T : Int) := ⟨(tmV (N : Int) [4, d, (m : Int), m, m]).toNat, by omega⟩
  obtain ⟨T2, hT2⟩ : ∃ T : Nat, tmV (N : Int) [2, a, (m : Int), e, e] = (T : Int) := ⟨(tmV (N : Int) [2, a, (m : Int), e, e]).toNat, by omega⟩
  obtain ⟨T3, hT3⟩ : ∃ T : Nat, tmV (N : Int) [2, a, (m : Int), m, e] = (T : Int) := ⟨(tmV (N : Int) [2, a, (m : Int), m, e]).toNat, by omega⟩
  obtain ⟨T4, hT4⟩ : ∃ T : Nat, tmV (N : Int) [4, c, (e : Int), e, e] = (T : Int) := ⟨(tmV (N : Int) [4, c, (e : Int), e, e]).toNat, by omega⟩
  rw [hT1] at ht1
  rw [hT2] at ht2
  rw [hT3] at ht3
  rw [hT4] at ht4
  have Hby := times_byM d a m e (N : Int)
  rw [hT1, hT2, l2, ← Int.natCast_add, ← Int.natCast_emod] at Hby
  have HM := Lib.hid (show (T1 + T2) % N = M by omega)
  have Hbe := times_byE a c m e (N : Int)
  rw [hT3, hT4, l3, ← Int.natCast_add, ← Int.natCast_emod] at Hbe
  have HE := Lib.hid (show (T3 + T4) % N = E by omega)
  clear Hby Hbe
  have c1 : (T1 : Int) < 1000000000 := by omega
  have c2 : (T2 : Int) < 1000000000 := by omega
  have c3 : (T3 : Int) < 1000000000 := by omega
  have c4 : (T4 : Int) < 1000000000 := by omega
  have HT1 := Lib.hid hT1; clear hT1 ht1
  have HT2 := Lib.hid hT2; clear hT2 ht2
  have HT3 := Lib.hid hT3; clear hT3 ht3
  have HT4 := Lib.hid hT4; clear hT4 ht4
  have Hval := Lib.hid (fun (h : 0 < V) w9 => valI_any (V : Int) p w9 (by omega) (by rw [Int.natAbs_natCast]; omega) hp (by omega))
  have Hvz := Lib.hid (show V = 0 → ofV V p k = k from fun h => by unfold ofV; rw [if_pos h])
  have Hpb := Lib.hid hb; have H0 := Lib.hid h0; have HV4 := Lib.hid l4; clear l1 l2 l3 l4 l5 l6 hb h0
  go_enter Tryz.func132, Tryz.ntmps132
  go_wp2_with fail
  refine (Hpo.out _).mono ?_; rintro e w1 ⟨rfl, hb1⟩
  have S1 := Lib.hid (show w.heap.size + 3 ≤ w1.heap.size by have h9 := hb1.size; (try simp only [World.size_alloc, World.size_setCell, World.size_drew] at h9); omega)
  have NQQ := Lib.hid ((((Blk.new w 82 #[.int .i64 d, .int .i64 a, .int .i64 c]).alloc (Obj.cells #[.int .i64 (p : Int)] 3)).alloc (Obj.cells #[.int .i64 (k : Int)] 3)).on hb1)
  have NPB := Lib.hid (((show Blk (World.alloc (World.alloc w (Obj.cells #[.int .i64 d, .int .i64 a, .int .i64 c] 82)) (Obj.cells #[.int .i64 (p : Int)] 3)) (w.heap.size + 1) 3 #[.int .i64 (p : Int)] by have h9 := (Blk.new (World.alloc w (Obj.cells #[.int .i64 d, .int .i64 a, .int .i64 c] 82)) 3 #[.int .i64 (p : Int)]); (try simp only [World.size_alloc, World.size_setCell] at h9); exact h9).alloc (Obj.cells #[.int .i64 (k : Int)] 3)).on hb1)
  have NKB := Lib.hid ((show Blk (World.alloc (World.alloc (World.alloc w (Obj.cells #[.int .i64 d, .int .i64 a, .int .i64 c] 82)) (Obj.cells #[.int .i64 (p : Int)] 3)) (Obj.cells #[.int .i64 (k : Int)] 3)) (w.heap.size + 1 + 1) 3 #[.int .i64 (k : Int)] by have h9 := (Blk.new (World.alloc (World.alloc w (Obj.cells #[.int .i64 d, .int .i64 a, .int .i64 c] 82)) (Obj.cells #[.int .i64 (p : Int)] 3)) 3 #[.int .i64 (k : Int)]); (try simp only [World.size_alloc, World.size_setCell] at h9); exact h9).on hb1)
  have QQ := NQQ; clear NQQ
  have PB := NPB; clear NPB
  have KB := NKB; clear NKB
  have Hb1 := Lib.hid (bthen (bal (bal (bal (Below.refl w.heap.size w) (Obj.cells #[.int .i64 d, .int .i64 a, .int .i64 c] 82)) (Obj.cells #[.int .i64 (p : Int)] 3)) (Obj.cells #[.int .i64 (k : Int)] 3)) hb1)
  clear hb1
  cases B1
  · go_wp2
    exact bodyPost_ret (v := .bool false) (by simp [results, Tryz.results132, go_sem]) rfl ⟨by rw [Bool.false_and], Hb1.out⟩
  · have qPB0 : w1.cell? ⟨w.heap.size + 1, 0, none⟩ = some (.int .i64 (p : Int)) := PB.out.cell 0
    have qPBl := PB.out.lt
    have qKB0 : w1.cell? ⟨w.heap.size + 1 + 1, 0, none⟩ = some (.int .i64 (k : Int)) := KB.out.cell 0
    have qKBl := KB.out.lt
    go_wp2_with fail
    clear qPB0 qPBl qKB0 qKBl
    refine (Hw.out _).mono ?_; rintro e w2 ⟨rfl, hb2⟩
    have S2 := Lib.hid (show w1.heap.size + 0 ≤ w2.heap.size by have h9 := hb2.size; (try simp only [World.size_alloc, World.size_setCell, World.size_drew] at h9); omega)
    have Z2 := Lib.hid (And.intro S1.out S2.out)
    have NQQ := Lib.hid (QQ.out.on hb2)
    have NPB := Lib.hid (PB.out.on hb2)
    have NKB := Lib.hid (KB.out.on hb2)
    have QQ := NQQ; clear NQQ
    have PB := NPB; clear NPB
    have KB := NKB; clear NKB
    have Hb2 := Lib.hid (bthen Hb1.out hb2)
    clear hb2
    go_upto_region 6 with fail
    obtain ⟨w3, hw9⟩ : ∃ x, x = (World.alloc w2 (Obj.cells #[.int .i64 (N : Int)] 3)) := ⟨_, rfl⟩
    rw [← hw9]
    have hb3 : Below ((World.alloc w2 (Obj.cells #[.int .i64 (N : Int)] 3))).heap.size (World.alloc w2 (Obj.cells #[.int .i64 (N : Int)] 3)) w3 := by rw [hw9]; exact Below.refl _ _
    have S3 := Lib.hid (show w2.heap.size + 1 ≤ w3.heap.size by have h9 := hb3.size; (try simp only [World.size_alloc, World.size_setCell, World.size_drew] at h9); omega)
    have Z3 := Lib.hid (And.intro Z2.out S3.out)
    have NQQ := Lib.hid ((QQ.out.alloc (Obj.cells #[.int .i64 (N : Int)] 3)).on hb3)
    have NPB := Lib.hid ((PB.out.alloc (Obj.cells #[.int .i64 (N : Int)] 3)).on hb3)
    have NKB := Lib.hid ((KB.out.alloc (Obj.cells #[.int .i64 (N : Int)] 3)).on hb3)
    have NNB := Lib.hid ((Blk.new w2 3 #[.int .i64 (N : Int)]).on hb3)
    have QQ := NQQ; clear NQQ
    have PB := NPB; clear NPB
    have KB := NKB; clear NKB
    have NB := NNB; clear NNB
    have Hb3 := Lib.hid (bthen (bal Hb2.out (Obj.cells #[.int .i64 (N : Int)] 3)) hb3)
    clear hb3
    clear hw9
    refine wp_region_flow2 [.val (.func (.func 147) #[] #[.pointer (some ⟨w2.heap.size, 0, none⟩), .pointer (some ⟨w.heap.size + 1 + 1, 0, none⟩), .pointer (some ⟨w.heap.size + 1, 0, none⟩)]), .val (.int .i64 (N : Int)), .val (.pointer (some ⟨w.heap.size, 0, none⟩)), .val (.int .i64 d), .val (.int .i64 (m : Int)), .val (.int .i64 (m : Int)), .val (.int .i64 (m : Int)), .row 3 5 #[.int .i64 4, .int .i64 d, .int .i64 (m : Int), .int .i64 (m : Int), .int .i64 (m : Int)], .val (.int .i64 (T1 : Int)), .val (.int .i64 (N : Int)), .val (.pointer (some ⟨w.heap.size, 1, none⟩)), .val (.int .i64 a), .val (.int .i64 (m : Int)), .val (.int .i64 (e : Int)), .val (.int .i64 (e : Int)), .row 3 5 #[.int .i64 2, .int .i64 a, .int .i64 (m : Int), .int .i64 (e : Int), .int .i64 (e : Int)], .val (.int .i64 (T2 : Int)), .val (.int .i64 ((T1 + T2 : Nat) : Int)), .val (.int .i64 ((ofV M p k : Nat) : Int)), .val (.func (.func 147) #[] #[.pointer (some ⟨w2.heap.size, 0, none⟩), .pointer (some ⟨w.heap.size + 1 + 1, 0, none⟩), .pointer (some ⟨w.heap.size + 1, 0, none⟩)]), .val (.int .i64 (N : Int)), .val (.pointer (some ⟨w.heap.size, 1, none⟩)), .val (.int .i64 a), .val (.int .i64 (m : Int)), .val (.int .i64 (m : Int)), .val (.int .i64 (e : Int)), .row 3 5 #[.int .i64 2, .int .i64 a, .int .i64 (m : Int), .int .i64 (m : Int), .int .i64 (e : Int)], .val (.int .i64 (T3 : Int)), .val (.int .i64 (N : Int)), .val (.pointer (some ⟨w.heap.size, 2, none⟩)), .val (.int .i64 c), .val (.int .i64 (e : Int)), .val (.int .i64 (e : Int)), .val (.int .i64 (e : Int)), .row 3 5 #[.int .i64 4, .int .i64 c, .int .i64 (e : Int), .int .i64 (e : Int), .int .i64 (e : Int)], .val (.int .i64 (T4 : Int)), .val (.int .i64 ((T3 + T4 : Nat) : Int)), .val (.int .i64 ((ofV E p k : Nat) : Int)), .val (.int .i64 ((min (ofV M p k) (ofV E p k) : Nat) : Int)), .val (.int .i64 ((min (ofV M p k) (ofV E p k) : Nat) : Int))] (by kernel_rfl) (by kernel_rfl) ?_ ?_
    · refine ⟨?_, ?_, ?_, ?_, ?_, ?_, ?_, ?_, ?_, ?_, ?_, ?_, ?_, ?_, ?_, ?_, ?_, ?_, ?_, ?_, ?_, ?_, ?_, ?_, ?_, ?_, ?_, ?_, ?_, ?_, ?_, ?_, ?_, ?_, ?_, ?_, ?_, ?_, ?_, ?_, trivial⟩
      · intro ev W hS hold hc hf hdep
        have e13 : ev (.tmp 13) = .func (.func 147) #[] #[.pointer (some ⟨w2.heap.size, 0, none⟩), .pointer (some ⟨w.heap.size + 1 + 1, 0, none⟩), .pointer (some ⟨w.heap.size + 1, 0, none⟩)] := hold 13 (by kernel_rfl)
        clear hold hdep
        show FlowAt _ _ _ _ (fun v w' => (FR.val (.func (.func 147) #[] #[.pointer (some ⟨w2.heap.size, 0, none⟩), .pointer (some ⟨w.heap.size + 1 + 1, 0, none⟩), .pointer (some ⟨w.heap.size + 1, 0, none⟩)])).holds v w' ∧ Below W.heap.size W w')
        unfold FlowAt FR.holds
        go_simp
        exact Below.refl _ _
      · intro ev W hS hold hc hf hdep
        have e12 : ev (.tmp 12) = .int .i64 (N : Int) := hold 12 (by kernel_rfl)
        clear hold hdep
        show FlowAt _ _ _ _ (fun v w' => (FR.val (.int .i64 (N : Int))).holds v w' ∧ Below W.heap.size W w')
        unfold FlowAt FR.holds
        go_simp
        exact Below.refl _ _
      · intro ev W hS hold hc hf hdep
        have e5 : ev (.tmp 5) = .pointer (some ⟨w.heap.size, 0, none⟩) := hold 5 (by kernel_rfl)
        clear hold hdep
        show FlowAt _ _ _ _ (fun v w' => (FR.val (.pointer (some ⟨w.heap.size, 0, none⟩))).holds v w' ∧ Below W.heap.size W w')
        unfold FlowAt FR.holds
        go_simp
        exact Below.refl _ _
      · intro ev W hS hold hc hf hdep
        have e31 : ev (.tmp 31) = (.pointer (some ⟨w.heap.size, 0, none⟩)) := hdep 2 31 (by kernel_rfl)
        have q := (hS.cell (p := ⟨w.heap.size, 0, none⟩) QQ.out.lt).trans (QQ.out.cell 0)
        clear hold hdep
        show FlowAt _ _ _ _ (fun v w' => (FR.val (.int .i64 d)).holds v w' ∧ Below W.heap.size W w')
        unfold FlowAt FR.holds
        go_simp
        exact Below.refl _ _
      · intro ev W hS hold hc hf hdep
        have e1 : ev (.tmp 1) = .int .i64 (m : Int) := hold 1 (by kernel_rfl)
        clear hold hdep
        show FlowAt _ _ _ _ (fun v w' => (FR.val (.int .i64 (m : Int))).holds v w' ∧ Below W.heap.size W w')
        unfold FlowAt FR.holds
        go_simp
        exact Below.refl _ _
      · intro ev W hS hold hc hf hdep
        have e1 : ev (.tmp 1) = .int .i64 (m : Int) := hold 1 (by kernel_rfl)
        clear hold hdep
        show FlowAt _ _ _ _ (fun v w' => (FR.val (.int .i64 (m : Int))).holds v w' ∧ Below W.heap.size W w')
        unfold FlowAt FR.holds
        go_simp
        exact Below.refl _ _
      · intro ev W hS hold hc hf hdep
        have e1 : ev (.tmp 1) = .int .i64 (m : Int) := hold 1 (by kernel_rfl)
        clear hold hdep
        show FlowAt _ _ _ _ (fun v w' => (FR.val (.int .i64 (m : Int))).holds v w' ∧ Below W.heap.size W w')
        unfold FlowAt FR.holds
        go_simp
        exact Below.refl _ _
      · intro ev W hS hold hc hf hdep
        have e32 : ev (.tmp 32) = (.int .i64 d) := hdep 3 32 (by kernel_rfl)
        have e33 : ev (.tmp 33) = (.int .i64 (m : Int)) := hdep 4 33 (by kernel_rfl)
        have e34 : ev (.tmp 34) = (.int .i64 (m : Int)) := hdep 5 34 (by kernel_rfl)
        have e35 : ev (.tmp 35) = (.int .i64 (m : Int)) := hdep 6 35 (by kernel_rfl)
        clear hold hdep
        show FlowAt _ _ _ _ (fun v w' => (FR.row 3 5 #[.int .i64 4, .int .i64 d, .int .i64 (m : Int), .int .i64 (m : Int), .int .i64 (m : Int)]).holds v w' ∧ Below W.heap.size W w')
        unfold FlowAt FR.holds
        go_simp
        exact ⟨Blk.new _ _ _, bal (Below.refl _ _) _⟩
      · intro ev W hS hold hc hf hdep
        have e30 : ev (.tmp 30) = (.int .i64 (N : Int)) := hdep 1 30 (by kernel_rfl)
        obtain ⟨g36, e36, B36⟩ : (FR.row 3 5 #[.int .i64 4, .int .i64 d, .int .i64 (m : Int), .int .i64 (m : Int), .int .i64 (m : Int)]).holds (ev (.tmp 36)) W := hdep 7 36 (by kernel_rfl)
        clear hold hdep
        show FlowAt _ _ _ _ (fun v w' => (FR.val (.int .i64 (T1 : Int))).holds v w' ∧ Below W.heap.size W w')
        unfold FlowAt FR.holds
        go_simp
        go_at_call 148
        exact times5 HT1.out (by have := H0.out; omega) (by have := Hpb.out; omega) B36
      · intro ev W hS hold hc hf hdep
        have e12 : ev (.tmp 12) = .int .i64 (N : Int) := hold 12 (by kernel_rfl)
        clear hold hdep
        show FlowAt _ _ _ _ (fun v w' => (FR.val (.int .i64 (N : Int))).holds v w' ∧ Below W.heap.size W w')
        unfold FlowAt FR.holds
        go_simp
        exact Below.refl _ _
      · intro ev W hS hold hc hf hdep
        have e5 : ev (.tmp 5) = .pointer (some ⟨w.heap.size, 0, none⟩) := hold 5 (by kernel_rfl)
        clear hold hdep
        show FlowAt _ _ _ _ (fun v w' => (FR.val (.pointer (some ⟨w.heap.size, 1, none⟩))).holds v w' ∧ Below W.heap.size W w')
        unfold FlowAt FR.holds
        go_simp
        exact Below.refl _ _
      · intro ev W hS hold hc hf hdep
        have e39 : ev (.tmp 39) = (.pointer (some ⟨w.heap.size, 1, none⟩)) := hdep 10 39 (by kernel_rfl)
        have q := (hS.cell (p := ⟨w.heap.size, 1, none⟩) QQ.out.lt).trans (QQ.out.cell 1)
        clear hold hdep
        show FlowAt _ _ _ _ (fun v w' => (FR.val (.int .i64 a)).holds v w' ∧ Below W.heap.size W w')
        unfold FlowAt FR.holds
        go_simp
        exact Below.refl _ _
      · intro ev W hS hold hc hf hdep
        have e1 : ev (.tmp 1) = .int .i64 (m : Int) := hold 1 (by kernel_rfl)
        clear hold hdep
        show FlowAt _ _ _ _ (fun v w' => (FR.val (.int .i64 (m : Int))).holds v w' ∧ Below W.heap.size W w')
        unfold FlowAt FR.holds
        go_simp
        exact Below.refl _ _
      · intro ev W hS hold hc hf hdep
        have e2 : ev (.tmp 2) = .int .i64 (e : Int) := hold 2 (by kernel_rfl)
        clear hold hdep
        show FlowAt _ _ _ _ (fun v w' => (FR.val (.int .i64 (e : Int))).holds v w' ∧ Below W.heap.size W w')
        unfold FlowAt FR.holds
        go_simp
        exact Below.refl _ _
      · intro ev W hS hold hc hf hdep
        have e2 : ev (.tmp 2) = .int .i64 (e : Int) := hold 2 (by kernel_rfl)
        clear hold hdep
        show FlowAt _ _ _ _ (fun v w' => (FR.val (.int .i64 (e : Int))).holds v w' ∧ Below W.heap.size W w')
        unfold FlowAt FR.holds
        go_simp
        exact Below.refl _ _
      · intro ev W hS hold hc hf hdep
        have e40 : ev (.tmp 40) = (.int .i64 a) := hdep 11 40 (by kernel_rfl)
        have e41 : ev (.tmp 41) = (.int .i64 (m : Int)) := hdep 12 41 (by kernel_rfl)
        have e42 : ev (.tmp 42) = (.int .i64 (e : Int)) := hdep 13 42 (by kernel_rfl)
        have e43 : ev (.tmp 43) = (.int .i64 (e : Int)) := hdep 14 43 (by kernel_rfl)
        clear hold hdep
        show FlowAt _ _ _ _ (fun v w' => (FR.row 3 5 #[.int .i64 2, .int .i64 a, .int .i64 (m : Int), .int .i64 (e : Int), .int .i64 (e : Int)]).holds v w' ∧ Below W.heap.size W w')
        unfold FlowAt FR.holds
        go_simp
        exact ⟨Blk.new _ _ _, bal (Below.refl _ _) _⟩
      · intro ev W hS hold hc hf hdep
        have e38 : ev (.tmp 38) = (.int .i64 (N : Int)) := hdep 9 38 (by kernel_rfl)
        obtain ⟨g44, e44, B44⟩ : (FR.row 3 5 #[.int .i64 2, .int .i64 a, .int .i64 (m : Int), .int .i64 (e : Int), .int .i64 (e : Int)]).holds (ev (.tmp 44)) W := hdep 15 44 (by kernel_rfl)
        clear hold hdep
        show FlowAt _ _ _ _ (fun v w' => (FR.val (.int .i64 (T2 : Int))).holds v w' ∧ Below W.heap.size W w')
        unfold FlowAt FR.holds
        go_simp
        go_at_call 148
        exact times5 HT2.out (by have := H0.out; omega) (by have := Hpb.out; omega) B44
      · intro ev W hS hold hc hf hdep
        have e37 : ev (.tmp 37) = (.int .i64 (T1 : Int)) := hdep 8 37 (by kernel_rfl)
        have e45 : ev (.tmp 45) = (.int .i64 (T2 : Int)) := hdep 16 45 (by kernel_rfl)
        clear hold hdep
        show FlowAt _ _ _ _ (fun v w' => (FR.val (.int .i64 ((T1 + T2 : Nat) : Int))).holds v w' ∧ Below W.heap.size W w')
        unfold FlowAt FR.holds
        go_simp
        exact ⟨wrap_in (by omega) (by omega), Below.refl _ _⟩
      · intro ev W hS hold hc hf hdep
        have e29 : ev (.tmp 29) = (.func (.func 147) #[] #[.pointer (some ⟨w2.heap.size, 0, none⟩), .pointer (some ⟨w.heap.size + 1 + 1, 0, none⟩), .pointer (some ⟨w.heap.size + 1, 0, none⟩)]) := hdep 0 29 (by kernel_rfl)
        have e46 : ev (.tmp 46) = (.int .i64 ((T1 + T2 : Nat) : Int)) := hdep 17 46 (by kernel_rfl)
        clear hold hdep
        show FlowAt _ _ _ _ (fun v w' => (FR.val (.int .i64 ((ofV M p k : Nat) : Int))).holds v w' ∧ Below W.heap.size W w')
        unfold FlowAt FR.holds
        go_simp
        exact capL HN.out HM.out hp hp2 hk Hpb.out (by omega) (NB.out.on hS) (KB.out.on hS) (PB.out.on hS)
      · intro ev W hS hold hc hf hdep
        have e13 : ev (.tmp 13) = .func (.func 147) #[] #[.pointer (some ⟨w2.heap.size, 0, none⟩), .pointer (some ⟨w.heap.size + 1 + 1, 0, none⟩), .pointer (some ⟨w.heap.size + 1, 0, none⟩)] := hold 13 (by kernel_rfl)
        clear hold hdep
        show FlowAt _ _ _ _ (fun v w' => (FR.val (.func (.func 147) #[] #[.pointer (some ⟨w2.heap.size, 0, none⟩), .pointer (some ⟨w.heap.size + 1 + 1, 0, none⟩), .pointer (some ⟨w.heap.size + 1, 0, none⟩)])).holds v w' ∧ Below W.heap.size W w')
        unfold FlowAt FR.holds
        go_simp
        exact Below.refl _ _
      · intro ev W hS hold hc hf hdep
        have e12 : ev (.tmp 12) = .int .i64 (N : Int) := hold 12 (by kernel_rfl)
        clear hold hdep
        show FlowAt _ _ _ _ (fun v w' => (FR.val (.int .i64 (N : Int))).holds v w' ∧ Below W.heap.size W w')
        unfold FlowAt FR.holds
        go_simp
        exact Below.refl _ _
      · intro ev W hS hold hc hf hdep
        have e5 : ev (.tmp 5) = .pointer (some ⟨w.heap.size, 0, none⟩) := hold 5 (by kernel_rfl)
        clear hold hdep
        show FlowAt _ _ _ _ (fun v w' => (FR.val (.pointer (some ⟨w.heap.size, 1, none⟩))).holds v w' ∧ Below W.heap.size W w')
        unfold FlowAt FR.holds
        go_simp
        exact Below.refl _ _
      · intro ev W hS hold hc hf hdep
        have e50 : ev (.tmp 50) = (.pointer (some ⟨w.heap.size, 1, none⟩)) := hdep 21 50 (by kernel_rfl)
        have q := (hS.cell (p := ⟨w.heap.size, 1, none⟩) QQ.out.lt).trans (QQ.out.cell 1)
        clear hold hdep
        show FlowAt _ _ _ _ (fun v w' => (FR.val (.int .i64 a)).holds v w' ∧ Below W.heap.size W w')
        unfold FlowAt FR.holds
        go_simp
        exact Below.refl _ _
      · intro ev W hS hold hc hf hdep
        have e1 : ev (.tmp 1) = .int .i64 (m : Int) := hold 1 (by kernel_rfl)
        clear hold hdep
        show FlowAt _ _ _ _ (fun v w' => (FR.val (.int .i64 (m : Int))).holds v w' ∧ Below W.heap.size W w')
        unfold FlowAt FR.holds
        go_simp
        exact Below.refl _ _
      · intro ev W hS hold hc hf hdep
        have e1 : ev (.tmp 1) = .int .i64 (m : Int) := hold 1 (by kernel_rfl)
        clear hold hdep
        show FlowAt _ _ _ _ (fun v w' => (FR.val (.int .i64 (m : Int))).holds v w' ∧ Below W.heap.size W w')
        unfold FlowAt FR.holds
        go_simp
        exact Below.refl _ _
      · intro ev W hS hold hc hf hdep
        have e2 : ev (.tmp 2) = .int .i64 (e : Int) := hold 2 (by kernel_rfl)
        clear hold hdep
        show FlowAt _ _ _ _ (fun v w' => (FR.val (.int .i64 (e : Int))).holds v w' ∧ Below W.heap.size W w')
        unfold FlowAt FR.holds
        go_simp
        exact Below.refl _ _
      · intro ev W hS hold hc hf hdep
        have e51 : ev (.tmp 51) = (.int .i64 a) := hdep 22 51 (by kernel_rfl)
        have e52 : ev (.tmp 52) = (.int .i64 (m : Int)) := hdep 23 52 (by kernel_rfl)
        have e53 : ev (.tmp 53) = (.int .i64 (m : Int)) := hdep 24 53 (by kernel_rfl)
        have e54 : ev (.tmp 54) = (.int .i64 (e : Int)) := hdep 25 54 (by kernel_rfl)
        clear hold hdep
        show FlowAt _ _ _ _ (fun v w' => (FR.row 3 5 #[.int .i64 2, .int .i64 a, .int .i64 (m : Int), .int .i64 (m : Int), .int .i64 (e : Int)]).holds v w' ∧ Below W.heap.size W w')
        unfold FlowAt FR.holds
        go_simp
        exact ⟨Blk.new _ _ _, bal (Below.refl _ _) _⟩
      · intro ev W hS hold hc hf hdep
        have e49 : ev (.tmp 49) = (.int .i64 (N : Int)) := hdep 20 49 (by kernel_rfl)
        obtain ⟨g55, e55, B55⟩ : (FR.row 3 5 #[.int .i64 2, .int .i64 a, .int .i64 (m : Int), .int .i64 (m : Int), .int .i64 (e : Int)]).holds (ev (.tmp 55)) W := hdep 26 55 (by kernel_rfl)
        clear hold hdep
        show FlowAt _ _ _ _ (fun v w' => (FR.val (.int .i64 (T3 : Int))).holds v w' ∧ Below W.heap.size W w')
        unfold FlowAt FR.holds
        go_simp
        go_at_call 148
        exact times5 HT3.out (by have := H0.out; omega) (by have := Hpb.out; omega) B55
      · intro ev W hS hold hc hf hdep
        have e12 : ev (.tmp 12) = .int .i64 (N : Int) := hold 12 (by kernel_rfl)
        clear hold hdep
        show FlowAt _ _ _ _ (fun v w' => (FR.val (.int .i64 (N : Int))).holds v w' ∧ Below W.heap.size W w')
        unfold FlowAt FR.holds
        go_simp
        exact Below.refl _ _
      · intro ev W hS hold hc hf hdep
        have e5 : ev (.tmp 5) = .pointer (some ⟨w.heap.size, 0, none⟩) := hold 5 (by kernel_rfl)
        clear hold hdep
        show FlowAt _ _ _ _ (fun v w' => (FR.val (.pointer (some ⟨w.heap.size, 2, none⟩))).holds v w' ∧ Below W.heap.size W w')
        unfold FlowAt FR.holds
        go_simp
        exact Below.refl _ _
      · intro ev W hS hold hc hf hdep
        have e58 : ev (.tmp 58) = (.pointer (some ⟨w.heap.size, 2, none⟩)) := hdep 29 58 (by kernel_rfl)
        have q := (hS.cell (p := ⟨w.heap.size, 2, none⟩) QQ.out.lt).trans (QQ.out.cell 2)
        clear hold hdep
        show FlowAt _ _ _ _ (fun v w' => (FR.val (.int .i64 c)).holds v w' ∧ Below W.heap.size W w')
        unfold FlowAt FR.holds
        go_simp
        exact Below.refl _ _
      · intro ev W hS hold hc hf hdep
        have e2 : ev (.tmp 2) = .int .i64 (e : Int) := hold 2 (by kernel_rfl)
        clear hold hdep
        show FlowAt _ _ _ _ (fun v w' => (FR.val (.int .i64 (e : Int))).holds v w' ∧ Below W.heap.size W w')
        unfold FlowAt FR.holds
        go_simp
        exact Below.refl _ _
      · intro ev W hS hold hc hf hdep
        have e2 : ev (.tmp 2) = .int .i64 (e : Int) := hold 2 (by kernel_rfl)
        clear hold hdep
        show FlowAt _ _ _ _ (fun v w' => (FR.val (.int .i64 (e : Int))).holds v w' ∧ Below W.heap.size W w')
        unfold FlowAt FR.holds
        go_simp
        exact Below.refl _ _
      · intro ev W hS hold hc hf hdep
        have e2 : ev (.tmp 2) = .int .i64 (e : Int) := hold 2 (by kernel_rfl)
        clear hold hdep
        show FlowAt _ _ _ _ (fun v w' => (FR.val (.int .i64 (e : Int))).holds v w' ∧ Below W.heap.size W w')
        unfold FlowAt FR.holds
        go_simp
        exact Below.refl _ _
      · intro ev W hS hold hc hf hdep
        have e59 : ev (.tmp 59) = (.int .i64 c) := hdep 30 59 (by kernel_rfl)
        have e60 : ev (.tmp 60) = (.int .i64 (e : Int)) := hdep 31 60 (by kernel_rfl)
        have e61 : ev (.tmp 61) = (.int .i64 (e : Int)) := hdep 32 61 (by kernel_rfl)
        have e62 : ev (.tmp 62) = (.int .i64 (e : Int)) := hdep 33 62 (by kernel_rfl)
        clear hold hdep
        show FlowAt _ _ _ _ (fun v w' => (FR.row 3 5 #[.int .i64 4, .int .i64 c, .int .i64 (e : Int), .int .i64 (e : Int), .int .i64 (e : Int)]).holds v w' ∧ Below W.heap.size W w')
        unfold FlowAt FR.holds
        go_simp
        exact ⟨Blk.new _ _ _, bal (Below.refl _ _) _⟩
      · intro ev W hS hold hc hf hdep
        have e57 : ev (.tmp 57) = (.int .i64 (N : Int)) := hdep 28 57 (by kernel_rfl)
        obtain ⟨g63, e63, B63⟩ : (FR.row 3 5 #[.int .i64 4, .int .i64 c, .int .i64 (e : Int), .int .i64 (e : Int), .int .i64 (e : Int)]).holds (ev (.tmp 63)) W := hdep 34 63 (by kernel_rfl)
        clear hold hdep
        show FlowAt _ _ _ _ (fun v w' => (FR.val (.int .i64 (T4 : Int))).holds v w' ∧ Below W.heap.size W w')
        unfold FlowAt FR.holds
        go_simp
        go_at_call 148
        exact times5 HT4.out (by have := H0.out; omega) (by have := Hpb.out; omega) B63
      · intro ev W hS hold hc hf hdep
        have e56 : ev (.tmp 56) = (.int .i64 (T3 : Int)) := hdep 27 56 (by kernel_rfl)
        have e64 : ev (.tmp 64) = (.int .i64 (T4 : Int)) := hdep 35 64 (by kernel_rfl)
        clear hold hdep
        show FlowAt _ _ _ _ (fun v w' => (FR.val (.int .i64 ((T3 + T4 : Nat) : Int))).holds v w' ∧ Below W.heap.size W w')
        unfold FlowAt FR.holds
        go_simp
        exact ⟨wrap_in (by omega) (by omega), Below.refl _ _⟩
      · intro ev W hS hold hc hf hdep
        have e48 : ev (.tmp 48) = (.func (.func 147) #[] #[.pointer (some ⟨w2.heap.size, 0, none⟩), .pointer (some ⟨w.heap.size + 1 + 1, 0, none⟩), .pointer (some ⟨w.heap.size + 1, 0, none⟩)]) := hdep 19 48 (by kernel_rfl)
        have e65 : ev (.tmp 65) = (.int .i64 ((T3 + T4 : Nat) : Int)) := hdep 36 65 (by kernel_rfl)
        clear hold hdep
        show FlowAt _ _ _ _ (fun v w' => (FR.val (.int .i64 ((ofV E p k : Nat) : Int))).holds v w' ∧ Below W.heap.size W w')
        unfold FlowAt FR.holds
        go_simp
        exact capL HN.out HE.out hp hp2 hk Hpb.out (by omega) (NB.out.on hS) (KB.out.on hS) (PB.out.on hS)
      · intro ev W hS hold hc hf hdep
        have e47 : ev (.tmp 47) = (.int .i64 ((ofV M p k : Nat) : Int)) := hdep 18 47 (by kernel_rfl)
        have e66 : ev (.tmp 66) = (.int .i64 ((ofV E p k : Nat) : Int)) := hdep 37 66 (by kernel_rfl)
        clear hold hdep
        show FlowAt _ _ _ _ (fun v w' => (FR.val (.int .i64 ((min (ofV M p k) (ofV E p k) : Nat) : Int))).holds v w' ∧ Below W.heap.size W w')
        unfold FlowAt FR.holds
        go_simp
        exact ⟨by omega, Below.refl _ _⟩
      · intro ev W hS hold hc hf hdep
        have e67 : ev (.tmp 67) = (.int .i64 ((min (ofV M p k) (ofV E p k) : Nat) : Int)) := hdep 38 67 (by kernel_rfl)
        clear hold hdep
        show FlowAt _ _ _ _ (fun v w' => (FR.val (.int .i64 ((min (ofV M p k) (ofV E p k) : Nat) : Int))).holds v w' ∧ Below W.heap.size W w')
        unfold FlowAt FR.holds
        go_simp
        exact Below.refl _ _
    intro f w4 hb4 hfz
    have hL : f 39 = .int .i64 ((min (ofV M p k) (ofV E p k) : Nat) : Int) := hfz 39 (by decide)
    clear hfz
    have S4 := Lib.hid (show w3.heap.size + 0 ≤ w4.heap.size by have h9 := hb4.size; (try simp only [World.size_alloc, World.size_setCell, World.size_drew] at h9); omega)
    have Z4 := Lib.hid (And.intro Z3.out S4.out)
    have NQQ := Lib.hid (QQ.out.on hb4)
    have NPB := Lib.hid (PB.out.on hb4)
    have NKB := Lib.hid (KB.out.on hb4)
    have NNB := Lib.hid (NB.out.on hb4)
    have QQ := NQQ; clear NQQ
    have PB := NPB; clear NPB
    have KB := NKB; clear NKB
    have NB := NNB; clear NNB
    have Hb4 := Lib.hid (bthen Hb3.out hb4)
    clear hb4
    generalize ofV V p k = j at *
    generalize ofV M p k = x at *
    generalize ofV E p k = y at *
    simp only [putsF, List.setIfInBounds_toArray, List.set_cons_zero, List.set_cons_succ, Nat.zero_add, Nat.reduceAdd]
    rw [hL]
    clear hL
    obtain ⟨z, hz⟩ : ∃ z, min x y = z := ⟨_, rfl⟩
    have hzb : z ≤ k := by omega
    rw [hz]
    have Hz := Lib.hid hz; clear hz
    have qQQ0 : w4.cell? ⟨w.heap.size, 0, none⟩ = some (.int .i64 d) := QQ.out.cell 0
    have qQQ1 : w4.cell? ⟨w.heap.size, 1, none⟩ = some (.int .i64 a) := QQ.out.cell 1
    have qQQ2 : w4.cell? ⟨w.heap.size, 2, none⟩ = some (.int .i64 c) := QQ.out.cell 2
    have qQQl := QQ.out.lt
    have qNB0 : w4.cell? ⟨w2.heap.size, 0, none⟩ = some (.int .i64 (N : Int)) := NB.out.cell 0
    have qNBl := NB.out.lt
    go_wp2_with fail
    clear qQQ0 qQQ1 qQQ2 qQQl qNB0 qNBl
    refine (Hv.out _).mono ?_; rintro e w5 ⟨rfl, hb5⟩
    have S5 := Lib.hid (show w4.heap.size + 0 ≤ w5.heap.size by have h9 := hb5.size; (try simp only [World.size_alloc, World.size_setCell, World.size_drew] at h9); omega)
    have Z5 := Lib.hid (And.intro Z4.out S5.out)
    have NQQ := Lib.hid (QQ.out.on hb5)
    have NPB := Lib.hid (PB.out.on hb5)
    have NKB := Lib.hid (KB.out.on hb5)
    have NNB := Lib.hid (NB.out.on hb5)
    have QQ := NQQ; clear NQQ
    have PB := NPB; clear NPB
    have KB := NKB; clear NKB
    have NB := NNB; clear NNB
    have Hb5 := Lib.hid (bthen Hb4.out hb5)
    clear hb5
    by_cases hV : V = 0
    · have hVb : ((V : Int) != 0) = false := by rw [hV]; rfl
      have hVn : (V != 0) = false := by rw [hV]; rfl
      have Hf := Lib.hid (show (true && B2) = decide ((k : Int) ≥ 2 * (z : Int) + 1) by rw [Hp2.out, Bool.true_and]; unfold lwV; rw [if_neg (by have := Hvz.out hV; omega), Hz.out]; exact decide_eq_decide.2 (by omega))
      clear hV
      have qKB0 : w5.cell? ⟨w.heap.size + 1 + 1, 0, none⟩ = some (.int .i64 (k : Int)) := KB.out.cell 0
      have qKBl := KB.out.lt
      go_wp2
      clear qKB0 qKBl
      exact bodyPost_ret (v := .bool (decide ((k : Int) ≥ 2 * (z : Int) + 1))) (by simp [results, Tryz.results132, go_sem]) rfl ⟨by rw [Hf.out] <;> rfl, Hb5.out⟩
    · have hVb : ((V : Int) != 0) = true := bne_iff_ne.2 (by omega)
      have hVn : (V != 0) = true := bne_iff_ne.2 hV
      have Hvn2 := Lib.hid (Hvn.out (by omega))
      have Hval2 := Lib.hid (Hval.out (by omega))
      rw [Int.natAbs_natCast] at Hval2
      clear hV Hvn Hval
      obtain ⟨v, hv⟩ : ∃ v, vlN V p = v := ⟨_, rfl⟩
      rw [hv] at Hval2 Hvn2
      clear hv
      have hj := Hvn2.out.1; have hvk := Hvn2.out.2
      clear Hvn2
      have Hj := Lib.hid hj; clear hj
      have qPB0 : w5.cell? ⟨w.heap.size + 1, 0, none⟩ = some (.int .i64 (p : Int)) := PB.out.cell 0
      have qPBl := PB.out.lt
      go_wp2_with fail
      clear qPB0 qPBl
      refine (Hval2.out _).mono ?_; rintro e w6 ⟨rfl, hb6⟩
      have S6 := Lib.hid (show w5.heap.size + 0 ≤ w6.heap.size by have h9 := hb6.size; (try simp only [World.size_alloc, World.size_setCell, World.size_drew] at h9); omega)
      have Z6 := Lib.hid (And.intro Z5.out S6.out)
      have NQQ := Lib.hid (QQ.out.on hb6)
      have NPB := Lib.hid (PB.out.on hb6)
      have NKB := Lib.hid (KB.out.on hb6)
      have NNB := Lib.hid (NB.out.on hb6)
      have QQ := NQQ; clear NQQ
      have PB := NPB; clear NPB
      have KB := NKB; clear NKB
      have NB := NNB; clear NNB
      have Hb6 := Lib.hid (bthen Hb5.out hb6)
      clear hb6
      by_cases h2 : p = 2
      · have e2 : ((p : Int) == 2) = true := beq_iff_eq.2 (by omega)
        have e2n : (p == 2) = true := beq_iff_eq.2 h2
        have Hf := Lib.hid (show (true && B2) = decide (2 * min (z : Int) ((v : Int) / 2 + 1) + 1 ≤ (k : Int)) by rw [Hp2.out, Bool.true_and]; unfold lwV; rw [if_pos (by have := Hj.out; omega), if_pos h2, Hz.out, Hj.out]; exact decide_eq_decide.2 (by omega))
        have Hm := Lib.hid (show min (z : Int) ((v : Int) / 2 + 1) = ((min z (v / 2 + 1) : Nat) : Int) by omega)
        have hv0 : (0 : Int) ≤ (v : Int) := by omega
        have hm1 : (0 : Int) ≤ min (z : Int) ((v : Int) / 2 + 1) := by omega
        have hm2 : min (z : Int) ((v : Int) / 2 + 1) ≤ 100 := by omega
        clear h2
        have qPB0 : w6.cell? ⟨w.heap.size + 1, 0, none⟩ = some (.int .i64 (p : Int)) := PB.out.cell 0
        have qPBl := PB.out.lt
        have qKB0 : w6.cell? ⟨w.heap.size + 1 + 1, 0, none⟩ = some (.int .i64 (k : Int)) := KB.out.cell 0
        have qKBl := KB.out.lt
        go_wp2
        clear qPB0 qPBl qKB0 qKBl
        exact bodyPost_ret (v := .bool (decide (2 * min (z : Int) ((v : Int) / 2 + 1) + 1 ≤ (k : Int)))) (by simp [results, Tryz.results132, go_sem]) rfl ⟨by rw [Hf.out] <;> rfl, Hb6.out⟩
      · have e2 : ((p : Int) == 2) = false := beq_eq_false_iff_ne.2 (by omega)
        have e2n : (p == 2) = false := beq_eq_false_iff_ne.2 h2
        have Hf := Lib.hid (show (true && B2) = decide (2 * min (z : Int) ((v : Int) / 2) + 1 ≤ (k : Int)) by rw [Hp2.out, Bool.true_and]; unfold lwV; rw [if_pos (by have := Hj.out; omega), if_neg h2, Hz.out, Hj.out]; exact decide_eq_decide.2 (by omega))
        have Hm := Lib.hid (show min (z : Int) ((v : Int) / 2) = ((min z (v / 2) : Nat) : Int) by omega)
        have hv0 : (0 : Int) ≤ (v : Int) := by omega
        have hm1 : (0 : Int) ≤ min (z : Int) ((v : Int) / 2) := by omega
        have hm2 : min (z : Int) ((v : Int) / 2) ≤ 100 := by omega
        clear h2
        have qPB0 : w6.cell? ⟨w.heap.size + 1, 0, none⟩ = some (.int .i64 (p : Int)) := PB.out.cell 0
        have qPBl := PB.out.lt
        have qKB0 : w6.cell? ⟨w.heap.size + 1 + 1, 0, none⟩ = some (.int .i64 (k : Int)) := KB.out.cell 0
        have qKBl := KB.out.lt
        go_wp2
        clear qPB0 qPBl qKB0 qKBl
        exact bodyPost_ret (v := .bool (decide (2 * min (z : Int) ((v : Int) / 2) + 1 ≤ (k : Int)))) (by simp [results, Tryz.results132, go_sem]) rfl ⟨by rw [Hf.out] <;> rfl, Hb6.out⟩
end
section
open Go Go.RowKit

def npS : Shape (Nat × Nat) := ⟨2, fun e j => match j with | 0 => .int .i64 (e.1 : Int) | _ => .int .i64 (e.2 : Int), (0, 0)⟩
theorem np_cells {w : World} {g off n : Nat} {es : List (Nat × Nat)} (h : ∀ k, k < n → ∀ j, j < npS.size → w.cell? ⟨g, off + k * npS.size + j, none⟩ = some (npS.cell (npS.get es k) j)) (k : Nat) (hk : k < n) :
    w.cell? ⟨g, off + k * 2, none⟩ = some (.int .i64 ((npS.get es k).1 : Int)) ∧ w.cell? ⟨g, off + k * 2 + 1, none⟩ = some (.int .i64 ((npS.get es k).2 : Int)) :=
  ⟨h k hk 0 (by decide), h k hk 1 (by decide)⟩
theorem np_flat1 (x : Nat × Nat) : npS.flat [x] = [Value.int .i64 (x.1 : Int), Value.int .i64 (x.2 : Int)] := rfl
theorem np_snoc (l : List (Nat × Nat)) (x : Nat × Nat) : npS.flat (l ++ [x]) = npS.flat l ++ [Value.int .i64 (x.1 : Int), Value.int .i64 (x.2 : Int)] := by rw [Shape.flat_append, np_flat1]
theorem np_get {l : List (Nat × Nat)} {k : Nat} (h : k < l.length) : npS.get l k = l[k] := by simp [Shape.get, h]

/-- A pair's continuation. -/
def shP (s : Nat) (pl : Bool) (j : Nat) (x : Nat × Nat) : Nat × Nat := if pl = true then (x.1 + j * s, x.2) else (x.1, x.2 + j * s)
def rowF (s : Nat) (pl : Bool) (j : Nat) (l : List (Nat × Nat)) : List (Nat × Nat) := (l.filter (fun x => decide (x.2 = 1) == pl)).map (shP s pl j)
def blkF (s : Nat) (pl : Bool) (l : List (Nat × Nat)) : Nat → List (Nat × Nat)
  | 0 => []
  | j + 1 => blkF s pl l j ++ rowF s pl j l
/-- All candidates, in their order. -/
def cdV (s p : Nat) (l : List (Nat × Nat)) : List (Nat × Nat) := blkF s true l p ++ blkF s false l p
/-- What has come. -/
def pfF (s p : Nat) (l : List (Nat × Nat)) (ph j i : Nat) : List (Nat × Nat) :=
  if ph = 0 then blkF s true l j ++ rowF s true j (l.take i) else if ph = 1 then blkF s true l p ++ (blkF s false l j ++ rowF s false j (l.take i)) else cdV s p l
theorem rowF_nil (s : Nat) (pl : Bool) (j : Nat) : rowF s pl j [] = [] := rfl
theorem rowF_app (s : Nat) (pl : Bool) (j : Nat) (a b : List (Nat × Nat)) : rowF s pl j (a ++ b) = rowF s pl j a ++ rowF s pl j b := by unfold rowF; rw [List.filter_append, List.map_append]
theorem rowF_step {s : Nat} {pl : Bool} {j i : Nat} {l : List (Nat × Nat)} (h : i < l.length) : rowF s pl j (l.take (i + 1)) = rowF s pl j (l.take i) ++ (if (decide (l[i].2 = 1) == pl) = true then [shP s pl j l[i]] else []) := by
  rw [List.take_succ_eq_append_getElem h, rowF_app]
  congr 1
  unfold rowF
  by_cases hc : (decide (l[i].2 = 1) == pl) = true
  · rw [if_pos hc, List.filter_cons, if_pos hc]; rfl
  · rw [if_neg hc, List.filter_cons, if_neg hc]; rfl
theorem pfF_start (s p : Nat) (l : List (Nat × Nat)) : pfF s p l 0 0 0 = [] := by simp [pfF, blkF, rowF]
theorem pfF_row (s p : Nat) (l : List (Nat × Nat)) (ph j : Nat) : pfF s p l ph j l.length = pfF s p l ph (j + 1) 0 := by
  unfold pfF
  rw [List.take_length, List.take_zero, rowF_nil, rowF_nil]
  simp only [blkF, List.append_nil]
theorem pfF_ph0 (s p : Nat) (l : List (Nat × Nat)) : pfF s p l 0 p 0 = pfF s p l 1 0 0 := by simp [pfF, blkF, rowF]
theorem pfF_ph1 (s p : Nat) (l : List (Nat × Nat)) : pfF s p l 1 p 0 = pfF s p l 2 0 0 := by simp [pfF, cdV, rowF]
theorem pfF_end (s p : Nat) (l : List (Nat × Nat)) : pfF s p l 2 0 0 = cdV s p l := by simp [pfF]
def plB (ph : Nat) : Bool := ph == 0
theorem pfF_0 (s p : Nat) (l : List (Nat × Nat)) (j i : Nat) : pfF s p l 0 j i = blkF s true l j ++ rowF s true j (l.take i) := rfl
theorem pfF_1 (s p : Nat) (l : List (Nat × Nat)) (j i : Nat) : pfF s p l 1 j i = blkF s true l p ++ (blkF s false l j ++ rowF s false j (l.take i)) := rfl
theorem pfF_yes {s p : Nat} {l : List (Nat × Nat)} {ph j i : Nat} (hp : ph < 2) (h : i < l.length) (hc : decide (l[i].2 = 1) = plB ph) : pfF s p l ph j (i + 1) = pfF s p l ph j i ++ [shP s (plB ph) j l[i]] := by
  have hc2 : (decide (l[i].2 = 1) == plB ph) = true := beq_iff_eq.2 hc
  rcases (show ph = 0 ∨ ph = 1 by omega) with rfl | rfl
  · rw [pfF_0, pfF_0, rowF_step h, if_pos (show (decide (l[i].2 = 1) == true) = true from hc2), List.append_assoc]; rfl
  · rw [pfF_1, pfF_1, rowF_step h, if_pos (show (decide (l[i].2 = 1) == false) = true from hc2)]
    simp only [List.append_assoc]; rfl
theorem pfF_no {s p : Nat} {l : List (Nat × Nat)} {ph j i : Nat} (hp : ph < 2) (h : i < l.length) (hc : decide (l[i].2 = 1) ≠ plB ph) : pfF s p l ph j (i + 1) = pfF s p l ph j i := by
  have hc2 : ¬ (decide (l[i].2 = 1) == plB ph) = true := fun e => hc (beq_iff_eq.1 e)
  rcases (show ph = 0 ∨ ph = 1 by omega) with rfl | rfl
  · rw [pfF_0, pfF_0, rowF_step h, if_neg (show ¬ (decide (l[i].2 = 1) == true) = true from hc2), List.append_nil]
  · rw [pfF_1, pfF_1, rowF_step h, if_neg (show ¬ (decide (l[i].2 = 1) == false) = true from hc2), List.append_nil]
theorem blkF_pre (s : Nat) (pl : Bool) (l : List (Nat × Nat)) {j p : Nat} (h : j < p) : ∃ r, blkF s pl l p = blkF s pl l j ++ rowF s pl j l ++ r := by
  induction p with
  | zero => omega
  | succ p ih =>
    rcases Nat.lt_or_ge j p with h1 | h1
    · obtain ⟨r, hr⟩ := ih h1
      exact ⟨r ++ rowF s pl p l, by rw [blkF, hr, List.append_assoc]⟩
    · obtain rfl : j = p := by omega
      exact ⟨[], by rw [List.append_nil]; rfl⟩
theorem rowF_pre (s : Nat) (pl : Bool) (j i : Nat) (l : List (Nat × Nat)) : ∃ r, rowF s pl j l = rowF s pl j (l.take i) ++ r := ⟨rowF s pl j (l.drop i), by rw [← rowF_app, List.take_append_drop]⟩
theorem pfF_pre {s p : Nat} {l : List (Nat × Nat)} {ph j i : Nat} (hj : j < p) : pfF s p l ph j i <+: cdV s p l := by
  unfold pfF cdV
  split
  · obtain ⟨r, hr⟩ := blkF_pre s true l hj
    obtain ⟨q, hq⟩ := rowF_pre s true j i l
    exact ⟨q ++ r ++ blkF s false l p, by rw [hr, hq]; simp only [List.append_assoc]⟩
  · split
    · obtain ⟨r, hr⟩ := blkF_pre s false l hj
      obtain ⟨q, hq⟩ := rowF_pre s false j i l
      exact ⟨q ++ r, by rw [hr, hq]; simp only [List.append_assoc]⟩
    · exact List.prefix_refl _
theorem length_rowF (s : Nat) (j : Nat) (l : List (Nat × Nat)) : (rowF s true j l).length + (rowF s false j l).length = l.length := by
  unfold rowF
  rw [List.length_map, List.length_map]
  induction l with
  | nil => rfl
  | cons x l ih =>
    by_cases h : x.2 = 1
    · rw [List.filter_cons_of_pos (by rw [decide_eq_true h]; rfl), List.filter_cons_of_neg (by rw [decide_eq_true h]; decide), List.length_cons, List.length_cons]; omega
    · rw [List.filter_cons_of_neg (by rw [decide_eq_false h]; decide), List.filter_cons_of_pos (by rw [decide_eq_false h]; rfl), List.length_cons, List.length_cons]; omega
theorem length_cdV (s p : Nat) (l : List (Nat × Nat)) : (cdV s p l).length = p * l.length := by
  unfold cdV
  induction p with
  | zero => simp [blkF]
  | succ p ih =>
    rw [List.length_append] at ih ⊢
    simp only [blkF, List.length_append]
    have := length_rowF s p l
    rw [Nat.succ_mul]; omega
theorem mem_rowF {s : Nat} {pl : Bool} {j : Nat} {l : List (Nat × Nat)} {y : Nat × Nat} : y ∈ rowF s pl j l ↔ ∃ x ∈ l, decide (x.2 = 1) = pl ∧ y = shP s pl j x := by
  unfold rowF
  rw [List.mem_map]
  constructor
  · rintro ⟨x, hx, rfl⟩
    rw [List.mem_filter, beq_iff_eq] at hx
    exact ⟨x, hx.1, hx.2, rfl⟩
  · rintro ⟨x, hx, hc, rfl⟩
    exact ⟨x, List.mem_filter.2 ⟨hx, beq_iff_eq.2 hc⟩, rfl⟩
theorem mem_blkF {s : Nat} {pl : Bool} {l : List (Nat × Nat)} {y : Nat × Nat} : ∀ {p : Nat}, y ∈ blkF s pl l p ↔ ∃ j, j < p ∧ y ∈ rowF s pl j l
  | 0 => by simp [blkF]
  | p + 1 => by
    rw [blkF, List.mem_append, mem_blkF]
    constructor
    · rintro (⟨j, hj, h⟩ | h)
      · exact ⟨j, by omega, h⟩
      · exact ⟨p, by omega, h⟩
    · rintro ⟨j, hj, h⟩
      rcases Nat.lt_or_ge j p with h1 | h1
      · exact .inl ⟨j, h1, h⟩
      · obtain rfl : j = p := by omega
        exact .inr h
theorem mem_cdV {s p : Nat} {l : List (Nat × Nat)} {y : Nat × Nat} : y ∈ cdV s p l ↔ ∃ x ∈ l, ∃ j, j < p ∧ y = shP s (decide (x.2 = 1)) j x := by
  unfold cdV
  rw [List.mem_append, mem_blkF, mem_blkF]
  constructor
  · rintro (⟨j, hj, h⟩ | ⟨j, hj, h⟩) <;> obtain ⟨x, hx, hc, rfl⟩ := mem_rowF.1 h <;> exact ⟨x, hx, j, hj, by rw [hc]⟩
  · rintro ⟨x, hx, j, hj, rfl⟩
    cases hc : decide (x.2 = 1) with
    | true => exact .inl ⟨j, hj, mem_rowF.2 ⟨x, hx, hc, rfl⟩⟩
    | false => exact .inr ⟨j, hj, mem_rowF.2 ⟨x, hx, hc, rfl⟩⟩

/-! ### The lists, level by level -/
section
variable (d a c : Int) (p : Nat)
/-- Both kinds of pairs at level k that are possible at all levels. -/
def InP (k : Nat) (l : List (Nat × Nat)) : Prop := ∀ y : Nat × Nat, y ∈ l ↔ (y.2 = 1 ∧ Pth (fun x i => lpB d a c x 1 p i) p k y.1) ∨ (y.1 = 1 ∧ y.2 % p = 0 ∧ Pth (fun x i => lpB d a c 1 x p i) p k y.2)
def nxV (k : Nat) (l : List (Nat × Nat)) : List (Nat × Nat) := (cdV (p ^ (k - 1)) p l).filter (fun x => lpB d a c x.1 x.2 p k)
def fpV : List (Nat × Nat) := ((List.range p).filter (fun m => lpB d a c m 1 p 1)).map (fun m => (m, 1)) ++ (if lpB d a c 1 0 p 1 = true then [(1, 0)] else [])
end
variable {d a c : Int} {p : Nat}
theorem Pth.one {P : Nat → Nat → Bool} {x : Nat} : Pth P p 1 x ↔ x < p ∧ P x 1 = true := by
  unfold Pth
  rw [Nat.pow_one]
  constructor
  · rintro ⟨h1, h2⟩
    have := h2 1 (by omega) (by omega)
    rw [Nat.pow_one, Nat.mod_eq_of_lt h1] at this
    exact ⟨h1, this⟩
  · rintro ⟨h1, h2⟩
    refine ⟨h1, fun j h3 h4 => ?_⟩
    obtain rfl : j = 1 := by omega
    rw [Nat.pow_one, Nat.mod_eq_of_lt h1]; exact h2
theorem fp_in (hp : 2 ≤ p) : InP d a c p 1 (fpV d a c p) := by
  intro y
  obtain ⟨m, e⟩ := y
  unfold fpV
  rw [List.mem_append, List.mem_map, Pth.one, Pth.one]
  dsimp only
  constructor
  · rintro (⟨x, hx, h⟩ | h)
    · rw [List.mem_filter, List.mem_range] at hx
      obtain ⟨rfl, rfl⟩ := Prod.mk.inj h
      exact .inl ⟨rfl, hx.1, hx.2⟩
    · split at h
      · obtain ⟨rfl, rfl⟩ := Prod.mk.inj (List.mem_singleton.1 h)
        exact .inr ⟨rfl, Nat.zero_mod _, by omega, by assumption⟩
      · simp at h
  · rintro (⟨rfl, h1, h2⟩ | ⟨rfl, h0, h1, h2⟩)
    · exact .inl ⟨m, List.mem_filter.2 ⟨List.mem_range.2 h1, h2⟩, rfl⟩
    · rw [Nat.mod_eq_of_lt h1] at h0
      subst h0
      rw [if_pos h2]
      exact .inr (List.mem_singleton.2 rfl)
theorem turned_not {e : Nat} (hp : 2 ≤ p) (h : e % p = 0) : decide (e = 1) = false := decide_eq_false (by rintro rfl; rw [Nat.mod_eq_of_lt (by omega)] at h; omega)
theorem md_next {p k x t : Nat} (hk : 1 ≤ k) : (x + t * p ^ k) % p = x % p := by
  have := mod_low (p := p) (i := k) (j := 1) (x := x) (t := t) hk
  rwa [Nat.pow_one] at this
theorem nx_in (hp : 2 ≤ p) {k : Nat} (hk : 1 ≤ k) {l : List (Nat × Nat)} (h : InP d a c p k l) : InP d a c p (k + 1) (nxV d a c p (k + 1) l) := by
  intro y
  obtain ⟨m, e⟩ := y
  unfold nxV
  rw [List.mem_filter, mem_cdV, show k + 1 - 1 = k by omega, Pth.next hp, Pth.next hp]
  dsimp only
  constructor
  · rintro ⟨⟨x, hx, j, hj, h2⟩, h3⟩
    rcases (h x).1 hx with ⟨h4, h5⟩ | ⟨h4, h5, h6⟩
    · rw [h4, show decide (1 = 1) = true from rfl] at h2
      unfold shP at h2
      rw [if_pos rfl] at h2
      obtain ⟨rfl, rfl⟩ := Prod.mk.inj h2
      rw [h4] at h3
      exact .inl ⟨h4, x.1, j, h5, hj, rfl, h3⟩
    · rw [turned_not hp h5] at h2
      unfold shP at h2
      rw [if_neg (by decide)] at h2
      obtain ⟨rfl, rfl⟩ := Prod.mk.inj h2
      rw [h4] at h3
      exact .inr ⟨h4, by rw [md_next hk]; exact h5, x.2, j, h6, hj, rfl, h3⟩
  · rintro (⟨rfl, x, t, h1, h2, rfl, h3⟩ | ⟨rfl, h0, x, t, h1, h2, rfl, h3⟩)
    · refine ⟨⟨(x, 1), (h (x, 1)).2 (.inl ⟨rfl, h1⟩), t, h2, ?_⟩, h3⟩
      rw [show decide ((x, 1).2 = 1) = true from rfl]
      rfl
    · rw [md_next hk] at h0
      refine ⟨⟨(1, x), (h (1, x)).2 (.inr ⟨rfl, h0, h1⟩), t, h2, ?_⟩, h3⟩
      rw [show decide ((1, x).2 = 1) = false from turned_not hp h0]
      rfl
/-- In the numbers' bounds. -/
theorem InP.bd {k : Nat} {l : List (Nat × Nat)} (hp : 2 ≤ p) (hk : 1 ≤ k) (h : InP d a c p k l) (x : Nat × Nat) (hx : x ∈ l) : x.1 < p ^ k ∧ x.2 < p ^ k := by
  have h1 : 1 < p ^ k := Nat.lt_of_lt_of_le (show 1 < p ^ 1 by rw [Nat.pow_one]; omega) (pow_mono (by omega) hk)
  rcases (h x).1 hx with ⟨h4, h5⟩ | ⟨h4, h5, h6⟩
  · exact ⟨h5.1, by omega⟩
  · exact ⟨by omega, h6.1⟩
theorem posB_iff (hp : 2 ≤ p) {k : Nat} (hk : 1 ≤ k) {l : List (Nat × Nat)} (h : InP d a c p k l) : posB d a c p k = true ↔ l ≠ [] := by
  unfold posB
  rw [Bool.or_eq_true, bsE_root hp, bsE_iff hp _ _ _ (pw_pos hp 1), Nat.pow_one, show 1 + (k - 1) = k by omega]
  constructor
  · rintro (⟨y, h1, -⟩ | ⟨y, h1, h2, h3, -⟩)
    · exact List.ne_nil_of_mem ((h (y, 1)).2 (.inl ⟨rfl, h1⟩))
    · exact List.ne_nil_of_mem ((h (1, y)).2 (.inr ⟨rfl, h2, h1, fun j h4 h5 => h3 j h4 h4 h5⟩))
  · intro h0
    obtain ⟨x, hx⟩ := List.exists_mem_of_ne_nil l h0
    rcases (h x).1 hx with ⟨-, h5⟩ | ⟨-, h5, h6⟩
    · exact .inl ⟨x.1, h5, rfl⟩
    · exact .inr ⟨x.2, h6.1, h5, fun j h7 _ h8 => h6.2 j h7 h8, rfl⟩
/-- Does a pair of the list lift? -/
def lfB (d a c : Int) (p k : Nat) (x : Nat × Nat) : Bool := lpB d a c x.1 x.2 p k && llB d a c x.1 x.2 p k
theorem lifB_iff (hp : 2 ≤ p) {k : Nat} (hk : 1 ≤ k) {l : List (Nat × Nat)} (h : InP d a c p k l) : lifB d a c p k = true ↔ ∃ x ∈ l, lfB d a c p k x = true := by
  unfold lifB lfB
  rw [Bool.or_eq_true, bsE_root hp, bsE_iff hp _ _ _ (pw_pos hp 1), Nat.pow_one, show 1 + (k - 1) = k by omega]
  have top : ∀ {P : Nat → Nat → Bool} {y : Nat}, Pth P p k y → P y k = true := fun {P y} hq => by
    have := hq.2 k hk (Nat.le_refl _)
    rwa [Nat.mod_eq_of_lt hq.1] at this
  constructor
  · rintro (⟨y, h1, h2⟩ | ⟨y, h1, h2, h3, h4⟩)
    · exact ⟨(y, 1), (h (y, 1)).2 (.inl ⟨rfl, h1⟩), by rw [Bool.and_eq_true]; exact ⟨top (P := fun x i => lpB d a c x 1 p i) h1, h2⟩⟩
    · have hq : Pth (fun x i => lpB d a c 1 x p i) p k y := ⟨h1, fun j h5 h6 => h3 j h5 h5 h6⟩
      exact ⟨(1, y), (h (1, y)).2 (.inr ⟨rfl, h2, hq⟩), by rw [Bool.and_eq_true]; exact ⟨top (P := fun x i => lpB d a c 1 x p i) hq, h4⟩⟩
  · rintro ⟨x, hx, hl⟩
    rw [Bool.and_eq_true] at hl
    rcases (h x).1 hx with ⟨h4, h5⟩ | ⟨h4, h5, h6⟩
    · rw [h4] at hl
      exact .inl ⟨x.1, h5, hl.2⟩
    · rw [h4] at hl
      exact .inr ⟨x.2, h6.1, h5, fun j h7 _ h8 => h6.2 j h7 h8, hl.2⟩
theorem nx_lift (hp : 2 ≤ p) {k : Nat} (hk : 1 ≤ k) {l : List (Nat × Nat)} (h : InP d a c p k l) : lifB d a c p (k + 1) = (cdV (p ^ k) p l).any (lfB d a c p (k + 1)) := by
  rw [Bool.eq_iff_iff, lifB_iff hp (by omega) (nx_in hp hk h), List.any_eq_true]
  constructor
  · rintro ⟨x, hx, hl⟩
    unfold nxV at hx
    rw [List.mem_filter] at hx
    exact ⟨x, hx.1, hl⟩
  · rintro ⟨x, hx, hl⟩
    refine ⟨x, ?_, hl⟩
    unfold nxV
    unfold lfB at hl
    rw [Bool.and_eq_true] at hl
    exact List.mem_filter.2 ⟨hx, hl.1⟩
theorem length_fpV : (fpV d a c p).length ≤ p + 1 := by
  unfold fpV
  rw [List.length_append, List.length_map]
  have h1 := List.length_filter_le (fun m => lpB d a c m 1 p 1) (List.range p)
  rw [List.length_range] at h1
  split <;> simp <;> omega
theorem length_nxV {k : Nat} {l : List (Nat × Nat)} : (nxV d a c p k l).length ≤ p * l.length := by
  unfold nxV
  rw [← length_cdV (p ^ (k - 1)) p l]
  exact List.length_filter_le _ _
end
end Go.Proofs.YthdfpfhkmfmnbaaGreat
