/- Own texts put together: The walks: greatest common divisors of the program and of the reference; The walks: greatest common divisors, absolute values, of greater numbers; The class of a number modulo squares: the walks of both sides; The class of a number modulo squares: the walk of the program; Two-curves, their sides, the quartics of divisors, real points, values: the walks of both sides. Conditions: those of each theorem. -/
import Derived.Test.YthdfpfhkmfmnbaaGreatRcM1
import Derived.IntWalk
import Derived.Test.YthdfpfhkmfmnbaaGreatRcM3
import Derived.Test.YthdfpfhkmfmnbaaGreatRcM2
namespace Go.Proofs.YthdfpfhkmfmnbaaGreat
section
open Go Go.RowKit

def gcdI (a b : Int) : Int := (Nat.gcd a.natAbs b.natAbs : Nat)
theorem gcdI_step (a b : Int) : gcdI b (a.tmod b) = gcdI a b := by
  unfold gcdI
  rw [Int.natAbs_tmod, Nat.gcd_comm, ← Nat.gcd_rec, Nat.gcd_comm]
theorem gcdI_zero (a : Int) : gcdI a 0 = max a (-a) := by unfold gcdI; simp; omega
theorem tmod_lt {a b : Int} (h : b ≠ 0) : (a.tmod b).natAbs < b.natAbs := by
  rw [Int.natAbs_tmod]
  exact Nat.mod_lt _ (by omega)

set_option maxHeartbeats 1600000 in
theorem gcd_any (a b : Int) (w : World) (ha : -1000000000000 ≤ a ∧ a ≤ 1000000000000) (hb : -1000000000000 ≤ b ∧ b ≤ 1000000000000) :
    Calls Tryz.prog 102 #[.int .i64 a, .int .i64 b] w fun e w' => e = .returned (.int .i64 (gcdI a b)) ∧ Below w.heap.size w w' := by
  generalize hG : gcdI a b = G
  replace hG := Lib.hid hG
  go_enter Tryz.func102, Tryz.ntmps102
  go_wp2
  go_loopw [0, 1] (fun s t wr => ∃ x y : Int, s = .int .i64 x ∧ t = .int .i64 y ∧ Hid (gcdI x y = G) ∧ -1000000000000 ≤ x ∧ x ≤ 1000000000000 ∧ -1000000000000 ≤ y ∧ y ≤ 1000000000000 ∧ Below w.heap.size w wr) (fun _ t _ => (intOf t).natAbs)
  case atStart => exact ⟨a, b, rfl, rfl, hG, ha.1, ha.2, hb.1, hb.2, Below.refl _ _⟩
  case round =>
    obtain ⟨x, y, rfl, rfl, Hg, hx1, hx2, hy1, hy2, hbw⟩ := hrel
    clear ha hb
    by_cases hy : y = 0
    · subst hy
      have hm := Lib.hid (show max x (-x) = G by rw [← gcdI_zero]; exact Hg.out)
      go_wp2
      all_goals go_ret
      all_goals exact ⟨ret_int (by have := hm.out; omega), hbw⟩
    · have hne : (y != 0) = true := by simp [hy]
      obtain ⟨z, hz⟩ : ∃ z, x.tmod y = z := ⟨_, rfl⟩
      have Hlt := Lib.hid (show z.natAbs < y.natAbs by rw [← hz]; exact tmod_lt hy)
      have Hg2 := Lib.hid (show gcdI y z = G by rw [← hz, gcdI_step]; exact Hg.out)
      have Hz := Lib.hid hz; clear hz
      go_wp2
      refine wp_region_tame (by kernel_rfl) (by kernel_rfl) (fun T _ W hT => ?_)
      have hcell := hT.cell
      repeat (go_big_quiet_step (fail))
      refine wpQuiet_nil ?_
      intro t
      clear hcell
      go_wp2
      go_roundw
      case rel => exact ⟨y, z, rfl, by rw [Hz.out], Hg2, hy1, hy2, by have := Hlt.out; omega, by have := Hlt.out; omega, bthen hbw (hT.below t)⟩
      case measure => have := Hlt.out; simp only [intOf, Hz.out]; omega
set_option maxHeartbeats 1600000 in
theorem bgCommon_any (a b : Int) (w : World) (ha : 0 ≤ a ∧ a ≤ 1000000000000) (hb : 0 ≤ b ∧ b ≤ 1000000000000) :
    Calls Tryz.prog 109 #[.int .i64 a, .int .i64 b] w fun e w' => e = .returned (.int .i64 (gcdI a b)) ∧ w = w' := by
  generalize hG : gcdI a b = G
  replace hG := Lib.hid hG
  go_enter Tryz.func109, Tryz.ntmps109
  go_wp2
  go_loop [0, 1] (fun s t => ∃ x y : Int, s = .int .i64 x ∧ t = .int .i64 y ∧ Hid (gcdI x y = G) ∧ 0 ≤ x ∧ x ≤ 1000000000000 ∧ 0 ≤ y ∧ y ≤ 1000000000000) (fun _ t => (intOf t).natAbs)
  case atStart => exact ⟨a, b, rfl, rfl, hG, ha.1, ha.2, hb.1, hb.2⟩
  case round =>
    obtain ⟨x, y, rfl, rfl, Hg, hx1, hx2, hy1, hy2⟩ := hrel
    clear ha hb
    by_cases hy : y = 0
    · subst hy
      have hm := Lib.hid (show x = G by have h := Hg.out; rw [gcdI_zero] at h; omega)
      go_wp2
      go_ret
      exact ⟨ret_int hm.out, rfl⟩
    · have hpos : 0 < y := by omega
      have Hlt := Lib.hid (show 0 ≤ x % y ∧ x % y < y from ⟨Int.emod_nonneg _ hy, Int.emod_lt_of_pos _ hpos⟩)
      have Hg2 := Lib.hid (show gcdI y (x % y) = G by rw [← Int.tmod_eq_emod_of_nonneg hx1, gcdI_step]; exact Hg.out)
      go_wp2
      go_round
      case rel => exact ⟨y, x % y, rfl, rfl, Hg2, hy1, hy2, Hlt.out.1, by have := Hlt.out; omega⟩
      case measure => have := Hlt.out; simp [intOf]; omega
theorem l1MostG_any (a b : Int) (w : World) : Calls Tryz.prog 69 #[.int .i64 a, .int .i64 b] w fun e w' => e = .returned (.int .i64 (max a b)) ∧ w = w' := by
  go_enter Tryz.func69, Tryz.ntmps69
  go_wp2
  all_goals go_ret
  all_goals exact ⟨ret_int (by omega), rfl⟩
theorem l1LeastG_any (a b : Int) (w : World) : Calls Tryz.prog 159 #[.int .i64 a, .int .i64 b] w fun e w' => e = .returned (.int .i64 (min a b)) ∧ w = w' := by
  go_enter Tryz.func159, Tryz.ntmps159
  go_wp2
  all_goals go_ret
  all_goals exact ⟨ret_int (by omega), rfl⟩
theorem l1Abs_any (a : Int) (w : World) (ha : -1000000000000 ≤ a ∧ a ≤ 1000000000000) : Calls Tryz.prog 92 #[.int .i64 a] w fun e w' => e = .returned (.int .i64 (max a (-a))) ∧ w = w' := by
  obtain ⟨h1, h2⟩ := ha
  go_enter Tryz.func92, Tryz.ntmps92
  go_wp2_with (go_at_call 69; refine (l1MostG_any _ _ _).mono ?_; rintro e w' ⟨rfl, rfl⟩)
  go_ret
  exact ⟨rfl, rfl⟩
end
section
open Go Go.RowKit

set_option maxHeartbeats 1600000 in
theorem gcdB_any (a b : Int) (w : World) (ha : -4000000000000000000 ≤ a ∧ a ≤ 4000000000000000000) (hb : -4000000000000000000 ≤ b ∧ b ≤ 4000000000000000000) :
    Calls Tryz.prog 102 #[.int .i64 a, .int .i64 b] w fun e w' => e = .returned (.int .i64 (gcdI a b)) ∧ Below w.heap.size w w' := by
  generalize hG : gcdI a b = G
  replace hG := Lib.hid hG
  go_enter Tryz.func102, Tryz.ntmps102
  go_wp2
  go_loopw [0, 1] (fun s t wr => ∃ x y : Int, s = .int .i64 x ∧ t = .int .i64 y ∧ Hid (gcdI x y = G) ∧ -4000000000000000000 ≤ x ∧ x ≤ 4000000000000000000 ∧ -4000000000000000000 ≤ y ∧ y ≤ 4000000000000000000 ∧ Below w.heap.size w wr) (fun _ t _ => (intOf t).natAbs)
  case atStart => exact ⟨a, b, rfl, rfl, hG, ha.1, ha.2, hb.1, hb.2, Below.refl _ _⟩
  case round =>
    obtain ⟨x, y, rfl, rfl, Hg, hx1, hx2, hy1, hy2, hbw⟩ := hrel
    clear ha hb
    by_cases hy : y = 0
    · subst hy
      have hm := Lib.hid (show max x (-x) = G by rw [← gcdI_zero]; exact Hg.out)
      go_wp2
      all_goals go_ret
      all_goals exact ⟨ret_int (by have := hm.out; omega), hbw⟩
    · have hne : (y != 0) = true := by simp [hy]
      obtain ⟨z, hz⟩ : ∃ z, x.tmod y = z := ⟨_, rfl⟩
      have Hlt := Lib.hid (show z.natAbs < y.natAbs by rw [← hz]; exact tmod_lt hy)
      have Hg2 := Lib.hid (show gcdI y z = G by rw [← hz, gcdI_step]; exact Hg.out)
      have Hz := Lib.hid hz; clear hz
      go_wp2
      refine wp_region_tame (by kernel_rfl) (by kernel_rfl) (fun T _ W hT => ?_)
      have hcell := hT.cell
      repeat (go_big_quiet_step (fail))
      refine wpQuiet_nil ?_
      intro t
      clear hcell
      go_wp2
      go_roundw
      case rel => exact ⟨y, z, rfl, by rw [Hz.out], Hg2, hy1, hy2, by have := Hlt.out; omega, by have := Hlt.out; omega, bthen hbw (hT.below t)⟩
      case measure => have := Hlt.out; simp only [intOf, Hz.out]; omega
set_option maxHeartbeats 1600000 in
theorem bgCommonB_any (a b : Int) (w : World) (ha : 0 ≤ a ∧ a ≤ 4000000000000000000) (hb : 0 ≤ b ∧ b ≤ 4000000000000000000) :
    Calls Tryz.prog 109 #[.int .i64 a, .int .i64 b] w fun e w' => e = .returned (.int .i64 (gcdI a b)) ∧ w = w' := by
  generalize hG : gcdI a b = G
  replace hG := Lib.hid hG
  go_enter Tryz.func109, Tryz.ntmps109
  go_wp2
  go_loop [0, 1] (fun s t => ∃ x y : Int, s = .int .i64 x ∧ t = .int .i64 y ∧ Hid (gcdI x y = G) ∧ 0 ≤ x ∧ x ≤ 4000000000000000000 ∧ 0 ≤ y ∧ y ≤ 4000000000000000000) (fun _ t => (intOf t).natAbs)
  case atStart => exact ⟨a, b, rfl, rfl, hG, ha.1, ha.2, hb.1, hb.2⟩
  case round =>
    obtain ⟨x, y, rfl, rfl, Hg, hx1, hx2, hy1, hy2⟩ := hrel
    clear ha hb
    by_cases hy : y = 0
    · subst hy
      have hm := Lib.hid (show x = G by have h := Hg.out; rw [gcdI_zero] at h; omega)
      go_wp2
      go_ret
      exact ⟨ret_int hm.out, rfl⟩
    · have hpos : 0 < y := by omega
      have Hlt := Lib.hid (show 0 ≤ x % y ∧ x % y < y from ⟨Int.emod_nonneg _ hy, Int.emod_lt_of_pos _ hpos⟩)
      have Hg2 := Lib.hid (show gcdI y (x % y) = G by rw [← Int.tmod_eq_emod_of_nonneg hx1, gcdI_step]; exact Hg.out)
      go_wp2
      go_round
      case rel => exact ⟨y, x % y, rfl, rfl, Hg2, hy1, hy2, Hlt.out.1, by have := Hlt.out; omega⟩
      case measure => have := Hlt.out; simp [intOf]; omega
theorem l1AbsB_any (a : Int) (w : World) (ha : -4000000000000000000 ≤ a ∧ a ≤ 4000000000000000000) : Calls Tryz.prog 92 #[.int .i64 a] w fun e w' => e = .returned (.int .i64 (max a (-a))) ∧ w = w' := by
  obtain ⟨h1, h2⟩ := ha
  go_enter Tryz.func92, Tryz.ntmps92
  go_wp2_with (go_at_call 69; refine (l1MostG_any _ _ _).mono ?_; rintro e w' ⟨rfl, rfl⟩)
  go_ret
  exact ⟨rfl, rfl⟩
end
section
open Go Go.RowKit

/-! ### Rows of rows, read -/
theorem sl_cells9 {w : World} {g off n : Nat} {es : List Value} (h : ∀ k, k < n → ∀ j, j < slS.size → w.cell? ⟨g, off + k * slS.size + j, none⟩ = some (slS.cell (slS.get es k) j)) (k : Nat) (hk : k < n) : w.cell? ⟨g, off + k, none⟩ = some (vat es k) := by
  have := h k hk 0 (by decide)
  simp only [slS, Nat.mul_one, Nat.add_zero] at this
  exact this
theorem NRd.form9 {w : World} {v : Value} {G : List (List Int)} (h : NRd w w.heap.size v G) : ∃ A c, v = .slice A G.length c ∧ G.length ≤ 9223372036854775807 := by
  obtain ⟨vs, hl, ⟨A, c, rfl, h1, h2, -⟩, -⟩ := h
  unfold maxLen at h2
  exact ⟨A, c, by rw [hl], by omega⟩
theorem NRd.row9 {w : World} {A : Option Addr} {c : Nat} {G : List (List Int)} (h : NRd w w.heap.size (.slice A G.length c) G) {k : Nat} (hk : k < G.length) :
    ∃ g off A1 c1, A = some ⟨g, off, none⟩ ∧ g < w.heap.size ∧ w.cell? ⟨g, off + k, none⟩ = some (.slice A1 (cat' G k).length c1) ∧ Rd inS w w.heap.size (.slice A1 (cat' G k).length c1) (cat' G k) := by
  obtain ⟨vs, hl, hr0, hi⟩ := h
  obtain ⟨A', c', e, -, -, hA⟩ := hr0
  injection e with e1 e2 e3
  subst e1
  clear e2 e3
  obtain ⟨g, off, rfl, hg, hcell⟩ := hA (by omega)
  have f0 := sl_cells9 hcell k (by omega)
  have hr := hi k hk
  obtain ⟨A1, c1, e1, h1⟩ := hr
  rw [e1] at f0
  exact ⟨g, off, A1, c1, rfl, hg, f0, A1, c1, rfl, h1⟩
theorem Rd.in9 {w : World} {A : Option Addr} {n c : Nat} {l : List Int} (h : Rd inS w w.heap.size (.slice A n c) l) {k : Nat} (hk : k < l.length) :
    ∃ g off, A = some ⟨g, off, none⟩ ∧ g < w.heap.size ∧ ∀ k, k < l.length → w.cell? ⟨g, off + k, none⟩ = some (.int .i64 (inS.get l k)) := by
  obtain ⟨A', c', e, -, -, hA⟩ := h
  cases e
  obtain ⟨g, off, rfl, hg, hcell⟩ := hA (by omega)
  exact ⟨g, off, rfl, hg, fun k hk => in_cells hcell k hk⟩
/-! ### The class -/
def clS (o : Int) (x : Nat × Nat) : Int := if x.2 % 2 = 1 then o * (x.1 : Int) else o
def clF (o : Int) (l : List (Nat × Nat)) : Int := l.foldl clS o
def sgI (n : Int) : Int := if n < 0 then -1 else 1
/-- The class of n modulo squares. -/
def clV (n : Int) : Int := clF (sgI n) (facF 2 n.natAbs)
def prL (l : List (Nat × Nat)) : Nat := l.foldr (fun x a => x.1 ^ x.2 * a) 1
theorem prL_cons (x : Nat × Nat) (l : List (Nat × Nat)) : prL (x :: l) = x.1 ^ x.2 * prL l := rfl
theorem prL_fac : ∀ (p n : Nat), 2 ≤ p → 0 < n → prL (facF p n) = n := by
  intro p n
  induction p, n using facF.induct with
  | case1 p n h => intro _ hn; rw [facF_one h]; show 1 = n; omega
  | case2 p n h h2 => intro _ _; rw [facF_big h h2, prL_cons]; show n ^ 1 * 1 = n; rw [Nat.pow_one, Nat.mul_one]
  | case3 p n h h2 h3 ih =>
    intro hp hn
    obtain ⟨e1, -, e3, -⟩ := rsN_spec hp hn
    rw [facF_yes h h2 h3, prL_cons, ih (by omega) e3]
    exact e1.symm
  | case4 p n h h2 h3 ih => intro hp hn; rw [facF_no h h2 h3]; exact ih (by omega) hn
theorem prL_app (l m : List (Nat × Nat)) : prL (l ++ m) = prL l * prL m := by
  induction l with
  | nil => show prL m = 1 * prL m; rw [Nat.one_mul]
  | cons x l ih => rw [List.cons_append, prL_cons, prL_cons, ih, Nat.mul_assoc]
theorem prL_pos {l : List (Nat × Nat)} (h : ∀ x ∈ l, 2 ≤ x.1) : 0 < prL l := by
  induction l with
  | nil => exact Nat.one_pos
  | cons x l ih => rw [prL_cons]; exact Nat.mul_pos (Nat.pow_pos (by have := h x (List.mem_cons_self ..); omega)) (ih (fun y hy => h y (List.mem_cons_of_mem _ hy)))
theorem clF_bd : ∀ (l : List (Nat × Nat)) (o : Int), (∀ x ∈ l, 2 ≤ x.1 ∧ 0 < x.2) → (clF o l).natAbs ≤ o.natAbs * prL l := by
  intro l
  induction l with
  | nil => intro o _; show o.natAbs ≤ o.natAbs * 1; omega
  | cons x l ih =>
    intro o h
    have h1 := ih (clS o x) (fun y hy => h y (List.mem_cons_of_mem _ hy))
    show (clF (clS o x) l).natAbs ≤ _
    rw [prL_cons, ← Nat.mul_assoc]
    refine Nat.le_trans h1 (Nat.mul_le_mul_right _ ?_)
    obtain ⟨h2, h3⟩ := h x (List.mem_cons_self ..)
    unfold clS
    split
    · rw [Int.natAbs_mul, Int.natAbs_natCast]
      have h4 : x.1 ^ 1 ≤ x.1 ^ x.2 := Nat.pow_le_pow_right (by omega) h3
      rw [Nat.pow_one] at h4
      exact Nat.mul_le_mul_left _ h4
    · exact Nat.le_mul_of_pos_right _ (Nat.pow_pos (by omega))
theorem clF_snoc (o : Int) (l : List (Nat × Nat)) (x : Nat × Nat) : clF o (l ++ [x]) = clS (clF o l) x := by unfold clF; rw [List.foldl_append]; rfl
theorem clF_take {o : Int} {l : List (Nat × Nat)} {k : Nat} (h : k < l.length) : clF o (l.take (k + 1)) = clS (clF o (l.take k)) l[k] := by rw [List.take_succ_eq_append_getElem h, clF_snoc]
/-- A part of the product is within the number. -/
theorem cl_part {n : Nat} (hn : 0 < n) (k : Nat) (o : Int) (ho : o.natAbs = 1) : (clF o ((facF 2 n).take k)).natAbs ≤ n := by
  obtain ⟨h1, -⟩ := facF_two hn
  have h2 := clF_bd ((facF 2 n).take k) o (fun x hx => ⟨(h1 x (List.mem_of_mem_take hx)).1, (h1 x (List.mem_of_mem_take hx)).2.2.2.2⟩)
  have h3 : prL ((facF 2 n).take k) * prL ((facF 2 n).drop k) = n := by rw [← prL_app, List.take_append_drop]; exact prL_fac 2 n (by omega) hn
  have h4 : 0 < prL ((facF 2 n).drop k) := prL_pos (fun x hx => (h1 x (List.mem_of_mem_drop hx)).1)
  have h5 : prL ((facF 2 n).take k) ≤ n := by
    have h6 := Nat.le_mul_of_pos_right (prL ((facF 2 n).take k)) h4
    omega
  rw [ho, Nat.one_mul] at h2
  omega
theorem fc_at {n k : Nat} (h : k < (facF 2 n).length) : cat' (fcV n) k = [((facF 2 n)[k].1 : Int), ((facF 2 n)[k].2 : Int)] := by
  unfold cat' fcV fcL
  rw [List.getD_eq_getElem?_getD, List.getElem?_map, List.getElem?_eq_getElem h]
  rfl
theorem pr_at {n k : Nat} (h : k < (facF 2 n).length) : inS.get (prV n) k = ((facF 2 n)[k].1 : Int) := by
  show (prV n).getD k 0 = _
  unfold prV pfL
  rw [List.getD_eq_getElem?_getD, List.getElem?_map, List.getElem?_eq_getElem h]
  rfl
theorem l1SignR_any (n : Int) (w : World) (h : n ≠ 0) : Calls Tryz.prog 90 #[.int .i64 n] w fun e w' => e = .returned (.int .i64 (sgI n)) ∧ Below w.heap.size w w' := by
  by_cases h1 : n < 0
  · have d1 : decide (n < 0) = true := decide_eq_true h1
    have d2 : decide (0 < n) = false := decide_eq_false (by omega)
    have Hs := Lib.hid (show sgI n = -1 by unfold sgI; rw [if_pos h1])
    go_enter Tryz.func90, Tryz.ntmps90
    go_wp2
    go_ret
    exact ⟨ret_int Hs.out.symm, Below.refl _ _⟩
  · have d2 : decide (0 < n) = true := decide_eq_true (by omega)
    have Hs := Lib.hid (show sgI n = 1 by unfold sgI; rw [if_neg h1])
    go_enter Tryz.func90, Tryz.ntmps90
    go_wp2
    go_ret
    exact ⟨ret_int Hs.out.symm, Below.refl _ _⟩
set_option maxRecDepth 4000 in
set_option maxHeartbeats 8000000 in
theorem tcClass_any (n : Int) (w : World) (h0 : n ≠ 0) (hn : n.natAbs ≤ 1000000000) :
    Calls Tryz.prog 60 #[.int .i64 n] w fun e w' => e = .returned (.int .i64 (clV n)) ∧ Below w.heap.size w w' := by
  obtain ⟨N, hN⟩ : ∃ N, n.natAbs = N := ⟨_, rfl⟩
  have hmx : max n (-n) = (N : Int) := by omega
  have HN := Lib.hid (show 0 < N ∧ N ≤ 1000000000 by omega)
  obtain ⟨s, hs⟩ : ∃ s, sgI n = s := ⟨_, rfl⟩
  have Hs := Lib.hid (show s.natAbs = 1 by rw [← hs]; unfold sgI; split <;> rfl)
  have Hv := Lib.hid (show clV n = clF s (facF 2 N) by unfold clV; rw [hs, hN])
  have Hsg := Lib.hid (fun w9 => l1SignR_any n w9 h0)
  rw [hs] at Hsg
  have Hab := Lib.hid (fun w9 => l1AbsB_any n w9 (by omega))
  rw [hmx] at Hab
  clear h0 hn hN hmx hs
  go_enter Tryz.func60, Tryz.ntmps60
  go_wp2_with fail
  refine (Hsg.out _).mono ?_; rintro e w1 ⟨rfl, hb1⟩
  go_wp2_with fail
  refine (Hab.out _).mono ?_; rintro e w2 ⟨rfl, rfl⟩
  go_wp2_with fail
  refine (mdFactors_any N _ HN.out.1 HN.out.2).mono ?_; rintro e w3 ⟨⟨v, rfl, hr⟩, hb3⟩
  have Hb3 := Lib.hid (bthen hb1 hb3); clear hb1 hb3
  obtain ⟨A, c, rfl, hlm⟩ := hr.form9
  have Hr := Lib.hid hr; clear hr
  have hlen : (fcV N).length = (facF 2 N).length := by unfold fcV fcL; rw [List.length_map]
  have Hlen := Lib.hid hlen; clear hlen
  obtain ⟨L, hL⟩ : ∃ L, (fcV N).length = L := ⟨_, rfl⟩
  rw [hL] at Hlen Hr hlm ⊢
  have HL := Lib.hid hL; clear hL
  go_wp2
  go_loopw [12, 3] (fun i o wr => ∃ k : Nat, k ≤ L ∧ i = .int .i64 (k : Int) ∧ o = .int .i64 (clF s ((facF 2 N).take k)) ∧ Hid (NRd wr wr.heap.size (.slice A L c) (fcV N)) ∧ Hid (Below w.heap.size w wr)) (fun i _ _ => L - (intOf i).toNat)
  case atStart => exact ⟨0, Nat.zero_le _, rfl, rfl, Hr, Hb3⟩
  case round =>
    obtain ⟨k, hk, rfl, rfl, Hr, Hb⟩ := hrel
    by_cases hlt : k < L
    · have hkl : k < (facF 2 N).length := by rw [← Hlen.out]; exact hlt
      have Hst := Lib.hid (clF_take (o := s) hkl)
      have Hp1 := Lib.hid (cl_part HN.out.1 (k + 1) s Hs.out)
      have Hmem := Lib.hid ((facF_two HN.out.1).1 _ (List.getElem_mem hkl))
      have hrow := NRd.row9 (k := k) (by rw [HL.out]; exact Hr.out) (by rw [HL.out]; exact hlt)
      obtain ⟨g, off, A1, c1, rfl, hg, f0, hrw⟩ := hrow
      rw [fc_at hkl] at f0 hrw
      generalize (facF 2 N)[k] = x at f0 hrw Hst Hmem
      obtain ⟨q, j⟩ := x
      obtain ⟨g8, o8, h8, hg8, hc8⟩ := hrw.in9 (k := 0) (by simp)
      subst h8
      have t0 : wr.cell? ⟨g8, o8, none⟩ = some (.int .i64 (q : Int)) := hc8 0 (by simp)
      have t1 : wr.cell? ⟨g8, o8 + 1, none⟩ = some (.int .i64 (j : Int)) := hc8 1 (by simp)
      clear hc8 hrw
      have hl2 : [(q : Int), (j : Int)].length = 2 := rfl
      rw [hl2] at f0
      clear hl2
      have hi0 : (0 : Int) ≤ (k : Int) := by omega
      have hi1 : (k : Int) < (L : Int) := by omega
      have hqb : (0 : Int) ≤ (q : Int) ∧ (0 : Int) ≤ (j : Int) := by omega
      obtain ⟨hq1, hq2⟩ := hqb
      obtain ⟨o, ho⟩ : ∃ o, clF s ((facF 2 N).take k) = o := ⟨_, rfl⟩
      rw [ho] at Hst ⊢
      have Ho := Lib.hid ho; clear ho
      by_cases hod : j % 2 = 1
      · have hz : ((j : Int) % 2 == 1) = true := by rw [beq_iff_eq]; omega
        have Hn := Lib.hid (show clF s ((facF 2 N).take (k + 1)) = o * (q : Int) by rw [Hst.out]; unfold clS; rw [if_pos hod])
        have hb9 : -1000000000 ≤ o * (q : Int) ∧ o * (q : Int) ≤ 1000000000 := by have h1 := Hp1.out; rw [Hn.out] at h1; have := HN.out; omega
        obtain ⟨b1, b2⟩ := hb9
        clear hod
        go_wp2
        go_roundw
        case rel => exact ⟨k + 1, by omega, by go_num, by rw [Hn.out], Hr, Hb⟩
        case measure => simp [intOf]; omega
      · have hz : ((j : Int) % 2 == 1) = false := beq_eq_false_iff_ne.2 (by omega)
        have Hn := Lib.hid (show clF s ((facF 2 N).take (k + 1)) = o by rw [Hst.out]; unfold clS; rw [if_neg hod])
        clear hod
        go_wp2
        go_roundw
        case rel => exact ⟨k + 1, by omega, by go_num, by rw [Hn.out], Hr, Hb⟩
        case measure => simp [intOf]; omega
    · have Hend := Lib.hid (show clF s ((facF 2 N).take k) = clV n by rw [Hv.out, List.take_of_length_le (by rw [← Hlen.out]; omega)])
      have hge : ¬ (k : Int) < (L : Int) := by omega
      go_wp2
      go_ret
      exact ⟨ret_int Hend.out, Hb.out⟩
end
section
open Go Go.RowKit

set_option maxRecDepth 4000 in
set_option maxHeartbeats 8000000 in
theorem squarefree_any (n : Int) (w : World) (h0 : n ≠ 0) (hn : n.natAbs ≤ 1000000000) :
    Calls Tryz.prog 53 #[.int .i64 n] w fun e w' => e = .returned (.int .i64 (clV n)) ∧ Below w.heap.size w w' := by
  obtain ⟨N, hN⟩ : ∃ N, n.natAbs = N := ⟨_, rfl⟩
  have HN := Lib.hid (show 0 < N ∧ N ≤ 1000000000 by omega)
  obtain ⟨s, hs⟩ : ∃ s, sgI n = s := ⟨_, rfl⟩
  have Hs := Lib.hid (show s.natAbs = 1 by rw [← hs]; unfold sgI; split <;> rfl)
  have Hv := Lib.hid (show clV n = clF s (facF 2 N) by unfold clV; rw [hs, hN])
  have Hpr := Lib.hid (fun w9 => primesOf_any n w9 h0 hn)
  have Hva := Lib.hid (fun (q : Nat) w9 h2 h3 => valI_any n q w9 h0 (by omega) h2 h3)
  rw [hN] at Hpr Hva
  have hsg : (n < 0 ∧ s = -1) ∨ (¬ n < 0 ∧ s = 1) := by
    rw [← hs]; unfold sgI
    by_cases h : n < 0
    · exact Or.inl ⟨h, if_pos h⟩
    · exact Or.inr ⟨h, if_neg h⟩
  have Hn0 := Lib.hid h0
  clear hn hN hs h0
  rcases hsg with ⟨hneg, rfl⟩ | ⟨hneg, rfl⟩
  · have hd : decide (n < 0) = true := decide_eq_true hneg
    clear hneg
    go_enter Tryz.func53, Tryz.ntmps53
    go_wp2_with fail
    refine (Hpr.out _).mono ?_; rintro e w3 ⟨⟨v, rfl, ho⟩, hb3⟩
    have Hb3 := Lib.hid hb3; clear hb3
    obtain ⟨A, c, rfl⟩ := own_formI ho
    have hr := Rd.of_own (S := inS) (es := prV N) (by rw [inS_flat]; exact ho) rfl
    have hlen : (prV N).length = (facF 2 N).length := by unfold prV pfL; rw [List.length_map]
    have hlm : (prV N).length ≤ 1000000000 := by have h1 := pf_len N; have := HN.out; omega
    have Hr := Lib.hid hr; have Hlen := Lib.hid hlen; clear hr hlen ho
    obtain ⟨L, hL⟩ : ∃ L, (prV N).length = L := ⟨_, rfl⟩
    rw [hL] at Hlen Hr hlm ⊢
    have HL := Lib.hid hL; clear hL
    go_wp2
    go_loopw [11, 3] (fun i o wr => ∃ k : Nat, k ≤ L ∧ i = .int .i64 (k : Int) ∧ o = .int .i64 (clF (-1) ((facF 2 N).take k)) ∧ Hid (Rd inS wr wr.heap.size (.slice A L c) (prV N)) ∧ Hid (Below w.heap.size w wr)) (fun i _ _ => L - (intOf i).toNat)
    case atStart => exact ⟨0, Nat.zero_le _, rfl, rfl, Hr, Hb3⟩
    case round =>
      obtain ⟨k, hk, rfl, rfl, Hr, Hb⟩ := hrel
      by_cases hlt : k < L
      · have hkl : k < (facF 2 N).length := by rw [← Hlen.out]; exact hlt
        have Hst := Lib.hid (clF_take (o := -1) hkl)
        have Hp1 := Lib.hid (cl_part HN.out.1 (k + 1) (-1) Hs.out)
        have Hmem := Lib.hid ((facF_two HN.out.1).1 _ (List.getElem_mem hkl))
        obtain ⟨g8, o8, h8, hg8, hc8⟩ := Hr.out.in9 (k := k) (by rw [HL.out]; exact hlt)
        subst h8
        have t0 := hc8 k (by rw [HL.out]; exact hlt)
        rw [pr_at hkl] at t0
        clear hc8
        generalize (facF 2 N)[k] = x at t0 Hst Hmem
        obtain ⟨q, j⟩ := x
        replace t0 : wr.cell? ⟨g8, o8 + k, none⟩ = some (.int .i64 (q : Int)) := t0
        have hi0 : (0 : Int) ≤ (k : Int) := by omega
        have hi1 : (k : Int) < (L : Int) := by omega
        have hqN : q ≤ N := Nat.le_of_dvd HN.out.1 Hmem.out.2.1
        have hqb : (0 : Int) ≤ (q : Int) := by omega
        have Hvq := Lib.hid (fun w9 => Hva.out q w9 Hmem.out.1 (by have := HN.out; omega))
        have Hj : Hid (vlN N q = j) := Lib.hid Hmem.out.2.2.2.1.symm
        rw [Hj.out] at Hvq
        clear hqN
        obtain ⟨o, ho⟩ : ∃ o, clF (-1) ((facF 2 N).take k) = o := ⟨_, rfl⟩
        rw [ho] at Hst ⊢
        have Ho := Lib.hid ho; clear ho
        go_wp2_with fail
        refine (Hvq.out _).mono ?_; rintro e w5 ⟨rfl, hb5⟩
        have Hr5 := Lib.hid (Hr.out.on hb5); have Hb5 := Lib.hid (bthen Hb.out hb5); clear hb5 t0 hg8
        by_cases hod : j % 2 = 1
        · have hz : ((j : Int) % 2 == 1) = true := by rw [beq_iff_eq]; omega
          have Hn := Lib.hid (show clF (-1) ((facF 2 N).take (k + 1)) = o * (q : Int) by rw [Hst.out]; unfold clS; rw [if_pos hod])
          have hb9 : -1000000000 ≤ o * (q : Int) ∧ o * (q : Int) ≤ 1000000000 := by have h1 := Hp1.out; rw [Hn.out] at h1; have := HN.out; omega
          obtain ⟨b1, b2⟩ := hb9
          clear hod
          go_wp2
          go_roundw
          case rel => exact ⟨k + 1, by omega, by go_num, by rw [Hn.out], Hr5, Hb5⟩
          case measure => simp [intOf]; omega
        · have hz : ((j : Int) % 2 == 1) = false := beq_eq_false_iff_ne.2 (by omega)
          have Hn := Lib.hid (show clF (-1) ((facF 2 N).take (k + 1)) = o by rw [Hst.out]; unfold clS; rw [if_neg hod])
          clear hod
          go_wp2
          go_roundw
          case rel => exact ⟨k + 1, by omega, by go_num, by rw [Hn.out], Hr5, Hb5⟩
          case measure => simp [intOf]; omega
      · have Hend := Lib.hid (show clF (-1) ((facF 2 N).take k) = clV n by rw [Hv.out, List.take_of_length_le (by rw [← Hlen.out]; omega)])
        have hge : ¬ (k : Int) < (L : Int) := by omega
        go_wp2
        go_ret
        exact ⟨ret_int Hend.out, Hb.out⟩
  · have hd : decide (n < 0) = false := decide_eq_false hneg
    clear hneg
    go_enter Tryz.func53, Tryz.ntmps53
    go_wp2_with fail
    refine (Hpr.out _).mono ?_; rintro e w3 ⟨⟨v, rfl, ho⟩, hb3⟩
    have Hb3 := Lib.hid hb3; clear hb3
    obtain ⟨A, c, rfl⟩ := own_formI ho
    have hr := Rd.of_own (S := inS) (es := prV N) (by rw [inS_flat]; exact ho) rfl
    have hlen : (prV N).length = (facF 2 N).length := by unfold prV pfL; rw [List.length_map]
    have hlm : (prV N).length ≤ 1000000000 := by have h1 := pf_len N; have := HN.out; omega
    have Hr := Lib.hid hr; have Hlen := Lib.hid hlen; clear hr hlen ho
    obtain ⟨L, hL⟩ : ∃ L, (prV N).length = L := ⟨_, rfl⟩
    rw [hL] at Hlen Hr hlm ⊢
    have HL := Lib.hid hL; clear hL
    go_wp2
    go_loopw [11, 3] (fun i o wr => ∃ k : Nat, k ≤ L ∧ i = .int .i64 (k : Int) ∧ o = .int .i64 (clF (1) ((facF 2 N).take k)) ∧ Hid (Rd inS wr wr.heap.size (.slice A L c) (prV N)) ∧ Hid (Below w.heap.size w wr)) (fun i _ _ => L - (intOf i).toNat)
    case atStart => exact ⟨0, Nat.zero_le _, rfl, rfl, Hr, Hb3⟩
    case round =>
      obtain ⟨k, hk, rfl, rfl, Hr, Hb⟩ := hrel
      by_cases hlt : k < L
      · have hkl : k < (facF 2 N).length := by rw [← Hlen.out]; exact hlt
        have Hst := Lib.hid (clF_take (o := 1) hkl)
        have Hp1 := Lib.hid (cl_part HN.out.1 (k + 1) (1) Hs.out)
        have Hmem := Lib.hid ((facF_two HN.out.1).1 _ (List.getElem_mem hkl))
        obtain ⟨g8, o8, h8, hg8, hc8⟩ := Hr.out.in9 (k := k) (by rw [HL.out]; exact hlt)
        subst h8
        have t0 := hc8 k (by rw [HL.out]; exact hlt)
        rw [pr_at hkl] at t0
        clear hc8
        generalize (facF 2 N)[k] = x at t0 Hst Hmem
        obtain ⟨q, j⟩ := x
        replace t0 : wr.cell? ⟨g8, o8 + k, none⟩ = some (.int .i64 (q : Int)) := t0
        have hi0 : (0 : Int) ≤ (k : Int) := by omega
        have hi1 : (k : Int) < (L : Int) := by omega
        have hqN : q ≤ N := Nat.le_of_dvd HN.out.1 Hmem.out.2.1
        have hqb : (0 : Int) ≤ (q : Int) := by omega
        have Hvq := Lib.hid (fun w9 => Hva.out q w9 Hmem.out.1 (by have := HN.out; omega))
        have Hj : Hid (vlN N q = j) := Lib.hid Hmem.out.2.2.2.1.symm
        rw [Hj.out] at Hvq
        clear hqN
        obtain ⟨o, ho⟩ : ∃ o, clF (1) ((facF 2 N).take k) = o := ⟨_, rfl⟩
        rw [ho] at Hst ⊢
        have Ho := Lib.hid ho; clear ho
        go_wp2_with fail
        refine (Hvq.out _).mono ?_; rintro e w5 ⟨rfl, hb5⟩
        have Hr5 := Lib.hid (Hr.out.on hb5); have Hb5 := Lib.hid (bthen Hb.out hb5); clear hb5 t0 hg8
        by_cases hod : j % 2 = 1
        · have hz : ((j : Int) % 2 == 1) = true := by rw [beq_iff_eq]; omega
          have Hn := Lib.hid (show clF (1) ((facF 2 N).take (k + 1)) = o * (q : Int) by rw [Hst.out]; unfold clS; rw [if_pos hod])
          have hb9 : -1000000000 ≤ o * (q : Int) ∧ o * (q : Int) ≤ 1000000000 := by have h1 := Hp1.out; rw [Hn.out] at h1; have := HN.out; omega
          obtain ⟨b1, b2⟩ := hb9
          clear hod
          go_wp2
          go_roundw
          case rel => exact ⟨k + 1, by omega, by go_num, by rw [Hn.out], Hr5, Hb5⟩
          case measure => simp [intOf]; omega
        · have hz : ((j : Int) % 2 == 1) = false := beq_eq_false_iff_ne.2 (by omega)
          have Hn := Lib.hid (show clF (1) ((facF 2 N).take (k + 1)) = o by rw [Hst.out]; unfold clS; rw [if_neg hod])
          clear hod
          go_wp2
          go_roundw
          case rel => exact ⟨k + 1, by omega, by go_num, by rw [Hn.out], Hr5, Hb5⟩
          case measure => simp [intOf]; omega
      · have Hend := Lib.hid (show clF (1) ((facF 2 N).take k) = clV n by rw [Hv.out, List.take_of_length_le (by rw [← Hlen.out]; omega)])
        have hge : ¬ (k : Int) < (L : Int) := by omega
        go_wp2
        go_ret
        exact ⟨ret_int Hend.out, Hb.out⟩
end
section
open Go Go.RowKit

def twB (a b : Int) : Bool := insB a (-300) 300 && insB b (-300) 300 && !decide (b = 0) && !decide (a * a = 4 * b)
theorem twB_bd {a b : Int} (h : twB a b = true) : (-300 ≤ a ∧ a ≤ 300) ∧ (-300 ≤ b ∧ b ≤ 300) ∧ b ≠ 0 ∧ a * a ≠ 4 * b := by
  unfold twB at h
  simp only [Bool.and_eq_true, Bool.not_eq_true', decide_eq_false_iff_not] at h
  exact ⟨insB_true h.1.1.1, insB_true h.1.1.2, h.1.2, h.2⟩
def sdA (a _b : Int) (k : Bool) : Int := if k = true then -2 * a else a
def sdB (a b : Int) (k : Bool) : Int := if k = true then a * a - 4 * b else b
theorem sq_bd {a : Int} (h : -300 ≤ a ∧ a ≤ 300) : 0 ≤ a * a ∧ a * a ≤ 90000 := by
  have h1 := mul_bd a a 300 300 h.1 h.2 h.1 h.2
  have h2 : 0 ≤ a * a := by
    rcases Int.le_total 0 a with h3 | h3
    · exact Int.mul_nonneg h3 h3
    · exact Int.mul_nonneg_of_nonpos_of_nonpos h3 h3
  omega
theorem sd_bd {a b : Int} (h : twB a b = true) (k : Bool) : (-600 ≤ sdA a b k ∧ sdA a b k ≤ 600) ∧ (-91200 ≤ sdB a b k ∧ sdB a b k ≤ 91200) ∧ sdB a b k ≠ 0 := by
  obtain ⟨ha, hb, h0, h1⟩ := twB_bd h
  have h2 := sq_bd ha
  unfold sdA sdB
  cases k
  · rw [if_neg (by simp), if_neg (by simp)]; omega
  · rw [if_pos rfl, if_pos rfl]; omega

set_option linter.unusedSimpArgs false in
set_option linter.unusedVariables false in
set_option maxHeartbeats 1600000 in
theorem tcGood_any (a b : Int) (w : World) :
    Calls Tryz.prog 47 #[.agg #[.int .i64 a, .int .i64 b]] w fun e w' => e = .returned (.bool (twB a b)) ∧ Below w.heap.size w w' := by
  unfold twB
  cases h1 : insB a (-300) 300
  · have H1 := Lib.hid h1; clear h1
    go_enter Tryz.func47, Tryz.ntmps47
    go_wp2_with fail
    refine (l1In_lit H1.out _).mono ?_; rintro e w1 ⟨rfl, hb1⟩
    have S1 := Lib.hid (show w.heap.size + 1 ≤ w1.heap.size by have h9 := hb1.size; (try simp only [World.size_alloc, World.size_setCell, World.size_drew] at h9); omega)
    have NTT := Lib.hid ((Blk.new w 24 #[.int .i64 a, .int .i64 b]).on hb1)
    have TT := NTT; clear NTT
    have Hb1 := Lib.hid (bthen (bal (Below.refl w.heap.size w) (Obj.cells #[.int .i64 a, .int .i64 b] 24)) hb1)
    clear hb1
    go_wp2
    go_ret
    exact ⟨rfl, Hb1.out⟩
  · cases h2 : insB b (-300) 300
    · have H1 := Lib.hid h1; have H2 := Lib.hid h2; clear h1 h2
      go_enter Tryz.func47, Tryz.ntmps47
      go_wp2_with fail
      refine (l1In_lit H1.out _).mono ?_; rintro e w2 ⟨rfl, hb2⟩
      have S2 := Lib.hid (show w.heap.size + 1 ≤ w2.heap.size by have h9 := hb2.size; (try simp only [World.size_alloc, World.size_setCell, World.size_drew] at h9); omega)
      have NTT := Lib.hid ((Blk.new w 24 #[.int .i64 a, .int .i64 b]).on hb2)
      have TT := NTT; clear NTT
      have Hb2 := Lib.hid (bthen (bal (Below.refl w.heap.size w) (Obj.cells #[.int .i64 a, .int .i64 b] 24)) hb2)
      clear hb2
      have qTT0 : w2.cell? ⟨w.heap.size, 0, none⟩ = some (.int .i64 a) := TT.out.cell 0
      have qTT1 : w2.cell? ⟨w.heap.size, 1, none⟩ = some (.int .i64 b) := TT.out.cell 1
      have qTTl := TT.out.lt
      go_wp2_with fail
      clear qTT0 qTT1 qTTl
      refine (l1In_lit H2.out _).mono ?_; rintro e w3 ⟨rfl, hb3⟩
      have S3 := Lib.hid (show w2.heap.size + 0 ≤ w3.heap.size by have h9 := hb3.size; (try simp only [World.size_alloc, World.size_setCell, World.size_drew] at h9); omega)
      have Z3 := Lib.hid (And.intro S2.out S3.out)
      have NTT := Lib.hid (TT.out.on hb3)
      have TT := NTT; clear NTT
      have Hb3 := Lib.hid (bthen Hb2.out hb3)
      clear hb3
      go_wp2
      go_ret
      exact ⟨rfl, Hb3.out⟩
    · have ha := insB_true h1; have hb := insB_true h2; have hq := sq_bd ha
      obtain ⟨a1, a2⟩ := ha; obtain ⟨b1, b2⟩ := hb; obtain ⟨q1, q2⟩ := hq
      have H1 := Lib.hid h1; have H2 := Lib.hid h2; clear h1 h2
      go_enter Tryz.func47, Tryz.ntmps47
      go_wp2_with fail
      refine (l1In_lit H1.out _).mono ?_; rintro e w4 ⟨rfl, hb4⟩
      have S4 := Lib.hid (show w.heap.size + 1 ≤ w4.heap.size by have h9 := hb4.size; (try simp only [World.size_alloc, World.size_setCell, World.size_drew] at h9); omega)
      have NTT := Lib.hid ((Blk.new w 24 #[.int .i64 a, .int .i64 b]).on hb4)
      have TT := NTT; clear NTT
      have Hb4 := Lib.hid (bthen (bal (Below.refl w.heap.size w) (Obj.cells #[.int .i64 a, .int .i64 b] 24)) hb4)
      clear hb4
      have qTT0 : w4.cell? ⟨w.heap.size, 0, none⟩ = some (.int .i64 a) := TT.out.cell 0
      have qTT1 : w4.cell? ⟨w.heap.size, 1, none⟩ = some (.int .i64 b) := TT.out.cell 1
      have qTTl := TT.out.lt
      go_wp2_with fail
      clear qTT0 qTT1 qTTl
      refine (l1In_lit H2.out _).mono ?_; rintro e w5 ⟨rfl, hb5⟩
      have S5 := Lib.hid (show w4.heap.size + 0 ≤ w5.heap.size by have h9 := hb5.size; (try simp only [World.size_alloc, World.size_setCell, World.size_drew] at h9); omega)
      have Z5 := Lib.hid (And.intro S4.out S5.out)
      have NTT := Lib.hid (TT.out.on hb5)
      have TT := NTT; clear NTT
      have Hb5 := Lib.hid (bthen Hb4.out hb5)
      clear hb5
      by_cases hb0 : b = 0
      · have z1 : (b != 0) = false := by rw [hb0]; rfl
        have z2 : (b == 0) = true := by rw [hb0]; rfl
        have Hb0 := Lib.hid hb0; clear hb0
        have qTT0 : w5.cell? ⟨w.heap.size, 0, none⟩ = some (.int .i64 a) := TT.out.cell 0
        have qTT1 : w5.cell? ⟨w.heap.size, 1, none⟩ = some (.int .i64 b) := TT.out.cell 1
        have qTTl := TT.out.lt
        go_wp2
        clear qTT0 qTT1 qTTl
        go_ret
        exact ⟨by rw [decide_eq_true Hb0.out]; rfl, Hb5.out⟩
      · have z1 : (b != 0) = true := bne_iff_ne.2 hb0
        have z2 : (b == 0) = false := beq_eq_false_iff_ne.2 hb0
        by_cases hd : a * a = 4 * b
        · have z3 : (a * a != 4 * b) = false := by rw [hd]; simp
          have z4 : (a * a == 4 * b) = true := by rw [hd]; simp
          have Hb0 := Lib.hid hb0; have Hd := Lib.hid hd; clear hb0 hd
          have qTT0 : w5.cell? ⟨w.heap.size, 0, none⟩ = some (.int .i64 a) := TT.out.cell 0
          have qTT1 : w5.cell? ⟨w.heap.size, 1, none⟩ = some (.int .i64 b) := TT.out.cell 1
          have qTTl := TT.out.lt
          go_wp2
          clear qTT0 qTT1 qTTl
          go_ret
          exact ⟨by rw [decide_eq_false Hb0.out, decide_eq_true Hd.out]; rfl, Hb5.out⟩
        · have z3 : (a * a != 4 * b) = true := bne_iff_ne.2 hd
          have z4 : (a * a == 4 * b) = false := beq_eq_false_iff_ne.2 hd
          have Hb0 := Lib.hid hb0; have Hd := Lib.hid hd; clear hb0 hd
          have qTT0 : w5.cell? ⟨w.heap.size, 0, none⟩ = some (.int .i64 a) := TT.out.cell 0
          have qTT1 : w5.cell? ⟨w.heap.size, 1, none⟩ = some (.int .i64 b) := TT.out.cell 1
          have qTTl := TT.out.lt
          go_wp2
          clear qTT0 qTT1 qTTl
          go_ret
          exact ⟨by rw [decide_eq_false Hb0.out, decide_eq_false Hd.out]; rfl, Hb5.out⟩
set_option linter.unusedSimpArgs false in
set_option linter.unusedVariables false in
set_option maxHeartbeats 1600000 in
theorem isTwoCurve_any (a b : Int) (w : World) :
    Calls Tryz.prog 22 #[.agg #[.int .i64 a, .int .i64 b]] w fun e w' => e = .returned (.bool (twB a b)) ∧ Below w.heap.size w w' := by
  unfold twB
  cases h1 : insB a (-300) 300
  · have H1 := Lib.hid h1; clear h1
    go_enter Tryz.func22, Tryz.ntmps22
    go_wp2_with fail
    refine (inside_lit H1.out _).mono ?_; rintro e w1 ⟨rfl, hb1⟩
    have S1 := Lib.hid (show w.heap.size + 1 ≤ w1.heap.size by have h9 := hb1.size; (try simp only [World.size_alloc, World.size_setCell, World.size_drew] at h9); omega)
    have NTT := Lib.hid ((Blk.new w 24 #[.int .i64 a, .int .i64 b]).on hb1)
    have TT := NTT; clear NTT
    have Hb1 := Lib.hid (bthen (bal (Below.refl w.heap.size w) (Obj.cells #[.int .i64 a, .int .i64 b] 24)) hb1)
    clear hb1
    go_wp2
    go_ret
    exact ⟨rfl, Hb1.out⟩
  · cases h2 : insB b (-300) 300
    · have H1 := Lib.hid h1; have H2 := Lib.hid h2; clear h1 h2
      go_enter Tryz.func22, Tryz.ntmps22
      go_wp2_with fail
      refine (inside_lit H1.out _).mono ?_; rintro e w2 ⟨rfl, hb2⟩
      have S2 := Lib.hid (show w.heap.size + 1 ≤ w2.heap.size by have h9 := hb2.size; (try simp only [World.size_alloc, World.size_setCell, World.size_drew] at h9); omega)
      have NTT := Lib.hid ((Blk.new w 24 #[.int .i64 a, .int .i64 b]).on hb2)
      have TT := NTT; clear NTT
      have Hb2 := Lib.hid (bthen (bal (Below.refl w.heap.size w) (Obj.cells #[.int .i64 a, .int .i64 b] 24)) hb2)
      clear hb2
      have qTT0 : w2.cell? ⟨w.heap.size, 0, none⟩ = some (.int .i64 a) := TT.out.cell 0
      have qTT1 : w2.cell? ⟨w.heap.size, 1, none⟩ = some (.int .i64 b) := TT.out.cell 1
      have qTTl := TT.out.lt
      go_wp2_with fail
      clear qTT0 qTT1 qTTl
      refine (inside_lit H2.out _).mono ?_; rintro e w3 ⟨rfl, hb3⟩
      have S3 := Lib.hid (show w2.heap.size + 0 ≤ w3.heap.size by have h9 := hb3.size; (try simp only [World.size_alloc, World.size_setCell, World.size_drew] at h9); omega)
      have Z3 := Lib.hid (And.intro S2.out S3.out)
      have NTT := Lib.hid (TT.out.on hb3)
      have TT := NTT; clear NTT
      have Hb3 := Lib.hid (bthen Hb2.out hb3)
      clear hb3
      go_wp2
      go_ret
      exact ⟨rfl, Hb3.out⟩
    · have ha := insB_true h1; have hb := insB_true h2; have hq := sq_bd ha
      obtain ⟨a1, a2⟩ := ha; obtain ⟨b1, b2⟩ := hb; obtain ⟨q1, q2⟩ := hq
      have H1 := Lib.hid h1; have H2 := Lib.hid h2; clear h1 h2
      go_enter Tryz.func22, Tryz.ntmps22
      go_wp2_with fail
      refine (inside_lit H1.out _).mono ?_; rintro e w4 ⟨rfl, hb4⟩
      have S4 := Lib.hid (show w.heap.size + 1 ≤ w4.heap.size by have h9 := hb4.size; (try simp only [World.size_alloc, World.size_setCell, World.size_drew] at h9); omega)
      have NTT := Lib.hid ((Blk.new w 24 #[.int .i64 a, .int .i64 b]).on hb4)
      have TT := NTT; clear NTT
      have Hb4 := Lib.hid (bthen (bal (Below.refl w.heap.size w) (Obj.cells #[.int .i64 a, .int .i64 b] 24)) hb4)
      clear hb4
      have qTT0 : w4.cell? ⟨w.heap.size, 0, none⟩ = some (.int .i64 a) := TT.out.cell 0
      have qTT1 : w4.cell? ⟨w.heap.size, 1, none⟩ = some (.int .i64 b) := TT.out.cell 1
      have qTTl := TT.out.lt
      go_wp2_with fail
      clear qTT0 qTT1 qTTl
      refine (inside_lit H2.out _).mono ?_; rintro e w5 ⟨rfl, hb5⟩
      have S5 := Lib.hid (show w4.heap.size + 0 ≤ w5.heap.size by have h9 := hb5.size; (try simp only [World.size_alloc, World.size_setCell, World.size_drew] at h9); omega)
      have Z5 := Lib.hid (And.intro S4.out S5.out)
      have NTT := Lib.hid (TT.out.on hb5)
      have TT := NTT; clear NTT
      have Hb5 := Lib.hid (bthen Hb4.out hb5)
      clear hb5
      by_cases hb0 : b = 0
      · have z1 : (b != 0) = false := by rw [hb0]; rfl
        have z2 : (b == 0) = true := by rw [hb0]; rfl
        have Hb0 := Lib.hid hb0; clear hb0
        have qTT0 : w5.cell? ⟨w.heap.size, 0, none⟩ = some (.int .i64 a) := TT.out.cell 0
        have qTT1 : w5.cell? ⟨w.heap.size, 1, none⟩ = some (.int .i64 b) := TT.out.cell 1
        have qTTl := TT.out.lt
        go_wp2
        clear qTT0 qTT1 qTTl
        go_ret
        exact ⟨by rw [decide_eq_true Hb0.out]; rfl, Hb5.out⟩
      · have z1 : (b != 0) = true := bne_iff_ne.2 hb0
        have z2 : (b == 0) = false := beq_eq_false_iff_ne.2 hb0
        by_cases hd : a * a = 4 * b
        · have z3 : (a * a != 4 * b) = false := by rw [hd]; simp
          have z4 : (a * a == 4 * b) = true := by rw [hd]; simp
          have Hb0 := Lib.hid hb0; have Hd := Lib.hid hd; clear hb0 hd
          have qTT0 : w5.cell? ⟨w.heap.size, 0, none⟩ = some (.int .i64 a) := TT.out.cell 0
          have qTT1 : w5.cell? ⟨w.heap.size, 1, none⟩ = some (.int .i64 b) := TT.out.cell 1
          have qTTl := TT.out.lt
          go_wp2
          clear qTT0 qTT1 qTTl
          go_ret
          exact ⟨by rw [decide_eq_false Hb0.out, decide_eq_true Hd.out]; rfl, Hb5.out⟩
        · have z3 : (a * a != 4 * b) = true := bne_iff_ne.2 hd
          have z4 : (a * a == 4 * b) = false := beq_eq_false_iff_ne.2 hd
          have Hb0 := Lib.hid hb0; have Hd := Lib.hid hd; clear hb0 hd
          have qTT0 : w5.cell? ⟨w.heap.size, 0, none⟩ = some (.int .i64 a) := TT.out.cell 0
          have qTT1 : w5.cell? ⟨w.heap.size, 1, none⟩ = some (.int .i64 b) := TT.out.cell 1
          have qTTl := TT.out.lt
          go_wp2
          clear qTT0 qTT1 qTTl
          go_ret
          exact ⟨by rw [decide_eq_false Hb0.out, decide_eq_false Hd.out]; rfl, Hb5.out⟩
set_option linter.unusedSimpArgs false in
set_option linter.unusedVariables false in
set_option maxHeartbeats 1600000 in
theorem tcDual_any (a b : Int) (w : World) (ha : -300 ≤ a ∧ a ≤ 300) (hb : -300 ≤ b ∧ b ≤ 300) :
    Calls Tryz.prog 85 #[.agg #[.int .i64 a, .int .i64 b]] w fun e w' => e = .returned (.tuple #[.int .i64 (-2 * a), .int .i64 (a * a - 4 * b)]) ∧ Below w.heap.size w w' := by
  obtain ⟨q1, q2⟩ := sq_bd ha
  obtain ⟨a1, a2⟩ := ha; obtain ⟨b1, b2⟩ := hb
  go_enter Tryz.func85, Tryz.ntmps85
  go_wp2_with fail
  refine wp_region_tame (by kernel_rfl) (by kernel_rfl) (fun T _ W hT => ?_)
  have hx := hT.cell
  repeat (go_big_quiet_step ((first | fail)))
  refine wpQuiet_nil ?_
  intro tt
  clear hx
  have hb1 := hT.below tt
  generalize W tt = w1 at hb1 ⊢
  clear hT
  have S1 := Lib.hid (show w.heap.size + 1 ≤ w1.heap.size by have h9 := hb1.size; (try simp only [World.size_alloc, World.size_setCell, World.size_drew] at h9); omega)
  have NTT := Lib.hid ((Blk.new w 24 #[.int .i64 a, .int .i64 b]).on hb1)
  have TT := NTT; clear NTT
  have Hb1 := Lib.hid (bthen (bal (Below.refl w.heap.size w) (Obj.cells #[.int .i64 a, .int .i64 b] 24)) hb1)
  clear hb1
  go_wp2
  go_ret2
  exact ⟨rfl, Hb1.out⟩
set_option linter.unusedSimpArgs false in
set_option linter.unusedVariables false in
set_option maxHeartbeats 1600000 in
theorem dsSide_any (a b : Int) (k : Bool) (w : World) (ha : -300 ≤ a ∧ a ≤ 300) (hb : -300 ≤ b ∧ b ≤ 300) :
    Calls Tryz.prog 58 #[.agg #[.int .i64 a, .int .i64 b], .bool k] w fun e w' => e = .returned (.tuple #[.int .i64 (sdA a b k), .int .i64 (sdB a b k)]) ∧ Below w.heap.size w w' := by
  obtain ⟨q1, q2⟩ := sq_bd ha
  cases k
  · obtain ⟨a1, a2⟩ := ha; obtain ⟨b1, b2⟩ := hb
    go_enter Tryz.func58, Tryz.ntmps58
    go_wp2_with fail
    refine wp_region_tame (by kernel_rfl) (by kernel_rfl) (fun T _ W hT => ?_)
    have hx := hT.cell
    repeat (go_big_quiet_step ((first | fail)))
    refine wpQuiet_nil ?_
    intro tt
    clear hx
    have hb1 := hT.below tt
    generalize W tt = w1 at hb1 ⊢
    clear hT
    have S1 := Lib.hid (show w.heap.size + 1 ≤ w1.heap.size by have h9 := hb1.size; (try simp only [World.size_alloc, World.size_setCell, World.size_drew] at h9); omega)
    have NTT := Lib.hid ((Blk.new w 24 #[.int .i64 a, .int .i64 b]).on hb1)
    have TT := NTT; clear NTT
    have Hb1 := Lib.hid (bthen (bal (Below.refl w.heap.size w) (Obj.cells #[.int .i64 a, .int .i64 b] 24)) hb1)
    clear hb1
    go_wp2
    go_ret2
    exact ⟨rfl, Hb1.out⟩
  · go_enter Tryz.func58, Tryz.ntmps58
    go_wp2_with fail
    refine (tcDual_any a b _ ha hb).mono ?_; rintro e w2 ⟨rfl, hb2⟩
    have S2 := Lib.hid (show w.heap.size + 1 ≤ w2.heap.size by have h9 := hb2.size; (try simp only [World.size_alloc, World.size_setCell, World.size_drew] at h9); omega)
    have NTT := Lib.hid ((Blk.new w 24 #[.int .i64 a, .int .i64 b]).on hb2)
    have TT := NTT; clear NTT
    have Hb2 := Lib.hid (bthen (bal (Below.refl w.heap.size w) (Obj.cells #[.int .i64 a, .int .i64 b] 24)) hb2)
    clear hb2
    go_wp2
    go_ret2
    exact ⟨rfl, Hb2.out⟩
set_option linter.unusedSimpArgs false in
set_option linter.unusedVariables false in
set_option maxHeartbeats 1600000 in
theorem side_any (a b : Int) (k : Bool) (w : World) (ha : -300 ≤ a ∧ a ≤ 300) (hb : -300 ≤ b ∧ b ≤ 300) :
    Calls Tryz.prog 51 #[.agg #[.int .i64 a, .int .i64 b], .bool k] w fun e w' => e = .returned (.tuple #[.int .i64 (sdA a b k), .int .i64 (sdB a b k)]) ∧ Below w.heap.size w w' := by
  obtain ⟨q1, q2⟩ := sq_bd ha
  cases k
  · obtain ⟨a1, a2⟩ := ha; obtain ⟨b1, b2⟩ := hb
    go_enter Tryz.func51, Tryz.ntmps51
    go_wp2_with fail
    refine wp_region_tame (by kernel_rfl) (by kernel_rfl) (fun T _ W hT => ?_)
    have hx := hT.cell
    repeat (go_big_quiet_step ((first | fail)))
    refine wpQuiet_nil ?_
    intro tt
    clear hx
    have hb1 := hT.below tt
    generalize W tt = w1 at hb1 ⊢
    clear hT
    have S1 := Lib.hid (show w.heap.size + 1 ≤ w1.heap.size by have h9 := hb1.size; (try simp only [World.size_alloc, World.size_setCell, World.size_drew] at h9); omega)
    have NTT := Lib.hid ((Blk.new w 24 #[.int .i64 a, .int .i64 b]).on hb1)
    have TT := NTT; clear NTT
    have Hb1 := Lib.hid (bthen (bal (Below.refl w.heap.size w) (Obj.cells #[.int .i64 a, .int .i64 b] 24)) hb1)
    clear hb1
    go_wp2
    go_ret2
    exact ⟨rfl, Hb1.out⟩
  · obtain ⟨a1, a2⟩ := ha; obtain ⟨b1, b2⟩ := hb
    go_enter Tryz.func51, Tryz.ntmps51
    go_wp2_with fail
    refine wp_region_tame (by kernel_rfl) (by kernel_rfl) (fun T _ W hT => ?_)
    have hx := hT.cell
    repeat (go_big_quiet_step ((first | fail)))
    refine wpQuiet_nil ?_
    intro tt
    clear hx
    have hb2 := hT.below tt
    generalize W tt = w2 at hb2 ⊢
    clear hT
    have S2 := Lib.hid (show w.heap.size + 1 ≤ w2.heap.size by have h9 := hb2.size; (try simp only [World.size_alloc, World.size_setCell, World.size_drew] at h9); omega)
    have NTT := Lib.hid ((Blk.new w 24 #[.int .i64 a, .int .i64 b]).on hb2)
    have TT := NTT; clear NTT
    have Hb2 := Lib.hid (bthen (bal (Below.refl w.heap.size w) (Obj.cells #[.int .i64 a, .int .i64 b] 24)) hb2)
    clear hb2
    go_wp2
    go_ret2
    exact ⟨rfl, Hb2.out⟩
set_option linter.unusedSimpArgs false in
set_option linter.unusedVariables false in
set_option maxHeartbeats 1600000 in
theorem dsQuartic_any (a b d : Int) (k : Bool) (w : World) (h : twB a b = true) (hd : d ≠ 0) :
    Calls Tryz.prog 82 #[.agg #[.int .i64 a, .int .i64 b], .bool k, .int .i64 d] w fun e w' => e = .returned (.agg #[.int .i64 d, .int .i64 (sdA a b k), .int .i64 ((sdB a b k).tdiv d)]) ∧ Below w.heap.size w w' := by
  obtain ⟨ha, hb, -, -⟩ := twB_bd h
  obtain ⟨hA, hB, hB0⟩ := sd_bd h k
  have Hc := Lib.hid (fun w9 => dsSide_any a b k w9 ha hb)
  obtain ⟨B, hBB⟩ : ∃ z, sdB a b k = z := ⟨_, rfl⟩
  obtain ⟨A, hAA⟩ : ∃ z, sdA a b k = z := ⟨_, rfl⟩
  rw [hAA, hBB] at Hc
  rw [hBB] at hB hB0
  rw [hAA, hBB]
  have hq := tdiv_bd (a := B) (g := d) (B := 91200) hB.1 hB.2
  obtain ⟨q, hqq⟩ : ∃ z, B.tdiv d = z := ⟨_, rfl⟩
  rw [hqq] at hq ⊢
  obtain ⟨q1, q2⟩ := hq
  have hwq : IntKind.i64.wrap q = q := by rw [IntKind.wrap_i64]; omega
  clear hAA hBB
  go_enter Tryz.func82, Tryz.ntmps82
  go_wp2_with fail
  refine (Hc.out _).mono ?_; rintro e w1 ⟨rfl, hb1⟩
  have S1 := Lib.hid (show w.heap.size + 2 ≤ w1.heap.size by have h9 := hb1.size; (try simp only [World.size_alloc, World.size_setCell, World.size_drew] at h9); omega)
  have NTT := Lib.hid (((Blk.new w 24 #[.int .i64 a, .int .i64 b]).alloc (Obj.cells #[.int .i64 0, .int .i64 0, .int .i64 0] 82)).on hb1)
  have NR := Lib.hid ((show Blk (World.alloc (World.alloc w (Obj.cells #[.int .i64 a, .int .i64 b] 24)) (Obj.cells #[.int .i64 0, .int .i64 0, .int .i64 0] 82)) (w.heap.size + 1) 82 #[.int .i64 0, .int .i64 0, .int .i64 0] by have h9 := (Blk.new (World.alloc w (Obj.cells #[.int .i64 a, .int .i64 b] 24)) 82 #[.int .i64 0, .int .i64 0, .int .i64 0]); (try simp only [World.size_alloc, World.size_setCell] at h9); exact h9).on hb1)
  have TT := NTT; clear NTT
  have R := NR; clear NR
  have Hb1 := Lib.hid (bthen (bal (bal (Below.refl w.heap.size w) (Obj.cells #[.int .i64 a, .int .i64 b] 24)) (Obj.cells #[.int .i64 0, .int .i64 0, .int .i64 0] 82)) hb1)
  clear hb1
  have qR0 : w1.cell? ⟨w.heap.size + 1, 0, none⟩ = some (.int .i64 0) := R.out.cell 0
  have qR1 : w1.cell? ⟨w.heap.size + 1, 1, none⟩ = some (.int .i64 0) := R.out.cell 1
  have qR2 : w1.cell? ⟨w.heap.size + 1, 2, none⟩ = some (.int .i64 0) := R.out.cell 2
  have qRl := R.out.lt
  have qRf0 := R.out.frozen 0
  have qRf1 := R.out.frozen 1
  have qRf2 := R.out.frozen 2
  go_wp2
  clear qR0 qR1 qR2 qRl qRf0 qRf1 qRf2
  have R9R := (show Blk (World.setCell (World.setCell (World.setCell w1 ⟨w.heap.size + 1, 0, none⟩ (.int .i64 d)) ⟨w.heap.size + 1, 1, none⟩ (.int .i64 A)) ⟨w.heap.size + 1, 2, none⟩ (.int .i64 q)) (w.heap.size + 1) 82 #[.int .i64 d, .int .i64 A, .int .i64 q] by have h9 := (((R.out.set 0 (.int .i64 d)).set 1 (.int .i64 A)).set 2 (.int .i64 q)); simpa using h9)
  have kR0 := R9R.cell 0
  have kR1 := R9R.cell 1
  have kR2 := R9R.cell 2
  simp at kR0 kR1 kR2
  exact bodyPost_ret (v := .agg #[.int .i64 d, .int .i64 A, .int .i64 q]) (by simp [results, Tryz.results82, go_sem, kR0, kR1, kR2]) rfl ⟨rfl, (bst (bst (bst Hb1.out (p := ⟨w.heap.size + 1, 0, none⟩) (show w.heap.size ≤ w.heap.size + 1 by have := S1.out; (try simp only [World.size_alloc, World.size_setCell, World.size_drew]); omega) (.int .i64 d)) (p := ⟨w.heap.size + 1, 1, none⟩) (show w.heap.size ≤ w.heap.size + 1 by have := S1.out; (try simp only [World.size_alloc, World.size_setCell, World.size_drew]); omega) (.int .i64 A)) (p := ⟨w.heap.size + 1, 2, none⟩) (show w.heap.size ≤ w.heap.size + 1 by have := S1.out; (try simp only [World.size_alloc, World.size_setCell, World.size_drew]); omega) (.int .i64 q))⟩
set_option linter.unusedSimpArgs false in
set_option linter.unusedVariables false in
set_option maxHeartbeats 1600000 in
theorem descQuartic_any (a b d : Int) (k : Bool) (w : World) (h : twB a b = true) (hd : d ≠ 0) :
    Calls Tryz.prog 72 #[.agg #[.int .i64 a, .int .i64 b], .bool k, .int .i64 d] w fun e w' => e = .returned (.agg #[.int .i64 d, .int .i64 (sdA a b k), .int .i64 ((sdB a b k).tdiv d)]) ∧ Below w.heap.size w w' := by
  obtain ⟨ha, hb, -, -⟩ := twB_bd h
  obtain ⟨hA, hB, hB0⟩ := sd_bd h k
  have Hc := Lib.hid (fun w9 => side_any a b k w9 ha hb)
  obtain ⟨B, hBB⟩ : ∃ z, sdB a b k = z := ⟨_, rfl⟩
  obtain ⟨A, hAA⟩ : ∃ z, sdA a b k = z := ⟨_, rfl⟩
  rw [hAA, hBB] at Hc
  rw [hBB] at hB hB0
  rw [hAA, hBB]
  have hq := tdiv_bd (a := B) (g := d) (B := 91200) hB.1 hB.2
  obtain ⟨q, hqq⟩ : ∃ z, B.tdiv d = z := ⟨_, rfl⟩
  rw [hqq] at hq ⊢
  obtain ⟨q1, q2⟩ := hq
  have hwq : IntKind.i64.wrap q = q := by rw [IntKind.wrap_i64]; omega
  clear hAA hBB
  go_enter Tryz.func72, Tryz.ntmps72
  go_wp2_with fail
  refine (Hc.out _).mono ?_; rintro e w1 ⟨rfl, hb1⟩
  have S1 := Lib.hid (show w.heap.size + 2 ≤ w1.heap.size by have h9 := hb1.size; (try simp only [World.size_alloc, World.size_setCell, World.size_drew] at h9); omega)
  have NTT := Lib.hid (((Blk.new w 24 #[.int .i64 a, .int .i64 b]).alloc (Obj.cells #[.int .i64 0, .int .i64 0, .int .i64 0] 82)).on hb1)
  have NR := Lib.hid ((show Blk (World.alloc (World.alloc w (Obj.cells #[.int .i64 a, .int .i64 b] 24)) (Obj.cells #[.int .i64 0, .int .i64 0, .int .i64 0] 82)) (w.heap.size + 1) 82 #[.int .i64 0, .int .i64 0, .int .i64 0] by have h9 := (Blk.new (World.alloc w (Obj.cells #[.int .i64 a, .int .i64 b] 24)) 82 #[.int .i64 0, .int .i64 0, .int .i64 0]); (try simp only [World.size_alloc, World.size_setCell] at h9); exact h9).on hb1)
  have TT := NTT; clear NTT
  have R := NR; clear NR
  have Hb1 := Lib.hid (bthen (bal (bal (Below.refl w.heap.size w) (Obj.cells #[.int .i64 a, .int .i64 b] 24)) (Obj.cells #[.int .i64 0, .int .i64 0, .int .i64 0] 82)) hb1)
  clear hb1
  have qR0 : w1.cell? ⟨w.heap.size + 1, 0, none⟩ = some (.int .i64 0) := R.out.cell 0
  have qR1 : w1.cell? ⟨w.heap.size + 1, 1, none⟩ = some (.int .i64 0) := R.out.cell 1
  have qR2 : w1.cell? ⟨w.heap.size + 1, 2, none⟩ = some (.int .i64 0) := R.out.cell 2
  have qRl := R.out.lt
  have qRf0 := R.out.frozen 0
  have qRf1 := R.out.frozen 1
  have qRf2 := R.out.frozen 2
  go_wp2
  clear qR0 qR1 qR2 qRl qRf0 qRf1 qRf2
  have R9R := (show Blk (World.setCell (World.setCell (World.setCell w1 ⟨w.heap.size + 1, 0, none⟩ (.int .i64 d)) ⟨w.heap.size + 1, 1, none⟩ (.int .i64 A)) ⟨w.heap.size + 1, 2, none⟩ (.int .i64 q)) (w.heap.size + 1) 82 #[.int .i64 d, .int .i64 A, .int .i64 q] by have h9 := (((R.out.set 0 (.int .i64 d)).set 1 (.int .i64 A)).set 2 (.int .i64 q)); simpa using h9)
  have kR0 := R9R.cell 0
  have kR1 := R9R.cell 1
  have kR2 := R9R.cell 2
  simp at kR0 kR1 kR2
  exact bodyPost_ret (v := .agg #[.int .i64 d, .int .i64 A, .int .i64 q]) (by simp [results, Tryz.results72, go_sem, kR0, kR1, kR2]) rfl ⟨rfl, (bst (bst (bst Hb1.out (p := ⟨w.heap.size + 1, 0, none⟩) (show w.heap.size ≤ w.heap.size + 1 by have := S1.out; (try simp only [World.size_alloc, World.size_setCell, World.size_drew]); omega) (.int .i64 d)) (p := ⟨w.heap.size + 1, 1, none⟩) (show w.heap.size ≤ w.heap.size + 1 by have := S1.out; (try simp only [World.size_alloc, World.size_setCell, World.size_drew]); omega) (.int .i64 A)) (p := ⟨w.heap.size + 1, 2, none⟩) (show w.heap.size ≤ w.heap.size + 1 by have := S1.out; (try simp only [World.size_alloc, World.size_setCell, World.size_drew]); omega) (.int .i64 q))⟩
/-- Has the quartic a real point? -/
def rlV (d a c : Int) : Bool := decide (0 < d) || decide (0 < c) || (decide (0 < a) && decide (4 * d * c ≤ a * a))
set_option linter.unusedSimpArgs false in
set_option linter.unusedVariables false in
set_option maxHeartbeats 1600000 in
theorem loReal_any (d a c : Int) (w : World) (hd : -100000 ≤ d ∧ d ≤ 100000) (ha : -100000 ≤ a ∧ a ≤ 100000) (hc : -100000 ≤ c ∧ c ≤ 100000) :
    Calls Tryz.prog 84 #[.agg #[.int .i64 d, .int .i64 a, .int .i64 c]] w fun e w' => e = .returned (.bool (rlV d a c)) ∧ Below w.heap.size w w' := by
  obtain ⟨m1, m2⟩ := mul_bd (4 * d) c 400000 100000 (by omega) (by omega) (by omega) (by omega)
  obtain ⟨m3, m4⟩ := mul_bd a a 100000 100000 (by omega) (by omega) (by omega) (by omega)
  unfold rlV
  cases h0 : decide (0 < d)
  · cases h1 : decide (0 < c)
    · cases h2 : decide (0 < a)
      · go_enter Tryz.func84, Tryz.ntmps84
        go_wp2
        go_ret
        exact ⟨by simp, (bal (Below.refl w.heap.size w) (Obj.cells #[.int .i64 d, .int .i64 a, .int .i64 c] 82))⟩
      · go_enter Tryz.func84, Tryz.ntmps84
        go_wp2
        go_ret
        exact ⟨by simp, (bal (Below.refl w.heap.size w) (Obj.cells #[.int .i64 d, .int .i64 a, .int .i64 c] 82))⟩
    · go_enter Tryz.func84, Tryz.ntmps84
      go_wp2
      go_ret
      exact ⟨by simp, (bal (Below.refl w.heap.size w) (Obj.cells #[.int .i64 d, .int .i64 a, .int .i64 c] 82))⟩
  · go_enter Tryz.func84, Tryz.ntmps84
    go_wp2
    go_ret
    exact ⟨by simp, (bal (Below.refl w.heap.size w) (Obj.cells #[.int .i64 d, .int .i64 a, .int .i64 c] 82))⟩
set_option linter.unusedSimpArgs false in
set_option linter.unusedVariables false in
set_option maxHeartbeats 1600000 in
theorem isReal_any (d a c : Int) (w : World) (hd : -100000 ≤ d ∧ d ≤ 100000) (ha : -100000 ≤ a ∧ a ≤ 100000) (hc : -100000 ≤ c ∧ c ≤ 100000) :
    Calls Tryz.prog 74 #[.agg #[.int .i64 d, .int .i64 a, .int .i64 c]] w fun e w' => e = .returned (.bool (rlV d a c)) ∧ Below w.heap.size w w' := by
  obtain ⟨m1, m2⟩ := mul_bd (4 * d) c 400000 100000 (by omega) (by omega) (by omega) (by omega)
  obtain ⟨m3, m4⟩ := mul_bd a a 100000 100000 (by omega) (by omega) (by omega) (by omega)
  unfold rlV
  cases h0 : decide (0 < d)
  · cases h1 : decide (0 < c)
    · cases h2 : decide (0 < a)
      · go_enter Tryz.func74, Tryz.ntmps74
        go_wp2
        go_ret
        exact ⟨by simp, (bal (Below.refl w.heap.size w) (Obj.cells #[.int .i64 d, .int .i64 a, .int .i64 c] 82))⟩
      · go_enter Tryz.func74, Tryz.ntmps74
        go_wp2
        go_ret
        exact ⟨by simp, (bal (Below.refl w.heap.size w) (Obj.cells #[.int .i64 d, .int .i64 a, .int .i64 c] 82))⟩
    · go_enter Tryz.func74, Tryz.ntmps74
      go_wp2
      go_ret
      exact ⟨by simp, (bal (Below.refl w.heap.size w) (Obj.cells #[.int .i64 d, .int .i64 a, .int .i64 c] 82))⟩
  · go_enter Tryz.func74, Tryz.ntmps74
    go_wp2
    go_ret
    exact ⟨by simp, (bal (Below.refl w.heap.size w) (Obj.cells #[.int .i64 d, .int .i64 a, .int .i64 c] 82))⟩
end
end Go.Proofs.YthdfpfhkmfmnbaaGreat
