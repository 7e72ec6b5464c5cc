/- Own texts put together: A member of a list, a number put into an increasing list, a copy: the reference's walks at ints; Valuations and factors of plain numbers; How often a prime divides, factors, primes of a number: the walks of both sides; The primes of a number: the walk of the program; The factors of a number: the walk of the reference. Conditions: those of each theorem. -/
import Derived.Test.YthdfpfhkmfmnbaaGreatRcM2
import Derived.Test.YthdfpfhkmfmnbaaGreatRcM1
import Derived.IntWalk
namespace Go.Proofs.YthdfpfhkmfmnbaaGreat
section
open Go Go.RowKit

theorem iv_one (xs : List Int) : ∀ u ∈ xs.map iv, u.oneCell' = true := by
  intro u hu
  rw [List.mem_map] at hu
  obtain ⟨x, -, rfl⟩ := hu
  rfl
theorem iv_src {w : World} {hi n c : Nat} {A : Option Addr} {xs : List Int} (h : Rd inS w hi (.slice A n c) xs) (k : Nat) : ∀ a, A = some a → ∀ j u, ((xs.take k).map iv)[j]? = some u → w.cell? (a.add j) = some u := by
  intro a ha j u hj
  obtain ⟨-, -, -, -, hC⟩ := rd_cells h
  have hl : j < (xs.take k).length := by have := (List.getElem?_eq_some_iff.1 hj).1; simpa using this
  have hl2 : j < xs.length := by rw [List.length_take] at hl; omega
  obtain ⟨g, off, h1, -⟩ := rd_addr h (by omega)
  rw [ha] at h1
  obtain rfl := Option.some.inj h1
  rw [Addr.add_lit, hC g off ha j hl2]
  rw [List.getElem?_map, List.getElem?_eq_getElem hl] at hj
  rw [← Option.some.inj hj]
  simp [iv, hl2]
theorem iv_src2 {w : World} {hi n c g off : Nat} {xs : List Int} (h : Rd inS w hi (.slice (some ⟨g, off, none⟩) n c) xs) (k : Nat) : ∀ a, some (⟨g, off + k, none⟩ : Addr) = some a → ∀ j u, ((xs.drop k).map iv)[j]? = some u → w.cell? (a.add j) = some u := by
  intro a ha j u hj
  obtain rfl := Option.some.inj ha
  obtain ⟨-, -, -, -, hC⟩ := rd_cells h
  have hl : k + j < xs.length := by have := (List.getElem?_eq_some_iff.1 hj).1; simp at this; omega
  rw [Addr.add_lit, Nat.add_assoc, hC g off rfl (k + j) hl]
  rw [List.getElem?_map, List.getElem?_drop, List.getElem?_eq_getElem hl] at hj
  rw [← Option.some.inj hj]
  simp [iv, hl]
theorem iv_src0 {w : World} {A : Option Addr} (a : Addr) : A = some a → ∀ j u, (([] : List Int).map iv)[j]? = some u → w.cell? (a.add j) = some u := by
  intro _ j u hj
  simp at hj
theorem rd_own1 {w : World} {b : Nat} {v : Value} {n : Nat} {xs : List Int} (h : w.ownsRow b 3 1 v n (xs.map iv)) (hn : n = xs.length) : ∃ A c, v = .slice A xs.length c ∧ Rd inS w w.heap.size (.slice A xs.length c) xs := by
  subst hn
  obtain ⟨A, c, rfl⟩ := own_formI h
  refine ⟨A, c, rfl, Rd.of_own (base := b) (e := 3) (S := inS) ?_ rfl⟩
  rw [inS_flat]; exact h
/-- What is told of a list that is handed back to be read. -/
def RdR (xs : List Int) (e : Ending) (w' : World) : Prop := ∃ A c, e = .returned (.slice A xs.length c) ∧ Rd inS w' w'.heap.size (.slice A xs.length c) xs
theorem RdR.own {w : World} {b : Nat} {v : Value} {n : Nat} {xs : List Int} (h : w.ownsRow b 3 1 v n (xs.map iv)) (hn : n = xs.length) : RdR xs (.returned v) w := by
  obtain ⟨A, c, rfl, h2⟩ := rd_own1 h hn
  exact ⟨A, c, rfl, h2⟩
set_option linter.unusedVariables false in
set_option linter.unusedSimpArgs false in
set_option maxHeartbeats 2000000 in
theorem l1HasI_any (A : Option Addr) (c : Nat) (xs : List Int) (x : Int) (hi : Nat) (w : World) (h : Rd inS w hi (.slice A xs.length c) xs) (hlen : xs.length ≤ 1000000000) :
    Calls Tryz.prog 32 #[.slice A xs.length c, .int .i64 x] w fun e w' => e = .returned (.bool (hasI xs x)) ∧ Below w.heap.size w w' := by
  have Hr := Lib.hid h; clear h
  obtain ⟨r, hr⟩ : ∃ r, hasI xs x = r := ⟨_, rfl⟩
  have HR := Lib.hid hr
  rw [hr]; clear hr
  go_enter Tryz.func32, Tryz.ntmps32
  go_wp2
  go_loop [9] (fun i => ∃ k : Nat, k ≤ xs.length ∧ i = .int .i64 (k : Int) ∧ Hid (x ∉ xs.take k)) (fun i => xs.length - (intOf i).toNat)
  case atStart => exact ⟨0, Nat.zero_le _, rfl, Lib.hid (by simp)⟩
  case round =>
    obtain ⟨k, hk, rfl, HN⟩ := hrel
    by_cases hlt : k < xs.length
    · obtain ⟨-, -, -, -, hC⟩ := rd_cells Hr.out
      obtain ⟨g, off, rfl, hg⟩ := rd_addr Hr.out (by omega)
      have hc1 := hC g off rfl k hlt
      clear hC
      have hd : decide ((k : Int) < (xs.length : Int)) = true := decide_eq_true (by omega)
      have hdn : decide (k < xs.length) = true := decide_eq_true hlt
      have Hst := Lib.hid (List.take_succ_eq_append_getElem hlt)
      have Hgt := Lib.hid (show xs.getD k 0 = xs[k] by simp [hlt])
      rw [Hgt.out] at hc1
      generalize xs[k] = y at hc1 Hst Hgt
      by_cases he : y = x
      · have e1 : (y == x) = true := beq_iff_eq.2 he
        have Hin := Lib.hid (show r = true by rw [← HR.out]; exact decide_eq_true (by rw [← he, ← Hgt.out]; simp [hlt]))
        clear he
        go_wp2
        go_ret
        exact ⟨by rw [Hin.out] <;> rfl, Below.refl _ _⟩
      · have e1 : (y == x) = false := beq_eq_false_iff_ne.2 he
        have HN2 := Lib.hid (show x ∉ xs.take (k + 1) by rw [Hst.out, List.mem_append, List.mem_singleton]; exact fun h => h.elim HN.out (fun h => he h.symm))
        clear he
        go_wp2
        go_round
        case rel => exact ⟨k + 1, by omega, by go_num, HN2⟩
        case measure => simp [intOf]; omega
    · obtain rfl : k = xs.length := by omega
      have hd : decide ((xs.length : Int) < (xs.length : Int)) = false := decide_eq_false (by omega)
      have Hin := Lib.hid (show r = false by rw [← HR.out]; exact decide_eq_false (by have h1 := HN.out; rwa [List.take_length] at h1))
      go_wp2
      go_ret
      exact ⟨by rw [Hin.out] <;> rfl, Below.refl _ _⟩
set_option linter.unusedVariables false in
set_option linter.unusedSimpArgs false in
set_option maxHeartbeats 2000000 in
theorem l1OwnI_any (A : Option Addr) (c : Nat) (xs : List Int) (w : World) (h : Rd inS w w.heap.size (.slice A xs.length c) xs) (hlen : xs.length ≤ 1000000000) :
    Calls Tryz.prog 86 #[.slice A xs.length c] w fun e w' => (∃ v, e = .returned v ∧ w'.ownsRow w.heap.size 3 1 v xs.length (xs.map iv)) ∧ Below w.heap.size w w' := by
  obtain ⟨i0, hii, hz0, hz1, hz2⟩ := info_parts infoIntC
  have Hr := Lib.hid h; clear h
  go_enter Tryz.func86, Tryz.ntmps86
  go_wp2_with (at_builtin; refine wpList_append_src rfl _ _ 48 rfl w.heap.size 3 i0 (.int .i64 0) 1 8 Tryz.underlying48 hii hz0 hz1 hz2 rfl (by decide) _ 0 [] rfl (own_empty (Nat.le_refl _)) A xs.length c (xs.map iv) rfl (by simp) (fun h => by rw [(rd_cells Hr.out).2.2.2.1 h]; rfl) (fun a ha j u hj => by rw [← List.take_length (l := xs)] at hj; exact iv_src (Hr.out.on (bal (Below.refl _ _) _)) xs.length a ha j u hj) (iv_one xs) (by unfold maxLen; omega) (by omega) (by simp) ?_)
  intro v6 w6 hown6 hg6
  have Hb6 := Lib.hid (show Below w.heap.size w w6 from Below.grown (bal (Below.refl w.heap.size w) (Obj.cells #[] 3)) hg6 (by simp) (fun j hj => ((own_empty (e := 3) (size := 1) (Nat.le_refl w.heap.size)).lt j hj).1))
  have Hown6 := Lib.hid (show w6.ownsRow w.heap.size 3 1 v6 xs.length (xs.map iv) by simpa using hown6)
  clear hown6 hg6
  go_wp2
  go_ret
  exact ⟨⟨_, rfl, Hown6.out⟩, Hb6.out⟩
theorem putI_here {n x : Int} {l : List Int} (h : ¬ x < n) : putI n (x :: l) = if x = n then x :: l else n :: x :: l := by rw [putI, if_neg h]
set_option linter.unusedVariables false in
set_option linter.unusedSimpArgs false in
set_option maxRecDepth 8000 in
set_option maxHeartbeats 8000000 in
theorem l1PutI_any (A : Option Addr) (c : Nat) (xs : List Int) (n : Int) (w : World) (h : Rd inS w w.heap.size (.slice A xs.length c) xs) (h0 : 0 < xs.length) (hlen : xs.length ≤ 1000000000) :
    Calls Tryz.prog 89 #[.slice A xs.length c, .int .i64 n] w fun e w' => RdR (putI n xs) e w' ∧ Below w.heap.size w w' := by
  obtain ⟨i0, hii, hz0, hz1, hz2⟩ := info_parts infoIntC
  have Hr := Lib.hid h; clear h
  obtain ⟨-, hcm, hcc, -, -⟩ := rd_cells Hr.out
  unfold maxLen at hcm
  go_enter Tryz.func89, Tryz.ntmps89
  go_wp2
  go_loop [5] (fun i => ∃ k : Nat, k ≤ xs.length ∧ i = .int .i64 (k : Int) ∧ Hid (∀ j (h : j < xs.length), j < k → xs[j] < n)) (fun i => xs.length - (intOf i).toNat)
  case atStart => exact ⟨0, Nat.zero_le _, rfl, Lib.hid (fun j _ hj => absurd hj (Nat.not_lt_zero _))⟩
  case round =>
    obtain ⟨k, hk, rfl, HN⟩ := hrel
    have Hpa := Lib.hid (putI_at n k xs hk HN.out)
    have hk0 : (0 : Int) ≤ (k : Int) := by omega
    by_cases hlt : k < xs.length
    · obtain ⟨-, -, -, -, hC⟩ := rd_cells Hr.out
      obtain ⟨g, off, rfl, hg⟩ := rd_addr Hr.out (by omega)
      have hc1 := hC g off rfl k hlt
      clear hC
      have hd : decide ((k : Int) < (xs.length : Int)) = true := decide_eq_true (by omega)
      have hdn : decide (k < xs.length) = true := decide_eq_true hlt
      have hki : (k : Int) < (xs.length : Int) := by omega
      rw [show xs.getD k 0 = xs[k] by simp [hlt]] at hc1
      have Hdr := Lib.hid (List.drop_eq_getElem_cons hlt)
      have Hst := Lib.hid (fun (hx : xs[k] < n) => (show ∀ j (h : j < xs.length), j < k + 1 → xs[j] < n from fun j h hj => by
        rcases Nat.lt_or_ge j k with h1 | h1
        · exact HN.out j h h1
        · obtain rfl : j = k := by omega
          exact hx))
      generalize xs[k] = y at hc1 Hdr Hst
      by_cases hy : y < n
      · have e1 : decide (y < n) = true := decide_eq_true hy
        have HN2 := Lib.hid (Hst.out hy)
        clear hy Hpa Hst
        go_wp2
        go_round
        case rel => exact ⟨k + 1, by omega, by go_num, HN2⟩
        case measure => simp [intOf]; omega
      · have e1 : decide (y < n) = false := decide_eq_false hy
        have Hp2 := Lib.hid (putI_here (l := xs.drop (k + 1)) hy)
        clear hy Hst
        by_cases he : y = n
        · have e2 : (y == n) = true := beq_iff_eq.2 he
          have Hfin := Lib.hid (show putI n xs = xs by rw [Hpa.out, Hdr.out, Hp2.out, if_pos he, ← Hdr.out, List.take_append_drop])
          clear he Hpa Hp2
          go_wp2
          go_ret
          exact ⟨by rw [Hfin.out]; exact ⟨_, _, rfl, Hr.out⟩, Below.refl _ _⟩
        · have e2 : (y == n) = false := beq_eq_false_iff_ne.2 he
          have Hfin := Lib.hid (show putI n xs = xs.take k ++ n :: xs.drop k by rw [Hpa.out, Hdr.out, Hp2.out, if_neg he])
          clear he Hpa Hp2
          go_wp2_with (at_builtin; refine wpList_append_src rfl _ _ 48 rfl w.heap.size 3 i0 (.int .i64 0) 1 8 Tryz.underlying48 hii hz0 hz1 hz2 rfl (by decide) _ 0 [] rfl (own_empty (Nat.le_refl _)) (some ⟨g, off, none⟩) k _ ((xs.take k).map iv) rfl (by simp; try omega) (fun h => by cases h) (fun a ha j u hj => iv_src (Hr.out.on (bal (Below.refl _ _) _)) k a ha j u hj) (iv_one _) (by unfold maxLen; omega) (by omega) (by simp) ?_)
          intro v6 w6 hown6 hg6
          have Hb6 := Lib.hid (show Below w.heap.size w w6 from Below.grown (bal (Below.refl w.heap.size w) (Obj.cells #[] 3)) hg6 (by simp) (fun j hj => ((own_empty (e := 3) (size := 1) (Nat.le_refl w.heap.size)).lt j hj).1))
          have Hown6 := Lib.hid (show w6.ownsRow w.heap.size 3 1 v6 k ((xs.take k).map iv) by simpa [List.map_take] using hown6)
          clear hown6 hg6
          have hs6 : w.heap.size ≤ w6.heap.size := Hb6.out.size
          go_wp2_with (at_builtin; refine wpList_append_own _ rfl _ _ 48 rfl w.heap.size 3 i0 (.int .i64 0) 1 8 Tryz.underlying48 hii hz0 hz1 hz2 rfl (by decide) _ _ _ rfl (Hown6.out.alloc _) ⟨w6.heap.size, 0, none⟩ 1 1 [.int .i64 n] rfl rfl (cell_one_new _ _ _) (by simp [Value.oneCell']) (by unfold maxLen; omega) (by omega) (by simp; omega) ?_)
          intro v7 w7 hown7 hg7 _
          have Hb7 := Lib.hid (show Below w.heap.size w w7 from Below.grown (Hb6.out.alloc hs6 _) hg7 (by simp; omega) (fun j hj => (Hown6.out.lt j hj).1))
          have Hown7 := Lib.hid (show w7.ownsRow w.heap.size 3 1 v7 (k + 1) ((xs.take k ++ [n]).map iv) by rw [List.map_append]; simpa [List.map_take, iv] using hown7)
          clear hown7 hg7
          have hs7 : w.heap.size ≤ w7.heap.size := Hb7.out.size
          go_wp2_with (at_builtin; refine wpList_append_src rfl _ _ 48 rfl w.heap.size 3 i0 (.int .i64 0) 1 8 Tryz.underlying48 hii hz0 hz1 hz2 rfl (by decide) _ _ _ rfl Hown7.out (some ⟨g, off + k, none⟩) (xs.length - k) _ ((xs.drop k).map iv) (by first | rfl | simp) (by simp) (fun h => by cases h) (fun a ha j u hj => iv_src2 (Hr.out.on Hb7.out) k a ha j u hj) (iv_one _) (by unfold maxLen; omega) (by omega) hs7 ?_)
          intro v8 w8 hown8 hg8
          have Hb8 := Lib.hid (show Below w.heap.size w w8 from Below.grown Hb7.out hg8 hs7 (fun j hj => (Hown7.out.lt j hj).1))
          have Hown8 := Lib.hid (show w8.ownsRow w.heap.size 3 1 v8 (k + 1 + (xs.length - k)) ((putI n xs).map iv) by rw [Hfin.out]; simpa [List.map_take, List.map_drop, iv] using hown8)
          clear hown8 hg8
          go_wp2
          go_ret
          exact ⟨RdR.own Hown8.out (by rw [Hfin.out, List.length_append, List.length_cons, List.length_take, List.length_drop]; omega), Hb8.out⟩
    · obtain rfl : k = xs.length := by omega
      have hd : decide ((xs.length : Int) < (xs.length : Int)) = false := decide_eq_false (by omega)
      have Hfin := Lib.hid (show putI n xs = xs.take xs.length ++ n :: xs.drop xs.length by rw [Hpa.out, List.drop_length]; rfl)
      obtain ⟨g, off, rfl, hg⟩ := rd_addr Hr.out h0
      by_cases hcl : c = xs.length
      · subst hcl
        go_wp2_with (at_builtin; refine wpList_append_src rfl _ _ 48 rfl w.heap.size 3 i0 (.int .i64 0) 1 8 Tryz.underlying48 hii hz0 hz1 hz2 rfl (by decide) _ 0 [] rfl (own_empty (Nat.le_refl _)) (some ⟨g, off, none⟩) xs.length _ ((xs.take xs.length).map iv) rfl (by simp; try omega) (fun h => by cases h) (fun a ha j u hj => iv_src (Hr.out.on (bal (Below.refl _ _) _)) xs.length a ha j u hj) (iv_one _) (by unfold maxLen; omega) (by omega) (by simp) ?_)
        intro v6 w6 hown6 hg6
        have Hb6 := Lib.hid (show Below w.heap.size w w6 from Below.grown (bal (Below.refl w.heap.size w) (Obj.cells #[] 3)) hg6 (by simp) (fun j hj => ((own_empty (e := 3) (size := 1) (Nat.le_refl w.heap.size)).lt j hj).1))
        have Hown6 := Lib.hid (show w6.ownsRow w.heap.size 3 1 v6 xs.length ((xs.take xs.length).map iv) by simpa [List.map_take] using hown6)
        clear hown6 hg6
        have hs6 : w.heap.size ≤ w6.heap.size := Hb6.out.size
        go_wp2_with (at_builtin; refine wpList_append_own _ rfl _ _ 48 rfl w.heap.size 3 i0 (.int .i64 0) 1 8 Tryz.underlying48 hii hz0 hz1 hz2 rfl (by decide) _ _ _ rfl (Hown6.out.alloc _) ⟨w6.heap.size, 0, none⟩ 1 1 [.int .i64 n] rfl rfl (cell_one_new _ _ _) (by simp [Value.oneCell']) (by unfold maxLen; omega) (by omega) (by simp; omega) ?_)
        intro v7 w7 hown7 hg7 _
        have Hb7 := Lib.hid (show Below w.heap.size w w7 from Below.grown (Hb6.out.alloc hs6 _) hg7 (by simp; omega) (fun j hj => (Hown6.out.lt j hj).1))
        have Hown7 := Lib.hid (show w7.ownsRow w.heap.size 3 1 v7 (xs.length + 1) ((xs.take xs.length ++ [n]).map iv) by rw [List.map_append]; simpa [List.map_take, iv] using hown7)
        clear hown7 hg7
        have hs7 : w.heap.size ≤ w7.heap.size := Hb7.out.size
        go_wp2_with (at_builtin; refine wpList_append_src rfl _ _ 48 rfl w.heap.size 3 i0 (.int .i64 0) 1 8 Tryz.underlying48 hii hz0 hz1 hz2 rfl (by decide) _ _ _ rfl Hown7.out (some ⟨g, off, none⟩) (0) _ (([] : List Int).map iv) (by first | rfl | simp) (by simp) (fun h => by cases h) (fun a ha j u hj => iv_src0 a ha j u hj) (iv_one _) (by unfold maxLen; omega) (by omega) hs7 ?_)
        intro v8 w8 hown8 hg8
        have Hb8 := Lib.hid (show Below w.heap.size w w8 from Below.grown Hb7.out hg8 hs7 (fun j hj => (Hown7.out.lt j hj).1))
        have Hown8 := Lib.hid (show w8.ownsRow w.heap.size 3 1 v8 (xs.length + 1 + (xs.length - xs.length)) ((putI n xs).map iv) by rw [Hfin.out]; simpa [List.map_take, List.map_drop, iv] using hown8)
        clear hown8 hg8
        go_wp2
        go_ret
        exact ⟨RdR.own Hown8.out (by rw [Hfin.out, List.length_append, List.length_cons, List.length_take, List.length_drop]; omega), Hb8.out⟩
      · have hcl2 : xs.length < c := by omega
        go_wp2_with (at_builtin; refine wpList_append_src rfl _ _ 48 rfl w.heap.size 3 i0 (.int .i64 0) 1 8 Tryz.underlying48 hii hz0 hz1 hz2 rfl (by decide) _ 0 [] rfl (own_empty (Nat.le_refl _)) (some ⟨g, off, none⟩) xs.length _ ((xs.take xs.length).map iv) rfl (by simp; try omega) (fun h => by cases h) (fun a ha j u hj => iv_src (Hr.out.on (bal (Below.refl _ _) _)) xs.length a ha j u hj) (iv_one _) (by unfold maxLen; omega) (by omega) (by simp) ?_)
        intro v6 w6 hown6 hg6
        have Hb6 := Lib.hid (show Below w.heap.size w w6 from Below.grown (bal (Below.refl w.heap.size w) (Obj.cells #[] 3)) hg6 (by simp) (fun j hj => ((own_empty (e := 3) (size := 1) (Nat.le_refl w.heap.size)).lt j hj).1))
        have Hown6 := Lib.hid (show w6.ownsRow w.heap.size 3 1 v6 xs.length ((xs.take xs.length).map iv) by simpa [List.map_take] using hown6)
        clear hown6 hg6
        have hs6 : w.heap.size ≤ w6.heap.size := Hb6.out.size
        go_wp2_with (at_builtin; refine wpList_append_own _ rfl _ _ 48 rfl w.heap.size 3 i0 (.int .i64 0) 1 8 Tryz.underlying48 hii hz0 hz1 hz2 rfl (by decide) _ _ _ rfl (Hown6.out.alloc _) ⟨w6.heap.size, 0, none⟩ 1 1 [.int .i64 n] rfl rfl (cell_one_new _ _ _) (by simp [Value.oneCell']) (by unfold maxLen; omega) (by omega) (by simp; omega) ?_)
        intro v7 w7 hown7 hg7 _
        have Hb7 := Lib.hid (show Below w.heap.size w w7 from Below.grown (Hb6.out.alloc hs6 _) hg7 (by simp; omega) (fun j hj => (Hown6.out.lt j hj).1))
        have Hown7 := Lib.hid (show w7.ownsRow w.heap.size 3 1 v7 (xs.length + 1) ((xs.take xs.length ++ [n]).map iv) by rw [List.map_append]; simpa [List.map_take, iv] using hown7)
        clear hown7 hg7
        have hs7 : w.heap.size ≤ w7.heap.size := Hb7.out.size
        go_wp2_with (at_builtin; refine wpList_append_src rfl _ _ 48 rfl w.heap.size 3 i0 (.int .i64 0) 1 8 Tryz.underlying48 hii hz0 hz1 hz2 rfl (by decide) _ _ _ rfl Hown7.out (some ⟨g, off + xs.length, none⟩) (0) _ (([] : List Int).map iv) (by first | rfl | simp) (by simp) (fun h => by cases h) (fun a ha j u hj => iv_src0 a ha j u hj) (iv_one _) (by unfold maxLen; omega) (by omega) hs7 ?_)
        intro v8 w8 hown8 hg8
        have Hb8 := Lib.hid (show Below w.heap.size w w8 from Below.grown Hb7.out hg8 hs7 (fun j hj => (Hown7.out.lt j hj).1))
        have Hown8 := Lib.hid (show w8.ownsRow w.heap.size 3 1 v8 (xs.length + 1 + (xs.length - xs.length)) ((putI n xs).map iv) by rw [Hfin.out]; simpa [List.map_take, List.map_drop, iv] using hown8)
        clear hown8 hg8
        go_wp2
        go_ret
        exact ⟨RdR.own Hown8.out (by rw [Hfin.out, List.length_append, List.length_cons, List.length_take, List.length_drop]; omega), Hb8.out⟩
end
section
open Go

/-- How often q divides n. -/
def vlN (n q : Nat) : Nat := if h : 2 ≤ q ∧ 0 < n ∧ n % q = 0 then vlN (n / q) q + 1 else 0
termination_by n
decreasing_by exact Nat.div_lt_self h.2.1 h.1
theorem vlN_step {n q : Nat} (h2 : 2 ≤ q) (hn : 0 < n) (hd : n % q = 0) : vlN n q = vlN (n / q) q + 1 := by rw [vlN, dif_pos ⟨h2, hn, hd⟩]
theorem vlN_no {n q : Nat} (h : n % q ≠ 0) : vlN n q = 0 := by rw [vlN, dif_neg (fun hc => h hc.2.2)]
theorem vlN_spec {q : Nat} (h2 : 2 ≤ q) : ∀ (n : Nat), 0 < n → ∃ m, n = q ^ vlN n q * m ∧ m % q ≠ 0 ∧ 0 < m := by
  intro n
  induction n using Nat.strongRecOn with
  | _ n ih =>
    intro hn
    by_cases hd : n % q = 0
    · have hq : n = q * (n / q) := (Nat.mul_div_cancel' (Nat.dvd_of_mod_eq_zero hd)).symm
      have hpos : 0 < n / q := by
        rcases Nat.eq_zero_or_pos (n / q) with h | h
        · rw [h] at hq; omega
        · exact h
      obtain ⟨m, h3, h4, h5⟩ := ih (n / q) (Nat.div_lt_self hn h2) hpos
      refine ⟨m, ?_, h4, h5⟩
      rw [vlN_step h2 hn hd, Nat.pow_succ, Nat.mul_comm (q ^ _) q, Nat.mul_assoc, ← h3]
      exact hq
    · exact ⟨n, by rw [vlN_no hd]; simp, hd, hn⟩
theorem vlN_cop {q a : Nat} (h2 : 2 ≤ q) (hc : Nat.Coprime q a) (ha : 0 < a) : ∀ m, 0 < m → vlN (a * m) q = vlN m q := by
  intro m
  induction m using Nat.strongRecOn with
  | _ m ih =>
    intro hm
    have ham : 0 < a * m := Nat.mul_pos ha hm
    by_cases hd : m % q = 0
    · have hq : m = q * (m / q) := (Nat.mul_div_cancel' (Nat.dvd_of_mod_eq_zero hd)).symm
      have hpos : 0 < m / q := by
        rcases Nat.eq_zero_or_pos (m / q) with h | h
        · rw [h] at hq; omega
        · exact h
      have e1 : a * m = q * (a * (m / q)) := by rw [Nat.mul_left_comm, ← hq]
      rw [vlN_step h2 hm hd, vlN_step h2 ham (by rw [e1]; exact Nat.mul_mod_right _ _), e1, Nat.mul_div_cancel_left _ (by omega), ih (m / q) (Nat.div_lt_self hm h2) hpos]
    · rw [vlN_no hd, vlN_no]
      intro h
      exact hd (Nat.mod_eq_zero_of_dvd (hc.dvd_of_dvd_mul_left (Nat.dvd_of_mod_eq_zero h)))
theorem vlN_self {n : Nat} (h : 2 ≤ n) : vlN n n = 1 := by
  rw [vlN_step h (by omega) (Nat.mod_self n), Nat.div_self (by omega), vlN_no (by rw [Nat.mod_eq_of_lt (by omega)]; omega)]
theorem vlN_pos {n q : Nat} (h2 : 2 ≤ q) (hn : 0 < n) : 0 < vlN n q ↔ n % q = 0 := by
  constructor
  · intro h
    rcases Nat.eq_zero_or_pos (n % q) with h1 | h1
    · exact h1
    · rw [vlN_no (by omega)] at h; omega
  · intro h; rw [vlN_step h2 hn h]; omega
/-- What is left of n without q. -/
def rsN (n q : Nat) : Nat := n / q ^ vlN n q
theorem rsN_spec {n q : Nat} (h2 : 2 ≤ q) (hn : 0 < n) : n = q ^ vlN n q * rsN n q ∧ rsN n q % q ≠ 0 ∧ 0 < rsN n q ∧ rsN n q ≤ n := by
  obtain ⟨m, h1, h3, h4⟩ := vlN_spec h2 n hn
  have hp : 0 < q ^ vlN n q := Nat.pow_pos (by omega)
  have e : rsN n q = m := by
    unfold rsN
    have : n / q ^ vlN n q = (q ^ vlN n q * m) / q ^ vlN n q := by rw [← h1]
    rw [this, Nat.mul_div_cancel_left _ hp]
  rw [e]
  exact ⟨h1, h3, h4, by rw [h1]; exact Nat.le_mul_of_pos_left _ hp⟩
/-- The primes from p on that divide n, each with how often. -/
def facF (p n : Nat) : List (Nat × Nat) :=
  if h : n ≤ 1 then [] else if h2 : n < p * p then [(n, 1)] else if 0 < vlN n p then (p, vlN n p) :: facF (p + 1) (rsN n p) else facF (p + 1) n
termination_by n - p
decreasing_by
  · have h3 : p < n := by
      rcases Nat.lt_or_ge p 2 with h4 | h4
      · omega
      · have := Nat.mul_le_mul_right p h4; omega
    have h5 : rsN n p ≤ n := Nat.div_le_self _ _
    omega
  · have h3 : p < n := by
      rcases Nat.lt_or_ge p 2 with h4 | h4
      · omega
      · have := Nat.mul_le_mul_right p h4; omega
    omega
theorem facF_one {p n : Nat} (h : n ≤ 1) : facF p n = [] := by rw [facF, dif_pos h]
theorem facF_big {p n : Nat} (h : ¬ n ≤ 1) (h2 : n < p * p) : facF p n = [(n, 1)] := by rw [facF, dif_neg h, dif_pos h2]
theorem facF_yes {p n : Nat} (h : ¬ n ≤ 1) (h2 : ¬ n < p * p) (h3 : 0 < vlN n p) : facF p n = (p, vlN n p) :: facF (p + 1) (rsN n p) := by rw [facF, dif_neg h, dif_neg h2, if_pos h3]
theorem facF_no {p n : Nat} (h : ¬ n ≤ 1) (h2 : ¬ n < p * p) (h3 : ¬ 0 < vlN n p) : facF p n = facF (p + 1) n := by rw [facF, dif_neg h, dif_neg h2, if_neg h3]
/-- No divisor from 2 up to p, p itself not. -/
def NoD (p n : Nat) : Prop := ∀ d, 2 ≤ d → d < p → ¬ d ∣ n
def PrN (q : Nat) : Prop := 2 ≤ q ∧ NoD q q
theorem PrN.cop {q p : Nat} (h : PrN q) (hp : 0 < p) (hlt : p < q) : Nat.Coprime q p := by
  have h1 : Nat.gcd q p ∣ q := Nat.gcd_dvd_left _ _
  have h2 : Nat.gcd q p ≤ p := Nat.le_of_dvd hp (Nat.gcd_dvd_right _ _)
  have h3 : 0 < Nat.gcd q p := Nat.gcd_pos_of_pos_right _ hp
  rcases Nat.lt_or_ge (Nat.gcd q p) 2 with h4 | h4
  · show Nat.gcd q p = 1; omega
  · exact absurd h1 (h.2 _ h4 (by omega))
theorem facF_mem : ∀ (p n : Nat), 2 ≤ p → 0 < n → NoD p n → (∀ x ∈ facF p n, p ≤ x.1 ∧ x.1 ∣ n ∧ PrN x.1 ∧ x.2 = vlN n x.1 ∧ 0 < x.2) ∧ (facF p n).Pairwise (fun x y => x.1 < y.1) := by
  intro p n
  induction p, n using facF.induct with
  | case1 p n h => intro hp hn inv; rw [facF_one h]; exact ⟨fun x hx => absurd hx List.not_mem_nil, List.Pairwise.nil⟩
  | case2 p n h h2 =>
    intro hp hn inv
    rw [facF_big h h2]
    refine ⟨fun x hx => ?_, List.pairwise_singleton _ _⟩
    obtain rfl := List.mem_singleton.1 hx
    have hpn : p ≤ n := by
      rcases Nat.lt_or_ge n p with h3 | h3
      · exact absurd (Nat.dvd_refl n) (inv n (by omega) h3)
      · exact h3
    refine ⟨hpn, Nat.dvd_refl _, ⟨by show 2 ≤ n; omega, fun d hd hlt hdv => ?_⟩, (vlN_self (by omega)).symm, Nat.one_pos⟩
    have hdp : p ≤ d := by
      rcases Nat.lt_or_ge d p with h3 | h3
      · exact absurd hdv (inv d hd h3)
      · exact h3
    obtain ⟨c, hc⟩ := hdv
    have hc : n = d * c := hc
    have hc2 : 2 ≤ c := by
      rcases Nat.lt_or_ge c 2 with h3 | h3
      · have h4 : c = 0 ∨ c = 1 := by omega
        have hlt : d < n := hlt
        rcases h4 with rfl | rfl <;> omega
      · exact h3
    have hcp : p ≤ c := by
      rcases Nat.lt_or_ge c p with h3 | h3
      · exact absurd (⟨d, by rw [hc, Nat.mul_comm]⟩ : c ∣ n) (inv c hc2 h3)
      · exact h3
    have := Nat.mul_le_mul hdp hcp
    omega
  | case3 p n h h2 h3 ih =>
    intro hp hn inv
    rw [facF_yes h h2 h3]
    obtain ⟨e1, e2, e3, e4⟩ := rsN_spec hp hn
    have hdn : rsN n p ∣ n := ⟨p ^ vlN n p, by rw [Nat.mul_comm]; exact e1⟩
    have inv2 : NoD (p + 1) (rsN n p) := by
      intro d hd hlt hdv
      rcases Nat.lt_or_ge d p with h4 | h4
      · exact inv d hd h4 (Nat.dvd_trans hdv hdn)
      · obtain rfl : d = p := by omega
        exact e2 (Nat.mod_eq_zero_of_dvd hdv)
    obtain ⟨i1, i2⟩ := ih (by omega) e3 inv2
    have hpn : p ∣ n := Nat.dvd_of_mod_eq_zero ((vlN_pos hp hn).1 h3)
    refine ⟨fun x hx => ?_, List.pairwise_cons.2 ⟨fun y hy => by have := (i1 y hy).1; show p < y.1; omega, i2⟩⟩
    rcases List.mem_cons.1 hx with rfl | hx
    · exact ⟨Nat.le_refl _, hpn, ⟨hp, fun d hd hlt hdv => inv d hd hlt (Nat.dvd_trans hdv hpn)⟩, rfl, h3⟩
    · obtain ⟨j1, j2, j3, j4, j5⟩ := i1 x hx
      refine ⟨by omega, Nat.dvd_trans j2 hdn, j3, ?_, j5⟩
      have hc : Nat.Coprime x.1 (p ^ vlN n p) := (j3.cop (by omega) (by omega)).pow_right _
      have hv := vlN_cop j3.1 hc (Nat.pow_pos (by omega)) (rsN n p) e3
      rw [← e1] at hv
      rw [j4, hv]
  | case4 p n h h2 h3 ih =>
    intro hp hn inv
    rw [facF_no h h2 h3]
    have inv2 : NoD (p + 1) n := by
      intro d hd hlt hdv
      rcases Nat.lt_or_ge d p with h4 | h4
      · exact inv d hd h4 hdv
      · obtain rfl : d = p := by omega
        exact h3 ((vlN_pos hp hn).2 (Nat.mod_eq_zero_of_dvd hdv))
    obtain ⟨i1, i2⟩ := ih (by omega) hn inv2
    exact ⟨fun x hx => by obtain ⟨j1, j2⟩ := i1 x hx; exact ⟨by omega, j2⟩, i2⟩
theorem facF_two {n : Nat} (hn : 0 < n) : (∀ x ∈ facF 2 n, 2 ≤ x.1 ∧ x.1 ∣ n ∧ PrN x.1 ∧ x.2 = vlN n x.1 ∧ 0 < x.2) ∧ (facF 2 n).Pairwise (fun x y => x.1 < y.1) := facF_mem 2 n (by omega) hn (fun d h1 h2 => by omega)
end
section
open Go Go.RowKit

theorem tm_nat {x : Int} {q : Nat} : x.tmod (q : Int) = 0 ↔ x.natAbs % q = 0 := by
  have h := Int.natAbs_tmod x (q : Int)
  rw [Int.natAbs_natCast] at h
  omega
theorem td_nat (x : Int) (q : Nat) : (x.tdiv (q : Int)).natAbs = x.natAbs / q := by
  have h := Int.natAbs_tdiv x (q : Int)
  rwa [Int.natAbs_natCast] at h
set_option maxHeartbeats 1600000 in
theorem val_any (a : Int) (q : Nat) (w : World) (ha : a ≠ 0) (hb : a.natAbs ≤ 1000000000000) (hq : 2 ≤ q) (hq' : q ≤ 1000000000000) :
    Calls Tryz.prog 110 #[.int .i64 a, .int .i64 (q : Int)] w fun e w' => e = .returned (.int .i64 ((vlN a.natAbs q : Nat) : Int)) ∧ Below w.heap.size w w' := by
  have hq0 : ¬ (q : Int) = 0 := by omega
  go_enter Tryz.func110, Tryz.ntmps110
  go_wp2
  go_loopw [0, 5] (fun s t wr => ∃ (x : Int) (c : Nat), s = .int .i64 x ∧ t = .int .i64 (c : Int) ∧ Hid (x ≠ 0 ∧ x.natAbs ≤ 1000000000000) ∧ Hid (c + vlN x.natAbs q = vlN a.natAbs q) ∧ c ≤ 1000000000000 ∧ Hid (c + x.natAbs ≤ 1000000000000) ∧ Hid (Below w.heap.size w wr)) (fun s _ _ => (intOf s).natAbs)
  case atStart => exact ⟨a, 0, rfl, rfl, Lib.hid ⟨ha, hb⟩, Lib.hid (Nat.zero_add _), by omega, Lib.hid (by omega), Lib.hid (Below.refl _ _)⟩
  case round =>
    obtain ⟨x, c, rfl, rfl, Hx, Hv, hc, Hcx, Hb⟩ := hrel
    clear ha hb
    have hxb : -1000000000000 ≤ x ∧ x ≤ 1000000000000 := by have := Hx.out; omega
    obtain ⟨x1, x2⟩ := hxb
    by_cases hd : x.natAbs % q = 0
    · have hz : (x.tmod (q : Int) == 0) = true := by rw [tm_nat.2 hd]; rfl
      have hz2 : x.tmod (q : Int) = 0 := tm_nat.2 hd
      have hs := vlN_step hq (by have := Hx.out; omega) hd
      have hlt : x.natAbs / q < x.natAbs := Nat.div_lt_self (by have := Hx.out; omega) hq
      have hpos : 0 < x.natAbs / q := by
        have h1 := Nat.mul_div_cancel' (Nat.dvd_of_mod_eq_zero hd)
        rcases Nat.eq_zero_or_pos (x.natAbs / q) with h | h
        · rw [h] at h1; have := Hx.out; omega
        · exact h
      have ht := td_nat x q
      obtain ⟨y, hy⟩ : ∃ y, x.tdiv (q : Int) = y := ⟨_, rfl⟩
      rw [hy] at ht
      rw [← ht] at hs hlt hpos
      have Hn := Lib.hid (show y ≠ 0 ∧ y.natAbs ≤ 1000000000000 by have := Hx.out; omega)
      have Hv2 := Lib.hid (show (c + 1) + vlN y.natAbs q = vlN a.natAbs q by rw [← Hv.out, hs]; omega)
      have Hc2 := Lib.hid (show (c + 1) + y.natAbs ≤ 1000000000000 by have := Hcx.out; omega)
      have Hlt := Lib.hid hlt
      have hyb : -1000000000000 ≤ y ∧ y ≤ 1000000000000 := by have := Hn.out; omega
      obtain ⟨y1, y2⟩ := hyb
      have hwy : IntKind.i64.wrap y = y := by rw [IntKind.wrap_i64]; omega
      clear hd hs hlt hpos ht
      go_wp2
      go_roundw
      case rel => exact ⟨y, c + 1, rfl, by go_num, Hn, Hv2, by have := Hc2.out; omega, Hc2, Hb⟩
      case measure => simp only [intOf]; exact Hlt.out
    · have hz : (x.tmod (q : Int) == 0) = false := beq_eq_false_iff_ne.2 (fun h => hd (tm_nat.1 h))
      have hz2 : ¬ x.tmod (q : Int) = 0 := fun h => hd (tm_nat.1 h)
      have Hf := Lib.hid (show c = vlN a.natAbs q by rw [← Hv.out, vlN_no hd]; rfl)
      clear hd
      go_wp2
      go_ret
      exact ⟨ret_int (by rw [Hf.out]), Hb.out⟩
set_option maxHeartbeats 1600000 in
theorem valI_any (a : Int) (q : Nat) (w : World) (ha : a ≠ 0) (hb : a.natAbs ≤ 1000000000000) (hq : 2 ≤ q) (hq' : q ≤ 1000000000000) :
    Calls Tryz.prog 79 #[.int .i64 a, .int .i64 (q : Int)] w fun e w' => e = .returned (.int .i64 ((vlN a.natAbs q : Nat) : Int)) ∧ Below w.heap.size w w' := by
  have hq0 : ¬ (q : Int) = 0 := by omega
  go_enter Tryz.func79, Tryz.ntmps79
  go_wp2
  go_loopw [0, 5] (fun s t wr => ∃ (x : Int) (c : Nat), s = .int .i64 x ∧ t = .int .i64 (c : Int) ∧ Hid (x ≠ 0 ∧ x.natAbs ≤ 1000000000000) ∧ Hid (c + vlN x.natAbs q = vlN a.natAbs q) ∧ c ≤ 1000000000000 ∧ Hid (c + x.natAbs ≤ 1000000000000) ∧ Hid (Below w.heap.size w wr)) (fun s _ _ => (intOf s).natAbs)
  case atStart => exact ⟨a, 0, rfl, rfl, Lib.hid ⟨ha, hb⟩, Lib.hid (Nat.zero_add _), by omega, Lib.hid (by omega), Lib.hid (Below.refl _ _)⟩
  case round =>
    obtain ⟨x, c, rfl, rfl, Hx, Hv, hc, Hcx, Hb⟩ := hrel
    clear ha hb
    have hxb : -1000000000000 ≤ x ∧ x ≤ 1000000000000 := by have := Hx.out; omega
    obtain ⟨x1, x2⟩ := hxb
    by_cases hd : x.natAbs % q = 0
    · have hz : (x.tmod (q : Int) == 0) = true := by rw [tm_nat.2 hd]; rfl
      have hz2 : x.tmod (q : Int) = 0 := tm_nat.2 hd
      have hs := vlN_step hq (by have := Hx.out; omega) hd
      have hlt : x.natAbs / q < x.natAbs := Nat.div_lt_self (by have := Hx.out; omega) hq
      have hpos : 0 < x.natAbs / q := by
        have h1 := Nat.mul_div_cancel' (Nat.dvd_of_mod_eq_zero hd)
        rcases Nat.eq_zero_or_pos (x.natAbs / q) with h | h
        · rw [h] at h1; have := Hx.out; omega
        · exact h
      have ht := td_nat x q
      obtain ⟨y, hy⟩ : ∃ y, x.tdiv (q : Int) = y := ⟨_, rfl⟩
      rw [hy] at ht
      rw [← ht] at hs hlt hpos
      have Hn := Lib.hid (show y ≠ 0 ∧ y.natAbs ≤ 1000000000000 by have := Hx.out; omega)
      have Hv2 := Lib.hid (show (c + 1) + vlN y.natAbs q = vlN a.natAbs q by rw [← Hv.out, hs]; omega)
      have Hc2 := Lib.hid (show (c + 1) + y.natAbs ≤ 1000000000000 by have := Hcx.out; omega)
      have Hlt := Lib.hid hlt
      have hyb : -1000000000000 ≤ y ∧ y ≤ 1000000000000 := by have := Hn.out; omega
      obtain ⟨y1, y2⟩ := hyb
      have hwy : IntKind.i64.wrap y = y := by rw [IntKind.wrap_i64]; omega
      clear hd hs hlt hpos ht
      go_wp2
      go_roundw
      case rel => exact ⟨y, c + 1, rfl, by go_num, Hn, Hv2, by have := Hc2.out; omega, Hc2, Hb⟩
      case measure => simp only [intOf]; exact Hlt.out
    · have hz : (x.tmod (q : Int) == 0) = false := beq_eq_false_iff_ne.2 (fun h => hd (tm_nat.1 h))
      have hz2 : ¬ x.tmod (q : Int) = 0 := fun h => hd (tm_nat.1 h)
      have Hf := Lib.hid (show c = vlN a.natAbs q by rw [← Hv.out, vlN_no hd]; rfl)
      clear hd
      go_wp2
      go_ret
      exact ⟨ret_int (by rw [Hf.out]), Hb.out⟩
end
section
open Go Go.RowKit

theorem rsN_no {n q : Nat} (h : n % q ≠ 0) : rsN n q = n := by unfold rsN; rw [vlN_no h, Nat.pow_zero, Nat.div_one]
theorem rsN_step {n q : Nat} (h2 : 2 ≤ q) (hn : 0 < n) (hd : n % q = 0) : rsN n q = rsN (n / q) q := by
  unfold rsN
  rw [vlN_step h2 hn hd, Nat.pow_succ, Nat.mul_comm, Nat.div_div_eq_div_mul]
theorem rsN_self {n : Nat} (h : 2 ≤ n) : rsN n n = 1 := by unfold rsN; rw [vlN_self h, Nat.pow_one, Nat.div_self (by omega)]
theorem rs_next {k q m B : Nat} (h2 : 2 ≤ q) (h : 0 < k ∧ k ≤ B ∧ rsN k q = rsN m q) (hd : k % q = 0) : 0 < k / q ∧ k / q ≤ B ∧ rsN (k / q) q = rsN m q := by
  obtain ⟨h3, h4, h5⟩ := h
  refine ⟨?_, Nat.le_trans (Nat.div_le_self _ _) h4, by rw [← rsN_step h2 h3 hd]; exact h5⟩
  have h6 := Nat.mul_div_cancel' (Nat.dvd_of_mod_eq_zero hd)
  rcases Nat.eq_zero_or_pos (k / q) with h | h
  · rw [h] at h6; omega
  · exact h
def pfL (p n : Nat) : List Int := (facF p n).map (fun x => (x.1 : Int))
def prV (n : Nat) : List Int := pfL 2 n
theorem facF_len : ∀ (p n : Nat), 2 ≤ p → (facF p n).length ≤ n := by
  intro p n
  induction p, n using facF.induct with
  | case1 p n h => intro _; rw [facF_one h]; exact Nat.zero_le _
  | case2 p n h h2 => intro _; rw [facF_big h h2]; show 1 ≤ n; omega
  | case3 p n h h2 h3 ih =>
    intro hp
    rw [facF_yes h h2 h3, List.length_cons]
    have h4 := ih (by omega)
    obtain ⟨e1, -, e3, -⟩ := rsN_spec hp (show 0 < n by omega)
    have h5 : 2 ≤ p ^ vlN n p := by
      have : p ^ 1 ≤ p ^ vlN n p := Nat.pow_le_pow_right (by omega) h3
      rw [Nat.pow_one] at this
      omega
    have h6 : 2 * rsN n p ≤ n := by
      have := Nat.mul_le_mul_right (rsN n p) h5
      omega
    omega
  | case4 p n h h2 h3 ih => intro hp; rw [facF_no h h2 h3]; exact ih (by omega)
theorem pf_len (n : Nat) : (prV n).length ≤ n := by unfold prV pfL; rw [List.length_map]; exact facF_len 2 n (by omega)
theorem ms_lt {k m a b : Int} (hm : ¬ m ≤ 1) (h : 1 < k → a.toNat < b.toNat) : (if k ≤ 1 then 0 else 1 + a.toNat) < if m ≤ 1 then 0 else 1 + b.toNat := by
  rw [if_neg hm]
  by_cases h1 : k ≤ 1
  · rw [if_pos h1]; omega
  · rw [if_neg h1]; have := h (by omega); omega
theorem sq_lt9 {p n : Nat} (h : ¬ n < p * p) (h2 : 2 ≤ p) : p < n := by have := Nat.mul_le_mul_right p h2; omega
set_option maxRecDepth 4000 in
set_option maxHeartbeats 8000000 in
theorem primesOf_any (a : Int) (w : World) (h0 : a ≠ 0) (ha : a.natAbs ≤ 1000000000) :
    Calls Tryz.prog 78 #[.int .i64 a] w fun e w' => (∃ v, e = .returned v ∧ w'.ownsRow w.heap.size 3 1 v (prV a.natAbs).length ((prV a.natAbs).map (Value.int .i64))) ∧ Below w.heap.size w w' := by
  obtain ⟨i0, hi, hz0, hz1, hz2⟩ := info_parts infoIntC
  obtain ⟨N, hN⟩ : ∃ N, a.natAbs = N := ⟨_, rfl⟩
  rw [hN] at ha ⊢
  have hmx : max a (-a) = (N : Int) := by omega
  have HN := Lib.hid (show 0 < N by omega)
  have ha1 : -1000000000 ≤ a ∧ a ≤ 1000000000 := by omega
  obtain ⟨ha2, ha3⟩ := ha1
  have Ha := Lib.hid ha
  have Hpl := Lib.hid (pf_len N)
  go_enter Tryz.func78, Tryz.ntmps78
  go_wp2
  clear hmx ha ha2 ha3 hN h0
  go_loopw [0, 3, 4] (fun s t u wr => ∃ (m p : Nat) (l : List Int), s = .int .i64 (m : Int) ∧ u = .int .i64 (p : Int) ∧ Hid (l ++ pfL p m = prV N) ∧ Hid (0 < m ∧ m ≤ N ∧ 2 ≤ p ∧ p ≤ N + 2) ∧ Hid (wr.ownsRow w.heap.size 3 1 t l.length (l.map (Value.int .i64))) ∧ Hid (Below w.heap.size w wr)) (fun s _ u _ => if intOf s ≤ 1 then 0 else 1 + (intOf s - intOf u).toNat)
  case atStart => exact ⟨N, 2, [], rfl, rfl, Lib.hid rfl, Lib.hid ⟨HN.out, Nat.le_refl _, by omega, by omega⟩, Lib.hid ⟨rfl, Or.inl ⟨rfl, rfl⟩⟩, Lib.hid (Below.refl _ _)⟩
  case round =>
    obtain ⟨m, p, l, rfl, rfl, Hv, Hm, Hown, Hb⟩ := hrel
    have Hll := Lib.hid (show l.length ≤ 1000000000 by have h1 := Hpl.out; rw [← Hv.out, List.length_append] at h1; have := Ha.out; omega)
    by_cases hm1 : m ≤ 1
    · have hd : decide ((1 : Int) < (m : Int)) = false := decide_eq_false (by omega)
      have Hend := Lib.hid (show l = prV N by rw [← Hv.out]; unfold pfL; rw [facF_one hm1]; simp)
      clear hm1
      go_wp2
      go_ret
      exact ⟨⟨_, rfl, by rw [← Hend.out]; exact Hown.out⟩, Hb.out⟩
    · have hd : decide ((1 : Int) < (m : Int)) = true := decide_eq_true (by omega)
      have hmb : (0 : Int) ≤ (m : Int) ∧ (m : Int) ≤ 1000000000 := by have := Hm.out; have := Ha.out; omega
      obtain ⟨m1, m2⟩ := hmb
      have hpb : (2 : Int) ≤ (p : Int) ∧ (p : Int) ≤ 1000000002 := by have := Hm.out; have := Ha.out; omega
      obtain ⟨p1, p2⟩ := hpb
      have hpp : 0 ≤ (p : Int) * (p : Int) ∧ (p : Int) * (p : Int) ≤ 1000000004000000004 := ⟨Int.mul_nonneg (by omega) (by omega), (mul_bd (p : Int) p 1000000002 1000000002 (by omega) p2 (by omega) p2).2⟩
      obtain ⟨s1, s2⟩ := hpp
      have Hm1 := Lib.hid hm1; clear hm1
      by_cases hbig : m < p * p
      · have hd2 : decide ((m : Int) < (p : Int) * (p : Int)) = true := decide_eq_true (by rw [← Int.natCast_mul]; omega)
        have QB : Hid (2 ≤ m) := Lib.hid (by have := Hm1.out; omega)
        have QU : Hid (m ≤ N) := Lib.hid Hm.out.2.1
        have hy1 : ((m : Int) % (m : Int) == 0) = true := by rw [Int.emod_self]; rfl
        have Hnext := Lib.hid (show (l ++ [(m : Int)]) ++ pfL (m + 1) (rsN m m) = prV N by rw [← Hv.out, rsN_self QB.out]; unfold pfL; rw [facF_one (Nat.le_refl 1), facF_big Hm1.out hbig]; simp)
        have Hmeas := Lib.hid (show rsN m m = 1 from rsN_self QB.out)
        have hm0 : ¬ (m : Int) = 0 := by have := Hm1.out; omega
        clear hbig
        go_wp2_with (at_builtin; refine wpList_append_own _ rfl _ _ 48 rfl w.heap.size 3 i0 (.int .i64 0) 1 8 Tryz.underlying48 hi hz0 hz1 hz2 rfl (by decide) _ _ _ rfl (Hown.out.alloc _) ⟨wr.heap.size, 0, none⟩ 1 1 [.int .i64 (m : Int)] rfl rfl ?c1 ?c2 ?c3 ?c4 ?c5 ?_)
        case c1 =>
          intro j u hj
          match j, hj with
          | 0, hj => simp at hj; subst hj; exact (Blk.new wr _ _).cell 0
        case c2 => intro u hu; simp at hu; subst hu; rfl
        case c3 => have := Hll.out; unfold maxLen; omega
        case c4 => have := Hll.out; omega
        case c5 => have := Hb.out.size; simp; omega
        intro v6 w6 hown6 hgrow _
        have Hb6 := Lib.hid (Below.grown (bal Hb.out _) hgrow (by have := Hb.out.size; simp; omega) (fun j hj => (Hown.out.lt j hj).1))
        have Hown6 := Lib.hid (show w6.ownsRow w.heap.size 3 1 v6 (l ++ [(m : Int)]).length ((l ++ [(m : Int)]).map (Value.int .i64)) by rw [List.map_append, List.length_append]; exact hown6)
        clear hown6 hgrow
        go_wp2
        go_loop [0] (fun s => ∃ k : Nat, s = .int .i64 (k : Int) ∧ Hid (0 < k ∧ k ≤ 1000000000 ∧ rsN k m = rsN m m)) (fun s => (intOf s).toNat)
        case atStart => exact ⟨m, rfl, Lib.hid ⟨by have := Hm.out; omega, by have := Hm.out; omega, rfl⟩⟩
        case round =>
          obtain ⟨k, rfl, Hk⟩ := hrel
          have hk1 : (k : Int) ≤ 1000000000 := by have := Hk.out; omega
          have hk0 : (0 : Int) ≤ (k : Int) := by omega
          by_cases hd : k % m = 0
          · have hz : ((k : Int) % (m : Int) == 0) = true := by rw [← Int.natCast_emod, hd]; rfl
            have Hk2 := Lib.hid (show 0 < k / m ∧ k / m ≤ 1000000000 ∧ rsN (k / m) m = rsN m m from rs_next QB.out Hk.out hd)
            have Hlt := Lib.hid (Nat.div_lt_self Hk.out.1 QB.out)
            have Hdv := Lib.hid (show (k : Int) / (m : Int) = ((k / m : Nat) : Int) from rfl)
            have hq9 : 0 ≤ (k : Int) / (m : Int) ∧ (k : Int) / (m : Int) ≤ 1000000000 := by rw [Hdv.out]; have := Hk2.out; omega
            obtain ⟨hq7, hq8⟩ := hq9
            clear hd
            go_wp2
            go_round
            case rel => exact ⟨k / m, by first | rfl | rw [Hdv.out], Hk2⟩
            case measure => simp only [intOf]; have := Hlt.out; omega
          · have hz : ((k : Int) % (m : Int) == 0) = false := beq_eq_false_iff_ne.2 (by rw [← Int.natCast_emod]; omega)
            have Hend := Lib.hid (show k = rsN m m by rw [← Hk.out.2.2, rsN_no hd])
            clear hd
            go_wp2
            go_roundw
            case rel => exact ⟨k, m + 1, l ++ [(m : Int)], by first | rfl | go_num, by first | rfl | go_num, Lib.hid (by rw [Hend.out]; exact Hnext.out), Lib.hid (by have h1 := rsN_spec QB.out (show 0 < m by have := Hm.out; omega); have := Hm.out; have := Hend.out; have := QU.out; omega), Hown6, Hb6⟩
            case measure => simp only [intOf]; have h1 := rsN_spec QB.out (show 0 < m by have := Hm.out; omega); have := Hmeas.out; have := Hend.out; have := Hm1.out; exact ms_lt (by omega) (fun h9 => by omega)
      · have hd2 : decide ((m : Int) < (p : Int) * (p : Int)) = false := decide_eq_false (by rw [← Int.natCast_mul]; omega)
        have QB : Hid (2 ≤ p) := Lib.hid Hm.out.2.2.1
        have hlt := sq_lt9 hbig QB.out
        have QU : Hid (p ≤ N) := Lib.hid (by have := Hm.out; omega)
        have Hlt9 := Lib.hid hlt
        have hp0 : ¬ (p : Int) = 0 := by omega
        by_cases hdv : m % p = 0
        · have hy1 : ((m : Int) % (p : Int) == 0) = true := by rw [← Int.natCast_emod, hdv]; rfl
          have hvp : 0 < vlN m p := (vlN_pos QB.out (by have := Hm.out; omega)).2 hdv
          have Hnext := Lib.hid (show (l ++ [(p : Int)]) ++ pfL (p + 1) (rsN m p) = prV N by rw [← Hv.out]; unfold pfL; rw [facF_yes Hm1.out hbig hvp]; simp)
          have Hmeas := Lib.hid (show p < m from Hlt9.out)
          clear hbig hdv hvp hlt
          go_wp2_with (at_builtin; refine wpList_append_own _ rfl _ _ 48 rfl w.heap.size 3 i0 (.int .i64 0) 1 8 Tryz.underlying48 hi hz0 hz1 hz2 rfl (by decide) _ _ _ rfl (Hown.out.alloc _) ⟨wr.heap.size, 0, none⟩ 1 1 [.int .i64 (p : Int)] rfl rfl ?c1 ?c2 ?c3 ?c4 ?c5 ?_)
          case c1 =>
            intro j u hj
            match j, hj with
            | 0, hj => simp at hj; subst hj; exact (Blk.new wr _ _).cell 0
          case c2 => intro u hu; simp at hu; subst hu; rfl
          case c3 => have := Hll.out; unfold maxLen; omega
          case c4 => have := Hll.out; omega
          case c5 => have := Hb.out.size; simp; omega
          intro v6 w6 hown6 hgrow _
          have Hb6 := Lib.hid (Below.grown (bal Hb.out _) hgrow (by have := Hb.out.size; simp; omega) (fun j hj => (Hown.out.lt j hj).1))
          have Hown6 := Lib.hid (show w6.ownsRow w.heap.size 3 1 v6 (l ++ [(p : Int)]).length ((l ++ [(p : Int)]).map (Value.int .i64)) by rw [List.map_append, List.length_append]; exact hown6)
          clear hown6 hgrow
          go_wp2
          go_loop [0] (fun s => ∃ k : Nat, s = .int .i64 (k : Int) ∧ Hid (0 < k ∧ k ≤ 1000000000 ∧ rsN k p = rsN m p)) (fun s => (intOf s).toNat)
          case atStart => exact ⟨m, rfl, Lib.hid ⟨by have := Hm.out; omega, by have := Hm.out; omega, rfl⟩⟩
          case round =>
            obtain ⟨k, rfl, Hk⟩ := hrel
            have hk1 : (k : Int) ≤ 1000000000 := by have := Hk.out; omega
            have hk0 : (0 : Int) ≤ (k : Int) := by omega
            by_cases hd : k % p = 0
            · have hz : ((k : Int) % (p : Int) == 0) = true := by rw [← Int.natCast_emod, hd]; rfl
              have Hk2 := Lib.hid (show 0 < k / p ∧ k / p ≤ 1000000000 ∧ rsN (k / p) p = rsN m p from rs_next QB.out Hk.out hd)
              have Hlt := Lib.hid (Nat.div_lt_self Hk.out.1 QB.out)
              have Hdv := Lib.hid (show (k : Int) / (p : Int) = ((k / p : Nat) : Int) from rfl)
              have hq9 : 0 ≤ (k : Int) / (p : Int) ∧ (k : Int) / (p : Int) ≤ 1000000000 := by rw [Hdv.out]; have := Hk2.out; omega
              obtain ⟨hq7, hq8⟩ := hq9
              clear hd
              go_wp2
              go_round
              case rel => exact ⟨k / p, by first | rfl | rw [Hdv.out], Hk2⟩
              case measure => simp only [intOf]; have := Hlt.out; omega
            · have hz : ((k : Int) % (p : Int) == 0) = false := beq_eq_false_iff_ne.2 (by rw [← Int.natCast_emod]; omega)
              have Hend := Lib.hid (show k = rsN m p by rw [← Hk.out.2.2, rsN_no hd])
              clear hd
              go_wp2
              go_roundw
              case rel => exact ⟨k, p + 1, l ++ [(p : Int)], by first | rfl | go_num, by first | rfl | go_num, Lib.hid (by rw [Hend.out]; exact Hnext.out), Lib.hid (by have h1 := rsN_spec QB.out (show 0 < m by have := Hm.out; omega); have := Hm.out; have := Hend.out; have := QU.out; omega), Hown6, Hb6⟩
              case measure => simp only [intOf]; have h1 := rsN_spec QB.out (show 0 < m by have := Hm.out; omega); have := Hmeas.out; have := Hend.out; have := Hm1.out; exact ms_lt (by omega) (fun h9 => by omega)
        · have hy1 : ((m : Int) % (p : Int) == 0) = false := beq_eq_false_iff_ne.2 (by rw [← Int.natCast_emod]; omega)
          have Hno := Lib.hid (rsN_no hdv)
          have Hnext := Lib.hid (show l ++ pfL (p + 1) (rsN m p) = prV N by rw [← Hv.out, rsN_no hdv]; unfold pfL; rw [facF_no Hm1.out hbig (fun h => hdv ((vlN_pos QB.out (by have := Hm.out; omega)).1 h))])
          have Hmeas := Lib.hid (show p < m from Hlt9.out)
          clear hbig hdv hlt
          go_wp2
          go_loop [0] (fun s => ∃ k : Nat, s = .int .i64 (k : Int) ∧ Hid (0 < k ∧ k ≤ 1000000000 ∧ rsN k p = rsN m p)) (fun s => (intOf s).toNat)
          case atStart => exact ⟨m, rfl, Lib.hid ⟨by have := Hm.out; omega, by have := Hm.out; omega, rfl⟩⟩
          case round =>
            obtain ⟨k, rfl, Hk⟩ := hrel
            have hk1 : (k : Int) ≤ 1000000000 := by have := Hk.out; omega
            have hk0 : (0 : Int) ≤ (k : Int) := by omega
            by_cases hd : k % p = 0
            · have hz : ((k : Int) % (p : Int) == 0) = true := by rw [← Int.natCast_emod, hd]; rfl
              have Hk2 := Lib.hid (show 0 < k / p ∧ k / p ≤ 1000000000 ∧ rsN (k / p) p = rsN m p from rs_next QB.out Hk.out hd)
              have Hlt := Lib.hid (Nat.div_lt_self Hk.out.1 QB.out)
              have Hdv := Lib.hid (show (k : Int) / (p : Int) = ((k / p : Nat) : Int) from rfl)
              have hq9 : 0 ≤ (k : Int) / (p : Int) ∧ (k : Int) / (p : Int) ≤ 1000000000 := by rw [Hdv.out]; have := Hk2.out; omega
              obtain ⟨hq7, hq8⟩ := hq9
              clear hd
              go_wp2
              go_round
              case rel => exact ⟨k / p, by first | rfl | rw [Hdv.out], Hk2⟩
              case measure => simp only [intOf]; have := Hlt.out; omega
            · have hz : ((k : Int) % (p : Int) == 0) = false := beq_eq_false_iff_ne.2 (by rw [← Int.natCast_emod]; omega)
              have Hend := Lib.hid (show k = rsN m p by rw [← Hk.out.2.2, rsN_no hd])
              clear hd
              go_wp2
              go_roundw
              case rel => exact ⟨k, p + 1, l, by first | rfl | go_num, by first | rfl | go_num, Lib.hid (by rw [Hend.out]; exact Hnext.out), Lib.hid (by have h1 := rsN_spec QB.out (show 0 < m by have := Hm.out; omega); have := Hm.out; have := Hend.out; have := QU.out; omega), Hown, Hb⟩
              case measure => simp only [intOf]; have h1 := rsN_spec QB.out (show 0 < m by have := Hm.out; omega); have := Hmeas.out; have := Hend.out; have := Hm1.out; exact ms_lt (by omega) (fun h9 => by omega)
end
section
open Go Go.RowKit

def fcL (p n : Nat) : List (List Int) := (facF p n).map (fun x => [(x.1 : Int), (x.2 : Int)])
def fcV (n : Nat) : List (List Int) := fcL 2 n
theorem fc_len (n : Nat) : (fcV n).length ≤ n := by unfold fcV fcL; rw [List.length_map]; exact facF_len 2 n (by omega)
theorem vl_le {n q : Nat} (h2 : 2 ≤ q) (hn : 0 < n) : vlN n q ≤ n := by
  obtain ⟨h1, -, h3, -⟩ := rsN_spec h2 hn
  have h4 : 2 ^ vlN n q ≤ q ^ vlN n q := Nat.pow_le_pow_left h2 _
  have h5 : vlN n q < 2 ^ vlN n q := Nat.lt_two_pow_self
  have h6 : q ^ vlN n q ≤ q ^ vlN n q * rsN n q := Nat.le_mul_of_pos_right _ h3
  omega
theorem pw_next {k q r B j : Nat} (h2 : 2 ≤ q) (h : k = r * q ^ j ∧ 0 < k ∧ k ≤ B) (hj : 0 < j) : k / q = r * q ^ (j - 1) ∧ 0 < k / q ∧ k / q ≤ B := by
  obtain ⟨h1, h3, h4⟩ := h
  obtain ⟨i, rfl⟩ : ∃ i, j = i + 1 := ⟨j - 1, by omega⟩
  have e : k / q = r * q ^ i := by rw [h1, Nat.pow_succ, ← Nat.mul_assoc, Nat.mul_div_cancel _ (by omega)]
  refine ⟨by rw [e]; rfl, ?_, Nat.le_trans (Nat.div_le_self _ _) h4⟩
  rw [e]
  rcases Nat.eq_zero_or_pos (r * q ^ i) with h5 | h5
  · rw [Nat.pow_succ, ← Nat.mul_assoc, h5, Nat.zero_mul] at h1; omega
  · exact h5
set_option maxRecDepth 4000 in
set_option maxHeartbeats 8000000 in
theorem mdFactors_any (N : Nat) (w : World) (h0 : 0 < N) (ha : N ≤ 1000000000) :
    Calls Tryz.prog 91 #[.int .i64 (N : Int)] w fun e w' => (∃ v, e = .returned v ∧ NRd w' w'.heap.size v (fcV N)) ∧ Below w.heap.size w w' := by
  obtain ⟨i0, hi, hz0, hz1, hz2⟩ := info_parts infoSlI
  have HN := Lib.hid h0
  have Ha := Lib.hid ha
  have Hpl := Lib.hid (fc_len N)
  clear h0 ha
  go_enter Tryz.func91, Tryz.ntmps91
  go_wp2
  go_loopw [0, 3, 4] (fun s t u wr => ∃ (m p : Nat) (l : List (List Int)) (vs : List Value), s = .int .i64 (m : Int) ∧ u = .int .i64 (p : Int) ∧ Hid (l ++ fcL p m = fcV N) ∧ Hid (0 < m ∧ m ≤ N ∧ 2 ≤ p ∧ p ≤ N + 2) ∧ Hid (NOwn wr 48 3 w.heap.size wr.heap.size t vs (cellsII l)) ∧ Hid (Below w.heap.size w wr)) (fun s _ u _ => if intOf s ≤ 1 then 0 else 1 + (intOf s - intOf u).toNat)
  case atStart => exact ⟨N, 2, [], [], rfl, rfl, Lib.hid rfl, Lib.hid ⟨HN.out, Nat.le_refl _, by omega, by omega⟩, Lib.hid (NOwn.nil w _ _ _ _), Lib.hid (Below.refl _ _)⟩
  case round =>
    obtain ⟨m, p, l, vs, rfl, rfl, Hv, Hm, Hn, Hb⟩ := hrel
    have Hll := Lib.hid (show l.length ≤ 1000000000 by have h1 := Hpl.out; rw [← Hv.out, List.length_append] at h1; have := Ha.out; omega)
    by_cases hm1 : m ≤ 1
    · have hd : decide ((1 : Int) < (m : Int)) = false := decide_eq_false (by omega)
      have Hend := Lib.hid (show l = fcV N by rw [← Hv.out]; unfold fcL; rw [facF_one hm1]; simp)
      clear hm1
      go_wp2
      go_ret
      exact ⟨⟨_, rfl, by rw [← Hend.out]; exact NRd.of_own Hn.out⟩, Hb.out⟩
    · have hd : decide ((1 : Int) < (m : Int)) = true := decide_eq_true (by omega)
      have hmb : (0 : Int) ≤ (m : Int) ∧ (m : Int) ≤ 1000000000 := by have := Hm.out; have := Ha.out; omega
      obtain ⟨m1, m2⟩ := hmb
      have hpb : (2 : Int) ≤ (p : Int) ∧ (p : Int) ≤ 1000000002 := by have := Hm.out; have := Ha.out; omega
      obtain ⟨p1, p2⟩ := hpb
      have hpp : 0 ≤ (p : Int) * (p : Int) ∧ (p : Int) * (p : Int) ≤ 1000000004000000004 := ⟨Int.mul_nonneg (by omega) (by omega), (mul_bd (p : Int) p 1000000002 1000000002 (by omega) p2 (by omega) p2).2⟩
      obtain ⟨s1, s2⟩ := hpp
      have Hm1 := Lib.hid hm1; clear hm1
      by_cases hbig : m < p * p
      · have hd2 : decide ((m : Int) < (p : Int) * (p : Int)) = true := decide_eq_true (by rw [← Int.natCast_mul]; omega)
        have QB : Hid (2 ≤ m) := Lib.hid (by have := Hm1.out; omega)
        have QU : Hid (m ≤ N) := Lib.hid Hm.out.2.1
        have Hnext := Lib.hid (show (l ++ [[(m : Int), ((vlN m m : Nat) : Int)]]) ++ fcL (m + 1) (rsN m m) = fcV N by rw [← Hv.out, rsN_self QB.out, vlN_self QB.out]; unfold fcL; rw [facF_one (Nat.le_refl 1), facF_big Hm1.out hbig]; simp)
        have Hmeas := Lib.hid (show rsN m m = 1 from rsN_self QB.out)
        have hm0 : ¬ (m : Int) = 0 := by have := Hm1.out; omega
        have Hvp := Lib.hid (show 0 < vlN m m by rw [vlN_self QB.out]; omega)
        have Hvl := Lib.hid (show vlN m m ≤ 1000000000 by have h1 := vl_le QB.out (show 0 < m by have := Hm1.out; omega); have := Hm.out; have := Ha.out; omega)
        clear hbig
        have Hcall := Lib.hid (fun w9 => val_any (m : Int) m w9 (by have := Hm1.out; omega) (by have := Hm.out; have := Ha.out; omega) QB.out (by have := QU.out; have := Ha.out; omega))
        rw [Int.natAbs_natCast] at Hcall
        go_wp2_with fail
        refine (Hcall.out _).mono ?_; rintro e w5 ⟨rfl, hb5⟩
        have Hn5 := Lib.hid (Hn.out.on hb5); have Hb5 := Lib.hid (bthen Hb.out hb5); have Hn5b := Lib.hid (Hn5.out.more hb5.size)
        clear hb5 Hcall
        have hvd : decide ((0 : Int) < ((vlN m m : Nat) : Int)) = true := decide_eq_true (by have := Hvp.out; omega)
        have hvp9 : 0 < vlN m m := Hvp.out
        have Hval := Lib.hid (rfl : vlN m m = vlN m m)
        have Hout := Lib.hid Hn5.out.out
        have hszw : w.heap.size ≤ w5.heap.size := Hb5.out.size
        go_wp2_with (at_builtin; refine wpList_append_own_at _ rfl _ _ 89 rfl w.heap.size 48 i0 (.slice none 0 0) 1 24 Tryz.underlying89 hi hz0 hz1 hz2 rfl (by decide) _ _ _ rfl ((Hout.out.alloc _).alloc _) ⟨w5.heap.size + 1, 0, none⟩ 1 1 [.slice (some ⟨w5.heap.size, 0, none⟩) 2 2] rfl rfl ?c1 ?c2 ?c3 ?c4 ?c5 ?_)
        try
          case c1 =>
            intro j u hj
            match j, hj with
            | 0, hj => simp at hj; subst hj; exact (Blk.new1 w5 _ _ _).cell 0
        case c2 => first | rfl | (intro u hu; simp at hu; subst hu; rfl)
        case c3 => have := Hll.out; rw [lenII]; unfold maxLen; omega
        case c4 => have := Hll.out; rw [lenII]; omega
        case c5 => first | omega | (simp; omega)
        intro v8 w8 hown8 hg8 _ hat8
        have hbA := bal (bal (Below.refl w5.heap.size w5) (Obj.cells #[.int .i64 (m : Int), .int .i64 ((vlN m m : Nat) : Int)] 3)) (Obj.cells #[.slice (some ⟨w5.heap.size, 0, none⟩) 2 2] 48)
        have hin : ((w5.alloc (Obj.cells #[.int .i64 (m : Int), .int .i64 ((vlN m m : Nat) : Int)] 3)).alloc (Obj.cells #[.slice (some ⟨w5.heap.size, 0, none⟩) 2 2] 48)).ownsRow w.heap.size 3 1 (.slice (some ⟨w5.heap.size, 0, none⟩) 2 2) [Value.int .i64 (m : Int), Value.int .i64 ((vlN m m : Nat) : Int)].length [Value.int .i64 (m : Int), Value.int .i64 ((vlN m m : Nat) : Int)] := (World.ownsRow_lit w5 #[.int .i64 (m : Int), .int .i64 ((vlN m m : Nat) : Int)] 2 hszw (by unfold maxLen; omega) (by simp)).alloc _
        have hn8 := NOwn.snoc (Hn5b.out.on hbA) hg8 hown8 (by simpa only [World.size_alloc] using hat8) hin (fun g hg => by simp [Value.ownBlock] at hg; subst hg; constructor <;> (simp; try omega)) (by simp; omega)
        have Hn8 := Lib.hid (show NOwn w8 48 3 w.heap.size w8.heap.size v8 _ (cellsII (l ++ [[(m : Int), ((vlN m m : Nat) : Int)]])) by unfold cellsII; rw [List.map_append]; exact hn8)
        have Hb8 := Lib.hid (show Below w.heap.size w w8 from Below.grown ((Hb5.out.alloc hszw _).alloc (by simp; omega) _) hg8 (by simp; omega) (fun j hj => (Hout.out.lt j hj).1))
        clear hown8 hg8 hat8 hin hbA hn8
        go_wp2
        go_loop [0, 5] (fun s t => ∃ k j : Nat, s = .int .i64 (k : Int) ∧ t = .int .i64 (j : Int) ∧ Hid (k = rsN m m * m ^ j ∧ 0 < k ∧ k ≤ 1000000000) ∧ j ≤ 1000000000) (fun _ t => (intOf t).toNat)
        case atStart => exact ⟨m, vlN m m, rfl, by first | rfl | rw [Hval.out], Lib.hid ⟨by have h1 := (rsN_spec QB.out (show 0 < m by have := Hm.out; omega)).1; rw [Nat.mul_comm]; exact h1, by have := Hm.out; omega, by have := Hm.out; have := Ha.out; omega⟩, by have := Hvl.out; omega⟩
        case round =>
          obtain ⟨k, j, rfl, rfl, Hk, hj⟩ := hrel
          have hk1 : (k : Int) ≤ 1000000000 := by have := Hk.out; omega
          have hk0 : (0 : Int) ≤ (k : Int) := by omega
          rcases Nat.eq_zero_or_pos j with h0 | h0
          · subst h0
            have Hend := Lib.hid (show k = rsN m m by have h1 := Hk.out.1; rw [Nat.pow_zero, Nat.mul_one] at h1; exact h1)
            go_wp2
            go_roundw
            case rel => exact ⟨k, m + 1, l ++ [[(m : Int), ((vlN m m : Nat) : Int)]], _, by first | rfl | go_num, by first | rfl | go_num, Lib.hid (by rw [Hend.out]; exact Hnext.out), Lib.hid (by have h1 := rsN_spec QB.out (show 0 < m by have := Hm.out; omega); have := Hm.out; have := Hend.out; have := QU.out; omega), Hn8, Hb8⟩
            case measure => simp only [intOf]; have h1 := rsN_spec QB.out (show 0 < m by have := Hm.out; omega); have := Hmeas.out; have := Hend.out; have := Hm1.out; exact ms_lt (by omega) (fun h9 => by omega)
          · have hd9 : decide ((0 : Int) < (j : Int)) = true := decide_eq_true (by omega)
            have Hk2 := Lib.hid (show k / m = rsN m m * m ^ (j - 1) ∧ 0 < k / m ∧ k / m ≤ 1000000000 from pw_next QB.out Hk.out h0)
            have Hdv := Lib.hid (show (k : Int) / (m : Int) = ((k / m : Nat) : Int) from rfl)
            have hq9 : 0 ≤ (k : Int) / (m : Int) ∧ (k : Int) / (m : Int) ≤ 1000000000 := by rw [Hdv.out]; have := Hk2.out; omega
            obtain ⟨hq7, hq8⟩ := hq9
            go_wp2
            go_round
            case rel => exact ⟨k / m, j - 1, by first | rfl | rw [Hdv.out], by go_num, Hk2, by omega⟩
            case measure => simp [intOf]; omega
      · have hd2 : decide ((m : Int) < (p : Int) * (p : Int)) = false := decide_eq_false (by rw [← Int.natCast_mul]; omega)
        have QB : Hid (2 ≤ p) := Lib.hid Hm.out.2.2.1
        have hlt := sq_lt9 hbig QB.out
        have QU : Hid (p ≤ N) := Lib.hid (by have := Hm.out; omega)
        have Hlt9 := Lib.hid hlt
        have hp0 : ¬ (p : Int) = 0 := by omega
        have Hvl := Lib.hid (show vlN m p ≤ 1000000000 by have h1 := vl_le QB.out (show 0 < m by have := Hm1.out; omega); have := Hm.out; have := Ha.out; omega)
        have Hmeas := Lib.hid (show p < m from Hlt9.out)
        have Hcall := Lib.hid (fun w9 => val_any (m : Int) p w9 (by have := Hm1.out; omega) (by have := Hm.out; have := Ha.out; omega) QB.out (by have := QU.out; have := Ha.out; omega))
        rw [Int.natAbs_natCast] at Hcall
        go_wp2_with fail
        refine (Hcall.out _).mono ?_; rintro e w5 ⟨rfl, hb5⟩
        have Hn5 := Lib.hid (Hn.out.on hb5); have Hb5 := Lib.hid (bthen Hb.out hb5); have Hn5b := Lib.hid (Hn5.out.more hb5.size)
        clear hb5 Hcall
        by_cases hdv : 0 < vlN m p
        · have hvd : decide ((0 : Int) < ((vlN m p : Nat) : Int)) = true := decide_eq_true (by omega)
          have Hnext := Lib.hid (show (l ++ [[(p : Int), ((vlN m p : Nat) : Int)]]) ++ fcL (p + 1) (rsN m p) = fcV N by rw [← Hv.out]; unfold fcL; rw [facF_yes Hm1.out hbig hdv]; simp)
          have Hval := Lib.hid (rfl : vlN m p = vlN m p)
          clear hbig hlt
          have Hout := Lib.hid Hn5.out.out
          have hszw : w.heap.size ≤ w5.heap.size := Hb5.out.size
          go_wp2_with (at_builtin; refine wpList_append_own_at _ rfl _ _ 89 rfl w.heap.size 48 i0 (.slice none 0 0) 1 24 Tryz.underlying89 hi hz0 hz1 hz2 rfl (by decide) _ _ _ rfl ((Hout.out.alloc _).alloc _) ⟨w5.heap.size + 1, 0, none⟩ 1 1 [.slice (some ⟨w5.heap.size, 0, none⟩) 2 2] rfl rfl ?c1 ?c2 ?c3 ?c4 ?c5 ?_)
          try
            case c1 =>
              intro j u hj
              match j, hj with
              | 0, hj => simp at hj; subst hj; exact (Blk.new1 w5 _ _ _).cell 0
          case c2 => first | rfl | (intro u hu; simp at hu; subst hu; rfl)
          case c3 => have := Hll.out; rw [lenII]; unfold maxLen; omega
          case c4 => have := Hll.out; rw [lenII]; omega
          case c5 => first | omega | (simp; omega)
          intro v8 w8 hown8 hg8 _ hat8
          have hbA := bal (bal (Below.refl w5.heap.size w5) (Obj.cells #[.int .i64 (p : Int), .int .i64 ((vlN m p : Nat) : Int)] 3)) (Obj.cells #[.slice (some ⟨w5.heap.size, 0, none⟩) 2 2] 48)
          have hin : ((w5.alloc (Obj.cells #[.int .i64 (p : Int), .int .i64 ((vlN m p : Nat) : Int)] 3)).alloc (Obj.cells #[.slice (some ⟨w5.heap.size, 0, none⟩) 2 2] 48)).ownsRow w.heap.size 3 1 (.slice (some ⟨w5.heap.size, 0, none⟩) 2 2) [Value.int .i64 (p : Int), Value.int .i64 ((vlN m p : Nat) : Int)].length [Value.int .i64 (p : Int), Value.int .i64 ((vlN m p : Nat) : Int)] := (World.ownsRow_lit w5 #[.int .i64 (p : Int), .int .i64 ((vlN m p : Nat) : Int)] 2 hszw (by unfold maxLen; omega) (by simp)).alloc _
          have hn8 := NOwn.snoc (Hn5b.out.on hbA) hg8 hown8 (by simpa only [World.size_alloc] using hat8) hin (fun g hg => by simp [Value.ownBlock] at hg; subst hg; constructor <;> (simp; try omega)) (by simp; omega)
          have Hn8 := Lib.hid (show NOwn w8 48 3 w.heap.size w8.heap.size v8 _ (cellsII (l ++ [[(p : Int), ((vlN m p : Nat) : Int)]])) by unfold cellsII; rw [List.map_append]; exact hn8)
          have Hb8 := Lib.hid (show Below w.heap.size w w8 from Below.grown ((Hb5.out.alloc hszw _).alloc (by simp; omega) _) hg8 (by simp; omega) (fun j hj => (Hout.out.lt j hj).1))
          clear hown8 hg8 hat8 hin hbA hn8
          go_wp2
          go_loop [0, 5] (fun s t => ∃ k j : Nat, s = .int .i64 (k : Int) ∧ t = .int .i64 (j : Int) ∧ Hid (k = rsN m p * p ^ j ∧ 0 < k ∧ k ≤ 1000000000) ∧ j ≤ 1000000000) (fun _ t => (intOf t).toNat)
          case atStart => exact ⟨m, vlN m p, rfl, by first | rfl | rw [Hval.out], Lib.hid ⟨by have h1 := (rsN_spec QB.out (show 0 < m by have := Hm.out; omega)).1; rw [Nat.mul_comm]; exact h1, by have := Hm.out; omega, by have := Hm.out; have := Ha.out; omega⟩, by have := Hvl.out; omega⟩
          case round =>
            obtain ⟨k, j, rfl, rfl, Hk, hj⟩ := hrel
            have hk1 : (k : Int) ≤ 1000000000 := by have := Hk.out; omega
            have hk0 : (0 : Int) ≤ (k : Int) := by omega
            rcases Nat.eq_zero_or_pos j with h0 | h0
            · subst h0
              have Hend := Lib.hid (show k = rsN m p by have h1 := Hk.out.1; rw [Nat.pow_zero, Nat.mul_one] at h1; exact h1)
              go_wp2
              go_roundw
              case rel => exact ⟨k, p + 1, l ++ [[(p : Int), ((vlN m p : Nat) : Int)]], _, by first | rfl | go_num, by first | rfl | go_num, Lib.hid (by rw [Hend.out]; exact Hnext.out), Lib.hid (by have h1 := rsN_spec QB.out (show 0 < m by have := Hm.out; omega); have := Hm.out; have := Hend.out; have := QU.out; omega), Hn8, Hb8⟩
              case measure => simp only [intOf]; have h1 := rsN_spec QB.out (show 0 < m by have := Hm.out; omega); have := Hmeas.out; have := Hend.out; have := Hm1.out; exact ms_lt (by omega) (fun h9 => by omega)
            · have hd9 : decide ((0 : Int) < (j : Int)) = true := decide_eq_true (by omega)
              have Hk2 := Lib.hid (show k / p = rsN m p * p ^ (j - 1) ∧ 0 < k / p ∧ k / p ≤ 1000000000 from pw_next QB.out Hk.out h0)
              have Hdv := Lib.hid (show (k : Int) / (p : Int) = ((k / p : Nat) : Int) from rfl)
              have hq9 : 0 ≤ (k : Int) / (p : Int) ∧ (k : Int) / (p : Int) ≤ 1000000000 := by rw [Hdv.out]; have := Hk2.out; omega
              obtain ⟨hq7, hq8⟩ := hq9
              go_wp2
              go_round
              case rel => exact ⟨k / p, j - 1, by first | rfl | rw [Hdv.out], by go_num, Hk2, by omega⟩
              case measure => simp [intOf]; omega
        · have hvd : decide ((0 : Int) < ((vlN m p : Nat) : Int)) = false := decide_eq_false (by omega)
          have Hnext := Lib.hid (show l ++ fcL (p + 1) m = fcV N by rw [← Hv.out]; unfold fcL; rw [facF_no Hm1.out hbig hdv])
          clear hbig hlt
          go_wp2
          go_roundw
          case rel => exact ⟨m, p + 1, l, vs, rfl, by go_num, Hnext, Lib.hid (by have := Hm.out; have := QU.out; omega), Hn5b, Hb5⟩
          case measure => simp only [intOf]; have := Hmeas.out; have := Hm1.out; exact ms_lt (by omega) (fun h9 => by omega)
end
end Go.Proofs.YthdfpfhkmfmnbaaGreat
