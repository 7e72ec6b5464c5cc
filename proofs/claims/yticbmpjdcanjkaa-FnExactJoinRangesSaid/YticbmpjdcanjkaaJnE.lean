/- Lists of ints compared; the two closures over such a list; slices.IndexFunc and ContainsFunc at slices of slices. Conditions: none. Printed by gen_jn.py. -/
import Derived.Test.YticbmpjdcanjkaaJnL
import Derived.Test.YticbmpjdcanjkaaTaskE
import Derived.Test.YticbmpjdcanjkaaSIntSS
import Derived.Shelf.Abstract
namespace Go.Proofs.Yticbmpjdcanjkaa
open Go Go.RowKit

set_option maxRecDepth 8000 in
set_option maxHeartbeats 4000000 in
theorem equalI_any (u v : Value) (es fs : List Int) (w : World) (hu : Rd inS w w.heap.size u es) (hv : Rd inS w w.heap.size v fs) :
    Calls Try.prog 28 #[u, v] w fun r w' => r = .returned (.bool (decide (es = fs))) ∧ Below w.heap.size w w' := by
  obtain ⟨A, c, rfl, hc, hm, hA⟩ := hu
  obtain ⟨A', c', rfl, hc', hm', hA'⟩ := hv
  unfold maxLen at hm hm'
  by_cases hlen : es.length = fs.length
  · have hne : ((es.length : Int) != (fs.length : Int)) = false := by simp [hlen]
    rcases Nat.eq_zero_or_pos es.length with h0 | h0
    · obtain rfl : es = [] := List.eq_nil_of_length_eq_zero h0
      obtain rfl : fs = [] := List.eq_nil_of_length_eq_zero (by rw [← hlen]; exact h0)
      clear hA hA' hlen hne
      go_enter Try.func28, Try.ntmps28
      go_wp2
      refine wp_loop_rounds 1 ?_
      rw [rounds_succ]
      go_wp2
      go_ret
      exact ⟨rfl, by (repeat (with_reducible first | exact Below.refl _ _ | assumption | refine bal ?_ _ | refine bst ?_ (by simp <;> omega) _ | refine Below.drew ?_ | refine bthen ?_ (by assumption)))⟩
    · obtain ⟨g, off, rfl, hg, hcell⟩ := hA h0
      obtain ⟨g', off', rfl, hg', hcell'⟩ := hA' (by omega)
      clear hA hA'
      have hcell := in_cells hcell
      have hcell' := in_cells hcell'
      rw [← hlen] at hcell' hc'
      have Hlen := Lib.hid hlen
      rw [← hlen]
      clear hlen hne
      go_enter Try.func28, Try.ntmps28
      go_wp2
      go_loopw [13] (fun i wr => ∃ k : Nat, k ≤ es.length ∧ i = .int .i64 k ∧ Hid (es.take k = fs.take k) ∧ Below w.heap.size w wr) (fun i _ => es.length - (intOf i).toNat)
      case atStart => exact ⟨0, Nat.zero_le _, rfl, Lib.hid (by simp), Below.refl _ _⟩
      case round =>
        obtain ⟨k, hk, rfl, Heq, hb⟩ := hrel
        by_cases hlt : k < es.length
        · have f0 := hcell k hlt
          have p0 := hcell' k hlt
          rw [← hb.cell (p := ⟨_, _, _⟩) hg] at f0
          rw [← hb.cell (p := ⟨_, _, _⟩) hg'] at p0
          obtain ⟨x, hx⟩ : ∃ e, inS.get es k = e := ⟨_, rfl⟩
          obtain ⟨y, hy⟩ : ∃ e, inS.get fs k = e := ⟨_, rfl⟩
          rw [hx] at f0
          rw [hy] at p0
          have Hx := Lib.hid hx; have Hy := Lib.hid hy
          have hgr : g < wr.heap.size := Nat.lt_of_lt_of_le hg hb.size
          have hgr' : g' < wr.heap.size := Nat.lt_of_lt_of_le hg' hb.size
          have hi0 : (0 : Int) ≤ (k : Int) := by omega
          have hi1 : (k : Int) < (es.length : Int) := by omega
          clear hcell hcell' hx hy
          by_cases hd : x = y
          · have hnn : (x != y) = false := by simp [hd]
            have Hnext := Lib.hid (show es.take (k + 1) = fs.take (k + 1) by rw [take_get (S := inS) hlt, take_get (S := inS) (by have := Hlen.out; omega), Heq.out, Hx.out, Hy.out, hd])
            clear hd
            go_wp2
            refine wp_region_tame (by kernel_rfl) (by kernel_rfl) (fun T _ W hT => ?_)
            have hz := hT.cell
            repeat (go_big_quiet_step (fail))
            refine wpQuiet_nil ?_
            intro t
            clear hz
            go_wp2
            go_roundw
            case rel => exact ⟨k + 1, by omega, by go_num, Hnext, bthen hb (hT.below t)⟩
            case measure => simp [intOf]; omega
          · have hnn : (x != y) = true := by simp [hd]
            have Hno := Lib.hid (show decide (es = fs) = false from decide_eq_false (fun e => hd (by rw [← Hx.out, ← Hy.out, e])))
            clear hd
            go_wp2
            refine wp_region_tame (by kernel_rfl) (by kernel_rfl) (fun T _ W hT => ?_)
            have hz := hT.cell
            repeat (go_big_quiet_step (fail))
            refine wpQuiet_nil ?_
            intro t
            clear hz
            go_wp2
            go_ret
            exact ⟨ret_bool Hno.out.symm, bthen hb (hT.below t)⟩
        · obtain rfl : k = es.length := by omega
          have Hyes := Lib.hid (show decide (es = fs) = true from decide_eq_true (by have h := Heq.out; rw [List.take_length, Hlen.out, List.take_length] at h; exact h))
          clear hcell hcell'
          go_wp2
          go_ret
          exact ⟨ret_bool Hyes.out.symm, hb⟩
  · have hne : ((es.length : Int) != (fs.length : Int)) = true := by simp; omega
    have Hno := Lib.hid (show decide (es = fs) = false from decide_eq_false (fun e => hlen (by rw [e])))
    clear hA hA'
    have Hlen := Lib.hid hlen; clear hlen
    go_enter Try.func28, Try.ntmps28
    go_wp2
    go_ret
    exact ⟨ret_bool Hno.out.symm, by (repeat (with_reducible first | exact Below.refl _ _ | assumption | refine bal ?_ _ | refine bst ?_ (by simp <;> omega) _ | refine Below.drew ?_ | refine bthen ?_ (by assumption)))⟩
set_option maxRecDepth 8000 in
set_option maxHeartbeats 4000000 in
theorem l1Same_any (u v : Value) (es fs : List Int) (w : World) (hu : Rd inS w w.heap.size u es) (hv : Rd inS w w.heap.size v fs) :
    Calls Try.prog 55 #[u, v] w fun r w' => r = .returned (.bool (decide (es = fs))) ∧ Below w.heap.size w w' := by
  obtain ⟨A, c, rfl, hc, hm, hA⟩ := hu
  obtain ⟨A', c', rfl, hc', hm', hA'⟩ := hv
  unfold maxLen at hm hm'
  by_cases hlen : es.length = fs.length
  · have hne : ((es.length : Int) != (fs.length : Int)) = false := by simp [hlen]
    rcases Nat.eq_zero_or_pos es.length with h0 | h0
    · obtain rfl : es = [] := List.eq_nil_of_length_eq_zero h0
      obtain rfl : fs = [] := List.eq_nil_of_length_eq_zero (by rw [← hlen]; exact h0)
      clear hA hA' hlen hne
      go_enter Try.func55, Try.ntmps55
      go_wp2
      refine wp_loop_rounds 1 ?_
      rw [rounds_succ]
      go_wp2
      go_ret
      exact ⟨rfl, by (repeat (with_reducible first | exact Below.refl _ _ | assumption | refine bal ?_ _ | refine bst ?_ (by simp <;> omega) _ | refine Below.drew ?_ | refine bthen ?_ (by assumption)))⟩
    · obtain ⟨g, off, rfl, hg, hcell⟩ := hA h0
      obtain ⟨g', off', rfl, hg', hcell'⟩ := hA' (by omega)
      clear hA hA'
      have hcell := in_cells hcell
      have hcell' := in_cells hcell'
      rw [← hlen] at hcell' hc'
      have Hlen := Lib.hid hlen
      rw [← hlen]
      clear hlen hne
      go_enter Try.func55, Try.ntmps55
      go_wp2
      go_loopw [13] (fun i wr => ∃ k : Nat, k ≤ es.length ∧ i = .int .i64 k ∧ Hid (es.take k = fs.take k) ∧ Below w.heap.size w wr) (fun i _ => es.length - (intOf i).toNat)
      case atStart => exact ⟨0, Nat.zero_le _, rfl, Lib.hid (by simp), Below.refl _ _⟩
      case round =>
        obtain ⟨k, hk, rfl, Heq, hb⟩ := hrel
        by_cases hlt : k < es.length
        · have f0 := hcell k hlt
          have p0 := hcell' k hlt
          rw [← hb.cell (p := ⟨_, _, _⟩) hg] at f0
          rw [← hb.cell (p := ⟨_, _, _⟩) hg'] at p0
          obtain ⟨x, hx⟩ : ∃ e, inS.get es k = e := ⟨_, rfl⟩
          obtain ⟨y, hy⟩ : ∃ e, inS.get fs k = e := ⟨_, rfl⟩
          rw [hx] at f0
          rw [hy] at p0
          have Hx := Lib.hid hx; have Hy := Lib.hid hy
          have hgr : g < wr.heap.size := Nat.lt_of_lt_of_le hg hb.size
          have hgr' : g' < wr.heap.size := Nat.lt_of_lt_of_le hg' hb.size
          have hi0 : (0 : Int) ≤ (k : Int) := by omega
          have hi1 : (k : Int) < (es.length : Int) := by omega
          clear hcell hcell' hx hy
          by_cases hd : x = y
          · have hnn : (x != y) = false := by simp [hd]
            have Hnext := Lib.hid (show es.take (k + 1) = fs.take (k + 1) by rw [take_get (S := inS) hlt, take_get (S := inS) (by have := Hlen.out; omega), Heq.out, Hx.out, Hy.out, hd])
            clear hd
            go_wp2
            refine wp_region_tame (by kernel_rfl) (by kernel_rfl) (fun T _ W hT => ?_)
            have hz := hT.cell
            repeat (go_big_quiet_step (fail))
            refine wpQuiet_nil ?_
            intro t
            clear hz
            go_wp2
            go_roundw
            case rel => exact ⟨k + 1, by omega, by go_num, Hnext, bthen hb (hT.below t)⟩
            case measure => simp [intOf]; omega
          · have hnn : (x != y) = true := by simp [hd]
            have Hno := Lib.hid (show decide (es = fs) = false from decide_eq_false (fun e => hd (by rw [← Hx.out, ← Hy.out, e])))
            clear hd
            go_wp2
            refine wp_region_tame (by kernel_rfl) (by kernel_rfl) (fun T _ W hT => ?_)
            have hz := hT.cell
            repeat (go_big_quiet_step (fail))
            refine wpQuiet_nil ?_
            intro t
            clear hz
            go_wp2
            go_ret
            exact ⟨ret_bool Hno.out.symm, bthen hb (hT.below t)⟩
        · obtain rfl : k = es.length := by omega
          have Hyes := Lib.hid (show decide (es = fs) = true from decide_eq_true (by have h := Heq.out; rw [List.take_length, Hlen.out, List.take_length] at h; exact h))
          clear hcell hcell'
          go_wp2
          go_ret
          exact ⟨ret_bool Hyes.out.symm, hb⟩
  · have hne : ((es.length : Int) != (fs.length : Int)) = true := by simp; omega
    have Hno := Lib.hid (show decide (es = fs) = false from decide_eq_false (fun e => hlen (by rw [e])))
    clear hA hA'
    have Hlen := Lib.hid hlen; clear hlen
    go_enter Try.func55, Try.ntmps55
    go_wp2
    go_ret
    exact ⟨ret_bool Hno.out.symm, by (repeat (with_reducible first | exact Below.refl _ _ | assumption | refine bal ?_ _ | refine bst ?_ (by simp <;> omega) _ | refine Below.drew ?_ | refine bthen ?_ (by assumption)))⟩
set_option maxHeartbeats 800000 in
theorem areSome1_any (gc : Nat) (u s : Value) (es ss : List Int) (w : World) (hg : w.cell? ⟨gc, 0, none⟩ = some s) (hu : Rd inS w w.heap.size u es) (hs : Rd inS w w.heap.size s ss) :
    Calls Try.prog 49 #[u, .pointer (some ⟨gc, 0, none⟩)] w fun r w' => r = .returned (.bool (decide (es = ss))) ∧ Below w.heap.size w w' := by
  have hlt := World.block_lt_of_cell? w _ hg
  have Hx := Lib.hid (equalI_any _ _ es ss _ hu hs)
  clear hu hs
  go_enter Try.func49, Try.ntmps49
  go_wp2_with fail
  refine Hx.out.mono ?_; rintro r w1 ⟨rfl, hb⟩
  go_wp2
  go_ret
  exact ⟨rfl, hb⟩
set_option maxHeartbeats 800000 in
theorem join1_any (gc : Nat) (u s : Value) (es ss : List Int) (w : World) (hg : w.cell? ⟨gc, 0, none⟩ = some s) (hu : Rd inS w w.heap.size u es) (hs : Rd inS w w.heap.size s ss) :
    Calls Try.prog 27 #[u, .pointer (some ⟨gc, 0, none⟩)] w fun r w' => r = .returned (.bool (decide (es = ss))) ∧ Below w.heap.size w w' := by
  have hlt := World.block_lt_of_cell? w _ hg
  have Hx := Lib.hid (equalI_any _ _ ss es _ hs hu)
  clear hu hs
  go_enter Try.func27, Try.ntmps27
  go_wp2_with fail
  refine Hx.out.mono ?_; rintro r w1 ⟨rfl, hb⟩
  go_wp2
  go_ret
  exact ⟨ret_bool (by rw [decide_eq_decide]; exact eq_comm), hb⟩
theorem enAS : ∀ args w, (callFunc 49 args).run Try.prog w = .ok (.enter 49 args) w := enters_of Try.func49 (by kernel_rfl) rfl
theorem enJR : ∀ args w, (callFunc 27 args).run Try.prog w = .ok (.enter 27 args) w := enters_of Try.func27 (by kernel_rfl) rfl
theorem rd_form2 {w : World} {hi : Nat} {v : Value} {es : List Int} (h : Rd inS w hi v es) : ∃ A c, v = .slice A es.length c ∧ es.length ≤ 9223372036854775807 := by
  obtain ⟨A, c, rfl, hc, hm, -⟩ := h
  unfold maxLen at hm
  exact ⟨A, c, rfl, by omega⟩
/-- A closure over one list: it says of a list whether it is that one, whatever of the worlds behind w. -/
def IsOne (K : FuncId) (gc : Nat) (r : List Int) (w : World) : Prop :=
  ∀ (W : World) (u : Value) (es : List Int), Below w.heap.size w W → Rd inS W W.heap.size u es → Calls Try.prog K #[u, .pointer (some ⟨gc, 0, none⟩)] W fun e w' => e = .returned (.bool (decide (es = r))) ∧ Below W.heap.size W w'
theorem not_take_succ {R : List LI} {r : LI} {k : Nat} (hk : k < R.length) (h : r ∉ R.take k) (hn : cat' R k ≠ r) : r ∉ R.take (k + 1) := by
  rw [List.take_succ_eq_append_getElem hk, ← cat_get hk]
  intro hm
  rcases List.mem_append.1 hm with hm | hm
  · exact h hm
  · simp only [List.mem_singleton] at hm; exact hn hm.symm
theorem cat_mem {R : List LI} {k : Nat} (hk : k < R.length) : cat' R k ∈ R := by rw [cat_get hk]; exact List.getElem_mem hk
set_option maxRecDepth 8000 in
set_option maxHeartbeats 1600000 in
theorem indexII (K : FuncId) (eg : ∀ args w, (callFunc K args).run Try.prog w = .ok (.enter K args) w) (gc : Nat) (r : List Int) (v : Value) (ess : List (List Int)) (w : World) (h : NRd w w.heap.size v ess) (hK : IsOne K gc r w) :
    Calls Try.prog 50 #[v, .func (Fn.func K) #[] #[.pointer (some ⟨gc, 0, none⟩)]] w fun e w' =>
      (∃ q : Int, e = .returned (.int .i64 q) ∧ (r ∈ ess ∧ 0 ≤ q ∨ r ∉ ess ∧ q = -1)) ∧ Below w.heap.size w w' := by
  obtain ⟨vs, hvl, hv, hvi⟩ := h
  obtain ⟨A, c, rfl, hcc, hm, hA⟩ := hv
  rw [hvl] at hA hcc ⊢
  unfold maxLen at hm
  have Hvi := Lib.hid hvi; clear hvi hvl
  have HK := Lib.hid hK; clear hK
  rcases Nat.eq_zero_or_pos ess.length with h0 | h0
  · obtain rfl : ess = [] := List.eq_nil_of_length_eq_zero h0
    clear hA
    go_enter Try.func50, Try.ntmps50
    go_wp2
    refine wp_loop_rounds 1 ?_
    rw [rounds_succ]
    go_wp2
    go_ret
    exact ⟨⟨_, rfl, .inr ⟨by simp, rfl⟩⟩, Below.refl _ _⟩
  · obtain ⟨g, off, rfl, hg, hcell⟩ := hA h0
    clear hA
    have hcell := sl_cells hcell
    go_enter Try.func50, Try.ntmps50
    go_wp2
    go_loopw [8] (fun i wr => ∃ k : Nat, k ≤ ess.length ∧ i = .int .i64 k ∧ Hid (r ∉ ess.take k) ∧ Below w.heap.size w wr) (fun i _ => ess.length - (intOf i).toNat)
    case atStart => exact ⟨0, Nat.zero_le _, rfl, Lib.hid (by simp), Below.refl _ _⟩
    case round =>
      obtain ⟨k, hk, rfl, Hok, hb⟩ := hrel
      by_cases hlt : k < ess.length
      · have f0 := hcell k hlt
        rw [← hb.cell (p := ⟨_, _, _⟩) hg] at f0
        have Hr := Lib.hid ((Hvi.out k hlt).on hb)
        generalize vat vs k = x at f0 Hr
        have hgr : g < wr.heap.size := Nat.lt_of_lt_of_le hg hb.size
        have hi0 : (0 : Int) ≤ (k : Int) := by omega
        have hi1 : (k : Int) < (ess.length : Int) := by omega
        clear hcell
        by_cases hd : cat' ess k = r
        · have Hin := Lib.hid (show r ∈ ess by rw [← hd]; exact cat_mem hlt)
          go_wp2_with fail
          refine (HK.out _ x _ hb Hr.out).mono ?_
          rintro e w1 ⟨rfl, hb1⟩
          rw [decide_eq_true hd]
          clear hd
          go_wp2
          go_ret
          exact ⟨⟨_, rfl, .inl ⟨Hin.out, hi0⟩⟩, bthen hb hb1⟩
        · have Hnx := Lib.hid (not_take_succ hlt Hok.out hd)
          go_wp2_with fail
          refine (HK.out _ x _ hb Hr.out).mono ?_
          rintro e w1 ⟨rfl, hb1⟩
          rw [decide_eq_false hd]
          clear hd
          go_wp2
          go_roundw
          case rel => exact ⟨k + 1, by omega, by go_num, Hnx, bthen hb hb1⟩
          case measure => simp [intOf]; omega
      · clear hcell
        obtain rfl : k = ess.length := by omega
        go_wp2
        go_ret
        exact ⟨⟨_, rfl, .inr ⟨by have := Hok.out; rwa [List.take_length] at this, rfl⟩⟩, hb⟩
set_option maxHeartbeats 800000 in
theorem containsII (K : FuncId) (eg : ∀ args w, (callFunc K args).run Try.prog w = .ok (.enter K args) w) (gc : Nat) (r : List Int) (v : Value) (ess : List (List Int)) (w : World) (h : NRd w w.heap.size v ess) (hK : IsOne K gc r w) :
    Calls Try.prog 26 #[v, .func (Fn.func K) #[] #[.pointer (some ⟨gc, 0, none⟩)]] w fun e w' => e = .returned (.bool (decide (r ∈ ess))) ∧ Below w.heap.size w w' := by
  have Hx := Lib.hid (indexII K eg gc r v ess w h hK)
  clear h hK
  go_enter Try.func26, Try.ntmps26
  go_wp2_with fail
  refine Hx.out.mono ?_; rintro e w1 ⟨⟨q, rfl, hq⟩, hb⟩
  rcases hq with ⟨ha, hq⟩ | ⟨ha, rfl⟩
  · have Ha := Lib.hid ha; clear ha
    go_wp2
    go_ret
    exact ⟨ret_bool (decide_eq_true Ha.out).symm, hb⟩
  · have Ha := Lib.hid ha; clear ha
    go_wp2
    go_ret
    exact ⟨ret_bool (decide_eq_false Ha.out).symm, hb⟩
/-- The first ones of a slice of slices. -/
theorem NRd.take {w : World} {hi : Nat} {A : Option Addr} {c : Nat} {ess : List (List Int)} {i : Nat} (h : NRd w hi (.slice A ess.length c) ess) (hi2 : i ≤ ess.length) : NRd w hi (.slice A i c) (ess.take i) := by
  obtain ⟨vs, hvl, hv, hvi⟩ := h
  obtain ⟨A', c', he, hcc, hm, hA⟩ := hv
  injection he with e1 e2 e3
  subst e1; subst e3
  have hl : (ess.take i).length = i := by rw [List.length_take]; omega
  have hl2 : (vs.take i).length = i := by rw [List.length_take]; omega
  refine ⟨vs.take i, by rw [hl, hl2], ⟨A, c, by rw [hl2], by rw [hl2]; omega, hm, fun h0 => ?_⟩, fun j hj => ?_⟩
  · rw [hl2] at h0 ⊢
    obtain ⟨g, off, hA', hg, hcell⟩ := hA (by omega)
    refine ⟨g, off, hA', hg, fun k hk j hj => ?_⟩
    rw [hcell k (by omega) j hj]
    have : slS.get (vs.take i) k = slS.get vs k := by
      unfold Shape.get
      rw [List.getD_eq_getElem?_getD, List.getD_eq_getElem?_getD, List.getElem?_take_of_lt hk]
    rw [this]
  · rw [hl] at hj
    have h1 := hvi j (by omega)
    have e1 : vat (vs.take i) j = vat vs j := by unfold vat; rw [List.getD_eq_getElem?_getD, List.getD_eq_getElem?_getD, List.getElem?_take_of_lt hj]
    have e2 : cat' (ess.take i) j = cat' ess j := by unfold cat'; rw [List.getD_eq_getElem?_getD, List.getD_eq_getElem?_getD, List.getElem?_take_of_lt hj]
    rw [e1, e2]; exact h1
end Go.Proofs.Yticbmpjdcanjkaa
