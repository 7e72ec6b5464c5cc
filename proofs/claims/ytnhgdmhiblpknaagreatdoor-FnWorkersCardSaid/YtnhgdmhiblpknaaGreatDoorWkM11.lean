/- Own texts put together: Lists of ints compared; the two closures over such a list; slices; The program's JoinRanges: are lists some of others; up to where all is done; Plain laws of FnTasks: steps in parts, the end, crashed tasks, candidates; Plain laws under the journal: numerals are read back; a text of words parted by a byte is parted into these words; What a journal's functions lean on besides memory of their own: the table of powers of ten, a world of the program's shape, strconv's two sentinels; strings; The program's reader of a record's line; Plain laws of a journal's text: the records at the beginning of a text, and how many bytes they have. Conditions: those of each theorem. -/
import Derived.Test.YtnhgdmhiblpknaaGreatDoorWkM10
import Derived.Test.YtnhgdmhiblpknaaGreatDoorWkM5
import Derived.Shelf.Abstract
import Derived.Test.YtnhgdmhiblpknaaGreatDoorWkM2
import Derived.Lib.AtoiTie
import Derived.Lib.SplitLaws
import Derived.ChangeAgain
import Derived.WalkSmall
import Derived.Lib.AtoiAllCases
import Derived.Test.YtnhgdmhiblpknaaGreatDoorWkM1
import Derived.Lib.Bytealg
namespace Go.Proofs.YtnhgdmhiblpknaaGreatDoor
section
open Go Go.RowKit

set_option maxRecDepth 8000 in
set_option maxHeartbeats 4000000 in
theorem equalI_any (u v : Value) (es fs : List Int) (w : World) (hu : Rd inS w w.heap.size u es) (hv : Rd inS w w.heap.size v fs) :
    Calls Tryz.prog 93 #[u, v] w fun r w' => r = .returned (.bool (decide (es = fs))) ∧ Below w.heap.size w w' := by
  obtain ⟨A, c, rfl, hc, hm, hA⟩ := hu
  obtain ⟨A', c', rfl, hc', hm', hA'⟩ := hv
  unfold maxLen at hm hm'
  by_cases hlen : es.length = fs.length
  · have hne : ((es.length : Int) != (fs.length : Int)) = false := by simp [hlen]
    rcases Nat.eq_zero_or_pos es.length with h0 | h0
    · obtain rfl : es = [] := List.eq_nil_of_length_eq_zero h0
      obtain rfl : fs = [] := List.eq_nil_of_length_eq_zero (by rw [← hlen]; exact h0)
      clear hA hA' hlen hne
      go_enter Tryz.func93, Tryz.ntmps93
      go_wp2
      refine wp_loop_rounds 1 ?_
      rw [rounds_succ]
      go_wp2
      go_ret
      exact ⟨rfl, by (repeat (with_reducible first | exact Below.refl _ _ | assumption | refine bal ?_ _ | refine bst ?_ (by simp <;> omega) _ | refine Below.drew ?_ | refine bthen ?_ (by assumption)))⟩
    · obtain ⟨g, off, rfl, hg, hcell⟩ := hA h0
      obtain ⟨g', off', rfl, hg', hcell'⟩ := hA' (by omega)
      clear hA hA'
      have hcell := in_cells hcell
      have hcell' := in_cells hcell'
      rw [← hlen] at hcell' hc'
      have Hlen := Lib.hid hlen
      rw [← hlen]
      clear hlen hne
      go_enter Tryz.func93, Tryz.ntmps93
      go_wp2
      go_loopw [13] (fun i wr => ∃ k : Nat, k ≤ es.length ∧ i = .int .i64 k ∧ Hid (es.take k = fs.take k) ∧ Below w.heap.size w wr) (fun i _ => es.length - (intOf i).toNat)
      case atStart => exact ⟨0, Nat.zero_le _, rfl, Lib.hid (by simp), Below.refl _ _⟩
      case round =>
        obtain ⟨k, hk, rfl, Heq, hb⟩ := hrel
        by_cases hlt : k < es.length
        · have f0 := hcell k hlt
          have p0 := hcell' k hlt
          rw [← hb.cell (p := ⟨_, _, _⟩) hg] at f0
          rw [← hb.cell (p := ⟨_, _, _⟩) hg'] at p0
          obtain ⟨x, hx⟩ : ∃ e, inS.get es k = e := ⟨_, rfl⟩
          obtain ⟨y, hy⟩ : ∃ e, inS.get fs k = e := ⟨_, rfl⟩
          rw [hx] at f0
          rw [hy] at p0
          have Hx := Lib.hid hx; have Hy := Lib.hid hy
          have hgr : g < wr.heap.size := Nat.lt_of_lt_of_le hg hb.size
          have hgr' : g' < wr.heap.size := Nat.lt_of_lt_of_le hg' hb.size
          have hi0 : (0 : Int) ≤ (k : Int) := by omega
          have hi1 : (k : Int) < (es.length : Int) := by omega
          clear hcell hcell' hx hy
          by_cases hd : x = y
          · have hnn : (x != y) = false := by simp [hd]
            have Hnext := Lib.hid (show es.take (k + 1) = fs.take (k + 1) by rw [take_get (S := inS) hlt, take_get (S := inS) (by have := Hlen.out; omega), Heq.out, Hx.out, Hy.out, hd])
            clear hd
            go_wp2
            refine wp_region_tame (by kernel_rfl) (by kernel_rfl) (fun T _ W hT => ?_)
            have hz := hT.cell
            repeat (go_big_quiet_step (fail))
            refine wpQuiet_nil ?_
            intro t
            clear hz
            go_wp2
            go_roundw
            case rel => exact ⟨k + 1, by omega, by go_num, Hnext, bthen hb (hT.below t)⟩
            case measure => simp [intOf]; omega
          · have hnn : (x != y) = true := by simp [hd]
            have Hno := Lib.hid (show decide (es = fs) = false from decide_eq_false (fun e => hd (by rw [← Hx.out, ← Hy.out, e])))
            clear hd
            go_wp2
            refine wp_region_tame (by kernel_rfl) (by kernel_rfl) (fun T _ W hT => ?_)
            have hz := hT.cell
            repeat (go_big_quiet_step (fail))
            refine wpQuiet_nil ?_
            intro t
            clear hz
            go_wp2
            go_ret
            exact ⟨ret_bool Hno.out.symm, bthen hb (hT.below t)⟩
        · obtain rfl : k = es.length := by omega
          have Hyes := Lib.hid (show decide (es = fs) = true from decide_eq_true (by have h := Heq.out; rw [List.take_length, Hlen.out, List.take_length] at h; exact h))
          clear hcell hcell'
          go_wp2
          go_ret
          exact ⟨ret_bool Hyes.out.symm, hb⟩
  · have hne : ((es.length : Int) != (fs.length : Int)) = true := by simp; omega
    have Hno := Lib.hid (show decide (es = fs) = false from decide_eq_false (fun e => hlen (by rw [e])))
    clear hA hA'
    have Hlen := Lib.hid hlen; clear hlen
    go_enter Tryz.func93, Tryz.ntmps93
    go_wp2
    go_ret
    exact ⟨ret_bool Hno.out.symm, by (repeat (with_reducible first | exact Below.refl _ _ | assumption | refine bal ?_ _ | refine bst ?_ (by simp <;> omega) _ | refine Below.drew ?_ | refine bthen ?_ (by assumption)))⟩
set_option maxRecDepth 8000 in
set_option maxHeartbeats 4000000 in
theorem l1Same_any (u v : Value) (es fs : List Int) (w : World) (hu : Rd inS w w.heap.size u es) (hv : Rd inS w w.heap.size v fs) :
    Calls Tryz.prog 167 #[u, v] w fun r w' => r = .returned (.bool (decide (es = fs))) ∧ Below w.heap.size w w' := by
  obtain ⟨A, c, rfl, hc, hm, hA⟩ := hu
  obtain ⟨A', c', rfl, hc', hm', hA'⟩ := hv
  unfold maxLen at hm hm'
  by_cases hlen : es.length = fs.length
  · have hne : ((es.length : Int) != (fs.length : Int)) = false := by simp [hlen]
    rcases Nat.eq_zero_or_pos es.length with h0 | h0
    · obtain rfl : es = [] := List.eq_nil_of_length_eq_zero h0
      obtain rfl : fs = [] := List.eq_nil_of_length_eq_zero (by rw [← hlen]; exact h0)
      clear hA hA' hlen hne
      go_enter Tryz.func167, Tryz.ntmps167
      go_wp2
      refine wp_loop_rounds 1 ?_
      rw [rounds_succ]
      go_wp2
      go_ret
      exact ⟨rfl, by (repeat (with_reducible first | exact Below.refl _ _ | assumption | refine bal ?_ _ | refine bst ?_ (by simp <;> omega) _ | refine Below.drew ?_ | refine bthen ?_ (by assumption)))⟩
    · obtain ⟨g, off, rfl, hg, hcell⟩ := hA h0
      obtain ⟨g', off', rfl, hg', hcell'⟩ := hA' (by omega)
      clear hA hA'
      have hcell := in_cells hcell
      have hcell' := in_cells hcell'
      rw [← hlen] at hcell' hc'
      have Hlen := Lib.hid hlen
      rw [← hlen]
      clear hlen hne
      go_enter Tryz.func167, Tryz.ntmps167
      go_wp2
      go_loopw [13] (fun i wr => ∃ k : Nat, k ≤ es.length ∧ i = .int .i64 k ∧ Hid (es.take k = fs.take k) ∧ Below w.heap.size w wr) (fun i _ => es.length - (intOf i).toNat)
      case atStart => exact ⟨0, Nat.zero_le _, rfl, Lib.hid (by simp), Below.refl _ _⟩
      case round =>
        obtain ⟨k, hk, rfl, Heq, hb⟩ := hrel
        by_cases hlt : k < es.length
        · have f0 := hcell k hlt
          have p0 := hcell' k hlt
          rw [← hb.cell (p := ⟨_, _, _⟩) hg] at f0
          rw [← hb.cell (p := ⟨_, _, _⟩) hg'] at p0
          obtain ⟨x, hx⟩ : ∃ e, inS.get es k = e := ⟨_, rfl⟩
          obtain ⟨y, hy⟩ : ∃ e, inS.get fs k = e := ⟨_, rfl⟩
          rw [hx] at f0
          rw [hy] at p0
          have Hx := Lib.hid hx; have Hy := Lib.hid hy
          have hgr : g < wr.heap.size := Nat.lt_of_lt_of_le hg hb.size
          have hgr' : g' < wr.heap.size := Nat.lt_of_lt_of_le hg' hb.size
          have hi0 : (0 : Int) ≤ (k : Int) := by omega
          have hi1 : (k : Int) < (es.length : Int) := by omega
          clear hcell hcell' hx hy
          by_cases hd : x = y
          · have hnn : (x != y) = false := by simp [hd]
            have Hnext := Lib.hid (show es.take (k + 1) = fs.take (k + 1) by rw [take_get (S := inS) hlt, take_get (S := inS) (by have := Hlen.out; omega), Heq.out, Hx.out, Hy.out, hd])
            clear hd
            go_wp2
            refine wp_region_tame (by kernel_rfl) (by kernel_rfl) (fun T _ W hT => ?_)
            have hz := hT.cell
            repeat (go_big_quiet_step (fail))
            refine wpQuiet_nil ?_
            intro t
            clear hz
            go_wp2
            go_roundw
            case rel => exact ⟨k + 1, by omega, by go_num, Hnext, bthen hb (hT.below t)⟩
            case measure => simp [intOf]; omega
          · have hnn : (x != y) = true := by simp [hd]
            have Hno := Lib.hid (show decide (es = fs) = false from decide_eq_false (fun e => hd (by rw [← Hx.out, ← Hy.out, e])))
            clear hd
            go_wp2
            refine wp_region_tame (by kernel_rfl) (by kernel_rfl) (fun T _ W hT => ?_)
            have hz := hT.cell
            repeat (go_big_quiet_step (fail))
            refine wpQuiet_nil ?_
            intro t
            clear hz
            go_wp2
            go_ret
            exact ⟨ret_bool Hno.out.symm, bthen hb (hT.below t)⟩
        · obtain rfl : k = es.length := by omega
          have Hyes := Lib.hid (show decide (es = fs) = true from decide_eq_true (by have h := Heq.out; rw [List.take_length, Hlen.out, List.take_length] at h; exact h))
          clear hcell hcell'
          go_wp2
          go_ret
          exact ⟨ret_bool Hyes.out.symm, hb⟩
  · have hne : ((es.length : Int) != (fs.length : Int)) = true := by simp; omega
    have Hno := Lib.hid (show decide (es = fs) = false from decide_eq_false (fun e => hlen (by rw [e])))
    clear hA hA'
    have Hlen := Lib.hid hlen; clear hlen
    go_enter Tryz.func167, Tryz.ntmps167
    go_wp2
    go_ret
    exact ⟨ret_bool Hno.out.symm, by (repeat (with_reducible first | exact Below.refl _ _ | assumption | refine bal ?_ _ | refine bst ?_ (by simp <;> omega) _ | refine Below.drew ?_ | refine bthen ?_ (by assumption)))⟩
set_option maxHeartbeats 800000 in
theorem areSome1_any (gc : Nat) (u s : Value) (es ss : List Int) (w : World) (hg : w.cell? ⟨gc, 0, none⟩ = some s) (hu : Rd inS w w.heap.size u es) (hs : Rd inS w w.heap.size s ss) :
    Calls Tryz.prog 136 #[u, .pointer (some ⟨gc, 0, none⟩)] w fun r w' => r = .returned (.bool (decide (es = ss))) ∧ Below w.heap.size w w' := by
  have hlt := World.block_lt_of_cell? w _ hg
  have Hx := Lib.hid (equalI_any _ _ es ss _ hu hs)
  clear hu hs
  go_enter Tryz.func136, Tryz.ntmps136
  go_wp2_with fail
  refine Hx.out.mono ?_; rintro r w1 ⟨rfl, hb⟩
  go_wp2
  go_ret
  exact ⟨rfl, hb⟩
set_option maxHeartbeats 800000 in
theorem join1_any (gc : Nat) (u s : Value) (es ss : List Int) (w : World) (hg : w.cell? ⟨gc, 0, none⟩ = some s) (hu : Rd inS w w.heap.size u es) (hs : Rd inS w w.heap.size s ss) :
    Calls Tryz.prog 92 #[u, .pointer (some ⟨gc, 0, none⟩)] w fun r w' => r = .returned (.bool (decide (es = ss))) ∧ Below w.heap.size w w' := by
  have hlt := World.block_lt_of_cell? w _ hg
  have Hx := Lib.hid (equalI_any _ _ ss es _ hs hu)
  clear hu hs
  go_enter Tryz.func92, Tryz.ntmps92
  go_wp2_with fail
  refine Hx.out.mono ?_; rintro r w1 ⟨rfl, hb⟩
  go_wp2
  go_ret
  exact ⟨ret_bool (by rw [decide_eq_decide]; exact eq_comm), hb⟩
theorem enAS : ∀ args w, (callFunc 136 args).run Tryz.prog w = .ok (.enter 136 args) w := enters_of Tryz.func136 (by kernel_rfl) rfl
theorem enJR : ∀ args w, (callFunc 92 args).run Tryz.prog w = .ok (.enter 92 args) w := enters_of Tryz.func92 (by kernel_rfl) rfl
theorem rd_form2 {w : World} {hi : Nat} {v : Value} {es : List Int} (h : Rd inS w hi v es) : ∃ A c, v = .slice A es.length c ∧ es.length ≤ 9223372036854775807 := by
  obtain ⟨A, c, rfl, hc, hm, -⟩ := h
  unfold maxLen at hm
  exact ⟨A, c, rfl, by omega⟩
/-- A closure over one list: it says of a list whether it is that one, whatever of the worlds behind w. -/
def IsOne (K : FuncId) (gc : Nat) (r : List Int) (w : World) : Prop :=
  ∀ (W : World) (u : Value) (es : List Int), Below w.heap.size w W → Rd inS W W.heap.size u es → Calls Tryz.prog K #[u, .pointer (some ⟨gc, 0, none⟩)] W fun e w' => e = .returned (.bool (decide (es = r))) ∧ Below W.heap.size W w'
theorem not_take_succ {R : List LI} {r : LI} {k : Nat} (hk : k < R.length) (h : r ∉ R.take k) (hn : cat' R k ≠ r) : r ∉ R.take (k + 1) := by
  rw [List.take_succ_eq_append_getElem hk, ← cat_get hk]
  intro hm
  rcases List.mem_append.1 hm with hm | hm
  · exact h hm
  · simp only [List.mem_singleton] at hm; exact hn hm.symm
theorem cat_mem {R : List LI} {k : Nat} (hk : k < R.length) : cat' R k ∈ R := by rw [cat_get hk]; exact List.getElem_mem hk
set_option maxRecDepth 8000 in
set_option maxHeartbeats 1600000 in
theorem indexII (K : FuncId) (eg : ∀ args w, (callFunc K args).run Tryz.prog w = .ok (.enter K args) w) (gc : Nat) (r : List Int) (v : Value) (ess : List (List Int)) (w : World) (h : NRd w w.heap.size v ess) (hK : IsOne K gc r w) :
    Calls Tryz.prog 137 #[v, .func (Fn.func K) #[] #[.pointer (some ⟨gc, 0, none⟩)]] w fun e w' =>
      (∃ q : Int, e = .returned (.int .i64 q) ∧ (r ∈ ess ∧ 0 ≤ q ∨ r ∉ ess ∧ q = -1)) ∧ Below w.heap.size w w' := by
  obtain ⟨vs, hvl, hv, hvi⟩ := h
  obtain ⟨A, c, rfl, hcc, hm, hA⟩ := hv
  rw [hvl] at hA hcc ⊢
  unfold maxLen at hm
  have Hvi := Lib.hid hvi; clear hvi hvl
  have HK := Lib.hid hK; clear hK
  rcases Nat.eq_zero_or_pos ess.length with h0 | h0
  · obtain rfl : ess = [] := List.eq_nil_of_length_eq_zero h0
    clear hA
    go_enter Tryz.func137, Tryz.ntmps137
    go_wp2
    refine wp_loop_rounds 1 ?_
    rw [rounds_succ]
    go_wp2
    go_ret
    exact ⟨⟨_, rfl, .inr ⟨by simp, rfl⟩⟩, Below.refl _ _⟩
  · obtain ⟨g, off, rfl, hg, hcell⟩ := hA h0
    clear hA
    have hcell := sl_cells hcell
    go_enter Tryz.func137, Tryz.ntmps137
    go_wp2
    go_loopw [8] (fun i wr => ∃ k : Nat, k ≤ ess.length ∧ i = .int .i64 k ∧ Hid (r ∉ ess.take k) ∧ Below w.heap.size w wr) (fun i _ => ess.length - (intOf i).toNat)
    case atStart => exact ⟨0, Nat.zero_le _, rfl, Lib.hid (by simp), Below.refl _ _⟩
    case round =>
      obtain ⟨k, hk, rfl, Hok, hb⟩ := hrel
      by_cases hlt : k < ess.length
      · have f0 := hcell k hlt
        rw [← hb.cell (p := ⟨_, _, _⟩) hg] at f0
        have Hr := Lib.hid ((Hvi.out k hlt).on hb)
        generalize vat vs k = x at f0 Hr
        have hgr : g < wr.heap.size := Nat.lt_of_lt_of_le hg hb.size
        have hi0 : (0 : Int) ≤ (k : Int) := by omega
        have hi1 : (k : Int) < (ess.length : Int) := by omega
        clear hcell
        by_cases hd : cat' ess k = r
        · have Hin := Lib.hid (show r ∈ ess by rw [← hd]; exact cat_mem hlt)
          go_wp2_with fail
          refine (HK.out _ x _ hb Hr.out).mono ?_
          rintro e w1 ⟨rfl, hb1⟩
          rw [decide_eq_true hd]
          clear hd
          go_wp2
          go_ret
          exact ⟨⟨_, rfl, .inl ⟨Hin.out, hi0⟩⟩, bthen hb hb1⟩
        · have Hnx := Lib.hid (not_take_succ hlt Hok.out hd)
          go_wp2_with fail
          refine (HK.out _ x _ hb Hr.out).mono ?_
          rintro e w1 ⟨rfl, hb1⟩
          rw [decide_eq_false hd]
          clear hd
          go_wp2
          go_roundw
          case rel => exact ⟨k + 1, by omega, by go_num, Hnx, bthen hb hb1⟩
          case measure => simp [intOf]; omega
      · clear hcell
        obtain rfl : k = ess.length := by omega
        go_wp2
        go_ret
        exact ⟨⟨_, rfl, .inr ⟨by have := Hok.out; rwa [List.take_length] at this, rfl⟩⟩, hb⟩
set_option maxHeartbeats 800000 in
theorem containsII (K : FuncId) (eg : ∀ args w, (callFunc K args).run Tryz.prog w = .ok (.enter K args) w) (gc : Nat) (r : List Int) (v : Value) (ess : List (List Int)) (w : World) (h : NRd w w.heap.size v ess) (hK : IsOne K gc r w) :
    Calls Tryz.prog 91 #[v, .func (Fn.func K) #[] #[.pointer (some ⟨gc, 0, none⟩)]] w fun e w' => e = .returned (.bool (decide (r ∈ ess))) ∧ Below w.heap.size w w' := by
  have Hx := Lib.hid (indexII K eg gc r v ess w h hK)
  clear h hK
  go_enter Tryz.func91, Tryz.ntmps91
  go_wp2_with fail
  refine Hx.out.mono ?_; rintro e w1 ⟨⟨q, rfl, hq⟩, hb⟩
  rcases hq with ⟨ha, hq⟩ | ⟨ha, rfl⟩
  · have Ha := Lib.hid ha; clear ha
    go_wp2
    go_ret
    exact ⟨ret_bool (decide_eq_true Ha.out).symm, hb⟩
  · have Ha := Lib.hid ha; clear ha
    go_wp2
    go_ret
    exact ⟨ret_bool (decide_eq_false Ha.out).symm, hb⟩
/-- The first ones of a slice of slices. -/
theorem NRd.take {w : World} {hi : Nat} {A : Option Addr} {c : Nat} {ess : List (List Int)} {i : Nat} (h : NRd w hi (.slice A ess.length c) ess) (hi2 : i ≤ ess.length) : NRd w hi (.slice A i c) (ess.take i) := by
  obtain ⟨vs, hvl, hv, hvi⟩ := h
  obtain ⟨A', c', he, hcc, hm, hA⟩ := hv
  injection he with e1 e2 e3
  subst e1; subst e3
  have hl : (ess.take i).length = i := by rw [List.length_take]; omega
  have hl2 : (vs.take i).length = i := by rw [List.length_take]; omega
  refine ⟨vs.take i, by rw [hl, hl2], ⟨A, c, by rw [hl2], by rw [hl2]; omega, hm, fun h0 => ?_⟩, fun j hj => ?_⟩
  · rw [hl2] at h0 ⊢
    obtain ⟨g, off, hA', hg, hcell⟩ := hA (by omega)
    refine ⟨g, off, hA', hg, fun k hk j hj => ?_⟩
    rw [hcell k (by omega) j hj]
    have : slS.get (vs.take i) k = slS.get vs k := by
      unfold Shape.get
      rw [List.getD_eq_getElem?_getD, List.getD_eq_getElem?_getD, List.getElem?_take_of_lt hk]
    rw [this]
  · rw [hl] at hj
    have h1 := hvi j (by omega)
    have e1 : vat (vs.take i) j = vat vs j := by unfold vat; rw [List.getD_eq_getElem?_getD, List.getD_eq_getElem?_getD, List.getElem?_take_of_lt hj]
    have e2 : cat' (ess.take i) j = cat' ess j := by unfold cat'; rw [List.getD_eq_getElem?_getD, List.getD_eq_getElem?_getD, List.getElem?_take_of_lt hj]
    rw [e1, e2]; exact h1
end
section
open Go Go.RowKit

theorem nrd_form {w : World} {hi : Nat} {v : Value} {ess : List (List Int)} (h : NRd w hi v ess) : ∃ A c, v = .slice A ess.length c ∧ ess.length ≤ c ∧ c ≤ maxLen := by
  obtain ⟨vs, hvl, hv, hvi⟩ := h
  obtain ⟨A', c', he, hcc, hm, hA⟩ := hv
  exact ⟨A', c', by rw [he, hvl], by omega, hm⟩
theorem nrd_cell {w : World} {hi : Nat} {A : Option Addr} {n c : Nat} {ess : List (List Int)} (h : NRd w hi (.slice A n c) ess) (h0 : 0 < ess.length) :
    ∃ (vs : List Value) (g off : Nat), A = some ⟨g, off, none⟩ ∧ g < hi ∧ (∀ k, k < ess.length → w.cell? ⟨g, off + k, none⟩ = some (vat vs k)) ∧ ∀ k, k < ess.length → Rd inS w hi (vat vs k) (cat' ess k) := by
  obtain ⟨vs, hvl, hv, hvi⟩ := h
  obtain ⟨A', c', he, hcc, hm, hA⟩ := hv
  injection he with e1 e2 e3
  subst e1
  rw [hvl] at hA
  obtain ⟨g, off, hA', hg, hcell⟩ := hA h0
  exact ⟨vs, g, off, hA', hg, fun k hk => sl_cells hcell k hk, hvi⟩
theorem smB_no {R A : List LI} {i : Nat} (hi : i < R.length) (h : cat' R i ∉ A ∨ cat' R i ∈ R.take i) : smB R A = false := by
  cases hs : smB R A with
  | false => rfl
  | true =>
    rw [smB_iff] at hs
    obtain ⟨h1, h2⟩ := hs i hi
    rcases h with h | h
    · exact absurd h1 h
    · exact absurd h h2
theorem smB_yes {R A : List LI} (h : ∀ i, i < R.length → cat' R i ∈ A ∧ cat' R i ∉ R.take i) : smB R A = true := (smB_iff R A).2 h
set_option maxRecDepth 8000 in
set_option maxHeartbeats 4000000 in
theorem areSome_any (u v : Value) (R L : List (List Int)) (w : World) (hu : NRd w w.heap.size u R) (hv : NRd w w.heap.size v L) :
    Calls Tryz.prog 90 #[u, v] w fun e w' => e = .returned (.bool (smB R L)) ∧ Below w.heap.size w w' := by
  obtain ⟨A, c, rfl, hc, hm⟩ := nrd_form hu
  unfold maxLen at hm
  have Hu := Lib.hid hu; have Hv := Lib.hid hv; clear hu hv
  rcases Nat.eq_zero_or_pos R.length with h0 | h0
  · obtain rfl : R = [] := List.eq_nil_of_length_eq_zero h0
    go_enter Tryz.func90, Tryz.ntmps90
    go_wp2
    refine wp_loop_rounds 1 ?_
    rw [rounds_succ]
    go_wp2
    go_ret
    exact ⟨rfl, Below.refl _ _⟩
  · obtain ⟨us, g, off, rfl, hg, hcell, hrow⟩ := nrd_cell Hu.out h0
    have Hcell := Lib.hid hcell; have Hrow := Lib.hid hrow; clear hcell hrow
    go_enter Tryz.func90, Tryz.ntmps90
    go_wp2
    go_loopw [10] (fun i wr => ∃ k : Nat, k ≤ R.length ∧ i = .int .i64 k ∧ Hid (∀ i, i < k → cat' R i ∈ L ∧ cat' R i ∉ R.take i) ∧ Below w.heap.size w wr) (fun i _ => R.length - (intOf i).toNat)
    case atStart => exact ⟨0, Nat.zero_le _, rfl, Lib.hid (fun i h => absurd h (by omega)), Below.refl _ _⟩
    case round =>
      obtain ⟨k, hk, rfl, Hok, hb⟩ := hrel
      by_cases hlt : k < R.length
      · have f0 := Hcell.out k hlt
        rw [← hb.cell (p := ⟨_, _, _⟩) hg] at f0
        have hgr : g < wr.heap.size := Nat.lt_of_lt_of_le hg hb.size
        have Hr := Lib.hid ((Hrow.out k hlt).on hb)
        generalize vat us k = x at f0 Hr
        obtain ⟨A1, c1, rfl, -⟩ := rd_form2 Hr.out
        have hi0 : (0 : Int) ≤ (k : Int) := by omega
        have hi1 : (k : Int) < (R.length : Int) := by omega
        have hi2 : (k : Int) ≤ (c : Int) := by omega
        have hbA := bal (Below.refl wr.heap.size wr) (Obj.cells #[.slice A1 (cat' R k).length c1] 34)
        have HN := Lib.hid (Blk.new wr 34 #[.slice A1 (cat' R k).length c1])
        have Hr1 := Lib.hid (Hr.out.on hbA)
        have Hv1 := Lib.hid ((Hv.out.on hb).on hbA)
        have Hu1 := Lib.hid (((Hu.out.on hb).on hbA).take (i := k) (by omega))
        have Hb1 := Lib.hid (bthen hb hbA); clear hbA
        have Hone := Lib.hid (show IsOne 136 wr.heap.size (cat' R k) (wr.alloc (Obj.cells #[.slice A1 (cat' R k).length c1] 34)) from fun W u es hW hu => areSome1_any _ u _ es _ W ((HN.out.on hW).cell 0) hu (Hr1.out.on hW))
        have Hno := Lib.hid (fun h => smB_no (A := L) hlt h)
        have Hnx := Lib.hid (fun h1 h2 => all_lt_succ Hok.out (⟨h1, h2⟩ : cat' R k ∈ L ∧ cat' R k ∉ R.take k))
        generalize cat' R k = r at f0 Hr1 Hone Hno Hnx Hr Hv1 Hu1 Hb1
        go_wp2_with fail
        refine (containsII _ enAS _ r _ L _ Hv1.out Hone.out).mono ?_; rintro e w2 ⟨rfl, hb2⟩
        clear f0
        by_cases h1 : r ∈ L
        · rw [decide_eq_true h1]
          have Hu2 := Lib.hid (Hu1.out.on hb2)
          have Hone2 := Lib.hid (show IsOne 136 wr.heap.size r w2 from fun W u es hW hu => Hone.out W u es (bthen hb2 hW) hu)
          have Hb2 := Lib.hid (bthen Hb1.out hb2); clear hb2
          have Hh1 := Lib.hid h1; clear h1
          go_wp2_with fail
          refine (containsII _ enAS _ r _ (R.take k) _ Hu2.out Hone2.out).mono ?_; rintro e w3 ⟨rfl, hb3⟩
          have Hb3 := Lib.hid (bthen Hb2.out hb3); clear hb3
          by_cases h2 : r ∈ R.take k
          · rw [decide_eq_true h2]
            have HF := Lib.hid (Hno.out (Or.inr h2))
            clear h2
            go_wp2
            go_ret
            exact ⟨ret_bool HF.out.symm, Hb3.out⟩
          · rw [decide_eq_false h2]
            have HT := Lib.hid (Hnx.out Hh1.out h2)
            clear h2
            go_wp2
            go_roundw
            case rel => exact ⟨k + 1, by omega, by go_num, HT, Hb3.out⟩
            case measure => simp [intOf]; omega
        · rw [decide_eq_false h1]
          have HF := Lib.hid (Hno.out (Or.inl h1))
          have Hb2 := Lib.hid (bthen Hb1.out hb2)
          clear h1
          go_wp2
          go_ret
          exact ⟨ret_bool HF.out.symm, Hb2.out⟩
      · obtain rfl : k = R.length := by omega
        have HT := Lib.hid (smB_yes (A := L) Hok.out)
        go_wp2
        go_ret
        exact ⟨ret_bool HT.out.symm, hb⟩
set_option linter.unusedSimpArgs false in
set_option maxRecDepth 20000 in
set_option maxHeartbeats 8000000 in
theorem implJoinR_any (a b m d t : Int) (v u : Value) (fs : List Pt) (R : List (List Int)) (w : World) (hv : Rd ptS w w.heap.size v fs) (hu : NRd w w.heap.size u R) :
    Calls Tryz.prog 36 #[.agg #[.int .i64 a, .int .i64 b, .int .i64 m, .int .i64 d, .int .i64 t, v], u] w fun r w' => TkRet (joinV a b m d t fs R) w.heap.size r w' ∧ Below w.heap.size w w' := by
  have Hb := Lib.hid ((Blk.new w 51 #[.int .i64 a, .int .i64 b, .int .i64 m, .int .i64 d, .int .i64 t, v]).alloc (Obj.cells #[.int .i64 0, .int .i64 0, .int .i64 0, .int .i64 0, .int .i64 0, .slice none 0 0] 51))
  have HR := Lib.hid (Blk.new1 w (Obj.cells #[.int .i64 a, .int .i64 b, .int .i64 m, .int .i64 d, .int .i64 t, v] 51) 51 #[.int .i64 0, .int .i64 0, .int .i64 0, .int .i64 0, .int .i64 0, .slice none 0 0])
  have hb0 := bal (bal (Below.refl w.heap.size w) (Obj.cells #[.int .i64 a, .int .i64 b, .int .i64 m, .int .i64 d, .int .i64 t, v] 51)) (Obj.cells #[.int .i64 0, .int .i64 0, .int .i64 0, .int .i64 0, .int .i64 0, .slice none 0 0] 51)
  have Hrd := Lib.hid (hv.on hb0)
  have Hu := Lib.hid (hu.on hb0)
  have HbA := Lib.hid hb0; clear hb0 hv
  have Hsp := Lib.hid (tkG_spec (a := a) (b := b) (m := m) (d := d) (t := t) (fs := fs))
  obtain ⟨Au, cu, rfl, hcu, hmu⟩ := nrd_form hu
  clear hu hcu hmu
  go_enter Tryz.func36, Tryz.ntmps36
  go_wp2_with fail
  refine (isTask_any _ a b m d t v fs _ Hb.out Hrd.out).mono ?_; rintro r w1 ⟨rfl, hb1⟩
  have HB1 := Lib.hid (Hb.out.on hb1); have HR1 := Lib.hid (HR.out.on hb1); have Hu1 := Lib.hid (Hu.out.on hb1); have Hb1 := Lib.hid (bthen HbA.out hb1); clear hb1
  cases hk : tkG a b m d t fs
  · have HN := Lib.hid (joinV_bad (R := R) hk)
    clear hk
    have r0 := HR1.out.cell 0
    have r1 := HR1.out.cell 1
    have r2 := HR1.out.cell 2
    have r3 := HR1.out.cell 3
    have r4 := HR1.out.cell 4
    have r5 := HR1.out.cell 5
    simp at r0 r1 r2 r3 r4 r5
    have rl := HR1.out.lt
    have rf := HR1.out.frozen
    go_wp2
    clear r0 r1 r2 r3 r4 r5 rf
    have HR6 := HR1.out.set6 (b0 := .int .i64 0) (b1 := .int .i64 0) (b2 := .int .i64 0) (b3 := .int .i64 0) (b4 := .int .i64 0) (b5 := .slice none 0 0)
    have k0 := HR6.cell 0
    have k1 := HR6.cell 1
    have k2 := HR6.cell 2
    have k3 := HR6.cell 3
    have k4 := HR6.cell 4
    have k5 := HR6.cell 5
    simp at k0 k1 k2 k3 k4 k5
    exact bodyPost_ret (v := .tuple #[.agg #[.int .i64 0, .int .i64 0, .int .i64 0, .int .i64 0, .int .i64 0, .slice none 0 0], .bool false]) (by simp [results, Tryz.results36, go_sem, k0, k1, k2, k3, k4, k5]) rfl ⟨TkRet.zero HN.out, bst (bst (bst (bst (bst (bst (Hb1.out) (Nat.le_succ _) _) (Nat.le_succ _) _) (Nat.le_succ _) _) (Nat.le_succ _) _) (Nat.le_succ _) _) (Nat.le_succ _) _⟩
  · have Hs := Lib.hid (Hsp.out hk)
    have Hsm := Lib.hid (fun n h => joinV_some (R := R) (n := n) hk h)
    have Hk := Lib.hid hk; clear hk
    have Hrest : Hid (0 ≤ totI m d - t) := Lib.hid (by have := Hs.out.2.1; omega)
    go_wp2
    go_loopw [6] (fun q wr => ∃ k : Nat, q = .int .i64 ((k : Int) + 1) ∧ k ≤ 8 ∧ Hid (jnF m d t R 8 1 = jnF m d t R (8 - k) ((k : Int) + 1)) ∧ Below w1.heap.size w1 wr) (fun q _ => 10 - (intOf q).toNat)
    case atStart => exact ⟨0, rfl, by omega, Lib.hid rfl, Below.refl _ _⟩
    case round =>
      obtain ⟨k, rfl, hk8, Hj, hb⟩ := hrel
      have HBr := Lib.hid (HB1.out.on hb); have HRr := Lib.hid (HR1.out.on hb); have Hur := Lib.hid (Hu1.out.on hb); have Hbr := Lib.hid (bthen Hb1.out hb)
      by_cases hlt : k < 8
      · have hq1 : (1 : Int) ≤ (k : Int) + 1 ∧ (k : Int) + 1 ≤ 8 := by omega
        have hq2 : (k : Int) + 1 ≤ 8 := hq1.2
        have Hrin := Lib.hid (rangesL_in (m := m) (d := d) (t := t) (w := (k : Int) + 1) Hrest.out hq1.1)
        obtain ⟨f, hf⟩ : ∃ f, 8 - k = f + 1 := ⟨7 - k, by omega⟩
        have Hhit := Lib.hid (fun h => Hj.out.trans (show jnF m d t R (8 - k) ((k : Int) + 1) = some (jAt R (rangesL m d t ((k : Int) + 1)) t) by rw [hf]; exact jnF_hit (m := m) (d := d) (t := t) (R := R) (f := f) (w := (k : Int) + 1) h))
        have Hmiss := Lib.hid (fun h => Hj.out.trans (show jnF m d t R (8 - k) ((k : Int) + 1) = jnF m d t R f ((k : Int) + 1 + 1) by rw [hf]; exact jnF_miss (m := m) (d := d) (t := t) (R := R) (f := f) (w := (k : Int) + 1) h))
        have Hf := Lib.hid hf; clear hf
        have Hrg := Lib.hid (ranges_any w.heap.size a b m d t ((k : Int) + 1) v wr HBr.out Hs.out.1 Hs.out.2.1 hq1)
        have hll := rangesL_len8 (m := m) (d := d) (t := t) (w := (k : Int) + 1) hq2
        generalize rangesL m d t ((k : Int) + 1) = L at Hrg Hrin Hhit Hmiss hll
        have ql := HBr.out.lt
        go_wp2_with fail
        refine Hrg.out.mono ?_; rintro r w2 ⟨⟨v2, vs2, rfl, hn2⟩, hb2⟩
        have Hn2 := Lib.hid (NRd.of_own hn2); clear hn2 ql
        have HB2 := Lib.hid (HBr.out.on hb2); have HR2 := Lib.hid (HRr.out.on hb2); have Hu2 := Lib.hid (Hur.out.on hb2); have Hb2 := Lib.hid (bthen Hbr.out hb2); have Hb12 := Lib.hid (bthen hb hb2); clear hb2
        obtain ⟨A2, c2, rfl, hc2, hm2⟩ := nrd_form Hn2.out
        go_wp2_with fail
        refine (areSome_any _ _ R L _ Hu2.out Hn2.out).mono ?_; rintro r w3 ⟨rfl, hb3⟩
        have HB3 := Lib.hid (HB2.out.on hb3); have HR3 := Lib.hid (HR2.out.on hb3); have Hu3 := Lib.hid (Hu2.out.on hb3); have Hb3 := Lib.hid (bthen Hb2.out hb3); have Hb13 := Lib.hid (bthen Hb12.out hb3); have Hn3 := Lib.hid (Hn2.out.on hb3); clear hb3
        cases hsm : smB R L
        · have Hnx := Lib.hid (Hmiss.out hsm)
          clear hsm
          go_wp2
          go_roundw
          case rel => exact ⟨k + 1, by go_num, by omega, Lib.hid (by rw [Hnx.out, show 8 - (k + 1) = f by have := Hf.out; omega, show ((k + 1 : Nat) : Int) + 1 = (k : Int) + 1 + 1 by omega]), Hb13.out⟩
          case measure => simp [intOf]; omega
        · have HV := Lib.hid (Hsm.out _ (Hhit.out hsm))
          clear hsm
          have Hbd := Lib.hid (fun i => jAt_bd R (at0 := t) (F := totI m d) (L.take i) t (fun r hr => Hrin.out.el r (List.mem_of_mem_take hr)) (Int.le_refl _) Hs.out.2.1.2)
          have Hbda := Lib.hid (jAt_bd R (at0 := t) (F := totI m d) L t Hrin.out.el (Int.le_refl _) Hs.out.2.1.2)
          have Ht0 := Lib.hid Hs.out.2.1.1
          have q4 := HB3.out.cell 4
          have ql := HB3.out.lt
          simp at q4
          have Hcl : Hid (0 < L.length → ∃ (vs : List Value) (g off : Nat), A2 = some ⟨g, off, none⟩ ∧ g < w3.heap.size ∧ (∀ k, k < L.length → w3.cell? ⟨g, off + k, none⟩ = some (vat vs k)) ∧ ∀ k, k < L.length → Rd inS w3 w3.heap.size (vat vs k) (cat' L k)) := Lib.hid (fun h0 => nrd_cell Hn3.out h0)
          go_wp2
          go_loopw [28, 8] (fun i n wr => ∃ j : Nat, j ≤ L.length ∧ i = .int .i64 j ∧ n = .int .i64 (jAt R (L.take j) t) ∧ Hid (opn R L j = true) ∧ Below w3.heap.size w3 wr) (fun i _ _ => L.length - (intOf i).toNat)
          case atStart => exact ⟨0, Nat.zero_le _, rfl, rfl, Lib.hid rfl, Below.refl _ _⟩
          case round =>
            obtain ⟨j, hj, rfl, rfl, Ho, hbj⟩ := hrel
            have HBj := Lib.hid (HB3.out.on hbj); have HRj := Lib.hid (HR3.out.on hbj); have Hbj := Lib.hid (bthen Hb3.out hbj); have Huj := Lib.hid (Hu3.out.on hbj)
            by_cases hjl : j < L.length
            · obtain ⟨vs, g, off, rfl, hg, hcell, hrow⟩ := Hcl.out (by omega)
              have f0 := hcell j hjl
              rw [← hbj.cell (p := ⟨_, _, _⟩) hg] at f0
              have hgr : g < wr.heap.size := Nat.lt_of_lt_of_le hg hbj.size
              have Hrw := Lib.hid ((hrow j hjl).on hbj)
              clear hcell hrow
              generalize vat vs j = x at f0 Hrw
              have hi0 : (0 : Int) ≤ (j : Int) := by omega
              have hi1 : (j : Int) < (L.length : Int) := by omega
              obtain ⟨X, Y, hXY, -, -, -⟩ := Hrin.out.el _ (cat_mem hjl)
              have Hstop := Lib.hid (fun h => jAt_stop (R := R) (t := t) hjl Ho.out h)
              have Hstep := Lib.hid (jAt_step (R := R) (t := t) hjl)
              have Hopn := Lib.hid (opn_step (R := R) hjl)
              rw [hXY] at Hstop Hrw Hstep Hopn
              clear hXY
              obtain ⟨A1, c1, rfl, -⟩ := rd_form2 Hrw.out
              have hbA := bal (Below.refl wr.heap.size wr) (Obj.cells #[.slice A1 [X, Y].length c1] 34)
              have HN := Lib.hid (Blk.new wr 34 #[.slice A1 [X, Y].length c1])
              have Hr1 := Lib.hid (Hrw.out.on hbA)
              have Hu1' := Lib.hid (Huj.out.on hbA)
              have HBa := Lib.hid (HBj.out.on hbA); have HRa := Lib.hid (HRj.out.on hbA); have Hba := Lib.hid (bthen Hbj.out hbA); have Hbja := Lib.hid (bthen hbj hbA); clear hbA
              have Hone := Lib.hid (show IsOne 92 wr.heap.size [X, Y] (wr.alloc (Obj.cells #[.slice A1 [X, Y].length c1] 34)) from fun W u es hW hu => join1_any _ u _ es _ W ((HN.out.on hW).cell 0) hu (Hr1.out.on hW))
              go_wp2_with fail
              refine (containsII _ enJR _ [X, Y] _ R _ Hu1'.out Hone.out).mono ?_; rintro e w5 ⟨rfl, hb5⟩
              clear f0
              have HB5 := Lib.hid (HBa.out.on hb5); have HR5 := Lib.hid (HRa.out.on hb5); have Hb5 := Lib.hid (bthen Hba.out hb5); have Hbj5 := Lib.hid (bthen Hbja.out hb5); have HN5 := Lib.hid (HN.out.on hb5); have Hr5 := Lib.hid (Hr1.out.on hb5); clear hb5
              by_cases hin : [X, Y] ∈ R
              · rw [decide_eq_true hin]
                have Hopn := Lib.hid (show opn R L (j + 1) = true by rw [Hopn.out, decide_eq_true hin, Ho.out]; rfl)
                have Hnext := Lib.hid (show jAt R (L.take (j + 1)) t = Y by rw [Hstep.out, if_pos Hopn.out]; rfl)
                clear hin
                have n0 := HN5.out.cell 0
                have nl := HN5.out.lt
                simp at n0
                obtain ⟨A6, c6, h6, hc6, hm6, hA6⟩ := Hr5.out
                injection h6 with e1 e2 e3
                subst e1; subst e3
                clear e2
                obtain ⟨g6, off6, rfl, hg6, hcell6⟩ := hA6 (by simp)
                have y1 := in_cells hcell6 1 (by simp)
                rw [show inS.get [X, Y] 1 = Y from rfl] at y1
                clear hA6 hcell6
                go_wp2
                go_roundw
                case rel => exact ⟨j + 1, by omega, by go_num, by rw [Hnext.out], Hopn, Hbj5.out⟩
                case measure => simp [intOf]; omega
              · rw [decide_eq_false hin]
                have Hst := Lib.hid (Hstop.out hin)
                clear hin
                have HV2 := Lib.hid (show joinV a b m d t fs R = (a, b, m, d, jAt R (L.take j) t, hitsZ a b m 0 (jAt R (L.take j) t), true) by rw [HV.out, Hst.out])
                have Hbdj := Lib.hid (Hbd.out j)
                generalize jAt R (L.take j) t = n at HV2 Hbdj Hst
                have bl := HB5.out.lt
                go_wp2_with fail
                refine (doneTo_any w.heap.size a b m d t n v _ HB5.out Hs.out.1 (by have h1 := Hbdj.out; have h2 := Ht0.out; omega)).mono ?_; rintro e w9 ⟨⟨v9, rfl, hown9⟩, hb9⟩
                obtain ⟨A9, c9, rfl, -, -, -⟩ := Rd.of_own (S := ptS) hown9 rfl
                have HR9 := Lib.hid (HR5.out.on hb9); have Hb9 := Lib.hid (bthen Hb5.out hb9); have Hrl := Lib.hid HR5.out.lt; have Hown9 := Lib.hid hown9; clear hown9 hb9
                have r0 := HR9.out.cell 0
                have r1 := HR9.out.cell 1
                have r2 := HR9.out.cell 2
                have r3 := HR9.out.cell 3
                have r4 := HR9.out.cell 4
                have r5 := HR9.out.cell 5
                simp at r0 r1 r2 r3 r4 r5
                have rl := HR9.out.lt
                have rf := HR9.out.frozen
                go_wp2
                clear r0 r1 r2 r3 r4 r5 rf
                have HR6 := HR9.out.set6 (b0 := .int .i64 a) (b1 := .int .i64 b) (b2 := .int .i64 m) (b3 := .int .i64 d) (b4 := .int .i64 n) (b5 := .slice A9 (hitsZ a b m 0 n).length c9)
                have k0 := HR6.cell 0
                have k1 := HR6.cell 1
                have k2 := HR6.cell 2
                have k3 := HR6.cell 3
                have k4 := HR6.cell 4
                have k5 := HR6.cell 5
                simp at k0 k1 k2 k3 k4 k5
                exact bodyPost_ret (v := .tuple #[.agg #[.int .i64 a, .int .i64 b, .int .i64 m, .int .i64 d, .int .i64 n, .slice A9 (hitsZ a b m 0 n).length c9], .bool true]) (by simp [results, Tryz.results36, go_sem, k0, k1, k2, k3, k4, k5]) rfl ⟨TkRet.mk HV2.out (own_far (g := w.heap.size + 1) Hown9.out (by repeat (first | (with_reducible exact grefl _ _) | (with_reducible refine only_cell ?_) | (with_reducible refine only_drew ?_))) Hrl.out) (by have := Hrl.out; omega), bst (bst (bst (bst (bst (bst (Hb9.out) (Nat.le_succ _) _) (Nat.le_succ _) _) (Nat.le_succ _) _) (Nat.le_succ _) _) (Nat.le_succ _) _) (Nat.le_succ _) _⟩
            · obtain rfl : j = L.length := by omega
              have HV2 := Lib.hid (show joinV a b m d t fs R = (a, b, m, d, jAt R (L.take L.length) t, hitsZ a b m 0 (jAt R (L.take L.length) t), true) by rw [HV.out, List.take_length])
              have Hbdj := Lib.hid (Hbd.out L.length)
              generalize jAt R (L.take L.length) t = n at HV2 Hbdj
              have bl := HBj.out.lt
              go_wp2_with fail
              refine (doneTo_any w.heap.size a b m d t n v _ HBj.out Hs.out.1 (by have h1 := Hbdj.out; have h2 := Ht0.out; omega)).mono ?_; rintro e w9 ⟨⟨v9, rfl, hown9⟩, hb9⟩
              obtain ⟨A9, c9, rfl, -, -, -⟩ := Rd.of_own (S := ptS) hown9 rfl
              have HR9 := Lib.hid (HRj.out.on hb9); have Hb9 := Lib.hid (bthen Hbj.out hb9); have Hrl := Lib.hid HRj.out.lt; have Hown9 := Lib.hid hown9; clear hown9 hb9
              have r0 := HR9.out.cell 0
              have r1 := HR9.out.cell 1
              have r2 := HR9.out.cell 2
              have r3 := HR9.out.cell 3
              have r4 := HR9.out.cell 4
              have r5 := HR9.out.cell 5
              simp at r0 r1 r2 r3 r4 r5
              have rl := HR9.out.lt
              have rf := HR9.out.frozen
              go_wp2
              clear r0 r1 r2 r3 r4 r5 rf
              have HR6 := HR9.out.set6 (b0 := .int .i64 a) (b1 := .int .i64 b) (b2 := .int .i64 m) (b3 := .int .i64 d) (b4 := .int .i64 n) (b5 := .slice A9 (hitsZ a b m 0 n).length c9)
              have k0 := HR6.cell 0
              have k1 := HR6.cell 1
              have k2 := HR6.cell 2
              have k3 := HR6.cell 3
              have k4 := HR6.cell 4
              have k5 := HR6.cell 5
              simp at k0 k1 k2 k3 k4 k5
              exact bodyPost_ret (v := .tuple #[.agg #[.int .i64 a, .int .i64 b, .int .i64 m, .int .i64 d, .int .i64 n, .slice A9 (hitsZ a b m 0 n).length c9], .bool true]) (by simp [results, Tryz.results36, go_sem, k0, k1, k2, k3, k4, k5]) rfl ⟨TkRet.mk HV2.out (own_far (g := w.heap.size + 1) Hown9.out (by repeat (first | (with_reducible exact grefl _ _) | (with_reducible refine only_cell ?_) | (with_reducible refine only_drew ?_))) Hrl.out) (by have := Hrl.out; omega), bst (bst (bst (bst (bst (bst (Hb9.out) (Nat.le_succ _) _) (Nat.le_succ _) _) (Nat.le_succ _) _) (Nat.le_succ _) _) (Nat.le_succ _) _) (Nat.le_succ _) _⟩
      · obtain rfl : k = 8 := by omega
        have HN := Lib.hid (joinV_none (a := a) (b := b) (fs := fs) (show jnF m d t R 8 1 = none by rw [Hj.out]; rfl))
        have r0 := HRr.out.cell 0
        have r1 := HRr.out.cell 1
        have r2 := HRr.out.cell 2
        have r3 := HRr.out.cell 3
        have r4 := HRr.out.cell 4
        have r5 := HRr.out.cell 5
        simp at r0 r1 r2 r3 r4 r5
        have rl := HRr.out.lt
        have rf := HRr.out.frozen
        go_wp2
        clear r0 r1 r2 r3 r4 r5 rf
        have HR6 := HRr.out.set6 (b0 := .int .i64 0) (b1 := .int .i64 0) (b2 := .int .i64 0) (b3 := .int .i64 0) (b4 := .int .i64 0) (b5 := .slice none 0 0)
        have k0 := HR6.cell 0
        have k1 := HR6.cell 1
        have k2 := HR6.cell 2
        have k3 := HR6.cell 3
        have k4 := HR6.cell 4
        have k5 := HR6.cell 5
        simp at k0 k1 k2 k3 k4 k5
        exact bodyPost_ret (v := .tuple #[.agg #[.int .i64 0, .int .i64 0, .int .i64 0, .int .i64 0, .int .i64 0, .slice none 0 0], .bool false]) (by simp [results, Tryz.results36, go_sem, k0, k1, k2, k3, k4, k5]) rfl ⟨TkRet.zero HN.out, bst (bst (bst (bst (bst (bst (Hbr.out) (Nat.le_succ _) _) (Nat.le_succ _) _) (Nat.le_succ _) _) (Nat.le_succ _) _) (Nat.le_succ _) _) (Nat.le_succ _) _⟩
end
section
open Go Go.RowKit

theorem tkG_parts {a b m d t : Int} {fs : List Pt} (h : tkG a b m d t fs = true) : tkB a b m d = true ∧ (0 ≤ t ∧ t ≤ totI m d) ∧ fs = hitsZ a b m 0 t := by
  unfold tkG at h
  simp only [Bool.and_eq_true, decide_eq_true_eq] at h
  exact ⟨h.1, insB_true h.2.1, h.2.2⟩
theorem tkG_at {a b m d n : Int} (h : tkB a b m d = true) (h0 : 0 ≤ n) (h1 : n ≤ totI m d) : tkG a b m d n (hitsZ a b m 0 n) = true := by
  unfold tkG
  rw [h, insB_mk h0 h1, decide_eq_true rfl]
  rfl
theorem tkB_tot {a b m d : Int} (h : tkB a b m d = true) : 0 ≤ totI m d ∧ totI m d ≤ 4010 := totI_bd (tkB_tk h).m (tkB_tk h).d
theorem step_of {a b m d t n : Int} {fs : List Pt} (h : tkG a b m d t fs = true) (h0 : 0 ≤ n) (h1 : n ≤ 5000) : stepV a b m d t fs n = (a, b, m, d, min (t + n) (totI m d), hitsZ a b m 0 (min (t + n) (totI m d)), true) := by
  unfold stepV
  rw [h, insB_mk h0 h1]
  rfl
theorem step_yes {a b m d t n A B M D T : Int} {fs Y : List Pt} (h : stepV a b m d t fs n = (A, B, M, D, T, Y, true)) : tkG a b m d t fs = true ∧ (0 ≤ n ∧ n ≤ 5000) ∧ A = a ∧ B = b ∧ M = m ∧ D = d ∧ T = min (t + n) (totI m d) ∧ Y = hitsZ a b m 0 (min (t + n) (totI m d)) := by
  have h2 := h
  unfold stepV at h2
  split at h2
  · rename_i hc
    simp only [Bool.and_eq_true] at hc
    simp only [Prod.mk.injEq] at h2
    obtain ⟨e1, e2, e3, e4, e5, e6, -⟩ := h2
    exact ⟨hc.1, insB_true hc.2, e1.symm, e2.symm, e3.symm, e4.symm, e5.symm, e6.symm⟩
  · unfold zeroT at h2
    simp at h2
/-- The task behind k further candidates is valid. -/
theorem tk_min {a b m d t k : Int} {fs : List Pt} (h : tkG a b m d t fs = true) (h0 : 0 ≤ k) : tkG a b m d (min (t + k) (totI m d)) (hitsZ a b m 0 (min (t + k) (totI m d))) = true := by
  obtain ⟨h1, h2, -⟩ := tkG_parts h
  exact tkG_at h1 (by omega) (by omega)
theorem step_two {a b m d t n k : Int} {fs : List Pt} (h : tkG a b m d t fs = true) (h0 : 0 ≤ k) (h1 : k ≤ n) (h2 : n ≤ 5000) :
    stepV a b m d (min (t + k) (totI m d)) (hitsZ a b m 0 (min (t + k) (totI m d))) (n - k) = (a, b, m, d, min (t + n) (totI m d), hitsZ a b m 0 (min (t + n) (totI m d)), true) := by
  rw [step_of (tk_min h h0) (by omega) (by omega)]
  have e : min (min (t + k) (totI m d) + (n - k)) (totI m d) = min (t + n) (totI m d) := by omega
  rw [e]
theorem step_end {a b m d t : Int} {fs : List Pt} (h : tkG a b m d t fs = true) : stepV a b m d t fs 5000 = (a, b, m, d, totI m d, hitsZ a b m 0 (totI m d), true) := by
  obtain ⟨h1, h2, -⟩ := tkG_parts h
  have h3 := tkB_tot h1
  rw [step_of h (by omega) (by omega)]
  have e : min (t + 5000) (totI m d) = totI m d := by omega
  rw [e]
theorem rest_end {a b m d : Int} (h : tkB a b m d = true) : restV a b m d (totI m d) (hitsZ a b m 0 (totI m d)) = (0, true) := by
  unfold restV
  rw [tkG_at h (tkB_tot h).1 (Int.le_refl _), Int.sub_self]
  rfl
theorem crash_law {a b m d t e A B M D T : Int} {fs Y : List Pt} (h : crashV a b m d t fs e = (A, B, M, D, T, Y, true)) :
    A = a ∧ B = b ∧ M = m ∧ D = d ∧ (1 ≤ e ∧ e ≤ 5000) ∧ (0 ≤ T ∧ T ≤ t ∧ t ≤ 4010) ∧ T % e = 0 ∧ t - T < e ∧ stepV a b m d T Y (t - T) = (a, b, m, d, t, fs, true) := by
  unfold crashV at h
  split at h
  · rename_i hc
    simp only [Bool.and_eq_true] at hc
    obtain ⟨hg, he⟩ := hc
    have he := insB_true he
    simp only [Prod.mk.injEq] at h
    obtain ⟨e1, e2, e3, e4, e5, e6, -⟩ := h
    obtain ⟨h1, h2, h3⟩ := tkG_parts hg
    have h4 := tkB_tot h1
    have p1 := Int.emod_nonneg t (show e ≠ 0 by omega)
    have p2 := Int.emod_lt_of_pos t (show 0 < e by omega)
    have p3 : t % e ≤ t := by
      have := Int.emod_add_mul_ediv t e
      have h9 : 0 ≤ t / e := Int.ediv_nonneg (by omega) (by omega)
      have := Int.mul_nonneg (show 0 ≤ e by omega) h9
      omega
    refine ⟨e1.symm, e2.symm, e3.symm, e4.symm, he, by omega, ?_, by omega, ?_⟩
    · rw [← e5, Int.sub_emod, Int.emod_emod, Int.sub_self, Int.zero_emod]
    · subst e5 e6
      rw [step_of (tkG_at h1 (by omega) (by omega)) (by omega) (by omega)]
      have e : min (t - t % e + (t - (t - t % e))) (totI m d) = t := by omega
      rw [e, ← h3]
  · unfold zeroT at h
    simp at h
theorem cand_law {a b m d t i x e : Int} {fs : List Pt} (h : candV a b m d t fs i = (x, e, true)) : (-m ≤ x ∧ x ≤ m) ∧ (1 ≤ e ∧ e ≤ d) ∧ m ≤ 200 := by
  unfold candV at h
  split at h
  · rename_i hc
    simp only [Bool.and_eq_true] at hc
    obtain ⟨hg, hi⟩ := hc
    have hi := insB_true hi
    simp only [Prod.mk.injEq] at h
    obtain ⟨e1, e2, -⟩ := h
    obtain ⟨h1, -, -⟩ := tkG_parts hg
    have hb := cand_bd (d := d) (tkB_tk h1).m hi.1 (by omega)
    have := (tkB_tk h1).m
    omega
  · simp at h
/-- All hits are those with E 1, with E 2 and so on. -/
theorem hitsN_add (a b m f : Int) (k : Nat) : ∀ j, hitsN a b m f (k + j) = hitsN a b m f k ++ hitsN a b m (f + k) j
  | 0 => by simp [hitsN]
  | j + 1 => by
    show hitsN a b m f (k + j) ++ (candO a b m (f + ((k + j : Nat) : Int))).toList = _
    rw [hitsN_add a b m f k j, List.append_assoc]
    show _ = hitsN a b m f k ++ (hitsN a b m (f + k) j ++ (candO a b m (f + (k : Int) + (j : Int))).toList)
    rw [show f + ((k + j : Nat) : Int) = f + (k : Int) + (j : Int) by omega]
end
section
open Go Go.RowKit

/-! ### Numerals read back -/
theorem decFrom_app : ∀ (a b : List UInt8) (acc x : Nat), Lib.decFrom acc a = some x → Lib.decFrom acc (a ++ b) = Lib.decFrom x b
  | [], b, acc, x, h => by
    rw [List.nil_append]
    simp only [Lib.decFrom] at h
    injection h with h
    rw [h]
  | c :: a, b, acc, x, h => by
    rw [List.cons_append]
    rw [Lib.decFrom] at h
    rw [Lib.decFrom]
    cases hd : Lib.digitVal c with
    | none => rw [hd] at h; cases h
    | some d => rw [hd] at h; exact decFrom_app a b _ x h
theorem digitVal_of {d : Nat} (h : d < 10) : Lib.digitVal (UInt8.ofNat (48 + d)) = some d := by
  have hb : (UInt8.ofNat (48 + d)).toNat = 48 + d := by simp; omega
  unfold Lib.digitVal
  rw [hb, if_pos (by omega), Nat.add_sub_cancel_left]
theorem decFrom_digits (n : Nat) : Lib.decFrom 0 (Lib.decDigits n) = some n := by
  induction n using Nat.strongRecOn with
  | ind n ih =>
    by_cases h : n < 10
    · rw [Lib.decDigits_one h]
      simp only [Lib.decFrom, digitVal_of h, Nat.zero_mul, Nat.zero_add]
    · rw [Lib.decDigits, dif_neg h, decFrom_app _ _ _ _ (ih (n / 10) (by omega))]
      simp only [Lib.decFrom, digitVal_of (Nat.mod_lt n (by omega : 10 > 0))]
      congr 1
      omega
theorem digits_len : ∀ (k n : Nat), n < 10 ^ (k + 1) → (Lib.decDigits n).length ≤ k + 1
  | 0, n, h => by rw [Lib.decDigits_one (by omega)]; simp
  | k + 1, n, h => by
    by_cases h1 : n < 10
    · rw [Lib.decDigits_one h1]; simp
    · rw [Lib.decDigits, dif_neg h1, List.length_append]
      have := digits_len k (n / 10) (by rw [Nat.pow_succ] at h; omega)
      simp only [List.length_cons, List.length_nil]
      omega
theorem digits_byte (n : Nat) : ∀ b ∈ Lib.decDigits n, 48 ≤ b.toNat ∧ b.toNat ≤ 57 := by
  induction n using Nat.strongRecOn with
  | ind n ih =>
    have key : ∀ d : Nat, d < 10 → (UInt8.ofNat (48 + d)).toNat = 48 + d := fun d hd => by simp; omega
    by_cases h : n < 10
    · rw [Lib.decDigits_one h]
      intro b hb
      have e : b = UInt8.ofNat (48 + n) := by simpa using hb
      rw [e, key n h]; omega
    · rw [Lib.decDigits, dif_neg h]
      intro b hb
      rcases List.mem_append.1 hb with hb | hb
      · exact ih (n / 10) (by omega) b hb
      · have e : b = UInt8.ofNat (48 + n % 10) := by simpa using hb
        rw [e, key _ (Nat.mod_lt n (by omega))]; omega
theorem digits_ne (n : Nat) : Lib.decDigits n ≠ [] := by
  by_cases h : n < 10
  · rw [Lib.decDigits_one h]; simp
  · rw [Lib.decDigits, dif_neg h]; simp
theorem decNat_digits (n : Nat) : Lib.decNat (Lib.decDigits n) = some n := by
  unfold Lib.decNat
  rw [if_neg (by simpa using digits_ne n), decFrom_digits]
theorem atoi_itoa (n : Int) : Lib.atoi (Lib.itoa n) = some n := by
  unfold Lib.itoa
  split
  · rename_i h
    show (if (45 : UInt8) == 45 then (Lib.decNat (Lib.decDigits n.natAbs)).map fun (m : Nat) => -(m : Int) else if (45 : UInt8) == 43 then (Lib.decNat (Lib.decDigits n.natAbs)).map fun (m : Nat) => (m : Int) else (Lib.decNat (45 :: Lib.decDigits n.natAbs)).map fun (m : Nat) => (m : Int)) = _
    rw [if_pos (by rfl), decNat_digits]
    simp only [Option.map_some]
    congr 1
    omega
  · rename_i h
    have hd := digits_byte n.toNat
    have hv := decNat_digits n.toNat
    have hne := digits_ne n.toNat
    generalize Lib.decDigits n.toNat = l at hd hv hne
    cases l with
    | nil => exact absurd rfl hne
    | cons b r =>
      have hb := hd b (by simp)
      show (if b == 45 then (Lib.decNat r).map fun (m : Nat) => -(m : Int) else if b == 43 then (Lib.decNat r).map fun (m : Nat) => (m : Int) else (Lib.decNat (b :: r)).map fun (m : Nat) => (m : Int)) = _
      rw [if_neg (by intro e; have := beq_iff_eq.1 e; subst this; exact absurd hb.1 (by decide)), if_neg (by intro e; have := beq_iff_eq.1 e; subst this; exact absurd hb.1 (by decide)), hv]
      simp only [Option.map_some]
      congr 1
      omega
theorem itoa_len {n : Int} (k : Nat) (h : n.natAbs < 10 ^ (k + 1)) : (Lib.itoa n).length ≤ k + 2 := by
  unfold Lib.itoa
  split
  · have := digits_len k n.natAbs h
    simp only [List.length_cons]; omega
  · have := digits_len k n.toNat (by omega)
    omega
theorem atoiAll_itS (n : Int) (h : n.natAbs < 10 ^ 15) : Lib.atoiAll (itS n).data.toList = .ok n := by
  have e : (itS n).data.toList = Lib.itoa n := rfl
  rw [e, Lib.atoiAll_short _ (by have := itoa_len (n := n) 14 h; omega), atoi_itoa]
  rfl
theorem itoa_byte (n : Int) : ∀ b ∈ Lib.itoa n, b.toNat = 45 ∨ 48 ≤ b.toNat ∧ b.toNat ≤ 57 := by
  unfold Lib.itoa
  split
  · intro b hb
    rcases List.mem_cons.1 hb with rfl | hb
    · exact Or.inl (by decide)
    · exact Or.inr (digits_byte _ b hb)
  · exact fun b hb => Or.inr (digits_byte _ b hb)

/-! ### Words parted by a byte -/
theorem ix_none (c : UInt8) : ∀ w : List UInt8, c ∉ w → Lib.index w [c] = -1
  | [], _ => rfl
  | b :: l, h => by
    have hne : c ≠ b := fun e => h (by simp [e])
    unfold Lib.index
    rw [if_neg (by simp [List.isPrefixOf, hne]), ix_none c l (fun h2 => h (by simp [h2]))]
    rfl
theorem ix_here (c : UInt8) (r : List UInt8) : ∀ w : List UInt8, c ∉ w → Lib.index (w ++ c :: r) [c] = w.length
  | [], _ => by
    rw [List.nil_append]
    unfold Lib.index
    rw [if_pos (by simp [List.isPrefixOf])]
    rfl
  | b :: l, h => by
    have hne : c ≠ b := fun e => h (by simp [e])
    rw [List.cons_append]
    unfold Lib.index
    rw [if_neg (by simp [List.isPrefixOf, hne]), ix_here c r l (fun h2 => h (by simp [h2]))]
    rw [if_neg (by intro e; have := beq_iff_eq.1 e; omega)]
    simp
theorem cut_here (c : UInt8) (w r : List UInt8) (h : c ∉ w) : (Lib.cut (w ++ c :: r) [c]).1 = w := by
  unfold Lib.cut
  rw [ix_here c r w h, if_pos (by omega)]
  simp
theorem join2 (c : UInt8) (x y : List UInt8) (r : List (List UInt8)) : Lib.join (x :: y :: r) [c] = x ++ c :: Lib.join (y :: r) [c] := by
  rw [Lib.join_cons, Lib.join_cons]
  simp [Lib.joinTail]
theorem splitK_join (c : UInt8) : ∀ (r : List (List UInt8)) (x : List UInt8), (∀ w ∈ x :: r, c ∉ w) → Lib.splitK [c] 0 r.length (Lib.join (x :: r) [c]) = x :: r
  | [], x, _ => by rw [Lib.join_one]; rfl
  | y :: r, x, h => by
    have ih := splitK_join c r y (fun w hw => h w (by simp at hw ⊢; exact Or.inr hw))
    rw [join2, List.length_cons]
    unfold Lib.splitK
    rw [ix_here c _ x (h x (by simp)), if_neg (by intro e; have := beq_iff_eq.1 e; omega)]
    simp only [Int.toNat_natCast, Nat.add_zero, List.take_left', List.length_cons, List.length_nil, Nat.zero_add]
    rw [show (x ++ c :: Lib.join (y :: r) [c]).drop (x.length + 1) = Lib.join (y :: r) [c] by rw [← List.drop_drop, List.drop_left]; rfl, ih]
theorem count_join (c : UInt8) : ∀ (r : List (List UInt8)) (x : List UInt8), (∀ w ∈ x :: r, c ∉ w) → (Lib.join (x :: r) [c]).count c = r.length
  | [], x, h => by rw [Lib.join_one, List.count_eq_zero.2 (h x (by simp))]; rfl
  | y :: r, x, h => by
    rw [join2, List.count_append, List.count_cons_self, count_join c r y (fun w hw => h w (by simp at hw ⊢; exact Or.inr hw)), List.count_eq_zero.2 (h x (by simp)), List.length_cons]
    omega
/-- The words of numerals, parted at the blanks. -/
theorem split_nText (e : Int) (es : List Int) : Lib.countB (nText (e :: es)) ⟨#[32]⟩ = es.length ∧ Lib.splitB ⟨#[32]⟩ 0 (Lib.countB (nText (e :: es)) ⟨#[32]⟩) (nText (e :: es)) = (e :: es).map itS := by
  have hno : ∀ w ∈ ((e :: es).map itS).map (·.data.toList), (32 : UInt8) ∉ w := by
    intro w hw h32
    simp only [List.map_map, List.mem_map] at hw
    obtain ⟨n, -, rfl⟩ := hw
    have := itoa_byte n 32 h32
    revert this; decide
  have hd : (nText (e :: es)).data.toList = Lib.join (((e :: es).map itS).map (·.data.toList)) [32] := rfl
  have hc : Lib.countB (nText (e :: es)) ⟨#[32]⟩ = es.length := by
    show Lib.count (nText (e :: es)).data.toList [32] = es.length
    rw [Lib.count_one, hd, List.map_cons, List.map_cons, count_join 32 _ _ (by simpa using hno)]
    simp
  refine ⟨hc, ?_⟩
  have h1 := Lib.splitB_data ⟨#[32]⟩ 0 (Lib.countB (nText (e :: es)) ⟨#[32]⟩) (nText (e :: es))
  rw [hc] at h1 ⊢
  have h2 := splitK_join 32 ((es.map itS).map (·.data.toList)) (itS e).data.toList (by simpa using hno)
  rw [hd, List.map_cons, List.map_cons] at h1
  simp only [List.length_map] at h2
  rw [show (⟨#[32]⟩ : ByteArray).data.toList = [32] from rfl, h2] at h1
  refine (List.map_inj_right (f := fun x : ByteArray => x.data.toList) (fun a b h => by
    obtain ⟨⟨a⟩⟩ := a; obtain ⟨⟨b⟩⟩ := b
    exact congrArg (fun l => ByteArray.mk ⟨l⟩) h)).1 (h1.trans ?_)
  rfl
end
section
open Go Go.RowKit

theorem kept_of_below {w w' : World} (hb : Below w.heap.size w w') : w.keptBut w' (fun _ => False) := ⟨hb.os, hb.output, fun i hi => by
  rw [hb.block i hi]
  cases h : w.heap[i]? with
  | none => rfl
  | some o => cases o with
    | cells c t fr => exact ⟨rfl, rfl, rfl, fun _ _ => rfl⟩
    | map es clock => exact Or.inr ⟨rfl, rfl⟩
    | _ => rfl⟩
theorem shaped_on {w w' : World} (h : w.ShapedOpen Tryz.prog) (hb : Below w.heap.size w w') : w'.ShapedOpen Tryz.prog := h.keptBut (kept_of_below hb) (fun _ hf => hf.elim)
theorem var_on {w w' : World} {n : String} {cs : Array Value} (h : w.var? Tryz.prog n = some cs) (hb : Below w.heap.size w w') : w'.var? Tryz.prog n = some cs := by
  unfold World.var? at h ⊢
  cases hg : Tryz.prog.globalNamed n with
  | none => rw [hg] at h; cases h
  | some g =>
    rw [hg] at h
    simp only [Option.bind_some] at h ⊢
    rcases Nat.lt_or_ge g w.heap.size with hl | hl
    · rw [hb.block g hl]; exact h
    · rw [Array.getElem?_eq_none hl] at h; cases h
structure Env (w : World) : Prop where
  tab : Tab w
  sh : w.ShapedOpen Tryz.prog
  es : ∃ tp p, w.var? Tryz.prog "strconv.ErrSyntax" = some #[.iface tp p]
  er : ∃ tp p, w.var? Tryz.prog "strconv.ErrRange" = some #[.iface tp p]
theorem Env.on {w w' : World} (h : Env w) (hb : Below w.heap.size w w') : Env w' :=
  ⟨h.tab.on hb, shaped_on h.sh hb, let ⟨tp, p, h1⟩ := h.es; ⟨tp, p, var_on h1 hb⟩, let ⟨tp, p, h1⟩ := h.er; ⟨tp, p, var_on h1 hb⟩⟩

/-- How strconv.Atoi ends: a number; or none, and an error. -/
def AtP (s : ByteArray) (e : Ending) : Prop :=
  (∃ v : Int, Lib.atoiAll s.data.toList = .ok v ∧ -9223372036854775808 ≤ v ∧ v ≤ 9223372036854775807 ∧ e = .returned (.tuple #[.int .i64 v, .nilIface])) ∨
  ((∀ v : Int, Lib.atoiAll s.data.toList ≠ .ok v) ∧ ∃ (v : Int) (t : TypeId) (N : Nat), e = .returned (.tuple #[.int .i64 v, .iface t (.pointer (some ⟨N, 0, none⟩))]))
theorem atoi_any (s : ByteArray) (w : World) (hs : s.size ≤ 100000000) (h : Env w) : Calls Tryz.prog 71 #[.string s] w fun e w' => AtP s e ∧ Below w.heap.size w w' := by
  obtain ⟨tp, p, h1⟩ := h.es
  obtain ⟨tq, q, h2⟩ := h.er
  rcases hh : Lib.atoiAll s.data.toList with v | _ | _
  · refine (Tryz.strconv_Atoi_ok s (by omega) v hh w).mono fun e w' hp => ?_
    obtain ⟨he, hw⟩ := hp
    refine ⟨Or.inl ⟨v, hh, (Lib.atoiAll_bounds hh).1, (Lib.atoiAll_bounds hh).2, he⟩, ?_⟩
    rcases hw with rfl | ⟨t, rfl⟩
    · exact Below.refl _ _
    · exact Lib.bytesWorld_below _ _ _
  · refine (Any.strconv_Atoi_syntax_var Tryz.laysC172 s (by omega) hh tp p w h1).mono fun e w' hp => ?_
    obtain ⟨N, he, -, -, hb⟩ := hp
    exact ⟨Or.inr ⟨(fun v hv => by rw [hh] at hv; cases hv), 0, _, N, he⟩, hb⟩
  · refine (Any.strconv_Atoi_range_var Tryz.laysC172 s (by omega) hh tq q w h2).mono fun e w' hp => ?_
    obtain ⟨N, he, -, -, hb⟩ := hp
    exact ⟨Or.inr ⟨(fun v hv => by rw [hh] at hv; cases hv), _, _, N, he⟩, hb⟩
/-- The text ahead of the mark, and its words. -/
def jrT (line : ByteArray) : ByteArray := ⟨(Lib.cut line.data.toList [35]).1.toArray⟩
def jrW (line : ByteArray) : List ByteArray := Lib.splitB ⟨#[32]⟩ 0 (Lib.countB (jrT line) ⟨#[32]⟩) (jrT line)
theorem jrT_size (line : ByteArray) : (jrT line).size ≤ line.size := by
  have h : (Lib.cut line.data.toList [35]).1.length ≤ line.data.toList.length := by
    unfold Lib.cut
    split
    · rw [List.length_take]; exact Nat.min_le_right _ _
    · exact Nat.le_refl _
  exact h
theorem jrW_length (line : ByteArray) : (jrW line).length = Lib.countB (jrT line) ⟨#[32]⟩ + 1 := Lib.splitB_all ⟨#[32]⟩ (by decide) 0 _ _ rfl
theorem no35 (es : List Int) : (35 : UInt8) ∉ (nText es).data.toList := by
  intro h
  have h2 : (35 : UInt8) ∈ Lib.join ((es.map itS).map (·.data.toList)) [32] := h
  cases es with
  | nil => simp [Lib.join] at h2
  | cons e es =>
    have key : ∀ (r : List (List UInt8)) (x : List UInt8), (∀ w ∈ x :: r, (35 : UInt8) ∉ w) → (35 : UInt8) ∉ Lib.join (x :: r) [32] := by
      intro r
      induction r with
      | nil => intro x hx; rw [Lib.join_one]; exact hx x (by simp)
      | cons y r ih =>
        intro x hx
        rw [join2]
        intro hm
        rcases List.mem_append.1 hm with hm | hm
        · exact hx x (by simp) hm
        · rcases List.mem_cons.1 hm with hm | hm
          · revert hm; decide
          · exact ih y (fun w hw => hx w (by simp at hw ⊢; exact Or.inr hw)) hm
    refine key _ _ (fun w hw h35 => ?_) h2
    rw [← List.map_cons (f := fun x : ByteArray => x.data.toList), ← List.map_cons (f := itS)] at hw
    simp only [List.map_map, List.mem_map] at hw
    obtain ⟨n, -, rfl⟩ := hw
    have := itoa_byte n 35 h35
    revert this; decide
theorem line_text (k a b lo hi : Int) : jrT (lineS k a b lo hi) = nText [k, a, b, lo, hi] := by
  have hd : (lineS k a b lo hi).data.toList = (nText [k, a, b, lo, hi]).data.toList ++ 35 :: ((itS (sumL (nText [k, a, b, lo, hi]).data.toList)).data.toList ++ [10]) := by
    unfold lineS
    simp
  unfold jrT
  rw [hd, cut_here 35 _ _ (no35 _)]
theorem line_words (k a b lo hi : Int) : jrW (lineS k a b lo hi) = [itS k, itS a, itS b, itS lo, itS hi] := by
  unfold jrW
  rw [line_text]
  exact (split_nText k [a, b, lo, hi]).2
end
section
open Go Go.RowKit

def okNums (ws : List ByteArray) (xs : List Int) : Prop := ws.map (fun s => Lib.atoiAll s.data.toList) = xs.map Lib.NumEnd.ok
theorem okNums_nil : okNums [] [] := rfl
theorem okNums_snoc {ws : List ByteArray} {xs : List Int} {j : Nat} {v : Int} (h : okNums (ws.take j) xs) (hj : j < ws.length) (hv : Lib.atoiAll ws[j].data.toList = .ok v) : okNums (ws.take (j + 1)) (xs ++ [v]) := by
  unfold okNums at h ⊢
  rw [List.take_succ_eq_append_getElem hj, List.map_append, List.map_append, h]
  simp [hv]
def RdP (k : Int) (line : ByteArray) (e : Ending) : Prop :=
  (∃ a b lo hi : Int, recB a b lo hi = true ∧ lineS k a b lo hi = line ∧ e = .returned (.tuple #[.agg #[.int .i64 a, .int .i64 b, .int .i64 lo, .int .i64 hi], .bool true])) ∨
  ((∀ a b lo hi : Int, recB a b lo hi = true → lineS k a b lo hi ≠ line) ∧ ∃ a b lo hi : Int, e = .returned (.tuple #[.agg #[.int .i64 a, .int .i64 b, .int .i64 lo, .int .i64 hi], .bool false]))
theorem recB_bd {k a b lo hi : Int} (h : recB a b lo hi = true) (hk : 0 ≤ k ∧ k ≤ 29) : RcB k a b lo hi := by
  unfold recB at h
  simp only [Bool.and_eq_true, decide_eq_true_eq] at h
  have h2 := curveB_bd h.1
  exact ⟨hk, h2.1, h2.2, by omega, by omega⟩
theorem rec_words {k a b lo hi : Int} {line : ByteArray} (h : recB a b lo hi = true) (hk : 0 ≤ k ∧ k ≤ 29) (hl : lineS k a b lo hi = line) : okNums (jrW line) [k, a, b, lo, hi] := by
  have hb := recB_bd h hk
  have h1 := hb.a; have h2 := hb.b; have h3 := hb.lo; have h4 := hb.hi
  rw [← hl]
  unfold okNums
  rw [line_words]
  simp only [List.map_cons, List.map_nil]
  rw [atoiAll_itS k (by omega), atoiAll_itS a (by omega), atoiAll_itS b (by omega), atoiAll_itS lo (by omega), atoiAll_itS hi (by omega)]
theorem okNums_inj {ws : List ByteArray} {xs ys : List Int} (h : okNums ws xs) (h2 : okNums ws ys) : xs = ys := by
  unfold okNums at h h2
  have h3 := h.symm.trans h2
  exact (List.map_inj_right (fun a b e => by injection e)).1 h3
theorem not_rec_len {k : Int} {line : ByteArray} (hk : 0 ≤ k ∧ k ≤ 29) (hn : (jrW line).length ≠ 5) : ∀ a b lo hi : Int, recB a b lo hi = true → lineS k a b lo hi ≠ line := by
  intro a b lo hi h hl
  have := congrArg List.length (rec_words h hk hl)
  simp at this
  exact hn this
theorem not_rec_word {k : Int} {line : ByteArray} {j : Nat} (hk : 0 ≤ k ∧ k ≤ 29) (hj : j < (jrW line).length) (hn : ∀ v : Int, Lib.atoiAll (jrW line)[j].data.toList ≠ .ok v) : ∀ a b lo hi : Int, recB a b lo hi = true → lineS k a b lo hi ≠ line := by
  intro a b lo hi h hl
  have h1 := rec_words h hk hl
  unfold okNums at h1
  have h2 := congrArg (fun l => l[j]?) h1
  simp only [List.getElem?_map, List.getElem?_eq_getElem hj, Option.map_some] at h2
  cases h5 : [k, a, b, lo, hi][j]? with
  | none => rw [h5] at h2; cases h2
  | some v => rw [h5] at h2; exact hn v (Option.some.inj h2)
theorem not_rec_vals {k a b lo hi x0 : Int} {line : ByteArray} (hk : 0 ≤ k ∧ k ≤ 29) (hw : okNums (jrW line) [x0, a, b, lo, hi]) (hn : ¬ (recB a b lo hi = true ∧ lineS k a b lo hi = line)) : ∀ a b lo hi : Int, recB a b lo hi = true → lineS k a b lo hi ≠ line := by
  intro a' b' lo' hi' h hl
  have h1 := okNums_inj hw (rec_words h hk hl)
  simp only [List.cons.injEq, and_true] at h1
  obtain ⟨-, rfl, rfl, rfl, rfl⟩ := h1
  exact hn ⟨h, hl⟩
theorem drewN_below (w : World) (n : Nat) : Below w.heap.size w (w.drewN n) := ⟨rfl, rfl, rfl, Nat.le_refl _, fun _ _ => rfl⟩
theorem cut_any (line : ByteArray) (w : World) (hs : line.size ≤ 100000000) (h : Env w) : Calls Tryz.prog 70 #[.string line, .string ⟨#[35]⟩] w fun e w' => (∃ u b, e = .returned (.tuple #[.string (jrT line), .string u, .bool b])) ∧ Below w.heap.size w w' := by
  refine (Tryz.strings_Cut_shaped line ⟨#[35]⟩ w h.sh (by omega)).mono fun e w' hp => ?_
  obtain ⟨he, n, rfl⟩ := hp
  exact ⟨⟨_, _, he⟩, drewN_below w n⟩
theorem split_any (line : ByteArray) (w : World) (hs : line.size ≤ 100000000) (h : Env w) : Calls Tryz.prog 67 #[.string (jrT line), .string ⟨#[32]⟩] w fun e w' => e = .returned (.slice (some ⟨w.heap.size, 0, none⟩) (jrW line).length (jrW line).length) ∧ Blk w' w.heap.size 9 ((jrW line).map Value.string).toArray ∧ Below w.heap.size w w' := by
  refine (Tryz.strings_Split_shaped (jrT line) ⟨#[32]⟩ w h.sh (by have := jrT_size line; omega) (by decide)).mono fun e w' hp => ?_
  obtain ⟨he, rfl⟩ := hp
  rw [jrW_length]
  exact ⟨he, Blk.new w _ _, bal (Below.refl _ _) _⟩
end
section
open Go Go.RowKit

structure Rc where
  a : Int
  b : Int
  lo : Int
  hi : Int
  deriving DecidableEq
def rcS : Shape Rc := ⟨4, fun e j => match j with | 0 => .int .i64 e.a | 1 => .int .i64 e.b | 2 => .int .i64 e.lo | _ => .int .i64 e.hi, ⟨0, 0, 0, 0⟩⟩
def Rc.agg (r : Rc) : Value := .agg #[.int .i64 r.a, .int .i64 r.b, .int .i64 r.lo, .int .i64 r.hi]
def Rc.ok (r : Rc) : Bool := recB r.a r.b r.lo r.hi
def Rc.line (k : Int) (r : Rc) : ByteArray := lineS k r.a r.b r.lo r.hi

/-- The record of a line with a number, if there is one. -/
def rdL (k : Int) (line : ByteArray) : Option Rc :=
  match (jrW line).map (fun s => Lib.atoiAll s.data.toList) with
  | [.ok _, .ok a, .ok b, .ok lo, .ok hi] => if recB a b lo hi = true ∧ (lineS k a b lo hi).data.toList = line.data.toList then some ⟨a, b, lo, hi⟩ else none
  | _ => none
theorem bytes_ext {a b : ByteArray} (h : a.data.toList = b.data.toList) : a = b := by
  obtain ⟨⟨a⟩⟩ := a; obtain ⟨⟨b⟩⟩ := b
  exact congrArg (fun l => ByteArray.mk ⟨l⟩) h
theorem rdL_some {k : Int} {line : ByteArray} {r : Rc} (h : r.ok = true) (hk : 0 ≤ k ∧ k ≤ 29) (hl : r.line k = line) : rdL k line = some r := by
  have h1 := rec_words h hk hl
  unfold okNums at h1
  unfold rdL
  rw [h1]
  simp only [List.map_cons, List.map_nil]
  rw [if_pos ⟨h, by rw [← hl]; rfl⟩]
theorem rdL_spec {k : Int} {line : ByteArray} {r : Rc} (h : rdL k line = some r) : r.ok = true ∧ r.line k = line := by
  unfold rdL at h
  split at h
  · split at h
    · rename_i hh
      injection h with h
      subst h
      exact ⟨hh.1, bytes_ext hh.2⟩
    · cases h
  · cases h
theorem RdP.cases {k : Int} {line : ByteArray} {e : Ending} (hk : 0 ≤ k ∧ k ≤ 29) (h : RdP k line e) :
    (∃ r : Rc, rdL k line = some r ∧ r.ok = true ∧ r.line k = line ∧ e = .returned (.tuple #[.agg #[.int .i64 r.a, .int .i64 r.b, .int .i64 r.lo, .int .i64 r.hi], .bool true])) ∨
    (rdL k line = none ∧ ∃ a b lo hi : Int, e = .returned (.tuple #[.agg #[.int .i64 a, .int .i64 b, .int .i64 lo, .int .i64 hi], .bool false])) := by
  rcases h with ⟨a, b, lo, hi, h1, h2, rfl⟩ | ⟨h1, a, b, lo, hi, rfl⟩
  · exact Or.inl ⟨⟨a, b, lo, hi⟩, rdL_some (r := ⟨a, b, lo, hi⟩) h1 hk h2, h1, h2, rfl⟩
  · refine Or.inr ⟨?_, a, b, lo, hi, rfl⟩
    cases hr : rdL k line with
    | none => rfl
    | some r => exact absurd (rdL_spec hr).2 (h1 _ _ _ _ (rdL_spec hr).1)

/-! ### The first newline -/
theorem ixb_app : ∀ (l p : List UInt8) (c : UInt8), 0 ≤ Lib.indexByte l c → Lib.indexByte (l ++ p) c = Lib.indexByte l c
  | [], _, _, h => absurd (show (0 : Int) ≤ -1 from h) (by decide)
  | b :: l, p, c, h => by
    rw [List.cons_append]
    unfold Lib.indexByte at h ⊢
    by_cases hb : (b == c) = true
    · rw [if_pos hb, if_pos hb]
    · rw [if_neg hb] at h ⊢
      rw [if_neg hb]
      by_cases h2 : (Lib.indexByte l c == -1) = true
      · rw [if_pos h2] at h
        exact absurd h (by decide)
      · rw [if_neg h2]
        have hge := Lib.indexByte_ge l c
        have hne : Lib.indexByte l c ≠ -1 := fun e => h2 (by rw [e]; rfl)
        rw [ixb_app l p c (by omega), if_neg h2]
theorem ixb_lt : ∀ (l : List UInt8) (c : UInt8), 0 ≤ Lib.indexByte l c → (Lib.indexByte l c).toNat < l.length
  | [], _, h => absurd (show (0 : Int) ≤ -1 from h) (by decide)
  | b :: l, c, h => by
    unfold Lib.indexByte at h ⊢
    by_cases hb : (b == c) = true
    · rw [if_pos hb]; simp
    · rw [if_neg hb] at h ⊢
      by_cases h2 : (Lib.indexByte l c == -1) = true
      · rw [if_pos h2] at h
        exact absurd h (by decide)
      · rw [if_neg h2]
        have hge := Lib.indexByte_ge l c
        have hne : Lib.indexByte l c ≠ -1 := fun e => h2 (by rw [e]; rfl)
        have := ixb_lt l c (by omega)
        rw [List.length_cons]
        omega

/-! ### The records at the beginning of a text -/
def openF : Nat → Int → List UInt8 → List Rc × Nat
  | 0, _, _ => ([], 0)
  | F + 1, k, l =>
    if Lib.indexByte l 10 < 0 then ([], 0) else
      match rdL k ⟨(l.take ((Lib.indexByte l 10).toNat + 1)).toArray⟩ with
      | none => ([], 0)
      | some r => (r :: (openF F (k + 1) (l.drop ((Lib.indexByte l 10).toNat + 1))).1, (Lib.indexByte l 10).toNat + 1 + (openF F (k + 1) (l.drop ((Lib.indexByte l 10).toNat + 1))).2)
theorem openF_zero (k : Int) (l : List UInt8) : openF 0 k l = ([], 0) := rfl
theorem openF_none {F : Nat} {k : Int} {l : List UInt8} (h : Lib.indexByte l 10 < 0) : openF F k l = ([], 0) := by
  cases F with
  | zero => rfl
  | succ F => unfold openF; rw [if_pos h]
theorem openF_bad {F : Nat} {k : Int} {l : List UInt8} (h : rdL k ⟨(l.take ((Lib.indexByte l 10).toNat + 1)).toArray⟩ = none) : openF F k l = ([], 0) := by
  cases F with
  | zero => rfl
  | succ F =>
    unfold openF
    split
    · rfl
    · rw [h]
theorem openF_step {F : Nat} {k : Int} {l : List UInt8} {r : Rc} (h0 : 0 ≤ Lib.indexByte l 10) (h : rdL k ⟨(l.take ((Lib.indexByte l 10).toNat + 1)).toArray⟩ = some r) :
    openF (F + 1) k l = (r :: (openF F (k + 1) (l.drop ((Lib.indexByte l 10).toNat + 1))).1, (Lib.indexByte l 10).toNat + 1 + (openF F (k + 1) (l.drop ((Lib.indexByte l 10).toNat + 1))).2) := by
  rw [openF, if_neg (by omega), h]
/-- The two ways. -/
theorem openF_cases (F : Nat) (k : Int) (l : List UInt8) : openF F k l = ([], 0) ∨
    ∃ G r, F = G + 1 ∧ 0 ≤ Lib.indexByte l 10 ∧ rdL k ⟨(l.take ((Lib.indexByte l 10).toNat + 1)).toArray⟩ = some r ∧
      openF F k l = (r :: (openF G (k + 1) (l.drop ((Lib.indexByte l 10).toNat + 1))).1, (Lib.indexByte l 10).toNat + 1 + (openF G (k + 1) (l.drop ((Lib.indexByte l 10).toNat + 1))).2) := by
  cases F with
  | zero => exact Or.inl rfl
  | succ G =>
    by_cases h0 : Lib.indexByte l 10 < 0
    · exact Or.inl (openF_none h0)
    · cases h : rdL k ⟨(l.take ((Lib.indexByte l 10).toNat + 1)).toArray⟩ with
      | none => exact Or.inl (openF_bad h)
      | some r => exact Or.inr ⟨G, r, rfl, by omega, by first | rfl | exact h, openF_step (by omega) h⟩
theorem openF_le : ∀ (F : Nat) (k : Int) (l : List UInt8), (openF F k l).1.length ≤ F ∧ (openF F k l).2 ≤ l.length := by
  intro F
  induction F with
  | zero => exact fun k l => ⟨Nat.le_refl _, Nat.zero_le _⟩
  | succ F ih =>
    intro k l
    rcases openF_cases (F + 1) k l with h | ⟨G, r, hG, h0, -, h⟩
    · rw [h]; exact ⟨Nat.zero_le _, Nat.zero_le _⟩
    · obtain rfl : F = G := by omega
      have h2 := ih (k + 1) (l.drop ((Lib.indexByte l 10).toNat + 1))
      have h3 := ixb_lt l 10 h0
      rw [h]
      rw [List.length_drop] at h2
      exact ⟨by rw [List.length_cons]; omega, by show (Lib.indexByte l 10).toNat + 1 + _ ≤ _; omega⟩
theorem openF_ok : ∀ (F : Nat) (k : Int) (l : List UInt8), ∀ r ∈ (openF F k l).1, r.ok = true := by
  intro F
  induction F with
  | zero => exact fun k l r h => by cases h
  | succ F ih =>
    intro k l r hr
    rcases openF_cases (F + 1) k l with h | ⟨G, r', hG, h0, hr', h⟩
    · rw [h] at hr; cases hr
    · obtain rfl : F = G := by omega
      rw [h] at hr
      rcases List.mem_cons.1 hr with rfl | hr
      · exact (rdL_spec hr').1
      · exact ih _ _ r hr
/-- What all of a text is made of goes ahead of any other text. -/
theorem openF_app : ∀ (F : Nat) (k : Int) (D P : List UInt8), (openF F k D).2 = D.length →
    openF F k (D ++ P) = ((openF F k D).1 ++ (openF (F - (openF F k D).1.length) (k + (openF F k D).1.length) P).1, D.length + (openF (F - (openF F k D).1.length) (k + (openF F k D).1.length) P).2) := by
  intro F
  induction F with
  | zero =>
    intro k D P h
    obtain rfl : D = [] := List.eq_nil_of_length_eq_zero h.symm
    rfl
  | succ F ih =>
    intro k D P h
    rcases openF_cases (F + 1) k D with hc | ⟨G, r, hG, h0, hr, hc⟩
    · rw [hc] at h
      obtain rfl : D = [] := List.eq_nil_of_length_eq_zero h.symm
      rw [hc, List.nil_append]
      simp
    · obtain rfl : F = G := by omega
      have h3 := ixb_lt D 10 h0
      have hx := ixb_app D P 10 h0
      rw [hc] at h
      have h' : (openF F (k + 1) (D.drop ((Lib.indexByte D 10).toNat + 1))).2 = (D.drop ((Lib.indexByte D 10).toNat + 1)).length := by
        rw [List.length_drop]
        simp only at h
        omega
      have h4 := ih (k + 1) (D.drop ((Lib.indexByte D 10).toNat + 1)) P h'
      have ht : (D ++ P).take ((Lib.indexByte (D ++ P) 10).toNat + 1) = D.take ((Lib.indexByte D 10).toNat + 1) := by
        rw [hx, List.take_append_of_le_length (by omega)]
      have hd : (D ++ P).drop ((Lib.indexByte (D ++ P) 10).toNat + 1) = D.drop ((Lib.indexByte D 10).toNat + 1) ++ P := by
        rw [hx, List.drop_append_of_le_length (by omega)]
      rw [openF_step (by rw [hx]; exact h0) (by rw [ht]; exact hr), hd, h4, hc, hx]
      have e5 : ∀ n : Nat, k + ((n + 1 : Nat) : Int) = k + 1 + (n : Int) := fun n => by omega
      simp only [List.length_cons, List.cons_append, e5]
      rw [show F + 1 - ((openF F (k + 1) (D.drop ((Lib.indexByte D 10).toNat + 1))).1.length + 1) = F - (openF F (k + 1) (D.drop ((Lib.indexByte D 10).toNat + 1))).1.length by omega]
      rw [List.length_drop]
      simp only [Prod.mk.injEq, true_and]
      omega

/-! ### How long a line is -/
theorem line_len {k : Int} {r : Rc} (h : r.ok = true) (hk : 0 ≤ k ∧ k ≤ 29) : (r.line k).size ≤ 40 := by
  have hb := recB_bd h hk
  have e : (r.line k).data.toList = Lib.itoa k ++ 32 :: (Lib.itoa r.a ++ 32 :: (Lib.itoa r.b ++ 32 :: (Lib.itoa r.lo ++ 32 :: (Lib.itoa r.hi ++ 35 :: (Lib.itoa (sumL (nText [k, r.a, r.b, r.lo, r.hi]).data.toList) ++ [10]))))) := by
    unfold Rc.line lineS nText itS
    simp [Lib.join, List.intercalate]
  have h2 := hb.a; have h3 := hb.b; have h4 := hb.lo; have h5 := hb.hi
  have h6 := sumL_bd (nText [k, r.a, r.b, r.lo, r.hi]).data.toList
  have l1 := itoa_len (n := k) 1 (by omega)
  have l2 := itoa_len (n := r.a) 3 (by omega)
  have l3 := itoa_len (n := r.b) 4 (by omega)
  have l4 := itoa_len (n := r.lo) 1 (by omega)
  have l5 := itoa_len (n := r.hi) 1 (by omega)
  have l6 := itoa_len (n := sumL (nText [k, r.a, r.b, r.lo, r.hi]).data.toList) 6 (by omega)
  have e2 := congrArg List.length e
  simp only [List.length_append, List.length_cons, List.length_nil] at e2
  have e3 : (r.line k).data.toList.length = (r.line k).size := rfl
  omega
theorem openF_size : ∀ (F : Nat) (k : Int) (l : List UInt8), 0 ≤ k → k + F ≤ 30 → (openF F k l).2 ≤ 40 * (openF F k l).1.length := by
  intro F
  induction F with
  | zero => exact fun k l _ _ => Nat.le_refl _
  | succ F ih =>
    intro k l hk hF
    rcases openF_cases (F + 1) k l with h | ⟨G, r, hG, h0, hr, h⟩
    · rw [h]; exact Nat.zero_le _
    · obtain rfl : F = G := by omega
      have h2 := ih (k + 1) (l.drop ((Lib.indexByte l 10).toNat + 1)) (by omega) (by omega)
      have h3 := ixb_lt l 10 h0
      have h4 := line_len (rdL_spec hr).1 (k := k) (by omega)
      rw [(rdL_spec hr).2] at h4
      have h5 : (⟨(l.take ((Lib.indexByte l 10).toNat + 1)).toArray⟩ : ByteArray).size = (Lib.indexByte l 10).toNat + 1 := by
        show (l.take ((Lib.indexByte l 10).toNat + 1)).toArray.size = _
        rw [List.size_toArray, List.length_take]; omega
      rw [h]
      simp only [List.length_cons]
      omega

/-! ### Journals -/
def jrA (D : ByteArray) : List Rc × Nat := openF 30 0 D.data.toList
def jrN (D P : ByteArray) : List Rc × Nat := openF (30 - (jrA D).1.length) ((jrA D).1.length : Int) P.data.toList
/-- A journal is valid. -/
def jrOk (D P : ByteArray) : Bool := decide ((jrA D).2 = D.size ∧ (jrN D P).2 = P.size)
/-- Its records. -/
def jrRecs (D P : ByteArray) : List Rc := (jrA D).1 ++ (jrN D P).1
theorem jrA_le (D : ByteArray) : (jrA D).1.length ≤ 30 ∧ (jrA D).2 ≤ D.size := openF_le 30 0 D.data.toList
theorem jrN_le (D P : ByteArray) : (jrN D P).1.length ≤ 30 - (jrA D).1.length ∧ (jrN D P).2 ≤ P.size := openF_le _ _ P.data.toList
theorem jrRecs_len (D P : ByteArray) : (jrRecs D P).length ≤ 30 := by
  have h1 := jrA_le D; have h2 := jrN_le D P
  unfold jrRecs
  rw [List.length_append]; omega
theorem jrRecs_ok (D P : ByteArray) : ∀ r ∈ jrRecs D P, r.ok = true := by
  intro r hr
  rcases List.mem_append.1 hr with h | h
  · exact openF_ok _ _ _ r h
  · exact openF_ok _ _ _ r h
theorem jr_size {D P : ByteArray} (h : jrOk D P = true) : D.size + P.size ≤ 1200 := by
  unfold jrOk at h
  have h0 := of_decide_eq_true h
  have h1 := jrA_le D; have h2 := jrN_le D P
  have s1 : (jrA D).2 ≤ 40 * (jrA D).1.length := openF_size 30 0 D.data.toList (by omega) (by omega)
  have s2 : (jrN D P).2 ≤ 40 * (jrN D P).1.length := openF_size (30 - (jrA D).1.length) _ P.data.toList (by omega) (by omega)
  omega
theorem jr_both {D P : ByteArray} (h : (jrA D).2 = D.size) : jrA (D ++ P) = (jrRecs D P, D.size + (jrN D P).2) := by
  have h1 := openF_app 30 0 D.data.toList P.data.toList h
  have e : (D ++ P).data.toList = D.data.toList ++ P.data.toList := by simp
  unfold jrRecs jrN jrA at *
  rw [e, h1, Int.zero_add]
  rfl
/-- The reference's way to say it. -/
theorem jrOk_spec (D P : ByteArray) : jrOk D P = (decide (D.size ≤ 4000) && (decide (P.size ≤ 4000) && (decide ((D ++ P).size ≤ 4000) && (decide ((jrA (D ++ P)).2 = D.size + P.size) && decide ((jrA D).2 = D.size))))) := by
  rw [Bool.eq_iff_iff]
  simp only [Bool.and_eq_true, decide_eq_true_eq]
  rw [ByteArray.size_append]
  constructor
  · intro h
    have hs := jr_size h
    have h0 := of_decide_eq_true h
    refine ⟨by omega, by omega, by omega, ?_, h0.1⟩
    rw [jr_both h0.1]
    show D.size + _ = _
    rw [h0.2]
  · rintro ⟨-, -, -, h1, h2⟩
    rw [jr_both h2] at h1
    unfold jrOk
    refine decide_eq_true ⟨h2, ?_⟩
    simp only at h1
    omega
theorem jrRecs_spec {D P : ByteArray} (h : jrOk D P = true) : (jrA (D ++ P)).1 = jrRecs D P := by
  have h0 := of_decide_eq_true h
  rw [jr_both h0.1]
end
end Go.Proofs.YtnhgdmhiblpknaaGreatDoor
