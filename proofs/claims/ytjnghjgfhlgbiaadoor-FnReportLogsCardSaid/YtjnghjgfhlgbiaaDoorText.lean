/- Numerals and texts of both: strconv.Itoa, l1Int, numbersText, ecText. Conditions: bounds; the table of powers of ten lies where the program's text lays it. -/
import Derived.Test.YtjnghjgfhlgbiaaDoorNum2
import Derived.Test.YtjnghjgfhlgbiaaDoorShelf
import Derived.Test.YtjnghjgfhlgbiaaDoorRow
import Derived.Test.YtjnghjgfhlgbiaaDoorBase2
import Derived.Lib.Join
namespace Go.Proofs.YtjnghjgfhlgbiaaDoor
open Go Go.RowKit

/-! ### The table -/
def Tab (w : World) : Prop := Lib.TabIs Tryd.prog w "internal/strconv.uint64pow10" .u64 Lib.pow10Tab
theorem Tab.on {w w' : World} (h : Tab w) (hb : Below w.heap.size w w') : Tab w' := by
  have hgn : Tryd.prog.globalNamed "internal/strconv.uint64pow10" = some 0 := by kernel_rfl
  unfold Tab Lib.TabIs World.var? at h ⊢
  rw [hgn] at h ⊢
  simp only [Option.bind_some] at h ⊢
  have hlt : 0 < w.heap.size := by
    rcases Nat.lt_or_ge 0 w.heap.size with h' | h'
    · exact h'
    · rw [Array.getElem?_eq_none h'] at h; cases h
  rw [hb.block _ hlt]
  exact h
theorem below_grow (w : World) (k : Nat) (os : Array Obj) : Below w.heap.size w (Go.Sort.grow (w.drewN k) os) := by
  refine ⟨rfl, rfl, rfl, ?_, fun i hi => ?_⟩
  · show w.heap.size ≤ (w.heap ++ os).size
    rw [Array.size_append]; omega
  · show (w.heap ++ os)[i]? = w.heap[i]?
    rw [Array.getElem?_append_left hi]

/-! ### Numerals -/
def itS (n : Int) : ByteArray := ⟨(Lib.itoa n).toArray⟩
theorem itS_nat {n : Int} (h : 0 ≤ n) : itS n = numS n.toNat := by
  unfold itS numS Lib.itoa
  rw [if_neg (by omega)]
theorem itS_neg {n : Int} (h : n < 0) : itS n = ⟨#[45]⟩ ++ numS (-n).toNat := by
  unfold itS numS Lib.itoa
  rw [if_pos h, show n.natAbs = (-n).toNat by omega]
  apply ByteArray.ext
  simp
theorem itS_size (n : Int) : (itS n).size ≤ n.natAbs + 2 := by
  rcases Int.lt_or_le n 0 with h | h
  · rw [itS_neg h, ByteArray.size_append, show (⟨#[45]⟩ : ByteArray).size = 1 from rfl]
    have := numS_size (-n).toNat
    omega
  · rw [itS_nat h]
    have := numS_size n.toNat
    omega
theorem itoa_any (n : Int) (w : World) (hn : -1000000000 ≤ n ∧ n ≤ 1000000000) (ht : Tab w) : Calls Tryd.prog 62 #[.int .i64 n] w fun e w' => e = .returned (.string (itS n)) ∧ Below w.heap.size w w' := by
  refine (Tryd.strconv_Itoa n (by omega) (by omega) w ht).mono fun e w' h => ?_
  obtain ⟨h1, k, os, rfl⟩ := h
  exact ⟨h1, below_grow w k os⟩
theorem l1Num_int (n : Int) (w : World) (hn : 0 ≤ n ∧ n < 1000000000) : Calls Tryd.prog 47 #[.int .i64 n] w fun e w' => e = .returned (.string (itS n)) ∧ Below w.heap.size w w' := by
  obtain ⟨m, rfl⟩ : ∃ m : Nat, n = m := ⟨n.toNat, by omega⟩
  rw [itS_nat (by omega), Int.toNat_natCast]
  exact l1Num_any m (by omega) w
set_option maxHeartbeats 800000 in
theorem l1Int_any (n : Int) (w : World) (hn : -1000000 ≤ n ∧ n ≤ 1000000) : Calls Tryd.prog 64 #[.int .i64 n] w fun e w' => e = .returned (.string (itS n)) ∧ Below w.heap.size w w' := by
  obtain ⟨n1, n2⟩ := hn
  rcases Int.lt_or_le n 0 with h | h
  · have Hc := Lib.hid (fun w => l1Num_int (-n) w (by omega))
    have Hv := Lib.hid (show itS n = ⟨#[45]⟩ ++ itS (-n) by rw [itS_neg h, itS_nat (by omega)])
    have hs : (itS (-n)).size ≤ 1000002 := by have := itS_size (-n); omega
    generalize itS (-n) = Q at Hc Hv hs
    go_enter Tryd.func64, Tryd.ntmps64
    go_wp2_with (go_at_call 47; refine (Hc.out _).mono ?_; rintro e w' ⟨rfl, hb1⟩)
    go_ret
    exact ⟨by rw [Hv.out]; rfl, hb1⟩
  · have Hc := Lib.hid (fun w => l1Num_int n w (by omega))
    go_enter Tryd.func64, Tryd.ntmps64
    go_wp2_with (go_at_call 47; refine (Hc.out _).mono ?_; rintro e w' ⟨rfl, hb1⟩)
    go_ret
    exact ⟨rfl, hb1⟩

/-! ### Numbers, separated by blanks -/
def nText (es : List Int) : ByteArray := ⟨(Lib.join ((es.map itS).map (·.data.toList)) [32]).toArray⟩
theorem join_len : ∀ (xs : List (List UInt8)) (b : Nat), (∀ x ∈ xs, x.length ≤ b) → (Lib.join xs [32]).length ≤ xs.length * (b + 1)
  | [], _, _ => by simp [Lib.join_nil]
  | x :: r, b, h => by
    rw [Lib.join_cons, List.length_append]
    have h1 := h x (by simp)
    have h2 : (Lib.joinTail [32] r).length ≤ r.length * (b + 1) := by
      have h3 : ∀ y ∈ r, y.length ≤ b := fun y hy => h y (by simp [hy])
      clear h h1
      induction r with
      | nil => simp [Lib.joinTail]
      | cons y r ih =>
        have i1 := ih (fun z hz => h3 z (by simp [hz]))
        have i2 := h3 y (by simp)
        simp only [Lib.joinTail, List.map_cons, List.flatten_cons, List.length_append, List.length_cons, List.length_nil] at i1 ⊢
        rw [Nat.add_mul]; omega
    rw [List.length_cons, Nat.add_mul]
    omega
theorem nText_len (es : List Int) (b : Nat) (h : ∀ e ∈ es, e.natAbs ≤ b) : (Lib.join ((es.map itS).map (·.data.toList)) [32]).length ≤ es.length * (b + 3) := by
  have := join_len ((es.map itS).map (·.data.toList)) (b + 2) (by
    intro x hx
    simp only [List.mem_map] at hx
    obtain ⟨q, ⟨e, he, rfl⟩, rfl⟩ := hx
    have h1 := itS_size e
    have h2 := h e he
    have h3 : (itS e).data.toList.length = (itS e).size := Array.length_toList
    omega)
  rw [List.length_map, List.length_map] at this
  exact this
theorem infoStr : (Tryd.prog.info? 9).map (fun i => (i.zero, i.size, i.bytes)) = some (some (.string ⟨#[]⟩), 1, 16) := by kernel_rfl
theorem inS_get {es : List Int} {k : Nat} (h : k < es.length) : inS.get es k = es[k] := by
  unfold Shape.get
  rw [List.getD_eq_getElem?_getD, List.getElem?_eq_getElem h]; rfl
theorem strs_take {es : List Int} {k : Nat} (h : k < es.length) : (es.take (k + 1)).map (fun e => Value.string (itS e)) = (es.take k).map (fun e => Value.string (itS e)) ++ [Value.string (itS (inS.get es k))] := by
  rw [List.take_succ_eq_append_getElem h, List.map_append]
  unfold Shape.get
  rw [List.getD_eq_getElem?_getD, List.getElem?_eq_getElem h]; rfl

set_option maxRecDepth 8000 in
set_option maxHeartbeats 2000000 in
theorem numbersText_any (v : Value) (es : List Int) (w : World) (hv : Rd inS w w.heap.size v es) (hn : es.length ≤ 100) (hb : ∀ k, k < es.length → -1000000000 ≤ inS.get es k ∧ inS.get es k ≤ 1000000000) (ht : Tab w) :
    Calls Tryd.prog 46 #[v] w fun e w' => e = .returned (.string (nText es)) ∧ Below w.heap.size w w' := by
  obtain ⟨i0, hi, hz0, hz1, hz2⟩ := info_parts infoStr
  have Ht := Lib.hid ht; clear ht
  have Hb := Lib.hid hb
  have hjl : (Lib.join ((es.map itS).map (·.data.toList)) [32]).length ≤ 140737488355328 := by
    have := nText_len es 1000000000 (fun e he => by
      obtain ⟨k, hk, rfl⟩ := List.mem_iff_getElem.1 he
      have := hb k hk
      rw [inS_get hk] at this
      omega)
    have h2 : es.length * (1000000000 + 3) ≤ 100 * (1000000000 + 3) := Nat.mul_le_mul_right _ hn
    omega
  have Hjl := Lib.hid hjl; clear hjl hb
  obtain ⟨A, c, rfl, hc, hm, hA⟩ := hv
  unfold maxLen at hm
  rcases Nat.eq_zero_or_pos es.length with h0 | h0
  · obtain rfl : es = [] := List.eq_nil_of_length_eq_zero h0
    clear hA h0
    go_enter Tryd.func46, Tryd.ntmps46
    go_wp2
    refine wp_loop_rounds 1 ?_
    rw [rounds_succ]
    go_wp2_with fail
    refine (Tryd.strings_Join_none none 0 ⟨#[32]⟩ w).mono ?_; rintro e w' ⟨rfl, rfl⟩
    go_wp2
    go_ret
    exact ⟨rfl, Below.refl _ _⟩
  · obtain ⟨g, off, rfl, hg, hcell⟩ := hA h0
    clear hA
    have hcell := in_cells hcell
    go_enter Tryd.func46, Tryd.ntmps46
    go_wp2
    go_loopw [3, 8] (fun o i wr => ∃ k : Nat, k ≤ es.length ∧ i = .int .i64 k ∧ Below w.heap.size w wr ∧ Hid (wr.ownsRow w.heap.size 9 1 o k ((es.take k).map (fun e => Value.string (itS e))))) (fun _ i _ => es.length - (intOf i).toNat)
    case atStart => exact ⟨0, Nat.zero_le _, rfl, Below.refl _ _, Lib.hid ⟨rfl, Or.inl ⟨rfl, rfl⟩⟩⟩
    case round =>
      obtain ⟨k, hk, rfl, hb, Hown⟩ := hrel
      by_cases hlt : k < es.length
      · have f0 := hcell k hlt
        rw [← hb.cell (p := ⟨_, _, _⟩) hg] at f0
        have Hst := Lib.hid (strs_take hlt)
        have Hc := Lib.hid (fun w' ht => itoa_any (inS.get es k) w' (Hb.out k hlt) ht)
        generalize inS.get es k = x at f0 Hst Hc
        have hgr : g < wr.heap.size := Nat.lt_of_lt_of_le hg hb.size
        have hi0 : (0 : Int) ≤ (k : Int) := by omega
        have hi1 : (k : Int) < (es.length : Int) := by omega
        clear hcell
        go_wp2_with fail
        refine (Hc.out _ (Ht.out.on hb)).mono ?_; rintro e w2 ⟨rfl, hb2⟩
        have Hown2 := Lib.hid (own_below Hown.out hb2)
        have Hb2 := Lib.hid (bthen hb hb2)
        clear f0 hb2
        generalize itS x = Q at Hst
        go_wp2_with (at_builtin; refine wpList_append_own _ rfl _ _ 77 rfl w.heap.size 9 i0 (.string ⟨#[]⟩) 1 16 Tryd.underlying77 hi hz0 hz1 hz2 rfl (by decide) _ _ _ rfl (Hown2.out.alloc _) ⟨w2.heap.size, 0, none⟩ 1 1 [.string Q] rfl rfl ?c1 ?c2 ?c3 ?c4 ?c5 ?_)
        case c1 =>
          intro j u hj
          match j, hj with
          | 0, hj => simp at hj; subst hj; exact (Blk.new w2 _ _).cell 0
        case c2 => intro u hu; simp at hu; subst hu; rfl
        case c3 => unfold maxLen; omega
        case c4 => omega
        case c5 => have := Hb2.out.size; simp; omega
        intro v6 w6 hown6 hgrow _
        have Hb6 := Lib.hid (Below.grown (bal Hb2.out _) hgrow (by have := Hb2.out.size; simp; omega) (fun j hj => (Hown2.out.lt j hj).1))
        have Hown6 := Lib.hid (show w6.ownsRow w.heap.size 9 1 v6 (k + 1) ((es.take (k + 1)).map (fun e => Value.string (itS e))) by rw [Hst.out, List.map_take]; exact hown6)
        clear hown6 hgrow
        go_wp2
        go_roundw
        case rel => exact ⟨k + 1, by omega, by go_num, Hb6.out, Hown6⟩
        case measure => simp [intOf]; omega
      · obtain rfl : k = es.length := by omega
        obtain ⟨g2, cap, rfl, hb2, hlt2⟩ := Hown.out.form h0
        have hcs : ∀ (j : Nat) x, (es.map itS)[j]? = some x → wr.cell? ⟨g2, 0 + j, none⟩ = some (.string x) := by
          intro j x hj
          have hl : j < es.length := by have := (List.getElem?_eq_some_iff.1 hj).1; simpa using this
          have h1 := Hown.out.cellAt j (by omega)
          rw [List.take_length, List.getElem?_map, List.getElem?_eq_getElem hl] at h1
          rw [List.getElem?_map, List.getElem?_eq_getElem hl] at hj
          simp at hj h1
          rw [Nat.zero_add, h1, hj]
        have hcap : es.length ≤ cap := by
          rcases Hown.out.2 with ⟨h', _⟩ | ⟨g', cap', cur, h', hb', hg', hnc, -⟩
          · cases h'
          · cases h'; exact hnc
        have hj := Tryd.strings_Join g2 0 cap (es.map itS) ⟨#[32]⟩ wr hcs hlt2 (by rw [List.length_map]; omega) (by rw [List.length_map]; exact hcap) Hjl.out
        rw [List.length_map] at hj
        have Hj : Hid (Calls Tryd.prog 63 #[.slice (some ⟨g2, 0, none⟩) es.length cap, .string ⟨#[32]⟩] wr fun e w' => e = .returned (.string (nText es)) ∧ Below wr.heap.size wr w') := Lib.hid hj
        clear hcs hcap hcell hj
        go_wp2_with fail
        refine Hj.out.mono ?_; rintro e w3 ⟨rfl, hb3⟩
        go_wp2
        go_ret
        exact ⟨rfl, bthen hb hb3⟩

theorem nText2 (a b : Int) : nText [a, b] = itS a ++ ⟨#[32]⟩ ++ itS b := by
  unfold nText
  apply ByteArray.ext
  simp [Lib.join, List.intercalate]
set_option maxHeartbeats 800000 in
theorem ecText_any (a b : Int) (w : World) (ha : -1000000 ≤ a ∧ a ≤ 1000000) (hb : -1000000 ≤ b ∧ b ≤ 1000000) :
    Calls Tryd.prog 48 #[.agg #[.int .i64 a, .int .i64 b]] w fun e w' => e = .returned (.string (nText [a, b])) ∧ Below w.heap.size w w' := by
  have H1 := Lib.hid (fun w => l1Int_any a w ha)
  have H2 := Lib.hid (fun w => l1Int_any b w hb)
  have Hv := Lib.hid (nText2 a b)
  have HbA := Lib.hid (show Below w.heap.size w (w.alloc (Obj.cells #[.int .i64 a, .int .i64 b] 26)) from bal (Below.refl _ _) _)
  have s1 := itS_size a
  have s2 := itS_size b
  have s3 : (itS a).size ≤ 1000002 := by omega
  have s4 : (itS b).size ≤ 1000002 := by omega
  clear s1 s2
  generalize itS a = P1 at H1 Hv s3
  generalize itS b = P2 at H2 Hv s4
  have s5 : (P1 ++ (⟨#[32]⟩ : ByteArray)).size ≤ 1000003 := by rw [ByteArray.size_append, show (⟨#[32]⟩ : ByteArray).size = 1 from rfl]; omega
  go_enter Tryd.func48, Tryd.ntmps48
  go_wp2
  refine wp_region_tame (by kernel_rfl) (by kernel_rfl) (fun T _ W hT => ?_)
  have hx := hT.cell
  repeat (go_big_quiet_step ((first | (go_at_call 64; with_reducible exact hT.call (H1.out _)) | (go_at_call 64; with_reducible exact hT.call (H2.out _)))))
  refine wpQuiet_nil ?_
  intro t
  clear hx
  go_wp2
  go_ret
  exact ⟨by rw [Hv.out]; rfl, bthen HbA.out (hT.below t)⟩
end Go.Proofs.YtjnghjgfhlgbiaaDoor
