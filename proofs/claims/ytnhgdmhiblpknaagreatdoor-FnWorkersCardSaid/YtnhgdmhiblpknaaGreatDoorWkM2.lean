/- Own texts put together: Numerals and texts of both: strconv; The line of a record: sealRecord of the program and jrLine of the reference; SealRecord of both; The text of a catalogue, in both; CatalogueText of both; The walks of the laws' own helpers at one curve, entry, record, report: toX, eqX; Own lemmas that know no program: arguments that are ints, structs of ints, slices of structs of ints, opened to values and cells; a law's last step; The reference's source of drawn numbers: its cursor, and what a call leaves as it was; next, pick, one, among. Conditions: those of each theorem. -/
import Derived.Test.YtnhgdmhiblpknaaGreatDoorWkM1
import Derived.Test.YtnhgdmhiblpknaaGreatDoorShelf
import Derived.Lib.Join
import Derived.ProofKit
import Derived.Deep.Slices
import Derived.Laws.Bits64b
namespace Go.Proofs.YtnhgdmhiblpknaaGreatDoor
section
open Go Go.RowKit

/-! ### The table -/
def Tab (w : World) : Prop := Lib.TabIs Tryz.prog w "internal/strconv.uint64pow10" .u64 Lib.pow10Tab
theorem Tab.on {w w' : World} (h : Tab w) (hb : Below w.heap.size w w') : Tab w' := by
  have hgn : Tryz.prog.globalNamed "internal/strconv.uint64pow10" = some 4 := by kernel_rfl
  unfold Tab Lib.TabIs World.var? at h ⊢
  rw [hgn] at h ⊢
  simp only [Option.bind_some] at h ⊢
  have hlt : 4 < w.heap.size := by
    rcases Nat.lt_or_ge 4 w.heap.size with h' | h'
    · exact h'
    · rw [Array.getElem?_eq_none h'] at h; cases h
  rw [hb.block _ hlt]
  exact h
theorem below_grow (w : World) (k : Nat) (os : Array Obj) : Below w.heap.size w (Go.Sort.grow (w.drewN k) os) := by
  refine ⟨rfl, rfl, rfl, ?_, fun i hi => ?_⟩
  · show w.heap.size ≤ (w.heap ++ os).size
    rw [Array.size_append]; omega
  · show (w.heap ++ os)[i]? = w.heap[i]?
    rw [Array.getElem?_append_left hi]

/-! ### Numerals -/
def itS (n : Int) : ByteArray := ⟨(Lib.itoa n).toArray⟩
theorem itS_nat {n : Int} (h : 0 ≤ n) : itS n = numS n.toNat := by
  unfold itS numS Lib.itoa
  rw [if_neg (by omega)]
theorem itS_neg {n : Int} (h : n < 0) : itS n = ⟨#[45]⟩ ++ numS (-n).toNat := by
  unfold itS numS Lib.itoa
  rw [if_pos h, show n.natAbs = (-n).toNat by omega]
  apply ByteArray.ext
  simp
theorem itS_size (n : Int) : (itS n).size ≤ n.natAbs + 2 := by
  rcases Int.lt_or_le n 0 with h | h
  · rw [itS_neg h, ByteArray.size_append, show (⟨#[45]⟩ : ByteArray).size = 1 from rfl]
    have := numS_size (-n).toNat
    omega
  · rw [itS_nat h]
    have := numS_size n.toNat
    omega
theorem itoa_any (n : Int) (w : World) (hn : -1000000000 ≤ n ∧ n ≤ 1000000000) (ht : Tab w) : Calls Tryz.prog 114 #[.int .i64 n] w fun e w' => e = .returned (.string (itS n)) ∧ Below w.heap.size w w' := by
  refine (Tryz.strconv_Itoa n (by omega) (by omega) w ht).mono fun e w' h => ?_
  obtain ⟨h1, k, os, rfl⟩ := h
  exact ⟨h1, below_grow w k os⟩
theorem l1Num_int (n : Int) (w : World) (hn : 0 ≤ n ∧ n < 1000000000) : Calls Tryz.prog 116 #[.int .i64 n] w fun e w' => e = .returned (.string (itS n)) ∧ Below w.heap.size w w' := by
  obtain ⟨m, rfl⟩ : ∃ m : Nat, n = m := ⟨n.toNat, by omega⟩
  rw [itS_nat (by omega), Int.toNat_natCast]
  exact l1Num_any m (by omega) w
set_option maxHeartbeats 800000 in
theorem l1Int_any (n : Int) (w : World) (hn : -1000000 ≤ n ∧ n ≤ 1000000) : Calls Tryz.prog 148 #[.int .i64 n] w fun e w' => e = .returned (.string (itS n)) ∧ Below w.heap.size w w' := by
  obtain ⟨n1, n2⟩ := hn
  rcases Int.lt_or_le n 0 with h | h
  · have Hc := Lib.hid (fun w => l1Num_int (-n) w (by omega))
    have Hv := Lib.hid (show itS n = ⟨#[45]⟩ ++ itS (-n) by rw [itS_neg h, itS_nat (by omega)])
    have hs : (itS (-n)).size ≤ 1000002 := by have := itS_size (-n); omega
    generalize itS (-n) = Q at Hc Hv hs
    go_enter Tryz.func148, Tryz.ntmps148
    go_wp2_with (go_at_call 116; refine (Hc.out _).mono ?_; rintro e w' ⟨rfl, hb1⟩)
    go_ret
    exact ⟨by rw [Hv.out]; rfl, hb1⟩
  · have Hc := Lib.hid (fun w => l1Num_int n w (by omega))
    go_enter Tryz.func148, Tryz.ntmps148
    go_wp2_with (go_at_call 116; refine (Hc.out _).mono ?_; rintro e w' ⟨rfl, hb1⟩)
    go_ret
    exact ⟨rfl, hb1⟩

/-! ### Numbers, separated by blanks -/
def nText (es : List Int) : ByteArray := ⟨(Lib.join ((es.map itS).map (·.data.toList)) [32]).toArray⟩
theorem join_len : ∀ (xs : List (List UInt8)) (b : Nat), (∀ x ∈ xs, x.length ≤ b) → (Lib.join xs [32]).length ≤ xs.length * (b + 1)
  | [], _, _ => by simp [Lib.join_nil]
  | x :: r, b, h => by
    rw [Lib.join_cons, List.length_append]
    have h1 := h x (by simp)
    have h2 : (Lib.joinTail [32] r).length ≤ r.length * (b + 1) := by
      have h3 : ∀ y ∈ r, y.length ≤ b := fun y hy => h y (by simp [hy])
      clear h h1
      induction r with
      | nil => simp [Lib.joinTail]
      | cons y r ih =>
        have i1 := ih (fun z hz => h3 z (by simp [hz]))
        have i2 := h3 y (by simp)
        simp only [Lib.joinTail, List.map_cons, List.flatten_cons, List.length_append, List.length_cons, List.length_nil] at i1 ⊢
        rw [Nat.add_mul]; omega
    rw [List.length_cons, Nat.add_mul]
    omega
theorem nText_len (es : List Int) (b : Nat) (h : ∀ e ∈ es, e.natAbs ≤ b) : (Lib.join ((es.map itS).map (·.data.toList)) [32]).length ≤ es.length * (b + 3) := by
  have := join_len ((es.map itS).map (·.data.toList)) (b + 2) (by
    intro x hx
    simp only [List.mem_map] at hx
    obtain ⟨q, ⟨e, he, rfl⟩, rfl⟩ := hx
    have h1 := itS_size e
    have h2 := h e he
    have h3 : (itS e).data.toList.length = (itS e).size := Array.length_toList
    omega)
  rw [List.length_map, List.length_map] at this
  exact this
theorem infoStr : (Tryz.prog.info? 9).map (fun i => (i.zero, i.size, i.bytes)) = some (some (.string ⟨#[]⟩), 1, 16) := by kernel_rfl
theorem inS_get {es : List Int} {k : Nat} (h : k < es.length) : inS.get es k = es[k] := by
  unfold Shape.get
  rw [List.getD_eq_getElem?_getD, List.getElem?_eq_getElem h]; rfl
theorem strs_take {es : List Int} {k : Nat} (h : k < es.length) : (es.take (k + 1)).map (fun e => Value.string (itS e)) = (es.take k).map (fun e => Value.string (itS e)) ++ [Value.string (itS (inS.get es k))] := by
  rw [List.take_succ_eq_append_getElem h, List.map_append]
  unfold Shape.get
  rw [List.getD_eq_getElem?_getD, List.getElem?_eq_getElem h]; rfl

set_option maxRecDepth 8000 in
set_option maxHeartbeats 2000000 in
theorem numbersText_any (v : Value) (es : List Int) (w : World) (hv : Rd inS w w.heap.size v es) (hn : es.length ≤ 100) (hb : ∀ k, k < es.length → -1000000000 ≤ inS.get es k ∧ inS.get es k ≤ 1000000000) (ht : Tab w) :
    Calls Tryz.prog 113 #[v] w fun e w' => e = .returned (.string (nText es)) ∧ Below w.heap.size w w' := by
  obtain ⟨i0, hi, hz0, hz1, hz2⟩ := info_parts infoStr
  have Ht := Lib.hid ht; clear ht
  have Hb := Lib.hid hb
  have hjl : (Lib.join ((es.map itS).map (·.data.toList)) [32]).length ≤ 140737488355328 := by
    have := nText_len es 1000000000 (fun e he => by
      obtain ⟨k, hk, rfl⟩ := List.mem_iff_getElem.1 he
      have := hb k hk
      rw [inS_get hk] at this
      omega)
    have h2 : es.length * (1000000000 + 3) ≤ 100 * (1000000000 + 3) := Nat.mul_le_mul_right _ hn
    omega
  have Hjl := Lib.hid hjl; clear hjl hb
  obtain ⟨A, c, rfl, hc, hm, hA⟩ := hv
  unfold maxLen at hm
  rcases Nat.eq_zero_or_pos es.length with h0 | h0
  · obtain rfl : es = [] := List.eq_nil_of_length_eq_zero h0
    clear hA h0
    go_enter Tryz.func113, Tryz.ntmps113
    go_wp2
    refine wp_loop_rounds 1 ?_
    rw [rounds_succ]
    go_wp2_with fail
    refine (Tryz.strings_Join_none none 0 ⟨#[32]⟩ w).mono ?_; rintro e w' ⟨rfl, rfl⟩
    go_wp2
    go_ret
    exact ⟨rfl, Below.refl _ _⟩
  · obtain ⟨g, off, rfl, hg, hcell⟩ := hA h0
    clear hA
    have hcell := in_cells hcell
    go_enter Tryz.func113, Tryz.ntmps113
    go_wp2
    go_loopw [3, 8] (fun o i wr => ∃ k : Nat, k ≤ es.length ∧ i = .int .i64 k ∧ Below w.heap.size w wr ∧ Hid (wr.ownsRow w.heap.size 9 1 o k ((es.take k).map (fun e => Value.string (itS e))))) (fun _ i _ => es.length - (intOf i).toNat)
    case atStart => exact ⟨0, Nat.zero_le _, rfl, Below.refl _ _, Lib.hid ⟨rfl, Or.inl ⟨rfl, rfl⟩⟩⟩
    case round =>
      obtain ⟨k, hk, rfl, hb, Hown⟩ := hrel
      by_cases hlt : k < es.length
      · have f0 := hcell k hlt
        rw [← hb.cell (p := ⟨_, _, _⟩) hg] at f0
        have Hst := Lib.hid (strs_take hlt)
        have Hc := Lib.hid (fun w' ht => itoa_any (inS.get es k) w' (Hb.out k hlt) ht)
        generalize inS.get es k = x at f0 Hst Hc
        have hgr : g < wr.heap.size := Nat.lt_of_lt_of_le hg hb.size
        have hi0 : (0 : Int) ≤ (k : Int) := by omega
        have hi1 : (k : Int) < (es.length : Int) := by omega
        clear hcell
        go_wp2_with fail
        refine (Hc.out _ (Ht.out.on hb)).mono ?_; rintro e w2 ⟨rfl, hb2⟩
        have Hown2 := Lib.hid (own_below Hown.out hb2)
        have Hb2 := Lib.hid (bthen hb hb2)
        clear f0 hb2
        generalize itS x = Q at Hst
        go_wp2_with (at_builtin; refine wpList_append_own _ rfl _ _ 91 rfl w.heap.size 9 i0 (.string ⟨#[]⟩) 1 16 Tryz.underlying91 hi hz0 hz1 hz2 rfl (by decide) _ _ _ rfl (Hown2.out.alloc _) ⟨w2.heap.size, 0, none⟩ 1 1 [.string Q] rfl rfl ?c1 ?c2 ?c3 ?c4 ?c5 ?_)
        case c1 =>
          intro j u hj
          match j, hj with
          | 0, hj => simp at hj; subst hj; exact (Blk.new w2 _ _).cell 0
        case c2 => intro u hu; simp at hu; subst hu; rfl
        case c3 => unfold maxLen; omega
        case c4 => omega
        case c5 => have := Hb2.out.size; simp; omega
        intro v6 w6 hown6 hgrow _
        have Hb6 := Lib.hid (Below.grown (bal Hb2.out _) hgrow (by have := Hb2.out.size; simp; omega) (fun j hj => (Hown2.out.lt j hj).1))
        have Hown6 := Lib.hid (show w6.ownsRow w.heap.size 9 1 v6 (k + 1) ((es.take (k + 1)).map (fun e => Value.string (itS e))) by rw [Hst.out, List.map_take]; exact hown6)
        clear hown6 hgrow
        go_wp2
        go_roundw
        case rel => exact ⟨k + 1, by omega, by go_num, Hb6.out, Hown6⟩
        case measure => simp [intOf]; omega
      · obtain rfl : k = es.length := by omega
        obtain ⟨g2, cap, rfl, hb2, hlt2⟩ := Hown.out.form h0
        have hcs : ∀ (j : Nat) x, (es.map itS)[j]? = some x → wr.cell? ⟨g2, 0 + j, none⟩ = some (.string x) := by
          intro j x hj
          have hl : j < es.length := by have := (List.getElem?_eq_some_iff.1 hj).1; simpa using this
          have h1 := Hown.out.cellAt j (by omega)
          rw [List.take_length, List.getElem?_map, List.getElem?_eq_getElem hl] at h1
          rw [List.getElem?_map, List.getElem?_eq_getElem hl] at hj
          simp at hj h1
          rw [Nat.zero_add, h1, hj]
        have hcap : es.length ≤ cap := by
          rcases Hown.out.2 with ⟨h', _⟩ | ⟨g', cap', cur, h', hb', hg', hnc, -⟩
          · cases h'
          · cases h'; exact hnc
        have hj := Tryz.strings_Join g2 0 cap (es.map itS) ⟨#[32]⟩ wr hcs hlt2 (by rw [List.length_map]; omega) (by rw [List.length_map]; exact hcap) Hjl.out
        rw [List.length_map] at hj
        have Hj : Hid (Calls Tryz.prog 146 #[.slice (some ⟨g2, 0, none⟩) es.length cap, .string ⟨#[32]⟩] wr fun e w' => e = .returned (.string (nText es)) ∧ Below wr.heap.size wr w') := Lib.hid hj
        clear hcs hcap hcell hj
        go_wp2_with fail
        refine Hj.out.mono ?_; rintro e w3 ⟨rfl, hb3⟩
        go_wp2
        go_ret
        exact ⟨rfl, bthen hb hb3⟩

theorem nText2 (a b : Int) : nText [a, b] = itS a ++ ⟨#[32]⟩ ++ itS b := by
  unfold nText
  apply ByteArray.ext
  simp [Lib.join, List.intercalate]
set_option maxHeartbeats 800000 in
theorem ecText_any (a b : Int) (w : World) (ha : -1000000 ≤ a ∧ a ≤ 1000000) (hb : -1000000 ≤ b ∧ b ≤ 1000000) :
    Calls Tryz.prog 115 #[.agg #[.int .i64 a, .int .i64 b]] w fun e w' => e = .returned (.string (nText [a, b])) ∧ Below w.heap.size w w' := by
  have H1 := Lib.hid (fun w => l1Int_any a w ha)
  have H2 := Lib.hid (fun w => l1Int_any b w hb)
  have Hv := Lib.hid (nText2 a b)
  have HbA := Lib.hid (show Below w.heap.size w (w.alloc (Obj.cells #[.int .i64 a, .int .i64 b] 25)) from bal (Below.refl _ _) _)
  have s1 := itS_size a
  have s2 := itS_size b
  have s3 : (itS a).size ≤ 1000002 := by omega
  have s4 : (itS b).size ≤ 1000002 := by omega
  clear s1 s2
  generalize itS a = P1 at H1 Hv s3
  generalize itS b = P2 at H2 Hv s4
  have s5 : (P1 ++ (⟨#[32]⟩ : ByteArray)).size ≤ 1000003 := by rw [ByteArray.size_append, show (⟨#[32]⟩ : ByteArray).size = 1 from rfl]; omega
  go_enter Tryz.func115, Tryz.ntmps115
  go_wp2
  refine wp_region_tame (by kernel_rfl) (by kernel_rfl) (fun T _ W hT => ?_)
  have hx := hT.cell
  repeat (go_big_quiet_step ((first | (go_at_call 148; with_reducible exact hT.call (H1.out _)) | (go_at_call 148; with_reducible exact hT.call (H2.out _)))))
  refine wpQuiet_nil ?_
  intro t
  clear hx
  go_wp2
  go_ret
  exact ⟨by rw [Hv.out]; rfl, bthen HbA.out (hT.below t)⟩
end
section
open Go Go.RowKit

/-! ### The sum of a text's bytes -/
def sumL (l : List UInt8) : Int := l.foldl (fun o b => (31 * o + (b.toNat : Int)) % 1000003) 1
theorem sumL_bd : ∀ l : List UInt8, 0 ≤ sumL l ∧ sumL l < 1000003 := by
  have key : ∀ (l : List UInt8) (z : Int), 0 ≤ z ∧ z < 1000003 → 0 ≤ l.foldl (fun o b => (31 * o + (b.toNat : Int)) % 1000003) z ∧ l.foldl (fun o b => (31 * o + (b.toNat : Int)) % 1000003) z < 1000003 := by
    intro l
    induction l with
    | nil => exact fun z h => h
    | cons b l ih => exact fun z h => ih _ (show 0 ≤ (31 * z + (b.toNat : Int)) % 1000003 ∧ (31 * z + (b.toNat : Int)) % 1000003 < 1000003 by omega)
  exact fun l => key l 1 (by omega)
theorem sumL_snoc (l : List UInt8) (b : UInt8) : sumL (l ++ [b]) = (31 * sumL l + (b.toNat : Int)) % 1000003 := by simp [sumL]
theorem take_snoc (s : ByteArray) (k : Nat) (h : k < s.size) : s.data.toList.take (k + 1) = s.data.toList.take k ++ [s[k]] := by
  rw [List.take_succ_eq_append_getElem (by simpa using h)]; rfl

/-! ### The line -/
def lineS (k a b lo hi : Int) : ByteArray := nText [k, a, b, lo, hi] ++ ⟨#[35]⟩ ++ itS (sumL (nText [k, a, b, lo, hi]).data.toList) ++ ⟨#[10]⟩
theorem nText5 (k a b lo hi : Int) : nText [k, a, b, lo, hi] = itS k ++ ⟨#[32]⟩ ++ nText [a, b] ++ ⟨#[32]⟩ ++ itS lo ++ ⟨#[32]⟩ ++ itS hi := by
  unfold nText
  apply ByteArray.ext
  simp [Lib.join, List.intercalate]
theorem nText_size (es : List Int) (b : Nat) (h : ∀ e ∈ es, e.natAbs ≤ b) : (nText es).size ≤ es.length * (b + 3) := nText_len es b h
/-- The bounds of a record and of its number. -/
structure RcB (k a b lo hi : Int) : Prop where
  k : 0 ≤ k ∧ k ≤ 29
  a : -1000 ≤ a ∧ a ≤ 1000
  b : -10000 ≤ b ∧ b ≤ 10000
  lo : 0 ≤ lo ∧ lo ≤ 20
  hi : 0 ≤ hi ∧ hi ≤ 20
theorem RcB.size {k a b lo hi : Int} (h : RcB k a b lo hi) : (nText [k, a, b, lo, hi]).size ≤ 100000 := by
  have := nText_size [k, a, b, lo, hi] 10000 (by
    intro e he
    have h1 := h.k; have h2 := h.a; have h3 := h.b; have h4 := h.lo; have h5 := h.hi
    simp at he
    omega)
  simp at this
  omega

theorem rd_ints (w : World) (t : TypeId) (es : List Int) (hl : es.length ≤ 1000) : Rd inS (w.alloc (.cells (es.map (Value.int .i64)).toArray t)) (w.alloc (.cells (es.map (Value.int .i64)).toArray t)).heap.size (.slice (some ⟨w.heap.size, 0, none⟩) es.length es.length) es := by
  refine ⟨_, es.length, rfl, Nat.le_refl _, by unfold maxLen; omega, fun _ => ⟨w.heap.size, 0, rfl, by rw [World.size_alloc]; omega, fun k hk j hj => ?_⟩⟩
  have hj0 : j = 0 := by simp [inS] at hj; exact hj
  subst hj0
  rw [show 0 + k * inS.size + 0 = k by simp [inS], (Blk.new w t (es.map (Value.int .i64)).toArray).cell k]
  rw [List.getElem?_toArray, List.getElem?_map, List.getElem?_eq_getElem hk, inS_get hk]
  rfl
end
section
open Go Go.RowKit

def entT (e : En) : ByteArray := nText [e.a, e.b] ++ ⟨#[32]⟩ ++ itS e.lo ++ ⟨#[46, 46]⟩ ++ itS e.hi ++ ⟨#[32]⟩ ++ itS e.to ++ ⟨#[10]⟩
def catT (es : List En) : Nat → ByteArray
  | 0 => ⟨#[]⟩
  | k + 1 => catT es k ++ entT (enS.get es k)
structure EnBd (e : En) : Prop where
  a : -1000 ≤ e.a ∧ e.a ≤ 1000
  b : -10000 ≤ e.b ∧ e.b ≤ 10000
  lo : 0 ≤ e.lo ∧ e.lo ≤ 20
  hi : 0 ≤ e.hi ∧ e.hi ≤ 20
  tt : 0 ≤ e.to ∧ e.to ≤ 16
theorem enBd {e : En} (h : entB e.a e.b e.lo e.hi e.to = true) : EnBd e := by
  unfold entB at h
  simp only [Bool.and_eq_true, decide_eq_true_eq] at h
  have h2 := curveB_bd h.1
  exact ⟨h2.1, h2.2, by omega, by omega, by omega⟩
theorem okAt_ent9 {es : List En} {k : Nat} (h : okAt es k = true) : entB (enS.get es k).a (enS.get es k).b (enS.get es k).lo (enS.get es k).hi (enS.get es k).to = true := by
  unfold okAt at h
  simp only [Bool.and_eq_true] at h
  exact h.1
theorem str_add (a b : ByteArray) (ha : a.size ≤ 8388608) (hb : b.size ≤ 8388608) : ∀ W, (Op.stringOp .add a b).run Tryz.prog W = .ok (.string (a ++ b)) W := fun W =>
  run_string_add W a b (by omega) (by omega)
theorem nText2_size {a b : Int} (ha : -1000 ≤ a ∧ a ≤ 1000) (hb : -10000 ≤ b ∧ b ≤ 10000) : (nText [a, b]).size ≤ 40000 := by
  have := nText_size [a, b] 10000 (by intro e he; simp at he; omega)
  simp at this; omega
theorem entT_size {e : En} (h : EnBd e) : (entT e).size ≤ 50000 := by
  have h1 := nText2_size h.a h.b
  have h2 := itS_size e.lo; have h3 := itS_size e.hi; have h4 := itS_size e.to
  have := h.lo; have := h.hi; have := h.tt
  unfold entT
  simp only [ByteArray.size_append]
  rw [show (⟨#[32]⟩ : ByteArray).size = 1 from rfl, show (⟨#[46, 46]⟩ : ByteArray).size = 2 from rfl, show (⟨#[10]⟩ : ByteArray).size = 1 from rfl]
  omega
theorem catT_size (es : List En) (hv : ∀ j, j < es.length → okAt es j = true) : ∀ k, k ≤ es.length → (catT es k).size ≤ k * 50000
  | 0, _ => by exact Nat.zero_le _
  | k + 1, hk => by
    unfold catT
    rw [ByteArray.size_append]
    have h1 := catT_size es hv k (by omega)
    have h2 := entT_size (enBd (okAt_ent9 (hv k (by omega))))
    omega
theorem catB_all9 {es : List En} (h : catB es = true) : es.length ≤ 12 ∧ ∀ j, j < es.length → okAt es j = true := by
  unfold catB at h
  simp only [Bool.and_eq_true, decide_eq_true_eq, List.all_eq_true, List.mem_range] at h
  exact h
set_option maxRecDepth 20000 in
set_option maxHeartbeats 8000000 in
theorem catalogueText_any (v : Value) (es : List En) (w : World) (h : Rd enS w w.heap.size v es) (hl : es.length ≤ 12) (hv : ∀ j, j < es.length → okAt es j = true) (htab : Tab w) :
    Calls Tryz.prog 62 #[v] w fun e w' => e = .returned (.string (catT es es.length)) ∧ Below w.heap.size w w' := by
  obtain ⟨A, c, rfl, hcc, hm, hA⟩ := h
  unfold maxLen at hm
  rcases Nat.eq_zero_or_pos es.length with h0 | h0
  · obtain rfl : es = [] := List.eq_nil_of_length_eq_zero h0
    clear hA hv
    go_enter Tryz.func62, Tryz.ntmps62
    go_wp2
    refine wp_loop_rounds 1 ?_
    rw [rounds_succ]
    go_wp2
    go_ret
    exact ⟨rfl, Below.refl _ _⟩
  · obtain ⟨g, off, rfl, hg, hcell⟩ := hA h0
    clear hA
    have hcell := en_cells hcell
    have Hv := Lib.hid hv; clear hv
    have Ht := Lib.hid htab; clear htab
    go_enter Tryz.func62, Tryz.ntmps62
    go_wp2
    go_loopw [8, 3] (fun i o wr => ∃ k : Nat, k ≤ es.length ∧ i = .int .i64 k ∧ o = .string (catT es k) ∧ Below w.heap.size w wr) (fun i _ _ => es.length - (intOf i).toNat)
    case atStart => exact ⟨0, Nat.zero_le _, rfl, rfl, Below.refl _ _⟩
    case round =>
      obtain ⟨k, hk, rfl, rfl, hb⟩ := hrel
      have s0 := catT_size es Hv.out k hk
      replace s0 : (catT es k).size ≤ 1000000 := by omega
      by_cases hlt : k < es.length
      · obtain ⟨f0, f1, f2, f3, f4⟩ := hcell k hlt
        rw [← hb.cell (p := ⟨_, _, _⟩) hg] at f0 f1 f2 f3 f4
        have hbd := enBd (okAt_ent9 (Hv.out k hlt))
        have hnx : catT es (k + 1) = catT es k ++ entT (enS.get es k) := rfl
        unfold entT at hnx
        obtain ⟨ea, hea⟩ : ∃ e, enS.get es k = e := ⟨_, rfl⟩
        rw [hea] at f0 f1 f2 f3 f4 hbd hnx
        clear hea
        have hgr : g < wr.heap.size := Nat.lt_of_lt_of_le hg hb.size
        have hgr' : g < wr.heap.size + 1 := Nat.lt_succ_of_lt hgr
        have s2 := nText2_size hbd.a hbd.b
        have s1 : (itS ea.lo).size ≤ 10000 := by have := itS_size ea.lo; have := hbd.lo; omega
        have s3 : (itS ea.hi).size ≤ 10000 := by have := itS_size ea.hi; have := hbd.hi; omega
        have s4 : (itS ea.to).size ≤ 10000 := by have := itS_size ea.to; have := hbd.tt; omega
        have htr := Ht.out.on hb
        have Hb := Lib.hid hb; clear hb
        have HB1 := Lib.hid (Blk.new wr 29 #[.int .i64 ea.a, .int .i64 ea.b, .int .i64 ea.lo, .int .i64 ea.hi, .int .i64 ea.to])
        have Ht1 := Lib.hid (htr.on (bal (Below.refl _ _) (Obj.cells #[.int .i64 ea.a, .int .i64 ea.b, .int .i64 ea.lo, .int .i64 ea.hi, .int .i64 ea.to] 29))); clear htr
        have HS : Hid (∀ w', Below (wr.alloc (Obj.cells #[.int .i64 ea.a, .int .i64 ea.b, .int .i64 ea.lo, .int .i64 ea.hi, .int .i64 ea.to] 29)).heap.size (wr.alloc (Obj.cells #[.int .i64 ea.a, .int .i64 ea.b, .int .i64 ea.lo, .int .i64 ea.hi, .int .i64 ea.to] 29)) w' → (w'.cell? ⟨wr.heap.size, 0, none⟩ = some (.int .i64 ea.a) ∧ w'.cell? ⟨wr.heap.size, 1, none⟩ = some (.int .i64 ea.b) ∧ w'.cell? ⟨wr.heap.size, 2, none⟩ = some (.int .i64 ea.lo) ∧ w'.cell? ⟨wr.heap.size, 3, none⟩ = some (.int .i64 ea.hi) ∧ w'.cell? ⟨wr.heap.size, 4, none⟩ = some (.int .i64 ea.to) ∧ Below (wr.alloc (Obj.cells #[.int .i64 ea.a, .int .i64 ea.b, .int .i64 ea.lo, .int .i64 ea.hi, .int .i64 ea.to] 29)).heap.size (wr.alloc (Obj.cells #[.int .i64 ea.a, .int .i64 ea.b, .int .i64 ea.lo, .int .i64 ea.hi, .int .i64 ea.to] 29)) w')) := Lib.hid (fun w' hw => ⟨(hw.cell (p := ⟨wr.heap.size, 0, none⟩) HB1.out.lt).trans (HB1.out.cell 0), (hw.cell (p := ⟨wr.heap.size, 1, none⟩) HB1.out.lt).trans (HB1.out.cell 1), (hw.cell (p := ⟨wr.heap.size, 2, none⟩) HB1.out.lt).trans (HB1.out.cell 2), (hw.cell (p := ⟨wr.heap.size, 3, none⟩) HB1.out.lt).trans (HB1.out.cell 3), (hw.cell (p := ⟨wr.heap.size, 4, none⟩) HB1.out.lt).trans (HB1.out.cell 4), hw⟩)
        have Hnt := Lib.hid (fun (W : World) (hw : Below (World.alloc (wr.alloc (Obj.cells #[.int .i64 ea.a, .int .i64 ea.b, .int .i64 ea.lo, .int .i64 ea.hi, .int .i64 ea.to] 29)) (Obj.cells #[.int .i64 ea.a, .int .i64 ea.b] 3)).heap.size (World.alloc (wr.alloc (Obj.cells #[.int .i64 ea.a, .int .i64 ea.b, .int .i64 ea.lo, .int .i64 ea.hi, .int .i64 ea.to] 29)) (Obj.cells #[.int .i64 ea.a, .int .i64 ea.b] 3)) W) =>
          numbersText_any (.slice (some ⟨wr.heap.size + 1, 0, none⟩) 2 2) [ea.a, ea.b] W ((show Rd inS (World.alloc (wr.alloc (Obj.cells #[.int .i64 ea.a, .int .i64 ea.b, .int .i64 ea.lo, .int .i64 ea.hi, .int .i64 ea.to] 29)) (Obj.cells #[.int .i64 ea.a, .int .i64 ea.b] 3)) (World.alloc (wr.alloc (Obj.cells #[.int .i64 ea.a, .int .i64 ea.b, .int .i64 ea.lo, .int .i64 ea.hi, .int .i64 ea.to] 29)) (Obj.cells #[.int .i64 ea.a, .int .i64 ea.b] 3)).heap.size (.slice (some ⟨wr.heap.size + 1, 0, none⟩) 2 2) [ea.a, ea.b] by rw [← World.size_alloc wr (Obj.cells #[.int .i64 ea.a, .int .i64 ea.b, .int .i64 ea.lo, .int .i64 ea.hi, .int .i64 ea.to] 29)]; exact rd_ints (wr.alloc (Obj.cells #[.int .i64 ea.a, .int .i64 ea.b, .int .i64 ea.lo, .int .i64 ea.hi, .int .i64 ea.to] 29)) 3 [ea.a, ea.b] (by simp)).on hw) (by simp) (by
            intro j hj
            rw [inS_get hj]
            have h1 := hbd.a; have h2 := hbd.b
            have h6 : [ea.a, ea.b][j] ∈ [ea.a, ea.b] := List.getElem_mem hj
            generalize [ea.a, ea.b][j] = y at h6
            simp at h6
            omega) ((Ht1.out.on (bal (Below.refl _ _) _)).on hw))
        have H1 := Lib.hid (fun W (hw : Below (wr.alloc (Obj.cells #[.int .i64 ea.a, .int .i64 ea.b, .int .i64 ea.lo, .int .i64 ea.hi, .int .i64 ea.to] 29)).heap.size (wr.alloc (Obj.cells #[.int .i64 ea.a, .int .i64 ea.b, .int .i64 ea.lo, .int .i64 ea.hi, .int .i64 ea.to] 29)) W) => itoa_any ea.lo W (by have := hbd.lo; omega) (Ht1.out.on hw))
        have H3 := Lib.hid (fun W (hw : Below (wr.alloc (Obj.cells #[.int .i64 ea.a, .int .i64 ea.b, .int .i64 ea.lo, .int .i64 ea.hi, .int .i64 ea.to] 29)).heap.size (wr.alloc (Obj.cells #[.int .i64 ea.a, .int .i64 ea.b, .int .i64 ea.lo, .int .i64 ea.hi, .int .i64 ea.to] 29)) W) => itoa_any ea.hi W (by have := hbd.hi; omega) (Ht1.out.on hw))
        have H4 := Lib.hid (fun W (hw : Below (wr.alloc (Obj.cells #[.int .i64 ea.a, .int .i64 ea.b, .int .i64 ea.lo, .int .i64 ea.hi, .int .i64 ea.to] 29)).heap.size (wr.alloc (Obj.cells #[.int .i64 ea.a, .int .i64 ea.b, .int .i64 ea.lo, .int .i64 ea.hi, .int .i64 ea.to] 29)) W) => itoa_any ea.to W (by have := hbd.tt; omega) (Ht1.out.on hw))
        have HbW := Lib.hid (show Below w.heap.size w (wr.alloc (Obj.cells #[.int .i64 ea.a, .int .i64 ea.b, .int .i64 ea.lo, .int .i64 ea.hi, .int .i64 ea.to] 29)) from bal Hb.out _)
        have hb0 := Below.refl (wr.alloc (Obj.cells #[.int .i64 ea.a, .int .i64 ea.b, .int .i64 ea.lo, .int .i64 ea.hi, .int .i64 ea.to] 29)).heap.size (wr.alloc (Obj.cells #[.int .i64 ea.a, .int .i64 ea.b, .int .i64 ea.lo, .int .i64 ea.hi, .int .i64 ea.to] 29))
        clear hbd
        generalize catT es k = P0 at hnx s0
        generalize nText [ea.a, ea.b] = P2 at hnx s2 Hnt
        generalize itS ea.lo = P1 at hnx s1 H1
        generalize itS ea.hi = P3 at hnx s3 H3
        generalize itS ea.to = P4 at hnx s4 H4
        clear hcell
        obtain ⟨Q1, eQ1⟩ : ∃ Q, P2 ++ ⟨#[32]⟩ = Q := ⟨_, rfl⟩
        have aQ1 := str_add P2 ⟨#[32]⟩ (Nat.le_trans s2 (by decide)) (Nat.le_trans (show (⟨#[32]⟩ : ByteArray).size ≤ 10 by decide) (by decide))
        have zQ1 : Q1.size ≤ 100000 := by rw [← eQ1, ByteArray.size_append]; have h1 := s2; have h2 := (show (⟨#[32]⟩ : ByteArray).size ≤ 10 by decide); omega
        rw [eQ1] at aQ1 hnx; clear eQ1
        obtain ⟨Q2, eQ2⟩ : ∃ Q, Q1 ++ P1 = Q := ⟨_, rfl⟩
        have aQ2 := str_add Q1 P1 (Nat.le_trans zQ1 (by decide)) (Nat.le_trans s1 (by decide))
        have zQ2 : Q2.size ≤ 150000 := by rw [← eQ2, ByteArray.size_append]; have h1 := zQ1; have h2 := s1; omega
        rw [eQ2] at aQ2 hnx; clear eQ2
        obtain ⟨Q3, eQ3⟩ : ∃ Q, Q2 ++ ⟨#[46, 46]⟩ = Q := ⟨_, rfl⟩
        have aQ3 := str_add Q2 ⟨#[46, 46]⟩ (Nat.le_trans zQ2 (by decide)) (Nat.le_trans (show (⟨#[46, 46]⟩ : ByteArray).size ≤ 10 by decide) (by decide))
        have zQ3 : Q3.size ≤ 200000 := by rw [← eQ3, ByteArray.size_append]; have h1 := zQ2; have h2 := (show (⟨#[46, 46]⟩ : ByteArray).size ≤ 10 by decide); omega
        rw [eQ3] at aQ3 hnx; clear eQ3
        obtain ⟨Q4, eQ4⟩ : ∃ Q, Q3 ++ P3 = Q := ⟨_, rfl⟩
        have aQ4 := str_add Q3 P3 (Nat.le_trans zQ3 (by decide)) (Nat.le_trans s3 (by decide))
        have zQ4 : Q4.size ≤ 250000 := by rw [← eQ4, ByteArray.size_append]; have h1 := zQ3; have h2 := s3; omega
        rw [eQ4] at aQ4 hnx; clear eQ4
        obtain ⟨Q5, eQ5⟩ : ∃ Q, Q4 ++ ⟨#[32]⟩ = Q := ⟨_, rfl⟩
        have aQ5 := str_add Q4 ⟨#[32]⟩ (Nat.le_trans zQ4 (by decide)) (Nat.le_trans (show (⟨#[32]⟩ : ByteArray).size ≤ 10 by decide) (by decide))
        have zQ5 : Q5.size ≤ 300000 := by rw [← eQ5, ByteArray.size_append]; have h1 := zQ4; have h2 := (show (⟨#[32]⟩ : ByteArray).size ≤ 10 by decide); omega
        rw [eQ5] at aQ5 hnx; clear eQ5
        obtain ⟨Q6, eQ6⟩ : ∃ Q, Q5 ++ P4 = Q := ⟨_, rfl⟩
        have aQ6 := str_add Q5 P4 (Nat.le_trans zQ5 (by decide)) (Nat.le_trans s4 (by decide))
        have zQ6 : Q6.size ≤ 350000 := by rw [← eQ6, ByteArray.size_append]; have h1 := zQ5; have h2 := s4; omega
        rw [eQ6] at aQ6 hnx; clear eQ6
        obtain ⟨Q7, eQ7⟩ : ∃ Q, Q6 ++ ⟨#[10]⟩ = Q := ⟨_, rfl⟩
        have aQ7 := str_add Q6 ⟨#[10]⟩ (Nat.le_trans zQ6 (by decide)) (Nat.le_trans (show (⟨#[10]⟩ : ByteArray).size ≤ 10 by decide) (by decide))
        have zQ7 : Q7.size ≤ 400000 := by rw [← eQ7, ByteArray.size_append]; have h1 := zQ6; have h2 := (show (⟨#[10]⟩ : ByteArray).size ≤ 10 by decide); omega
        rw [eQ7] at aQ7 hnx; clear eQ7
        have aQ8 := str_add P0 Q7 (Nat.le_trans s0 (by decide)) (Nat.le_trans zQ7 (by decide))
        rw [← hnx] at aQ8
        clear hnx s0 s1 s2 s3 s4 zQ1 zQ2 zQ3 zQ4 zQ5 zQ6 zQ7
        obtain ⟨Q8, hQ8⟩ : ∃ Q, catT es (k + 1) = Q := ⟨_, rfl⟩
        rw [hQ8] at aQ8
        have HQ8 := Lib.hid hQ8; clear hQ8
        go_wp2
        go_region_held3 (fun w' => w'.cell? ⟨wr.heap.size, 0, none⟩ = some (.int .i64 ea.a) ∧ w'.cell? ⟨wr.heap.size, 1, none⟩ = some (.int .i64 ea.b) ∧ w'.cell? ⟨wr.heap.size, 2, none⟩ = some (.int .i64 ea.lo) ∧ w'.cell? ⟨wr.heap.size, 3, none⟩ = some (.int .i64 ea.hi) ∧ w'.cell? ⟨wr.heap.size, 4, none⟩ = some (.int .i64 ea.to) ∧ Below (wr.alloc (Obj.cells #[.int .i64 ea.a, .int .i64 ea.b, .int .i64 ea.lo, .int .i64 ea.hi, .int .i64 ea.to] 29)).heap.size (wr.alloc (Obj.cells #[.int .i64 ea.a, .int .i64 ea.b, .int .i64 ea.lo, .int .i64 ea.hi, .int .i64 ea.to] 29)) w') (((go_split_ands; refine HS.out _ ?_; repeat (first | (with_reducible assumption) | (with_reducible exact Below.refl _ _) | (with_reducible refine Below.drew ?_) | (with_reducible refine bal ?_ _) | (with_reducible refine bthen ?_ (by with_reducible assumption)))))) ((first | (go_at_call 113; (with_reducible refine (Hnt.out _ (by first | (with_reducible exact Below.refl _ _) | (with_reducible exact Below.drew (Below.refl _ _)))).mono ?_); rintro r w2 ⟨rfl, hb2⟩) | (go_at_call 114; (with_reducible refine (H1.out _ (by go_split_ands; repeat (first | (with_reducible assumption) | (with_reducible exact Below.refl _ _) | (with_reducible refine Below.drew ?_) | (with_reducible refine bal ?_ _) | (with_reducible refine bthen ?_ (by with_reducible assumption))))).mono ?_); rintro r w3 ⟨rfl, hb3⟩) | (go_at_call 114; (with_reducible refine (H3.out _ (by go_split_ands; repeat (first | (with_reducible assumption) | (with_reducible exact Below.refl _ _) | (with_reducible refine Below.drew ?_) | (with_reducible refine bal ?_ _) | (with_reducible refine bthen ?_ (by with_reducible assumption))))).mono ?_); rintro r w4 ⟨rfl, hb4⟩) | (go_at_call 114; (with_reducible refine (H4.out _ (by go_split_ands; repeat (first | (with_reducible assumption) | (with_reducible exact Below.refl _ _) | (with_reducible refine Below.drew ?_) | (with_reducible refine bal ?_ _) | (with_reducible refine bthen ?_ (by with_reducible assumption))))).mono ?_); rintro r w5 ⟨rfl, hb5⟩)))
        go_wp2
        go_roundw
        case rel => exact ⟨k + 1, by omega, by go_num, by rw [HQ8.out], bthen HbW.out (by go_split_ands; repeat (first | (with_reducible assumption) | (with_reducible exact Below.refl _ _) | (with_reducible refine Below.drew ?_) | (with_reducible refine bal ?_ _) | (with_reducible refine bthen ?_ (by with_reducible assumption))))⟩
        case measure => simp [intOf]; omega
      · obtain rfl : k = es.length := by omega
        clear hcell
        go_wp2
        go_ret
        exact ⟨rfl, hb⟩
set_option maxRecDepth 20000 in
set_option maxHeartbeats 8000000 in
theorem caText_any (v : Value) (es : List En) (w : World) (h : Rd enS w w.heap.size v es) (hl : es.length ≤ 12) (hv : ∀ j, j < es.length → okAt es j = true) :
    Calls Tryz.prog 63 #[v] w fun e w' => e = .returned (.string (catT es es.length)) ∧ Below w.heap.size w w' := by
  obtain ⟨A, c, rfl, hcc, hm, hA⟩ := h
  unfold maxLen at hm
  rcases Nat.eq_zero_or_pos es.length with h0 | h0
  · obtain rfl : es = [] := List.eq_nil_of_length_eq_zero h0
    clear hA hv
    go_enter Tryz.func63, Tryz.ntmps63
    go_wp2
    refine wp_loop_rounds 1 ?_
    rw [rounds_succ]
    go_wp2
    go_ret
    exact ⟨rfl, Below.refl _ _⟩
  · obtain ⟨g, off, rfl, hg, hcell⟩ := hA h0
    clear hA
    have hcell := en_cells hcell
    have Hv := Lib.hid hv; clear hv
    skip
    go_enter Tryz.func63, Tryz.ntmps63
    go_wp2
    go_loopw [8, 3] (fun i o wr => ∃ k : Nat, k ≤ es.length ∧ i = .int .i64 k ∧ o = .string (catT es k) ∧ Below w.heap.size w wr) (fun i _ _ => es.length - (intOf i).toNat)
    case atStart => exact ⟨0, Nat.zero_le _, rfl, rfl, Below.refl _ _⟩
    case round =>
      obtain ⟨k, hk, rfl, rfl, hb⟩ := hrel
      have s0 := catT_size es Hv.out k hk
      replace s0 : (catT es k).size ≤ 1000000 := by omega
      by_cases hlt : k < es.length
      · obtain ⟨f0, f1, f2, f3, f4⟩ := hcell k hlt
        rw [← hb.cell (p := ⟨_, _, _⟩) hg] at f0 f1 f2 f3 f4
        have hbd := enBd (okAt_ent9 (Hv.out k hlt))
        have hnx : catT es (k + 1) = catT es k ++ entT (enS.get es k) := rfl
        unfold entT at hnx
        obtain ⟨ea, hea⟩ : ∃ e, enS.get es k = e := ⟨_, rfl⟩
        rw [hea] at f0 f1 f2 f3 f4 hbd hnx
        clear hea
        have hgr : g < wr.heap.size := Nat.lt_of_lt_of_le hg hb.size
        have hgr' : g < wr.heap.size + 1 := Nat.lt_succ_of_lt hgr
        have s2 := nText2_size hbd.a hbd.b
        have s1 : (itS ea.lo).size ≤ 10000 := by have := itS_size ea.lo; have := hbd.lo; omega
        have s3 : (itS ea.hi).size ≤ 10000 := by have := itS_size ea.hi; have := hbd.hi; omega
        have s4 : (itS ea.to).size ≤ 10000 := by have := itS_size ea.to; have := hbd.tt; omega
        have H2 := Lib.hid (fun W => ecText_any ea.a ea.b W (by have := hbd.a; omega) (by have := hbd.b; omega))
        have H1 := Lib.hid (fun W => l1Num_int ea.lo W (by have := hbd.lo; omega))
        have H3 := Lib.hid (fun W => l1Num_int ea.hi W (by have := hbd.hi; omega))
        have H4 := Lib.hid (fun W => l1Num_int ea.to W (by have := hbd.tt; omega))
        have Hb := Lib.hid (show Below w.heap.size w (wr.alloc (Obj.cells #[.int .i64 ea.a, .int .i64 ea.b, .int .i64 ea.lo, .int .i64 ea.hi, .int .i64 ea.to] 29)) from bal hb _)
        clear hbd
        generalize catT es k = P0 at hnx s0
        generalize nText [ea.a, ea.b] = P2 at hnx s2 H2
        generalize itS ea.lo = P1 at hnx s1 H1
        generalize itS ea.hi = P3 at hnx s3 H3
        generalize itS ea.to = P4 at hnx s4 H4
        clear hcell
        have Hnx := Lib.hid hnx; clear hnx
        go_wp2
        refine wp_region_tame (by kernel_rfl) (by kernel_rfl) (fun T _ W hT => ?_)
        have hx := hT.cell
        repeat (go_big_quiet_step ((first | (go_at_call 115; with_reducible exact hT.call (H2.out _)) | (go_at_call 116; with_reducible exact hT.call (H1.out _)) | (go_at_call 116; with_reducible exact hT.call (H3.out _)) | (go_at_call 116; with_reducible exact hT.call (H4.out _)))))
        refine wpQuiet_nil ?_
        intro z
        clear hx
        go_wp2
        go_roundw
        case rel => exact ⟨k + 1, by omega, by go_num, by rw [Hnx.out], bthen Hb.out (hT.below z)⟩
        case measure => simp [intOf]; omega
      · obtain rfl : k = es.length := by omega
        clear hcell
        go_wp2
        go_ret
        exact ⟨rfl, hb⟩
def catV (es : List En) : ByteArray × Bool := if catB es then (catT es es.length, true) else (⟨#[]⟩, false)
theorem ret_sb3 {s : ByteArray} {k : Bool} {p : ByteArray × Bool} (h : p = (s, k)) : Ending.returned (.tuple #[.string s, .bool k]) = .returned (.tuple #[.string p.1, .bool p.2]) := by rw [h]
set_option maxHeartbeats 1600000 in
theorem implCatText_any (v : Value) (es : List En) (w : World) (h : Rd enS w w.heap.size v es) (htab : Tab w) :
    Calls Tryz.prog 14 #[v] w fun e w' => e = .returned (.tuple #[.string (catV es).1, .bool (catV es).2]) ∧ Below w.heap.size w w' := by
  go_enter Tryz.func14, Tryz.ntmps14
  go_wp2_with fail
  refine (isCatalogue_any _ _ _ h).mono ?_; rintro e w1 ⟨rfl, hb1⟩
  cases hk : catB es
  · have Hv := Lib.hid (show catV es = (⟨#[]⟩, false) by unfold catV; rw [hk]; rfl)
    clear hk
    go_wp2
    go_ret2
    exact ⟨ret_sb3 Hv.out, hb1⟩
  · have Hv := Lib.hid (show catV es = (catT es es.length, true) by unfold catV; rw [hk]; rfl)
    have Hal := Lib.hid (catB_all9 hk)
    clear hk
    go_wp2_with fail
    refine (catalogueText_any _ _ _ (h.on hb1) Hal.out.1 Hal.out.2 (htab.on hb1)).mono ?_; rintro e w2 ⟨rfl, hb2⟩
    go_wp2
    go_ret2
    exact ⟨ret_sb3 Hv.out, bthen hb1 hb2⟩
set_option maxHeartbeats 1600000 in
theorem specCatText_any (v : Value) (es : List En) (w : World) (h : Rd enS w w.heap.size v es) :
    Calls Tryz.prog 15 #[v] w fun e w' => e = .returned (.tuple #[.string (catV es).1, .bool (catV es).2]) ∧ Below w.heap.size w w' := by
  go_enter Tryz.func15, Tryz.ntmps15
  go_wp2_with fail
  refine (caGood_any _ _ _ h).mono ?_; rintro e w1 ⟨rfl, hb1⟩
  cases hk : catB es
  · have Hv := Lib.hid (show catV es = (⟨#[]⟩, false) by unfold catV; rw [hk]; rfl)
    clear hk
    go_wp2
    go_ret2
    exact ⟨ret_sb3 Hv.out, hb1⟩
  · have Hv := Lib.hid (show catV es = (catT es es.length, true) by unfold catV; rw [hk]; rfl)
    have Hal := Lib.hid (catB_all9 hk)
    clear hk
    go_wp2_with fail
    refine (caText_any _ _ _ (h.on hb1) Hal.out.1 Hal.out.2).mono ?_; rintro e w2 ⟨rfl, hb2⟩
    go_wp2
    go_ret2
    exact ⟨ret_sb3 Hv.out, bthen hb1 hb2⟩
end
section
open Go Go.RowKit

end
section
open Go Go.RowKit Go.ChangeShapes Go.WideShapes Go.Deep

/-- A type all of whose cells are of type int64 (an int, or a struct of such). -/
def intsB (P : Program) : Nat → TypeId → Bool
  | 0, _ => false
  | n + 1, t => match P.underlying t with
    | some (.int k) => k == .i64
    | some (.struct fs) => fs.toList.all (fun f => intsB P n f.type) && (fs.toList.flatMap (fun f => List.range' f.offset (P.cellsOf f.type)) == List.range (P.cellsOf t))
    | _ => false

section
variable {H : Type} {enc : TypeId × Value → H} {P : Program} {w : World} {base : Nat} {spare : Nat → Bool} {held : Bool}

theorem ints_of_trod : ∀ (n : Nat) (t : TypeId) (fuel : Nat) (cs : List Value) (x : DataW H × List MemPlace), intsB P n t = true → DataW.trod enc P w base spare held fuel t cs = some x →
    ∀ c ∈ cs, ∃ m, c = .int .i64 m ∧ (Lit.int .i64 m).wf = true := by
  intro n
  induction n with
  | zero => intro t fuel cs x h; simp [intsB] at h
  | succ n ih =>
    intro t fuel cs x h ht c hc
    unfold intsB at h
    split at h
    · rename_i k hk
      obtain rfl : k = .i64 := by simpa using h
      obtain ⟨fuel, rfl⟩ : ∃ f, fuel = f + 1 := by cases fuel with
        | zero => simp [DataW.trod] at ht
        | succ f => exact ⟨f, rfl⟩
      unfold DataW.trod at ht
      rw [hk] at ht
      split at ht <;> simp_all
    · rename_i fs hk
      simp only [Bool.and_eq_true, beq_iff_eq] at h
      obtain ⟨xs, n', hn', hx, hlen, hxl, hf⟩ := DataW.trod_struct hk ht
      obtain ⟨j, hj, rfl⟩ := List.mem_iff_getElem.1 hc
      have hmem : j ∈ fs.toList.flatMap (fun f => List.range' f.offset (P.cellsOf f.type)) := by
        rw [h.2]; exact List.mem_range.2 (by omega)
      obtain ⟨f, hfm, hjr⟩ := List.mem_flatMap.1 hmem
      obtain ⟨i, hi, hfi⟩ := List.mem_iff_getElem.1 hfm
      have hfs : fs[i]? = some f := by
        have : fs.toList[i]? = some f := by rw [List.getElem?_eq_getElem hi, hfi]
        simpa using this
      have h1 := hf i f hfs
      have hil : i < xs.length := by rw [hxl]; simpa using hi
      rw [List.getElem?_eq_getElem hil] at h1
      refine ih f.type n' _ _ (by have := List.all_eq_true.1 h.1 f hfm; exact this) h1 _ ?_
      obtain ⟨hlo, hhi⟩ := List.mem_range'_1.1 hjr
      rw [List.mem_iff_getElem?]
      refine ⟨j - f.offset, ?_⟩
      rw [List.getElem?_take_of_lt (by omega), List.getElem?_drop]
      have : f.offset + (j - f.offset) = j := by omega
      rw [this, List.getElem?_eq_getElem hj]
    · cases h

/-- A struct of ints by value. -/
theorem open_ints_agg {r : Reach} {b0 : Nat} {t : TypeId} {fs : Array Field} {v : Value} {d : DataW H} {p : List MemPlace} (hs : P.underlying t = some (.struct fs)) (k : Nat) (hi : intsB P k t = true)
    (hv : Value.okWide P w r b0 t v) (h : DataW.Trod enc P w base spare held t v d p) :
    ∃ ns : List Int, ns.length = P.cellsOf t ∧ v = .agg (ns.map (Value.int .i64)).toArray ∧ ∀ n ∈ ns, (Lit.int .i64 n).wf = true := by
  obtain ⟨cs, rfl, hsz⟩ := okWide_struct hs hv
  obtain ⟨fuel, hf⟩ := h
  have hall := ints_of_trod k t fuel _ _ hi hf
  have : ∀ l : List Value, (∀ c ∈ l, ∃ m, c = .int .i64 m ∧ (Lit.int .i64 m).wf = true) → ∃ ns : List Int, l = ns.map (Value.int .i64) ∧ ∀ n ∈ ns, (Lit.int .i64 n).wf = true := by
    intro l
    induction l with
    | nil => exact fun _ => ⟨[], rfl, by simp⟩
    | cons c l ih =>
      intro hl
      obtain ⟨m, rfl, hm⟩ := hl c (by simp)
      obtain ⟨ns, rfl, hns⟩ := ih (fun c hc => hl c (by simp [hc]))
      exact ⟨m :: ns, rfl, by simp [hm]; exact hns⟩
  obtain ⟨ns, hns, hwf⟩ := this cs.toList hall
  refine ⟨ns, ?_, ?_, hwf⟩
  · have : cs.toList.length = ns.length := by rw [hns]; simp
    simp at this
    omega
  · rw [← hns]

theorem choose_list {E : Type} (S : Shape E) (p : Nat → E → Prop) : ∀ n : Nat, (∀ i, i < n → ∃ e, p i e) → ∃ es : List E, es.length = n ∧ ∀ i, i < n → p i (S.get es i)
  | 0, _ => ⟨[], rfl, fun i hi => absurd hi (by omega)⟩
  | n + 1, h => by
    obtain ⟨es, hl, hes⟩ := choose_list S p n (fun i hi => h i (by omega))
    obtain ⟨e, he⟩ := h n (by omega)
    refine ⟨es ++ [e], by simp [hl], fun i hi => ?_⟩
    rcases Nat.lt_or_ge i n with h1 | h1
    · have := hes i h1
      unfold Shape.get at this ⊢
      rw [List.getD_eq_getElem?_getD, List.getElem?_append_left (by omega), ← List.getD_eq_getElem?_getD]
      exact this
    · obtain rfl : i = n := by omega
      unfold Shape.get
      rw [List.getD_eq_getElem?_getD, List.getElem?_append_right (by omega), hl]
      simpa using he

/-- A slice of structs of ints. -/
theorem open_ints_slice {E : Type} (S : Shape E) (mk : (Nat → Int) → E) (hmk : ∀ c j, j < S.size → S.cell (mk c) j = .int .i64 (c j)) {r : Reach} {b0 : Nat} {t e : TypeId} {v : Value} {d : DataW H} {p : List MemPlace}
    (ht : P.underlying t = some (.slice e)) (hpos : 0 < S.size) (hsz : P.cellsOf e = S.size) (k : Nat) (hi : intsB P k e = true)
    (hv : Value.okWide P w r b0 t v) (h : DataW.Trod enc P w base spare held t v d p) :
    ∃ es : List E, Rd S w w.heap.size v es := by
  obtain ⟨A, len, cap, rfl⟩ := okWide_slice ht hv
  obtain ⟨fuel, hf⟩ := h
  rcases open_slice ht hf with ⟨hcs, _⟩ | ⟨a, len', cap', m, n, D, Pl, hcs, hb, hl, hm, hmm, hx, hcell⟩
  · obtain ⟨rfl, rfl, rfl⟩ : A = none ∧ len = 0 ∧ cap = 0 := by simpa [Value.cells] using hcs
    exact ⟨[], Rd.nil _ _⟩
  · obtain ⟨rfl, rfl, rfl⟩ : A = some a ∧ len = len' ∧ cap = cap' := by simpa [Value.cells] using hcs
    have hlm : len ≤ m := by rw [hmm]; split <;> omega
    have key : ∀ i, i < len → ∃ e : E, ∀ j, j < S.size → w.cell? ((a.add (i * S.size)).add j) = some (S.cell e j) := by
      intro i hil
      obtain ⟨cs', hc, ht'⟩ := hcell i (by omega)
      rw [hsz] at hc
      obtain ⟨_, hcl, hat⟩ := World.cells?_some hc
      have hall := ints_of_trod k e n _ _ hi ht'
      refine ⟨mk (fun j => match cs'[j]? with | some (.int _ q) => q | _ => 0), fun j hj => ?_⟩
      rw [hat j hj, hmk _ j hj]
      have hjl : j < cs'.length := by omega
      rw [List.getElem?_eq_getElem hjl]
      obtain ⟨q, hq, _⟩ := hall cs'[j] (List.getElem_mem hjl)
      rw [hq]
    obtain ⟨es, hlen, hes⟩ := choose_list S (fun i e => ∀ j, j < S.size → w.cell? ((a.add (i * S.size)).add j) = some (S.cell e j)) len key
    subst hlen
    refine ⟨es, some a, cap, rfl, hl, hm, fun h0 => ?_⟩
    have h00 := hes 0 h0 0 hpos
    obtain ⟨g, off, spot⟩ := a
    have hspot : spot = none := by
      have := h00
      simp only [Nat.zero_mul] at this
      simpa [Addr.add] using World.cell?_spot this
    subst hspot
    have hadd : ∀ x y : Nat, ((⟨g, off, none⟩ : Addr).add x).add y = ⟨g, off + x + y, none⟩ := by
      intro x y
      unfold Addr.add
      by_cases hx : x = 0 <;> by_cases hy : y = 0 <;> simp [hx, hy]
    refine ⟨g, off, rfl, ?_, fun q hq j hj => ?_⟩
    · rw [hadd] at h00
      exact World.block_lt_of_cell? w _ h00
    · have := hes q hq j hj
      rw [hadd] at this
      exact this

/-- A law's last step: of what was there nothing has turned. -/
theorem post_below {f : Func} {s : ChangeSpec} {W W' : World} {args : Array Value} {v : Value} {ds : List (DataW H)} {before pa : List MemPlace}
    (hW : DataW.Whole enc P f.params.toList s.vars false W args.toList ds [] before)
    (hres : DataW.TrodAll enc P W' W.heap.size (fun _ => false) false f.resultTypes.toList (v.resultList f.resultTypes.size) (s.fn H (ds ++ [])).results [])
    (hargs : DataW.TrodAll enc P W' 0 (fun b => decide (b < W.heap.size)) true f.params.toList args.toList (s.fn H (ds ++ [])).args pa)
    (hvars : DataW.TrodVars enc P W' (fun b => decide (b < W.heap.size)) s.vars (s.fn H (ds ++ [])).vars [])
    (hps : before = pa) (hb : Below W.heap.size W W') :
    s.post enc P f false true false false W args v W' := by
  have hlt : ∀ p ∈ before, p.block < W.heap.size := fun p hp => hW.lt p hp
  refine ⟨ds, [], before, [], pa, [], hW, hres, hargs, hvars, World.keptBut_mono (fun p hp => ⟨hp, ?_⟩) (hb.frame (· ∈ before)), fun h => by cases h⟩
  rw [hps] at hp
  exact Or.inr (by simpa using hp)

theorem list2 {l : List Int} (h : l.length = 2) : ∃ a b, l = [a, b] := by
  match l, h with
  | [a, b], _ => exact ⟨a, b, rfl⟩
theorem list3 {l : List Int} (h : l.length = 3) : ∃ a b c, l = [a, b, c] := by
  match l, h with
  | [a, b, c], _ => exact ⟨a, b, c, rfl⟩
theorem list4 {l : List Int} (h : l.length = 4) : ∃ a b c d, l = [a, b, c, d] := by
  match l, h with
  | [a, b, c, d], _ => exact ⟨a, b, c, d, rfl⟩
theorem list5 {l : List Int} (h : l.length = 5) : ∃ a b c d e, l = [a, b, c, d, e] := by
  match l, h with
  | [a, b, c, d, e], _ => exact ⟨a, b, c, d, e, rfl⟩
theorem list7 {l : List Int} (h : l.length = 7) : ∃ a b c d e f g, l = [a, b, c, d, e, f, g] := by
  match l, h with
  | [a, b, c, d, e, f, g], _ => exact ⟨a, b, c, d, e, f, g, rfl⟩
end
end
section
open Go Go.RowKit

/-! ### What a call that draws leaves as it was: all blocks but the cursor's -/
structure Dg (g : Nat) (w w' : World) : Prop where
  os : w'.os = w.os
  tape : w'.tape = w.tape
  output : w'.output = w.output
  size : w.heap.size ≤ w'.heap.size
  block : ∀ i, i < w.heap.size → i ≠ g → w'.heap[i]? = w.heap[i]?
section
variable {g : Nat} {w w' w1 w2 x y : World}
theorem Dg.refl (g : Nat) (w : World) : Dg g w w := ⟨rfl, rfl, rfl, Nat.le_refl _, fun _ _ _ => rfl⟩
theorem Dg.trans (h : Dg g w w1) (k : Dg g w1 w2) : Dg g w w2 :=
  ⟨k.os.trans h.os, k.tape.trans h.tape, k.output.trans h.output, Nat.le_trans h.size k.size, fun i h1 h2 => (k.block i (Nat.lt_of_lt_of_le h1 h.size) h2).trans (h.block i h1 h2)⟩
theorem Dg.of_below (h : Below w.heap.size w w') : Dg g w w' := ⟨h.os, h.tape, h.output, h.size, fun i h1 _ => h.block i h1⟩
theorem Dg.on (h : Dg g w x) (k : Below x.heap.size x y) : Dg g w y := h.trans (Dg.of_below k)
theorem Dg.alloc (h : Dg g w x) (o : Obj) : Dg g w (x.alloc o) := h.on (bal (Below.refl _ _) o)
theorem Dg.drew (h : Dg g w x) : Dg g w x.drew := ⟨h.os, h.tape, h.output, h.size, h.block⟩
theorem Dg.st (h : Dg g w x) {p : Addr} (hp : w.heap.size ≤ p.block) (u : Value) : Dg g w (x.setCell p u) :=
  ⟨h.os, h.tape, h.output, by rw [World.size_setCell]; exact h.size, fun i h1 h2 => (Below.heap_setCell x p u i (by omega)).trans (h.block i h1 h2)⟩
theorem Dg.stg (h : Dg g w x) (j : Nat) (u : Value) : Dg g w (x.setCell ⟨g, j, none⟩ u) :=
  ⟨h.os, h.tape, h.output, by rw [World.size_setCell]; exact h.size, fun i h1 h2 => (Below.heap_setCell x ⟨g, j, none⟩ u i h2).trans (h.block i h1 h2)⟩
theorem Dg.grown {row : Option Nat} (h : Dg g w x) (k : x.grownBy y row) (hr : ∀ r, row = some r → w.heap.size ≤ r) : Dg g w y :=
  ⟨k.os.trans h.os, k.tape.trans h.tape, k.output.trans h.output, Nat.le_trans h.size k.size, fun i h1 h2 => (k.block i (Nat.lt_of_lt_of_le h1 h.size) (fun e => by have := hr i e.symm; omega)).trans (h.block i h1 h2)⟩
theorem Dg.below (h : Dg g w w') {B : Nat} (hB : B ≤ g) (hw : B ≤ w.heap.size) : Below B w w' := ⟨h.os, h.tape, h.output, h.size, fun i hi => h.block i (by omega) (by omega)⟩
theorem Dg.to_grown (h : Dg g w w') : w.grownBy w' (some g) := ⟨h.os, h.tape, h.output, h.size, fun i h1 h2 => h.block i h1 (fun e => h2 (by rw [e]))⟩
theorem Blk.dg {b : Nat} {t : TypeId} {cs : Array Value} (h : Blk w b t cs) (hd : Dg g w w') (hne : b ≠ g) : Blk w' b t cs := (hd.block b h.lt hne).trans h
theorem own_dg {base : Nat} {e : TypeId} {size n : Nat} {v : Value} {xs : List Value} (h : w.ownsRow base e size v n xs) (hd : Dg g w w') (hb : g < base) : w'.ownsRow base e size v n xs := by
  refine World.ownsRow.kept h hd.to_grown ?_
  cases hv : v.ownBlock with
  | none => exact .inl rfl
  | some k => exact .inr (fun e => by injection e with e; have := (h.lt k hv).1; omega)
theorem dcell {p : Addr} (hd : Dg g w w') (h1 : p.block < w.heap.size) (h2 : p.block ≠ g) : w'.cell? p = w.cell? p := by
  unfold World.cell?
  rw [hd.block _ h1 h2]
end

theorem Blk.set12 {w : World} {g : Nat} {t : TypeId} {a b c b' c' : Value} (h : Blk w g t #[a, b, c]) : Blk ((w.setCell ⟨g, 1, none⟩ b').setCell ⟨g, 2, none⟩ c') g t #[a, b', c'] := by
  have q := ((h.set 1 b').set 2 c')
  simp only [List.setIfInBounds_toArray, List.set_cons_zero, List.set_cons_succ] at q
  exact q
/-! ### The cursor -/
/-- A slice of bytes that lies below g. -/
def BytesAt (w : World) (g : Nat) (A : Option Addr) (n : Nat) : Prop :=
  n ≤ maxLen ∧ (0 < n → ∃ gc off, A = some ⟨gc, off, none⟩ ∧ gc < g ∧ gc < w.heap.size ∧ ∀ j, j < n → ∃ b : Nat, b ≤ 255 ∧ w.cell? ⟨gc, off + j, none⟩ = some (.int .u8 (b : Int)))
structure Cur (w : World) (g k : Nat) : Prop where
  ex : ∃ (A : Option Addr) (n c q : Nat) (s : Int), Blk w g 78 #[.slice A n c, .int .i64 (q : Int), .int .u64 s] ∧ q ≤ k ∧ BytesAt w g A n
section
variable {g k : Nat} {w w' x y : World}
theorem BytesAt.dg {A : Option Addr} {n : Nat} (h : BytesAt w g A n) (hd : Dg g w w') : BytesAt w' g A n :=
  ⟨h.1, fun h0 => by
    obtain ⟨gc, off, hA, h1, h2, hc⟩ := h.2 h0
    refine ⟨gc, off, hA, h1, Nat.lt_of_lt_of_le h2 hd.size, fun j hj => ?_⟩
    obtain ⟨b, hb, hcell⟩ := hc j hj
    exact ⟨b, hb, (dcell (p := ⟨gc, off + j, none⟩) hd h2 (Nat.ne_of_lt h1)).trans hcell⟩⟩
theorem Cur.lt (h : Cur w g k) : g < w.heap.size := let ⟨_, _, _, _, _, hB, _⟩ := h.ex; hB.lt
theorem Cur.mono (h : Cur w g k) {j : Nat} (hj : k ≤ j) : Cur w g j := let ⟨A, n, c, q, s, hB, hq, hb⟩ := h.ex; ⟨A, n, c, q, s, hB, Nat.le_trans hq hj, hb⟩
theorem Cur.on (h : Cur w g k) (hb : Below w.heap.size w w') : Cur w' g k := let ⟨A, n, c, q, s, hB, hq, hr⟩ := h.ex; ⟨A, n, c, q, s, hB.on hb, hq, hr.dg (Dg.of_below hb)⟩
theorem Cur.alloc (h : Cur w g k) (o : Obj) : Cur (w.alloc o) g k := h.on (bal (Below.refl _ _) o)
theorem Cur.st (h : Cur w g k) {p : Addr} (hp : g < p.block) (u : Value) : Cur (w.setCell p u) g k := by
  obtain ⟨A, n, c, q, s, hB, hq, hr⟩ := h.ex
  refine ⟨A, n, c, q, s, hB.far (by omega) u, hq, hr.1, fun h0 => ?_⟩
  obtain ⟨gc, off, hA, h1, h2, hc⟩ := hr.2 h0
  refine ⟨gc, off, hA, h1, by rw [World.size_setCell]; exact h2, fun j hj => ?_⟩
  obtain ⟨b, hb, hcell⟩ := hc j hj
  exact ⟨b, hb, (World.cell?_setCell_other _ _ _ _ (by intro e; have h9 := congrArg Addr.block e; simp only at h9; omega)).trans hcell⟩
theorem Cur.grown {row : Option Nat} (h : Cur x g k) (hg : x.grownBy y row) (hr : ∀ r, row = some r → g < r) : Cur y g k := by
  obtain ⟨A, n, c, q, s, hB, hq, hr2⟩ := h.ex
  refine ⟨A, n, c, q, s, (hg.block g hB.lt (fun e => by have := hr g e.symm; omega)).trans hB, hq, hr2.1, fun h0 => ?_⟩
  obtain ⟨gc, off, hA, h1, h2, hc⟩ := hr2.2 h0
  refine ⟨gc, off, hA, h1, Nat.lt_of_lt_of_le h2 hg.size, fun j hj => ?_⟩
  obtain ⟨b, hb, hcell⟩ := hc j hj
  refine ⟨b, hb, ?_⟩
  rw [← hcell]
  unfold World.cell?
  rw [hg.block gc h2 (fun e => by have := hr gc e.symm; omega)]
end
theorem lowbyte (S : Int) (h0 : 0 ≤ S) (h1 : S < 18446744073709551616) : 0 ≤ wrap64 (bits .and .u64 (S / 1099511627776) 255) ∧ wrap64 (bits .and .u64 (S / 1099511627776) 255) ≤ 255 := by
  obtain ⟨a, ha⟩ : ∃ a : Nat, S / 1099511627776 = a := ⟨(S / 1099511627776).toNat, by omega⟩
  have h2 := bits_and_u64_nat a 255 (by omega) (by decide)
  rw [ha, show (255 : Int) = ((255 : Nat) : Int) from rfl, h2]
  have h3 : a &&& 255 ≤ 255 := Nat.and_le_right
  unfold wrap64
  omega
theorem wrap_bd (n : Int) : 0 ≤ IntKind.u64.wrap n ∧ IntKind.u64.wrap n < 18446744073709551616 := by
  rw [IntKind.wrap_u64]
  omega
set_option maxRecDepth 8000 in
set_option maxHeartbeats 4000000 in
theorem next_any (g k : Nat) (w : World) (hc : Cur w g k) (hk : k ≤ 1000000) :
    Calls Tryz.prog 106 #[.pointer (some ⟨g, 0, none⟩)] w fun e w' => (∃ b : Int, 0 ≤ b ∧ b ≤ 255 ∧ e = .returned (.int .i64 b)) ∧ Cur w' g (k + 1) ∧ Dg g w w' := by
  obtain ⟨A, n, c, q, s, hB, hq, hr⟩ := hc.ex
  clear hc
  have hn := hr.1
  unfold maxLen at hn
  have hqn : (q : Int) ≤ 1000000 := by omega
  have Hq := Lib.hid hq
  have HB0 := Lib.hid hB
  have Hr0 := Lib.hid hr
  have Hd0 := Lib.hid (Dg.refl g w)
  have r0 := hB.cell 0
  have r1 := hB.cell 1
  have r2 := hB.cell 2
  have rl := hB.lt
  simp at r0 r1 r2
  clear hB hr hq hk
  go_enter Tryz.func106, Tryz.ntmps106
  go_wp2
  refine wp_region_tame (by kernel_rfl) (by kernel_rfl) (fun T _ W hT => ?_)
  have hx := hT.cell
  repeat (go_big_quiet_step (fail))
  refine wpQuiet_nil ?_
  intro t
  clear hx
  have hbt := hT.below t
  generalize W t = wt1 at hbt ⊢
  clear hT r0 r1 r2 rl
  have HB1 := Lib.hid (HB0.out.on hbt)
  have Hr1 := Lib.hid (Hr0.out.dg (Dg.of_below (g := g) hbt))
  have Hd1 := Lib.hid (Hd0.out.on hbt)
  clear hbt
  have r0 := HB1.out.cell 0
  have r1 := HB1.out.cell 1
  have r2 := HB1.out.cell 2
  have rl := HB1.out.lt
  have rf := HB1.out.frozen
  simp at r0 r1 r2
  by_cases hlt : q < n
  · obtain ⟨gc, off, rfl, hgc, hgl, hcell⟩ := Hr1.out.2 (by omega)
    obtain ⟨b, hb, f0⟩ := hcell q hlt
    clear hcell
    have hb0 : (b : Int) ≤ 255 := by omega
    have hqq : (q : Int) < (n : Int) := by omega
    clear rf
    go_wp2
    refine wp_region_tame (by kernel_rfl) (by kernel_rfl) (fun T _ W hT => ?_)
    have hx := hT.cell
    repeat (go_big_quiet_step (fail))
    refine wpQuiet_nil ?_
    intro t
    clear hx
    have hbt := hT.below t
    generalize W t = wt2 at hbt ⊢
    clear hT r0 r1 r2 rl f0
    have HB2 := Lib.hid (HB1.out.on hbt)
    have Hr2 := Lib.hid (Hr1.out.dg (Dg.of_below (g := g) hbt))
    have Hd2 := Lib.hid (Hd1.out.on hbt)
    clear hbt
    have r0 := HB2.out.cell 0
    have r1 := HB2.out.cell 1
    have r2 := HB2.out.cell 2
    have rl := HB2.out.lt
    have rf := HB2.out.frozen
    simp at r0 r1 r2
    go_wp2
    have HS := Lib.hid (wrap_bd (IntKind.u64.wrap (IntKind.u64.wrap (s * 6364136223846793005) + (b : Int)) + 1442695040888963407))
    generalize IntKind.u64.wrap (IntKind.u64.wrap (IntKind.u64.wrap (s * 6364136223846793005) + (b : Int)) + 1442695040888963407) = S at HS ⊢
    have HBq := Lib.hid (show Blk (World.setCell (World.setCell wt2 ⟨g, 1, none⟩ (.int .i64 ((q : Int) + 1))) ⟨g, 2, none⟩ (.int .u64 S)) g _ _ from HB2.out.set12)
    have Hrq := Lib.hid (Hr2.out.dg (show Dg g wt2 (World.setCell (World.setCell wt2 ⟨g, 1, none⟩ (.int .i64 ((q : Int) + 1))) ⟨g, 2, none⟩ (.int .u64 S)) from ((Dg.refl g _).stg _ _).stg _ _))
    have Hdq := Lib.hid (show Dg g w (World.setCell (World.setCell wt2 ⟨g, 1, none⟩ (.int .i64 ((q : Int) + 1))) ⟨g, 2, none⟩ (.int .u64 S)) from (Hd2.out.stg _ _).stg _ _)
    generalize (World.setCell (World.setCell wt2 ⟨g, 1, none⟩ (.int .i64 ((q : Int) + 1))) ⟨g, 2, none⟩ (.int .u64 S)) = wq at HBq Hrq Hdq ⊢
    clear r0 r1 r2 rl rf
    have r0 := HBq.out.cell 0
    have r1 := HBq.out.cell 1
    have r2 := HBq.out.cell 2
    have rl := HBq.out.lt
    have rf := HBq.out.frozen
    simp at r0 r1 r2
    refine wp_region_tame (by kernel_rfl) (by kernel_rfl) (fun T _ W hT => ?_)
    have hx := hT.cell
    repeat (go_big_quiet_step (fail))
    refine wpQuiet_nil ?_
    intro t
    clear hx
    have hbt := hT.below t
    generalize W t = wt9 at hbt ⊢
    clear hT r0 r1 r2 rl
    have HB9 := Lib.hid (HBq.out.on hbt)
    have Hr9 := Lib.hid (Hrq.out.dg (Dg.of_below (g := g) hbt))
    have Hd9 := Lib.hid (Hdq.out.on hbt)
    clear hbt
    have r0 := HB9.out.cell 0
    have r1 := HB9.out.cell 1
    have r2 := HB9.out.cell 2
    have rl := HB9.out.lt
    have rf := HB9.out.frozen
    simp at r0 r1 r2
    have hqq9 : (q : Int) + 1 ≤ (n : Int) := by omega
    go_wp2
    go_ret
    exact ⟨⟨_, by omega, by omega, rfl⟩, ⟨_, n, c, q + 1, S, by have h9 := HB9.out; rw [show ((q + 1 : Nat) : Int) = (q : Int) + 1 by omega]; exact h9, by have := Hq.out; omega, Hr9.out⟩, Hd9.out⟩
  · go_wp2
    have HS := Lib.hid (wrap_bd (IntKind.u64.wrap (IntKind.u64.wrap (s * 6364136223846793005)) + 1442695040888963407))
    generalize IntKind.u64.wrap (IntKind.u64.wrap (IntKind.u64.wrap (s * 6364136223846793005)) + 1442695040888963407) = S at HS ⊢
    have HBq := Lib.hid (show Blk (World.setCell (World.setCell wt1 ⟨g, 1, none⟩ (.int .i64 ((q : Int) + 1))) ⟨g, 2, none⟩ (.int .u64 S)) g _ _ from HB1.out.set12)
    have Hrq := Lib.hid (Hr1.out.dg (show Dg g wt1 (World.setCell (World.setCell wt1 ⟨g, 1, none⟩ (.int .i64 ((q : Int) + 1))) ⟨g, 2, none⟩ (.int .u64 S)) from ((Dg.refl g _).stg _ _).stg _ _))
    have Hdq := Lib.hid (show Dg g w (World.setCell (World.setCell wt1 ⟨g, 1, none⟩ (.int .i64 ((q : Int) + 1))) ⟨g, 2, none⟩ (.int .u64 S)) from (Hd1.out.stg _ _).stg _ _)
    generalize (World.setCell (World.setCell wt1 ⟨g, 1, none⟩ (.int .i64 ((q : Int) + 1))) ⟨g, 2, none⟩ (.int .u64 S)) = wq at HBq Hrq Hdq ⊢
    clear r0 r1 r2 rl rf
    have r0 := HBq.out.cell 0
    have r1 := HBq.out.cell 1
    have r2 := HBq.out.cell 2
    have rl := HBq.out.lt
    have rf := HBq.out.frozen
    simp at r0 r1 r2
    refine wp_region_tame (by kernel_rfl) (by kernel_rfl) (fun T _ W hT => ?_)
    have hx := hT.cell
    repeat (go_big_quiet_step (fail))
    refine wpQuiet_nil ?_
    intro t
    clear hx
    have hbt := hT.below t
    generalize W t = wt9 at hbt ⊢
    clear hT r0 r1 r2 rl
    have HB9 := Lib.hid (HBq.out.on hbt)
    have Hr9 := Lib.hid (Hrq.out.dg (Dg.of_below (g := g) hbt))
    have Hd9 := Lib.hid (Hdq.out.on hbt)
    clear hbt
    have r0 := HB9.out.cell 0
    have r1 := HB9.out.cell 1
    have r2 := HB9.out.cell 2
    have rl := HB9.out.lt
    have rf := HB9.out.frozen
    simp at r0 r1 r2
    have hqq9 : ¬ (q : Int) + 1 ≤ (n : Int) := by omega
    have Hlb := Lib.hid (lowbyte S HS.out.1 HS.out.2)
    go_wp2
    go_ret
    exact ⟨⟨_, Hlb.out.1, Hlb.out.2, rfl⟩, ⟨_, n, c, q + 1, S, by have h9 := HB9.out; rw [show ((q + 1 : Nat) : Int) = (q : Int) + 1 by omega]; exact h9, by have := Hq.out; omega, Hr9.out⟩, Hd9.out⟩
theorem emod_bd {x n : Int} (hn : 1 < n) : 0 ≤ x % n ∧ x % n ≤ n - 1 := by
  have h1 := Int.emod_nonneg x (show n ≠ 0 by omega)
  have h2 := Int.emod_lt_of_pos x (show 0 < n by omega)
  omega
set_option maxRecDepth 8000 in
set_option maxHeartbeats 4000000 in
theorem pick_any (g k : Nat) (n : Int) (w : World) (hc : Cur w g k) (hk : k ≤ 900000) :
    Calls Tryz.prog 52 #[.pointer (some ⟨g, 0, none⟩), .int .i64 n] w fun e w' => (∃ x : Int, 0 ≤ x ∧ x ≤ max (n - 1) 0 ∧ e = .returned (.int .i64 x)) ∧ Cur w' g (k + 2) ∧ Dg g w w' := by
  have Hc := Lib.hid hc; clear hc
  have Hk := Lib.hid hk; clear hk
  by_cases h1 : n ≤ 1
  · go_enter Tryz.func52, Tryz.ntmps52
    go_wp2
    go_ret
    exact ⟨⟨0, by omega, by omega, rfl⟩, Hc.out.mono (by omega), Dg.refl _ _⟩
  · go_enter Tryz.func52, Tryz.ntmps52
    go_wp2_with fail
    refine (next_any g k _ Hc.out (by have := Hk.out; omega)).mono ?_; rintro e w1 ⟨⟨b, hb0, hb1, rfl⟩, hc1, hd1⟩
    have Hc1 := Lib.hid hc1; have Hd1 := Lib.hid hd1; clear hc1 hd1
    by_cases h2 : n > 200
    · go_wp2_with fail
      refine (next_any g (k + 1) _ Hc1.out (by have := Hk.out; omega)).mono ?_; rintro e w2 ⟨⟨b2, hb3, hb4, rfl⟩, hc2, hd2⟩
      have Hc2 := Lib.hid hc2; have Hd2 := Lib.hid (Hd1.out.trans hd2); clear hc2 hd2
      have hn1 : (1 : Int) < n := by omega
      have Hm := Lib.hid (emod_bd (x := b * 256 + b2) hn1)
      have hn0 : n ≠ 0 := by omega
      go_wp2
      go_ret
      exact ⟨⟨_, Hm.out.1, by have := Hm.out.2; omega, rfl⟩, Hc2.out, Hd2.out⟩
    · have hn1 : (1 : Int) < n := by omega
      have Hm := Lib.hid (emod_bd (x := b) hn1)
      have hn0 : n ≠ 0 := by omega
      go_wp2
      go_ret
      exact ⟨⟨_, Hm.out.1, by have := Hm.out.2; omega, rfl⟩, Hc1.out.mono (by omega), Hd1.out⟩
set_option maxHeartbeats 1000000 in
theorem one_any (g k : Nat) (n : Int) (w : World) (hc : Cur w g k) (hk : k ≤ 900000) :
    Calls Tryz.prog 51 #[.pointer (some ⟨g, 0, none⟩), .int .i64 n] w fun e w' => (∃ b : Bool, e = .returned (.bool b)) ∧ Cur w' g (k + 2) ∧ Dg g w w' := by
  have Hc := Lib.hid hc; clear hc
  have Hk := Lib.hid hk; clear hk
  go_enter Tryz.func51, Tryz.ntmps51
  go_wp2_with fail
  refine (pick_any g k n _ Hc.out Hk.out).mono ?_; rintro e w1 ⟨⟨x, hx0, hx1, rfl⟩, hc1, hd1⟩
  clear hx0 hx1
  go_wp2
  go_ret
  exact ⟨⟨_, rfl⟩, hc1, hd1⟩
/-- A slice of ints just made. -/
theorem rdI (w : World) (t : TypeId) (es : List Int) (hl : es.length ≤ 1000) : Rd inS (w.alloc (.cells (es.map (Value.int .i64)).toArray t)) (w.alloc (.cells (es.map (Value.int .i64)).toArray t)).heap.size (.slice (some ⟨w.heap.size, 0, none⟩) es.length es.length) es := by
  refine ⟨_, es.length, rfl, Nat.le_refl _, by unfold maxLen; omega, fun _ => ⟨w.heap.size, 0, rfl, by rw [World.size_alloc]; omega, fun k hk j hj => ?_⟩⟩
  have hj0 : j = 0 := by simp [inS] at hj; exact hj
  subst hj0
  rw [show 0 + k * inS.size + 0 = k by simp [inS], (Blk.new w t (es.map (Value.int .i64)).toArray).cell k]
  simp only [List.getElem?_toArray, List.getElem?_map, List.getElem?_eq_getElem hk, Option.map_some]
  show some (Value.int .i64 es[k]) = some (Value.int .i64 (inS.get es k))
  unfold Shape.get
  rw [List.getD_eq_getElem?_getD, List.getElem?_eq_getElem hk]; rfl
set_option maxHeartbeats 1000000 in
theorem among_any (g k : Nat) (v : Value) (es : List Int) (w : World) (hc : Cur w g k) (hv : Rd inS w w.heap.size v es) (hne : es ≠ []) (hng : ∀ A n c, v = .slice (some A) n c → A.block ≠ g) (hk : k ≤ 900000) :
    Calls Tryz.prog 78 #[.pointer (some ⟨g, 0, none⟩), v] w fun e w' => (∃ y : Int, y ∈ es ∧ e = .returned (.int .i64 y)) ∧ Cur w' g (k + 2) ∧ Dg g w w' := by
  have Hc := Lib.hid hc; clear hc
  have Hk := Lib.hid hk; clear hk
  have h0 : 0 < es.length := List.length_pos_iff.2 hne
  obtain ⟨A, c, rfl, hcc, hm, hA⟩ := hv
  unfold maxLen at hm
  obtain ⟨ga, off, rfl, hga, hcell⟩ := hA h0
  have hgg := hng _ _ _ rfl
  have hcell := in_cells hcell
  simp only at hgg
  clear hA hne hng
  go_enter Tryz.func78, Tryz.ntmps78
  go_wp2_with fail
  refine (pick_any g k (es.length : Int) _ Hc.out Hk.out).mono ?_; rintro e w1 ⟨⟨x, hx0, hx1, rfl⟩, hc1, hd1⟩
  obtain ⟨q, rfl⟩ : ∃ q : Nat, x = q := ⟨x.toNat, by omega⟩
  have hql : q < es.length := by omega
  have f0 := (dcell (p := ⟨ga, off + q, none⟩) hd1 hga hgg).trans (hcell q hql)
  have hgs := Nat.lt_of_lt_of_le hga hd1.size
  have Hmem : Hid (inS.get es q ∈ es) := Lib.hid (by unfold Shape.get; rw [List.getD_eq_getElem?_getD, List.getElem?_eq_getElem hql]; exact List.getElem_mem hql)
  generalize inS.get es q = y at f0 Hmem
  have Hc1 := Lib.hid hc1; have Hd1 := Lib.hid hd1
  have hi1 : (q : Int) < (es.length : Int) := by omega
  clear hcell hc1 hd1 hx1
  go_wp2
  go_ret
  exact ⟨⟨_, Hmem.out, rfl⟩, Hc1.out, Hd1.out⟩
end
end Go.Proofs.YtnhgdmhiblpknaaGreatDoor
