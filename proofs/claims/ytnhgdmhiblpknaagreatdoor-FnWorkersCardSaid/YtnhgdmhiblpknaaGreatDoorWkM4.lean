/- Own texts put together: Rows of ints of a call's own, whatever the ints: kept, written, read, appended to; they are the cells of some list; The code's bytes, the fresh cursor, a row's cells as a source; Plain laws: the float root of a small whole number is bounded; whole roots; greatest common divisors; The walks: math; The walks: greatest common divisors of the program and of the reference; The walks: the value of a curve, the point at a candidate, the candidates of a task; The laws' own helpers at slices of Point: what they compute; The walks: the candidates of a task; the points at some candidates, in the program (hits) and in the reference (skRun). Conditions: those of each theorem. -/
import Derived.Test.YtnhgdmhiblpknaaGreatDoorWkM3
import Derived.Laws.FloatArith
import Derived.Test.YtnhgdmhiblpknaaGreatDoorWkM1
import Derived.Laws.Externs
import Derived.IntWalk
import Derived.Test.YtnhgdmhiblpknaaGreatDoorWkM2
namespace Go.Proofs.YtnhgdmhiblpknaaGreatDoor
section
open Go Go.RowKit

def AllI (xs : List Value) : Prop := ∀ u ∈ xs, ∃ i : Int, u = .int .i64 i
/-- A row of n elements of z ints each. -/
structure IR (w : World) (B : Nat) (t : TypeId) (z : Nat) (v : Value) (n : Nat) : Prop where
  ex : ∃ xs, w.ownsRow B t z v n xs ∧ AllI xs
theorem AllI.app {xs ys : List Value} (h : AllI xs) (k : AllI ys) : AllI (xs ++ ys) := fun u hu => (List.mem_append.1 hu).elim (h u) (k u)
theorem AllI.set {xs : List Value} (h : AllI xs) (j : Nat) (i : Int) : AllI (xs.set j (.int .i64 i)) := fun u hu => by
  rcases List.mem_or_eq_of_mem_set hu with h1 | h1
  · exact h u h1
  · exact ⟨i, h1⟩
theorem AllI.one {xs : List Value} (h : AllI xs) : ∀ u ∈ xs, u.oneCell' = true := fun u hu => by
  obtain ⟨i, rfl⟩ := h u hu
  rfl
section
variable {w w' : World} {B : Nat} {t : TypeId} {z n : Nat} {v : Value}
theorem IR.nil (w : World) (B : Nat) (t : TypeId) (z : Nat) : IR w B t z (.slice none 0 0) 0 := ⟨[], ⟨by simp, Or.inl ⟨rfl, rfl⟩⟩, by intro u hu; cases hu⟩
theorem IR.dg {g : Nat} (h : IR w B t z v n) (hd : Dg g w w') (hb : g < B) : IR w' B t z v n := let ⟨xs, h1, h2⟩ := h.ex; ⟨xs, own_dg h1 hd hb, h2⟩
theorem IR.on (h : IR w B t z v n) (hb : Below w.heap.size w w') : IR w' B t z v n := let ⟨xs, h1, h2⟩ := h.ex; ⟨xs, own_below h1 hb, h2⟩
theorem IR.alloc (h : IR w B t z v n) (o : Obj) : IR (w.alloc o) B t z v n := h.on (bal (Below.refl _ _) o)
theorem IR.mono {B' : Nat} (h : IR w B t z v n) (hb : B' ≤ B) : IR w B' t z v n := let ⟨xs, h1, h2⟩ := h.ex; ⟨xs, own_mono h1 hb, h2⟩
theorem IR.st (h : IR w B t z v n) {p : Addr} (hp : ∀ k, v.ownBlock = some k → k ≠ p.block) (u : Value) : IR (w.setCell p u) B t z v n := let ⟨xs, h1, h2⟩ := h.ex; ⟨xs, own_st h1 hp u, h2⟩
theorem IR.form (h : IR w B t z v n) : ∃ A c, v = .slice A n c ∧ n ≤ c ∧ c ≤ maxLen := by
  obtain ⟨xs, h1, -⟩ := h.ex
  rcases h1.2 with ⟨h', h0⟩ | ⟨g', cap', cur, h', hb, hg, hnc, hcm, -⟩
  · exact ⟨none, 0, by rw [h', h0], by omega, Nat.zero_le _⟩
  · exact ⟨_, _, h', hnc, hcm⟩
theorem IR.pos (h : IR w B t z v n) (h0 : 0 < n) : ∃ g c, v = .slice (some ⟨g, 0, none⟩) n c ∧ B ≤ g ∧ g < w.heap.size ∧ n ≤ c ∧ c ≤ maxLen := by
  obtain ⟨xs, h1, -⟩ := h.ex
  rcases h1.2 with ⟨h', h0'⟩ | ⟨g', cap', cur, h', hb, hg, hnc, hcm, -⟩
  · omega
  · exact ⟨_, _, h', hb, (Array.getElem?_eq_some_iff.1 hg).1, hnc, hcm⟩
theorem IR.lt (h : IR w B t z v n) : ∀ k, v.ownBlock = some k → B ≤ k ∧ k < w.heap.size := let ⟨_, h1, _⟩ := h.ex; World.ownsRow.lt h1
theorem IR.cell {g c : Nat} (h : IR w B t z (.slice (some ⟨g, 0, none⟩) n c) n) {j : Nat} (hj : j < n * z) : ∃ i : Int, w.cell? ⟨g, j, none⟩ = some (.int .i64 i) := by
  obtain ⟨xs, h1, h2⟩ := h.ex
  have hl : j < xs.length := by rw [h1.1]; exact hj
  obtain ⟨i, hi⟩ := h2 xs[j] (List.getElem_mem hl)
  exact ⟨i, by rw [h1.cellAt j hj, List.getElem?_eq_getElem hl, hi]⟩
theorem IR.frozen {g c : Nat} (h : IR w B t z (.slice (some ⟨g, 0, none⟩) n c) n) : ∀ i, w.frozen? ⟨g, i, none⟩ = false := let ⟨_, h1, _⟩ := h.ex; h1.frozenAt
theorem IR.set {g c : Nat} (h : IR w B t z (.slice (some ⟨g, 0, none⟩) n c) n) (j : Nat) (i : Int) : IR (w.setCell ⟨g, j, none⟩ (.int .i64 i)) B t z (.slice (some ⟨g, 0, none⟩) n c) n :=
  let ⟨xs, h1, h2⟩ := h.ex; ⟨xs.set j (.int .i64 i), (h1.stored j _).1, h2.set j i⟩
end
/-- Cells of ints are those of some list. -/
theorem flat_ex {E : Type} (S : Shape E) (mk : (Nat → Int) → E) (hmk : ∀ c j, j < S.size → S.cell (mk c) j = .int .i64 (c j)) : ∀ (n : Nat) (xs : List Value), xs.length = n * S.size → AllI xs → ∃ es : List E, es.length = n ∧ S.flat es = xs
  | 0, xs, hl, _ => ⟨[], rfl, by
      have : xs = [] := List.eq_nil_of_length_eq_zero (by omega)
      rw [this]; rfl⟩
  | n + 1, xs, hl, ha => by
    have hz : S.size ≤ xs.length := by rw [hl, Nat.add_mul]; omega
    obtain ⟨es, h1, h2⟩ := flat_ex S mk hmk n (xs.drop S.size) (by rw [List.length_drop, hl, Nat.add_mul]; omega) (fun u hu => ha u (List.mem_of_mem_drop hu))
    refine ⟨mk (fun j => match xs[j]? with | some (.int _ q) => q | _ => 0) :: es, by rw [List.length_cons, h1], ?_⟩
    have h3 : S.cells (mk (fun j => match xs[j]? with | some (.int _ q) => q | _ => 0)) = xs.take S.size := by
      apply List.ext_getElem
      · rw [Shape.length_cells, List.length_take]; omega
      · intro i h4 h5
        rw [Shape.length_cells] at h4
        have hi : i < xs.length := by omega
        simp only [Shape.cells, List.getElem_map, List.getElem_range, List.getElem_take]
        rw [hmk _ _ h4, List.getElem?_eq_getElem hi]
        obtain ⟨q, hq⟩ := ha xs[i] (List.getElem_mem hi)
        rw [hq]
    show S.cells _ ++ S.flat es = xs
    rw [h3, h2, List.take_append_drop]
def enMk9 (c : Nat → Int) : En := ⟨c 0, c 1, c 2, c 3, c 4⟩
theorem enMk9_cell (c : Nat → Int) (j : Nat) (hj : j < enS.size) : enS.cell (enMk9 c) j = .int .i64 (c j) := by
  match j, hj with
  | 0, _ => rfl
  | 1, _ => rfl
  | 2, _ => rfl
  | 3, _ => rfl
  | 4, _ => rfl
theorem en_allI (es : List En) : AllI (enS.flat es) := by
  intro u hu
  unfold Shape.flat at hu
  obtain ⟨x, -, hx⟩ := List.mem_flatMap.1 hu
  unfold Shape.cells at hx
  obtain ⟨j, hj, rfl⟩ := List.mem_map.1 hx
  have hj := List.mem_range.1 hj
  match j, hj with
  | 0, _ => exact ⟨_, rfl⟩
  | 1, _ => exact ⟨_, rfl⟩
  | 2, _ => exact ⟨_, rfl⟩
  | 3, _ => exact ⟨_, rfl⟩
  | 4, _ => exact ⟨_, rfl⟩
theorem IR.en {w : World} {B : Nat} {t : TypeId} {v : Value} {n : Nat} (h : IR w B t 5 v n) : ∃ es : List En, es.length = n ∧ w.ownsRow B t 5 v es.length (enS.flat es) := by
  obtain ⟨xs, h1, h2⟩ := h.ex
  obtain ⟨es, h3, h4⟩ := flat_ex enS enMk9 enMk9_cell n xs h1.1 h2
  exact ⟨es, h3, by rw [h3, h4]; exact h1⟩
theorem IR.of_en {w : World} {B : Nat} {t : TypeId} {v : Value} {es : List En} (h : w.ownsRow B t 5 v es.length (enS.flat es)) : IR w B t 5 v es.length := ⟨_, h, en_allI es⟩
end
section
open Go Go.RowKit

theorem BytesAt.mono {w : World} {g g' : Nat} {A : Option Addr} {n : Nat} (h : BytesAt w g A n) (hg : g ≤ g') : BytesAt w g' A n :=
  ⟨h.1, fun h0 => let ⟨gc, off, hA, h1, h2, hc⟩ := h.2 h0; ⟨gc, off, hA, Nat.lt_of_lt_of_le h1 hg, h2, hc⟩⟩
theorem BytesAt.on {w w' : World} {A : Option Addr} {n : Nat} (h : BytesAt w w.heap.size A n) (hb : Below w.heap.size w w') : BytesAt w' w'.heap.size A n :=
  (h.dg (Dg.of_below hb)).mono hb.size
theorem BytesAt.al {w : World} {A : Option Addr} {n : Nat} (h : BytesAt w w.heap.size A n) (o : Obj) : BytesAt (w.alloc o) (w.alloc o).heap.size A n := h.on (bal (Below.refl _ _) o)
theorem Cur.new0 {w : World} {A : Option Addr} {n : Nat} (h : BytesAt w w.heap.size A n) (c : Nat) : Cur (w.alloc (.cells #[.slice A n c, .int .i64 0, .int .u64 0] 78)) w.heap.size 0 :=
  ⟨A, n, c, 0, 0, Blk.new w _ _, Nat.le_refl _, h.dg (Dg.of_below (bal (Below.refl _ _) _))⟩
theorem Cur.new1 {w : World} {A : Option Addr} {n : Nat} (h : BytesAt w w.heap.size A n) (c : Nat) (o : Obj) : Cur ((w.alloc o).alloc (.cells #[.slice A n c, .int .i64 0, .int .u64 0] 78)) (w.heap.size + 1) 0 := by
  have := Cur.new0 (h.al o) c
  rwa [World.size_alloc] at this
/-- The cells of a row as a source. -/
theorem IR.src {w : World} {B : Nat} {t : TypeId} {z n : Nat} {A : Option Addr} {c : Nat} (h : IR w B t z (.slice A n c) n) :
    ∃ xs, AllI xs ∧ xs.length = n * z ∧ (A = none → n = 0) ∧ ∀ a, A = some a → ∀ j u, xs[j]? = some u → w.cell? (a.add j) = some u := by
  obtain ⟨xs, h1, h2⟩ := h.ex
  refine ⟨xs, h2, h1.1, fun e => ?_, fun a e j u hu => ?_⟩
  · by_cases h0 : 0 < n
    · obtain ⟨g, c', h3, -⟩ := h.pos h0
      rw [e] at h3; cases h3
    · omega
  · have hj : j < xs.length := (List.getElem?_eq_some_iff.1 hu).1
    have h0 : 0 < n := by rcases Nat.eq_zero_or_pos n with h9 | h9; · rw [h1.1, h9] at hj; simp at hj
                          · exact h9
    obtain ⟨g, c', h3, -⟩ := h.pos h0
    rw [e] at h3
    injection h3 with h4 h5 h6
    injection h4 with h4
    subst h4
    rw [e] at h1
    have h7 := h1.cellAt j (by rw [← h1.1]; exact hj)
    rw [hu] at h7
    by_cases h8 : j = 0
    · subst h8; simpa [Addr.add] using h7
    · simpa [Addr.add, h8] using h7
end
section
open Go

/-! ### The square root of a small whole number, in floats: bounded, and a whole number can be made of it -/
theorem rootFrom_sq (n : Nat) : ∀ (todo root : Nat), root * root ≤ n → Ieee.Datum.rootFrom n todo root * Ieee.Datum.rootFrom n todo root ≤ n
  | 0, root, h => h
  | todo + 1, root, h => by
    unfold Ieee.Datum.rootFrom
    by_cases hl : (root + 1 <<< todo) * (root + 1 <<< todo) ≤ n
    · simp only [hl, if_true]
      exact rootFrom_sq n todo _ hl
    · simp only [hl, if_false]
      exact rootFrom_sq n todo _ h

theorem log_lt {m k : Nat} (h : m < 2 ^ (k + 1)) : m.log2 ≤ k := by
  by_cases h0 : m = 0
  · subst h0; simp
  · exact Nat.le_of_lt_succ ((Nat.log2_lt h0).2 h)

/-- A number that is cut loses digits: it stays small. -/
theorem cut_le (way : Ieee.Toward) (n drop k : Nat) (h : n.log2 ≤ k + drop) : way.cut false n drop ≤ 2 ^ (k + 1) := by
  unfold Ieee.Toward.cut
  have hlow : n / (1 <<< min drop (n.log2 + 2)) < 2 ^ (k + 1) := by
    rw [Nat.one_shiftLeft]
    have hn : n < 2 ^ (n.log2 + 1) := Nat.lt_log2_self
    rcases Nat.le_total drop (n.log2 + 2) with hm | hm
    · rw [Nat.min_eq_left hm]
      refine Nat.div_lt_of_lt_mul ?_
      rw [← Nat.pow_add]
      exact Nat.lt_of_lt_of_le hn (Nat.pow_le_pow_right (by omega) (by omega))
    · rw [Nat.min_eq_right hm, Nat.div_eq_of_lt (Nat.lt_of_lt_of_le hn (Nat.pow_le_pow_right (by omega) (by omega)))]
      exact Nat.two_pow_pos _
  have hb : ∀ b : Bool, b.toNat ≤ 1 := fun b => by cases b <;> simp
  simp only
  refine Nat.le_trans (Nat.add_le_add_left (hb _) _) hlow

theorem near_read {mag : Nat} {place L : Int} (h : place + mag.log2 ≤ L) (h1 : -1000 ≤ L) (h2 : L ≤ 900) :
    ∃ (m : Nat) (p : Int), Ieee.double.read (Ieee.double.nearest false mag place) = .number false m p ∧ m < 2 ^ 53 ∧ p ≤ L - 51 := by
  have e1 : Ieee.double.leastPlace = -1074 := rfl
  have e2 : Ieee.double.binade = 2 ^ 52 := rfl
  have e3 : Ieee.double.infRung = 2047 * 2 ^ 52 := rfl
  have e4 : Ieee.double.signWeight = 2 ^ 63 := rfl
  have e5 : Ieee.double.fractionBits = 52 := rfl
  obtain ⟨rung, hr, hle⟩ : ∃ rung : Nat, Ieee.double.nearest false mag place = rung ∧ (rung : Int) ≤ (L + 1024) * 4503599627370496 := by
    unfold Ieee.Format.nearest
    by_cases h0 : mag = 0
    · rw [if_pos h0]
      exact ⟨0, rfl, by omega⟩
    · rw [if_neg h0, e1, e2, e3, e5]
      simp only
      obtain ⟨last, hlast⟩ : ∃ last : Int, last = max (place + (mag.log2 : Int) - (52 : Nat)) (-1074) := ⟨_, rfl⟩
      rw [← hlast]
      have hkept : Ieee.Toward.even.cut false (mag <<< (place - last).toNat) (last - place).toNat ≤ 2 ^ 53 := by
        by_cases hp : place < last
        · have hz : (place - last).toNat = 0 := by omega
          rw [hz, Nat.shiftLeft_zero]
          exact cut_le _ _ _ 52 (by omega)
        · have hz : (last - place).toNat = 0 := by omega
          rw [hz]
          refine cut_le _ _ _ 52 ?_
          refine log_lt ?_
          rw [Nat.shiftLeft_eq]
          have hm : mag < 2 ^ (mag.log2 + 1) := Nat.lt_log2_self
          refine Nat.lt_of_lt_of_le (Nat.mul_lt_mul_of_pos_right hm (Nat.two_pow_pos _)) ?_
          rw [← Nat.pow_add]
          exact Nat.pow_le_pow_right (by omega) (by omega)
      generalize Ieee.Toward.even.cut false (mag <<< (place - last).toNat) (last - place).toNat = kept at hkept
      refine ⟨_, rfl, ?_⟩
      unfold Ieee.Format.word
      simp only [Bool.false_eq_true, if_false]
      have hl : last ≤ L - 52 := by omega
      have hl2 : -1074 ≤ last := by omega
      have hz : ((last - -1074).toNat : Int) = last + 1074 := by omega
      generalize (last - -1074).toNat = q at hz
      have h53 : (2 : Nat) ^ 53 = 2 * 4503599627370496 := rfl
      have h52 : (2 : Nat) ^ 52 = 4503599627370496 := rfl
      rw [h53] at hkept
      rw [h52]
      have hq : (q : Int) ≤ L + 1022 := by omega
      clear h53 h52
      have hc0 : (4503599627370496 : Int) = ((4503599627370496 : Nat) : Int) := rfl
      rw [hc0]
      generalize (4503599627370496 : Nat) = c at hkept
      have h3 : ((q : Int) + 2) * (c : Int) ≤ (L + 1024) * (c : Int) := Int.mul_le_mul_of_nonneg_right (by omega) (by omega)
      rw [Int.add_mul] at h3
      have h4 := Nat.min_le_left (q * c + kept) (2047 * c)
      have h5 : ((q * c + kept : Nat) : Int) = (q : Int) * c + kept := by simp
      generalize min (q * c + kept) (2047 * c) = mn at h4
      generalize (q : Int) * c = qc at h3 h5
      generalize (L + 1024) * (c : Int) = lc at h3
      omega
  rw [hr]
  unfold Ieee.Format.read
  rw [e1, e2, e3, e4]
  have h63 : (2 : Nat) ^ 63 = 9223372036854775808 := rfl
  have h52 : (2 : Nat) ^ 52 = 4503599627370496 := rfl
  have h53 : (2 : Nat) ^ 53 = 9007199254740992 := rfl
  rw [h63, h52, h53]
  have hlt : rung < 9223372036854775808 := by omega
  have hneg : (rung / 9223372036854775808 % 2 == 1) = false := by
    rw [Nat.div_eq_of_lt hlt]; rfl
  simp only [hneg, Nat.mod_eq_of_lt hlt]
  by_cases hs : rung < 4503599627370496
  · rw [if_pos hs]
    exact ⟨rung, -1074, rfl, by omega, by omega⟩
  · rw [if_neg hs, if_pos (by omega)]
    exact ⟨_, _, rfl, by omega, by omega⟩

/-- The float root of a number below 2^50 is a whole number below 2^28, cut towards zero. -/
theorem sqrt_small (n : Nat) (hn : n < 2 ^ 50) :
    ∃ (s r : Nat), FloatKind.f64.format.sqrt (FloatKind.f64.encode (.number false n 0)) = some s ∧ floatToIntVal .f64 s .i64 = some (r : Int) ∧ r ≤ 2 ^ 27 := by
  obtain ⟨m, p, hread, hm, hp⟩ := near_read (mag := n) (place := 0) (L := 49) (by have := log_lt (k := 49) hn; omega) (by omega) (by omega)
  unfold FloatKind.format Ieee.Format.sqrt FloatKind.encode Ieee.Format.write
  simp only [FloatKind.format]
  rw [hread]
  obtain ⟨m2, p2, hroot, hl2⟩ : ∃ (m2 : Nat) (p2 : Int), (Ieee.Datum.number false m p).root (Ieee.double.fractionBits + 2) = some (.number false m2 p2) ∧ (p2 + m2.log2 ≤ 25) := by
    unfold Ieee.Datum.root
    by_cases h0 : m = 0
    · subst h0
      exact ⟨0, p, by simp, by simp; omega⟩
    · simp only [h0, if_false, Bool.false_eq_true]
      refine ⟨_, _, rfl, ?_⟩
      have e5 : Ieee.double.fractionBits = 52 := rfl
      rw [e5]
      have hlm : m.log2 ≤ 52 := log_lt hm
      obtain ⟨more, hmore, hlo, hhi⟩ : ∃ more : Nat, more = 2 * (52 + 2) - m.log2 + ((p - ((2 * (52 + 2) - m.log2 : Nat) : Int)) % 2).toNat ∧ 108 - m.log2 ≤ more ∧ more ≤ 109 - m.log2 := ⟨_, rfl, by omega, by omega⟩
      rw [← hmore]
      have hN : m <<< more < 2 ^ 110 := by
        rw [Nat.shiftLeft_eq]
        have hm' : m < 2 ^ (m.log2 + 1) := Nat.lt_log2_self
        refine Nat.lt_of_lt_of_le (Nat.mul_lt_mul_of_pos_right hm' (Nat.two_pow_pos _)) ?_
        rw [← Nat.pow_add]
        exact Nat.pow_le_pow_right (by omega) (by omega)
      have hsq := rootFrom_sq (m <<< more) ((m <<< more).log2 / 2 + 1) 0 (Nat.zero_le _)
      generalize Ieee.Datum.rootFrom (m <<< more) ((m <<< more).log2 / 2 + 1) 0 = whole at hsq
      have hw : whole < 2 ^ 55 := by
        refine Nat.lt_of_not_le fun hc => ?_
        have := Nat.mul_le_mul hc hc
        rw [← Nat.pow_add] at this
        omega
      have hb : ∀ b : Bool, b.toNat ≤ 1 := fun b => by cases b <;> simp
      have hbb := hb (whole * whole != m <<< more)
      generalize (whole * whole != m <<< more).toNat = bb at hbb
      have hlw : (2 * whole + bb).log2 ≤ 55 := log_lt (by
        have e : (2 : Nat) ^ (55 + 1) = 2 * 2 ^ 55 := by rw [Nat.pow_succ, Nat.mul_comm]
        rw [e]; omega)
      omega
  rw [hroot]
  simp only [Option.map_some]
  obtain ⟨m3, p3, hread3, hm3, hp3⟩ := near_read hl2 (by omega) (by omega)
  have e : floatToIntVal .f64 (Ieee.double.nearest false m2 p2) .i64 = some ((Ieee.Toward.zero.cut false (m3 <<< p3.toNat) (-p3).toNat : Nat) : Int) ∧ Ieee.Toward.zero.cut false (m3 <<< p3.toNat) (-p3).toNat ≤ 2 ^ 27 := by
    have hz : p3.toNat = 0 := by omega
    have hle : Ieee.Toward.zero.cut false (m3 <<< p3.toNat) (-p3).toNat ≤ 2 ^ (26 + 1) := cut_le _ _ _ 26 (by
      rw [hz, Nat.shiftLeft_zero]
      have := log_lt (k := 52) hm3
      omega)
    refine ⟨?_, hle⟩
    unfold floatToIntVal FloatKind.decode FloatKind.format
    simp only
    rw [hread3]
    unfold Ieee.Datum.toInt Ieee.Datum.integral Ieee.signed
    simp only [Bool.false_eq_true, if_false, Nat.shiftLeft_zero]
    generalize Ieee.Toward.zero.cut false (m3 <<< p3.toNat) (-p3).toNat = r at hle
    have h27 : (2 : Nat) ^ (26 + 1) = 134217728 := rfl
    rw [h27] at hle
    have a1 : IntKind.i64.min ≤ (r : Int) := by rw [show IntKind.i64.min = -9223372036854775808 from rfl]; omega
    have a2 : (r : Int) ≤ IntKind.i64.max := by rw [show IntKind.i64.max = 9223372036854775807 from rfl]; omega
    rw [if_pos ⟨a1, a2⟩]
  exact ⟨_, _, rfl, e.1, e.2⟩

/-! ### The whole root -/
def fsq : Nat → Nat
  | 0 => 0
  | n + 1 => if (fsq n + 1) * (fsq n + 1) ≤ n + 1 then fsq n + 1 else fsq n
theorem sq_succ (r : Nat) : (r + 1) * (r + 1) = r * r + 2 * r + 1 := by
  rw [Nat.add_mul, Nat.mul_add, Nat.one_mul, Nat.mul_one]; omega
theorem fsq_spec : ∀ n : Nat, fsq n * fsq n ≤ n ∧ n < (fsq n + 1) * (fsq n + 1)
  | 0 => by simp [fsq]
  | n + 1 => by
    obtain ⟨h1, h2⟩ := fsq_spec n
    unfold fsq
    by_cases h : (fsq n + 1) * (fsq n + 1) ≤ n + 1
    · rw [if_pos h]
      have e1 := sq_succ (fsq n)
      have e2 := sq_succ (fsq n + 1)
      exact ⟨h, by omega⟩
    · rw [if_neg h]
      exact ⟨by omega, by omega⟩
theorem sq_lt {a b : Nat} (h : a * a < b * b) : a < b := by
  refine Nat.lt_of_not_le fun hc => ?_
  have := Nat.mul_le_mul hc hc
  omega
theorem fsq_uniq {n r : Nat} (h1 : r * r ≤ n) (h2 : n < (r + 1) * (r + 1)) : r = fsq n := by
  obtain ⟨h3, h4⟩ := fsq_spec n
  have a := sq_lt (Nat.lt_of_le_of_lt h1 h4)
  have b := sq_lt (Nat.lt_of_le_of_lt h3 h2)
  omega
/-- Is a number the square of a whole one? -/
def rootK (n : Int) : Bool := decide (0 ≤ n) && decide (fsq n.toNat * fsq n.toNat = n.toNat)
/-- Its root, or nought. -/
def rootV (n : Int) : Int := if rootK n then (fsq n.toNat : Int) else 0
theorem rootK_neg {n : Int} (h : n < 0) : rootK n = false := by unfold rootK; rw [decide_eq_false (by omega)]; rfl
theorem rootK_iff {n : Int} {r : Nat} (h0 : 0 ≤ n) (h1 : (r : Int) * r ≤ n) (h2 : n < ((r : Int) + 1) * (r + 1)) : rootK n = decide ((r : Int) * r = n) ∧ fsq n.toNat = r := by
  have e1 : ((r * r : Nat) : Int) = (r : Int) * r := by simp
  have e2 : (((r + 1) * (r + 1) : Nat) : Int) = ((r : Int) + 1) * (r + 1) := by simp
  have hr : r = fsq n.toNat := fsq_uniq (by omega) (by omega)
  refine ⟨?_, hr.symm⟩
  unfold rootK
  rw [← hr, decide_eq_true h0, Bool.true_and]
  rw [Bool.eq_iff_iff]; simp only [decide_eq_true_eq]; omega
end
section
open Go Go.RowKit

/-! ### math.Sqrt -/
theorem run_sqrt {x s : Nat} (h : FloatKind.f64.format.sqrt x = some s) (w : World) : (callFunc 185 #[.float .f64 x]).run Tryz.prog w = .ok (.value (.float .f64 s)) w := by
  rw [run_callFunc_extern (e := Extern.MathSqrt.sqrt) Tryz.func185 (by kernel_rfl) (by kernel_rfl) (by kernel_rfl) (by kernel_rfl)]
  rw [show Extern.MathSqrt.sqrt #[.float .f64 x] = (match FloatKind.f64.format.sqrt x with
    | some r => pure (.float .f64 r)
    | none => do pure (.float .f64 (← choose (.nanBits .f64 x x)))) from rfl, h]
  rfl
theorem mathSqrt_any {x s : Nat} (h : FloatKind.f64.format.sqrt x = some s) (w : World) : Calls Tryz.prog 162 #[.float .f64 x] w fun e w' => e = .returned (.float .f64 s) ∧ w = w' := by
  have hr := run_sqrt h
  clear h
  go_enter Tryz.func162, Tryz.ntmps162
  go_wp2
  go_ret
  exact ⟨rfl, rfl⟩

/-! ### exactRoot -/
theorem sq_bound {r b : Nat} (h : r ≤ b) : (r : Int) * r ≤ (b : Int) * b := Int.mul_le_mul (by omega) (by omega) (by omega) (by omega)
theorem sq_nn (r : Nat) : (0 : Int) ≤ (r : Int) * r := Int.mul_nonneg (by omega) (by omega)
theorem sqr_lt {r : Nat} {n : Int} {b : Nat} (h : (r : Int) * r ≤ n) (hn : n < (b : Int) * b) : r < b := by
  refine Nat.lt_of_not_le fun hc => ?_
  have := sq_bound hc
  omega
theorem ret_root {n : Int} {v : Int} {k : Bool} (h1 : v = rootV n) (h2 : k = rootK n) : Ending.returned (.tuple #[.int .i64 v, .bool k]) = .returned (.tuple #[.int .i64 (rootV n), .bool (rootK n)]) := by rw [h1, h2]

set_option maxRecDepth 8000 in
set_option maxHeartbeats 1600000 in
theorem exactRoot_any (n : Int) (w : World) (hn : n < 16000000000000) :
    Calls Tryz.prog 132 #[.int .i64 n] w fun e w' => e = .returned (.tuple #[.int .i64 (rootV n), .bool (rootK n)]) ∧ w = w' := by
  by_cases h0 : n < 0
  · have hz := rootK_neg h0
    have Hz := Lib.hid hz; clear hz
    go_enter Tryz.func132, Tryz.ntmps132
    go_wp2
    go_ret2
    exact ⟨ret_root (by unfold rootV; rw [Hz.out]; rfl) Hz.out.symm, rfl⟩
  · have hnn : 0 ≤ n := by omega
    obtain ⟨s, r0, hs, hr, hr0⟩ := sqrt_small n.toNat (by omega)
    have hf : ∀ w, (convert 3 163 (.int .i64 n)).run Tryz.prog w = .ok (.float .f64 (FloatKind.f64.encode (.number false n.toNat 0))) w := fun w => by
      rw [run_convert_int_float w 3 163 .i64 .f64 n (by rw [Tryz.underlying3]; rfl) Tryz.underlying163]
      unfold floatOfInt FloatKind.nearest
      rw [decide_eq_false (by omega), show n.natAbs = n.toNat by omega]
    have hc : ∀ w, (convert 163 3 (.float .f64 s)).run Tryz.prog w = .ok (.int .i64 (r0 : Int)) w := fun w => run_convert_float_int w 163 3 .f64 .i64 s r0 (by rw [Tryz.underlying163]; rfl) Tryz.underlying3 hr
    have hm := fun w => mathSqrt_any hs w
    have Hm := Lib.hid hm; clear hm hs hr
    generalize FloatKind.f64.encode (.number false n.toNat 0) = x at hf Hm
    have hr1 : r0 ≤ 134217728 := hr0
    clear hr0 h0
    have Hr1 := Lib.hid hr1; clear hr1
    go_enter Tryz.func132, Tryz.ntmps132
    go_wp2_with (go_at_call 162; refine (Hm.out _).mono ?_; rintro e w' ⟨rfl, rfl⟩)
    clear hf hc Hm
    go_loop [4] (fun t => ∃ r : Nat, r ≤ 134217728 ∧ t = .int .i64 r) (fun t => (intOf t).toNat)
    case atStart => exact ⟨r0, Hr1.out, rfl⟩
    case round =>
      obtain ⟨r, hr, rfl⟩ := hrel
      have b1 := sq_bound hr
      have b0 := sq_nn r
      by_cases hlt : n < (r : Int) * r
      · have hpos : 1 ≤ r := by
          rcases Nat.eq_zero_or_pos r with rfl | h
          · simp at hlt; omega
          · exact h
        go_wp2
        go_round
        case rel => exact ⟨r - 1, by omega, by congr 1; omega⟩
        case measure => simp [intOf]; omega
      · go_wp2
        clear b1 b0
        go_loop [4] (fun t => ∃ r : Nat, (r : Int) * r ≤ n ∧ t = .int .i64 r) (fun t => n.toNat - (intOf t).toNat)
        case atStart => exact ⟨r, by omega, rfl⟩
        case round =>
          obtain ⟨r, hr, rfl⟩ := hrel
          have hrb : r < 33554432 := sqr_lt hr (by omega)
          have b1 := sq_bound (r := r + 1) (b := 33554432) (by omega)
          have b2 := sq_nn (r + 1)
          have b0 := sq_nn r
          simp only [Int.natCast_add, Int.natCast_one] at b1 b2
          have hle : ((r * r : Nat) : Int) ≤ n := by simpa using hr
          by_cases hlt : ((r : Int) + 1) * (r + 1) ≤ n
          · have hrn : (r : Int) < n := by
              have e : ((r : Int) + 1) * (r + 1) = (((r + 1) * (r + 1) : Nat) : Int) := by simp
              have e2 := sq_succ r
              have e3 : r ≤ r * r := Nat.le_mul_self r
              omega
            clear hle
            go_wp2
            go_round
            case rel => exact ⟨r + 1, by simpa using hlt, by go_num⟩
            case measure => simp [intOf]; omega
          · obtain ⟨e1, e2⟩ := rootK_iff (n := n) hnn hr (by omega)
            have Hk := Lib.hid e1; have Hv := Lib.hid e2; clear e1 e2 hle
            by_cases heq : (r : Int) * r = n
            · have hne : (((r : Int) * r) != n) = false := by simp [heq]
              have Heq := Lib.hid heq; clear heq
              go_wp2
              go_ret2
              have hkk : rootK n = true := by rw [Hk.out]; exact decide_eq_true Heq.out
              exact ⟨ret_root (by unfold rootV; rw [hkk, Hv.out]; rfl) hkk.symm, rfl⟩
            · have hne : (((r : Int) * r) != n) = true := by simp [heq]
              have Heq := Lib.hid heq; clear heq
              go_wp2
              go_ret2
              have hkk : rootK n = false := by rw [Hk.out]; exact decide_eq_false Heq.out
              exact ⟨ret_root (by unfold rootV; rw [hkk]; rfl) hkk.symm, rfl⟩

/-! ### seRoot -/
def rootS (n : Int) : Int := if rootK n then (fsq n.toNat : Int) else -1
set_option maxRecDepth 8000 in
set_option maxHeartbeats 1600000 in
theorem seRoot_any (n : Int) (w : World) (hn : n < 16000000000000) :
    Calls Tryz.prog 165 #[.int .i64 n] w fun e w' => e = .returned (.int .i64 (rootS n)) ∧ w = w' := by
  by_cases h0 : n < 0
  · have Hz := Lib.hid (rootK_neg h0)
    go_enter Tryz.func165, Tryz.ntmps165
    go_wp2
    go_ret
    exact ⟨ret_int (by unfold rootS; rw [Hz.out]; rfl), rfl⟩
  · have h1 : 0 ≤ n := by omega
    clear h0
    go_enter Tryz.func165, Tryz.ntmps165
    go_wp2
    go_loop [3, 4] (fun l h => ∃ lo hi : Nat, lo ≤ hi ∧ hi ≤ 4000000 ∧ (lo : Int) * lo ≤ n ∧ n < ((hi : Int) + 1) * (hi + 1) ∧ l = .int .i64 lo ∧ h = .int .i64 hi) (fun l h => (intOf h).toNat - (intOf l).toNat)
    case atStart => exact ⟨0, 4000000, by omega, by omega, by omega, by omega, rfl, rfl⟩
    case round =>
      obtain ⟨lo, hi, hle, hhi, hl, hh, rfl, rfl⟩ := hrel
      by_cases hlt : lo < hi
      · obtain ⟨mid, hmid⟩ : ∃ mid : Nat, mid = (lo + hi + 1) / 2 := ⟨_, rfl⟩
        have hm : ((lo : Int) + hi + 1) / 2 = (mid : Int) := by omega
        have m1 : lo < mid := by omega
        have m2 : mid ≤ hi := by omega
        have b1 := sq_bound (r := mid) (b := 4000000) (by omega)
        have b0 := sq_nn mid
        clear hmid
        by_cases ht : (mid : Int) * mid ≤ n
        · go_wp2
          go_round
          case rel => exact ⟨mid, hi, m2, hhi, ht, hh, by rw [hm], rfl⟩
          case measure => simp [intOf]; omega
        · obtain ⟨q, hq⟩ : ∃ q, mid = q + 1 := ⟨mid - 1, by omega⟩
          have Hq := Lib.hid hq; clear hq
          have Ht := Lib.hid (show n < (mid : Int) * mid by omega)
          go_wp2
          go_round
          case rel => exact ⟨lo, q, by have := Hq.out; omega, by have := Hq.out; omega, hl, by have := Ht.out; rw [Hq.out] at this; simpa using this, rfl, by congr 1; have := Hq.out; omega⟩
          case measure => have := Hq.out; simp [intOf]; omega
      · obtain rfl : lo = hi := by omega
        obtain ⟨e1, e2⟩ := rootK_iff h1 hl hh
        have Hk := Lib.hid e1; have Hv := Lib.hid e2; clear e1 e2
        have b1 := sq_bound hhi
        have b0 := sq_nn lo
        clear hh hl
        by_cases heq : (lo : Int) * lo = n
        · have hne : (((lo : Int) * lo) != n) = false := by simp [heq]
          have Heq := Lib.hid heq; clear heq
          go_wp2
          go_ret
          have hkk : rootK n = true := by rw [Hk.out]; exact decide_eq_true Heq.out
          exact ⟨ret_int (by unfold rootS; rw [hkk, Hv.out]; rfl), rfl⟩
        · have hne : (((lo : Int) * lo) != n) = true := by simp [heq]
          have Heq := Lib.hid heq; clear heq
          go_wp2
          go_ret
          have hkk : rootK n = false := by rw [Hk.out]; exact decide_eq_false Heq.out
          exact ⟨ret_int (by unfold rootS; rw [hkk]; rfl), rfl⟩
end
section
open Go Go.RowKit

def gcdI (a b : Int) : Int := (Nat.gcd a.natAbs b.natAbs : Nat)
theorem gcdI_step (a b : Int) : gcdI b (a.tmod b) = gcdI a b := by
  unfold gcdI
  rw [Int.natAbs_tmod, Nat.gcd_comm, ← Nat.gcd_rec, Nat.gcd_comm]
theorem gcdI_zero (a : Int) : gcdI a 0 = max a (-a) := by unfold gcdI; simp; omega
theorem tmod_lt {a b : Int} (h : b ≠ 0) : (a.tmod b).natAbs < b.natAbs := by
  rw [Int.natAbs_tmod]
  exact Nat.mod_lt _ (by omega)

set_option maxHeartbeats 1600000 in
theorem gcd_any (a b : Int) (w : World) (ha : -1000000000000 ≤ a ∧ a ≤ 1000000000000) (hb : -1000000000000 ≤ b ∧ b ≤ 1000000000000) :
    Calls Tryz.prog 131 #[.int .i64 a, .int .i64 b] w fun e w' => e = .returned (.int .i64 (gcdI a b)) ∧ Below w.heap.size w w' := by
  generalize hG : gcdI a b = G
  replace hG := Lib.hid hG
  go_enter Tryz.func131, Tryz.ntmps131
  go_wp2
  go_loopw [0, 1] (fun s t wr => ∃ x y : Int, s = .int .i64 x ∧ t = .int .i64 y ∧ Hid (gcdI x y = G) ∧ -1000000000000 ≤ x ∧ x ≤ 1000000000000 ∧ -1000000000000 ≤ y ∧ y ≤ 1000000000000 ∧ Below w.heap.size w wr) (fun _ t _ => (intOf t).natAbs)
  case atStart => exact ⟨a, b, rfl, rfl, hG, ha.1, ha.2, hb.1, hb.2, Below.refl _ _⟩
  case round =>
    obtain ⟨x, y, rfl, rfl, Hg, hx1, hx2, hy1, hy2, hbw⟩ := hrel
    clear ha hb
    by_cases hy : y = 0
    · subst hy
      have hm := Lib.hid (show max x (-x) = G by rw [← gcdI_zero]; exact Hg.out)
      go_wp2
      all_goals go_ret
      all_goals exact ⟨ret_int (by have := hm.out; omega), hbw⟩
    · have hne : (y != 0) = true := by simp [hy]
      obtain ⟨z, hz⟩ : ∃ z, x.tmod y = z := ⟨_, rfl⟩
      have Hlt := Lib.hid (show z.natAbs < y.natAbs by rw [← hz]; exact tmod_lt hy)
      have Hg2 := Lib.hid (show gcdI y z = G by rw [← hz, gcdI_step]; exact Hg.out)
      have Hz := Lib.hid hz; clear hz
      go_wp2
      refine wp_region_tame (by kernel_rfl) (by kernel_rfl) (fun T _ W hT => ?_)
      have hcell := hT.cell
      repeat (go_big_quiet_step (fail))
      refine wpQuiet_nil ?_
      intro t
      clear hcell
      go_wp2
      go_roundw
      case rel => exact ⟨y, z, rfl, by rw [Hz.out], Hg2, hy1, hy2, by have := Hlt.out; omega, by have := Hlt.out; omega, bthen hbw (hT.below t)⟩
      case measure => have := Hlt.out; simp only [intOf, Hz.out]; omega
set_option maxHeartbeats 1600000 in
theorem bgCommon_any (a b : Int) (w : World) (ha : 0 ≤ a ∧ a ≤ 1000000000000) (hb : 0 ≤ b ∧ b ≤ 1000000000000) :
    Calls Tryz.prog 163 #[.int .i64 a, .int .i64 b] w fun e w' => e = .returned (.int .i64 (gcdI a b)) ∧ w = w' := by
  generalize hG : gcdI a b = G
  replace hG := Lib.hid hG
  go_enter Tryz.func163, Tryz.ntmps163
  go_wp2
  go_loop [0, 1] (fun s t => ∃ x y : Int, s = .int .i64 x ∧ t = .int .i64 y ∧ Hid (gcdI x y = G) ∧ 0 ≤ x ∧ x ≤ 1000000000000 ∧ 0 ≤ y ∧ y ≤ 1000000000000) (fun _ t => (intOf t).natAbs)
  case atStart => exact ⟨a, b, rfl, rfl, hG, ha.1, ha.2, hb.1, hb.2⟩
  case round =>
    obtain ⟨x, y, rfl, rfl, Hg, hx1, hx2, hy1, hy2⟩ := hrel
    clear ha hb
    by_cases hy : y = 0
    · subst hy
      have hm := Lib.hid (show x = G by have h := Hg.out; rw [gcdI_zero] at h; omega)
      go_wp2
      go_ret
      exact ⟨ret_int hm.out, rfl⟩
    · have hpos : 0 < y := by omega
      have Hlt := Lib.hid (show 0 ≤ x % y ∧ x % y < y from ⟨Int.emod_nonneg _ hy, Int.emod_lt_of_pos _ hpos⟩)
      have Hg2 := Lib.hid (show gcdI y (x % y) = G by rw [← Int.tmod_eq_emod_of_nonneg hx1, gcdI_step]; exact Hg.out)
      go_wp2
      go_round
      case rel => exact ⟨y, x % y, rfl, rfl, Hg2, hy1, hy2, Hlt.out.1, by have := Hlt.out; omega⟩
      case measure => have := Hlt.out; simp [intOf]; omega
theorem l1MostG_any (a b : Int) (w : World) : Calls Tryz.prog 186 #[.int .i64 a, .int .i64 b] w fun e w' => e = .returned (.int .i64 (max a b)) ∧ w = w' := by
  go_enter Tryz.func186, Tryz.ntmps186
  go_wp2
  all_goals go_ret
  all_goals exact ⟨ret_int (by omega), rfl⟩
theorem l1LeastG_any (a b : Int) (w : World) : Calls Tryz.prog 187 #[.int .i64 a, .int .i64 b] w fun e w' => e = .returned (.int .i64 (min a b)) ∧ w = w' := by
  go_enter Tryz.func187, Tryz.ntmps187
  go_wp2
  all_goals go_ret
  all_goals exact ⟨ret_int (by omega), rfl⟩
theorem l1Abs_any (a : Int) (w : World) (ha : -1000000000000 ≤ a ∧ a ≤ 1000000000000) : Calls Tryz.prog 164 #[.int .i64 a] w fun e w' => e = .returned (.int .i64 (max a (-a))) ∧ w = w' := by
  obtain ⟨h1, h2⟩ := ha
  go_enter Tryz.func164, Tryz.ntmps164
  go_wp2_with (go_at_call 186; refine (l1MostG_any _ _ _).mono ?_; rintro e w' ⟨rfl, rfl⟩)
  go_ret
  exact ⟨rfl, rfl⟩
end
section
open Go Go.RowKit

/-! ### The value at x and e -/
def cvI (a b x e : Int) : Int := x * x * x + a * x * e * e * e * e + b * e * e * e * e * e * e
theorem mul_sb {u v U V : Int} (h1 : -U ≤ u) (h2 : u ≤ U) (h3 : -V ≤ v) (h4 : v ≤ V) : -(U * V) ≤ u * v ∧ u * v ≤ U * V := by
  have a1 := Int.mul_nonneg (show 0 ≤ U - u by omega) (show 0 ≤ V + v by omega)
  have a2 := Int.mul_nonneg (show 0 ≤ U + u by omega) (show 0 ≤ V - v by omega)
  have a3 := Int.mul_nonneg (show 0 ≤ U - u by omega) (show 0 ≤ V - v by omega)
  have a4 := Int.mul_nonneg (show 0 ≤ U + u by omega) (show 0 ≤ V + v by omega)
  have e1 : (U - u) * (V + v) = U * V + U * v - u * V - u * v := by rw [Int.sub_mul, Int.mul_add, Int.mul_add]; omega
  have e2 : (U + u) * (V - v) = U * V - U * v + u * V - u * v := by rw [Int.add_mul, Int.mul_sub, Int.mul_sub]; omega
  have e3 : (U - u) * (V - v) = U * V - U * v - u * V + u * v := by rw [Int.sub_mul, Int.mul_sub, Int.mul_sub]; omega
  have e4 : (U + u) * (V + v) = U * V + U * v + u * V + u * v := by rw [Int.add_mul, Int.mul_add, Int.mul_add]; omega
  rw [e1] at a1; rw [e2] at a2; rw [e3] at a3; rw [e4] at a4
  generalize u * v = p at *; generalize U * V = q at *; generalize U * v = r at *; generalize u * V = s at *
  constructor <;> omega

structure CvB (a b x e : Int) : Prop where
  a : -1000 ≤ a ∧ a ≤ 1000
  b : -10000 ≤ b ∧ b ≤ 10000
  x : -10000 ≤ x ∧ x ≤ 10000
  e : 1 ≤ e ∧ e ≤ 20
theorem cv_small {a b x e : Int} (h : CvB a b x e) : cvI a b x e < 16000000000000 := by
  obtain ⟨⟨a1, a2⟩, ⟨b1, b2⟩, ⟨x1, x2⟩, ⟨e1, e2⟩⟩ := h
  have e1' : -20 ≤ e := by omega
  have p1 := mul_sb x1 x2 x1 x2
  have p2 := mul_sb p1.1 p1.2 x1 x2
  have q1 := mul_sb a1 a2 x1 x2
  have q2 := mul_sb q1.1 q1.2 e1' e2
  have q3 := mul_sb q2.1 q2.2 e1' e2
  have q4 := mul_sb q3.1 q3.2 e1' e2
  have q5 := mul_sb q4.1 q4.2 e1' e2
  have r1 := mul_sb b1 b2 e1' e2
  have r2 := mul_sb r1.1 r1.2 e1' e2
  have r3 := mul_sb r2.1 r2.2 e1' e2
  have r4 := mul_sb r3.1 r3.2 e1' e2
  have r5 := mul_sb r4.1 r4.2 e1' e2
  have r6 := mul_sb r5.1 r5.2 e1' e2
  unfold cvI
  omega

set_option maxRecDepth 8000 in
set_option maxHeartbeats 1600000 in
theorem curveValue_any (a b x e : Int) (w : World) (h : CvB a b x e) :
    Calls Tryz.prog 133 #[.agg #[.int .i64 a, .int .i64 b], .int .i64 x, .int .i64 e] w fun r w' => r = .returned (.int .i64 (cvI a b x e)) ∧ Below w.heap.size w w' := by
  obtain ⟨⟨a1, a2⟩, ⟨b1, b2⟩, ⟨x1, x2⟩, ⟨e1, e2⟩⟩ := h
  have e1' : -20 ≤ e := by omega
  have p1 := mul_sb x1 x2 x1 x2
  have p2 := mul_sb p1.1 p1.2 x1 x2
  have q1 := mul_sb a1 a2 x1 x2
  have q2 := mul_sb q1.1 q1.2 e1' e2
  have q3 := mul_sb q2.1 q2.2 e1' e2
  have q4 := mul_sb q3.1 q3.2 e1' e2
  have q5 := mul_sb q4.1 q4.2 e1' e2
  have r1 := mul_sb b1 b2 e1' e2
  have r2 := mul_sb r1.1 r1.2 e1' e2
  have r3 := mul_sb r2.1 r2.2 e1' e2
  have r4 := mul_sb r3.1 r3.2 e1' e2
  have r5 := mul_sb r4.1 r4.2 e1' e2
  have r6 := mul_sb r5.1 r5.2 e1' e2
  obtain ⟨p11, p12⟩ := p1; obtain ⟨p21, p22⟩ := p2
  obtain ⟨q11, q12⟩ := q1; obtain ⟨q21, q22⟩ := q2; obtain ⟨q31, q32⟩ := q3; obtain ⟨q41, q42⟩ := q4; obtain ⟨q51, q52⟩ := q5
  obtain ⟨r11, r12⟩ := r1; obtain ⟨r21, r22⟩ := r2; obtain ⟨r31, r32⟩ := r3; obtain ⟨r41, r42⟩ := r4; obtain ⟨r51, r52⟩ := r5; obtain ⟨r61, r62⟩ := r6
  simp only [Int.reduceMul] at p11 p12 p21 p22 q11 q12 q21 q22 q31 q32 q41 q42 q51 q52 r11 r12 r21 r22 r31 r32 r41 r42 r51 r52 r61 r62
  go_enter Tryz.func133, Tryz.ntmps133
  go_wp2
  go_ret
  exact ⟨rfl, by (repeat (with_reducible first | exact Below.refl _ _ | assumption | refine bal ?_ _ | refine bst ?_ (by simp <;> omega) _ | refine Below.drew ?_ | refine bthen ?_ (by assumption)))⟩
theorem cv_spec (a b x e : Int) : x * x * x + a * x * (e * e) * (e * e) + b * (e * e) * (e * e) * (e * e) = cvI a b x e := by
  unfold cvI
  rw [← Int.mul_assoc (a * x) e e, ← Int.mul_assoc (a * x * e * e) e e, ← Int.mul_assoc b e e, ← Int.mul_assoc (b * e * e) e e, ← Int.mul_assoc (b * e * e * e * e) e e]
set_option maxRecDepth 8000 in
set_option maxHeartbeats 1600000 in
theorem seValue_any (a b x e : Int) (w : World) (h : CvB a b x e) :
    Calls Tryz.prog 166 #[.agg #[.int .i64 a, .int .i64 b], .int .i64 x, .int .i64 e] w fun r w' => r = .returned (.int .i64 (cvI a b x e)) ∧ Below w.heap.size w w' := by
  rw [← cv_spec]
  obtain ⟨⟨a1, a2⟩, ⟨b1, b2⟩, ⟨x1, x2⟩, ⟨e1, e2⟩⟩ := h
  have e1' : -20 ≤ e := by omega
  have s1 := mul_sb e1' e2 e1' e2
  have p1 := mul_sb x1 x2 x1 x2
  have p2 := mul_sb p1.1 p1.2 x1 x2
  have q1 := mul_sb a1 a2 x1 x2
  have q2 := mul_sb q1.1 q1.2 s1.1 s1.2
  have q3 := mul_sb q2.1 q2.2 s1.1 s1.2
  have r1 := mul_sb b1 b2 s1.1 s1.2
  have r2 := mul_sb r1.1 r1.2 s1.1 s1.2
  have r3 := mul_sb r2.1 r2.2 s1.1 s1.2
  obtain ⟨s11, s12⟩ := s1; obtain ⟨p11, p12⟩ := p1; obtain ⟨p21, p22⟩ := p2
  obtain ⟨q11, q12⟩ := q1; obtain ⟨q21, q22⟩ := q2; obtain ⟨q31, q32⟩ := q3
  obtain ⟨r11, r12⟩ := r1; obtain ⟨r21, r22⟩ := r2; obtain ⟨r31, r32⟩ := r3
  simp only [Int.reduceMul] at s11 s12 p11 p12 p21 p22 q11 q12 q21 q22 q31 q32 r11 r12 r21 r22 r31 r32
  go_enter Tryz.func166, Tryz.ntmps166
  go_wp2
  go_ret
  exact ⟨rfl, by (repeat (with_reducible first | exact Below.refl _ _ | assumption | refine bal ?_ _ | refine bst ?_ (by simp <;> omega) _ | refine Below.drew ?_ | refine bthen ?_ (by assumption)))⟩

/-! ### The point at x and e -/
def ptO (a b x e : Int) : Option Pt := if gcdI x e = 1 ∧ rootK (cvI a b x e) = true then some ⟨x, rootV (cvI a b x e), e⟩ else none
theorem gcdI_abs (x e : Int) : gcdI (max x (-x)) e = gcdI x e := by
  unfold gcdI
  rw [show (max x (-x)).natAbs = x.natAbs by omega]
/-- What sePoint hands back. -/
def PtR (o : Option Pt) (r : Ending) : Prop := match o with
  | none => r = .returned (.tuple #[.agg #[.int .i64 0, .int .i64 0, .int .i64 0], .bool false])
  | some p => r = .returned (.tuple #[.agg #[.int .i64 p.x, .int .i64 p.y, .int .i64 p.e], .bool true])
set_option maxRecDepth 8000 in
set_option maxHeartbeats 1600000 in
theorem sePoint_any (a b x e : Int) (w : World) (h : CvB a b x e) :
    Calls Tryz.prog 135 #[.agg #[.int .i64 a, .int .i64 b], .int .i64 x, .int .i64 e] w fun r w' => PtR (ptO a b x e) r ∧ Below w.heap.size w w' := by
  have hcv := cv_small h
  have hg := gcdI_abs x e
  have Hval := Lib.hid (fun w => seValue_any a b x e w h)
  have Hroot := Lib.hid (fun w => seRoot_any (cvI a b x e) w hcv)
  obtain ⟨-, -, ⟨x1, x2⟩, ⟨e1, e2⟩⟩ := h
  have Habs := Lib.hid (fun w => l1Abs_any x w (by omega))
  have Hcom := Lib.hid (fun w => bgCommon_any (max x (-x)) e w (by omega) (by omega))
  rw [hg] at Hcom
  clear hg hcv
  have HbA := Lib.hid (show Below w.heap.size w ((w.alloc (Obj.cells #[.int .i64 a, .int .i64 b] 25)).alloc (Obj.cells #[.int .i64 0, .int .i64 0, .int .i64 0] 117)) from bal (bal (Below.refl _ _) _) _)
  by_cases hg1 : gcdI x e = 1
  · have hne : (gcdI x e != 1) = false := by simp [hg1]
    cases hk : rootK (cvI a b x e)
    · have HO := Lib.hid (show PtR (ptO a b x e) (.returned (.tuple #[.agg #[.int .i64 0, .int .i64 0, .int .i64 0], .bool false])) by unfold ptO; rw [if_neg (by simp [hk])]; exact rfl)
      have hrs : rootS (cvI a b x e) = -1 := by unfold rootS; rw [hk]; rfl
      rw [hrs] at Hroot
      clear hrs hk hg1
      go_enter Tryz.func135, Tryz.ntmps135
      go_wp2_with (first | (go_at_call 164; refine (Habs.out _).mono ?_; rintro r w' ⟨rfl, rfl⟩) | (go_at_call 163; refine (Hcom.out _).mono ?_; rintro r w' ⟨rfl, rfl⟩) | (go_at_call 166; refine (Hval.out _).mono ?_; rintro r w1 ⟨rfl, hb1⟩; obtain ⟨hc1, hf1⟩ := bcell hb1; have hz1 := hb1.size; simp only [World.size_alloc] at hz1; have hb2 := bthen HbA.out hb1) | (go_at_call 165; refine (Hroot.out _).mono ?_; rintro r w' ⟨rfl, rfl⟩))
      exact bodyPost_ret (v := .tuple #[.agg #[.int .i64 0, .int .i64 0, .int .i64 0], .bool false]) (by simp [results, Tryz.results135, go_sem, hc1]) rfl ⟨HO.out, by repeat (with_reducible first | exact hb2 | (refine bst ?_ (by first | omega | (simp; done) | (simp; omega)) _))⟩
    · have HO := Lib.hid (show PtR (ptO a b x e) (.returned (.tuple #[.agg #[.int .i64 x, .int .i64 (fsq (cvI a b x e).toNat : Int), .int .i64 e], .bool true])) by unfold ptO; rw [if_pos ⟨hg1, hk⟩]; simp only [PtR, rootV, hk, if_true])
      have hrs : rootS (cvI a b x e) = (fsq (cvI a b x e).toNat : Int) := by unfold rootS; rw [hk]; rfl
      rw [hrs] at Hroot
      clear hrs hk hg1
      have hnn : (0 : Int) ≤ (fsq (cvI a b x e).toNat : Int) := by omega
      go_enter Tryz.func135, Tryz.ntmps135
      go_wp2_with (first | (go_at_call 164; refine (Habs.out _).mono ?_; rintro r w' ⟨rfl, rfl⟩) | (go_at_call 163; refine (Hcom.out _).mono ?_; rintro r w' ⟨rfl, rfl⟩) | (go_at_call 166; refine (Hval.out _).mono ?_; rintro r w1 ⟨rfl, hb1⟩; obtain ⟨hc1, hf1⟩ := bcell hb1; have hz1 := hb1.size; simp only [World.size_alloc] at hz1; have hb2 := bthen HbA.out hb1) | (go_at_call 165; refine (Hroot.out _).mono ?_; rintro r w' ⟨rfl, rfl⟩))
      exact bodyPost_ret (v := .tuple #[.agg #[.int .i64 x, .int .i64 (fsq (cvI a b x e).toNat : Int), .int .i64 e], .bool true]) (by simp [results, Tryz.results135, go_sem, hc1]) rfl ⟨HO.out, by repeat (with_reducible first | exact hb2 | (refine bst ?_ (by first | omega | (simp; done) | (simp; omega)) _))⟩
  · have hne : (gcdI x e != 1) = true := by simp [hg1]
    have HO := Lib.hid (show PtR (ptO a b x e) (.returned (.tuple #[.agg #[.int .i64 0, .int .i64 0, .int .i64 0], .bool false])) by unfold ptO; rw [if_neg (fun h => hg1 h.1)]; exact rfl)
    clear hg1
    go_enter Tryz.func135, Tryz.ntmps135
    go_wp2_with (first | (go_at_call 164; refine (Habs.out _).mono ?_; rintro r w' ⟨rfl, rfl⟩) | (go_at_call 163; refine (Hcom.out _).mono ?_; rintro r w' ⟨rfl, rfl⟩) | (go_at_call 166; refine (Hval.out _).mono ?_; rintro r w1 ⟨rfl, hb1⟩; obtain ⟨hc1, hf1⟩ := bcell hb1; have hz1 := hb1.size; simp only [World.size_alloc] at hz1; have hb2 := bthen HbA.out hb1) | (go_at_call 165; refine (Hroot.out _).mono ?_; rintro r w' ⟨rfl, rfl⟩))
    exact bodyPost_ret (v := .tuple #[.agg #[.int .i64 0, .int .i64 0, .int .i64 0], .bool false]) (by simp [results, Tryz.results135, go_sem]) rfl ⟨HO.out, by repeat (with_reducible first | exact HbA.out | (refine bst ?_ (by first | omega | (simp; done) | (simp; omega)) _))⟩
end
section
open Go Go.RowKit

end
section
open Go Go.RowKit

/-! ### Candidates -/
def cxI (m i : Int) : Int := i % (2 * m + 1) - m
def ceI (m i : Int) : Int := 1 + i / (2 * m + 1)
/-- The bounds of a task. -/
structure TkB (a b m d : Int) : Prop where
  a : -1000 ≤ a ∧ a ≤ 1000
  b : -10000 ≤ b ∧ b ≤ 10000
  m : 0 ≤ m ∧ m ≤ 200
  d : 1 ≤ d ∧ d ≤ 10
/-- How many candidates a task has. -/
def totI (m d : Int) : Int := d * (2 * m + 1)
theorem totI_bd {m d : Int} (hm : 0 ≤ m ∧ m ≤ 200) (hd : 1 ≤ d ∧ d ≤ 10) : 0 ≤ totI m d ∧ totI m d ≤ 4010 := by
  have h1 := mul_sb (u := d) (U := 10) (v := 2 * m + 1) (V := 401) (by omega) (by omega) (by omega) (by omega)
  have h2 := Int.mul_nonneg (show 0 ≤ d by omega) (show 0 ≤ 2 * m + 1 by omega)
  unfold totI
  omega
theorem cand_bd {m d i : Int} (hm : 0 ≤ m ∧ m ≤ 200) (h0 : 0 ≤ i) (h1 : i < totI m d) : -200 ≤ cxI m i ∧ cxI m i ≤ 200 ∧ 1 ≤ ceI m i ∧ ceI m i ≤ d ∧ -m ≤ cxI m i ∧ cxI m i ≤ m := by
  have p1 := Int.emod_nonneg i (show (2 * m + 1) ≠ 0 by omega)
  have p2 := Int.emod_lt_of_pos i (show 0 < 2 * m + 1 by omega)
  have p3 : i / (2 * m + 1) < d := Int.ediv_lt_of_lt_mul (by omega) h1
  have p4 : 0 ≤ i / (2 * m + 1) := Int.ediv_nonneg h0 (by omega)
  unfold cxI ceI
  omega
/-- The point at a candidate. -/
def candO (a b m i : Int) : Option Pt := ptO a b (cxI m i) (ceI m i)
def hitsN (a b m f : Int) : Nat → List Pt
  | 0 => []
  | k + 1 => hitsN a b m f k ++ (candO a b m (f + k)).toList
/-- The points at the candidates from f on, up to the one before i. -/
def hitsZ (a b m f i : Int) : List Pt := hitsN a b m f (i - f).toNat
theorem hitsZ_self (a b m f : Int) : hitsZ a b m f f = [] := by unfold hitsZ; rw [Int.sub_self]; rfl
theorem hitsZ_none {a b m f i : Int} (h : i ≤ f) : hitsZ a b m f i = [] := by unfold hitsZ; rw [show (i - f).toNat = 0 by omega]; rfl
theorem hitsZ_succ {a b m f i : Int} (h : f ≤ i) : hitsZ a b m f (i + 1) = hitsZ a b m f i ++ (candO a b m i).toList := by
  unfold hitsZ
  rw [show (i + 1 - f).toNat = (i - f).toNat + 1 by omega]
  show hitsN a b m f (i - f).toNat ++ _ = _
  rw [show f + ((i - f).toNat : Int) = i by omega]
theorem hitsN_len (a b m f : Int) : ∀ k, (hitsN a b m f k).length ≤ k
  | 0 => Nat.le_refl _
  | k + 1 => by
    have := hitsN_len a b m f k
    have h2 : (candO a b m (f + k)).toList.length ≤ 1 := by cases candO a b m (f + k) <;> simp
    simp only [hitsN, List.length_append]
    omega
theorem hitsZ_len (a b m f i : Int) : (hitsZ a b m f i).length ≤ (i - f).toNat := hitsN_len a b m f _

theorem pt3 (p : Pt) : ptS.flat [p] = [.int .i64 p.x, .int .i64 p.y, .int .i64 p.e] := by simp [Shape.flat, Shape.cells, ptS, List.range_succ]
theorem pt_one (p : Pt) : ∀ u ∈ ptS.flat [p], u.oneCell' = true := by
  intro u hu; rw [pt3] at hu; simp at hu; rcases hu with rfl | rfl | rfl <;> rfl
theorem onePt_cells {w : World} {g : Nat} {t : TypeId} {p : Pt} (h : Blk w g t #[.int .i64 p.x, .int .i64 p.y, .int .i64 p.e]) : ∀ j u, (ptS.flat [p])[j]? = some u → w.cell? ((⟨g, 0, none⟩ : Addr).add j) = some u := by
  intro j u hj
  rw [pt3] at hj
  rw [Addr.add_lit, Nat.zero_add, h.cell]
  match j, hj with
  | 0, hj => simpa using hj
  | 1, hj => simpa using hj
  | 2, hj => simpa using hj

set_option maxHeartbeats 1600000 in
theorem candidate_any (g : Nat) (a b m d t i : Int) (v : Value) (w : World) (h : Blk w g 51 #[.int .i64 a, .int .i64 b, .int .i64 m, .int .i64 d, .int .i64 t, v]) (hm : 0 ≤ m ∧ m ≤ 200) (hi : 0 ≤ i ∧ i ≤ 1000000) :
    Calls Tryz.prog 130 #[.pointer (some ⟨g, 0, none⟩), .int .i64 i] w fun r w' => r = .returned (.tuple #[.int .i64 (cxI m i), .int .i64 (ceI m i)]) ∧ Below w.heap.size w w' := by
  have q2 := h.cell 2
  simp at q2
  have hl := h.lt
  obtain ⟨m1, m2⟩ := hm
  obtain ⟨i1, i2⟩ := hi
  have p1 := Int.emod_nonneg i (show (2 * m + 1) ≠ 0 by omega)
  have p2 := Int.emod_lt_of_pos i (show 0 < 2 * m + 1 by omega)
  have p3 := Int.ediv_le_self (2 * m + 1) i1
  have p4 : 0 ≤ i / (2 * m + 1) := Int.ediv_nonneg i1 (by omega)
  clear h
  go_enter Tryz.func130, Tryz.ntmps130
  go_wp2
  refine wp_region_tame (by kernel_rfl) (by kernel_rfl) (fun T _ W hT => ?_)
  have hx := hT.cell
  repeat (go_big_quiet_step (fail))
  refine wpQuiet_nil ?_
  intro t
  clear hx
  go_wp2
  go_ret2
  exact ⟨rfl, hT.below t⟩
set_option maxHeartbeats 1600000 in
theorem skCandidate_any (a b m d t i : Int) (v : Value) (w : World) (hm : 0 ≤ m ∧ m ≤ 200) (hi : 0 ≤ i ∧ i ≤ 1000000) :
    Calls Tryz.prog 134 #[.agg #[.int .i64 a, .int .i64 b, .int .i64 m, .int .i64 d, .int .i64 t, v], .int .i64 i] w fun r w' => r = .returned (.tuple #[.int .i64 (cxI m i), .int .i64 (ceI m i)]) ∧ Below w.heap.size w w' := by
  obtain ⟨m1, m2⟩ := hm
  obtain ⟨i1, i2⟩ := hi
  have p1 := Int.emod_nonneg i (show (2 * m + 1) ≠ 0 by omega)
  have p2 := Int.emod_lt_of_pos i (show 0 < 2 * m + 1 by omega)
  have p3 := Int.ediv_le_self (2 * m + 1) i1
  have p4 : 0 ≤ i / (2 * m + 1) := Int.ediv_nonneg i1 (by omega)
  have HbA := Lib.hid (show Below w.heap.size w (w.alloc (Obj.cells #[.int .i64 a, .int .i64 b, .int .i64 m, .int .i64 d, .int .i64 t, v] 51)) from bal (Below.refl _ _) _)
  have q2 := (Blk.new w 51 #[.int .i64 a, .int .i64 b, .int .i64 m, .int .i64 d, .int .i64 t, v]).cell 2
  go_enter Tryz.func134, Tryz.ntmps134
  go_wp2
  refine wp_region_tame (by kernel_rfl) (by kernel_rfl) (fun T _ W hT => ?_)
  have hx := hT.cell
  repeat (go_big_quiet_step (fail))
  refine wpQuiet_nil ?_
  intro t
  clear hx
  go_wp2
  go_ret2
  exact ⟨rfl, bthen HbA.out (hT.below t)⟩

theorem infoPt2 : (Tryz.prog.info? 117).map (fun i => (i.zero, i.size, i.bytes)) = some (some (.agg #[.int .i64 0, .int .i64 0, .int .i64 0]), 3, 24) := by kernel_rfl
theorem TkB.cv {a b m d i : Int} (h : TkB a b m d) (h0 : 0 ≤ i) (h1 : i < totI m d) : CvB a b (cxI m i) (ceI m i) := by
  obtain ⟨p1, p2, p3, p4, -, -⟩ := cand_bd h.m h0 h1
  have := h.d
  exact ⟨h.a, h.b, by omega, by omega⟩

set_option maxRecDepth 8000 in
set_option maxHeartbeats 8000000 in
theorem hits_any (g : Nat) (a b m d t f l : Int) (v : Value) (w : World) (h : Blk w g 51 #[.int .i64 a, .int .i64 b, .int .i64 m, .int .i64 d, .int .i64 t, v]) (ht : TkB a b m d) (hf : 0 ≤ f) (hl : l ≤ totI m d) :
    Calls Tryz.prog 87 #[.pointer (some ⟨g, 0, none⟩), .int .i64 f, .int .i64 l] w fun r w' => (∃ v', r = .returned v' ∧ w'.ownsRow w.heap.size 117 3 v' (hitsZ a b m f l).length (ptS.flat (hitsZ a b m f l))) ∧ Below w.heap.size w w' := by
  obtain ⟨i0, hi, hz0, hz1, hz2⟩ := info_parts infoPt2
  have Hb := Lib.hid h; clear h
  have Ht := Lib.hid ht; clear ht
  have Hl := Lib.hid hl; clear hl
  have Htot := Lib.hid (totI_bd Ht.out.m Ht.out.d)
  go_enter Tryz.func87, Tryz.ntmps87
  go_wp2
  go_loopw [7, 8] (fun o i wr => ∃ k : Int, f ≤ k ∧ (k ≤ l ∨ k = f) ∧ i = .int .i64 k ∧ Below w.heap.size w wr ∧ wr.ownsRow w.heap.size 117 3 o (hitsZ a b m f k).length (ptS.flat (hitsZ a b m f k))) (fun _ i _ => (l - intOf i).toNat)
  case atStart => exact ⟨f, Int.le_refl _, .inr rfl, rfl, Below.refl _ _, by rw [hitsZ_self]; exact ⟨rfl, Or.inl ⟨rfl, rfl⟩⟩⟩
  case round =>
    obtain ⟨k, hfk, hkl, rfl, hb, hown⟩ := hrel
    have Hown := Lib.hid hown; clear hown
    by_cases hlt : k < l
    · have hk0 : 0 ≤ k := by omega
      have hk1 : k ≤ 4010 := by have := Hl.out; have := Htot.out; omega
      have hlen : (hitsZ a b m f k).length ≤ 4010 := by have := hitsZ_len a b m f k; omega
      have hcv := Ht.out.cv hk0 (show k < totI m d by have := Hl.out; omega)
      obtain ⟨x1, x2, e1, e2, -, -⟩ := cand_bd Ht.out.m hk0 (show k < totI m d by have := Hl.out; omega)
      have hsucc := hitsZ_succ (a := a) (b := b) (m := m) hfk
      have hcand : candO a b m k = ptO a b (cxI m k) (ceI m k) := rfl
      rw [hcand] at hsucc
      have Hcand := Lib.hid (fun w' hw => candidate_any g a b m d t k v w' hw Ht.out.m (by omega))
      have he2 : ceI m k ≤ 10 := by have := Ht.out.d; omega
      generalize cxI m k = x at hcv x1 x2 hsucc Hcand
      generalize ceI m k = e at hcv e1 e2 he2 hsucc Hcand
      have Hval := Lib.hid (fun w => curveValue_any a b x e w hcv)
      have Hroot := Lib.hid (fun w => exactRoot_any (cvI a b x e) w (cv_small hcv))
      have Hgcd := Lib.hid (fun w => gcd_any x e w (by omega) (by omega))
      have Hsucc := Lib.hid hsucc
      clear hcv hsucc hcand e2
      go_wp2_with fail
      refine (Hcand.out _ (Hb.out.below hb (Hb.out.lt))).mono ?_
      rintro r w2 ⟨rfl, hb2⟩
      have hb02 := bthen hb hb2
      go_wp2_with fail
      refine (Hgcd.out _).mono ?_
      rintro r w3 ⟨rfl, hb3⟩
      have hb03 := bthen hb02 hb3
      have Hown3 := Lib.hid (own_below Hown.out (bthen hb2 hb3))
      have hB3 := Hb.out.below hb03 Hb.out.lt
      have q0 := hB3.cell 0
      have q1 := hB3.cell 1
      have ql := hB3.lt
      clear hB3
      simp at q0 q1
      have Hb03 := Lib.hid hb03; clear hb02 hb03 hb2 hb3 hb
      by_cases hg1 : gcdI x e = 1
      · have hne : (gcdI x e != 1) = false := by simp [hg1]
        go_wp2_with fail
        refine (Hval.out _).mono ?_
        rintro r w4 ⟨rfl, hb4⟩
        have Hown4 := Lib.hid (own_below Hown3.out hb4)
        have Hb04 := Lib.hid (bthen Hb03.out hb4)
        clear hb4
        go_wp2_with fail
        refine (Hroot.out _).mono ?_
        rintro r w5 ⟨rfl, rfl⟩
        cases hk : rootK (cvI a b x e)
        · have Hn := Lib.hid (show hitsZ a b m f (k + 1) = hitsZ a b m f k by rw [Hsucc.out, ptO, if_neg (by simp [hk])]; simp)
          clear hk
          go_wp2
          go_roundw
          case rel => exact ⟨k + 1, by omega, by omega, rfl, Hb04.out, by rw [Hn.out]; exact Hown4.out⟩
          case measure => simp [intOf]; omega
        · have Hn := Lib.hid (show hitsZ a b m f (k + 1) = hitsZ a b m f k ++ [⟨x, rootV (cvI a b x e), e⟩] by rw [Hsucc.out, ptO, if_pos ⟨hg1, hk⟩]; rfl)
          clear hk hg1
          generalize rootV (cvI a b x e) = y at Hn
          go_wp2_with (at_builtin; refine wpList_append_own _ rfl _ _ 49 rfl w.heap.size 117 i0 (.agg #[.int .i64 0, .int .i64 0, .int .i64 0]) 3 24 Tryz.underlying49 hi hz0 hz1 hz2 rfl (by decide) _ _ _ rfl (Hown4.out.alloc _) ⟨w4.heap.size, 0, none⟩ 1 1 (ptS.flat [⟨x, y, e⟩]) rfl rfl ?c1 (pt_one _) ?c3 ?c4 ?c5 ?_)
          case c1 => exact onePt_cells (Blk.new _ _ _)
          case c3 => unfold maxLen; omega
          case c4 => omega
          case c5 => have := Hb04.out.size; simp; omega
          intro v6 w6 hown6 hgrow _
          have Hb06 := Lib.hid (Below.grown (bal Hb04.out _) hgrow (by have := Hb04.out.size; simp; omega) (fun j hj => (Hown4.out.lt j hj).1))
          have Hown6 := Lib.hid (show w6.ownsRow w.heap.size 117 3 v6 (hitsZ a b m f (k + 1)).length (ptS.flat (hitsZ a b m f (k + 1))) by rw [Hn.out, Shape.flat_append, List.length_append]; exact hown6)
          clear hown6 hgrow
          go_wp2
          go_roundw
          case rel => exact ⟨k + 1, by omega, by omega, rfl, Hb06.out, Hown6.out⟩
          case measure => simp [intOf]; omega
      · have hne : (gcdI x e != 1) = true := by simp [hg1]
        have Hn := Lib.hid (show hitsZ a b m f (k + 1) = hitsZ a b m f k by rw [Hsucc.out, ptO, if_neg (fun h => hg1 h.1)]; simp)
        clear hg1
        go_wp2
        go_roundw
        case rel => exact ⟨k + 1, by omega, by omega, rfl, Hb03.out, by rw [Hn.out]; exact Hown3.out⟩
        case measure => simp [intOf]; omega
    · have Hend := Lib.hid (show hitsZ a b m f k = hitsZ a b m f l by
        rcases hkl with h | h
        · rw [show k = l by omega]
        · rw [hitsZ_none (show k ≤ f by omega), hitsZ_none (show l ≤ f by omega)])
      go_wp2
      go_ret
      exact ⟨⟨_, rfl, by rw [← Hend.out]; exact Hown.out⟩, hb⟩
set_option maxRecDepth 8000 in
set_option maxHeartbeats 8000000 in
theorem skRun_any (a b m d t f l : Int) (v : Value) (w : World) (ht : TkB a b m d) (hf : 0 ≤ f) (hl : l ≤ totI m d) :
    Calls Tryz.prog 89 #[.agg #[.int .i64 a, .int .i64 b, .int .i64 m, .int .i64 d, .int .i64 t, v], .int .i64 f, .int .i64 l] w fun r w' => (∃ v', r = .returned v' ∧ w'.ownsRow w.heap.size 117 3 v' (hitsZ a b m f l).length (ptS.flat (hitsZ a b m f l))) ∧ Below w.heap.size w w' := by
  obtain ⟨i0, hi, hz0, hz1, hz2⟩ := info_parts infoPt2
  have Ht := Lib.hid ht; clear ht
  have Hl := Lib.hid hl; clear hl
  have Htot := Lib.hid (totI_bd Ht.out.m Ht.out.d)
  have HbA := Lib.hid (show Below w.heap.size w (w.alloc (Obj.cells #[.int .i64 a, .int .i64 b, .int .i64 m, .int .i64 d, .int .i64 t, v] 51)) from bal (Below.refl _ _) _)
  have HB := Lib.hid (Blk.new w 51 #[.int .i64 a, .int .i64 b, .int .i64 m, .int .i64 d, .int .i64 t, v])
  have Hsz := Lib.hid (World.size_alloc w (Obj.cells #[.int .i64 a, .int .i64 b, .int .i64 m, .int .i64 d, .int .i64 t, v] 51))
  have HrA := Lib.hid (Below.refl (w.heap.size + 1) (w.alloc (Obj.cells #[.int .i64 a, .int .i64 b, .int .i64 m, .int .i64 d, .int .i64 t, v] 51)))
  go_enter Tryz.func89, Tryz.ntmps89
  go_wp2
  generalize w.alloc (Obj.cells #[.int .i64 a, .int .i64 b, .int .i64 m, .int .i64 d, .int .i64 t, v] 51) = W at HbA HB Hsz HrA
  go_loopw [7, 8] (fun o i wr => ∃ k : Int, f ≤ k ∧ (k ≤ l ∨ k = f) ∧ i = .int .i64 k ∧ Below (w.heap.size + 1) W wr ∧ wr.ownsRow (w.heap.size + 1) 117 3 o (hitsZ a b m f k).length (ptS.flat (hitsZ a b m f k))) (fun _ i _ => (l - intOf i).toNat)
  case atStart => exact ⟨f, Int.le_refl _, .inr rfl, rfl, HrA.out, by rw [hitsZ_self]; exact ⟨rfl, Or.inl ⟨rfl, rfl⟩⟩⟩
  case round =>
    obtain ⟨k, hfk, hkl, rfl, hb, hown⟩ := hrel
    have Hown := Lib.hid hown; clear hown
    by_cases hlt : k < l
    · have hk0 : 0 ≤ k := by omega
      have hk1 : k ≤ 4010 := by have := Hl.out; have := Htot.out; omega
      have hlen : (hitsZ a b m f k).length ≤ 4010 := by have := hitsZ_len a b m f k; omega
      have hcv := Ht.out.cv hk0 (show k < totI m d by have := Hl.out; omega)
      have hsucc := hitsZ_succ (a := a) (b := b) (m := m) hfk
      have hcand : candO a b m k = ptO a b (cxI m k) (ceI m k) := rfl
      rw [hcand] at hsucc
      have Hcand := Lib.hid (fun w' => skCandidate_any a b m d t k v w' Ht.out.m (by omega))
      generalize cxI m k = x at hcv hsucc Hcand
      generalize ceI m k = e at hcv hsucc Hcand
      have Hpt := Lib.hid (fun w => sePoint_any a b x e w hcv)
      have Hsucc := Lib.hid hsucc
      clear hcv hsucc hcand
      have hB := HB.out.below (B := w.heap.size + 1) hb (Nat.lt_succ_self _)
      have q0 := hB.cell 0
      have q1 := hB.cell 1
      have q2 := hB.cell 2
      have q3 := hB.cell 3
      have q4 := hB.cell 4
      have q5 := hB.cell 5
      have ql := hB.lt
      simp at q0 q1 q2 q3 q4 q5
      clear hB
      go_wp2_with fail
      refine (Hcand.out _).mono ?_
      rintro r w2 ⟨rfl, hb2⟩
      clear q0 q1 q2 q3 q4 q5
      have hb02 : Below (w.heap.size + 1) W w2 := hb.trans (hb2.mono (by have := hb.size; have := Hsz.out; omega))
      have Hown2 := Lib.hid (own_below Hown.out hb2)
      have hB := HB.out.below (B := w.heap.size + 1) hb02 (Nat.lt_succ_self _)
      have q0 := hB.cell 0
      have q1 := hB.cell 1
      have ql := hB.lt
      simp at q0 q1
      clear hB hb2 hb
      go_wp2_with fail
      refine (Hpt.out _).mono ?_
      rintro r w3 ⟨hr, hb3⟩
      have Hb3 := Lib.hid (hb02.trans (hb3.mono (by have := hb02.size; have := Hsz.out; omega)))
      have Hown3 := Lib.hid (own_below Hown2.out hb3)
      clear hb3 hb02 q0 q1 ql
      cases ho : ptO a b x e with
      | none =>
        have hr2 : r = .returned (.tuple #[.agg #[.int .i64 0, .int .i64 0, .int .i64 0], .bool false]) := by rw [ho] at hr; exact hr
        subst hr2
        clear hr
        have Hn := Lib.hid (show hitsZ a b m f (k + 1) = hitsZ a b m f k by rw [Hsucc.out, ho]; simp)
        clear ho
        go_wp2
        go_roundw
        case rel => exact ⟨k + 1, by omega, by omega, rfl, Hb3.out.alloc (by have := Hb3.out.size; have := Hsz.out; omega) _, by rw [Hn.out]; exact Hown3.out.alloc _⟩
        case measure => simp [intOf]; omega
      | some p =>
        have hr2 : r = .returned (.tuple #[.agg #[.int .i64 p.x, .int .i64 p.y, .int .i64 p.e], .bool true]) := by rw [ho] at hr; exact hr
        subst hr2
        clear hr
        have Hn := Lib.hid (show hitsZ a b m f (k + 1) = hitsZ a b m f k ++ [p] by rw [Hsucc.out, ho]; rfl)
        clear ho
        go_wp2_with (at_builtin; refine wpList_append_own _ rfl _ _ 49 rfl (w.heap.size + 1) 117 i0 (.agg #[.int .i64 0, .int .i64 0, .int .i64 0]) 3 24 Tryz.underlying49 hi hz0 hz1 hz2 rfl (by decide) _ _ _ rfl ((Hown3.out.alloc _).alloc _) ⟨w3.heap.size + 1, 0, none⟩ 1 1 (ptS.flat [p]) rfl rfl ?c1 (pt_one _) ?c3 ?c4 ?c5 ?_)
        case c1 => exact onePt_cells (Blk.new1 _ _ _ _)
        case c3 => unfold maxLen; omega
        case c4 => omega
        case c5 => have := Hb3.out.size; have := Hsz.out; simp; omega
        intro v6 w6 hown6 hgrow _
        have Hb06 := Lib.hid (Below.grown ((Hb3.out.alloc (by have := Hb3.out.size; have := Hsz.out; omega) _).alloc (by have := Hb3.out.size; have := Hsz.out; simp; omega) _) hgrow (by have := Hb3.out.size; have := Hsz.out; simp; omega) (fun j hj => (Hown3.out.lt j hj).1))
        have Hown6 := Lib.hid (show w6.ownsRow (w.heap.size + 1) 117 3 v6 (hitsZ a b m f (k + 1)).length (ptS.flat (hitsZ a b m f (k + 1))) by rw [Hn.out, Shape.flat_append, List.length_append]; exact hown6)
        clear hown6 hgrow
        go_wp2
        go_roundw
        case rel => exact ⟨k + 1, by omega, by omega, rfl, Hb06.out, Hown6.out⟩
        case measure => simp [intOf]; omega
    · have Hend := Lib.hid (show hitsZ a b m f k = hitsZ a b m f l by
        rcases hkl with h | h
        · rw [show k = l by omega]
        · rw [hitsZ_none (show k ≤ f by omega), hitsZ_none (show l ≤ f by omega)])
      go_wp2
      go_ret
      exact ⟨⟨_, rfl, by rw [← Hend.out]; exact own_mono Hown.out (Nat.le_succ _)⟩, HbA.out.trans (hb.mono (Nat.le_succ _))⟩
end
end Go.Proofs.YtnhgdmhiblpknaaGreatDoor
