/- Own texts put together: The walk of the reference's ParseCatalogue; The reference's source of drawn numbers: its cursor, and what a call leaves as it was; next, pick, one, among. Conditions: those of each theorem. -/
import Derived.Test.YtimfoodbolokdaaGreatDoorEtM8
import Derived.Test.YtimfoodbolokdaaGreatDoorEtM1
import Derived.Laws.Bits64b
namespace Go.Proofs.YtimfoodbolokdaaGreatDoor
section
open Go Go.RowKit

theorem own_more_le {w : World} {b : Nat} {t : TypeId} {z n c : Nat} {A : Option Addr} {xs : List Value} (h : w.ownsRow b t z (.slice A n c) n xs) : c ≤ maxLen := by
  rcases h.2 with ⟨h', hn⟩ | ⟨g, cap, cur, h', hb, hg, hnc, hcm, -⟩
  · cases h'; unfold maxLen; omega
  · cases h'; exact hcm
set_option linter.unusedSimpArgs false in
set_option maxRecDepth 20000 in
set_option maxHeartbeats 8000000 in
theorem specPc_any (s : ByteArray) (w : World) (hs : s.size ≤ 1900000) :
    Calls Tryz.prog 20 #[.string s] w fun e w' => PcRet s w.heap.size e w' ∧ Below w.heap.size w w' := by
  obtain ⟨i0, hi, hz0, hz1, hz2⟩ := info_parts infoEn
  have hlen : s.data.toList.length = s.size := rfl
  have Hsp := Lib.hid (fun W => l1Split_any s 10 W (by omega))
  have hspl := spl_len 10 s.data.toList
  have hsne : (spl 10 s.data.toList).length ≠ 0 := fun h => spl_ne 10 s.data.toList (List.eq_nil_of_length_eq_zero h)
  have Hmem := Lib.hid (fun x hx => spl_mem 10 s.data.toList x hx)
  have Hmany := Lib.hid (fun h => pc_many (s := s) h)
  have Hbad := Lib.hid (fun j hp hc => PcInv.badS (s := s) (j := j) hp hc)
  have Hnext := Lib.hid (fun j xs h hp e hc => PcInv.nextS (s := s) (j := j) (xs := xs) h hp (e := e) hc)
  have Hdone := Lib.hid (fun j xs h hj es he => PcInv.doneS (s := s) (j := j) (xs := xs) h hj (es := es) he)
  rw [hlen] at hspl
  change Hid (∀ j (hp : j + 1 < (spl 10 s.data.toList).length), clS ((spl 10 s.data.toList)[j]'(Nat.lt_of_succ_lt hp)) = none → NoPc s) at Hbad
  change Hid (∀ j xs, PcInv s j xs → ∀ (hp : j + 1 < (spl 10 s.data.toList).length) (e : En), clS ((spl 10 s.data.toList)[j]'(Nat.lt_of_succ_lt hp)) = some e → PcInv s (j + 1) (xs ++ [e])) at Hnext
  generalize spl 10 s.data.toList = P at Hsp hspl hsne Hmem Hmany Hbad Hnext Hdone
  go_enter Tryz.func20, Tryz.ntmps20
  go_wp2_with fail
  refine (Hsp.out _).mono ?_; rintro e w1 ⟨⟨v1, rfl, hown⟩, hb1⟩
  have Hb1 := Lib.hid hb1; clear hb1
  obtain ⟨A1, c1, rfl⟩ := own_form hown
  have Hown1 := Lib.hid hown; clear hown
  have hcap1 := own_cap Hown1.out
  by_cases hmy : 13 < P.length
  · have HN := Lib.hid (Hmany.out hmy)
    have h1 : (13 : Int) < (P.length : Int) := by omega
    go_wp2
    go_ret2
    exact ⟨PcRet.no HN.out, Hb1.out⟩
  · have h1 : ¬ (13 : Int) < (P.length : Int) := by omega
    obtain ⟨n, hn⟩ : ∃ n, P.length = n + 1 := ⟨P.length - 1, by omega⟩
    rcases own_two Hown1.out with ⟨h0, h0', -⟩ | ⟨g1, rfl, hbg1, hlg1⟩
    · exact absurd h0' (by omega)
    have Hcell := Lib.hid (fun j (hj : j < P.length) => Hown1.out.cellAt j (by omega))
    have hcm := own_more_le Hown1.out
    unfold maxLen at hcm
    have Hn1 := Lib.hid hn
    have hn2 : ((P.length : Nat) : Int) = (n : Int) + 1 := by omega
    clear hsne hspl
    have hn12 : n ≤ 12 := by omega
    have hc9 : n ≤ c1 := by omega
    rw [hn] at h1 hmy hcap1 ⊢
    clear hn hn2
    have h2 : (n : Int) ≤ (c1 : Int) := by omega
    go_wp2
    clear hcm h1 hmy
    go_loopw [21, 5] (fun i o wr => ∃ (j : Nat) (xs : List En), j ≤ n ∧ i = .int .i64 j ∧ Hid (xs.length = j) ∧ Hid (PcInv s j xs) ∧ Below w1.heap.size w1 wr ∧ Hid (wr.ownsRow w1.heap.size 29 5 o xs.length (enS.flat xs))) (fun i _ _ => n - (intOf i).toNat)
    case atStart => exact ⟨0, [], Nat.zero_le _, rfl, Lib.hid rfl, Lib.hid (PcInv.zero s), Below.refl _ _, Lib.hid ⟨by simp [Shape.flat], Or.inl ⟨rfl, rfl⟩⟩⟩
    case round =>
      obtain ⟨j, xs, hj, rfl, Hxj, Hinv, hb, Hown⟩ := hrel
      have Hbr := Lib.hid (bthen Hb1.out hb)
      obtain ⟨A9, c9, rfl⟩ := own_form Hown.out
      by_cases hlt : j < n
      · have hjl : j + 1 < P.length := by rw [Hn1.out]; exact Nat.succ_lt_succ hlt
        have hjl' : j < P.length := Nat.lt_of_succ_lt hjl
        have f0 : wr.cell? ⟨g1, j, none⟩ = some (bsv (P[j]'hjl')) := by
          rw [hb.cell (p := ⟨g1, j, none⟩) hlg1, Hcell.out j hjl', List.getElem?_map, List.getElem?_eq_getElem hjl']; rfl
        have hlo := Nat.lt_of_lt_of_le hlg1 hb.size
        have Hsz := Lib.hid (Hmem.out (P[j]'hjl') (List.getElem_mem hjl'))
        have Hba := Lib.hid (Hbad.out j hjl)
        have Hne := Lib.hid (Hnext.out j xs Hinv.out hjl)
        generalize P[j]'hjl' = p at f0 Hsz Hba Hne
        have hi0 : (0 : Int) ≤ (j : Int) := by omega
        have hi1 : (j : Int) < (n : Int) := by omega
        have psz : (⟨p.toArray⟩ : ByteArray).size ≤ 1900000 := by show p.toArray.size ≤ _; rw [List.size_toArray]; have := Hsz.out; omega
        have Hcl := Lib.hid (fun W => caLine_any ⟨p.toArray⟩ W psz)
        rw [show (⟨p.toArray⟩ : ByteArray).data.toList = p from rfl] at Hcl
        unfold bsv at f0
        generalize (⟨p.toArray⟩ : ByteArray) = q at f0 Hcl psz
        go_wp2_with fail
        refine (Hcl.out _).mono ?_; rintro e w2 ⟨hcl, hb2⟩
        clear f0 hlo
        have Hb2 := Lib.hid (bthen Hbr.out hb2); have Hb12 := Lib.hid (bthen hb hb2); have Hown2 := Lib.hid (own_below Hown.out hb2); clear hb2
        rcases hcl with ⟨x, hx, rfl⟩ | ⟨hno, rfl⟩
        · have Hnew := Lib.hid (Hne.out x hx)
          clear hx Hne Hba
          obtain ⟨a, b, lo, hi9, to9⟩ := x
          have HB3 := Lib.hid (Blk.new w2 29 #[.int .i64 a, .int .i64 b, .int .i64 lo, .int .i64 hi9, .int .i64 to9])
          go_wp2_with (at_builtin; refine wpList_append_own _ rfl _ _ 23 rfl w1.heap.size 29 i0 (.agg #[.int .i64 0, .int .i64 0, .int .i64 0, .int .i64 0, .int .i64 0]) 5 40 Tryz.underlying23 hi hz0 hz1 hz2 rfl (by decide) _ _ _ rfl ((Hown2.out.alloc _).alloc _) ⟨w2.heap.size + 1, 0, none⟩ 1 1 (enS.flat [En.mk a b lo hi9 to9]) rfl rfl ?c1 ?c2 ?c3 ?c4 ?c5 ?_)
          case c1 =>
            intro j u hj
            rw [en5] at hj
            match j, hj with
            | 0, hj => simp at hj; subst hj; exact (Blk.new1 w2 _ _ _).cell 0
            | 1, hj => simp at hj; subst hj; exact (Blk.new1 w2 _ _ _).cell 1
            | 2, hj => simp at hj; subst hj; exact (Blk.new1 w2 _ _ _).cell 2
            | 3, hj => simp at hj; subst hj; exact (Blk.new1 w2 _ _ _).cell 3
            | 4, hj => simp at hj; subst hj; exact (Blk.new1 w2 _ _ _).cell 4
          case c2 => intro u hu; rw [en5] at hu; simp at hu; rcases hu with rfl | rfl | rfl | rfl | rfl <;> rfl
          case c3 => have := Hxj.out; unfold maxLen; omega
          case c4 => have := Hxj.out; omega
          case c5 => have := Hb12.out.size; simp; omega
          intro v' w8 hown' hgrow _
          have hb18 : Below w1.heap.size w1 w8 := Below.grown (bal (bal Hb12.out _) _) hgrow (by have := Hb12.out.size; simp; omega) (fun j hj => (Hown2.out.lt j hj).1)
          have Hown' := Lib.hid (show w8.ownsRow w1.heap.size 29 5 v' (xs ++ [En.mk a b lo hi9 to9]).length (enS.flat (xs ++ [En.mk a b lo hi9 to9])) by rw [Shape.flat_append, List.length_append]; exact hown')
          clear hown' hgrow
          go_wp2
          go_roundw
          case rel => exact ⟨j + 1, xs ++ [En.mk a b lo hi9 to9], by omega, by go_num, Lib.hid (by rw [List.length_append, List.length_singleton, Hxj.out]), Hnew, hb18, Hown'⟩
          case measure => simp [intOf]; omega
        · have HN := Lib.hid (Hba.out hno)
          clear hno
          go_wp2
          go_ret2
          exact ⟨PcRet.no HN.out, bal Hb2.out _⟩
      · obtain rfl : j = n := by omega
        have Hall := Lib.hid (fun es he => Hdone.out j xs Hinv.out Hn1.out.symm es he)
        have HRd := Lib.hid (Rd.of_own (S := enS) Hown.out rfl)
        have hx12 : xs.length ≤ 12 := by have := Hxj.out; omega
        clear Hbad Hnext Hdone Hsp Hmany Hcell
        go_wp2_with fail
        refine (caGood_any _ xs _ HRd.out).mono ?_; rintro e w2 ⟨rfl, hb2⟩
        have HRd2 := Lib.hid (HRd.out.on hb2); have Hb2 := Lib.hid (bthen Hbr.out hb2); have Hown2 := Lib.hid (own_below Hown.out hb2); clear hb2
        cases hcb : catB xs
        · have HN : Hid (NoPc s) := Lib.hid (fun es he => by have h1 := Hall.out es he; have h2 := he.1; rw [← h1, hcb] at h2; cases h2)
          clear hcb
          go_wp2
          go_ret2
          exact ⟨PcRet.no HN.out, Hb2.out⟩
        · have Hcb := Lib.hid hcb; clear hcb
          go_wp2_with fail
          refine (caText_any _ xs _ HRd2.out hx12 (catB_all9 Hcb.out).2).mono ?_; rintro e w3 ⟨rfl, hb3⟩
          have Hb3 := Lib.hid (bthen Hb2.out hb3); have Hown3 := Lib.hid (own_below Hown2.out hb3); clear hb3
          by_cases htx : catT xs xs.length = s
          · have hq : ((catT xs xs.length).toList == s.toList) = true := by rw [htx]; simp
            have HY : Hid (PcIs s xs) := Lib.hid ⟨Hcb.out, htx⟩
            clear htx
            go_wp2
            go_ret2
            exact ⟨PcRet.yes HY.out (own_mono Hown3.out Hb1.out.size), Hb3.out⟩
          · have hq : ((catT xs xs.length).toList == s.toList) = false := beq_eq_false_iff_ne.2 (fun e => htx (bytes_inj e))
            have HN : Hid (NoPc s) := Lib.hid (fun es he => by have h1 := Hall.out es he; exact htx (by rw [h1]; exact he.2))
            clear htx
            go_wp2
            go_ret2
            exact ⟨PcRet.no HN.out, Hb3.out⟩
end
section
open Go Go.RowKit

/-! ### What a call that draws leaves as it was: all blocks but the cursor's -/
structure Dg (g : Nat) (w w' : World) : Prop where
  os : w'.os = w.os
  tape : w'.tape = w.tape
  output : w'.output = w.output
  size : w.heap.size ≤ w'.heap.size
  block : ∀ i, i < w.heap.size → i ≠ g → w'.heap[i]? = w.heap[i]?
section
variable {g : Nat} {w w' w1 w2 x y : World}
theorem Dg.refl (g : Nat) (w : World) : Dg g w w := ⟨rfl, rfl, rfl, Nat.le_refl _, fun _ _ _ => rfl⟩
theorem Dg.trans (h : Dg g w w1) (k : Dg g w1 w2) : Dg g w w2 :=
  ⟨k.os.trans h.os, k.tape.trans h.tape, k.output.trans h.output, Nat.le_trans h.size k.size, fun i h1 h2 => (k.block i (Nat.lt_of_lt_of_le h1 h.size) h2).trans (h.block i h1 h2)⟩
theorem Dg.of_below (h : Below w.heap.size w w') : Dg g w w' := ⟨h.os, h.tape, h.output, h.size, fun i h1 _ => h.block i h1⟩
theorem Dg.on (h : Dg g w x) (k : Below x.heap.size x y) : Dg g w y := h.trans (Dg.of_below k)
theorem Dg.alloc (h : Dg g w x) (o : Obj) : Dg g w (x.alloc o) := h.on (bal (Below.refl _ _) o)
theorem Dg.drew (h : Dg g w x) : Dg g w x.drew := ⟨h.os, h.tape, h.output, h.size, h.block⟩
theorem Dg.st (h : Dg g w x) {p : Addr} (hp : w.heap.size ≤ p.block) (u : Value) : Dg g w (x.setCell p u) :=
  ⟨h.os, h.tape, h.output, by rw [World.size_setCell]; exact h.size, fun i h1 h2 => (Below.heap_setCell x p u i (by omega)).trans (h.block i h1 h2)⟩
theorem Dg.stg (h : Dg g w x) (j : Nat) (u : Value) : Dg g w (x.setCell ⟨g, j, none⟩ u) :=
  ⟨h.os, h.tape, h.output, by rw [World.size_setCell]; exact h.size, fun i h1 h2 => (Below.heap_setCell x ⟨g, j, none⟩ u i h2).trans (h.block i h1 h2)⟩
theorem Dg.grown {row : Option Nat} (h : Dg g w x) (k : x.grownBy y row) (hr : ∀ r, row = some r → w.heap.size ≤ r) : Dg g w y :=
  ⟨k.os.trans h.os, k.tape.trans h.tape, k.output.trans h.output, Nat.le_trans h.size k.size, fun i h1 h2 => (k.block i (Nat.lt_of_lt_of_le h1 h.size) (fun e => by have := hr i e.symm; omega)).trans (h.block i h1 h2)⟩
theorem Dg.below (h : Dg g w w') {B : Nat} (hB : B ≤ g) (hw : B ≤ w.heap.size) : Below B w w' := ⟨h.os, h.tape, h.output, h.size, fun i hi => h.block i (by omega) (by omega)⟩
theorem Dg.to_grown (h : Dg g w w') : w.grownBy w' (some g) := ⟨h.os, h.tape, h.output, h.size, fun i h1 h2 => h.block i h1 (fun e => h2 (by rw [e]))⟩
theorem Blk.dg {b : Nat} {t : TypeId} {cs : Array Value} (h : Blk w b t cs) (hd : Dg g w w') (hne : b ≠ g) : Blk w' b t cs := (hd.block b h.lt hne).trans h
theorem own_dg {base : Nat} {e : TypeId} {size n : Nat} {v : Value} {xs : List Value} (h : w.ownsRow base e size v n xs) (hd : Dg g w w') (hb : g < base) : w'.ownsRow base e size v n xs := by
  refine World.ownsRow.kept h hd.to_grown ?_
  cases hv : v.ownBlock with
  | none => exact .inl rfl
  | some k => exact .inr (fun e => by injection e with e; have := (h.lt k hv).1; omega)
theorem dcell {p : Addr} (hd : Dg g w w') (h1 : p.block < w.heap.size) (h2 : p.block ≠ g) : w'.cell? p = w.cell? p := by
  unfold World.cell?
  rw [hd.block _ h1 h2]
end

theorem Blk.set12 {w : World} {g : Nat} {t : TypeId} {a b c b' c' : Value} (h : Blk w g t #[a, b, c]) : Blk ((w.setCell ⟨g, 1, none⟩ b').setCell ⟨g, 2, none⟩ c') g t #[a, b', c'] := by
  have q := ((h.set 1 b').set 2 c')
  simp only [List.setIfInBounds_toArray, List.set_cons_zero, List.set_cons_succ] at q
  exact q
/-! ### The cursor -/
/-- A slice of bytes that lies below g. -/
def BytesAt (w : World) (g : Nat) (A : Option Addr) (n : Nat) : Prop :=
  n ≤ maxLen ∧ (0 < n → ∃ gc off, A = some ⟨gc, off, none⟩ ∧ gc < g ∧ gc < w.heap.size ∧ ∀ j, j < n → ∃ b : Nat, b ≤ 255 ∧ w.cell? ⟨gc, off + j, none⟩ = some (.int .u8 (b : Int)))
structure Cur (w : World) (g k : Nat) : Prop where
  ex : ∃ (A : Option Addr) (n c q : Nat) (s : Int), Blk w g 106 #[.slice A n c, .int .i64 (q : Int), .int .u64 s] ∧ q ≤ k ∧ BytesAt w g A n
section
variable {g k : Nat} {w w' x y : World}
theorem BytesAt.dg {A : Option Addr} {n : Nat} (h : BytesAt w g A n) (hd : Dg g w w') : BytesAt w' g A n :=
  ⟨h.1, fun h0 => by
    obtain ⟨gc, off, hA, h1, h2, hc⟩ := h.2 h0
    refine ⟨gc, off, hA, h1, Nat.lt_of_lt_of_le h2 hd.size, fun j hj => ?_⟩
    obtain ⟨b, hb, hcell⟩ := hc j hj
    exact ⟨b, hb, (dcell (p := ⟨gc, off + j, none⟩) hd h2 (Nat.ne_of_lt h1)).trans hcell⟩⟩
theorem Cur.lt (h : Cur w g k) : g < w.heap.size := let ⟨_, _, _, _, _, hB, _⟩ := h.ex; hB.lt
theorem Cur.mono (h : Cur w g k) {j : Nat} (hj : k ≤ j) : Cur w g j := let ⟨A, n, c, q, s, hB, hq, hb⟩ := h.ex; ⟨A, n, c, q, s, hB, Nat.le_trans hq hj, hb⟩
theorem Cur.on (h : Cur w g k) (hb : Below w.heap.size w w') : Cur w' g k := let ⟨A, n, c, q, s, hB, hq, hr⟩ := h.ex; ⟨A, n, c, q, s, hB.on hb, hq, hr.dg (Dg.of_below hb)⟩
theorem Cur.alloc (h : Cur w g k) (o : Obj) : Cur (w.alloc o) g k := h.on (bal (Below.refl _ _) o)
theorem Cur.st (h : Cur w g k) {p : Addr} (hp : g < p.block) (u : Value) : Cur (w.setCell p u) g k := by
  obtain ⟨A, n, c, q, s, hB, hq, hr⟩ := h.ex
  refine ⟨A, n, c, q, s, hB.far (by omega) u, hq, hr.1, fun h0 => ?_⟩
  obtain ⟨gc, off, hA, h1, h2, hc⟩ := hr.2 h0
  refine ⟨gc, off, hA, h1, by rw [World.size_setCell]; exact h2, fun j hj => ?_⟩
  obtain ⟨b, hb, hcell⟩ := hc j hj
  exact ⟨b, hb, (World.cell?_setCell_other _ _ _ _ (by intro e; have h9 := congrArg Addr.block e; simp only at h9; omega)).trans hcell⟩
theorem Cur.grown {row : Option Nat} (h : Cur x g k) (hg : x.grownBy y row) (hr : ∀ r, row = some r → g < r) : Cur y g k := by
  obtain ⟨A, n, c, q, s, hB, hq, hr2⟩ := h.ex
  refine ⟨A, n, c, q, s, (hg.block g hB.lt (fun e => by have := hr g e.symm; omega)).trans hB, hq, hr2.1, fun h0 => ?_⟩
  obtain ⟨gc, off, hA, h1, h2, hc⟩ := hr2.2 h0
  refine ⟨gc, off, hA, h1, Nat.lt_of_lt_of_le h2 hg.size, fun j hj => ?_⟩
  obtain ⟨b, hb, hcell⟩ := hc j hj
  refine ⟨b, hb, ?_⟩
  rw [← hcell]
  unfold World.cell?
  rw [hg.block gc h2 (fun e => by have := hr gc e.symm; omega)]
end
theorem lowbyte (S : Int) (h0 : 0 ≤ S) (h1 : S < 18446744073709551616) : 0 ≤ wrap64 (bits .and .u64 (S / 1099511627776) 255) ∧ wrap64 (bits .and .u64 (S / 1099511627776) 255) ≤ 255 := by
  obtain ⟨a, ha⟩ : ∃ a : Nat, S / 1099511627776 = a := ⟨(S / 1099511627776).toNat, by omega⟩
  have h2 := bits_and_u64_nat a 255 (by omega) (by decide)
  rw [ha, show (255 : Int) = ((255 : Nat) : Int) from rfl, h2]
  have h3 : a &&& 255 ≤ 255 := Nat.and_le_right
  unfold wrap64
  omega
theorem wrap_bd (n : Int) : 0 ≤ IntKind.u64.wrap n ∧ IntKind.u64.wrap n < 18446744073709551616 := by
  rw [IntKind.wrap_u64]
  omega
set_option maxRecDepth 8000 in
set_option maxHeartbeats 4000000 in
theorem next_any (g k : Nat) (w : World) (hc : Cur w g k) (hk : k ≤ 1000000) :
    Calls Tryz.prog 159 #[.pointer (some ⟨g, 0, none⟩)] w fun e w' => (∃ b : Int, 0 ≤ b ∧ b ≤ 255 ∧ e = .returned (.int .i64 b)) ∧ Cur w' g (k + 1) ∧ Dg g w w' := by
  obtain ⟨A, n, c, q, s, hB, hq, hr⟩ := hc.ex
  clear hc
  have hn := hr.1
  unfold maxLen at hn
  have hqn : (q : Int) ≤ 1000000 := by omega
  have Hq := Lib.hid hq
  have HB0 := Lib.hid hB
  have Hr0 := Lib.hid hr
  have Hd0 := Lib.hid (Dg.refl g w)
  have r0 := hB.cell 0
  have r1 := hB.cell 1
  have r2 := hB.cell 2
  have rl := hB.lt
  simp at r0 r1 r2
  clear hB hr hq hk
  go_enter Tryz.func159, Tryz.ntmps159
  go_wp2
  refine wp_region_tame (by kernel_rfl) (by kernel_rfl) (fun T _ W hT => ?_)
  have hx := hT.cell
  repeat (go_big_quiet_step (fail))
  refine wpQuiet_nil ?_
  intro t
  clear hx
  have hbt := hT.below t
  generalize W t = wt1 at hbt ⊢
  clear hT r0 r1 r2 rl
  have HB1 := Lib.hid (HB0.out.on hbt)
  have Hr1 := Lib.hid (Hr0.out.dg (Dg.of_below (g := g) hbt))
  have Hd1 := Lib.hid (Hd0.out.on hbt)
  clear hbt
  have r0 := HB1.out.cell 0
  have r1 := HB1.out.cell 1
  have r2 := HB1.out.cell 2
  have rl := HB1.out.lt
  have rf := HB1.out.frozen
  simp at r0 r1 r2
  by_cases hlt : q < n
  · obtain ⟨gc, off, rfl, hgc, hgl, hcell⟩ := Hr1.out.2 (by omega)
    obtain ⟨b, hb, f0⟩ := hcell q hlt
    clear hcell
    have hb0 : (b : Int) ≤ 255 := by omega
    have hqq : (q : Int) < (n : Int) := by omega
    clear rf
    go_wp2
    refine wp_region_tame (by kernel_rfl) (by kernel_rfl) (fun T _ W hT => ?_)
    have hx := hT.cell
    repeat (go_big_quiet_step (fail))
    refine wpQuiet_nil ?_
    intro t
    clear hx
    have hbt := hT.below t
    generalize W t = wt2 at hbt ⊢
    clear hT r0 r1 r2 rl f0
    have HB2 := Lib.hid (HB1.out.on hbt)
    have Hr2 := Lib.hid (Hr1.out.dg (Dg.of_below (g := g) hbt))
    have Hd2 := Lib.hid (Hd1.out.on hbt)
    clear hbt
    have r0 := HB2.out.cell 0
    have r1 := HB2.out.cell 1
    have r2 := HB2.out.cell 2
    have rl := HB2.out.lt
    have rf := HB2.out.frozen
    simp at r0 r1 r2
    go_wp2
    have HS := Lib.hid (wrap_bd (IntKind.u64.wrap (IntKind.u64.wrap (s * 6364136223846793005) + (b : Int)) + 1442695040888963407))
    generalize IntKind.u64.wrap (IntKind.u64.wrap (IntKind.u64.wrap (s * 6364136223846793005) + (b : Int)) + 1442695040888963407) = S at HS ⊢
    have HBq := Lib.hid (show Blk (World.setCell (World.setCell wt2 ⟨g, 1, none⟩ (.int .i64 ((q : Int) + 1))) ⟨g, 2, none⟩ (.int .u64 S)) g _ _ from HB2.out.set12)
    have Hrq := Lib.hid (Hr2.out.dg (show Dg g wt2 (World.setCell (World.setCell wt2 ⟨g, 1, none⟩ (.int .i64 ((q : Int) + 1))) ⟨g, 2, none⟩ (.int .u64 S)) from ((Dg.refl g _).stg _ _).stg _ _))
    have Hdq := Lib.hid (show Dg g w (World.setCell (World.setCell wt2 ⟨g, 1, none⟩ (.int .i64 ((q : Int) + 1))) ⟨g, 2, none⟩ (.int .u64 S)) from (Hd2.out.stg _ _).stg _ _)
    generalize (World.setCell (World.setCell wt2 ⟨g, 1, none⟩ (.int .i64 ((q : Int) + 1))) ⟨g, 2, none⟩ (.int .u64 S)) = wq at HBq Hrq Hdq ⊢
    clear r0 r1 r2 rl rf
    have r0 := HBq.out.cell 0
    have r1 := HBq.out.cell 1
    have r2 := HBq.out.cell 2
    have rl := HBq.out.lt
    have rf := HBq.out.frozen
    simp at r0 r1 r2
    refine wp_region_tame (by kernel_rfl) (by kernel_rfl) (fun T _ W hT => ?_)
    have hx := hT.cell
    repeat (go_big_quiet_step (fail))
    refine wpQuiet_nil ?_
    intro t
    clear hx
    have hbt := hT.below t
    generalize W t = wt9 at hbt ⊢
    clear hT r0 r1 r2 rl
    have HB9 := Lib.hid (HBq.out.on hbt)
    have Hr9 := Lib.hid (Hrq.out.dg (Dg.of_below (g := g) hbt))
    have Hd9 := Lib.hid (Hdq.out.on hbt)
    clear hbt
    have r0 := HB9.out.cell 0
    have r1 := HB9.out.cell 1
    have r2 := HB9.out.cell 2
    have rl := HB9.out.lt
    have rf := HB9.out.frozen
    simp at r0 r1 r2
    have hqq9 : (q : Int) + 1 ≤ (n : Int) := by omega
    go_wp2
    go_ret
    exact ⟨⟨_, by omega, by omega, rfl⟩, ⟨_, n, c, q + 1, S, by have h9 := HB9.out; rw [show ((q + 1 : Nat) : Int) = (q : Int) + 1 by omega]; exact h9, by have := Hq.out; omega, Hr9.out⟩, Hd9.out⟩
  · go_wp2
    have HS := Lib.hid (wrap_bd (IntKind.u64.wrap (IntKind.u64.wrap (s * 6364136223846793005)) + 1442695040888963407))
    generalize IntKind.u64.wrap (IntKind.u64.wrap (IntKind.u64.wrap (s * 6364136223846793005)) + 1442695040888963407) = S at HS ⊢
    have HBq := Lib.hid (show Blk (World.setCell (World.setCell wt1 ⟨g, 1, none⟩ (.int .i64 ((q : Int) + 1))) ⟨g, 2, none⟩ (.int .u64 S)) g _ _ from HB1.out.set12)
    have Hrq := Lib.hid (Hr1.out.dg (show Dg g wt1 (World.setCell (World.setCell wt1 ⟨g, 1, none⟩ (.int .i64 ((q : Int) + 1))) ⟨g, 2, none⟩ (.int .u64 S)) from ((Dg.refl g _).stg _ _).stg _ _))
    have Hdq := Lib.hid (show Dg g w (World.setCell (World.setCell wt1 ⟨g, 1, none⟩ (.int .i64 ((q : Int) + 1))) ⟨g, 2, none⟩ (.int .u64 S)) from (Hd1.out.stg _ _).stg _ _)
    generalize (World.setCell (World.setCell wt1 ⟨g, 1, none⟩ (.int .i64 ((q : Int) + 1))) ⟨g, 2, none⟩ (.int .u64 S)) = wq at HBq Hrq Hdq ⊢
    clear r0 r1 r2 rl rf
    have r0 := HBq.out.cell 0
    have r1 := HBq.out.cell 1
    have r2 := HBq.out.cell 2
    have rl := HBq.out.lt
    have rf := HBq.out.frozen
    simp at r0 r1 r2
    refine wp_region_tame (by kernel_rfl) (by kernel_rfl) (fun T _ W hT => ?_)
    have hx := hT.cell
    repeat (go_big_quiet_step (fail))
    refine wpQuiet_nil ?_
    intro t
    clear hx
    have hbt := hT.below t
    generalize W t = wt9 at hbt ⊢
    clear hT r0 r1 r2 rl
    have HB9 := Lib.hid (HBq.out.on hbt)
    have Hr9 := Lib.hid (Hrq.out.dg (Dg.of_below (g := g) hbt))
    have Hd9 := Lib.hid (Hdq.out.on hbt)
    clear hbt
    have r0 := HB9.out.cell 0
    have r1 := HB9.out.cell 1
    have r2 := HB9.out.cell 2
    have rl := HB9.out.lt
    have rf := HB9.out.frozen
    simp at r0 r1 r2
    have hqq9 : ¬ (q : Int) + 1 ≤ (n : Int) := by omega
    have Hlb := Lib.hid (lowbyte S HS.out.1 HS.out.2)
    go_wp2
    go_ret
    exact ⟨⟨_, Hlb.out.1, Hlb.out.2, rfl⟩, ⟨_, n, c, q + 1, S, by have h9 := HB9.out; rw [show ((q + 1 : Nat) : Int) = (q : Int) + 1 by omega]; exact h9, by have := Hq.out; omega, Hr9.out⟩, Hd9.out⟩
theorem emod_bd {x n : Int} (hn : 1 < n) : 0 ≤ x % n ∧ x % n ≤ n - 1 := by
  have h1 := Int.emod_nonneg x (show n ≠ 0 by omega)
  have h2 := Int.emod_lt_of_pos x (show 0 < n by omega)
  omega
set_option maxRecDepth 8000 in
set_option maxHeartbeats 4000000 in
theorem pick_any (g k : Nat) (n : Int) (w : World) (hc : Cur w g k) (hk : k ≤ 900000) :
    Calls Tryz.prog 82 #[.pointer (some ⟨g, 0, none⟩), .int .i64 n] w fun e w' => (∃ x : Int, 0 ≤ x ∧ x ≤ max (n - 1) 0 ∧ e = .returned (.int .i64 x)) ∧ Cur w' g (k + 2) ∧ Dg g w w' := by
  have Hc := Lib.hid hc; clear hc
  have Hk := Lib.hid hk; clear hk
  by_cases h1 : n ≤ 1
  · go_enter Tryz.func82, Tryz.ntmps82
    go_wp2
    go_ret
    exact ⟨⟨0, by omega, by omega, rfl⟩, Hc.out.mono (by omega), Dg.refl _ _⟩
  · go_enter Tryz.func82, Tryz.ntmps82
    go_wp2_with fail
    refine (next_any g k _ Hc.out (by have := Hk.out; omega)).mono ?_; rintro e w1 ⟨⟨b, hb0, hb1, rfl⟩, hc1, hd1⟩
    have Hc1 := Lib.hid hc1; have Hd1 := Lib.hid hd1; clear hc1 hd1
    by_cases h2 : n > 200
    · go_wp2_with fail
      refine (next_any g (k + 1) _ Hc1.out (by have := Hk.out; omega)).mono ?_; rintro e w2 ⟨⟨b2, hb3, hb4, rfl⟩, hc2, hd2⟩
      have Hc2 := Lib.hid hc2; have Hd2 := Lib.hid (Hd1.out.trans hd2); clear hc2 hd2
      have hn1 : (1 : Int) < n := by omega
      have Hm := Lib.hid (emod_bd (x := b * 256 + b2) hn1)
      have hn0 : n ≠ 0 := by omega
      go_wp2
      go_ret
      exact ⟨⟨_, Hm.out.1, by have := Hm.out.2; omega, rfl⟩, Hc2.out, Hd2.out⟩
    · have hn1 : (1 : Int) < n := by omega
      have Hm := Lib.hid (emod_bd (x := b) hn1)
      have hn0 : n ≠ 0 := by omega
      go_wp2
      go_ret
      exact ⟨⟨_, Hm.out.1, by have := Hm.out.2; omega, rfl⟩, Hc1.out.mono (by omega), Hd1.out⟩
set_option maxHeartbeats 1000000 in
theorem one_any (g k : Nat) (n : Int) (w : World) (hc : Cur w g k) (hk : k ≤ 900000) :
    Calls Tryz.prog 81 #[.pointer (some ⟨g, 0, none⟩), .int .i64 n] w fun e w' => (∃ b : Bool, e = .returned (.bool b)) ∧ Cur w' g (k + 2) ∧ Dg g w w' := by
  have Hc := Lib.hid hc; clear hc
  have Hk := Lib.hid hk; clear hk
  go_enter Tryz.func81, Tryz.ntmps81
  go_wp2_with fail
  refine (pick_any g k n _ Hc.out Hk.out).mono ?_; rintro e w1 ⟨⟨x, hx0, hx1, rfl⟩, hc1, hd1⟩
  clear hx0 hx1
  go_wp2
  go_ret
  exact ⟨⟨_, rfl⟩, hc1, hd1⟩
/-- A slice of ints just made. -/
theorem rdI (w : World) (t : TypeId) (es : List Int) (hl : es.length ≤ 1000) : Rd inS (w.alloc (.cells (es.map (Value.int .i64)).toArray t)) (w.alloc (.cells (es.map (Value.int .i64)).toArray t)).heap.size (.slice (some ⟨w.heap.size, 0, none⟩) es.length es.length) es := by
  refine ⟨_, es.length, rfl, Nat.le_refl _, by unfold maxLen; omega, fun _ => ⟨w.heap.size, 0, rfl, by rw [World.size_alloc]; omega, fun k hk j hj => ?_⟩⟩
  have hj0 : j = 0 := by simp [inS] at hj; exact hj
  subst hj0
  rw [show 0 + k * inS.size + 0 = k by simp [inS], (Blk.new w t (es.map (Value.int .i64)).toArray).cell k]
  simp only [List.getElem?_toArray, List.getElem?_map, List.getElem?_eq_getElem hk, Option.map_some]
  show some (Value.int .i64 es[k]) = some (Value.int .i64 (inS.get es k))
  unfold Shape.get
  rw [List.getD_eq_getElem?_getD, List.getElem?_eq_getElem hk]; rfl
set_option maxHeartbeats 1000000 in
theorem among_any (g k : Nat) (v : Value) (es : List Int) (w : World) (hc : Cur w g k) (hv : Rd inS w w.heap.size v es) (hne : es ≠ []) (hng : ∀ A n c, v = .slice (some A) n c → A.block ≠ g) (hk : k ≤ 900000) :
    Calls Tryz.prog 108 #[.pointer (some ⟨g, 0, none⟩), v] w fun e w' => (∃ y : Int, y ∈ es ∧ e = .returned (.int .i64 y)) ∧ Cur w' g (k + 2) ∧ Dg g w w' := by
  have Hc := Lib.hid hc; clear hc
  have Hk := Lib.hid hk; clear hk
  have h0 : 0 < es.length := List.length_pos_iff.2 hne
  obtain ⟨A, c, rfl, hcc, hm, hA⟩ := hv
  unfold maxLen at hm
  obtain ⟨ga, off, rfl, hga, hcell⟩ := hA h0
  have hgg := hng _ _ _ rfl
  have hcell := in_cells hcell
  simp only at hgg
  clear hA hne hng
  go_enter Tryz.func108, Tryz.ntmps108
  go_wp2_with fail
  refine (pick_any g k (es.length : Int) _ Hc.out Hk.out).mono ?_; rintro e w1 ⟨⟨x, hx0, hx1, rfl⟩, hc1, hd1⟩
  obtain ⟨q, rfl⟩ : ∃ q : Nat, x = q := ⟨x.toNat, by omega⟩
  have hql : q < es.length := by omega
  have f0 := (dcell (p := ⟨ga, off + q, none⟩) hd1 hga hgg).trans (hcell q hql)
  have hgs := Nat.lt_of_lt_of_le hga hd1.size
  have Hmem : Hid (inS.get es q ∈ es) := Lib.hid (by unfold Shape.get; rw [List.getD_eq_getElem?_getD, List.getElem?_eq_getElem hql]; exact List.getElem_mem hql)
  generalize inS.get es q = y at f0 Hmem
  have Hc1 := Lib.hid hc1; have Hd1 := Lib.hid hd1
  have hi1 : (q : Int) < (es.length : Int) := by omega
  clear hcell hc1 hd1 hx1
  go_wp2
  go_ret
  exact ⟨⟨_, Hmem.out, rfl⟩, Hc1.out, Hd1.out⟩
end
end Go.Proofs.YtimfoodbolokdaaGreatDoor
