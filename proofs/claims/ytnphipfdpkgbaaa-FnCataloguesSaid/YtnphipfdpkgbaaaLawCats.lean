/- The law FnCatalogues: its walk. Conditions: none. Printed by gen_catlaw.py. -/
import Derived.Test.YtnphipfdpkgbaaaDrT
import Derived.Test.YtnphipfdpkgbaaaQeE
import Derived.Test.YtnphipfdpkgbaaaCtP2
import Derived.Test.YtnphipfdpkgbaaaSEntry
namespace Go.Proofs.Ytnphipfdpkgbaaa
open Go Go.RowKit

theorem qEn_same (u v : Value) (es : List En) (w : World) (hu : Rd enS w w.heap.size u es) (hv : Rd enS w w.heap.size v es) :
    Calls Try.prog 17 #[u, v] w fun r w' => r = .returned (.bool true) ∧ Below w.heap.size w w' := by
  have h := qEn_any u v es es w hu hv
  rwa [decide_eq_true rfl] at h
theorem qCu_same (u v : Value) (es : List Cu) (w : World) (hu : Rd cuS w w.heap.size u es) (hv : Rd cuS w w.heap.size v es) :
    Calls Try.prog 18 #[u, v] w fun r w' => r = .returned (.bool true) ∧ Below w.heap.size w w' := by
  have h := qCu_any u v es es w hu hv
  rwa [decide_eq_true rfl] at h
theorem neqEn_self (u : En) (W : World) : (binOp .neq 36 (.agg #[.int .i64 u.a, .int .i64 u.b, .int .i64 u.lo, .int .i64 u.hi, .int .i64 u.«to»]) (.agg #[.int .i64 u.a, .int .i64 u.b, .int .i64 u.lo, .int .i64 u.hi, .int .i64 u.«to»])).run Try.prog W = .ok (.bool false) W := by
  rw [neqEn, decide_eq_true rfl]; rfl
theorem isCatI_any (v : Value) (es : List En) (w : World) (h : Rd enS w w.heap.size v es) :
    Calls Try.prog 19 #[v] w fun e w' => e = .returned (.bool (catB es)) ∧ Below w.heap.size w w' := by
  go_enter Try.func19, Try.ntmps19
  go_wp2_with (go_at_call 58; refine (isCatalogue_any _ _ _ h).mono ?_; rintro e w' ⟨rfl, hb1⟩)
  go_ret
  exact ⟨rfl, by (repeat (with_reducible first | exact Below.refl _ _ | assumption | refine bal ?_ _ | refine bst ?_ (by simp <;> omega) _ | refine Below.drew ?_ | refine bthen ?_ (by assumption)))⟩
set_option maxRecDepth 8000 in
set_option maxHeartbeats 8000000 in
theorem fnCatalogues_walk (A : Option Addr) (n c : Nat) (B : Option Addr) (m d : Nat) (w : World) (ha : BytesAt w w.heap.size A n) (hb : BytesAt w w.heap.size B m) :
    Calls Try.prog 3 #[.slice A n c, .slice B m d] w fun e w' => e = .returned (.bool true) ∧ Below w.heap.size w w' := by
  have Ha := Lib.hid ha; have Hb := Lib.hid hb; clear ha hb
  by_cases hbig : 1048576 < wrap64 ((n : Int) + (m : Int))
  · go_enter Try.func3, Try.ntmps3
    go_wp2
    go_ret
    exact ⟨rfl, Below.refl _ _⟩
  · go_enter Try.func3, Try.ntmps3
    go_wp2_with fail
    refine (drawMerge_any A n c _ Ha.out).mono ?_; rintro e w1 ⟨⟨⟨v1, m1, v2, m2, hm1, hm2, rfl, hv1, hv2⟩⟩, hb1⟩
    clear hbig
    obtain ⟨xs, -, o1⟩ := hv1.en
    obtain ⟨bs, -, o2⟩ := hv2.en
    clear hv1 hv2 hm1 hm2
    have O1 := Lib.hid o1
    have GO1 := Lib.hid (World.ownsRow.lt o1)
    clear o1
    have O2 := Lib.hid o2
    have GO2 := Lib.hid (World.ownsRow.lt o2)
    clear o2
    have sz1 := Lib.hid (show w.heap.size + 0 ≤ w1.heap.size by have := hb1.size; (try simp only [World.size_alloc] at this); omega)
    have Hb1 := Lib.hid (bthen (Below.refl _ _) hb1)
    clear hb1
    go_wp2_with fail
    refine (implMerge_any _ xs _ bs _ (Rd.of_own O1.out rfl) (Rd.of_own O2.out rfl)).mono ?_; rintro e w2 ⟨⟨v3, z, ok, rfl, hz, o3⟩, hb2⟩
    have O3 := Lib.hid o3
    have GO3 := Lib.hid (World.ownsRow.lt o3)
    clear o3
    replace O1 := Lib.hid (own_below O1.out (hb2))
    replace O2 := Lib.hid (own_below O2.out (hb2))
    have sz2 := Lib.hid (show w1.heap.size + 0 ≤ w2.heap.size by have := hb2.size; (try simp only [World.size_alloc] at this); omega)
    have Hb2 := Lib.hid (bthen (Hb1.out) hb2)
    clear hb2
    go_wp2_with fail
    refine (specMerge_any _ xs _ bs _ (Rd.of_own O1.out rfl) (Rd.of_own O2.out rfl)).mono ?_; rintro e w3 ⟨⟨v4, z4, ok4, rfl, hz4, o4⟩, hb3⟩
    have O4 := Lib.hid o4
    have GO4 := Lib.hid (World.ownsRow.lt o4)
    clear o4
    replace O1 := Lib.hid (own_below O1.out (hb3))
    replace O2 := Lib.hid (own_below O2.out (hb3))
    replace O3 := Lib.hid (own_below O3.out (hb3))
    have sz3 := Lib.hid (show w2.heap.size + 0 ≤ w3.heap.size by have := hb3.size; (try simp only [World.size_alloc] at this); omega)
    have Hb3 := Lib.hid (bthen (Hb2.out) hb3)
    clear hb3
    obtain ⟨rfl, rfl⟩ := Prod.mk.inj (hz.symm.trans hz4)
    have Hz := Lib.hid hz; clear hz hz4
    go_wp2_with fail
    refine (implCon_any _ xs _ bs _ (Rd.of_own O1.out rfl) (Rd.of_own O2.out rfl)).mono ?_; rintro e w4 ⟨⟨v5, y, one, rfl, hy, o5⟩, hb4⟩
    have O5 := Lib.hid o5
    have GO5 := Lib.hid (World.ownsRow.lt o5)
    clear o5
    replace O1 := Lib.hid (own_below O1.out (hb4))
    replace O2 := Lib.hid (own_below O2.out (hb4))
    replace O3 := Lib.hid (own_below O3.out (hb4))
    replace O4 := Lib.hid (own_below O4.out (hb4))
    have sz4 := Lib.hid (show w3.heap.size + 0 ≤ w4.heap.size by have := hb4.size; (try simp only [World.size_alloc] at this); omega)
    have Hb4 := Lib.hid (bthen (Hb3.out) hb4)
    clear hb4
    go_wp2_with fail
    refine (specCon_any _ xs _ bs _ (Rd.of_own O1.out rfl) (Rd.of_own O2.out rfl)).mono ?_; rintro e w5 ⟨⟨v6, y6, one6, rfl, hy6, o6⟩, hb5⟩
    have O6 := Lib.hid o6
    have GO6 := Lib.hid (World.ownsRow.lt o6)
    clear o6
    replace O1 := Lib.hid (own_below O1.out (hb5))
    replace O2 := Lib.hid (own_below O2.out (hb5))
    replace O3 := Lib.hid (own_below O3.out (hb5))
    replace O4 := Lib.hid (own_below O4.out (hb5))
    replace O5 := Lib.hid (own_below O5.out (hb5))
    have sz5 := Lib.hid (show w4.heap.size + 0 ≤ w5.heap.size by have := hb5.size; (try simp only [World.size_alloc] at this); omega)
    have Hb5 := Lib.hid (bthen (Hb4.out) hb5)
    clear hb5
    obtain ⟨rfl, rfl⟩ := Prod.mk.inj (hy.symm.trans hy6)
    have Hy := Lib.hid hy; clear hy hy6
    obtain ⟨A6, c6, rfl, -, -, -⟩ := Rd.of_own (S := cuS) O6.out rfl
    go_wp2_with fail
    refine (implBetter_any _ xs _ bs _ (Rd.of_own O1.out rfl) (Rd.of_own O2.out rfl)).mono ?_; rintro e w6 ⟨⟨i, three, rfl, h3⟩, hb6⟩
    replace O1 := Lib.hid (own_below O1.out (hb6))
    replace O2 := Lib.hid (own_below O2.out (hb6))
    replace O3 := Lib.hid (own_below O3.out (hb6))
    replace O4 := Lib.hid (own_below O4.out (hb6))
    replace O5 := Lib.hid (own_below O5.out (hb6))
    replace O6 := Lib.hid (own_below O6.out (hb6))
    have sz6 := Lib.hid (show w5.heap.size + 0 ≤ w6.heap.size by have := hb6.size; (try simp only [World.size_alloc] at this); omega)
    have Hb6 := Lib.hid (bthen (Hb5.out) hb6)
    clear hb6
    go_wp2_with fail
    refine (specBetter_any _ xs _ bs _ (Rd.of_own O1.out rfl) (Rd.of_own O2.out rfl)).mono ?_; rintro e w7 ⟨⟨i9, four, rfl, h4⟩, hb7⟩
    replace O1 := Lib.hid (own_below O1.out (hb7))
    replace O2 := Lib.hid (own_below O2.out (hb7))
    replace O3 := Lib.hid (own_below O3.out (hb7))
    replace O4 := Lib.hid (own_below O4.out (hb7))
    replace O5 := Lib.hid (own_below O5.out (hb7))
    replace O6 := Lib.hid (own_below O6.out (hb7))
    have sz7 := Lib.hid (show w6.heap.size + 0 ≤ w7.heap.size by have := hb7.size; (try simp only [World.size_alloc] at this); omega)
    have Hb7 := Lib.hid (bthen (Hb6.out) hb7)
    clear hb7
    obtain ⟨rfl, rfl⟩ := Prod.mk.inj (h3.symm.trans h4)
    obtain rfl := con_bet Hy.out h3
    clear h3 h4
    go_wp2_with fail
    refine (drawTight_any B m d _ (Hb.out.on (Hb7.out))).mono ?_; rintro e w8 ⟨⟨vl, ml, e0, e1, e2, e3, e4, hml, rfl, hvl⟩, hb8⟩
    obtain ⟨ls, -, ol⟩ := hvl.en
    clear hvl hml
    have OL := Lib.hid ol
    have GOL := Lib.hid (World.ownsRow.lt ol)
    clear ol
    replace O1 := Lib.hid (own_below O1.out (hb8))
    replace O2 := Lib.hid (own_below O2.out (hb8))
    replace O3 := Lib.hid (own_below O3.out (hb8))
    replace O4 := Lib.hid (own_below O4.out (hb8))
    replace O5 := Lib.hid (own_below O5.out (hb8))
    replace O6 := Lib.hid (own_below O6.out (hb8))
    have sz8 := Lib.hid (show w7.heap.size + 0 ≤ w8.heap.size by have := hb8.size; (try simp only [World.size_alloc] at this); omega)
    have Hb8 := Lib.hid (bthen (Hb7.out) hb8)
    clear hb8
    go_wp2_with fail
    refine (implTight_ints _ ls e0 e1 e2 e3 e4 _ ((Rd.of_own OL.out rfl).on (bal (Below.refl _ _) _))).mono ?_; rintro e w9 ⟨⟨v7, t, five, rfl, ht, o7⟩, hb9⟩
    have O7 := Lib.hid o7
    have GO7 := Lib.hid (World.ownsRow.lt o7)
    clear o7
    replace O1 := Lib.hid (own_below O1.out (bthen (bal (Below.refl _ _) _) hb9))
    replace O2 := Lib.hid (own_below O2.out (bthen (bal (Below.refl _ _) _) hb9))
    replace O3 := Lib.hid (own_below O3.out (bthen (bal (Below.refl _ _) _) hb9))
    replace O4 := Lib.hid (own_below O4.out (bthen (bal (Below.refl _ _) _) hb9))
    replace O5 := Lib.hid (own_below O5.out (bthen (bal (Below.refl _ _) _) hb9))
    replace O6 := Lib.hid (own_below O6.out (bthen (bal (Below.refl _ _) _) hb9))
    replace OL := Lib.hid (own_below OL.out (bthen (bal (Below.refl _ _) _) hb9))
    have eb := Lib.hid ((Blk.new w8 36 #[.int .i64 e0, .int .i64 e1, .int .i64 e2, .int .i64 e3, .int .i64 e4]).on hb9)
    have sz9 := Lib.hid (show w8.heap.size + 1 ≤ w9.heap.size by have := hb9.size; (try simp only [World.size_alloc] at this); omega)
    have Hb9 := Lib.hid (bthen (bal (Hb8.out) _) hb9)
    clear hb9
    have qeb_0 : w9.cell? ⟨w8.heap.size, 0, none⟩ = some (.int .i64 e0) := eb.out.cell 0
    have qeb_1 : w9.cell? ⟨w8.heap.size, 1, none⟩ = some (.int .i64 e1) := eb.out.cell 1
    have qeb_2 : w9.cell? ⟨w8.heap.size, 2, none⟩ = some (.int .i64 e2) := eb.out.cell 2
    have qeb_3 : w9.cell? ⟨w8.heap.size, 3, none⟩ = some (.int .i64 e3) := eb.out.cell 3
    have qeb_4 : w9.cell? ⟨w8.heap.size, 4, none⟩ = some (.int .i64 e4) := eb.out.cell 4
    have qeb_l := eb.out.lt
    go_wp2_with fail
    clear qeb_0 qeb_1 qeb_2 qeb_3 qeb_4 qeb_l
    refine (specTight_ints _ ls e0 e1 e2 e3 e4 _ (Rd.of_own OL.out rfl)).mono ?_; rintro e w10 ⟨⟨v8, t8, five8, rfl, ht8, o8⟩, hb10⟩
    have O8 := Lib.hid o8
    have GO8 := Lib.hid (World.ownsRow.lt o8)
    clear o8
    replace O1 := Lib.hid (own_below O1.out (hb10))
    replace O2 := Lib.hid (own_below O2.out (hb10))
    replace O3 := Lib.hid (own_below O3.out (hb10))
    replace O4 := Lib.hid (own_below O4.out (hb10))
    replace O5 := Lib.hid (own_below O5.out (hb10))
    replace O6 := Lib.hid (own_below O6.out (hb10))
    replace OL := Lib.hid (own_below OL.out (hb10))
    replace eb := Lib.hid (eb.out.on (hb10))
    replace O7 := Lib.hid (own_below O7.out (hb10))
    have sz10 := Lib.hid (show w9.heap.size + 0 ≤ w10.heap.size by have := hb10.size; (try simp only [World.size_alloc] at this); omega)
    have Hb10 := Lib.hid (bthen (Hb9.out) hb10)
    clear hb10
    obtain ⟨rfl, rfl⟩ := Prod.mk.inj (ht.symm.trans ht8)
    have Ht := Lib.hid ht; clear ht ht8
    go_wp2_with fail
    refine (drawBetter_any B m d _ (Hb.out.on (Hb10.out))).mono ?_; rintro e w11 ⟨⟨⟨vx, mx, vy, my, hmx, hmy, rfl, hvx, hvy⟩⟩, hb11⟩
    obtain ⟨ps, -, ox⟩ := hvx.en
    obtain ⟨qs, -, oy⟩ := hvy.en
    clear hvx hvy hmx hmy
    have OX := Lib.hid ox
    have GOX := Lib.hid (World.ownsRow.lt ox)
    clear ox
    have OY := Lib.hid oy
    have GOY := Lib.hid (World.ownsRow.lt oy)
    clear oy
    replace O1 := Lib.hid (own_below O1.out (hb11))
    replace O2 := Lib.hid (own_below O2.out (hb11))
    replace O3 := Lib.hid (own_below O3.out (hb11))
    replace O4 := Lib.hid (own_below O4.out (hb11))
    replace O5 := Lib.hid (own_below O5.out (hb11))
    replace O6 := Lib.hid (own_below O6.out (hb11))
    replace OL := Lib.hid (own_below OL.out (hb11))
    replace eb := Lib.hid (eb.out.on (hb11))
    replace O7 := Lib.hid (own_below O7.out (hb11))
    replace O8 := Lib.hid (own_below O8.out (hb11))
    have sz11 := Lib.hid (show w10.heap.size + 0 ≤ w11.heap.size by have := hb11.size; (try simp only [World.size_alloc] at this); omega)
    have Hb11 := Lib.hid (bthen (Hb10.out) hb11)
    clear hb11
    go_wp2_with fail
    refine (implBetter_any _ ps _ qs _ (Rd.of_own OX.out rfl) (Rd.of_own OY.out rfl)).mono ?_; rintro e w12 ⟨⟨k, seven, rfl, h7⟩, hb12⟩
    replace O1 := Lib.hid (own_below O1.out (hb12))
    replace O2 := Lib.hid (own_below O2.out (hb12))
    replace O3 := Lib.hid (own_below O3.out (hb12))
    replace O4 := Lib.hid (own_below O4.out (hb12))
    replace O5 := Lib.hid (own_below O5.out (hb12))
    replace O6 := Lib.hid (own_below O6.out (hb12))
    replace OL := Lib.hid (own_below OL.out (hb12))
    replace eb := Lib.hid (eb.out.on (hb12))
    replace O7 := Lib.hid (own_below O7.out (hb12))
    replace O8 := Lib.hid (own_below O8.out (hb12))
    replace OX := Lib.hid (own_below OX.out (hb12))
    replace OY := Lib.hid (own_below OY.out (hb12))
    have sz12 := Lib.hid (show w11.heap.size + 0 ≤ w12.heap.size by have := hb12.size; (try simp only [World.size_alloc] at this); omega)
    have Hb12 := Lib.hid (bthen (Hb11.out) hb12)
    clear hb12
    go_wp2_with fail
    refine (specBetter_any _ ps _ qs _ (Rd.of_own OX.out rfl) (Rd.of_own OY.out rfl)).mono ?_; rintro e w13 ⟨⟨k9, eight, rfl, h8⟩, hb13⟩
    replace O1 := Lib.hid (own_below O1.out (hb13))
    replace O2 := Lib.hid (own_below O2.out (hb13))
    replace O3 := Lib.hid (own_below O3.out (hb13))
    replace O4 := Lib.hid (own_below O4.out (hb13))
    replace O5 := Lib.hid (own_below O5.out (hb13))
    replace O6 := Lib.hid (own_below O6.out (hb13))
    replace OL := Lib.hid (own_below OL.out (hb13))
    replace eb := Lib.hid (eb.out.on (hb13))
    replace O7 := Lib.hid (own_below O7.out (hb13))
    replace O8 := Lib.hid (own_below O8.out (hb13))
    replace OX := Lib.hid (own_below OX.out (hb13))
    replace OY := Lib.hid (own_below OY.out (hb13))
    have sz13 := Lib.hid (show w12.heap.size + 0 ≤ w13.heap.size by have := hb13.size; (try simp only [World.size_alloc] at this); omega)
    have Hb13 := Lib.hid (bthen (Hb12.out) hb13)
    clear hb13
    obtain ⟨rfl, rfl⟩ := Prod.mk.inj (h7.symm.trans h8)
    clear h7 h8
    clear OX
    clear OY
    have hoo : ok = true → three = true ∧ y = [] := fun e => merge_con (by rw [← e]; exact Hz.out) Hy.out
    cases three
    · obtain rfl : ok = false := by cases ok; rfl; exact absurd (hoo rfl).1 (by simp)
      clear hoo
      go_wp2_with fail
      refine (qEn_same _ _ z _ (Rd.of_own O3.out rfl) (Rd.of_own O4.out rfl)).mono ?_; rintro e w14 ⟨rfl, hb14⟩
      replace O1 := Lib.hid (own_below O1.out (hb14))
      replace O2 := Lib.hid (own_below O2.out (hb14))
      replace O3 := Lib.hid (own_below O3.out (hb14))
      replace O4 := Lib.hid (own_below O4.out (hb14))
      replace O5 := Lib.hid (own_below O5.out (hb14))
      replace O6 := Lib.hid (own_below O6.out (hb14))
      replace OL := Lib.hid (own_below OL.out (hb14))
      replace eb := Lib.hid (eb.out.on (hb14))
      replace O7 := Lib.hid (own_below O7.out (hb14))
      replace O8 := Lib.hid (own_below O8.out (hb14))
      have sz14 := Lib.hid (show w13.heap.size + 0 ≤ w14.heap.size by have := hb14.size; (try simp only [World.size_alloc] at this); omega)
      have Hb14 := Lib.hid (bthen (Hb13.out) hb14)
      clear hb14
      go_wp2_with fail
      refine (qCu_same _ _ y _ (Rd.of_own O5.out rfl) (Rd.of_own O6.out rfl)).mono ?_; rintro e w15 ⟨rfl, hb15⟩
      replace O1 := Lib.hid (own_below O1.out (hb15))
      replace O2 := Lib.hid (own_below O2.out (hb15))
      replace O3 := Lib.hid (own_below O3.out (hb15))
      replace O4 := Lib.hid (own_below O4.out (hb15))
      replace O5 := Lib.hid (own_below O5.out (hb15))
      replace O6 := Lib.hid (own_below O6.out (hb15))
      replace OL := Lib.hid (own_below OL.out (hb15))
      replace eb := Lib.hid (eb.out.on (hb15))
      replace O7 := Lib.hid (own_below O7.out (hb15))
      replace O8 := Lib.hid (own_below O8.out (hb15))
      have sz15 := Lib.hid (show w14.heap.size + 0 ≤ w15.heap.size by have := hb15.size; (try simp only [World.size_alloc] at this); omega)
      have Hb15 := Lib.hid (bthen (Hb14.out) hb15)
      clear hb15
      go_wp2_with fail
      refine (qEn_same _ _ t _ (Rd.of_own O7.out rfl) (Rd.of_own O8.out rfl)).mono ?_; rintro e w16 ⟨rfl, hb16⟩
      replace O1 := Lib.hid (own_below O1.out (hb16))
      replace O2 := Lib.hid (own_below O2.out (hb16))
      replace O3 := Lib.hid (own_below O3.out (hb16))
      replace O4 := Lib.hid (own_below O4.out (hb16))
      replace O5 := Lib.hid (own_below O5.out (hb16))
      replace O6 := Lib.hid (own_below O6.out (hb16))
      replace OL := Lib.hid (own_below OL.out (hb16))
      replace eb := Lib.hid (eb.out.on (hb16))
      replace O7 := Lib.hid (own_below O7.out (hb16))
      replace O8 := Lib.hid (own_below O8.out (hb16))
      have sz16 := Lib.hid (show w15.heap.size + 0 ≤ w16.heap.size by have := hb16.size; (try simp only [World.size_alloc] at this); omega)
      have Hb16 := Lib.hid (bthen (Hb15.out) hb16)
      clear hb16
      cases five
      · go_wp2
        go_ret
        exact ⟨rfl, Hb16.out⟩
      · go_wp2_with fail
        refine (implBetter_any _ t _ ls _ (Rd.of_own O7.out rfl) (Rd.of_own OL.out rfl)).mono ?_; rintro e w17 ⟨⟨ow, was, rfl, hs⟩, hb17⟩
        replace O1 := Lib.hid (own_below O1.out (hb17))
        replace O2 := Lib.hid (own_below O2.out (hb17))
        replace O3 := Lib.hid (own_below O3.out (hb17))
        replace O4 := Lib.hid (own_below O4.out (hb17))
        replace O5 := Lib.hid (own_below O5.out (hb17))
        replace O6 := Lib.hid (own_below O6.out (hb17))
        replace OL := Lib.hid (own_below OL.out (hb17))
        replace eb := Lib.hid (eb.out.on (hb17))
        replace O7 := Lib.hid (own_below O7.out (hb17))
        replace O8 := Lib.hid (own_below O8.out (hb17))
        have sz17 := Lib.hid (show w16.heap.size + 0 ≤ w17.heap.size by have := hb17.size; (try simp only [World.size_alloc] at this); omega)
        have Hb17 := Lib.hid (bthen (Hb16.out) hb17)
        clear hb17
        obtain ⟨rfl, rfl⟩ := Prod.mk.inj ((tight_law Ht.out).1.symm.trans hs)
        clear hs
        obtain ⟨u, hu, hlo, hhi⟩ := (tight_law Ht.out).2
        have Hu := Lib.hid hu; have Hlo := Lib.hid hlo; have Hhi := Lib.hid hhi; clear hu hlo hhi
        have qeb_0 : w17.cell? ⟨w8.heap.size, 0, none⟩ = some (.int .i64 e0) := eb.out.cell 0
        have qeb_1 : w17.cell? ⟨w8.heap.size, 1, none⟩ = some (.int .i64 e1) := eb.out.cell 1
        have qeb_2 : w17.cell? ⟨w8.heap.size, 2, none⟩ = some (.int .i64 e2) := eb.out.cell 2
        have qeb_3 : w17.cell? ⟨w8.heap.size, 3, none⟩ = some (.int .i64 e3) := eb.out.cell 3
        have qeb_4 : w17.cell? ⟨w8.heap.size, 4, none⟩ = some (.int .i64 e4) := eb.out.cell 4
        have qeb_l := eb.out.lt
        go_wp2_with fail
        clear qeb_0 qeb_1 qeb_2 qeb_3 qeb_4 qeb_l
        refine (implFind_any _ t e0 e1 _ (Rd.of_own O7.out rfl)).mono ?_; rintro e w18 ⟨⟨u1, b1, rfl, hf⟩, hb18⟩
        replace O1 := Lib.hid (own_below O1.out (hb18))
        replace O2 := Lib.hid (own_below O2.out (hb18))
        replace O3 := Lib.hid (own_below O3.out (hb18))
        replace O4 := Lib.hid (own_below O4.out (hb18))
        replace O5 := Lib.hid (own_below O5.out (hb18))
        replace O6 := Lib.hid (own_below O6.out (hb18))
        replace OL := Lib.hid (own_below OL.out (hb18))
        replace eb := Lib.hid (eb.out.on (hb18))
        replace O7 := Lib.hid (own_below O7.out (hb18))
        replace O8 := Lib.hid (own_below O8.out (hb18))
        have sz18 := Lib.hid (show w17.heap.size + 0 ≤ w18.heap.size by have := hb18.size; (try simp only [World.size_alloc] at this); omega)
        have Hb18 := Lib.hid (bthen (Hb17.out) hb18)
        clear hb18
        obtain ⟨rfl, rfl⟩ := Prod.mk.inj (Hu.out.symm.trans hf)
        clear hf
        have qeb_0 : w18.cell? ⟨w8.heap.size, 0, none⟩ = some (.int .i64 e0) := eb.out.cell 0
        have qeb_1 : w18.cell? ⟨w8.heap.size, 1, none⟩ = some (.int .i64 e1) := eb.out.cell 1
        have qeb_2 : w18.cell? ⟨w8.heap.size, 2, none⟩ = some (.int .i64 e2) := eb.out.cell 2
        have qeb_3 : w18.cell? ⟨w8.heap.size, 3, none⟩ = some (.int .i64 e3) := eb.out.cell 3
        have qeb_4 : w18.cell? ⟨w8.heap.size, 4, none⟩ = some (.int .i64 e4) := eb.out.cell 4
        have qeb_l := eb.out.lt
        go_wp2_with fail
        clear qeb_0 qeb_1 qeb_2 qeb_3 qeb_4 qeb_l
        refine (specFind_any _ t e0 e1 _ ((Rd.of_own O8.out rfl).on (bal (Below.refl _ _) _))).mono ?_; rintro e w19 ⟨⟨u2, b2, rfl, hf⟩, hb19⟩
        replace O1 := Lib.hid (own_below O1.out (bthen (bal (Below.refl _ _) _) hb19))
        replace O2 := Lib.hid (own_below O2.out (bthen (bal (Below.refl _ _) _) hb19))
        replace O3 := Lib.hid (own_below O3.out (bthen (bal (Below.refl _ _) _) hb19))
        replace O4 := Lib.hid (own_below O4.out (bthen (bal (Below.refl _ _) _) hb19))
        replace O5 := Lib.hid (own_below O5.out (bthen (bal (Below.refl _ _) _) hb19))
        replace O6 := Lib.hid (own_below O6.out (bthen (bal (Below.refl _ _) _) hb19))
        replace OL := Lib.hid (own_below OL.out (bthen (bal (Below.refl _ _) _) hb19))
        replace eb := Lib.hid (eb.out.on (bthen (bal (Below.refl _ _) _) hb19))
        replace O7 := Lib.hid (own_below O7.out (bthen (bal (Below.refl _ _) _) hb19))
        replace O8 := Lib.hid (own_below O8.out (bthen (bal (Below.refl _ _) _) hb19))
        have fb := Lib.hid ((Blk.new w18 36 #[.int .i64 u.a, .int .i64 u.b, .int .i64 u.lo, .int .i64 u.hi, .int .i64 u.«to»]).on hb19)
        have sz19 := Lib.hid (show w18.heap.size + 1 ≤ w19.heap.size by have := hb19.size; (try simp only [World.size_alloc] at this); omega)
        have Hb19 := Lib.hid (bthen (bal (Hb18.out) _) hb19)
        clear hb19
        obtain ⟨rfl, rfl⟩ := Prod.mk.inj (Hu.out.symm.trans hf)
        clear hf
        have qeb_0 : w19.cell? ⟨w8.heap.size, 0, none⟩ = some (.int .i64 e0) := eb.out.cell 0
        have qeb_1 : w19.cell? ⟨w8.heap.size, 1, none⟩ = some (.int .i64 e1) := eb.out.cell 1
        have qeb_2 : w19.cell? ⟨w8.heap.size, 2, none⟩ = some (.int .i64 e2) := eb.out.cell 2
        have qeb_3 : w19.cell? ⟨w8.heap.size, 3, none⟩ = some (.int .i64 e3) := eb.out.cell 3
        have qeb_4 : w19.cell? ⟨w8.heap.size, 4, none⟩ = some (.int .i64 e4) := eb.out.cell 4
        have qeb_l := eb.out.lt
        have qfb_0 : w19.cell? ⟨w18.heap.size, 0, none⟩ = some (.int .i64 u.a) := fb.out.cell 0
        have qfb_1 : w19.cell? ⟨w18.heap.size, 1, none⟩ = some (.int .i64 u.b) := fb.out.cell 1
        have qfb_2 : w19.cell? ⟨w18.heap.size, 2, none⟩ = some (.int .i64 u.lo) := fb.out.cell 2
        have qfb_3 : w19.cell? ⟨w18.heap.size, 3, none⟩ = some (.int .i64 u.hi) := fb.out.cell 3
        have qfb_4 : w19.cell? ⟨w18.heap.size, 4, none⟩ = some (.int .i64 u.«to») := fb.out.cell 4
        have qfb_l := fb.out.lt
        have hql := neqEn_self u
        have hlo : ¬ u.lo < e2 := by have := Hlo.out; omega
        have hhi : ¬ e3 < u.hi := by have := Hhi.out; omega
        go_wp2
        go_ret
        exact ⟨rfl, bal (Hb19.out) _⟩
    · cases ok
      · clear hoo
        go_wp2_with fail
        refine (qEn_same _ _ z _ (Rd.of_own O3.out rfl) (Rd.of_own O4.out rfl)).mono ?_; rintro e w14 ⟨rfl, hb14⟩
        replace O1 := Lib.hid (own_below O1.out (hb14))
        replace O2 := Lib.hid (own_below O2.out (hb14))
        replace O3 := Lib.hid (own_below O3.out (hb14))
        replace O4 := Lib.hid (own_below O4.out (hb14))
        replace O5 := Lib.hid (own_below O5.out (hb14))
        replace O6 := Lib.hid (own_below O6.out (hb14))
        replace OL := Lib.hid (own_below OL.out (hb14))
        replace eb := Lib.hid (eb.out.on (hb14))
        replace O7 := Lib.hid (own_below O7.out (hb14))
        replace O8 := Lib.hid (own_below O8.out (hb14))
        have sz14 := Lib.hid (show w13.heap.size + 0 ≤ w14.heap.size by have := hb14.size; (try simp only [World.size_alloc] at this); omega)
        have Hb14 := Lib.hid (bthen (Hb13.out) hb14)
        clear hb14
        go_wp2_with fail
        refine (qCu_same _ _ y _ (Rd.of_own O5.out rfl) (Rd.of_own O6.out rfl)).mono ?_; rintro e w15 ⟨rfl, hb15⟩
        replace O1 := Lib.hid (own_below O1.out (hb15))
        replace O2 := Lib.hid (own_below O2.out (hb15))
        replace O3 := Lib.hid (own_below O3.out (hb15))
        replace O4 := Lib.hid (own_below O4.out (hb15))
        replace O5 := Lib.hid (own_below O5.out (hb15))
        replace O6 := Lib.hid (own_below O6.out (hb15))
        replace OL := Lib.hid (own_below OL.out (hb15))
        replace eb := Lib.hid (eb.out.on (hb15))
        replace O7 := Lib.hid (own_below O7.out (hb15))
        replace O8 := Lib.hid (own_below O8.out (hb15))
        have sz15 := Lib.hid (show w14.heap.size + 0 ≤ w15.heap.size by have := hb15.size; (try simp only [World.size_alloc] at this); omega)
        have Hb15 := Lib.hid (bthen (Hb14.out) hb15)
        clear hb15
        go_wp2_with fail
        refine (qEn_same _ _ t _ (Rd.of_own O7.out rfl) (Rd.of_own O8.out rfl)).mono ?_; rintro e w16 ⟨rfl, hb16⟩
        replace O1 := Lib.hid (own_below O1.out (hb16))
        replace O2 := Lib.hid (own_below O2.out (hb16))
        replace O3 := Lib.hid (own_below O3.out (hb16))
        replace O4 := Lib.hid (own_below O4.out (hb16))
        replace O5 := Lib.hid (own_below O5.out (hb16))
        replace O6 := Lib.hid (own_below O6.out (hb16))
        replace OL := Lib.hid (own_below OL.out (hb16))
        replace eb := Lib.hid (eb.out.on (hb16))
        replace O7 := Lib.hid (own_below O7.out (hb16))
        replace O8 := Lib.hid (own_below O8.out (hb16))
        have sz16 := Lib.hid (show w15.heap.size + 0 ≤ w16.heap.size by have := hb16.size; (try simp only [World.size_alloc] at this); omega)
        have Hb16 := Lib.hid (bthen (Hb15.out) hb16)
        clear hb16
        go_wp2_with fail
        refine (implCon_any _ bs _ xs _ (Rd.of_own O2.out rfl) (Rd.of_own O1.out rfl)).mono ?_; rintro e w17 ⟨⟨v9, y9, is9, rfl, hy9, o9⟩, hb17⟩
        have O9 := Lib.hid o9
        have GO9 := Lib.hid (World.ownsRow.lt o9)
        clear o9
        replace O1 := Lib.hid (own_below O1.out (hb17))
        replace O2 := Lib.hid (own_below O2.out (hb17))
        replace O3 := Lib.hid (own_below O3.out (hb17))
        replace O4 := Lib.hid (own_below O4.out (hb17))
        replace O5 := Lib.hid (own_below O5.out (hb17))
        replace O6 := Lib.hid (own_below O6.out (hb17))
        replace OL := Lib.hid (own_below OL.out (hb17))
        replace eb := Lib.hid (eb.out.on (hb17))
        replace O7 := Lib.hid (own_below O7.out (hb17))
        replace O8 := Lib.hid (own_below O8.out (hb17))
        have sz17 := Lib.hid (show w16.heap.size + 0 ≤ w17.heap.size by have := hb17.size; (try simp only [World.size_alloc] at this); omega)
        have Hb17 := Lib.hid (bthen (Hb16.out) hb17)
        clear hb17
        obtain ⟨rfl, rfl⟩ := con_back Hy.out hy9
        clear hy9
        go_wp2_with fail
        refine (implBetter_any _ xs _ xs _ (Rd.of_own O1.out rfl) (Rd.of_own O1.out rfl)).mono ?_; rintro e w18 ⟨⟨ow, was, rfl, hs⟩, hb18⟩
        replace O1 := Lib.hid (own_below O1.out (hb18))
        replace O2 := Lib.hid (own_below O2.out (hb18))
        replace O3 := Lib.hid (own_below O3.out (hb18))
        replace O4 := Lib.hid (own_below O4.out (hb18))
        replace O5 := Lib.hid (own_below O5.out (hb18))
        replace O6 := Lib.hid (own_below O6.out (hb18))
        replace OL := Lib.hid (own_below OL.out (hb18))
        replace eb := Lib.hid (eb.out.on (hb18))
        replace O7 := Lib.hid (own_below O7.out (hb18))
        replace O8 := Lib.hid (own_below O8.out (hb18))
        replace O9 := Lib.hid (own_below O9.out (hb18))
        have sz18 := Lib.hid (show w17.heap.size + 0 ≤ w18.heap.size by have := hb18.size; (try simp only [World.size_alloc] at this); omega)
        have Hb18 := Lib.hid (bthen (Hb17.out) hb18)
        clear hb18
        obtain ⟨rfl, rfl⟩ := Prod.mk.inj ((bet_self (con_yes Hy.out).1).symm.trans hs)
        clear hs
        go_wp2_with fail
        refine (qCu_same _ _ y9 _ (Rd.of_own O9.out rfl) (Rd.of_own O6.out rfl)).mono ?_; rintro e w19 ⟨rfl, hb19⟩
        replace O1 := Lib.hid (own_below O1.out (hb19))
        replace O2 := Lib.hid (own_below O2.out (hb19))
        replace O3 := Lib.hid (own_below O3.out (hb19))
        replace O4 := Lib.hid (own_below O4.out (hb19))
        replace O5 := Lib.hid (own_below O5.out (hb19))
        replace O6 := Lib.hid (own_below O6.out (hb19))
        replace OL := Lib.hid (own_below OL.out (hb19))
        replace eb := Lib.hid (eb.out.on (hb19))
        replace O7 := Lib.hid (own_below O7.out (hb19))
        replace O8 := Lib.hid (own_below O8.out (hb19))
        replace O9 := Lib.hid (own_below O9.out (hb19))
        have sz19 := Lib.hid (show w18.heap.size + 0 ≤ w19.heap.size by have := hb19.size; (try simp only [World.size_alloc] at this); omega)
        have Hb19 := Lib.hid (bthen (Hb18.out) hb19)
        clear hb19
        clear O9
        cases five
        · go_wp2
          go_ret
          exact ⟨rfl, Hb19.out⟩
        · go_wp2_with fail
          refine (implBetter_any _ t _ ls _ (Rd.of_own O7.out rfl) (Rd.of_own OL.out rfl)).mono ?_; rintro e w20 ⟨⟨ow, was, rfl, hs⟩, hb20⟩
          replace O1 := Lib.hid (own_below O1.out (hb20))
          replace O2 := Lib.hid (own_below O2.out (hb20))
          replace O3 := Lib.hid (own_below O3.out (hb20))
          replace O4 := Lib.hid (own_below O4.out (hb20))
          replace O5 := Lib.hid (own_below O5.out (hb20))
          replace O6 := Lib.hid (own_below O6.out (hb20))
          replace OL := Lib.hid (own_below OL.out (hb20))
          replace eb := Lib.hid (eb.out.on (hb20))
          replace O7 := Lib.hid (own_below O7.out (hb20))
          replace O8 := Lib.hid (own_below O8.out (hb20))
          have sz20 := Lib.hid (show w19.heap.size + 0 ≤ w20.heap.size by have := hb20.size; (try simp only [World.size_alloc] at this); omega)
          have Hb20 := Lib.hid (bthen (Hb19.out) hb20)
          clear hb20
          obtain ⟨rfl, rfl⟩ := Prod.mk.inj ((tight_law Ht.out).1.symm.trans hs)
          clear hs
          obtain ⟨u, hu, hlo, hhi⟩ := (tight_law Ht.out).2
          have Hu := Lib.hid hu; have Hlo := Lib.hid hlo; have Hhi := Lib.hid hhi; clear hu hlo hhi
          have qeb_0 : w20.cell? ⟨w8.heap.size, 0, none⟩ = some (.int .i64 e0) := eb.out.cell 0
          have qeb_1 : w20.cell? ⟨w8.heap.size, 1, none⟩ = some (.int .i64 e1) := eb.out.cell 1
          have qeb_2 : w20.cell? ⟨w8.heap.size, 2, none⟩ = some (.int .i64 e2) := eb.out.cell 2
          have qeb_3 : w20.cell? ⟨w8.heap.size, 3, none⟩ = some (.int .i64 e3) := eb.out.cell 3
          have qeb_4 : w20.cell? ⟨w8.heap.size, 4, none⟩ = some (.int .i64 e4) := eb.out.cell 4
          have qeb_l := eb.out.lt
          go_wp2_with fail
          clear qeb_0 qeb_1 qeb_2 qeb_3 qeb_4 qeb_l
          refine (implFind_any _ t e0 e1 _ (Rd.of_own O7.out rfl)).mono ?_; rintro e w21 ⟨⟨u1, b1, rfl, hf⟩, hb21⟩
          replace O1 := Lib.hid (own_below O1.out (hb21))
          replace O2 := Lib.hid (own_below O2.out (hb21))
          replace O3 := Lib.hid (own_below O3.out (hb21))
          replace O4 := Lib.hid (own_below O4.out (hb21))
          replace O5 := Lib.hid (own_below O5.out (hb21))
          replace O6 := Lib.hid (own_below O6.out (hb21))
          replace OL := Lib.hid (own_below OL.out (hb21))
          replace eb := Lib.hid (eb.out.on (hb21))
          replace O7 := Lib.hid (own_below O7.out (hb21))
          replace O8 := Lib.hid (own_below O8.out (hb21))
          have sz21 := Lib.hid (show w20.heap.size + 0 ≤ w21.heap.size by have := hb21.size; (try simp only [World.size_alloc] at this); omega)
          have Hb21 := Lib.hid (bthen (Hb20.out) hb21)
          clear hb21
          obtain ⟨rfl, rfl⟩ := Prod.mk.inj (Hu.out.symm.trans hf)
          clear hf
          have qeb_0 : w21.cell? ⟨w8.heap.size, 0, none⟩ = some (.int .i64 e0) := eb.out.cell 0
          have qeb_1 : w21.cell? ⟨w8.heap.size, 1, none⟩ = some (.int .i64 e1) := eb.out.cell 1
          have qeb_2 : w21.cell? ⟨w8.heap.size, 2, none⟩ = some (.int .i64 e2) := eb.out.cell 2
          have qeb_3 : w21.cell? ⟨w8.heap.size, 3, none⟩ = some (.int .i64 e3) := eb.out.cell 3
          have qeb_4 : w21.cell? ⟨w8.heap.size, 4, none⟩ = some (.int .i64 e4) := eb.out.cell 4
          have qeb_l := eb.out.lt
          go_wp2_with fail
          clear qeb_0 qeb_1 qeb_2 qeb_3 qeb_4 qeb_l
          refine (specFind_any _ t e0 e1 _ ((Rd.of_own O8.out rfl).on (bal (Below.refl _ _) _))).mono ?_; rintro e w22 ⟨⟨u2, b2, rfl, hf⟩, hb22⟩
          replace O1 := Lib.hid (own_below O1.out (bthen (bal (Below.refl _ _) _) hb22))
          replace O2 := Lib.hid (own_below O2.out (bthen (bal (Below.refl _ _) _) hb22))
          replace O3 := Lib.hid (own_below O3.out (bthen (bal (Below.refl _ _) _) hb22))
          replace O4 := Lib.hid (own_below O4.out (bthen (bal (Below.refl _ _) _) hb22))
          replace O5 := Lib.hid (own_below O5.out (bthen (bal (Below.refl _ _) _) hb22))
          replace O6 := Lib.hid (own_below O6.out (bthen (bal (Below.refl _ _) _) hb22))
          replace OL := Lib.hid (own_below OL.out (bthen (bal (Below.refl _ _) _) hb22))
          replace eb := Lib.hid (eb.out.on (bthen (bal (Below.refl _ _) _) hb22))
          replace O7 := Lib.hid (own_below O7.out (bthen (bal (Below.refl _ _) _) hb22))
          replace O8 := Lib.hid (own_below O8.out (bthen (bal (Below.refl _ _) _) hb22))
          have fb := Lib.hid ((Blk.new w21 36 #[.int .i64 u.a, .int .i64 u.b, .int .i64 u.lo, .int .i64 u.hi, .int .i64 u.«to»]).on hb22)
          have sz22 := Lib.hid (show w21.heap.size + 1 ≤ w22.heap.size by have := hb22.size; (try simp only [World.size_alloc] at this); omega)
          have Hb22 := Lib.hid (bthen (bal (Hb21.out) _) hb22)
          clear hb22
          obtain ⟨rfl, rfl⟩ := Prod.mk.inj (Hu.out.symm.trans hf)
          clear hf
          have qeb_0 : w22.cell? ⟨w8.heap.size, 0, none⟩ = some (.int .i64 e0) := eb.out.cell 0
          have qeb_1 : w22.cell? ⟨w8.heap.size, 1, none⟩ = some (.int .i64 e1) := eb.out.cell 1
          have qeb_2 : w22.cell? ⟨w8.heap.size, 2, none⟩ = some (.int .i64 e2) := eb.out.cell 2
          have qeb_3 : w22.cell? ⟨w8.heap.size, 3, none⟩ = some (.int .i64 e3) := eb.out.cell 3
          have qeb_4 : w22.cell? ⟨w8.heap.size, 4, none⟩ = some (.int .i64 e4) := eb.out.cell 4
          have qeb_l := eb.out.lt
          have qfb_0 : w22.cell? ⟨w21.heap.size, 0, none⟩ = some (.int .i64 u.a) := fb.out.cell 0
          have qfb_1 : w22.cell? ⟨w21.heap.size, 1, none⟩ = some (.int .i64 u.b) := fb.out.cell 1
          have qfb_2 : w22.cell? ⟨w21.heap.size, 2, none⟩ = some (.int .i64 u.lo) := fb.out.cell 2
          have qfb_3 : w22.cell? ⟨w21.heap.size, 3, none⟩ = some (.int .i64 u.hi) := fb.out.cell 3
          have qfb_4 : w22.cell? ⟨w21.heap.size, 4, none⟩ = some (.int .i64 u.«to») := fb.out.cell 4
          have qfb_l := fb.out.lt
          have hql := neqEn_self u
          have hlo : ¬ u.lo < e2 := by have := Hlo.out; omega
          have hhi : ¬ e3 < u.hi := by have := Hhi.out; omega
          go_wp2
          go_ret
          exact ⟨rfl, bal (Hb22.out) _⟩
      · have hy0 := (hoo rfl).2
        clear hoo
        have Hy0 := Lib.hid hy0; clear hy0
        go_wp2_with fail
        refine (qEn_same _ _ z _ (Rd.of_own O3.out rfl) (Rd.of_own O4.out rfl)).mono ?_; rintro e w14 ⟨rfl, hb14⟩
        replace O1 := Lib.hid (own_below O1.out (hb14))
        replace O2 := Lib.hid (own_below O2.out (hb14))
        replace O3 := Lib.hid (own_below O3.out (hb14))
        replace O4 := Lib.hid (own_below O4.out (hb14))
        replace O5 := Lib.hid (own_below O5.out (hb14))
        replace O6 := Lib.hid (own_below O6.out (hb14))
        replace OL := Lib.hid (own_below OL.out (hb14))
        replace eb := Lib.hid (eb.out.on (hb14))
        replace O7 := Lib.hid (own_below O7.out (hb14))
        replace O8 := Lib.hid (own_below O8.out (hb14))
        have sz14 := Lib.hid (show w13.heap.size + 0 ≤ w14.heap.size by have := hb14.size; (try simp only [World.size_alloc] at this); omega)
        have Hb14 := Lib.hid (bthen (Hb13.out) hb14)
        clear hb14
        go_wp2_with fail
        refine (qCu_same _ _ y _ (Rd.of_own O5.out rfl) (Rd.of_own O6.out rfl)).mono ?_; rintro e w15 ⟨rfl, hb15⟩
        replace O1 := Lib.hid (own_below O1.out (hb15))
        replace O2 := Lib.hid (own_below O2.out (hb15))
        replace O3 := Lib.hid (own_below O3.out (hb15))
        replace O4 := Lib.hid (own_below O4.out (hb15))
        replace O5 := Lib.hid (own_below O5.out (hb15))
        replace O6 := Lib.hid (own_below O6.out (hb15))
        replace OL := Lib.hid (own_below OL.out (hb15))
        replace eb := Lib.hid (eb.out.on (hb15))
        replace O7 := Lib.hid (own_below O7.out (hb15))
        replace O8 := Lib.hid (own_below O8.out (hb15))
        have sz15 := Lib.hid (show w14.heap.size + 0 ≤ w15.heap.size by have := hb15.size; (try simp only [World.size_alloc] at this); omega)
        have Hb15 := Lib.hid (bthen (Hb14.out) hb15)
        clear hb15
        go_wp2_with fail
        refine (qEn_same _ _ t _ (Rd.of_own O7.out rfl) (Rd.of_own O8.out rfl)).mono ?_; rintro e w16 ⟨rfl, hb16⟩
        replace O1 := Lib.hid (own_below O1.out (hb16))
        replace O2 := Lib.hid (own_below O2.out (hb16))
        replace O3 := Lib.hid (own_below O3.out (hb16))
        replace O4 := Lib.hid (own_below O4.out (hb16))
        replace O5 := Lib.hid (own_below O5.out (hb16))
        replace O6 := Lib.hid (own_below O6.out (hb16))
        replace OL := Lib.hid (own_below OL.out (hb16))
        replace eb := Lib.hid (eb.out.on (hb16))
        replace O7 := Lib.hid (own_below O7.out (hb16))
        replace O8 := Lib.hid (own_below O8.out (hb16))
        have sz16 := Lib.hid (show w15.heap.size + 0 ≤ w16.heap.size by have := hb16.size; (try simp only [World.size_alloc] at this); omega)
        have Hb16 := Lib.hid (bthen (Hb15.out) hb16)
        clear hb16
        go_wp2_with fail
        refine (implCon_any _ bs _ xs _ (Rd.of_own O2.out rfl) (Rd.of_own O1.out rfl)).mono ?_; rintro e w17 ⟨⟨v9, y9, is9, rfl, hy9, o9⟩, hb17⟩
        have O9 := Lib.hid o9
        have GO9 := Lib.hid (World.ownsRow.lt o9)
        clear o9
        replace O1 := Lib.hid (own_below O1.out (hb17))
        replace O2 := Lib.hid (own_below O2.out (hb17))
        replace O3 := Lib.hid (own_below O3.out (hb17))
        replace O4 := Lib.hid (own_below O4.out (hb17))
        replace O5 := Lib.hid (own_below O5.out (hb17))
        replace O6 := Lib.hid (own_below O6.out (hb17))
        replace OL := Lib.hid (own_below OL.out (hb17))
        replace eb := Lib.hid (eb.out.on (hb17))
        replace O7 := Lib.hid (own_below O7.out (hb17))
        replace O8 := Lib.hid (own_below O8.out (hb17))
        have sz17 := Lib.hid (show w16.heap.size + 0 ≤ w17.heap.size by have := hb17.size; (try simp only [World.size_alloc] at this); omega)
        have Hb17 := Lib.hid (bthen (Hb16.out) hb17)
        clear hb17
        obtain ⟨rfl, rfl⟩ := con_back Hy.out hy9
        clear hy9
        go_wp2_with fail
        refine (implBetter_any _ xs _ xs _ (Rd.of_own O1.out rfl) (Rd.of_own O1.out rfl)).mono ?_; rintro e w18 ⟨⟨ow, was, rfl, hs⟩, hb18⟩
        replace O1 := Lib.hid (own_below O1.out (hb18))
        replace O2 := Lib.hid (own_below O2.out (hb18))
        replace O3 := Lib.hid (own_below O3.out (hb18))
        replace O4 := Lib.hid (own_below O4.out (hb18))
        replace O5 := Lib.hid (own_below O5.out (hb18))
        replace O6 := Lib.hid (own_below O6.out (hb18))
        replace OL := Lib.hid (own_below OL.out (hb18))
        replace eb := Lib.hid (eb.out.on (hb18))
        replace O7 := Lib.hid (own_below O7.out (hb18))
        replace O8 := Lib.hid (own_below O8.out (hb18))
        replace O9 := Lib.hid (own_below O9.out (hb18))
        have sz18 := Lib.hid (show w17.heap.size + 0 ≤ w18.heap.size by have := hb18.size; (try simp only [World.size_alloc] at this); omega)
        have Hb18 := Lib.hid (bthen (Hb17.out) hb18)
        clear hb18
        obtain ⟨rfl, rfl⟩ := Prod.mk.inj ((bet_self (con_yes Hy.out).1).symm.trans hs)
        clear hs
        go_wp2_with fail
        refine (qCu_same _ _ y9 _ (Rd.of_own O9.out rfl) (Rd.of_own O6.out rfl)).mono ?_; rintro e w19 ⟨rfl, hb19⟩
        replace O1 := Lib.hid (own_below O1.out (hb19))
        replace O2 := Lib.hid (own_below O2.out (hb19))
        replace O3 := Lib.hid (own_below O3.out (hb19))
        replace O4 := Lib.hid (own_below O4.out (hb19))
        replace O5 := Lib.hid (own_below O5.out (hb19))
        replace O6 := Lib.hid (own_below O6.out (hb19))
        replace OL := Lib.hid (own_below OL.out (hb19))
        replace eb := Lib.hid (eb.out.on (hb19))
        replace O7 := Lib.hid (own_below O7.out (hb19))
        replace O8 := Lib.hid (own_below O8.out (hb19))
        replace O9 := Lib.hid (own_below O9.out (hb19))
        have sz19 := Lib.hid (show w18.heap.size + 0 ≤ w19.heap.size by have := hb19.size; (try simp only [World.size_alloc] at this); omega)
        have Hb19 := Lib.hid (bthen (Hb18.out) hb19)
        clear hb19
        clear O9
        have hy0 := Hy0.out; clear Hy0
        have hyl : ¬ (0 : Int) < (y9.length : Int) := by rw [hy0]; simp
        clear hy0
        go_wp2_with fail
        refine (implMerge_any _ bs _ xs _ (Rd.of_own O2.out rfl) (Rd.of_own O1.out rfl)).mono ?_; rintro e w20 ⟨⟨v10, z10, is10, rfl, hz10, o10⟩, hb20⟩
        have O10 := Lib.hid o10
        have GO10 := Lib.hid (World.ownsRow.lt o10)
        clear o10
        replace O1 := Lib.hid (own_below O1.out (hb20))
        replace O2 := Lib.hid (own_below O2.out (hb20))
        replace O3 := Lib.hid (own_below O3.out (hb20))
        replace O4 := Lib.hid (own_below O4.out (hb20))
        replace O5 := Lib.hid (own_below O5.out (hb20))
        replace O6 := Lib.hid (own_below O6.out (hb20))
        replace OL := Lib.hid (own_below OL.out (hb20))
        replace eb := Lib.hid (eb.out.on (hb20))
        replace O7 := Lib.hid (own_below O7.out (hb20))
        replace O8 := Lib.hid (own_below O8.out (hb20))
        have sz20 := Lib.hid (show w19.heap.size + 0 ≤ w20.heap.size by have := hb20.size; (try simp only [World.size_alloc] at this); omega)
        have Hb20 := Lib.hid (bthen (Hb19.out) hb20)
        clear hb20
        obtain ⟨rfl, rfl⟩ := Prod.mk.inj ((mergeG_back Hz.out).symm.trans hz10)
        clear hz10
        go_wp2_with fail
        refine (implBetter_any _ z _ xs _ (Rd.of_own O3.out rfl) (Rd.of_own O1.out rfl)).mono ?_; rintro e w21 ⟨⟨ow, was, rfl, hs⟩, hb21⟩
        replace O1 := Lib.hid (own_below O1.out (hb21))
        replace O2 := Lib.hid (own_below O2.out (hb21))
        replace O3 := Lib.hid (own_below O3.out (hb21))
        replace O4 := Lib.hid (own_below O4.out (hb21))
        replace O5 := Lib.hid (own_below O5.out (hb21))
        replace O6 := Lib.hid (own_below O6.out (hb21))
        replace OL := Lib.hid (own_below OL.out (hb21))
        replace eb := Lib.hid (eb.out.on (hb21))
        replace O7 := Lib.hid (own_below O7.out (hb21))
        replace O8 := Lib.hid (own_below O8.out (hb21))
        replace O10 := Lib.hid (own_below O10.out (hb21))
        have sz21 := Lib.hid (show w20.heap.size + 0 ≤ w21.heap.size by have := hb21.size; (try simp only [World.size_alloc] at this); omega)
        have Hb21 := Lib.hid (bthen (Hb20.out) hb21)
        clear hb21
        obtain ⟨rfl, rfl⟩ := Prod.mk.inj ((merge_cat Hz.out).2.1.symm.trans hs)
        clear hs
        go_wp2_with fail
        refine (implBetter_any _ z _ bs _ (Rd.of_own O3.out rfl) (Rd.of_own O2.out rfl)).mono ?_; rintro e w22 ⟨⟨ow, was, rfl, hs⟩, hb22⟩
        replace O1 := Lib.hid (own_below O1.out (hb22))
        replace O2 := Lib.hid (own_below O2.out (hb22))
        replace O3 := Lib.hid (own_below O3.out (hb22))
        replace O4 := Lib.hid (own_below O4.out (hb22))
        replace O5 := Lib.hid (own_below O5.out (hb22))
        replace O6 := Lib.hid (own_below O6.out (hb22))
        replace OL := Lib.hid (own_below OL.out (hb22))
        replace eb := Lib.hid (eb.out.on (hb22))
        replace O7 := Lib.hid (own_below O7.out (hb22))
        replace O8 := Lib.hid (own_below O8.out (hb22))
        replace O10 := Lib.hid (own_below O10.out (hb22))
        have sz22 := Lib.hid (show w21.heap.size + 0 ≤ w22.heap.size by have := hb22.size; (try simp only [World.size_alloc] at this); omega)
        have Hb22 := Lib.hid (bthen (Hb21.out) hb22)
        clear hb22
        obtain ⟨rfl, rfl⟩ := Prod.mk.inj ((merge_cat Hz.out).2.2.symm.trans hs)
        clear hs
        go_wp2_with fail
        refine (qEn_same _ _ z _ (Rd.of_own O10.out rfl) (Rd.of_own O4.out rfl)).mono ?_; rintro e w23 ⟨rfl, hb23⟩
        replace O1 := Lib.hid (own_below O1.out (hb23))
        replace O2 := Lib.hid (own_below O2.out (hb23))
        replace O3 := Lib.hid (own_below O3.out (hb23))
        replace O4 := Lib.hid (own_below O4.out (hb23))
        replace O5 := Lib.hid (own_below O5.out (hb23))
        replace O6 := Lib.hid (own_below O6.out (hb23))
        replace OL := Lib.hid (own_below OL.out (hb23))
        replace eb := Lib.hid (eb.out.on (hb23))
        replace O7 := Lib.hid (own_below O7.out (hb23))
        replace O8 := Lib.hid (own_below O8.out (hb23))
        replace O10 := Lib.hid (own_below O10.out (hb23))
        have sz23 := Lib.hid (show w22.heap.size + 0 ≤ w23.heap.size by have := hb23.size; (try simp only [World.size_alloc] at this); omega)
        have Hb23 := Lib.hid (bthen (Hb22.out) hb23)
        clear hb23
        go_wp2_with fail
        refine (isCatI_any _ z _ (Rd.of_own O3.out rfl)).mono ?_; rintro e w24 ⟨rfl, hb24⟩
        replace O1 := Lib.hid (own_below O1.out (hb24))
        replace O2 := Lib.hid (own_below O2.out (hb24))
        replace O3 := Lib.hid (own_below O3.out (hb24))
        replace O4 := Lib.hid (own_below O4.out (hb24))
        replace O5 := Lib.hid (own_below O5.out (hb24))
        replace O6 := Lib.hid (own_below O6.out (hb24))
        replace OL := Lib.hid (own_below OL.out (hb24))
        replace eb := Lib.hid (eb.out.on (hb24))
        replace O7 := Lib.hid (own_below O7.out (hb24))
        replace O8 := Lib.hid (own_below O8.out (hb24))
        replace O10 := Lib.hid (own_below O10.out (hb24))
        have sz24 := Lib.hid (show w23.heap.size + 0 ≤ w24.heap.size by have := hb24.size; (try simp only [World.size_alloc] at this); omega)
        have Hb24 := Lib.hid (bthen (Hb23.out) hb24)
        clear hb24
        rw [(merge_cat Hz.out).1]
        clear O10
        cases five
        · go_wp2
          go_ret
          exact ⟨rfl, Hb24.out⟩
        · go_wp2_with fail
          refine (implBetter_any _ t _ ls _ (Rd.of_own O7.out rfl) (Rd.of_own OL.out rfl)).mono ?_; rintro e w25 ⟨⟨ow, was, rfl, hs⟩, hb25⟩
          replace O1 := Lib.hid (own_below O1.out (hb25))
          replace O2 := Lib.hid (own_below O2.out (hb25))
          replace O3 := Lib.hid (own_below O3.out (hb25))
          replace O4 := Lib.hid (own_below O4.out (hb25))
          replace O5 := Lib.hid (own_below O5.out (hb25))
          replace O6 := Lib.hid (own_below O6.out (hb25))
          replace OL := Lib.hid (own_below OL.out (hb25))
          replace eb := Lib.hid (eb.out.on (hb25))
          replace O7 := Lib.hid (own_below O7.out (hb25))
          replace O8 := Lib.hid (own_below O8.out (hb25))
          have sz25 := Lib.hid (show w24.heap.size + 0 ≤ w25.heap.size by have := hb25.size; (try simp only [World.size_alloc] at this); omega)
          have Hb25 := Lib.hid (bthen (Hb24.out) hb25)
          clear hb25
          obtain ⟨rfl, rfl⟩ := Prod.mk.inj ((tight_law Ht.out).1.symm.trans hs)
          clear hs
          obtain ⟨u, hu, hlo, hhi⟩ := (tight_law Ht.out).2
          have Hu := Lib.hid hu; have Hlo := Lib.hid hlo; have Hhi := Lib.hid hhi; clear hu hlo hhi
          have qeb_0 : w25.cell? ⟨w8.heap.size, 0, none⟩ = some (.int .i64 e0) := eb.out.cell 0
          have qeb_1 : w25.cell? ⟨w8.heap.size, 1, none⟩ = some (.int .i64 e1) := eb.out.cell 1
          have qeb_2 : w25.cell? ⟨w8.heap.size, 2, none⟩ = some (.int .i64 e2) := eb.out.cell 2
          have qeb_3 : w25.cell? ⟨w8.heap.size, 3, none⟩ = some (.int .i64 e3) := eb.out.cell 3
          have qeb_4 : w25.cell? ⟨w8.heap.size, 4, none⟩ = some (.int .i64 e4) := eb.out.cell 4
          have qeb_l := eb.out.lt
          go_wp2_with fail
          clear qeb_0 qeb_1 qeb_2 qeb_3 qeb_4 qeb_l
          refine (implFind_any _ t e0 e1 _ (Rd.of_own O7.out rfl)).mono ?_; rintro e w26 ⟨⟨u1, b1, rfl, hf⟩, hb26⟩
          replace O1 := Lib.hid (own_below O1.out (hb26))
          replace O2 := Lib.hid (own_below O2.out (hb26))
          replace O3 := Lib.hid (own_below O3.out (hb26))
          replace O4 := Lib.hid (own_below O4.out (hb26))
          replace O5 := Lib.hid (own_below O5.out (hb26))
          replace O6 := Lib.hid (own_below O6.out (hb26))
          replace OL := Lib.hid (own_below OL.out (hb26))
          replace eb := Lib.hid (eb.out.on (hb26))
          replace O7 := Lib.hid (own_below O7.out (hb26))
          replace O8 := Lib.hid (own_below O8.out (hb26))
          have sz26 := Lib.hid (show w25.heap.size + 0 ≤ w26.heap.size by have := hb26.size; (try simp only [World.size_alloc] at this); omega)
          have Hb26 := Lib.hid (bthen (Hb25.out) hb26)
          clear hb26
          obtain ⟨rfl, rfl⟩ := Prod.mk.inj (Hu.out.symm.trans hf)
          clear hf
          have qeb_0 : w26.cell? ⟨w8.heap.size, 0, none⟩ = some (.int .i64 e0) := eb.out.cell 0
          have qeb_1 : w26.cell? ⟨w8.heap.size, 1, none⟩ = some (.int .i64 e1) := eb.out.cell 1
          have qeb_2 : w26.cell? ⟨w8.heap.size, 2, none⟩ = some (.int .i64 e2) := eb.out.cell 2
          have qeb_3 : w26.cell? ⟨w8.heap.size, 3, none⟩ = some (.int .i64 e3) := eb.out.cell 3
          have qeb_4 : w26.cell? ⟨w8.heap.size, 4, none⟩ = some (.int .i64 e4) := eb.out.cell 4
          have qeb_l := eb.out.lt
          go_wp2_with fail
          clear qeb_0 qeb_1 qeb_2 qeb_3 qeb_4 qeb_l
          refine (specFind_any _ t e0 e1 _ ((Rd.of_own O8.out rfl).on (bal (Below.refl _ _) _))).mono ?_; rintro e w27 ⟨⟨u2, b2, rfl, hf⟩, hb27⟩
          replace O1 := Lib.hid (own_below O1.out (bthen (bal (Below.refl _ _) _) hb27))
          replace O2 := Lib.hid (own_below O2.out (bthen (bal (Below.refl _ _) _) hb27))
          replace O3 := Lib.hid (own_below O3.out (bthen (bal (Below.refl _ _) _) hb27))
          replace O4 := Lib.hid (own_below O4.out (bthen (bal (Below.refl _ _) _) hb27))
          replace O5 := Lib.hid (own_below O5.out (bthen (bal (Below.refl _ _) _) hb27))
          replace O6 := Lib.hid (own_below O6.out (bthen (bal (Below.refl _ _) _) hb27))
          replace OL := Lib.hid (own_below OL.out (bthen (bal (Below.refl _ _) _) hb27))
          replace eb := Lib.hid (eb.out.on (bthen (bal (Below.refl _ _) _) hb27))
          replace O7 := Lib.hid (own_below O7.out (bthen (bal (Below.refl _ _) _) hb27))
          replace O8 := Lib.hid (own_below O8.out (bthen (bal (Below.refl _ _) _) hb27))
          have fb := Lib.hid ((Blk.new w26 36 #[.int .i64 u.a, .int .i64 u.b, .int .i64 u.lo, .int .i64 u.hi, .int .i64 u.«to»]).on hb27)
          have sz27 := Lib.hid (show w26.heap.size + 1 ≤ w27.heap.size by have := hb27.size; (try simp only [World.size_alloc] at this); omega)
          have Hb27 := Lib.hid (bthen (bal (Hb26.out) _) hb27)
          clear hb27
          obtain ⟨rfl, rfl⟩ := Prod.mk.inj (Hu.out.symm.trans hf)
          clear hf
          have qeb_0 : w27.cell? ⟨w8.heap.size, 0, none⟩ = some (.int .i64 e0) := eb.out.cell 0
          have qeb_1 : w27.cell? ⟨w8.heap.size, 1, none⟩ = some (.int .i64 e1) := eb.out.cell 1
          have qeb_2 : w27.cell? ⟨w8.heap.size, 2, none⟩ = some (.int .i64 e2) := eb.out.cell 2
          have qeb_3 : w27.cell? ⟨w8.heap.size, 3, none⟩ = some (.int .i64 e3) := eb.out.cell 3
          have qeb_4 : w27.cell? ⟨w8.heap.size, 4, none⟩ = some (.int .i64 e4) := eb.out.cell 4
          have qeb_l := eb.out.lt
          have qfb_0 : w27.cell? ⟨w26.heap.size, 0, none⟩ = some (.int .i64 u.a) := fb.out.cell 0
          have qfb_1 : w27.cell? ⟨w26.heap.size, 1, none⟩ = some (.int .i64 u.b) := fb.out.cell 1
          have qfb_2 : w27.cell? ⟨w26.heap.size, 2, none⟩ = some (.int .i64 u.lo) := fb.out.cell 2
          have qfb_3 : w27.cell? ⟨w26.heap.size, 3, none⟩ = some (.int .i64 u.hi) := fb.out.cell 3
          have qfb_4 : w27.cell? ⟨w26.heap.size, 4, none⟩ = some (.int .i64 u.«to») := fb.out.cell 4
          have qfb_l := fb.out.lt
          have hql := neqEn_self u
          have hlo : ¬ u.lo < e2 := by have := Hlo.out; omega
          have hhi : ¬ e3 < u.hi := by have := Hhi.out; omega
          go_wp2
          go_ret
          exact ⟨rfl, bal (Hb27.out) _⟩
end Go.Proofs.Ytnphipfdpkgbaaa
