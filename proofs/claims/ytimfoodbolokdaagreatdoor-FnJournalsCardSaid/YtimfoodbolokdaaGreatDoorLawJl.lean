/- The law FnJournals: its walk. Conditions: none. Printed by gen_jllaw.py. -/
import Derived.Test.YtimfoodbolokdaaGreatDoorDrBn
import Derived.Deep.DeepCutAuto
import Derived.Test.YtimfoodbolokdaaGreatDoorJlQ
namespace Go.Proofs.YtimfoodbolokdaaGreatDoor
open Go Go.RowKit

set_option maxRecDepth 8000 in
set_option maxHeartbeats 16000000 in
theorem fnJournals_walk (A : Option Addr) (n c : Nat) (B : Option Addr) (m d : Nat) (w : World) (ha : BytesAt w w.heap.size A n) (hb : BytesAt w w.heap.size B m) (he : Env w) :
    Calls Tryz.prog 5 #[.slice A n c, .slice B m d] w fun e w' => e = .returned (.bool true) ∧ Below w.heap.size w w' := by
  have Ha := Lib.hid ha; have Hb := Lib.hid hb; have He := Lib.hid he; clear ha hb he
  by_cases hbig : 1048576 < wrap64 ((n : Int) + (m : Int))
  · go_enter Tryz.func5, Tryz.ntmps5
    go_wp2
    go_ret
    exact ⟨rfl, Below.refl _ _⟩
  · go_enter Tryz.func5, Tryz.ntmps5
    go_wp2_with fail
    refine (drawAppend_any A n c _ (Ha.out.on (Below.refl _ _))).mono ?_; rintro e w1 ⟨⟨D, P, a0, a1, a2, a3, hDP, rfl⟩, hb1⟩
    clear hbig
    replace He := Lib.hid (He.out.on (hb1))
    have sz1 := Lib.hid (show w.heap.size + 0 ≤ w1.heap.size by have := hb1.size; (try simp only [World.size_alloc] at this); omega)
    have Hb1 := Lib.hid (bthen (Below.refl _ _) hb1)
    clear hb1
    obtain ⟨X, Y, ok, hap⟩ : ∃ X Y ok, apV D P a0 a1 a2 a3 = (X, Y, ok) := ⟨_, _, _, rfl⟩
    have Hap := Lib.hid hap; clear hap
    go_wp2_with fail
    refine (implApp_is D P a0 a1 a2 a3 X Y ok _ Hap.out ⟨by omega⟩ (He.out.on (bal (bal (Below.refl _ _) _) _))).mono ?_; rintro e w2 ⟨rfl, hb2⟩
    replace He := Lib.hid (He.out.on (bthen (bal (bal (Below.refl _ _) _) _) hb2))
    have jb := Lib.hid (((Blk.new w1 76 #[.string D, .string P]).alloc _).on hb2)
    have rb := Lib.hid ((Blk.new1 w1 _ 78 #[.int .i64 a0, .int .i64 a1, .int .i64 a2, .int .i64 a3]).on hb2)
    have sz2 := Lib.hid (show w1.heap.size + 2 ≤ w2.heap.size by have := hb2.size; (try simp only [World.size_alloc] at this); omega)
    have Hb2 := Lib.hid (bthen (bal (bal (Hb1.out) _) _) hb2)
    clear hb2
    have qjb_0 : w2.cell? ⟨w1.heap.size, 0, none⟩ = some (.string D) := jb.out.cell 0
    have qjb_1 : w2.cell? ⟨w1.heap.size, 1, none⟩ = some (.string P) := jb.out.cell 1
    have qjb_l := jb.out.lt
    have qrb_0 : w2.cell? ⟨w1.heap.size + 1, 0, none⟩ = some (.int .i64 a0) := rb.out.cell 0
    have qrb_1 : w2.cell? ⟨w1.heap.size + 1, 1, none⟩ = some (.int .i64 a1) := rb.out.cell 1
    have qrb_2 : w2.cell? ⟨w1.heap.size + 1, 2, none⟩ = some (.int .i64 a2) := rb.out.cell 2
    have qrb_3 : w2.cell? ⟨w1.heap.size + 1, 3, none⟩ = some (.int .i64 a3) := rb.out.cell 3
    have qrb_l := rb.out.lt
    go_wp2_with fail
    clear qjb_0 qjb_1 qjb_l qrb_0 qrb_1 qrb_2 qrb_3 qrb_l
    refine (specApp_is D P a0 a1 a2 a3 X Y ok _ Hap.out ⟨by omega⟩).mono ?_; rintro e w3 ⟨rfl, hb3⟩
    replace He := Lib.hid (He.out.on (bthen (bal (Below.refl _ _) _) hb3))
    replace jb := Lib.hid (jb.out.on (bthen (bal (Below.refl _ _) _) hb3))
    replace rb := Lib.hid (rb.out.on (bthen (bal (Below.refl _ _) _) hb3))
    have ab := Lib.hid ((Blk.new w2 76 #[.string X, .string Y]).on hb3)
    have sz3 := Lib.hid (show w2.heap.size + 1 ≤ w3.heap.size by have := hb3.size; (try simp only [World.size_alloc] at this); omega)
    have Hb3 := Lib.hid (bthen (bal (Hb2.out) _) hb3)
    clear hb3
    obtain ⟨one, hone⟩ : ∃ b, jrOk D P = b := ⟨_, rfl⟩
    obtain ⟨al, hal⟩ : ∃ al, jrV D P = al := ⟨_, rfl⟩
    have Hone := Lib.hid hone; clear hone
    have Hal := Lib.hid hal; clear hal
    have qjb_0 : w3.cell? ⟨w1.heap.size, 0, none⟩ = some (.string D) := jb.out.cell 0
    have qjb_1 : w3.cell? ⟨w1.heap.size, 1, none⟩ = some (.string P) := jb.out.cell 1
    have qjb_l := jb.out.lt
    go_wp2_with fail
    clear qjb_0 qjb_1 qjb_l
    refine (implJRecs_is D P one al _ Hone.out Hal.out ⟨by omega⟩ (He.out.on (bal (Below.refl _ _) _))).mono ?_; rintro e w4 ⟨⟨vl, rfl, ol⟩, hb4⟩
    have OL := Lib.hid ol
    have GOL := Lib.hid (World.ownsRow.lt ol)
    clear ol
    replace He := Lib.hid (He.out.on (bthen (bal (Below.refl _ _) _) hb4))
    replace jb := Lib.hid (jb.out.on (bthen (bal (Below.refl _ _) _) hb4))
    replace rb := Lib.hid (rb.out.on (bthen (bal (Below.refl _ _) _) hb4))
    replace ab := Lib.hid (ab.out.on (bthen (bal (Below.refl _ _) _) hb4))
    have cb := Lib.hid ((Blk.new w3 76 #[.string X, .string Y]).on hb4)
    have sz4 := Lib.hid (show w3.heap.size + 1 ≤ w4.heap.size by have := hb4.size; (try simp only [World.size_alloc] at this); omega)
    have Hb4 := Lib.hid (bthen (bal (Hb3.out) _) hb4)
    clear hb4
    have qjb_0 : w4.cell? ⟨w1.heap.size, 0, none⟩ = some (.string D) := jb.out.cell 0
    have qjb_1 : w4.cell? ⟨w1.heap.size, 1, none⟩ = some (.string P) := jb.out.cell 1
    have qjb_l := jb.out.lt
    go_wp2_with fail
    clear qjb_0 qjb_1 qjb_l
    refine (specJRecs_is D P one al _ Hone.out Hal.out ⟨by omega⟩).mono ?_; rintro e w5 ⟨⟨vr, rfl, orr⟩, hb5⟩
    have OR := Lib.hid orr
    have GOR := Lib.hid (World.ownsRow.lt orr)
    clear orr
    replace He := Lib.hid (He.out.on (hb5))
    replace jb := Lib.hid (jb.out.on (hb5))
    replace rb := Lib.hid (rb.out.on (hb5))
    replace ab := Lib.hid (ab.out.on (hb5))
    replace cb := Lib.hid (cb.out.on (hb5))
    replace OL := Lib.hid (own_below OL.out (hb5))
    have sz5 := Lib.hid (show w4.heap.size + 0 ≤ w5.heap.size by have := hb5.size; (try simp only [World.size_alloc] at this); omega)
    have Hb5 := Lib.hid (bthen (Hb4.out) hb5)
    clear hb5
    obtain ⟨Z, three, hsy⟩ : ∃ Z ok, syV D P = (Z, ok) := ⟨_, _, rfl⟩
    obtain rfl : three = one := by have h9 := sy_ok D P; rw [hsy, Hone.out] at h9; exact h9
    have Hsy := Lib.hid hsy; clear hsy
    have qjb_0 : w5.cell? ⟨w1.heap.size, 0, none⟩ = some (.string D) := jb.out.cell 0
    have qjb_1 : w5.cell? ⟨w1.heap.size, 1, none⟩ = some (.string P) := jb.out.cell 1
    have qjb_l := jb.out.lt
    go_wp2_with fail
    clear qjb_0 qjb_1 qjb_l
    refine (implSync_is D P Z three _ Hsy.out ⟨by omega⟩ (He.out.on (Below.refl _ _))).mono ?_; rintro e w6 ⟨rfl, hb6⟩
    replace He := Lib.hid (He.out.on (hb6))
    replace jb := Lib.hid (jb.out.on (hb6))
    replace rb := Lib.hid (rb.out.on (hb6))
    replace ab := Lib.hid (ab.out.on (hb6))
    replace cb := Lib.hid (cb.out.on (hb6))
    replace OL := Lib.hid (own_below OL.out (hb6))
    replace OR := Lib.hid (own_below OR.out (hb6))
    have sz6 := Lib.hid (show w5.heap.size + 0 ≤ w6.heap.size by have := hb6.size; (try simp only [World.size_alloc] at this); omega)
    have Hb6 := Lib.hid (bthen (Hb5.out) hb6)
    clear hb6
    have qjb_0 : w6.cell? ⟨w1.heap.size, 0, none⟩ = some (.string D) := jb.out.cell 0
    have qjb_1 : w6.cell? ⟨w1.heap.size, 1, none⟩ = some (.string P) := jb.out.cell 1
    have qjb_l := jb.out.lt
    go_wp2_with fail
    clear qjb_0 qjb_1 qjb_l
    refine (specSync_is D P Z three _ Hsy.out ⟨by omega⟩).mono ?_; rintro e w7 ⟨rfl, hb7⟩
    replace He := Lib.hid (He.out.on (bthen (bal (Below.refl _ _) _) hb7))
    replace jb := Lib.hid (jb.out.on (bthen (bal (Below.refl _ _) _) hb7))
    replace rb := Lib.hid (rb.out.on (bthen (bal (Below.refl _ _) _) hb7))
    replace ab := Lib.hid (ab.out.on (bthen (bal (Below.refl _ _) _) hb7))
    replace cb := Lib.hid (cb.out.on (bthen (bal (Below.refl _ _) _) hb7))
    replace OL := Lib.hid (own_below OL.out (bthen (bal (Below.refl _ _) _) hb7))
    replace OR := Lib.hid (own_below OR.out (bthen (bal (Below.refl _ _) _) hb7))
    have sb := Lib.hid ((Blk.new w6 76 #[.string Z, .string (⟨#[]⟩ : ByteArray)]).on hb7)
    have sz7 := Lib.hid (show w6.heap.size + 1 ≤ w7.heap.size by have := hb7.size; (try simp only [World.size_alloc] at this); omega)
    have Hb7 := Lib.hid (bthen (bal (Hb6.out) _) hb7)
    clear hb7
    go_wp2_with fail
    refine (drawCompact_any B m d _ (Hb.out.on (bal (Hb7.out) _))).mono ?_; rintro e w8 ⟨⟨GD, GP, hG, rfl⟩, hb8⟩
    replace He := Lib.hid (He.out.on (bthen (bal (Below.refl _ _) _) hb8))
    replace jb := Lib.hid (jb.out.on (bthen (bal (Below.refl _ _) _) hb8))
    replace rb := Lib.hid (rb.out.on (bthen (bal (Below.refl _ _) _) hb8))
    replace ab := Lib.hid (ab.out.on (bthen (bal (Below.refl _ _) _) hb8))
    replace cb := Lib.hid (cb.out.on (bthen (bal (Below.refl _ _) _) hb8))
    replace OL := Lib.hid (own_below OL.out (bthen (bal (Below.refl _ _) _) hb8))
    replace OR := Lib.hid (own_below OR.out (bthen (bal (Below.refl _ _) _) hb8))
    replace sb := Lib.hid (sb.out.on (bthen (bal (Below.refl _ _) _) hb8))
    have tb := Lib.hid ((Blk.new w7 76 #[.string Z, .string (⟨#[]⟩ : ByteArray)]).on hb8)
    have sz8 := Lib.hid (show w7.heap.size + 1 ≤ w8.heap.size by have := hb8.size; (try simp only [World.size_alloc] at this); omega)
    have Hb8 := Lib.hid (bthen (bal (Hb7.out) _) hb8)
    clear hb8
    obtain ⟨C, five, hco⟩ : ∃ C ok, coV GD GP = (C, ok) := ⟨_, _, rfl⟩
    have Hco := Lib.hid hco; clear hco
    go_wp2_with fail
    refine (implComp_is GD GP C five _ Hco.out ⟨by omega⟩ (He.out.on (bal (Below.refl _ _) _))).mono ?_; rintro e w9 ⟨rfl, hb9⟩
    replace He := Lib.hid (He.out.on (bthen (bal (Below.refl _ _) _) hb9))
    replace jb := Lib.hid (jb.out.on (bthen (bal (Below.refl _ _) _) hb9))
    replace rb := Lib.hid (rb.out.on (bthen (bal (Below.refl _ _) _) hb9))
    replace ab := Lib.hid (ab.out.on (bthen (bal (Below.refl _ _) _) hb9))
    replace cb := Lib.hid (cb.out.on (bthen (bal (Below.refl _ _) _) hb9))
    replace OL := Lib.hid (own_below OL.out (bthen (bal (Below.refl _ _) _) hb9))
    replace OR := Lib.hid (own_below OR.out (bthen (bal (Below.refl _ _) _) hb9))
    replace sb := Lib.hid (sb.out.on (bthen (bal (Below.refl _ _) _) hb9))
    replace tb := Lib.hid (tb.out.on (bthen (bal (Below.refl _ _) _) hb9))
    have gb := Lib.hid ((Blk.new w8 76 #[.string GD, .string GP]).on hb9)
    have sz9 := Lib.hid (show w8.heap.size + 1 ≤ w9.heap.size by have := hb9.size; (try simp only [World.size_alloc] at this); omega)
    have Hb9 := Lib.hid (bthen (bal (Hb8.out) _) hb9)
    clear hb9
    have qgb_0 : w9.cell? ⟨w8.heap.size, 0, none⟩ = some (.string GD) := gb.out.cell 0
    have qgb_1 : w9.cell? ⟨w8.heap.size, 1, none⟩ = some (.string GP) := gb.out.cell 1
    have qgb_l := gb.out.lt
    go_wp2_with fail
    clear qgb_0 qgb_1 qgb_l
    refine (specComp_is GD GP C five _ Hco.out ⟨by omega⟩).mono ?_; rintro e w10 ⟨rfl, hb10⟩
    replace He := Lib.hid (He.out.on (bthen (bal (Below.refl _ _) _) hb10))
    replace jb := Lib.hid (jb.out.on (bthen (bal (Below.refl _ _) _) hb10))
    replace rb := Lib.hid (rb.out.on (bthen (bal (Below.refl _ _) _) hb10))
    replace ab := Lib.hid (ab.out.on (bthen (bal (Below.refl _ _) _) hb10))
    replace cb := Lib.hid (cb.out.on (bthen (bal (Below.refl _ _) _) hb10))
    replace OL := Lib.hid (own_below OL.out (bthen (bal (Below.refl _ _) _) hb10))
    replace OR := Lib.hid (own_below OR.out (bthen (bal (Below.refl _ _) _) hb10))
    replace sb := Lib.hid (sb.out.on (bthen (bal (Below.refl _ _) _) hb10))
    replace tb := Lib.hid (tb.out.on (bthen (bal (Below.refl _ _) _) hb10))
    replace gb := Lib.hid (gb.out.on (bthen (bal (Below.refl _ _) _) hb10))
    have kb := Lib.hid ((Blk.new w9 76 #[.string C, .string (⟨#[]⟩ : ByteArray)]).on hb10)
    have sz10 := Lib.hid (show w9.heap.size + 1 ≤ w10.heap.size by have := hb10.size; (try simp only [World.size_alloc] at this); omega)
    have Hb10 := Lib.hid (bthen (bal (Hb9.out) _) hb10)
    clear hb10
    obtain ⟨ts, seven, hjc⟩ : ∃ ts ok, jcV GD GP = (ts, ok) := ⟨_, _, rfl⟩
    have Hjc := Lib.hid hjc; clear hjc
    have qgb_0 : w10.cell? ⟨w8.heap.size, 0, none⟩ = some (.string GD) := gb.out.cell 0
    have qgb_1 : w10.cell? ⟨w8.heap.size, 1, none⟩ = some (.string GP) := gb.out.cell 1
    have qgb_l := gb.out.lt
    go_wp2_with fail
    clear qgb_0 qgb_1 qgb_l
    refine (implJc_is GD GP ts seven _ Hjc.out ⟨by omega⟩ (He.out.on (bal (Below.refl _ _) _))).mono ?_; rintro e w11 ⟨⟨vt, rfl, ot⟩, hb11⟩
    have OT := Lib.hid ot
    have GOT := Lib.hid (World.ownsRow.lt ot)
    clear ot
    replace He := Lib.hid (He.out.on (bthen (bal (Below.refl _ _) _) hb11))
    replace jb := Lib.hid (jb.out.on (bthen (bal (Below.refl _ _) _) hb11))
    replace rb := Lib.hid (rb.out.on (bthen (bal (Below.refl _ _) _) hb11))
    replace ab := Lib.hid (ab.out.on (bthen (bal (Below.refl _ _) _) hb11))
    replace cb := Lib.hid (cb.out.on (bthen (bal (Below.refl _ _) _) hb11))
    replace OL := Lib.hid (own_below OL.out (bthen (bal (Below.refl _ _) _) hb11))
    replace OR := Lib.hid (own_below OR.out (bthen (bal (Below.refl _ _) _) hb11))
    replace sb := Lib.hid (sb.out.on (bthen (bal (Below.refl _ _) _) hb11))
    replace tb := Lib.hid (tb.out.on (bthen (bal (Below.refl _ _) _) hb11))
    replace gb := Lib.hid (gb.out.on (bthen (bal (Below.refl _ _) _) hb11))
    replace kb := Lib.hid (kb.out.on (bthen (bal (Below.refl _ _) _) hb11))
    have lb := Lib.hid ((Blk.new w10 76 #[.string C, .string (⟨#[]⟩ : ByteArray)]).on hb11)
    have sz11 := Lib.hid (show w10.heap.size + 1 ≤ w11.heap.size by have := hb11.size; (try simp only [World.size_alloc] at this); omega)
    have Hb11 := Lib.hid (bthen (bal (Hb10.out) _) hb11)
    clear hb11
    have qgb_0 : w11.cell? ⟨w8.heap.size, 0, none⟩ = some (.string GD) := gb.out.cell 0
    have qgb_1 : w11.cell? ⟨w8.heap.size, 1, none⟩ = some (.string GP) := gb.out.cell 1
    have qgb_l := gb.out.lt
    go_wp2_with fail
    clear qgb_0 qgb_1 qgb_l
    refine (specJc_is GD GP ts seven _ Hjc.out ⟨by omega⟩).mono ?_; rintro e w12 ⟨⟨vu, rfl, ou⟩, hb12⟩
    have OU := Lib.hid ou
    have GOU := Lib.hid (World.ownsRow.lt ou)
    clear ou
    replace He := Lib.hid (He.out.on (hb12))
    replace jb := Lib.hid (jb.out.on (hb12))
    replace rb := Lib.hid (rb.out.on (hb12))
    replace ab := Lib.hid (ab.out.on (hb12))
    replace cb := Lib.hid (cb.out.on (hb12))
    replace OL := Lib.hid (own_below OL.out (hb12))
    replace OR := Lib.hid (own_below OR.out (hb12))
    replace sb := Lib.hid (sb.out.on (hb12))
    replace tb := Lib.hid (tb.out.on (hb12))
    replace gb := Lib.hid (gb.out.on (hb12))
    replace kb := Lib.hid (kb.out.on (hb12))
    replace lb := Lib.hid (lb.out.on (hb12))
    replace OT := Lib.hid (own_below OT.out (hb12))
    have sz12 := Lib.hid (show w11.heap.size + 0 ≤ w12.heap.size by have := hb12.size; (try simp only [World.size_alloc] at this); omega)
    have Hb12 := Lib.hid (bthen (Hb11.out) hb12)
    clear hb12
    go_wp2_with fail
    refine (drawBounds_any B m d _ (Hb.out.on (Hb12.out))).mono ?_; rintro e w13 ⟨⟨HD, HP, ea, eb, hH, rfl⟩, hb13⟩
    replace He := Lib.hid (He.out.on (hb13))
    replace jb := Lib.hid (jb.out.on (hb13))
    replace rb := Lib.hid (rb.out.on (hb13))
    replace ab := Lib.hid (ab.out.on (hb13))
    replace cb := Lib.hid (cb.out.on (hb13))
    replace OL := Lib.hid (own_below OL.out (hb13))
    replace OR := Lib.hid (own_below OR.out (hb13))
    replace sb := Lib.hid (sb.out.on (hb13))
    replace tb := Lib.hid (tb.out.on (hb13))
    replace gb := Lib.hid (gb.out.on (hb13))
    replace kb := Lib.hid (kb.out.on (hb13))
    replace lb := Lib.hid (lb.out.on (hb13))
    replace OT := Lib.hid (own_below OT.out (hb13))
    replace OU := Lib.hid (own_below OU.out (hb13))
    have sz13 := Lib.hid (show w12.heap.size + 0 ≤ w13.heap.size by have := hb13.size; (try simp only [World.size_alloc] at this); omega)
    have Hb13 := Lib.hid (bthen (Hb12.out) hb13)
    clear hb13
    obtain ⟨lo, hi, nine, hbi⟩ : ∃ lo hi ok, biV HD HP ea eb = (lo, hi, ok) := ⟨_, _, _, rfl⟩
    have Hbi := Lib.hid hbi; clear hbi
    go_wp2_with fail
    refine (implBn_is HD HP ea eb lo hi nine _ Hbi.out ⟨by omega⟩ (He.out.on (bal (bal (Below.refl _ _) _) _))).mono ?_; rintro e w14 ⟨rfl, hb14⟩
    replace He := Lib.hid (He.out.on (bthen (bal (bal (Below.refl _ _) _) _) hb14))
    replace jb := Lib.hid (jb.out.on (bthen (bal (bal (Below.refl _ _) _) _) hb14))
    replace rb := Lib.hid (rb.out.on (bthen (bal (bal (Below.refl _ _) _) _) hb14))
    replace ab := Lib.hid (ab.out.on (bthen (bal (bal (Below.refl _ _) _) _) hb14))
    replace cb := Lib.hid (cb.out.on (bthen (bal (bal (Below.refl _ _) _) _) hb14))
    replace OL := Lib.hid (own_below OL.out (bthen (bal (bal (Below.refl _ _) _) _) hb14))
    replace OR := Lib.hid (own_below OR.out (bthen (bal (bal (Below.refl _ _) _) _) hb14))
    replace sb := Lib.hid (sb.out.on (bthen (bal (bal (Below.refl _ _) _) _) hb14))
    replace tb := Lib.hid (tb.out.on (bthen (bal (bal (Below.refl _ _) _) _) hb14))
    replace gb := Lib.hid (gb.out.on (bthen (bal (bal (Below.refl _ _) _) _) hb14))
    replace kb := Lib.hid (kb.out.on (bthen (bal (bal (Below.refl _ _) _) _) hb14))
    replace lb := Lib.hid (lb.out.on (bthen (bal (bal (Below.refl _ _) _) _) hb14))
    replace OT := Lib.hid (own_below OT.out (bthen (bal (bal (Below.refl _ _) _) _) hb14))
    replace OU := Lib.hid (own_below OU.out (bthen (bal (bal (Below.refl _ _) _) _) hb14))
    have hb9 := Lib.hid (((Blk.new w13 76 #[.string HD, .string HP]).alloc _).on hb14)
    have eb9 := Lib.hid ((Blk.new1 w13 _ 25 #[.int .i64 ea, .int .i64 eb]).on hb14)
    have sz14 := Lib.hid (show w13.heap.size + 2 ≤ w14.heap.size by have := hb14.size; (try simp only [World.size_alloc] at this); omega)
    have Hb14 := Lib.hid (bthen (bal (bal (Hb13.out) _) _) hb14)
    clear hb14
    have qhb9_0 : w14.cell? ⟨w13.heap.size, 0, none⟩ = some (.string HD) := hb9.out.cell 0
    have qhb9_1 : w14.cell? ⟨w13.heap.size, 1, none⟩ = some (.string HP) := hb9.out.cell 1
    have qhb9_l := hb9.out.lt
    have qeb9_0 : w14.cell? ⟨w13.heap.size + 1, 0, none⟩ = some (.int .i64 ea) := eb9.out.cell 0
    have qeb9_1 : w14.cell? ⟨w13.heap.size + 1, 1, none⟩ = some (.int .i64 eb) := eb9.out.cell 1
    have qeb9_l := eb9.out.lt
    go_wp2_with fail
    clear qhb9_0 qhb9_1 qhb9_l qeb9_0 qeb9_1 qeb9_l
    refine (specBn_is HD HP ea eb lo hi nine _ Hbi.out ⟨by omega⟩).mono ?_; rintro e w15 ⟨rfl, hb15⟩
    replace He := Lib.hid (He.out.on (hb15))
    replace jb := Lib.hid (jb.out.on (hb15))
    replace rb := Lib.hid (rb.out.on (hb15))
    replace ab := Lib.hid (ab.out.on (hb15))
    replace cb := Lib.hid (cb.out.on (hb15))
    replace OL := Lib.hid (own_below OL.out (hb15))
    replace OR := Lib.hid (own_below OR.out (hb15))
    replace sb := Lib.hid (sb.out.on (hb15))
    replace tb := Lib.hid (tb.out.on (hb15))
    replace gb := Lib.hid (gb.out.on (hb15))
    replace kb := Lib.hid (kb.out.on (hb15))
    replace lb := Lib.hid (lb.out.on (hb15))
    replace OT := Lib.hid (own_below OT.out (hb15))
    replace OU := Lib.hid (own_below OU.out (hb15))
    replace hb9 := Lib.hid (hb9.out.on (hb15))
    replace eb9 := Lib.hid (eb9.out.on (hb15))
    have sz15 := Lib.hid (show w14.heap.size + 0 ≤ w15.heap.size by have := hb15.size; (try simp only [World.size_alloc] at this); omega)
    have Hb15 := Lib.hid (bthen (Hb14.out) hb15)
    clear hb15
    clear hb9
    clear eb9
    obtain ⟨ir, hir⟩ : ∃ b, recB a0 a1 a2 a3 = b := ⟨_, rfl⟩
    have Hir := Lib.hid hir; clear hir
    have hnj0 := neqJn X Y
    have hnj1 := neqJn Z ⟨#[]⟩
    have hnj2 := neqJn C ⟨#[]⟩
    as_aux_lemma =>
      go_upto_region 18 with fail
      go_cut [231] from 142 to 231 (fun r wx => r = .bool false ∧ Below w15.heap.size w15 wx)
      case first =>
        as_aux_lemma =>
          cases ok
          · have hL : Rd rcS w15 w15.heap.size (vl) al := (Rd.of_own (S := rcS) OL.out rfl).on (Below.refl _ _)
            have hR : Rd rcS w15 w15.heap.size (vr) al := (Rd.of_own (S := rcS) OR.out rfl).on (Below.refl _ _)
            have hT1 : Rd enS w15 w15.heap.size (vt) ts := (Rd.of_own (S := enS) OT.out rfl).on (Below.refl _ _)
            have hU : Rd enS w15 w15.heap.size (vu) ts := (Rd.of_own (S := enS) OU.out rfl).on (Below.refl _ _)
            have qjb_0 : w15.cell? ⟨w1.heap.size, 0, none⟩ = some (.string D) := jb.out.cell 0
            have qjb_1 : w15.cell? ⟨w1.heap.size, 1, none⟩ = some (.string P) := jb.out.cell 1
            have qjb_l := jb.out.lt
            have qrb_0 : w15.cell? ⟨w1.heap.size + 1, 0, none⟩ = some (.int .i64 a0) := rb.out.cell 0
            have qrb_1 : w15.cell? ⟨w1.heap.size + 1, 1, none⟩ = some (.int .i64 a1) := rb.out.cell 1
            have qrb_2 : w15.cell? ⟨w1.heap.size + 1, 2, none⟩ = some (.int .i64 a2) := rb.out.cell 2
            have qrb_3 : w15.cell? ⟨w1.heap.size + 1, 3, none⟩ = some (.int .i64 a3) := rb.out.cell 3
            have qrb_l := rb.out.lt
            have qab_0 : w15.cell? ⟨w2.heap.size, 0, none⟩ = some (.string X) := ab.out.cell 0
            have qab_1 : w15.cell? ⟨w2.heap.size, 1, none⟩ = some (.string Y) := ab.out.cell 1
            have qab_l := ab.out.lt
            have qcb_0 : w15.cell? ⟨w3.heap.size, 0, none⟩ = some (.string X) := cb.out.cell 0
            have qcb_1 : w15.cell? ⟨w3.heap.size, 1, none⟩ = some (.string Y) := cb.out.cell 1
            have qcb_l := cb.out.lt
            have qsb_0 : w15.cell? ⟨w6.heap.size, 0, none⟩ = some (.string Z) := sb.out.cell 0
            have qsb_1 : w15.cell? ⟨w6.heap.size, 1, none⟩ = some (.string (⟨#[]⟩ : ByteArray)) := sb.out.cell 1
            have qsb_l := sb.out.lt
            have qtb_0 : w15.cell? ⟨w7.heap.size, 0, none⟩ = some (.string Z) := tb.out.cell 0
            have qtb_1 : w15.cell? ⟨w7.heap.size, 1, none⟩ = some (.string (⟨#[]⟩ : ByteArray)) := tb.out.cell 1
            have qtb_l := tb.out.lt
            have qkb_0 : w15.cell? ⟨w9.heap.size, 0, none⟩ = some (.string C) := kb.out.cell 0
            have qkb_1 : w15.cell? ⟨w9.heap.size, 1, none⟩ = some (.string (⟨#[]⟩ : ByteArray)) := kb.out.cell 1
            have qkb_l := kb.out.lt
            have qlb_0 : w15.cell? ⟨w10.heap.size, 0, none⟩ = some (.string C) := lb.out.cell 0
            have qlb_1 : w15.cell? ⟨w10.heap.size, 1, none⟩ = some (.string (⟨#[]⟩ : ByteArray)) := lb.out.cell 1
            have qlb_l := lb.out.lt
            go_wp2_with fail
            refine wp_region_tame (by kernel_rfl) (by kernel_rfl) (fun T _ W hT => ?_)
            have hx := hT.cell
            simp only [List.append_eq, List.cons_append, List.nil_append]
            repeat (go_big_quiet_step ((first | (go_at_call 67; exact hT.call (qRc_same _ _ al _ (hL.on (hT.below _)) (hR.on (hT.below _)))) | (go_at_call 22; exact hT.call (qEnJ_same _ _ ts _ (hT1.on (hT.below _)) (hU.on (hT.below _)))) | (go_at_call 68; exact hT.call (implIsJ_is _ _ three _ Hone.out ⟨by omega⟩ (He.out.on (hT.below _)))) | (go_at_call 69; exact hT.call (implIsRc_is _ _ _ _ ir _ Hir.out)) | (go_at_call 70; exact hT.call (specIsRc_is _ _ _ _ ir _ Hir.out)))))
            refine wpQuiet_nil ?_
            intro tt
            clear hx
            have hb16 := hT.below tt
            generalize W tt = w16 at hb16 ⊢
            clear hT
            clear qjb_0 qjb_1 qjb_l qrb_0 qrb_1 qrb_2 qrb_3 qrb_l qab_0 qab_1 qab_l qcb_0 qcb_1 qcb_l qsb_0 qsb_1 qsb_l qtb_0 qtb_1 qtb_l qkb_0 qkb_1 qkb_l qlb_0 qlb_1 qlb_l
            clear hL hR hT1 hU
            replace He := Lib.hid (He.out.on (hb16))
            replace jb := Lib.hid (jb.out.on (hb16))
            replace rb := Lib.hid (rb.out.on (hb16))
            replace ab := Lib.hid (ab.out.on (hb16))
            replace cb := Lib.hid (cb.out.on (hb16))
            replace OL := Lib.hid (own_below OL.out (hb16))
            replace OR := Lib.hid (own_below OR.out (hb16))
            replace sb := Lib.hid (sb.out.on (hb16))
            replace tb := Lib.hid (tb.out.on (hb16))
            replace gb := Lib.hid (gb.out.on (hb16))
            replace kb := Lib.hid (kb.out.on (hb16))
            replace lb := Lib.hid (lb.out.on (hb16))
            replace OT := Lib.hid (own_below OT.out (hb16))
            replace OU := Lib.hid (own_below OU.out (hb16))
            have sz16 := Lib.hid (show w15.heap.size + 0 ≤ w16.heap.size by have := hb16.size; (try simp only [World.size_alloc] at this); omega)
            have Hb16 := Lib.hid (bthen (Below.refl _ _) hb16)
            clear hb16
            go_wp2
            go_meet
            exact ⟨rfl, Hb16.out⟩
          · obtain ⟨-, hjo, -, -, -⟩ := app_law Hap.out
            obtain rfl : three = true := Hone.out.symm.trans hjo
            clear hjo
            have hL : Rd rcS w15 w15.heap.size (vl) al := (Rd.of_own (S := rcS) OL.out rfl).on (Below.refl _ _)
            have hR : Rd rcS w15 w15.heap.size (vr) al := (Rd.of_own (S := rcS) OR.out rfl).on (Below.refl _ _)
            have hT1 : Rd enS w15 w15.heap.size (vt) ts := (Rd.of_own (S := enS) OT.out rfl).on (Below.refl _ _)
            have hU : Rd enS w15 w15.heap.size (vu) ts := (Rd.of_own (S := enS) OU.out rfl).on (Below.refl _ _)
            have qjb_0 : w15.cell? ⟨w1.heap.size, 0, none⟩ = some (.string D) := jb.out.cell 0
            have qjb_1 : w15.cell? ⟨w1.heap.size, 1, none⟩ = some (.string P) := jb.out.cell 1
            have qjb_l := jb.out.lt
            have qrb_0 : w15.cell? ⟨w1.heap.size + 1, 0, none⟩ = some (.int .i64 a0) := rb.out.cell 0
            have qrb_1 : w15.cell? ⟨w1.heap.size + 1, 1, none⟩ = some (.int .i64 a1) := rb.out.cell 1
            have qrb_2 : w15.cell? ⟨w1.heap.size + 1, 2, none⟩ = some (.int .i64 a2) := rb.out.cell 2
            have qrb_3 : w15.cell? ⟨w1.heap.size + 1, 3, none⟩ = some (.int .i64 a3) := rb.out.cell 3
            have qrb_l := rb.out.lt
            have qab_0 : w15.cell? ⟨w2.heap.size, 0, none⟩ = some (.string X) := ab.out.cell 0
            have qab_1 : w15.cell? ⟨w2.heap.size, 1, none⟩ = some (.string Y) := ab.out.cell 1
            have qab_l := ab.out.lt
            have qcb_0 : w15.cell? ⟨w3.heap.size, 0, none⟩ = some (.string X) := cb.out.cell 0
            have qcb_1 : w15.cell? ⟨w3.heap.size, 1, none⟩ = some (.string Y) := cb.out.cell 1
            have qcb_l := cb.out.lt
            have qsb_0 : w15.cell? ⟨w6.heap.size, 0, none⟩ = some (.string Z) := sb.out.cell 0
            have qsb_1 : w15.cell? ⟨w6.heap.size, 1, none⟩ = some (.string (⟨#[]⟩ : ByteArray)) := sb.out.cell 1
            have qsb_l := sb.out.lt
            have qtb_0 : w15.cell? ⟨w7.heap.size, 0, none⟩ = some (.string Z) := tb.out.cell 0
            have qtb_1 : w15.cell? ⟨w7.heap.size, 1, none⟩ = some (.string (⟨#[]⟩ : ByteArray)) := tb.out.cell 1
            have qtb_l := tb.out.lt
            have qkb_0 : w15.cell? ⟨w9.heap.size, 0, none⟩ = some (.string C) := kb.out.cell 0
            have qkb_1 : w15.cell? ⟨w9.heap.size, 1, none⟩ = some (.string (⟨#[]⟩ : ByteArray)) := kb.out.cell 1
            have qkb_l := kb.out.lt
            have qlb_0 : w15.cell? ⟨w10.heap.size, 0, none⟩ = some (.string C) := lb.out.cell 0
            have qlb_1 : w15.cell? ⟨w10.heap.size, 1, none⟩ = some (.string (⟨#[]⟩ : ByteArray)) := lb.out.cell 1
            have qlb_l := lb.out.lt
            go_wp2_with fail
            refine wp_region_tame (by kernel_rfl) (by kernel_rfl) (fun T _ W hT => ?_)
            have hx := hT.cell
            simp only [List.append_eq, List.cons_append, List.nil_append]
            repeat (go_big_quiet_step ((first | (go_at_call 67; exact hT.call (qRc_same _ _ al _ (hL.on (hT.below _)) (hR.on (hT.below _)))) | (go_at_call 22; exact hT.call (qEnJ_same _ _ ts _ (hT1.on (hT.below _)) (hU.on (hT.below _)))) | (go_at_call 68; exact hT.call (implIsJ_is _ _ true _ Hone.out ⟨by omega⟩ (He.out.on (hT.below _)))) | (go_at_call 69; exact hT.call (implIsRc_is _ _ _ _ ir _ Hir.out)) | (go_at_call 70; exact hT.call (specIsRc_is _ _ _ _ ir _ Hir.out)))))
            refine wpQuiet_nil ?_
            intro tt
            clear hx
            have hb16 := hT.below tt
            generalize W tt = w16 at hb16 ⊢
            clear hT
            clear qjb_0 qjb_1 qjb_l qrb_0 qrb_1 qrb_2 qrb_3 qrb_l qab_0 qab_1 qab_l qcb_0 qcb_1 qcb_l qsb_0 qsb_1 qsb_l qtb_0 qtb_1 qtb_l qkb_0 qkb_1 qkb_l qlb_0 qlb_1 qlb_l
            clear hL hR hT1 hU
            replace He := Lib.hid (He.out.on (hb16))
            replace jb := Lib.hid (jb.out.on (hb16))
            replace rb := Lib.hid (rb.out.on (hb16))
            replace ab := Lib.hid (ab.out.on (hb16))
            replace cb := Lib.hid (cb.out.on (hb16))
            replace OL := Lib.hid (own_below OL.out (hb16))
            replace OR := Lib.hid (own_below OR.out (hb16))
            replace sb := Lib.hid (sb.out.on (hb16))
            replace tb := Lib.hid (tb.out.on (hb16))
            replace gb := Lib.hid (gb.out.on (hb16))
            replace kb := Lib.hid (kb.out.on (hb16))
            replace lb := Lib.hid (lb.out.on (hb16))
            replace OT := Lib.hid (own_below OT.out (hb16))
            replace OU := Lib.hid (own_below OU.out (hb16))
            have sz16 := Lib.hid (show w15.heap.size + 0 ≤ w16.heap.size by have := hb16.size; (try simp only [World.size_alloc] at this); omega)
            have Hb16 := Lib.hid (bthen (Below.refl _ _) hb16)
            clear hb16
            go_wp2
            go_meet
            exact ⟨rfl, Hb16.out⟩
      obtain ⟨rfl, hbc⟩ := hcut
      obtain ⟨w16, hw9⟩ : ∃ x, x = wc := ⟨_, rfl⟩
      subst hw9
      have hb16 := hbc; clear hbc
      replace He := Lib.hid (He.out.on (hb16))
      replace jb := Lib.hid (jb.out.on (hb16))
      replace rb := Lib.hid (rb.out.on (hb16))
      replace ab := Lib.hid (ab.out.on (hb16))
      replace cb := Lib.hid (cb.out.on (hb16))
      replace OL := Lib.hid (own_below OL.out (hb16))
      replace OR := Lib.hid (own_below OR.out (hb16))
      replace sb := Lib.hid (sb.out.on (hb16))
      replace tb := Lib.hid (tb.out.on (hb16))
      replace gb := Lib.hid (gb.out.on (hb16))
      replace kb := Lib.hid (kb.out.on (hb16))
      replace lb := Lib.hid (lb.out.on (hb16))
      replace OT := Lib.hid (own_below OT.out (hb16))
      replace OU := Lib.hid (own_below OU.out (hb16))
      have sz16 := Lib.hid (show w15.heap.size + 0 ≤ w16.heap.size by have := hb16.size; (try simp only [World.size_alloc] at this); omega)
      have Hb16 := Lib.hid (bthen (Hb15.out) hb16)
      clear hb16
      clear Hir hnj0 hnj1 hnj2
      clear OL
      clear sz1 Hb1 sz2 Hb2 sz3 GOL Hb3 sz4 GOR Hb4 sz5 Hb5 sz6 Hb6 sz7 Hb7 sz8 Hb8 sz9 Hb9 sz10 GOT Hb10 sz11 GOU Hb11 sz12 Hb12 sz13 Hb13 sz14 Hb14 sz15 Hb15 sz16
      go_upto_if 232 with fail
      go_cut [4] from 36 to 276 (fun r wx => Below w16.heap.size w16 wx)
      case first =>
        as_aux_lemma =>
          cases ok
          · go_wp2
            go_meet
            exact Below.refl _ _
          · obtain ⟨hXD, hjo, hjX, hvX, hrr⟩ := app_law Hap.out
            have hXs := jr_size hjX
            clear hXD hjo hrr Hap
            obtain ⟨kl, hkl⟩ : ∃ l, jrV X Y = l := ⟨_, rfl⟩
            rw [Hal.out, hkl] at hvX
            have hkn : kl.length = al.length + 1 := by rw [hvX, List.length_append]; rfl
            have hkg : rcS.get kl al.length = ⟨a0, a1, a2, a3⟩ := by rw [hvX]; unfold Shape.get; rw [List.getD_eq_getElem?_getD, List.getElem?_append_right (Nat.le_refl _), Nat.sub_self]; rfl
            have haln : al.length ≤ 30 := by rw [← Hal.out]; exact jrV_le _ _
            have HhjX := Lib.hid hjX; clear hjX
            have Hhkl := Lib.hid hkl; clear hkl
            have Hhkg := Lib.hid hkg; clear hkg
            have Hhkn := Lib.hid hkn; clear hkn
            clear hvX
            have qab_0 : w16.cell? ⟨w2.heap.size, 0, none⟩ = some (.string X) := ab.out.cell 0
            have qab_1 : w16.cell? ⟨w2.heap.size, 1, none⟩ = some (.string Y) := ab.out.cell 1
            have qab_l := ab.out.lt
            go_wp2_with fail
            clear qab_0 qab_1 qab_l
            refine (implJRecs_is X Y true kl _ HhjX.out Hhkl.out ⟨by omega⟩ (He.out.on (Below.refl _ _))).mono ?_; rintro e w17 ⟨⟨v1, rfl, o1⟩, hb17⟩
            have O1 := Lib.hid o1
            have GO1 := Lib.hid (World.ownsRow.lt o1)
            clear o1
            replace He := Lib.hid (He.out.on (hb17))
            replace jb := Lib.hid (jb.out.on (hb17))
            replace rb := Lib.hid (rb.out.on (hb17))
            replace ab := Lib.hid (ab.out.on (hb17))
            replace cb := Lib.hid (cb.out.on (hb17))
            replace OR := Lib.hid (own_below OR.out (hb17))
            replace sb := Lib.hid (sb.out.on (hb17))
            replace tb := Lib.hid (tb.out.on (hb17))
            replace gb := Lib.hid (gb.out.on (hb17))
            replace kb := Lib.hid (kb.out.on (hb17))
            replace lb := Lib.hid (lb.out.on (hb17))
            replace OT := Lib.hid (own_below OT.out (hb17))
            replace OU := Lib.hid (own_below OU.out (hb17))
            have sz17 := Lib.hid (show w16.heap.size + 0 ≤ w17.heap.size by have := hb17.size; (try simp only [World.size_alloc] at this); omega)
            have Hb17 := Lib.hid (bthen (Below.refl _ _) hb17)
            clear hb17
            have qcb_0 : w17.cell? ⟨w3.heap.size, 0, none⟩ = some (.string X) := cb.out.cell 0
            have qcb_1 : w17.cell? ⟨w3.heap.size, 1, none⟩ = some (.string Y) := cb.out.cell 1
            have qcb_l := cb.out.lt
            go_wp2_with fail
            clear qcb_0 qcb_1 qcb_l
            refine (specJRecs_is X Y true kl _ HhjX.out Hhkl.out ⟨by omega⟩).mono ?_; rintro e w18 ⟨⟨v2, rfl, o2⟩, hb18⟩
            have O2 := Lib.hid o2
            have GO2 := Lib.hid (World.ownsRow.lt o2)
            clear o2
            replace He := Lib.hid (He.out.on (hb18))
            replace jb := Lib.hid (jb.out.on (hb18))
            replace rb := Lib.hid (rb.out.on (hb18))
            replace ab := Lib.hid (ab.out.on (hb18))
            replace cb := Lib.hid (cb.out.on (hb18))
            replace OR := Lib.hid (own_below OR.out (hb18))
            replace sb := Lib.hid (sb.out.on (hb18))
            replace tb := Lib.hid (tb.out.on (hb18))
            replace gb := Lib.hid (gb.out.on (hb18))
            replace kb := Lib.hid (kb.out.on (hb18))
            replace lb := Lib.hid (lb.out.on (hb18))
            replace OT := Lib.hid (own_below OT.out (hb18))
            replace OU := Lib.hid (own_below OU.out (hb18))
            replace O1 := Lib.hid (own_below O1.out (hb18))
            have sz18 := Lib.hid (show w17.heap.size + 0 ≤ w18.heap.size by have := hb18.size; (try simp only [World.size_alloc] at this); omega)
            have Hb18 := Lib.hid (bthen (Hb17.out) hb18)
            clear hb18
            obtain ⟨A1, c1, rfl, -, -, -⟩ := Rd.of_own (S := rcS) O1.out rfl
            obtain ⟨A2, c2, rfl, hc2, hm2, hA2⟩ := Rd.of_own (S := rcS) O2.out rfl; unfold maxLen at hm2
            obtain ⟨A3, c3, rfl, hc3, hm3, -⟩ := Rd.of_own (S := rcS) OR.out rfl; unfold maxLen at hm3
            obtain ⟨g8, f8, rfl, hg8, hcell8⟩ := hA2 (by have := Hhkn.out; omega)
            obtain ⟨f0, f1, f2, f3⟩ := rc_cells hcell8 al.length (by have := Hhkn.out; omega)
            rw [Hhkg.out] at f0 f1 f2 f3
            simp only at f0 f1 f2 f3
            clear hA2 hcell8
            have hnr := neqRc ⟨a0, a1, a2, a3⟩
            simp only at hnr
            have hkne : ((kl.length : Int) != (al.length : Int) + 1) = false := by rw [Hhkn.out]; simp
            have hki : (al.length : Int) < (kl.length : Int) := by have := Hhkn.out; omega
            have hk0 : (0 : Int) ≤ (al.length : Int) := by omega
            have hr1 := Rd.of_own (S := rcS) O1.out rfl; have hr2 := Rd.of_own (S := rcS) O2.out rfl
            have qrb_0 : w18.cell? ⟨w1.heap.size + 1, 0, none⟩ = some (.int .i64 a0) := rb.out.cell 0
            have qrb_1 : w18.cell? ⟨w1.heap.size + 1, 1, none⟩ = some (.int .i64 a1) := rb.out.cell 1
            have qrb_2 : w18.cell? ⟨w1.heap.size + 1, 2, none⟩ = some (.int .i64 a2) := rb.out.cell 2
            have qrb_3 : w18.cell? ⟨w1.heap.size + 1, 3, none⟩ = some (.int .i64 a3) := rb.out.cell 3
            have qrb_l := rb.out.lt
            have qab_0 : w18.cell? ⟨w2.heap.size, 0, none⟩ = some (.string X) := ab.out.cell 0
            have qab_1 : w18.cell? ⟨w2.heap.size, 1, none⟩ = some (.string Y) := ab.out.cell 1
            have qab_l := ab.out.lt
            go_wp2_with fail
            refine wp_region_tame (by kernel_rfl) (by kernel_rfl) (fun T _ W hT => ?_)
            have hx := hT.cell
            repeat (go_big_quiet_step ((first | (go_at_call 67; exact hT.call (qRc_same _ _ kl _ (hr1.on (hT.below _)) (hr2.on (hT.below _)))) | (go_at_call 68; exact hT.call (implIsJ_is _ _ true _ HhjX.out ⟨by omega⟩ (He.out.on (hT.below _)))))))
            refine wpQuiet_nil ?_
            intro tt
            clear hx
            have hb19 := hT.below tt
            generalize W tt = w19 at hb19 ⊢
            clear hT
            clear qrb_0 qrb_1 qrb_2 qrb_3 qrb_l qab_0 qab_1 qab_l
            replace He := Lib.hid (He.out.on (hb19))
            replace jb := Lib.hid (jb.out.on (hb19))
            replace rb := Lib.hid (rb.out.on (hb19))
            replace ab := Lib.hid (ab.out.on (hb19))
            replace cb := Lib.hid (cb.out.on (hb19))
            replace OR := Lib.hid (own_below OR.out (hb19))
            replace sb := Lib.hid (sb.out.on (hb19))
            replace tb := Lib.hid (tb.out.on (hb19))
            replace gb := Lib.hid (gb.out.on (hb19))
            replace kb := Lib.hid (kb.out.on (hb19))
            replace lb := Lib.hid (lb.out.on (hb19))
            replace OT := Lib.hid (own_below OT.out (hb19))
            replace OU := Lib.hid (own_below OU.out (hb19))
            replace O1 := Lib.hid (own_below O1.out (hb19))
            replace O2 := Lib.hid (own_below O2.out (hb19))
            have sz19 := Lib.hid (show w18.heap.size + 0 ≤ w19.heap.size by have := hb19.size; (try simp only [World.size_alloc] at this); omega)
            have Hb19 := Lib.hid (bthen (Hb18.out) hb19)
            clear hb19
            clear f0 f1 f2 f3 hnr hkne hki hk0 hr1 hr2
            go_wp2
            go_meet
            exact Hb19.out
      have hbc := hcut
      obtain ⟨w17, hw9⟩ : ∃ x, x = wc := ⟨_, rfl⟩
      subst hw9
      have hb17 := hbc; clear hbc
      replace He := Lib.hid (He.out.on (hb17))
      replace jb := Lib.hid (jb.out.on (hb17))
      replace rb := Lib.hid (rb.out.on (hb17))
      replace ab := Lib.hid (ab.out.on (hb17))
      replace cb := Lib.hid (cb.out.on (hb17))
      replace OR := Lib.hid (own_below OR.out (hb17))
      replace sb := Lib.hid (sb.out.on (hb17))
      replace tb := Lib.hid (tb.out.on (hb17))
      replace gb := Lib.hid (gb.out.on (hb17))
      replace kb := Lib.hid (kb.out.on (hb17))
      replace lb := Lib.hid (lb.out.on (hb17))
      replace OT := Lib.hid (own_below OT.out (hb17))
      replace OU := Lib.hid (own_below OU.out (hb17))
      have sz17 := Lib.hid (show w16.heap.size + 0 ≤ w17.heap.size by have := hb17.size; (try simp only [World.size_alloc] at this); omega)
      have Hb17 := Lib.hid (bthen (Hb16.out) hb17)
      clear hb17
      clear rb
      clear ab
      clear cb
      clear Hap
      clear Hb16 sz17
      go_upto_if 277 with fail
      go_cut [4] from 36 to 295 (fun r wx => Below w17.heap.size w17 wx)
      case first =>
        as_aux_lemma =>
          cases three
          · go_wp2
            go_meet
            exact Below.refl _ _
          · obtain ⟨hjD, hjZ, hrZ⟩ := sync_law Hsy.out
            have hZ1 := jr_size hjZ
            have HjZ := Lib.hid hjZ; have HrZ := Lib.hid (hrZ.trans Hal.out); clear hjZ hrZ hjD Hsy
            have qsb_0 : w17.cell? ⟨w6.heap.size, 0, none⟩ = some (.string Z) := sb.out.cell 0
            have qsb_1 : w17.cell? ⟨w6.heap.size, 1, none⟩ = some (.string (⟨#[]⟩ : ByteArray)) := sb.out.cell 1
            have qsb_l := sb.out.lt
            go_wp2_with fail
            clear qsb_0 qsb_1 qsb_l
            refine (implJRecs_is Z ⟨#[]⟩ true al _ HjZ.out HrZ.out (jb_of (by omega)) (He.out.on (Below.refl _ _))).mono ?_; rintro e w18 ⟨⟨vz, rfl, oz⟩, hb18⟩
            have OZ := Lib.hid oz
            have GOZ := Lib.hid (World.ownsRow.lt oz)
            clear oz
            replace He := Lib.hid (He.out.on (hb18))
            replace jb := Lib.hid (jb.out.on (hb18))
            replace OR := Lib.hid (own_below OR.out (hb18))
            replace sb := Lib.hid (sb.out.on (hb18))
            replace tb := Lib.hid (tb.out.on (hb18))
            replace gb := Lib.hid (gb.out.on (hb18))
            replace kb := Lib.hid (kb.out.on (hb18))
            replace lb := Lib.hid (lb.out.on (hb18))
            replace OT := Lib.hid (own_below OT.out (hb18))
            replace OU := Lib.hid (own_below OU.out (hb18))
            have sz18 := Lib.hid (show w17.heap.size + 0 ≤ w18.heap.size by have := hb18.size; (try simp only [World.size_alloc] at this); omega)
            have Hb18 := Lib.hid (bthen (Below.refl _ _) hb18)
            clear hb18
            clear HjZ HrZ
            have qtb_0 : w18.cell? ⟨w7.heap.size, 0, none⟩ = some (.string Z) := tb.out.cell 0
            have qtb_1 : w18.cell? ⟨w7.heap.size, 1, none⟩ = some (.string (⟨#[]⟩ : ByteArray)) := tb.out.cell 1
            have qtb_l := tb.out.lt
            go_wp2_with fail
            clear qtb_0 qtb_1 qtb_l
            refine (qRc_same _ _ al _ (Rd.of_own OZ.out rfl) (Rd.of_own OR.out rfl)).mono ?_; rintro e w19 ⟨rfl, hb19⟩
            replace He := Lib.hid (He.out.on (hb19))
            replace jb := Lib.hid (jb.out.on (hb19))
            replace OR := Lib.hid (own_below OR.out (hb19))
            replace sb := Lib.hid (sb.out.on (hb19))
            replace tb := Lib.hid (tb.out.on (hb19))
            replace gb := Lib.hid (gb.out.on (hb19))
            replace kb := Lib.hid (kb.out.on (hb19))
            replace lb := Lib.hid (lb.out.on (hb19))
            replace OT := Lib.hid (own_below OT.out (hb19))
            replace OU := Lib.hid (own_below OU.out (hb19))
            replace OZ := Lib.hid (own_below OZ.out (hb19))
            have sz19 := Lib.hid (show w18.heap.size + 0 ≤ w19.heap.size by have := hb19.size; (try simp only [World.size_alloc] at this); omega)
            have Hb19 := Lib.hid (bthen (Hb18.out) hb19)
            clear hb19
            clear OZ
            have qtb_0 : w19.cell? ⟨w7.heap.size, 0, none⟩ = some (.string Z) := tb.out.cell 0
            have qtb_1 : w19.cell? ⟨w7.heap.size, 1, none⟩ = some (.string (⟨#[]⟩ : ByteArray)) := tb.out.cell 1
            have qtb_l := tb.out.lt
            go_wp2
            go_meet
            exact Hb19.out
      have hbc := hcut
      obtain ⟨w18, hw9⟩ : ∃ x, x = wc := ⟨_, rfl⟩
      subst hw9
      have hb18 := hbc; clear hbc
      replace He := Lib.hid (He.out.on (hb18))
      replace jb := Lib.hid (jb.out.on (hb18))
      replace OR := Lib.hid (own_below OR.out (hb18))
      replace sb := Lib.hid (sb.out.on (hb18))
      replace tb := Lib.hid (tb.out.on (hb18))
      replace gb := Lib.hid (gb.out.on (hb18))
      replace kb := Lib.hid (kb.out.on (hb18))
      replace lb := Lib.hid (lb.out.on (hb18))
      replace OT := Lib.hid (own_below OT.out (hb18))
      replace OU := Lib.hid (own_below OU.out (hb18))
      have sz18 := Lib.hid (show w17.heap.size + 0 ≤ w18.heap.size by have := hb18.size; (try simp only [World.size_alloc] at this); omega)
      have Hb18 := Lib.hid (bthen (Hb17.out) hb18)
      clear hb18
      clear jb
      clear sb
      clear tb
      clear OR
      clear Hone Hal Hsy
      clear Hb17 sz18
      go_upto_if 296 with fail
      go_cut [4] from 36 to 364 (fun r wx => Below w18.heap.size w18 wx)
      case first =>
        as_aux_lemma =>
          cases five
          · go_wp2
            go_meet
            exact Below.refl _ _
          · have hcl := comp_law Hco.out
            obtain ⟨hgok, hcok, hC1, hcc, hcb, hcd⟩ := hcl
            obtain ⟨cl, hcl⟩ : ∃ l, jrV C ⟨#[]⟩ = l := ⟨_, rfl⟩
            rw [hcl] at hcb hcd
            have hcn : cl.length ≤ 30 := by rw [← hcl]; exact jrV_le _ _
            have Hhcok := Lib.hid hcok; clear hcok
            have Hhcc := Lib.hid hcc; clear hcc
            have Hhcb := Lib.hid hcb; clear hcb
            have Hhcd := Lib.hid hcd; clear hcd
            have Hhcl := Lib.hid hcl; clear hcl
            clear hgok
            have qlb_0 : w18.cell? ⟨w10.heap.size, 0, none⟩ = some (.string C) := lb.out.cell 0
            have qlb_1 : w18.cell? ⟨w10.heap.size, 1, none⟩ = some (.string (⟨#[]⟩ : ByteArray)) := lb.out.cell 1
            have qlb_l := lb.out.lt
            go_wp2_with fail
            clear qlb_0 qlb_1 qlb_l
            refine (specJRecs_is C ⟨#[]⟩ true cl _ Hhcok.out Hhcl.out (jb_of (by omega))).mono ?_; rintro e w19 ⟨⟨vc, rfl, oc⟩, hb19⟩
            have OC := Lib.hid oc
            have GOC := Lib.hid (World.ownsRow.lt oc)
            clear oc
            replace He := Lib.hid (He.out.on (hb19))
            replace gb := Lib.hid (gb.out.on (hb19))
            replace kb := Lib.hid (kb.out.on (hb19))
            replace lb := Lib.hid (lb.out.on (hb19))
            replace OT := Lib.hid (own_below OT.out (hb19))
            replace OU := Lib.hid (own_below OU.out (hb19))
            have sz19 := Lib.hid (show w18.heap.size + 0 ≤ w19.heap.size by have := hb19.size; (try simp only [World.size_alloc] at this); omega)
            have Hb19 := Lib.hid (bthen (Below.refl _ _) hb19)
            clear hb19
            have qkb_0 : w19.cell? ⟨w9.heap.size, 0, none⟩ = some (.string C) := kb.out.cell 0
            have qkb_1 : w19.cell? ⟨w9.heap.size, 1, none⟩ = some (.string (⟨#[]⟩ : ByteArray)) := kb.out.cell 1
            have qkb_l := kb.out.lt
            go_wp2_with fail
            clear qkb_0 qkb_1 qkb_l
            refine (implIsJ_is C ⟨#[]⟩ true _ Hhcok.out (jb_of (by omega)) (He.out.on (Below.refl _ _))).mono ?_; rintro e w20 ⟨rfl, hb20⟩
            replace He := Lib.hid (He.out.on (hb20))
            replace gb := Lib.hid (gb.out.on (hb20))
            replace kb := Lib.hid (kb.out.on (hb20))
            replace lb := Lib.hid (lb.out.on (hb20))
            replace OT := Lib.hid (own_below OT.out (hb20))
            replace OU := Lib.hid (own_below OU.out (hb20))
            replace OC := Lib.hid (own_below OC.out (hb20))
            have sz20 := Lib.hid (show w19.heap.size + 0 ≤ w20.heap.size by have := hb20.size; (try simp only [World.size_alloc] at this); omega)
            have Hb20 := Lib.hid (bthen (Hb19.out) hb20)
            clear hb20
            clear Hhcok Hhcl
            have HrC := Lib.hid (Rd.of_own (S := rcS) OC.out rfl)
            obtain ⟨Ac, cc, rfl, hcc9, hmc9, hAc⟩ := HrC.out; unfold maxLen at hmc9
            have HAc := Lib.hid hAc; clear hAc
            clear OC
            clear HrC
            clear GOC sz19 Hb19 sz20
            have hcni : (0 : Int) ≤ (cl.length : Int) := by omega
            go_wp2
            go_loopw [311] (fun i wr => ∃ j : Nat, j ≤ cl.length ∧ i = .int .i64 (j : Nat) ∧ Below w20.heap.size w20 wr) (fun i _ => cl.length - (intOf i).toNat)
            case atStart => exact ⟨0, Nat.zero_le _, rfl, Below.refl _ _⟩
            case round =>
              obtain ⟨j, hj, rfl, hbi⟩ := hrel
              have Hbi9 := Lib.hid hbi
              by_cases hjl : j < cl.length
              · have gb := Lib.hid (gb.out.on hbi)
                have He := Lib.hid (He.out.on hbi)
                have HbR := Lib.hid (bthen Hb20.out hbi)
                obtain ⟨g8, f8, rfl, hg8, hcell8⟩ := HAc.out (by omega)
                have HC8 := Lib.hid (rc_cells hcell8)
                clear hcell8
                obtain ⟨f0, f1, f2, f3⟩ := HC8.out j hjl
                rw [← hbi.cell (p := ⟨_, _, _⟩) hg8] at f0 f1 f2 f3
                have hbz := Hhcb.out j hjl
                have HD := Lib.hid (fun p (hp : p < j) => Hhcd.out p j hp hjl)
                generalize rcS.get cl j = z at f0 f1 f2 f3 hbz HD
                have Hbz := Lib.hid hbz; clear hbz
                have hgr8 : g8 < wr.heap.size := Nat.lt_of_lt_of_le hg8 hbi.size
                have hi0 : (0 : Int) ≤ (j : Int) := by omega
                have hi1 : (j : Int) < (cl.length : Int) := by omega
                clear hbi
                have qgb_0 : wr.cell? ⟨w8.heap.size, 0, none⟩ = some (.string GD) := gb.out.cell 0
                have qgb_1 : wr.cell? ⟨w8.heap.size, 1, none⟩ = some (.string GP) := gb.out.cell 1
                have qgb_l := gb.out.lt
                go_wp2_with fail
                clear qgb_0 qgb_1 qgb_l
                refine (implBn_is GD GP z.a z.b z.lo z.hi true _ Hbz.out ⟨by omega⟩ (He.out.on (bal (Below.refl _ _) _))).mono ?_; rintro e w21 ⟨rfl, hb21⟩
                replace He := Lib.hid (He.out.on (bthen (bal (Below.refl _ _) _) hb21))
                replace gb := Lib.hid (gb.out.on (bthen (bal (Below.refl _ _) _) hb21))
                have xb := Lib.hid ((Blk.new wr 78 #[.int .i64 z.a, .int .i64 z.b, .int .i64 z.lo, .int .i64 z.hi]).on hb21)
                have sz21 := Lib.hid (show wr.heap.size + 1 ≤ w21.heap.size by have := hb21.size; (try simp only [World.size_alloc] at this); omega)
                have Hst9 := Lib.hid (bthen (bal (Below.refl wr.heap.size wr) (Obj.cells #[.int .i64 z.a, .int .i64 z.b, .int .i64 z.lo, .int .i64 z.hi] 78)) hb21)
                have Hb21 := Lib.hid (bthen (bal (HbR.out) _) hb21)
                clear hb21
                clear f0 f1 f2 f3 Hbz
                have hj9 : (j : Int) ≤ (cl.length : Int) := by omega
                have hjc9 : (j : Int) ≤ (cc : Int) := by omega
                have qxb_0 : w21.cell? ⟨wr.heap.size, 0, none⟩ = some (.int .i64 z.a) := xb.out.cell 0
                have qxb_1 : w21.cell? ⟨wr.heap.size, 1, none⟩ = some (.int .i64 z.b) := xb.out.cell 1
                have qxb_2 : w21.cell? ⟨wr.heap.size, 2, none⟩ = some (.int .i64 z.lo) := xb.out.cell 2
                have qxb_3 : w21.cell? ⟨wr.heap.size, 3, none⟩ = some (.int .i64 z.hi) := xb.out.cell 3
                have qxb_l := xb.out.lt
                go_wp2
                clear qxb_0 qxb_1 qxb_2 qxb_3 qxb_l
                have hbst : Below wr.heap.size wr w21 := Hst9.out
                go_loopw [342] (fun i wr2 => ∃ p : Nat, p ≤ j ∧ i = .int .i64 (p : Nat) ∧ Below w21.heap.size w21 wr2) (fun i _ => j - (intOf i).toNat)
                case atStart => exact ⟨0, Nat.zero_le _, rfl, Below.refl _ _⟩
                case round =>
                  obtain ⟨p, hp, rfl, hbp⟩ := hrel
                  by_cases hpj : p < j
                  · have hbw := bthen Hbi9.out (bthen (hbst) hbp)
                    obtain ⟨e0, e1, e2, e3⟩ := HC8.out p (by omega)
                    rw [← hbw.cell (p := ⟨_, _, _⟩) hg8] at e0 e1 e2 e3
                    have hd9 := HD.out p hpj
                    generalize rcS.get cl p = y at e0 e1 e2 e3 hd9
                    have xb := Lib.hid (xb.out.on hbp)
                    have x0 := xb.out.cell 0; have x1 := xb.out.cell 1; have x2 := xb.out.cell 2; have x3 := xb.out.cell 3; have xl := xb.out.lt
                    simp at x0 x1 x2 x3
                    have hgw : g8 < wr.heap.size := Nat.lt_of_lt_of_le hg8 hbw.size
                    have hp0 : (0 : Int) ≤ (p : Int) := by omega
                    have hp1 : (p : Int) < (j : Int) := by omega
                    clear hbw hj9 hjc9
                    unfold dst at hd9
                    by_cases hza : z.a = y.a
                    · have hzb : ¬ z.b = y.b := fun h => hd9 ⟨hza, h⟩
                      clear hd9
                      go_wp2
                      go_roundw
                      case rel => exact ⟨p + 1, by omega, by go_num, by (repeat (with_reducible first | exact Below.refl _ _ | assumption | refine bal ?_ _ | refine bst ?_ (by simp <;> omega) _ | refine Below.drew ?_ | refine bthen ?_ (by assumption)))⟩
                      case measure => simp [intOf]; omega
                    · clear hd9
                      go_wp2
                      go_roundw
                      case rel => exact ⟨p + 1, by omega, by go_num, by (repeat (with_reducible first | exact Below.refl _ _ | assumption | refine bal ?_ _ | refine bst ?_ (by simp <;> omega) _ | refine Below.drew ?_ | refine bthen ?_ (by assumption)))⟩
                      case measure => simp [intOf]; omega
                  · obtain rfl : p = j := by omega
                    clear hp hpj
                    go_wp2
                    go_roundw
                    case rel => exact ⟨p + 1, by omega, by go_num, bthen Hbi9.out (bthen hbst hbp)⟩
                    case measure => simp [intOf]; omega
              · as_aux_lemma =>
                  obtain rfl : j = cl.length := by omega
                  clear hj hjl HAc Hhcb Hhcd
                  have HbT := Lib.hid (bthen Hb20.out hbi); have He := Lib.hid (He.out.on hbi)
                  have gb := Lib.hid (gb.out.on hbi)
                  have kb := Lib.hid (kb.out.on hbi)
                  have lb := Lib.hid (lb.out.on hbi)
                  have OT := Lib.hid (own_below OT.out hbi)
                  have OU := Lib.hid (own_below OU.out hbi)
                  clear hbi Hbi9
                  have qkb_0 : wr.cell? ⟨w9.heap.size, 0, none⟩ = some (.string C) := kb.out.cell 0
                  have qkb_1 : wr.cell? ⟨w9.heap.size, 1, none⟩ = some (.string (⟨#[]⟩ : ByteArray)) := kb.out.cell 1
                  have qkb_l := kb.out.lt
                  go_wp2_with fail
                  clear qkb_0 qkb_1 qkb_l
                  refine (implComp_is C ⟨#[]⟩ C true _ Hhcc.out (jb_of (by omega)) (He.out.on (Below.refl _ _))).mono ?_; rintro e w21 ⟨rfl, hb21⟩
                  replace He := Lib.hid (He.out.on (hb21))
                  replace gb := Lib.hid (gb.out.on (hb21))
                  replace kb := Lib.hid (kb.out.on (hb21))
                  replace lb := Lib.hid (lb.out.on (hb21))
                  replace OT := Lib.hid (own_below OT.out (hb21))
                  replace OU := Lib.hid (own_below OU.out (hb21))
                  have sz21 := Lib.hid (show wr.heap.size + 0 ≤ w21.heap.size by have := hb21.size; (try simp only [World.size_alloc] at this); omega)
                  have Hb21 := Lib.hid (bthen (HbT.out) hb21)
                  clear hb21
                  have hnj := neqJn C ⟨#[]⟩
                  clear Hhcc
                  have qlb_0 : w21.cell? ⟨w10.heap.size, 0, none⟩ = some (.string C) := lb.out.cell 0
                  have qlb_1 : w21.cell? ⟨w10.heap.size, 1, none⟩ = some (.string (⟨#[]⟩ : ByteArray)) := lb.out.cell 1
                  have qlb_l := lb.out.lt
                  go_wp2
                  go_meet
                  exact bal (Hb21.out) _
      have hbc := hcut
      obtain ⟨w19, hw9⟩ : ∃ x, x = wc := ⟨_, rfl⟩
      subst hw9
      have hb19 := hbc; clear hbc
      replace He := Lib.hid (He.out.on (hb19))
      replace gb := Lib.hid (gb.out.on (hb19))
      replace kb := Lib.hid (kb.out.on (hb19))
      replace lb := Lib.hid (lb.out.on (hb19))
      replace OT := Lib.hid (own_below OT.out (hb19))
      replace OU := Lib.hid (own_below OU.out (hb19))
      have sz19 := Lib.hid (show w18.heap.size + 0 ≤ w19.heap.size by have := hb19.size; (try simp only [World.size_alloc] at this); omega)
      have Hb19 := Lib.hid (bthen (Hb18.out) hb19)
      clear hb19
      clear kb
      clear lb
      have hsf : seven = true → five = true := fun h => by subst h; have h9 := (jc_law Hjc.out).1; rw [Hco.out] at h9; exact h9
      clear Hco
      clear Hb18 sz19
      cases seven
      · clear Hjc
        cases nine
        · go_wp2
          go_ret
          exact ⟨rfl, Hb19.out⟩
        · have hle := bi_bd Hbi.out
          go_wp2
          go_ret
          exact ⟨rfl, Hb19.out⟩
      · obtain ⟨-, hcat, hall⟩ := jc_law Hjc.out
        have hln := (catB_spec hcat).1
        have Hcat := Lib.hid hcat; clear hcat
        have Hall := Lib.hid hall; clear hall
        clear Hjc
        obtain rfl : five = true := hsf rfl
        clear hsf
        go_wp2_with fail
        refine (isCatJ_is _ ts true _ Hcat.out (Rd.of_own OT.out rfl)).mono ?_; rintro e w20 ⟨rfl, hb20⟩
        replace He := Lib.hid (He.out.on (hb20))
        replace gb := Lib.hid (gb.out.on (hb20))
        replace OT := Lib.hid (own_below OT.out (hb20))
        replace OU := Lib.hid (own_below OU.out (hb20))
        have sz20 := Lib.hid (show w19.heap.size + 0 ≤ w20.heap.size by have := hb20.size; (try simp only [World.size_alloc] at this); omega)
        have Hb20 := Lib.hid (bthen (Hb19.out) hb20)
        clear hb20
        clear Hcat
        have HrT := Lib.hid (Rd.of_own (S := enS) OU.out rfl)
        obtain ⟨At, ct, rfl, hct, hmt, hAt⟩ := HrT.out; unfold maxLen at hmt
        have HAt := Lib.hid hAt; clear hAt
        clear HrT
        clear OT
        clear OU
        clear Hb19 sz20
        go_wp2
        go_loopw [375] (fun i wr => ∃ j : Nat, j ≤ ts.length ∧ i = .int .i64 (j : Nat) ∧ Below w20.heap.size w20 wr) (fun i _ => ts.length - (intOf i).toNat)
        case atStart => exact ⟨0, Nat.zero_le _, rfl, Below.refl _ _⟩
        case round =>
          obtain ⟨j, hj, rfl, hbi⟩ := hrel
          have Hbi9 := Lib.hid hbi
          by_cases hjl : j < ts.length
          · have gb := Lib.hid (gb.out.on hbi)
            have He := Lib.hid (He.out.on hbi)
            have HbR := Lib.hid (bthen Hb20.out hbi)
            obtain ⟨g8, f8, rfl, hg8, hcell8⟩ := HAt.out (by omega)
            obtain ⟨f0, f1, f2, f3, f4⟩ := en_cells hcell8 j hjl
            clear hcell8
            rw [← hbi.cell (p := ⟨_, _, _⟩) hg8] at f0 f1 f2 f3 f4
            obtain ⟨hbz, hz0⟩ := Hall.out j hjl
            rw [hz0] at f4
            clear hz0
            generalize enS.get ts j = z at f0 f1 f2 f3 f4 hbz
            have Hbz := Lib.hid hbz; clear hbz
            have hgr8 : g8 < wr.heap.size := Nat.lt_of_lt_of_le hg8 hbi.size
            have hi0 : (0 : Int) ≤ (j : Int) := by omega
            have hi1 : (j : Int) < (ts.length : Int) := by omega
            clear hbi
            have qgb_0 : wr.cell? ⟨w8.heap.size, 0, none⟩ = some (.string GD) := gb.out.cell 0
            have qgb_1 : wr.cell? ⟨w8.heap.size, 1, none⟩ = some (.string GP) := gb.out.cell 1
            have qgb_l := gb.out.lt
            go_wp2_with fail
            clear qgb_0 qgb_1 qgb_l
            refine (implBn_is GD GP z.a z.b z.lo z.hi true _ Hbz.out ⟨by omega⟩ (He.out.on (bal (Below.refl _ _) _))).mono ?_; rintro e w21 ⟨rfl, hb21⟩
            replace He := Lib.hid (He.out.on (bthen (bal (Below.refl _ _) _) hb21))
            replace gb := Lib.hid (gb.out.on (bthen (bal (Below.refl _ _) _) hb21))
            have xb := Lib.hid ((Blk.new wr 29 #[.int .i64 z.a, .int .i64 z.b, .int .i64 z.lo, .int .i64 z.hi, .int .i64 0]).on hb21)
            have sz21 := Lib.hid (show wr.heap.size + 1 ≤ w21.heap.size by have := hb21.size; (try simp only [World.size_alloc] at this); omega)
            have Hst9 := Lib.hid (bthen (bal (Below.refl wr.heap.size wr) (Obj.cells #[.int .i64 z.a, .int .i64 z.b, .int .i64 z.lo, .int .i64 z.hi, .int .i64 0] 29)) hb21)
            have Hb21 := Lib.hid (bthen (bal (HbR.out) _) hb21)
            clear hb21
            clear f0 f1 f2 f3 f4 Hbz
            have qxb_0 : w21.cell? ⟨wr.heap.size, 0, none⟩ = some (.int .i64 z.a) := xb.out.cell 0
            have qxb_1 : w21.cell? ⟨wr.heap.size, 1, none⟩ = some (.int .i64 z.b) := xb.out.cell 1
            have qxb_2 : w21.cell? ⟨wr.heap.size, 2, none⟩ = some (.int .i64 z.lo) := xb.out.cell 2
            have qxb_3 : w21.cell? ⟨wr.heap.size, 3, none⟩ = some (.int .i64 z.hi) := xb.out.cell 3
            have qxb_4 : w21.cell? ⟨wr.heap.size, 4, none⟩ = some (.int .i64 0) := xb.out.cell 4
            have qxb_l := xb.out.lt
            go_wp2
            go_roundw
            case rel => exact ⟨j + 1, by omega, by go_num, bthen Hbi9.out Hst9.out⟩
            case measure => simp [intOf]; omega
          · obtain rfl : j = ts.length := by omega
            clear hj hjl HAt Hall
            have HbT := Lib.hid (bthen Hb20.out hbi)
            clear hbi Hbi9 gb
            cases nine
            · go_wp2
              go_ret
              exact ⟨rfl, HbT.out⟩
            · have hle := bi_bd Hbi.out
              go_wp2
              go_ret
              exact ⟨rfl, HbT.out⟩
end Go.Proofs.YtimfoodbolokdaaGreatDoor
