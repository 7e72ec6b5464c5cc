/- The law FnReportLogs: its walk. Conditions: none. Printed by gen_rlogs.py. -/
import Derived.Test.YtjnghjgfhlgbiaaDoorDrP
import Derived.Test.YtjnghjgfhlgbiaaDoorRlQ
import Derived.Test.YtjnghjgfhlgbiaaDoorPutI
import Derived.Test.YtjnghjgfhlgbiaaDoorBySpec
import Derived.Test.YtjnghjgfhlgbiaaDoorByImpl
import Derived.Test.YtjnghjgfhlgbiaaDoorMissImpl
import Derived.Test.YtjnghjgfhlgbiaaDoorSReport
namespace Go.Proofs.YtjnghjgfhlgbiaaDoor
open Go Go.RowKit

set_option maxRecDepth 8000 in
set_option maxHeartbeats 16000000 in
theorem fnReportLogs_walk (A : Option Addr) (n c : Nat) (B : Option Addr) (m d : Nat) (w : World) (ha : BytesAt w w.heap.size A n) (hb : BytesAt w w.heap.size B m) (ht : Tab w) :
    Calls Tryd.prog 3 #[.slice A n c, .slice B m d] w fun e w' => e = .returned (.bool true) ∧ Below w.heap.size w w' := by
  have Ha := Lib.hid ha; have Hb := Lib.hid hb; have Tb := Lib.hid ht; clear ha hb ht
  go_enter Tryd.func3, Tryd.ntmps3
  go_wp2_with fail
  refine (big_any A n c B m d _).mono ?_; rintro e w1 ⟨rfl, hb1⟩
  replace Tb := Lib.hid (Tb.out.on (hb1))
  have sz1 := Lib.hid (show w.heap.size + 0 ≤ w1.heap.size by have := hb1.size; (try simp only [World.size_alloc] at this); omega)
  have Hb1 := Lib.hid (bthen (Below.refl _ _) hb1)
  clear hb1
  cases bigB n m
  · go_wp2_with fail
    refine (drawPut_any A n c _ (Ha.out.on (Hb1.out))).mono ?_; rintro e w2 ⟨⟨vl, ml, u0, u1, u2, u3, u4, u5, u6, hml, rfl, hvl⟩, hb2⟩
    obtain ⟨ls, -, ol⟩ := hvl.rp
    clear hvl hml
    have OL := Lib.hid ol
    have GOL := Lib.hid (World.ownsRow.lt ol)
    clear ol
    replace Tb := Lib.hid (Tb.out.on (hb2))
    have sz2 := Lib.hid (show w1.heap.size + 0 ≤ w2.heap.size by have := hb2.size; (try simp only [World.size_alloc] at this); omega)
    have Hb2 := Lib.hid (bthen (Hb1.out) hb2)
    clear hb2
    go_wp2_with fail
    refine (implPut_ints _ ls u0 u1 u2 u3 u4 u5 u6 _ ((Rd.of_own OL.out rfl).on (bal (Below.refl _ _) _))).mono ?_; rintro e w3 ⟨⟨vp, p, ok, rfl, hp, op⟩, hb3⟩
    have OP := Lib.hid op
    have GOP := Lib.hid (World.ownsRow.lt op)
    clear op
    replace Tb := Lib.hid (Tb.out.on (bthen (bal (Below.refl _ _) _) hb3))
    replace OL := Lib.hid (own_below OL.out (bthen (bal (Below.refl _ _) _) hb3))
    have rb := Lib.hid ((Blk.new w2 30 #[.int .i64 u0, .int .i64 u1, .int .i64 u2, .int .i64 u3, .int .i64 u4, .int .i64 u5, .int .i64 u6]).on hb3)
    have sz3 := Lib.hid (show w2.heap.size + 1 ≤ w3.heap.size by have := hb3.size; (try simp only [World.size_alloc] at this); omega)
    have Hb3 := Lib.hid (bthen (bal (Hb2.out) _) hb3)
    clear hb3
    have Hhp := Lib.hid hp; clear hp
    have qrb_0 : w3.cell? ⟨w2.heap.size, 0, none⟩ = some (.int .i64 u0) := rb.out.cell 0
    have qrb_1 : w3.cell? ⟨w2.heap.size, 1, none⟩ = some (.int .i64 u1) := rb.out.cell 1
    have qrb_2 : w3.cell? ⟨w2.heap.size, 2, none⟩ = some (.int .i64 u2) := rb.out.cell 2
    have qrb_3 : w3.cell? ⟨w2.heap.size, 3, none⟩ = some (.int .i64 u3) := rb.out.cell 3
    have qrb_4 : w3.cell? ⟨w2.heap.size, 4, none⟩ = some (.int .i64 u4) := rb.out.cell 4
    have qrb_5 : w3.cell? ⟨w2.heap.size, 5, none⟩ = some (.int .i64 u5) := rb.out.cell 5
    have qrb_6 : w3.cell? ⟨w2.heap.size, 6, none⟩ = some (.int .i64 u6) := rb.out.cell 6
    have qrb_l := rb.out.lt
    go_wp2_with fail
    clear qrb_0 qrb_1 qrb_2 qrb_3 qrb_4 qrb_5 qrb_6 qrb_l
    refine (specPut_ints _ ls u0 u1 u2 u3 u4 u5 u6 _ (Rd.of_own OL.out rfl)).mono ?_; rintro e w4 ⟨⟨vq, p2, ok2, rfl, hp2, oq⟩, hb4⟩
    have OQ := Lib.hid oq
    have GOQ := Lib.hid (World.ownsRow.lt oq)
    clear oq
    replace Tb := Lib.hid (Tb.out.on (hb4))
    replace OL := Lib.hid (own_below OL.out (hb4))
    replace rb := Lib.hid (rb.out.on (hb4))
    replace OP := Lib.hid (own_below OP.out (hb4))
    have sz4 := Lib.hid (show w3.heap.size + 0 ≤ w4.heap.size by have := hb4.size; (try simp only [World.size_alloc] at this); omega)
    have Hb4 := Lib.hid (bthen (Hb3.out) hb4)
    clear hb4
    obtain ⟨rfl, rfl⟩ := Prod.mk.inj (Hhp.out.symm.trans hp2); clear hp2
    cases ok
    · go_wp2_with fail
      refine (qRp_same _ _ p _ (Rd.of_own OP.out rfl) (Rd.of_own OQ.out rfl)).mono ?_; rintro e w5 ⟨rfl, hb5⟩
      replace Tb := Lib.hid (Tb.out.on (hb5))
      replace OL := Lib.hid (own_below OL.out (hb5))
      replace rb := Lib.hid (rb.out.on (hb5))
      replace OP := Lib.hid (own_below OP.out (hb5))
      replace OQ := Lib.hid (own_below OQ.out (hb5))
      have sz5 := Lib.hid (show w4.heap.size + 0 ≤ w5.heap.size by have := hb5.size; (try simp only [World.size_alloc] at this); omega)
      have Hb5 := Lib.hid (bthen (Hb4.out) hb5)
      clear hb5
      clear OL
      clear OP
      clear OQ
      clear rb
      clear sz1 GOL Hb1 sz2 GOP Hb2 sz3 GOQ Hb3 sz4 Hb4 sz5 Hhp
      go_wp2_with fail
      refine (drawUpTo_any B m d _ (Hb.out.on (Hb5.out))).mono ?_; rintro e w6 ⟨⟨vu, mu, x, hmu, rfl, hvu, hx⟩, hb6⟩
      obtain ⟨us, -, ou⟩ := hvu.rp
      clear hvu hmu hx
      have OU := Lib.hid ou
      have GOU := Lib.hid (World.ownsRow.lt ou)
      clear ou
      replace Tb := Lib.hid (Tb.out.on (hb6))
      have sz6 := Lib.hid (show w5.heap.size + 0 ≤ w6.heap.size by have := hb6.size; (try simp only [World.size_alloc] at this); omega)
      have Hb6 := Lib.hid (bthen (Hb5.out) hb6)
      clear hb6
      go_wp2_with fail
      refine (implUp_any _ us x _ (Rd.of_own OU.out rfl)).mono ?_; rintro e w7 ⟨⟨ve, e, one, rfl, he, oe⟩, hb7⟩
      have OE := Lib.hid oe
      have GOE := Lib.hid (World.ownsRow.lt oe)
      clear oe
      replace Tb := Lib.hid (Tb.out.on (hb7))
      replace OU := Lib.hid (own_below OU.out (hb7))
      have sz7 := Lib.hid (show w6.heap.size + 0 ≤ w7.heap.size by have := hb7.size; (try simp only [World.size_alloc] at this); omega)
      have Hb7 := Lib.hid (bthen (Hb6.out) hb7)
      clear hb7
      have Hhe := Lib.hid he; clear he
      go_wp2_with fail
      refine (specUp_any _ us x _ (Rd.of_own OU.out rfl)).mono ?_; rintro e w8 ⟨⟨vf, e2, one2, rfl, he2, of⟩, hb8⟩
      have OF := Lib.hid of
      have GOF := Lib.hid (World.ownsRow.lt of)
      clear of
      replace Tb := Lib.hid (Tb.out.on (hb8))
      replace OU := Lib.hid (own_below OU.out (hb8))
      replace OE := Lib.hid (own_below OE.out (hb8))
      have sz8 := Lib.hid (show w7.heap.size + 0 ≤ w8.heap.size by have := hb8.size; (try simp only [World.size_alloc] at this); omega)
      have Hb8 := Lib.hid (bthen (Hb7.out) hb8)
      clear hb8
      obtain ⟨rfl, rfl⟩ := Prod.mk.inj (Hhe.out.symm.trans he2); clear he2
      cases one
      · go_wp2_with fail
        refine (qRp_same _ _ e _ (Rd.of_own OE.out rfl) (Rd.of_own OF.out rfl)).mono ?_; rintro e w9 ⟨rfl, hb9⟩
        replace Tb := Lib.hid (Tb.out.on (hb9))
        replace OU := Lib.hid (own_below OU.out (hb9))
        replace OE := Lib.hid (own_below OE.out (hb9))
        replace OF := Lib.hid (own_below OF.out (hb9))
        have sz9 := Lib.hid (show w8.heap.size + 0 ≤ w9.heap.size by have := hb9.size; (try simp only [World.size_alloc] at this); omega)
        have Hb9 := Lib.hid (bthen (Hb8.out) hb9)
        clear hb9
        clear OU
        clear OE
        clear OF
        clear GOU Hb5 sz6 GOE Hb6 sz7 GOF Hb7 sz8 Hb8 sz9
        go_wp2_with fail
        refine (drawReportsText_any B m d _ (Hb.out.on (Hb9.out))).mono ?_; rintro e w10 ⟨⟨vv, mv, hmv, rfl, hvv⟩, hb10⟩
        obtain ⟨vs, -, ov⟩ := hvv.rp
        clear hvv hmv
        have OV := Lib.hid ov
        have GOV := Lib.hid (World.ownsRow.lt ov)
        clear ov
        replace Tb := Lib.hid (Tb.out.on (hb10))
        have sz10 := Lib.hid (show w9.heap.size + 0 ≤ w10.heap.size by have := hb10.size; (try simp only [World.size_alloc] at this); omega)
        have Hb10 := Lib.hid (bthen (Hb9.out) hb10)
        clear hb10
        obtain ⟨ib, hib⟩ : ∃ ib, repsB vs = ib := ⟨_, rfl⟩
        have Hib := Lib.hid hib; clear hib
        go_wp2_with fail
        refine (implRepText_is _ vs ib _ Hib.out (Rd.of_own OV.out rfl) Tb.out).mono ?_; rintro e w11 ⟨rfl, hb11⟩
        replace Tb := Lib.hid (Tb.out.on (hb11))
        replace OV := Lib.hid (own_below OV.out (hb11))
        have sz11 := Lib.hid (show w10.heap.size + 0 ≤ w11.heap.size by have := hb11.size; (try simp only [World.size_alloc] at this); omega)
        have Hb11 := Lib.hid (bthen (Hb10.out) hb11)
        clear hb11
        go_wp2_with fail
        refine (specRepText_is _ vs ib _ Hib.out (Rd.of_own OV.out rfl)).mono ?_; rintro e w12 ⟨rfl, hb12⟩
        replace Tb := Lib.hid (Tb.out.on (hb12))
        replace OV := Lib.hid (own_below OV.out (hb12))
        have sz12 := Lib.hid (show w11.heap.size + 0 ≤ w12.heap.size by have := hb12.size; (try simp only [World.size_alloc] at this); omega)
        have Hb12 := Lib.hid (bthen (Hb11.out) hb12)
        clear hb12
        generalize (repsV vs).1 = tv
        go_wp2_with fail
        refine (drawBy_any B m d _ (Hb.out.on (Hb12.out))).mono ?_; rintro e w13 ⟨⟨vw, mw, xw, hmw, rfl, hvw, hxw⟩, hb13⟩
        obtain ⟨ws, -, ow⟩ := hvw.rp
        clear hvw hmw hxw
        have OW := Lib.hid ow
        have GOW := Lib.hid (World.ownsRow.lt ow)
        clear ow
        replace Tb := Lib.hid (Tb.out.on (hb13))
        replace OV := Lib.hid (own_below OV.out (hb13))
        have sz13 := Lib.hid (show w12.heap.size + 0 ≤ w13.heap.size by have := hb13.size; (try simp only [World.size_alloc] at this); omega)
        have Hb13 := Lib.hid (bthen (Hb12.out) hb13)
        clear hb13
        go_wp2_with fail
        refine (implBy_any _ ws xw _ (Rd.of_own OW.out rfl)).mono ?_; rintro e w14 ⟨⟨vb, bs, five, rfl, hbs, obs⟩, hb14⟩
        have OB := Lib.hid obs
        have GOB := Lib.hid (World.ownsRow.lt obs)
        clear obs
        replace Tb := Lib.hid (Tb.out.on (hb14))
        replace OV := Lib.hid (own_below OV.out (hb14))
        replace OW := Lib.hid (own_below OW.out (hb14))
        have sz14 := Lib.hid (show w13.heap.size + 0 ≤ w14.heap.size by have := hb14.size; (try simp only [World.size_alloc] at this); omega)
        have Hb14 := Lib.hid (bthen (Hb13.out) hb14)
        clear hb14
        have Hhbs := Lib.hid hbs; clear hbs
        go_wp2_with fail
        refine (specBy_any _ ws xw _ (Rd.of_own OW.out rfl)).mono ?_; rintro e w15 ⟨⟨vc, cs, sixx, rfl, hcs, ocs⟩, hb15⟩
        have OC := Lib.hid ocs
        have GOC := Lib.hid (World.ownsRow.lt ocs)
        clear ocs
        replace Tb := Lib.hid (Tb.out.on (hb15))
        replace OV := Lib.hid (own_below OV.out (hb15))
        replace OW := Lib.hid (own_below OW.out (hb15))
        replace OB := Lib.hid (own_below OB.out (hb15))
        have sz15 := Lib.hid (show w14.heap.size + 0 ≤ w15.heap.size by have := hb15.size; (try simp only [World.size_alloc] at this); omega)
        have Hb15 := Lib.hid (bthen (Hb14.out) hb15)
        clear hb15
        obtain ⟨rfl, rfl⟩ := Prod.mk.inj (Hhbs.out.symm.trans hcs); clear hcs
        go_wp2_with fail
        refine (drawIsReport_any B m d _ (Hb.out.on (Hb15.out))).mono ?_; rintro e w16 ⟨⟨y0, y1, y2, y3, y4, y5, y6, rfl⟩, hb16⟩
        replace Tb := Lib.hid (Tb.out.on (hb16))
        replace OV := Lib.hid (own_below OV.out (hb16))
        replace OW := Lib.hid (own_below OW.out (hb16))
        replace OB := Lib.hid (own_below OB.out (hb16))
        replace OC := Lib.hid (own_below OC.out (hb16))
        have sz16 := Lib.hid (show w15.heap.size + 0 ≤ w16.heap.size by have := hb16.size; (try simp only [World.size_alloc] at this); omega)
        have Hb16 := Lib.hid (bthen (Hb15.out) hb16)
        clear hb16
        obtain ⟨iy, hiy⟩ : ∃ iy, repB y0 y1 y2 y3 y4 y5 y6 = iy := ⟨_, rfl⟩
        have Hiy := Lib.hid hiy; clear hiy
        have hor := Rd.of_own (S := rpS) OV.out rfl; have hob := Rd.of_own (S := rpS) OB.out rfl; have hoc := Rd.of_own (S := rpS) OC.out rfl
        replace hor : Rd rpS (w16.alloc (Obj.cells #[.int .i64 y0, .int .i64 y1, .int .i64 y2, .int .i64 y3, .int .i64 y4, .int .i64 y5, .int .i64 y6] 30)) (w16.alloc (Obj.cells #[.int .i64 y0, .int .i64 y1, .int .i64 y2, .int .i64 y3, .int .i64 y4, .int .i64 y5, .int .i64 y6] 30)).heap.size vv vs := hor.on (bal (Below.refl _ _) _)
        replace hob : Rd rpS (w16.alloc (Obj.cells #[.int .i64 y0, .int .i64 y1, .int .i64 y2, .int .i64 y3, .int .i64 y4, .int .i64 y5, .int .i64 y6] 30)) (w16.alloc (Obj.cells #[.int .i64 y0, .int .i64 y1, .int .i64 y2, .int .i64 y3, .int .i64 y4, .int .i64 y5, .int .i64 y6] 30)).heap.size vb bs := hob.on (bal (Below.refl _ _) _)
        replace hoc : Rd rpS (w16.alloc (Obj.cells #[.int .i64 y0, .int .i64 y1, .int .i64 y2, .int .i64 y3, .int .i64 y4, .int .i64 y5, .int .i64 y6] 30)) (w16.alloc (Obj.cells #[.int .i64 y0, .int .i64 y1, .int .i64 y2, .int .i64 y3, .int .i64 y4, .int .i64 y5, .int .i64 y6] 30)).heap.size vc bs := hoc.on (bal (Below.refl _ _) _)
        go_wp2_with fail
        refine wp_region_tame (by kernel_rfl) (by kernel_rfl) (fun T _ W hT => ?_)
        have hx := hT.cell
        repeat (go_big_quiet_step ((first | (go_at_call 10; exact hT.call (areI_is _ vs ib _ Hib.out (hor.on (hT.below _)))) | (go_at_call 8; exact hT.call (qRp_same _ _ bs _ (hob.on (hT.below _)) (hoc.on (hT.below _)))) | (go_at_call 11; exact hT.call (implIsRep_is _ _ _ _ _ _ _ iy _ Hiy.out)) | (go_at_call 22; exact hT.call (specIsRep_is _ _ _ _ _ _ _ iy _ Hiy.out)))))
        refine wpQuiet_nil ?_
        intro tt
        clear hx
        have hb17 := hT.below tt
        generalize W tt = w17 at hb17 ⊢
        clear hT
        replace Tb := Lib.hid (Tb.out.on (bthen (bal (Below.refl _ _) _) hb17))
        replace OV := Lib.hid (own_below OV.out (bthen (bal (Below.refl _ _) _) hb17))
        replace OW := Lib.hid (own_below OW.out (bthen (bal (Below.refl _ _) _) hb17))
        replace OB := Lib.hid (own_below OB.out (bthen (bal (Below.refl _ _) _) hb17))
        replace OC := Lib.hid (own_below OC.out (bthen (bal (Below.refl _ _) _) hb17))
        have yb := Lib.hid ((Blk.new w16 30 #[.int .i64 y0, .int .i64 y1, .int .i64 y2, .int .i64 y3, .int .i64 y4, .int .i64 y5, .int .i64 y6]).on hb17)
        have sz17 := Lib.hid (show w16.heap.size + 1 ≤ w17.heap.size by have := hb17.size; (try simp only [World.size_alloc] at this); omega)
        have Hb17 := Lib.hid (bthen (bal (Hb16.out) _) hb17)
        clear hb17
        go_wp2
        go_ret
        exact ⟨rfl, Hb17.out⟩
      · go_wp2_with fail
        refine (qRp_same _ _ e _ (Rd.of_own OE.out rfl) (Rd.of_own OF.out rfl)).mono ?_; rintro e w9 ⟨rfl, hb9⟩
        replace Tb := Lib.hid (Tb.out.on (hb9))
        replace OU := Lib.hid (own_below OU.out (hb9))
        replace OE := Lib.hid (own_below OE.out (hb9))
        replace OF := Lib.hid (own_below OF.out (hb9))
        have sz9 := Lib.hid (show w8.heap.size + 0 ≤ w9.heap.size by have := hb9.size; (try simp only [World.size_alloc] at this); omega)
        have Hb9 := Lib.hid (bthen (Hb8.out) hb9)
        clear hb9
        clear OE
        have Hus := Lib.hid (up_reps Hhe.out)
        obtain ⟨hel, het, hen⟩ := up_law Hhe.out
        have Het := Lib.hid het; have Hen := Lib.hid hen; clear het hen
        have hul : us.length ≤ 20 := (repsB_spec Hus.out).1
        obtain ⟨AU, cU, rfl, hcU, hmU, -⟩ := Rd.of_own (S := rpS) OU.out rfl; unfold maxLen at hmU
        obtain ⟨AF, cF, rfl, hcF, hmF, -⟩ := Rd.of_own (S := rpS) OF.out rfl; unfold maxLen at hmF
        have hei : (e.length : Int) ≤ (us.length : Int) := by omega
        go_wp2_with fail
        refine (qRp_eq _ _ e (us.take e.length) _ Het.out (Rd.of_own OF.out rfl) (Rd.front (Rd.of_own OU.out rfl) hel)).mono ?_; rintro e w10 ⟨rfl, hb10⟩
        replace Tb := Lib.hid (Tb.out.on (hb10))
        replace OU := Lib.hid (own_below OU.out (hb10))
        replace OF := Lib.hid (own_below OF.out (hb10))
        have sz10 := Lib.hid (show w9.heap.size + 0 ≤ w10.heap.size by have := hb10.size; (try simp only [World.size_alloc] at this); omega)
        have Hb10 := Lib.hid (bthen (Hb9.out) hb10)
        clear hb10
        clear OF
        by_cases hlt : e.length < us.length
        · obtain ⟨gu, fu, rfl, hgu, hcu⟩ := rp_at (Rd.of_own (S := rpS) OU.out rfl) hlt
          have hcu0 := hcu.1; clear hcu
          have htm := Hen.out hlt
          generalize (rpS.get us e.length).tm = tm at hcu0 htm
          have hd : decide (tm ≤ x) = false := decide_eq_false (by omega)
          have hlti : (e.length : Int) < (us.length : Int) := by omega
          go_wp2
          rw [show decide (us.length < e.length) = false from decide_eq_false (by omega)]
          go_loopw [19, 20] (fun al i wr => ∃ k : Nat, k ≤ 9 ∧ i = .int .i64 ((k : Int) + 1) ∧ al = .int .i64 (cntM us k : Nat) ∧ Below w10.heap.size w10 wr) (fun _ i _ => 10 - (intOf i).toNat)
          case atStart => exact ⟨0, by omega, rfl, by rw [cntM_zero Hus.out]; rfl, Below.refl _ _⟩
          case round =>
            obtain ⟨k, hk, rfl, rfl, hbr⟩ := hrel
            clear hcu0 htm hd hgu
            clear hlt hlti
            have Hbr := Lib.hid hbr
            by_cases hk9 : k < 9
            · have hki : (k : Int) + 1 ≤ 9 := by omega
              replace OU := Lib.hid (own_below OU.out hbr); replace Tb := Lib.hid (Tb.out.on hbr); clear hbr
              obtain ⟨ks, hks⟩ := by_ex Hus.out hk9
              have Hks := Lib.hid hks; clear hks
              go_wp2_with fail
              refine (implBy_any _ us ((k : Int) + 1) _ (Rd.of_own OU.out rfl)).mono ?_; rintro e w11 ⟨⟨vs, ss, b3, rfl, hss, oss⟩, hb11⟩
              have OS := Lib.hid oss
              have GOS := Lib.hid (World.ownsRow.lt oss)
              clear oss
              replace Tb := Lib.hid (Tb.out.on (hb11))
              replace OU := Lib.hid (own_below OU.out (hb11))
              have sz11 := Lib.hid (show wr.heap.size + 0 ≤ w11.heap.size by have := hb11.size; (try simp only [World.size_alloc] at this); omega)
              have Hb11 := Lib.hid (bthen (Hbr.out) hb11)
              clear hb11
              obtain ⟨rfl, rfl⟩ := Prod.mk.inj (Hks.out.symm.trans hss); clear hss
              go_wp2_with fail
              refine (specBy_any _ us ((k : Int) + 1) _ (Rd.of_own OU.out rfl)).mono ?_; rintro e w12 ⟨⟨vk, kk, b4, rfl, hkk, okk⟩, hb12⟩
              have OK := Lib.hid okk
              have GOK := Lib.hid (World.ownsRow.lt okk)
              clear okk
              replace Tb := Lib.hid (Tb.out.on (hb12))
              replace OU := Lib.hid (own_below OU.out (hb12))
              replace OS := Lib.hid (own_below OS.out (hb12))
              have sz12 := Lib.hid (show w11.heap.size + 0 ≤ w12.heap.size by have := hb12.size; (try simp only [World.size_alloc] at this); omega)
              have Hb12 := Lib.hid (bthen (Hb11.out) hb12)
              clear hb12
              obtain ⟨rfl, rfl⟩ := Prod.mk.inj (Hks.out.symm.trans hkk); clear hkk
              go_wp2_with fail
              refine (qRp_same _ _ ks _ (Rd.of_own OS.out rfl) (Rd.of_own OK.out rfl)).mono ?_; rintro e w13 ⟨rfl, hb13⟩
              replace Tb := Lib.hid (Tb.out.on (hb13))
              replace OU := Lib.hid (own_below OU.out (hb13))
              replace OS := Lib.hid (own_below OS.out (hb13))
              replace OK := Lib.hid (own_below OK.out (hb13))
              have sz13 := Lib.hid (show w12.heap.size + 0 ≤ w13.heap.size by have := hb13.size; (try simp only [World.size_alloc] at this); omega)
              have Hb13 := Lib.hid (bthen (Hb12.out) hb13)
              clear hb13
              clear OS
              obtain ⟨AK, cK, rfl, hcK, hmK, -⟩ := Rd.of_own (S := rpS) OK.out rfl; unfold maxLen at hmK
              have hkl := byV_len ks true Hks.out
              have hcl := cntM_le us k
              have Hrk := Lib.hid (Rd.of_own (S := rpS) OK.out rfl)
              have Hcnt := Lib.hid (by_cnt Hks.out)
              generalize cntM us k = c0 at Hcnt hcl ⊢
              clear OK GOK
              go_wp2
              go_loopw [195] (fun i wr => ∃ j : Nat, j ≤ ks.length ∧ i = .int .i64 (j : Nat) ∧ Below w13.heap.size w13 wr) (fun i _ => ks.length - (intOf i).toNat)
              case atStart => exact ⟨0, Nat.zero_le _, rfl, Below.refl _ _⟩
              case round =>
                obtain ⟨j, hj, rfl, hbi⟩ := hrel
                by_cases hjl : j < ks.length
                · obtain ⟨g, off, rfl, hg, hcell⟩ := rp_at Hrk.out hjl
                  have hmc := by_all2 Hks.out j hjl
                  obtain ⟨f0, f1, f2, f3, f4, f5, f6⟩ := hcell
                  rw [← hbi.cell (p := ⟨_, _, _⟩) hg] at f0 f1 f2 f3 f4 f5 f6
                  rw [hmc] at f1
                  clear hmc
                  generalize rpS.get ks j = y at f0 f2 f3 f4 f5 f6
                  have hgr : g < wr.heap.size := Nat.lt_of_lt_of_le hg hbi.size
                  have hi0 : (0 : Int) ≤ (j : Int) := by omega
                  have hi1 : (j : Int) < (ks.length : Int) := by omega
                  go_wp2
                  go_roundw
                  case rel => exact ⟨j + 1, by omega, by go_num, by (repeat (with_reducible first | exact Below.refl _ _ | assumption | refine bal ?_ _ | refine bst ?_ (by simp <;> omega) _ | refine Below.drew ?_ | refine bthen ?_ (by assumption)))⟩
                  case measure => simp [intOf]; omega
                · obtain rfl : j = ks.length := by omega
                  clear hj hjl
                  go_wp2
                  go_roundw
                  case rel => exact ⟨k + 1, by omega, by go_num, by rw [Hcnt.out]; go_num, bthen Hb13.out hbi⟩
                  case measure => simp [intOf]; omega
            · obtain rfl : k = 9 := by omega
              replace Tb := Lib.hid (Tb.out.on hbr); have HbT := Lib.hid (bthen Hb10.out hbr); clear hbr OU GOU
              rw [cntM_nine Hus.out]
              clear Hhe Hen Het
              go_wp2_with fail
              refine (drawReportsText_any B m d _ (Hb.out.on (HbT.out))).mono ?_; rintro e w51 ⟨⟨vv, mv, hmv, rfl, hvv⟩, hb51⟩
              obtain ⟨vs, -, ov⟩ := hvv.rp
              clear hvv hmv
              have OV := Lib.hid ov
              have GOV := Lib.hid (World.ownsRow.lt ov)
              clear ov
              replace Tb := Lib.hid (Tb.out.on (hb51))
              have sz51 := Lib.hid (show wr.heap.size + 0 ≤ w51.heap.size by have := hb51.size; (try simp only [World.size_alloc] at this); omega)
              have Hb51 := Lib.hid (bthen (HbT.out) hb51)
              clear hb51
              obtain ⟨ib, hib⟩ : ∃ ib, repsB vs = ib := ⟨_, rfl⟩
              have Hib := Lib.hid hib; clear hib
              go_wp2_with fail
              refine (implRepText_is _ vs ib _ Hib.out (Rd.of_own OV.out rfl) Tb.out).mono ?_; rintro e w52 ⟨rfl, hb52⟩
              replace Tb := Lib.hid (Tb.out.on (hb52))
              replace OV := Lib.hid (own_below OV.out (hb52))
              have sz52 := Lib.hid (show w51.heap.size + 0 ≤ w52.heap.size by have := hb52.size; (try simp only [World.size_alloc] at this); omega)
              have Hb52 := Lib.hid (bthen (Hb51.out) hb52)
              clear hb52
              go_wp2_with fail
              refine (specRepText_is _ vs ib _ Hib.out (Rd.of_own OV.out rfl)).mono ?_; rintro e w53 ⟨rfl, hb53⟩
              replace Tb := Lib.hid (Tb.out.on (hb53))
              replace OV := Lib.hid (own_below OV.out (hb53))
              have sz53 := Lib.hid (show w52.heap.size + 0 ≤ w53.heap.size by have := hb53.size; (try simp only [World.size_alloc] at this); omega)
              have Hb53 := Lib.hid (bthen (Hb52.out) hb53)
              clear hb53
              generalize (repsV vs).1 = tv
              go_wp2_with fail
              refine (drawBy_any B m d _ (Hb.out.on (Hb53.out))).mono ?_; rintro e w54 ⟨⟨vw, mw, xw, hmw, rfl, hvw, hxw⟩, hb54⟩
              obtain ⟨ws, -, ow⟩ := hvw.rp
              clear hvw hmw hxw
              have OW := Lib.hid ow
              have GOW := Lib.hid (World.ownsRow.lt ow)
              clear ow
              replace Tb := Lib.hid (Tb.out.on (hb54))
              replace OV := Lib.hid (own_below OV.out (hb54))
              have sz54 := Lib.hid (show w53.heap.size + 0 ≤ w54.heap.size by have := hb54.size; (try simp only [World.size_alloc] at this); omega)
              have Hb54 := Lib.hid (bthen (Hb53.out) hb54)
              clear hb54
              go_wp2_with fail
              refine (implBy_any _ ws xw _ (Rd.of_own OW.out rfl)).mono ?_; rintro e w55 ⟨⟨vb, bs, five, rfl, hbs, obs⟩, hb55⟩
              have OB := Lib.hid obs
              have GOB := Lib.hid (World.ownsRow.lt obs)
              clear obs
              replace Tb := Lib.hid (Tb.out.on (hb55))
              replace OV := Lib.hid (own_below OV.out (hb55))
              replace OW := Lib.hid (own_below OW.out (hb55))
              have sz55 := Lib.hid (show w54.heap.size + 0 ≤ w55.heap.size by have := hb55.size; (try simp only [World.size_alloc] at this); omega)
              have Hb55 := Lib.hid (bthen (Hb54.out) hb55)
              clear hb55
              have Hhbs := Lib.hid hbs; clear hbs
              go_wp2_with fail
              refine (specBy_any _ ws xw _ (Rd.of_own OW.out rfl)).mono ?_; rintro e w56 ⟨⟨vc, cs, sixx, rfl, hcs, ocs⟩, hb56⟩
              have OC := Lib.hid ocs
              have GOC := Lib.hid (World.ownsRow.lt ocs)
              clear ocs
              replace Tb := Lib.hid (Tb.out.on (hb56))
              replace OV := Lib.hid (own_below OV.out (hb56))
              replace OW := Lib.hid (own_below OW.out (hb56))
              replace OB := Lib.hid (own_below OB.out (hb56))
              have sz56 := Lib.hid (show w55.heap.size + 0 ≤ w56.heap.size by have := hb56.size; (try simp only [World.size_alloc] at this); omega)
              have Hb56 := Lib.hid (bthen (Hb55.out) hb56)
              clear hb56
              obtain ⟨rfl, rfl⟩ := Prod.mk.inj (Hhbs.out.symm.trans hcs); clear hcs
              go_wp2_with fail
              refine (drawIsReport_any B m d _ (Hb.out.on (Hb56.out))).mono ?_; rintro e w57 ⟨⟨y0, y1, y2, y3, y4, y5, y6, rfl⟩, hb57⟩
              replace Tb := Lib.hid (Tb.out.on (hb57))
              replace OV := Lib.hid (own_below OV.out (hb57))
              replace OW := Lib.hid (own_below OW.out (hb57))
              replace OB := Lib.hid (own_below OB.out (hb57))
              replace OC := Lib.hid (own_below OC.out (hb57))
              have sz57 := Lib.hid (show w56.heap.size + 0 ≤ w57.heap.size by have := hb57.size; (try simp only [World.size_alloc] at this); omega)
              have Hb57 := Lib.hid (bthen (Hb56.out) hb57)
              clear hb57
              obtain ⟨iy, hiy⟩ : ∃ iy, repB y0 y1 y2 y3 y4 y5 y6 = iy := ⟨_, rfl⟩
              have Hiy := Lib.hid hiy; clear hiy
              have hor := Rd.of_own (S := rpS) OV.out rfl; have hob := Rd.of_own (S := rpS) OB.out rfl; have hoc := Rd.of_own (S := rpS) OC.out rfl
              replace hor : Rd rpS (w57.alloc (Obj.cells #[.int .i64 y0, .int .i64 y1, .int .i64 y2, .int .i64 y3, .int .i64 y4, .int .i64 y5, .int .i64 y6] 30)) (w57.alloc (Obj.cells #[.int .i64 y0, .int .i64 y1, .int .i64 y2, .int .i64 y3, .int .i64 y4, .int .i64 y5, .int .i64 y6] 30)).heap.size vv vs := hor.on (bal (Below.refl _ _) _)
              replace hob : Rd rpS (w57.alloc (Obj.cells #[.int .i64 y0, .int .i64 y1, .int .i64 y2, .int .i64 y3, .int .i64 y4, .int .i64 y5, .int .i64 y6] 30)) (w57.alloc (Obj.cells #[.int .i64 y0, .int .i64 y1, .int .i64 y2, .int .i64 y3, .int .i64 y4, .int .i64 y5, .int .i64 y6] 30)).heap.size vb bs := hob.on (bal (Below.refl _ _) _)
              replace hoc : Rd rpS (w57.alloc (Obj.cells #[.int .i64 y0, .int .i64 y1, .int .i64 y2, .int .i64 y3, .int .i64 y4, .int .i64 y5, .int .i64 y6] 30)) (w57.alloc (Obj.cells #[.int .i64 y0, .int .i64 y1, .int .i64 y2, .int .i64 y3, .int .i64 y4, .int .i64 y5, .int .i64 y6] 30)).heap.size vc bs := hoc.on (bal (Below.refl _ _) _)
              go_wp2_with fail
              refine wp_region_tame (by kernel_rfl) (by kernel_rfl) (fun T _ W hT => ?_)
              have hx := hT.cell
              repeat (go_big_quiet_step ((first | (go_at_call 10; exact hT.call (areI_is _ vs ib _ Hib.out (hor.on (hT.below _)))) | (go_at_call 8; exact hT.call (qRp_same _ _ bs _ (hob.on (hT.below _)) (hoc.on (hT.below _)))) | (go_at_call 11; exact hT.call (implIsRep_is _ _ _ _ _ _ _ iy _ Hiy.out)) | (go_at_call 22; exact hT.call (specIsRep_is _ _ _ _ _ _ _ iy _ Hiy.out)))))
              refine wpQuiet_nil ?_
              intro tt
              clear hx
              have hb58 := hT.below tt
              generalize W tt = w58 at hb58 ⊢
              clear hT
              replace Tb := Lib.hid (Tb.out.on (bthen (bal (Below.refl _ _) _) hb58))
              replace OV := Lib.hid (own_below OV.out (bthen (bal (Below.refl _ _) _) hb58))
              replace OW := Lib.hid (own_below OW.out (bthen (bal (Below.refl _ _) _) hb58))
              replace OB := Lib.hid (own_below OB.out (bthen (bal (Below.refl _ _) _) hb58))
              replace OC := Lib.hid (own_below OC.out (bthen (bal (Below.refl _ _) _) hb58))
              have yb := Lib.hid ((Blk.new w57 30 #[.int .i64 y0, .int .i64 y1, .int .i64 y2, .int .i64 y3, .int .i64 y4, .int .i64 y5, .int .i64 y6]).on hb58)
              have sz58 := Lib.hid (show w57.heap.size + 1 ≤ w58.heap.size by have := hb58.size; (try simp only [World.size_alloc] at this); omega)
              have Hb58 := Lib.hid (bthen (bal (Hb57.out) _) hb58)
              clear hb58
              go_wp2
              go_ret
              exact ⟨rfl, Hb58.out⟩
        · have hlti : ¬ (e.length : Int) < (us.length : Int) := by omega
          go_wp2
          rw [show decide (us.length < e.length) = false from decide_eq_false (by omega)]
          go_loopw [19, 20] (fun al i wr => ∃ k : Nat, k ≤ 9 ∧ i = .int .i64 ((k : Int) + 1) ∧ al = .int .i64 (cntM us k : Nat) ∧ Below w10.heap.size w10 wr) (fun _ i _ => 10 - (intOf i).toNat)
          case atStart => exact ⟨0, by omega, rfl, by rw [cntM_zero Hus.out]; rfl, Below.refl _ _⟩
          case round =>
            obtain ⟨k, hk, rfl, rfl, hbr⟩ := hrel
            clear hlt hlti
            have Hbr := Lib.hid hbr
            by_cases hk9 : k < 9
            · have hki : (k : Int) + 1 ≤ 9 := by omega
              replace OU := Lib.hid (own_below OU.out hbr); replace Tb := Lib.hid (Tb.out.on hbr); clear hbr
              obtain ⟨ks, hks⟩ := by_ex Hus.out hk9
              have Hks := Lib.hid hks; clear hks
              go_wp2_with fail
              refine (implBy_any _ us ((k : Int) + 1) _ (Rd.of_own OU.out rfl)).mono ?_; rintro e w11 ⟨⟨vs, ss, b3, rfl, hss, oss⟩, hb11⟩
              have OS := Lib.hid oss
              have GOS := Lib.hid (World.ownsRow.lt oss)
              clear oss
              replace Tb := Lib.hid (Tb.out.on (hb11))
              replace OU := Lib.hid (own_below OU.out (hb11))
              have sz11 := Lib.hid (show wr.heap.size + 0 ≤ w11.heap.size by have := hb11.size; (try simp only [World.size_alloc] at this); omega)
              have Hb11 := Lib.hid (bthen (Hbr.out) hb11)
              clear hb11
              obtain ⟨rfl, rfl⟩ := Prod.mk.inj (Hks.out.symm.trans hss); clear hss
              go_wp2_with fail
              refine (specBy_any _ us ((k : Int) + 1) _ (Rd.of_own OU.out rfl)).mono ?_; rintro e w12 ⟨⟨vk, kk, b4, rfl, hkk, okk⟩, hb12⟩
              have OK := Lib.hid okk
              have GOK := Lib.hid (World.ownsRow.lt okk)
              clear okk
              replace Tb := Lib.hid (Tb.out.on (hb12))
              replace OU := Lib.hid (own_below OU.out (hb12))
              replace OS := Lib.hid (own_below OS.out (hb12))
              have sz12 := Lib.hid (show w11.heap.size + 0 ≤ w12.heap.size by have := hb12.size; (try simp only [World.size_alloc] at this); omega)
              have Hb12 := Lib.hid (bthen (Hb11.out) hb12)
              clear hb12
              obtain ⟨rfl, rfl⟩ := Prod.mk.inj (Hks.out.symm.trans hkk); clear hkk
              go_wp2_with fail
              refine (qRp_same _ _ ks _ (Rd.of_own OS.out rfl) (Rd.of_own OK.out rfl)).mono ?_; rintro e w13 ⟨rfl, hb13⟩
              replace Tb := Lib.hid (Tb.out.on (hb13))
              replace OU := Lib.hid (own_below OU.out (hb13))
              replace OS := Lib.hid (own_below OS.out (hb13))
              replace OK := Lib.hid (own_below OK.out (hb13))
              have sz13 := Lib.hid (show w12.heap.size + 0 ≤ w13.heap.size by have := hb13.size; (try simp only [World.size_alloc] at this); omega)
              have Hb13 := Lib.hid (bthen (Hb12.out) hb13)
              clear hb13
              clear OS
              obtain ⟨AK, cK, rfl, hcK, hmK, -⟩ := Rd.of_own (S := rpS) OK.out rfl; unfold maxLen at hmK
              have hkl := byV_len ks true Hks.out
              have hcl := cntM_le us k
              have Hrk := Lib.hid (Rd.of_own (S := rpS) OK.out rfl)
              have Hcnt := Lib.hid (by_cnt Hks.out)
              generalize cntM us k = c0 at Hcnt hcl ⊢
              clear OK GOK
              go_wp2
              go_loopw [195] (fun i wr => ∃ j : Nat, j ≤ ks.length ∧ i = .int .i64 (j : Nat) ∧ Below w13.heap.size w13 wr) (fun i _ => ks.length - (intOf i).toNat)
              case atStart => exact ⟨0, Nat.zero_le _, rfl, Below.refl _ _⟩
              case round =>
                obtain ⟨j, hj, rfl, hbi⟩ := hrel
                by_cases hjl : j < ks.length
                · obtain ⟨g, off, rfl, hg, hcell⟩ := rp_at Hrk.out hjl
                  have hmc := by_all2 Hks.out j hjl
                  obtain ⟨f0, f1, f2, f3, f4, f5, f6⟩ := hcell
                  rw [← hbi.cell (p := ⟨_, _, _⟩) hg] at f0 f1 f2 f3 f4 f5 f6
                  rw [hmc] at f1
                  clear hmc
                  generalize rpS.get ks j = y at f0 f2 f3 f4 f5 f6
                  have hgr : g < wr.heap.size := Nat.lt_of_lt_of_le hg hbi.size
                  have hi0 : (0 : Int) ≤ (j : Int) := by omega
                  have hi1 : (j : Int) < (ks.length : Int) := by omega
                  go_wp2
                  go_roundw
                  case rel => exact ⟨j + 1, by omega, by go_num, by (repeat (with_reducible first | exact Below.refl _ _ | assumption | refine bal ?_ _ | refine bst ?_ (by simp <;> omega) _ | refine Below.drew ?_ | refine bthen ?_ (by assumption)))⟩
                  case measure => simp [intOf]; omega
                · obtain rfl : j = ks.length := by omega
                  clear hj hjl
                  go_wp2
                  go_roundw
                  case rel => exact ⟨k + 1, by omega, by go_num, by rw [Hcnt.out]; go_num, bthen Hb13.out hbi⟩
                  case measure => simp [intOf]; omega
            · obtain rfl : k = 9 := by omega
              replace Tb := Lib.hid (Tb.out.on hbr); have HbT := Lib.hid (bthen Hb10.out hbr); clear hbr OU GOU
              rw [cntM_nine Hus.out]
              clear Hhe Hen Het
              go_wp2_with fail
              refine (drawReportsText_any B m d _ (Hb.out.on (HbT.out))).mono ?_; rintro e w51 ⟨⟨vv, mv, hmv, rfl, hvv⟩, hb51⟩
              obtain ⟨vs, -, ov⟩ := hvv.rp
              clear hvv hmv
              have OV := Lib.hid ov
              have GOV := Lib.hid (World.ownsRow.lt ov)
              clear ov
              replace Tb := Lib.hid (Tb.out.on (hb51))
              have sz51 := Lib.hid (show wr.heap.size + 0 ≤ w51.heap.size by have := hb51.size; (try simp only [World.size_alloc] at this); omega)
              have Hb51 := Lib.hid (bthen (HbT.out) hb51)
              clear hb51
              obtain ⟨ib, hib⟩ : ∃ ib, repsB vs = ib := ⟨_, rfl⟩
              have Hib := Lib.hid hib; clear hib
              go_wp2_with fail
              refine (implRepText_is _ vs ib _ Hib.out (Rd.of_own OV.out rfl) Tb.out).mono ?_; rintro e w52 ⟨rfl, hb52⟩
              replace Tb := Lib.hid (Tb.out.on (hb52))
              replace OV := Lib.hid (own_below OV.out (hb52))
              have sz52 := Lib.hid (show w51.heap.size + 0 ≤ w52.heap.size by have := hb52.size; (try simp only [World.size_alloc] at this); omega)
              have Hb52 := Lib.hid (bthen (Hb51.out) hb52)
              clear hb52
              go_wp2_with fail
              refine (specRepText_is _ vs ib _ Hib.out (Rd.of_own OV.out rfl)).mono ?_; rintro e w53 ⟨rfl, hb53⟩
              replace Tb := Lib.hid (Tb.out.on (hb53))
              replace OV := Lib.hid (own_below OV.out (hb53))
              have sz53 := Lib.hid (show w52.heap.size + 0 ≤ w53.heap.size by have := hb53.size; (try simp only [World.size_alloc] at this); omega)
              have Hb53 := Lib.hid (bthen (Hb52.out) hb53)
              clear hb53
              generalize (repsV vs).1 = tv
              go_wp2_with fail
              refine (drawBy_any B m d _ (Hb.out.on (Hb53.out))).mono ?_; rintro e w54 ⟨⟨vw, mw, xw, hmw, rfl, hvw, hxw⟩, hb54⟩
              obtain ⟨ws, -, ow⟩ := hvw.rp
              clear hvw hmw hxw
              have OW := Lib.hid ow
              have GOW := Lib.hid (World.ownsRow.lt ow)
              clear ow
              replace Tb := Lib.hid (Tb.out.on (hb54))
              replace OV := Lib.hid (own_below OV.out (hb54))
              have sz54 := Lib.hid (show w53.heap.size + 0 ≤ w54.heap.size by have := hb54.size; (try simp only [World.size_alloc] at this); omega)
              have Hb54 := Lib.hid (bthen (Hb53.out) hb54)
              clear hb54
              go_wp2_with fail
              refine (implBy_any _ ws xw _ (Rd.of_own OW.out rfl)).mono ?_; rintro e w55 ⟨⟨vb, bs, five, rfl, hbs, obs⟩, hb55⟩
              have OB := Lib.hid obs
              have GOB := Lib.hid (World.ownsRow.lt obs)
              clear obs
              replace Tb := Lib.hid (Tb.out.on (hb55))
              replace OV := Lib.hid (own_below OV.out (hb55))
              replace OW := Lib.hid (own_below OW.out (hb55))
              have sz55 := Lib.hid (show w54.heap.size + 0 ≤ w55.heap.size by have := hb55.size; (try simp only [World.size_alloc] at this); omega)
              have Hb55 := Lib.hid (bthen (Hb54.out) hb55)
              clear hb55
              have Hhbs := Lib.hid hbs; clear hbs
              go_wp2_with fail
              refine (specBy_any _ ws xw _ (Rd.of_own OW.out rfl)).mono ?_; rintro e w56 ⟨⟨vc, cs, sixx, rfl, hcs, ocs⟩, hb56⟩
              have OC := Lib.hid ocs
              have GOC := Lib.hid (World.ownsRow.lt ocs)
              clear ocs
              replace Tb := Lib.hid (Tb.out.on (hb56))
              replace OV := Lib.hid (own_below OV.out (hb56))
              replace OW := Lib.hid (own_below OW.out (hb56))
              replace OB := Lib.hid (own_below OB.out (hb56))
              have sz56 := Lib.hid (show w55.heap.size + 0 ≤ w56.heap.size by have := hb56.size; (try simp only [World.size_alloc] at this); omega)
              have Hb56 := Lib.hid (bthen (Hb55.out) hb56)
              clear hb56
              obtain ⟨rfl, rfl⟩ := Prod.mk.inj (Hhbs.out.symm.trans hcs); clear hcs
              go_wp2_with fail
              refine (drawIsReport_any B m d _ (Hb.out.on (Hb56.out))).mono ?_; rintro e w57 ⟨⟨y0, y1, y2, y3, y4, y5, y6, rfl⟩, hb57⟩
              replace Tb := Lib.hid (Tb.out.on (hb57))
              replace OV := Lib.hid (own_below OV.out (hb57))
              replace OW := Lib.hid (own_below OW.out (hb57))
              replace OB := Lib.hid (own_below OB.out (hb57))
              replace OC := Lib.hid (own_below OC.out (hb57))
              have sz57 := Lib.hid (show w56.heap.size + 0 ≤ w57.heap.size by have := hb57.size; (try simp only [World.size_alloc] at this); omega)
              have Hb57 := Lib.hid (bthen (Hb56.out) hb57)
              clear hb57
              obtain ⟨iy, hiy⟩ : ∃ iy, repB y0 y1 y2 y3 y4 y5 y6 = iy := ⟨_, rfl⟩
              have Hiy := Lib.hid hiy; clear hiy
              have hor := Rd.of_own (S := rpS) OV.out rfl; have hob := Rd.of_own (S := rpS) OB.out rfl; have hoc := Rd.of_own (S := rpS) OC.out rfl
              replace hor : Rd rpS (w57.alloc (Obj.cells #[.int .i64 y0, .int .i64 y1, .int .i64 y2, .int .i64 y3, .int .i64 y4, .int .i64 y5, .int .i64 y6] 30)) (w57.alloc (Obj.cells #[.int .i64 y0, .int .i64 y1, .int .i64 y2, .int .i64 y3, .int .i64 y4, .int .i64 y5, .int .i64 y6] 30)).heap.size vv vs := hor.on (bal (Below.refl _ _) _)
              replace hob : Rd rpS (w57.alloc (Obj.cells #[.int .i64 y0, .int .i64 y1, .int .i64 y2, .int .i64 y3, .int .i64 y4, .int .i64 y5, .int .i64 y6] 30)) (w57.alloc (Obj.cells #[.int .i64 y0, .int .i64 y1, .int .i64 y2, .int .i64 y3, .int .i64 y4, .int .i64 y5, .int .i64 y6] 30)).heap.size vb bs := hob.on (bal (Below.refl _ _) _)
              replace hoc : Rd rpS (w57.alloc (Obj.cells #[.int .i64 y0, .int .i64 y1, .int .i64 y2, .int .i64 y3, .int .i64 y4, .int .i64 y5, .int .i64 y6] 30)) (w57.alloc (Obj.cells #[.int .i64 y0, .int .i64 y1, .int .i64 y2, .int .i64 y3, .int .i64 y4, .int .i64 y5, .int .i64 y6] 30)).heap.size vc bs := hoc.on (bal (Below.refl _ _) _)
              go_wp2_with fail
              refine wp_region_tame (by kernel_rfl) (by kernel_rfl) (fun T _ W hT => ?_)
              have hx := hT.cell
              repeat (go_big_quiet_step ((first | (go_at_call 10; exact hT.call (areI_is _ vs ib _ Hib.out (hor.on (hT.below _)))) | (go_at_call 8; exact hT.call (qRp_same _ _ bs _ (hob.on (hT.below _)) (hoc.on (hT.below _)))) | (go_at_call 11; exact hT.call (implIsRep_is _ _ _ _ _ _ _ iy _ Hiy.out)) | (go_at_call 22; exact hT.call (specIsRep_is _ _ _ _ _ _ _ iy _ Hiy.out)))))
              refine wpQuiet_nil ?_
              intro tt
              clear hx
              have hb58 := hT.below tt
              generalize W tt = w58 at hb58 ⊢
              clear hT
              replace Tb := Lib.hid (Tb.out.on (bthen (bal (Below.refl _ _) _) hb58))
              replace OV := Lib.hid (own_below OV.out (bthen (bal (Below.refl _ _) _) hb58))
              replace OW := Lib.hid (own_below OW.out (bthen (bal (Below.refl _ _) _) hb58))
              replace OB := Lib.hid (own_below OB.out (bthen (bal (Below.refl _ _) _) hb58))
              replace OC := Lib.hid (own_below OC.out (bthen (bal (Below.refl _ _) _) hb58))
              have yb := Lib.hid ((Blk.new w57 30 #[.int .i64 y0, .int .i64 y1, .int .i64 y2, .int .i64 y3, .int .i64 y4, .int .i64 y5, .int .i64 y6]).on hb58)
              have sz58 := Lib.hid (show w57.heap.size + 1 ≤ w58.heap.size by have := hb58.size; (try simp only [World.size_alloc] at this); omega)
              have Hb58 := Lib.hid (bthen (bal (Hb57.out) _) hb58)
              clear hb58
              go_wp2
              go_ret
              exact ⟨rfl, Hb58.out⟩
    · go_wp2_with fail
      refine (qRp_same _ _ p _ (Rd.of_own OP.out rfl) (Rd.of_own OQ.out rfl)).mono ?_; rintro e w5 ⟨rfl, hb5⟩
      replace Tb := Lib.hid (Tb.out.on (hb5))
      replace OL := Lib.hid (own_below OL.out (hb5))
      replace rb := Lib.hid (rb.out.on (hb5))
      replace OP := Lib.hid (own_below OP.out (hb5))
      replace OQ := Lib.hid (own_below OQ.out (hb5))
      have sz5 := Lib.hid (show w4.heap.size + 0 ≤ w5.heap.size by have := hb5.size; (try simp only [World.size_alloc] at this); omega)
      have Hb5 := Lib.hid (bthen (Hb4.out) hb5)
      clear hb5
      obtain ⟨hmv, hpl, hpr, hrr⟩ := put_law Hhp.out
      have Hmv := Lib.hid hmv; have Hpr := Lib.hid hpr; have Hrr := Lib.hid hrr; clear hmv hpr hrr
      have Hpl := Lib.hid hpl; clear hpl
      go_wp2_with fail
      refine (implMiss_any _ ls _ p _ (Rd.of_own OL.out rfl) (Rd.of_own OP.out rfl)).mono ?_; rintro e w6 ⟨⟨vm, ym, bm, rfl, hym, om⟩, hb6⟩
      have OM := Lib.hid om
      have GOM := Lib.hid (World.ownsRow.lt om)
      clear om
      replace Tb := Lib.hid (Tb.out.on (hb6))
      replace OL := Lib.hid (own_below OL.out (hb6))
      replace rb := Lib.hid (rb.out.on (hb6))
      replace OP := Lib.hid (own_below OP.out (hb6))
      replace OQ := Lib.hid (own_below OQ.out (hb6))
      have sz6 := Lib.hid (show w5.heap.size + 0 ≤ w6.heap.size by have := hb6.size; (try simp only [World.size_alloc] at this); omega)
      have Hb6 := Lib.hid (bthen (Hb5.out) hb6)
      clear hb6
      obtain ⟨rfl, rfl⟩ := Prod.mk.inj (Hmv.out.symm.trans hym); clear hym
      have hll := putV_len p true Hhp.out
      obtain ⟨Al, cl, rfl, hcl, hml, -⟩ := Rd.of_own (S := rpS) OL.out rfl; unfold maxLen at hml
      obtain ⟨Aq, cq, rfl, hcq, hmq, -⟩ := Rd.of_own (S := rpS) OQ.out rfl; unfold maxLen at hmq
      obtain ⟨Am, cm, rfl, hcm, hmm, -⟩ := Rd.of_own (S := rpS) OM.out rfl; unfold maxLen at hmm
      obtain ⟨gm, fm, rfl, hgm, hcm9⟩ := rp_at (Rd.of_own (S := rpS) OM.out rfl) (k := 0) (by simp)
      obtain ⟨f0, f1, f2, f3, f4, f5, f6⟩ := hcm9
      simp [Shape.get] at f0 f1 f2 f3 f4 f5 f6
      have hpl := Hpl.out; have hne : ((p.length : Int) != (ls.length : Int) + 1) = false := by simp; omega
      have hql := neqRp7 u0 u1 u2 u3 u4 u5 u6
      have hop := Rd.of_own (S := rpS) OP.out rfl
      have hrr : repB u0 u1 u2 u3 u4 u5 u6 = true := Hrr.out
      have qrb_0 : w6.cell? ⟨w2.heap.size, 0, none⟩ = some (.int .i64 u0) := rb.out.cell 0
      have qrb_1 : w6.cell? ⟨w2.heap.size, 1, none⟩ = some (.int .i64 u1) := rb.out.cell 1
      have qrb_2 : w6.cell? ⟨w2.heap.size, 2, none⟩ = some (.int .i64 u2) := rb.out.cell 2
      have qrb_3 : w6.cell? ⟨w2.heap.size, 3, none⟩ = some (.int .i64 u3) := rb.out.cell 3
      have qrb_4 : w6.cell? ⟨w2.heap.size, 4, none⟩ = some (.int .i64 u4) := rb.out.cell 4
      have qrb_5 : w6.cell? ⟨w2.heap.size, 5, none⟩ = some (.int .i64 u5) := rb.out.cell 5
      have qrb_6 : w6.cell? ⟨w2.heap.size, 6, none⟩ = some (.int .i64 u6) := rb.out.cell 6
      have qrb_l := rb.out.lt
      go_wp2_with fail
      refine wp_region_tame (by kernel_rfl) (by kernel_rfl) (fun T _ W hT => ?_)
      have hx := hT.cell
      repeat (go_big_quiet_step ((first | (go_at_call 10; exact hT.call (areI_is _ p true _ Hpr.out (hop.on (hT.below _)))) | (go_at_call 11; exact hT.call (implIsRep_is _ _ _ _ _ _ _ true _ Hrr.out)))))
      refine wpQuiet_nil ?_
      intro tt
      clear hx
      have hb7 := hT.below tt
      generalize W tt = w7 at hb7 ⊢
      clear hT
      clear qrb_0 qrb_1 qrb_2 qrb_3 qrb_4 qrb_5 qrb_6 qrb_l
      replace Tb := Lib.hid (Tb.out.on (hb7))
      replace OL := Lib.hid (own_below OL.out (hb7))
      replace rb := Lib.hid (rb.out.on (hb7))
      replace OP := Lib.hid (own_below OP.out (hb7))
      replace OQ := Lib.hid (own_below OQ.out (hb7))
      replace OM := Lib.hid (own_below OM.out (hb7))
      have sz7 := Lib.hid (show w6.heap.size + 0 ≤ w7.heap.size by have := hb7.size; (try simp only [World.size_alloc] at this); omega)
      have Hb7 := Lib.hid (bthen (Hb6.out) hb7)
      clear hb7
      clear f0 f1 f2 f3 f4 f5 f6 hne hql hop hrr hpl hll hgm hcl hml hcq hmq hcm hmm Hmv Hpr Hrr Hpl
      clear OL
      clear OP
      clear OQ
      clear OM
      clear rb
      clear sz1 GOL Hb1 sz2 GOP Hb2 sz3 GOQ Hb3 sz4 Hb4 sz5 GOM Hb5 sz6 Hb6 sz7 Hhp
      go_wp2_with fail
      refine (drawUpTo_any B m d _ (Hb.out.on (Hb7.out))).mono ?_; rintro e w8 ⟨⟨vu, mu, x, hmu, rfl, hvu, hx⟩, hb8⟩
      obtain ⟨us, -, ou⟩ := hvu.rp
      clear hvu hmu hx
      have OU := Lib.hid ou
      have GOU := Lib.hid (World.ownsRow.lt ou)
      clear ou
      replace Tb := Lib.hid (Tb.out.on (hb8))
      have sz8 := Lib.hid (show w7.heap.size + 0 ≤ w8.heap.size by have := hb8.size; (try simp only [World.size_alloc] at this); omega)
      have Hb8 := Lib.hid (bthen (Hb7.out) hb8)
      clear hb8
      go_wp2_with fail
      refine (implUp_any _ us x _ (Rd.of_own OU.out rfl)).mono ?_; rintro e w9 ⟨⟨ve, e, one, rfl, he, oe⟩, hb9⟩
      have OE := Lib.hid oe
      have GOE := Lib.hid (World.ownsRow.lt oe)
      clear oe
      replace Tb := Lib.hid (Tb.out.on (hb9))
      replace OU := Lib.hid (own_below OU.out (hb9))
      have sz9 := Lib.hid (show w8.heap.size + 0 ≤ w9.heap.size by have := hb9.size; (try simp only [World.size_alloc] at this); omega)
      have Hb9 := Lib.hid (bthen (Hb8.out) hb9)
      clear hb9
      have Hhe := Lib.hid he; clear he
      go_wp2_with fail
      refine (specUp_any _ us x _ (Rd.of_own OU.out rfl)).mono ?_; rintro e w10 ⟨⟨vf, e2, one2, rfl, he2, of⟩, hb10⟩
      have OF := Lib.hid of
      have GOF := Lib.hid (World.ownsRow.lt of)
      clear of
      replace Tb := Lib.hid (Tb.out.on (hb10))
      replace OU := Lib.hid (own_below OU.out (hb10))
      replace OE := Lib.hid (own_below OE.out (hb10))
      have sz10 := Lib.hid (show w9.heap.size + 0 ≤ w10.heap.size by have := hb10.size; (try simp only [World.size_alloc] at this); omega)
      have Hb10 := Lib.hid (bthen (Hb9.out) hb10)
      clear hb10
      obtain ⟨rfl, rfl⟩ := Prod.mk.inj (Hhe.out.symm.trans he2); clear he2
      cases one
      · go_wp2_with fail
        refine (qRp_same _ _ e _ (Rd.of_own OE.out rfl) (Rd.of_own OF.out rfl)).mono ?_; rintro e w11 ⟨rfl, hb11⟩
        replace Tb := Lib.hid (Tb.out.on (hb11))
        replace OU := Lib.hid (own_below OU.out (hb11))
        replace OE := Lib.hid (own_below OE.out (hb11))
        replace OF := Lib.hid (own_below OF.out (hb11))
        have sz11 := Lib.hid (show w10.heap.size + 0 ≤ w11.heap.size by have := hb11.size; (try simp only [World.size_alloc] at this); omega)
        have Hb11 := Lib.hid (bthen (Hb10.out) hb11)
        clear hb11
        clear OU
        clear OE
        clear OF
        clear GOU Hb7 sz8 GOE Hb8 sz9 GOF Hb9 sz10 Hb10 sz11
        go_wp2_with fail
        refine (drawReportsText_any B m d _ (Hb.out.on (Hb11.out))).mono ?_; rintro e w12 ⟨⟨vv, mv, hmv, rfl, hvv⟩, hb12⟩
        obtain ⟨vs, -, ov⟩ := hvv.rp
        clear hvv hmv
        have OV := Lib.hid ov
        have GOV := Lib.hid (World.ownsRow.lt ov)
        clear ov
        replace Tb := Lib.hid (Tb.out.on (hb12))
        have sz12 := Lib.hid (show w11.heap.size + 0 ≤ w12.heap.size by have := hb12.size; (try simp only [World.size_alloc] at this); omega)
        have Hb12 := Lib.hid (bthen (Hb11.out) hb12)
        clear hb12
        obtain ⟨ib, hib⟩ : ∃ ib, repsB vs = ib := ⟨_, rfl⟩
        have Hib := Lib.hid hib; clear hib
        go_wp2_with fail
        refine (implRepText_is _ vs ib _ Hib.out (Rd.of_own OV.out rfl) Tb.out).mono ?_; rintro e w13 ⟨rfl, hb13⟩
        replace Tb := Lib.hid (Tb.out.on (hb13))
        replace OV := Lib.hid (own_below OV.out (hb13))
        have sz13 := Lib.hid (show w12.heap.size + 0 ≤ w13.heap.size by have := hb13.size; (try simp only [World.size_alloc] at this); omega)
        have Hb13 := Lib.hid (bthen (Hb12.out) hb13)
        clear hb13
        go_wp2_with fail
        refine (specRepText_is _ vs ib _ Hib.out (Rd.of_own OV.out rfl)).mono ?_; rintro e w14 ⟨rfl, hb14⟩
        replace Tb := Lib.hid (Tb.out.on (hb14))
        replace OV := Lib.hid (own_below OV.out (hb14))
        have sz14 := Lib.hid (show w13.heap.size + 0 ≤ w14.heap.size by have := hb14.size; (try simp only [World.size_alloc] at this); omega)
        have Hb14 := Lib.hid (bthen (Hb13.out) hb14)
        clear hb14
        generalize (repsV vs).1 = tv
        go_wp2_with fail
        refine (drawBy_any B m d _ (Hb.out.on (Hb14.out))).mono ?_; rintro e w15 ⟨⟨vw, mw, xw, hmw, rfl, hvw, hxw⟩, hb15⟩
        obtain ⟨ws, -, ow⟩ := hvw.rp
        clear hvw hmw hxw
        have OW := Lib.hid ow
        have GOW := Lib.hid (World.ownsRow.lt ow)
        clear ow
        replace Tb := Lib.hid (Tb.out.on (hb15))
        replace OV := Lib.hid (own_below OV.out (hb15))
        have sz15 := Lib.hid (show w14.heap.size + 0 ≤ w15.heap.size by have := hb15.size; (try simp only [World.size_alloc] at this); omega)
        have Hb15 := Lib.hid (bthen (Hb14.out) hb15)
        clear hb15
        go_wp2_with fail
        refine (implBy_any _ ws xw _ (Rd.of_own OW.out rfl)).mono ?_; rintro e w16 ⟨⟨vb, bs, five, rfl, hbs, obs⟩, hb16⟩
        have OB := Lib.hid obs
        have GOB := Lib.hid (World.ownsRow.lt obs)
        clear obs
        replace Tb := Lib.hid (Tb.out.on (hb16))
        replace OV := Lib.hid (own_below OV.out (hb16))
        replace OW := Lib.hid (own_below OW.out (hb16))
        have sz16 := Lib.hid (show w15.heap.size + 0 ≤ w16.heap.size by have := hb16.size; (try simp only [World.size_alloc] at this); omega)
        have Hb16 := Lib.hid (bthen (Hb15.out) hb16)
        clear hb16
        have Hhbs := Lib.hid hbs; clear hbs
        go_wp2_with fail
        refine (specBy_any _ ws xw _ (Rd.of_own OW.out rfl)).mono ?_; rintro e w17 ⟨⟨vc, cs, sixx, rfl, hcs, ocs⟩, hb17⟩
        have OC := Lib.hid ocs
        have GOC := Lib.hid (World.ownsRow.lt ocs)
        clear ocs
        replace Tb := Lib.hid (Tb.out.on (hb17))
        replace OV := Lib.hid (own_below OV.out (hb17))
        replace OW := Lib.hid (own_below OW.out (hb17))
        replace OB := Lib.hid (own_below OB.out (hb17))
        have sz17 := Lib.hid (show w16.heap.size + 0 ≤ w17.heap.size by have := hb17.size; (try simp only [World.size_alloc] at this); omega)
        have Hb17 := Lib.hid (bthen (Hb16.out) hb17)
        clear hb17
        obtain ⟨rfl, rfl⟩ := Prod.mk.inj (Hhbs.out.symm.trans hcs); clear hcs
        go_wp2_with fail
        refine (drawIsReport_any B m d _ (Hb.out.on (Hb17.out))).mono ?_; rintro e w18 ⟨⟨y0, y1, y2, y3, y4, y5, y6, rfl⟩, hb18⟩
        replace Tb := Lib.hid (Tb.out.on (hb18))
        replace OV := Lib.hid (own_below OV.out (hb18))
        replace OW := Lib.hid (own_below OW.out (hb18))
        replace OB := Lib.hid (own_below OB.out (hb18))
        replace OC := Lib.hid (own_below OC.out (hb18))
        have sz18 := Lib.hid (show w17.heap.size + 0 ≤ w18.heap.size by have := hb18.size; (try simp only [World.size_alloc] at this); omega)
        have Hb18 := Lib.hid (bthen (Hb17.out) hb18)
        clear hb18
        obtain ⟨iy, hiy⟩ : ∃ iy, repB y0 y1 y2 y3 y4 y5 y6 = iy := ⟨_, rfl⟩
        have Hiy := Lib.hid hiy; clear hiy
        have hor := Rd.of_own (S := rpS) OV.out rfl; have hob := Rd.of_own (S := rpS) OB.out rfl; have hoc := Rd.of_own (S := rpS) OC.out rfl
        replace hor : Rd rpS (w18.alloc (Obj.cells #[.int .i64 y0, .int .i64 y1, .int .i64 y2, .int .i64 y3, .int .i64 y4, .int .i64 y5, .int .i64 y6] 30)) (w18.alloc (Obj.cells #[.int .i64 y0, .int .i64 y1, .int .i64 y2, .int .i64 y3, .int .i64 y4, .int .i64 y5, .int .i64 y6] 30)).heap.size vv vs := hor.on (bal (Below.refl _ _) _)
        replace hob : Rd rpS (w18.alloc (Obj.cells #[.int .i64 y0, .int .i64 y1, .int .i64 y2, .int .i64 y3, .int .i64 y4, .int .i64 y5, .int .i64 y6] 30)) (w18.alloc (Obj.cells #[.int .i64 y0, .int .i64 y1, .int .i64 y2, .int .i64 y3, .int .i64 y4, .int .i64 y5, .int .i64 y6] 30)).heap.size vb bs := hob.on (bal (Below.refl _ _) _)
        replace hoc : Rd rpS (w18.alloc (Obj.cells #[.int .i64 y0, .int .i64 y1, .int .i64 y2, .int .i64 y3, .int .i64 y4, .int .i64 y5, .int .i64 y6] 30)) (w18.alloc (Obj.cells #[.int .i64 y0, .int .i64 y1, .int .i64 y2, .int .i64 y3, .int .i64 y4, .int .i64 y5, .int .i64 y6] 30)).heap.size vc bs := hoc.on (bal (Below.refl _ _) _)
        go_wp2_with fail
        refine wp_region_tame (by kernel_rfl) (by kernel_rfl) (fun T _ W hT => ?_)
        have hx := hT.cell
        repeat (go_big_quiet_step ((first | (go_at_call 10; exact hT.call (areI_is _ vs ib _ Hib.out (hor.on (hT.below _)))) | (go_at_call 8; exact hT.call (qRp_same _ _ bs _ (hob.on (hT.below _)) (hoc.on (hT.below _)))) | (go_at_call 11; exact hT.call (implIsRep_is _ _ _ _ _ _ _ iy _ Hiy.out)) | (go_at_call 22; exact hT.call (specIsRep_is _ _ _ _ _ _ _ iy _ Hiy.out)))))
        refine wpQuiet_nil ?_
        intro tt
        clear hx
        have hb19 := hT.below tt
        generalize W tt = w19 at hb19 ⊢
        clear hT
        replace Tb := Lib.hid (Tb.out.on (bthen (bal (Below.refl _ _) _) hb19))
        replace OV := Lib.hid (own_below OV.out (bthen (bal (Below.refl _ _) _) hb19))
        replace OW := Lib.hid (own_below OW.out (bthen (bal (Below.refl _ _) _) hb19))
        replace OB := Lib.hid (own_below OB.out (bthen (bal (Below.refl _ _) _) hb19))
        replace OC := Lib.hid (own_below OC.out (bthen (bal (Below.refl _ _) _) hb19))
        have yb := Lib.hid ((Blk.new w18 30 #[.int .i64 y0, .int .i64 y1, .int .i64 y2, .int .i64 y3, .int .i64 y4, .int .i64 y5, .int .i64 y6]).on hb19)
        have sz19 := Lib.hid (show w18.heap.size + 1 ≤ w19.heap.size by have := hb19.size; (try simp only [World.size_alloc] at this); omega)
        have Hb19 := Lib.hid (bthen (bal (Hb18.out) _) hb19)
        clear hb19
        go_wp2
        go_ret
        exact ⟨rfl, Hb19.out⟩
      · go_wp2_with fail
        refine (qRp_same _ _ e _ (Rd.of_own OE.out rfl) (Rd.of_own OF.out rfl)).mono ?_; rintro e w11 ⟨rfl, hb11⟩
        replace Tb := Lib.hid (Tb.out.on (hb11))
        replace OU := Lib.hid (own_below OU.out (hb11))
        replace OE := Lib.hid (own_below OE.out (hb11))
        replace OF := Lib.hid (own_below OF.out (hb11))
        have sz11 := Lib.hid (show w10.heap.size + 0 ≤ w11.heap.size by have := hb11.size; (try simp only [World.size_alloc] at this); omega)
        have Hb11 := Lib.hid (bthen (Hb10.out) hb11)
        clear hb11
        clear OE
        have Hus := Lib.hid (up_reps Hhe.out)
        obtain ⟨hel, het, hen⟩ := up_law Hhe.out
        have Het := Lib.hid het; have Hen := Lib.hid hen; clear het hen
        have hul : us.length ≤ 20 := (repsB_spec Hus.out).1
        obtain ⟨AU, cU, rfl, hcU, hmU, -⟩ := Rd.of_own (S := rpS) OU.out rfl; unfold maxLen at hmU
        obtain ⟨AF, cF, rfl, hcF, hmF, -⟩ := Rd.of_own (S := rpS) OF.out rfl; unfold maxLen at hmF
        have hei : (e.length : Int) ≤ (us.length : Int) := by omega
        go_wp2_with fail
        refine (qRp_eq _ _ e (us.take e.length) _ Het.out (Rd.of_own OF.out rfl) (Rd.front (Rd.of_own OU.out rfl) hel)).mono ?_; rintro e w12 ⟨rfl, hb12⟩
        replace Tb := Lib.hid (Tb.out.on (hb12))
        replace OU := Lib.hid (own_below OU.out (hb12))
        replace OF := Lib.hid (own_below OF.out (hb12))
        have sz12 := Lib.hid (show w11.heap.size + 0 ≤ w12.heap.size by have := hb12.size; (try simp only [World.size_alloc] at this); omega)
        have Hb12 := Lib.hid (bthen (Hb11.out) hb12)
        clear hb12
        clear OF
        by_cases hlt : e.length < us.length
        · obtain ⟨gu, fu, rfl, hgu, hcu⟩ := rp_at (Rd.of_own (S := rpS) OU.out rfl) hlt
          have hcu0 := hcu.1; clear hcu
          have htm := Hen.out hlt
          generalize (rpS.get us e.length).tm = tm at hcu0 htm
          have hd : decide (tm ≤ x) = false := decide_eq_false (by omega)
          have hlti : (e.length : Int) < (us.length : Int) := by omega
          go_wp2
          rw [show decide (us.length < e.length) = false from decide_eq_false (by omega)]
          go_loopw [19, 20] (fun al i wr => ∃ k : Nat, k ≤ 9 ∧ i = .int .i64 ((k : Int) + 1) ∧ al = .int .i64 (cntM us k : Nat) ∧ Below w12.heap.size w12 wr) (fun _ i _ => 10 - (intOf i).toNat)
          case atStart => exact ⟨0, by omega, rfl, by rw [cntM_zero Hus.out]; rfl, Below.refl _ _⟩
          case round =>
            obtain ⟨k, hk, rfl, rfl, hbr⟩ := hrel
            clear hcu0 htm hd hgu
            clear hlt hlti
            have Hbr := Lib.hid hbr
            by_cases hk9 : k < 9
            · have hki : (k : Int) + 1 ≤ 9 := by omega
              replace OU := Lib.hid (own_below OU.out hbr); replace Tb := Lib.hid (Tb.out.on hbr); clear hbr
              obtain ⟨ks, hks⟩ := by_ex Hus.out hk9
              have Hks := Lib.hid hks; clear hks
              go_wp2_with fail
              refine (implBy_any _ us ((k : Int) + 1) _ (Rd.of_own OU.out rfl)).mono ?_; rintro e w13 ⟨⟨vs, ss, b3, rfl, hss, oss⟩, hb13⟩
              have OS := Lib.hid oss
              have GOS := Lib.hid (World.ownsRow.lt oss)
              clear oss
              replace Tb := Lib.hid (Tb.out.on (hb13))
              replace OU := Lib.hid (own_below OU.out (hb13))
              have sz13 := Lib.hid (show wr.heap.size + 0 ≤ w13.heap.size by have := hb13.size; (try simp only [World.size_alloc] at this); omega)
              have Hb13 := Lib.hid (bthen (Hbr.out) hb13)
              clear hb13
              obtain ⟨rfl, rfl⟩ := Prod.mk.inj (Hks.out.symm.trans hss); clear hss
              go_wp2_with fail
              refine (specBy_any _ us ((k : Int) + 1) _ (Rd.of_own OU.out rfl)).mono ?_; rintro e w14 ⟨⟨vk, kk, b4, rfl, hkk, okk⟩, hb14⟩
              have OK := Lib.hid okk
              have GOK := Lib.hid (World.ownsRow.lt okk)
              clear okk
              replace Tb := Lib.hid (Tb.out.on (hb14))
              replace OU := Lib.hid (own_below OU.out (hb14))
              replace OS := Lib.hid (own_below OS.out (hb14))
              have sz14 := Lib.hid (show w13.heap.size + 0 ≤ w14.heap.size by have := hb14.size; (try simp only [World.size_alloc] at this); omega)
              have Hb14 := Lib.hid (bthen (Hb13.out) hb14)
              clear hb14
              obtain ⟨rfl, rfl⟩ := Prod.mk.inj (Hks.out.symm.trans hkk); clear hkk
              go_wp2_with fail
              refine (qRp_same _ _ ks _ (Rd.of_own OS.out rfl) (Rd.of_own OK.out rfl)).mono ?_; rintro e w15 ⟨rfl, hb15⟩
              replace Tb := Lib.hid (Tb.out.on (hb15))
              replace OU := Lib.hid (own_below OU.out (hb15))
              replace OS := Lib.hid (own_below OS.out (hb15))
              replace OK := Lib.hid (own_below OK.out (hb15))
              have sz15 := Lib.hid (show w14.heap.size + 0 ≤ w15.heap.size by have := hb15.size; (try simp only [World.size_alloc] at this); omega)
              have Hb15 := Lib.hid (bthen (Hb14.out) hb15)
              clear hb15
              clear OS
              obtain ⟨AK, cK, rfl, hcK, hmK, -⟩ := Rd.of_own (S := rpS) OK.out rfl; unfold maxLen at hmK
              have hkl := byV_len ks true Hks.out
              have hcl := cntM_le us k
              have Hrk := Lib.hid (Rd.of_own (S := rpS) OK.out rfl)
              have Hcnt := Lib.hid (by_cnt Hks.out)
              generalize cntM us k = c0 at Hcnt hcl ⊢
              clear OK GOK
              go_wp2
              go_loopw [195] (fun i wr => ∃ j : Nat, j ≤ ks.length ∧ i = .int .i64 (j : Nat) ∧ Below w15.heap.size w15 wr) (fun i _ => ks.length - (intOf i).toNat)
              case atStart => exact ⟨0, Nat.zero_le _, rfl, Below.refl _ _⟩
              case round =>
                obtain ⟨j, hj, rfl, hbi⟩ := hrel
                by_cases hjl : j < ks.length
                · obtain ⟨g, off, rfl, hg, hcell⟩ := rp_at Hrk.out hjl
                  have hmc := by_all2 Hks.out j hjl
                  obtain ⟨f0, f1, f2, f3, f4, f5, f6⟩ := hcell
                  rw [← hbi.cell (p := ⟨_, _, _⟩) hg] at f0 f1 f2 f3 f4 f5 f6
                  rw [hmc] at f1
                  clear hmc
                  generalize rpS.get ks j = y at f0 f2 f3 f4 f5 f6
                  have hgr : g < wr.heap.size := Nat.lt_of_lt_of_le hg hbi.size
                  have hi0 : (0 : Int) ≤ (j : Int) := by omega
                  have hi1 : (j : Int) < (ks.length : Int) := by omega
                  go_wp2
                  go_roundw
                  case rel => exact ⟨j + 1, by omega, by go_num, by (repeat (with_reducible first | exact Below.refl _ _ | assumption | refine bal ?_ _ | refine bst ?_ (by simp <;> omega) _ | refine Below.drew ?_ | refine bthen ?_ (by assumption)))⟩
                  case measure => simp [intOf]; omega
                · obtain rfl : j = ks.length := by omega
                  clear hj hjl
                  go_wp2
                  go_roundw
                  case rel => exact ⟨k + 1, by omega, by go_num, by rw [Hcnt.out]; go_num, bthen Hb15.out hbi⟩
                  case measure => simp [intOf]; omega
            · obtain rfl : k = 9 := by omega
              replace Tb := Lib.hid (Tb.out.on hbr); have HbT := Lib.hid (bthen Hb12.out hbr); clear hbr OU GOU
              rw [cntM_nine Hus.out]
              clear Hhe Hen Het
              go_wp2_with fail
              refine (drawReportsText_any B m d _ (Hb.out.on (HbT.out))).mono ?_; rintro e w51 ⟨⟨vv, mv, hmv, rfl, hvv⟩, hb51⟩
              obtain ⟨vs, -, ov⟩ := hvv.rp
              clear hvv hmv
              have OV := Lib.hid ov
              have GOV := Lib.hid (World.ownsRow.lt ov)
              clear ov
              replace Tb := Lib.hid (Tb.out.on (hb51))
              have sz51 := Lib.hid (show wr.heap.size + 0 ≤ w51.heap.size by have := hb51.size; (try simp only [World.size_alloc] at this); omega)
              have Hb51 := Lib.hid (bthen (HbT.out) hb51)
              clear hb51
              obtain ⟨ib, hib⟩ : ∃ ib, repsB vs = ib := ⟨_, rfl⟩
              have Hib := Lib.hid hib; clear hib
              go_wp2_with fail
              refine (implRepText_is _ vs ib _ Hib.out (Rd.of_own OV.out rfl) Tb.out).mono ?_; rintro e w52 ⟨rfl, hb52⟩
              replace Tb := Lib.hid (Tb.out.on (hb52))
              replace OV := Lib.hid (own_below OV.out (hb52))
              have sz52 := Lib.hid (show w51.heap.size + 0 ≤ w52.heap.size by have := hb52.size; (try simp only [World.size_alloc] at this); omega)
              have Hb52 := Lib.hid (bthen (Hb51.out) hb52)
              clear hb52
              go_wp2_with fail
              refine (specRepText_is _ vs ib _ Hib.out (Rd.of_own OV.out rfl)).mono ?_; rintro e w53 ⟨rfl, hb53⟩
              replace Tb := Lib.hid (Tb.out.on (hb53))
              replace OV := Lib.hid (own_below OV.out (hb53))
              have sz53 := Lib.hid (show w52.heap.size + 0 ≤ w53.heap.size by have := hb53.size; (try simp only [World.size_alloc] at this); omega)
              have Hb53 := Lib.hid (bthen (Hb52.out) hb53)
              clear hb53
              generalize (repsV vs).1 = tv
              go_wp2_with fail
              refine (drawBy_any B m d _ (Hb.out.on (Hb53.out))).mono ?_; rintro e w54 ⟨⟨vw, mw, xw, hmw, rfl, hvw, hxw⟩, hb54⟩
              obtain ⟨ws, -, ow⟩ := hvw.rp
              clear hvw hmw hxw
              have OW := Lib.hid ow
              have GOW := Lib.hid (World.ownsRow.lt ow)
              clear ow
              replace Tb := Lib.hid (Tb.out.on (hb54))
              replace OV := Lib.hid (own_below OV.out (hb54))
              have sz54 := Lib.hid (show w53.heap.size + 0 ≤ w54.heap.size by have := hb54.size; (try simp only [World.size_alloc] at this); omega)
              have Hb54 := Lib.hid (bthen (Hb53.out) hb54)
              clear hb54
              go_wp2_with fail
              refine (implBy_any _ ws xw _ (Rd.of_own OW.out rfl)).mono ?_; rintro e w55 ⟨⟨vb, bs, five, rfl, hbs, obs⟩, hb55⟩
              have OB := Lib.hid obs
              have GOB := Lib.hid (World.ownsRow.lt obs)
              clear obs
              replace Tb := Lib.hid (Tb.out.on (hb55))
              replace OV := Lib.hid (own_below OV.out (hb55))
              replace OW := Lib.hid (own_below OW.out (hb55))
              have sz55 := Lib.hid (show w54.heap.size + 0 ≤ w55.heap.size by have := hb55.size; (try simp only [World.size_alloc] at this); omega)
              have Hb55 := Lib.hid (bthen (Hb54.out) hb55)
              clear hb55
              have Hhbs := Lib.hid hbs; clear hbs
              go_wp2_with fail
              refine (specBy_any _ ws xw _ (Rd.of_own OW.out rfl)).mono ?_; rintro e w56 ⟨⟨vc, cs, sixx, rfl, hcs, ocs⟩, hb56⟩
              have OC := Lib.hid ocs
              have GOC := Lib.hid (World.ownsRow.lt ocs)
              clear ocs
              replace Tb := Lib.hid (Tb.out.on (hb56))
              replace OV := Lib.hid (own_below OV.out (hb56))
              replace OW := Lib.hid (own_below OW.out (hb56))
              replace OB := Lib.hid (own_below OB.out (hb56))
              have sz56 := Lib.hid (show w55.heap.size + 0 ≤ w56.heap.size by have := hb56.size; (try simp only [World.size_alloc] at this); omega)
              have Hb56 := Lib.hid (bthen (Hb55.out) hb56)
              clear hb56
              obtain ⟨rfl, rfl⟩ := Prod.mk.inj (Hhbs.out.symm.trans hcs); clear hcs
              go_wp2_with fail
              refine (drawIsReport_any B m d _ (Hb.out.on (Hb56.out))).mono ?_; rintro e w57 ⟨⟨y0, y1, y2, y3, y4, y5, y6, rfl⟩, hb57⟩
              replace Tb := Lib.hid (Tb.out.on (hb57))
              replace OV := Lib.hid (own_below OV.out (hb57))
              replace OW := Lib.hid (own_below OW.out (hb57))
              replace OB := Lib.hid (own_below OB.out (hb57))
              replace OC := Lib.hid (own_below OC.out (hb57))
              have sz57 := Lib.hid (show w56.heap.size + 0 ≤ w57.heap.size by have := hb57.size; (try simp only [World.size_alloc] at this); omega)
              have Hb57 := Lib.hid (bthen (Hb56.out) hb57)
              clear hb57
              obtain ⟨iy, hiy⟩ : ∃ iy, repB y0 y1 y2 y3 y4 y5 y6 = iy := ⟨_, rfl⟩
              have Hiy := Lib.hid hiy; clear hiy
              have hor := Rd.of_own (S := rpS) OV.out rfl; have hob := Rd.of_own (S := rpS) OB.out rfl; have hoc := Rd.of_own (S := rpS) OC.out rfl
              replace hor : Rd rpS (w57.alloc (Obj.cells #[.int .i64 y0, .int .i64 y1, .int .i64 y2, .int .i64 y3, .int .i64 y4, .int .i64 y5, .int .i64 y6] 30)) (w57.alloc (Obj.cells #[.int .i64 y0, .int .i64 y1, .int .i64 y2, .int .i64 y3, .int .i64 y4, .int .i64 y5, .int .i64 y6] 30)).heap.size vv vs := hor.on (bal (Below.refl _ _) _)
              replace hob : Rd rpS (w57.alloc (Obj.cells #[.int .i64 y0, .int .i64 y1, .int .i64 y2, .int .i64 y3, .int .i64 y4, .int .i64 y5, .int .i64 y6] 30)) (w57.alloc (Obj.cells #[.int .i64 y0, .int .i64 y1, .int .i64 y2, .int .i64 y3, .int .i64 y4, .int .i64 y5, .int .i64 y6] 30)).heap.size vb bs := hob.on (bal (Below.refl _ _) _)
              replace hoc : Rd rpS (w57.alloc (Obj.cells #[.int .i64 y0, .int .i64 y1, .int .i64 y2, .int .i64 y3, .int .i64 y4, .int .i64 y5, .int .i64 y6] 30)) (w57.alloc (Obj.cells #[.int .i64 y0, .int .i64 y1, .int .i64 y2, .int .i64 y3, .int .i64 y4, .int .i64 y5, .int .i64 y6] 30)).heap.size vc bs := hoc.on (bal (Below.refl _ _) _)
              go_wp2_with fail
              refine wp_region_tame (by kernel_rfl) (by kernel_rfl) (fun T _ W hT => ?_)
              have hx := hT.cell
              repeat (go_big_quiet_step ((first | (go_at_call 10; exact hT.call (areI_is _ vs ib _ Hib.out (hor.on (hT.below _)))) | (go_at_call 8; exact hT.call (qRp_same _ _ bs _ (hob.on (hT.below _)) (hoc.on (hT.below _)))) | (go_at_call 11; exact hT.call (implIsRep_is _ _ _ _ _ _ _ iy _ Hiy.out)) | (go_at_call 22; exact hT.call (specIsRep_is _ _ _ _ _ _ _ iy _ Hiy.out)))))
              refine wpQuiet_nil ?_
              intro tt
              clear hx
              have hb58 := hT.below tt
              generalize W tt = w58 at hb58 ⊢
              clear hT
              replace Tb := Lib.hid (Tb.out.on (bthen (bal (Below.refl _ _) _) hb58))
              replace OV := Lib.hid (own_below OV.out (bthen (bal (Below.refl _ _) _) hb58))
              replace OW := Lib.hid (own_below OW.out (bthen (bal (Below.refl _ _) _) hb58))
              replace OB := Lib.hid (own_below OB.out (bthen (bal (Below.refl _ _) _) hb58))
              replace OC := Lib.hid (own_below OC.out (bthen (bal (Below.refl _ _) _) hb58))
              have yb := Lib.hid ((Blk.new w57 30 #[.int .i64 y0, .int .i64 y1, .int .i64 y2, .int .i64 y3, .int .i64 y4, .int .i64 y5, .int .i64 y6]).on hb58)
              have sz58 := Lib.hid (show w57.heap.size + 1 ≤ w58.heap.size by have := hb58.size; (try simp only [World.size_alloc] at this); omega)
              have Hb58 := Lib.hid (bthen (bal (Hb57.out) _) hb58)
              clear hb58
              go_wp2
              go_ret
              exact ⟨rfl, Hb58.out⟩
        · have hlti : ¬ (e.length : Int) < (us.length : Int) := by omega
          go_wp2
          rw [show decide (us.length < e.length) = false from decide_eq_false (by omega)]
          go_loopw [19, 20] (fun al i wr => ∃ k : Nat, k ≤ 9 ∧ i = .int .i64 ((k : Int) + 1) ∧ al = .int .i64 (cntM us k : Nat) ∧ Below w12.heap.size w12 wr) (fun _ i _ => 10 - (intOf i).toNat)
          case atStart => exact ⟨0, by omega, rfl, by rw [cntM_zero Hus.out]; rfl, Below.refl _ _⟩
          case round =>
            obtain ⟨k, hk, rfl, rfl, hbr⟩ := hrel
            clear hlt hlti
            have Hbr := Lib.hid hbr
            by_cases hk9 : k < 9
            · have hki : (k : Int) + 1 ≤ 9 := by omega
              replace OU := Lib.hid (own_below OU.out hbr); replace Tb := Lib.hid (Tb.out.on hbr); clear hbr
              obtain ⟨ks, hks⟩ := by_ex Hus.out hk9
              have Hks := Lib.hid hks; clear hks
              go_wp2_with fail
              refine (implBy_any _ us ((k : Int) + 1) _ (Rd.of_own OU.out rfl)).mono ?_; rintro e w13 ⟨⟨vs, ss, b3, rfl, hss, oss⟩, hb13⟩
              have OS := Lib.hid oss
              have GOS := Lib.hid (World.ownsRow.lt oss)
              clear oss
              replace Tb := Lib.hid (Tb.out.on (hb13))
              replace OU := Lib.hid (own_below OU.out (hb13))
              have sz13 := Lib.hid (show wr.heap.size + 0 ≤ w13.heap.size by have := hb13.size; (try simp only [World.size_alloc] at this); omega)
              have Hb13 := Lib.hid (bthen (Hbr.out) hb13)
              clear hb13
              obtain ⟨rfl, rfl⟩ := Prod.mk.inj (Hks.out.symm.trans hss); clear hss
              go_wp2_with fail
              refine (specBy_any _ us ((k : Int) + 1) _ (Rd.of_own OU.out rfl)).mono ?_; rintro e w14 ⟨⟨vk, kk, b4, rfl, hkk, okk⟩, hb14⟩
              have OK := Lib.hid okk
              have GOK := Lib.hid (World.ownsRow.lt okk)
              clear okk
              replace Tb := Lib.hid (Tb.out.on (hb14))
              replace OU := Lib.hid (own_below OU.out (hb14))
              replace OS := Lib.hid (own_below OS.out (hb14))
              have sz14 := Lib.hid (show w13.heap.size + 0 ≤ w14.heap.size by have := hb14.size; (try simp only [World.size_alloc] at this); omega)
              have Hb14 := Lib.hid (bthen (Hb13.out) hb14)
              clear hb14
              obtain ⟨rfl, rfl⟩ := Prod.mk.inj (Hks.out.symm.trans hkk); clear hkk
              go_wp2_with fail
              refine (qRp_same _ _ ks _ (Rd.of_own OS.out rfl) (Rd.of_own OK.out rfl)).mono ?_; rintro e w15 ⟨rfl, hb15⟩
              replace Tb := Lib.hid (Tb.out.on (hb15))
              replace OU := Lib.hid (own_below OU.out (hb15))
              replace OS := Lib.hid (own_below OS.out (hb15))
              replace OK := Lib.hid (own_below OK.out (hb15))
              have sz15 := Lib.hid (show w14.heap.size + 0 ≤ w15.heap.size by have := hb15.size; (try simp only [World.size_alloc] at this); omega)
              have Hb15 := Lib.hid (bthen (Hb14.out) hb15)
              clear hb15
              clear OS
              obtain ⟨AK, cK, rfl, hcK, hmK, -⟩ := Rd.of_own (S := rpS) OK.out rfl; unfold maxLen at hmK
              have hkl := byV_len ks true Hks.out
              have hcl := cntM_le us k
              have Hrk := Lib.hid (Rd.of_own (S := rpS) OK.out rfl)
              have Hcnt := Lib.hid (by_cnt Hks.out)
              generalize cntM us k = c0 at Hcnt hcl ⊢
              clear OK GOK
              go_wp2
              go_loopw [195] (fun i wr => ∃ j : Nat, j ≤ ks.length ∧ i = .int .i64 (j : Nat) ∧ Below w15.heap.size w15 wr) (fun i _ => ks.length - (intOf i).toNat)
              case atStart => exact ⟨0, Nat.zero_le _, rfl, Below.refl _ _⟩
              case round =>
                obtain ⟨j, hj, rfl, hbi⟩ := hrel
                by_cases hjl : j < ks.length
                · obtain ⟨g, off, rfl, hg, hcell⟩ := rp_at Hrk.out hjl
                  have hmc := by_all2 Hks.out j hjl
                  obtain ⟨f0, f1, f2, f3, f4, f5, f6⟩ := hcell
                  rw [← hbi.cell (p := ⟨_, _, _⟩) hg] at f0 f1 f2 f3 f4 f5 f6
                  rw [hmc] at f1
                  clear hmc
                  generalize rpS.get ks j = y at f0 f2 f3 f4 f5 f6
                  have hgr : g < wr.heap.size := Nat.lt_of_lt_of_le hg hbi.size
                  have hi0 : (0 : Int) ≤ (j : Int) := by omega
                  have hi1 : (j : Int) < (ks.length : Int) := by omega
                  go_wp2
                  go_roundw
                  case rel => exact ⟨j + 1, by omega, by go_num, by (repeat (with_reducible first | exact Below.refl _ _ | assumption | refine bal ?_ _ | refine bst ?_ (by simp <;> omega) _ | refine Below.drew ?_ | refine bthen ?_ (by assumption)))⟩
                  case measure => simp [intOf]; omega
                · obtain rfl : j = ks.length := by omega
                  clear hj hjl
                  go_wp2
                  go_roundw
                  case rel => exact ⟨k + 1, by omega, by go_num, by rw [Hcnt.out]; go_num, bthen Hb15.out hbi⟩
                  case measure => simp [intOf]; omega
            · obtain rfl : k = 9 := by omega
              replace Tb := Lib.hid (Tb.out.on hbr); have HbT := Lib.hid (bthen Hb12.out hbr); clear hbr OU GOU
              rw [cntM_nine Hus.out]
              clear Hhe Hen Het
              go_wp2_with fail
              refine (drawReportsText_any B m d _ (Hb.out.on (HbT.out))).mono ?_; rintro e w51 ⟨⟨vv, mv, hmv, rfl, hvv⟩, hb51⟩
              obtain ⟨vs, -, ov⟩ := hvv.rp
              clear hvv hmv
              have OV := Lib.hid ov
              have GOV := Lib.hid (World.ownsRow.lt ov)
              clear ov
              replace Tb := Lib.hid (Tb.out.on (hb51))
              have sz51 := Lib.hid (show wr.heap.size + 0 ≤ w51.heap.size by have := hb51.size; (try simp only [World.size_alloc] at this); omega)
              have Hb51 := Lib.hid (bthen (HbT.out) hb51)
              clear hb51
              obtain ⟨ib, hib⟩ : ∃ ib, repsB vs = ib := ⟨_, rfl⟩
              have Hib := Lib.hid hib; clear hib
              go_wp2_with fail
              refine (implRepText_is _ vs ib _ Hib.out (Rd.of_own OV.out rfl) Tb.out).mono ?_; rintro e w52 ⟨rfl, hb52⟩
              replace Tb := Lib.hid (Tb.out.on (hb52))
              replace OV := Lib.hid (own_below OV.out (hb52))
              have sz52 := Lib.hid (show w51.heap.size + 0 ≤ w52.heap.size by have := hb52.size; (try simp only [World.size_alloc] at this); omega)
              have Hb52 := Lib.hid (bthen (Hb51.out) hb52)
              clear hb52
              go_wp2_with fail
              refine (specRepText_is _ vs ib _ Hib.out (Rd.of_own OV.out rfl)).mono ?_; rintro e w53 ⟨rfl, hb53⟩
              replace Tb := Lib.hid (Tb.out.on (hb53))
              replace OV := Lib.hid (own_below OV.out (hb53))
              have sz53 := Lib.hid (show w52.heap.size + 0 ≤ w53.heap.size by have := hb53.size; (try simp only [World.size_alloc] at this); omega)
              have Hb53 := Lib.hid (bthen (Hb52.out) hb53)
              clear hb53
              generalize (repsV vs).1 = tv
              go_wp2_with fail
              refine (drawBy_any B m d _ (Hb.out.on (Hb53.out))).mono ?_; rintro e w54 ⟨⟨vw, mw, xw, hmw, rfl, hvw, hxw⟩, hb54⟩
              obtain ⟨ws, -, ow⟩ := hvw.rp
              clear hvw hmw hxw
              have OW := Lib.hid ow
              have GOW := Lib.hid (World.ownsRow.lt ow)
              clear ow
              replace Tb := Lib.hid (Tb.out.on (hb54))
              replace OV := Lib.hid (own_below OV.out (hb54))
              have sz54 := Lib.hid (show w53.heap.size + 0 ≤ w54.heap.size by have := hb54.size; (try simp only [World.size_alloc] at this); omega)
              have Hb54 := Lib.hid (bthen (Hb53.out) hb54)
              clear hb54
              go_wp2_with fail
              refine (implBy_any _ ws xw _ (Rd.of_own OW.out rfl)).mono ?_; rintro e w55 ⟨⟨vb, bs, five, rfl, hbs, obs⟩, hb55⟩
              have OB := Lib.hid obs
              have GOB := Lib.hid (World.ownsRow.lt obs)
              clear obs
              replace Tb := Lib.hid (Tb.out.on (hb55))
              replace OV := Lib.hid (own_below OV.out (hb55))
              replace OW := Lib.hid (own_below OW.out (hb55))
              have sz55 := Lib.hid (show w54.heap.size + 0 ≤ w55.heap.size by have := hb55.size; (try simp only [World.size_alloc] at this); omega)
              have Hb55 := Lib.hid (bthen (Hb54.out) hb55)
              clear hb55
              have Hhbs := Lib.hid hbs; clear hbs
              go_wp2_with fail
              refine (specBy_any _ ws xw _ (Rd.of_own OW.out rfl)).mono ?_; rintro e w56 ⟨⟨vc, cs, sixx, rfl, hcs, ocs⟩, hb56⟩
              have OC := Lib.hid ocs
              have GOC := Lib.hid (World.ownsRow.lt ocs)
              clear ocs
              replace Tb := Lib.hid (Tb.out.on (hb56))
              replace OV := Lib.hid (own_below OV.out (hb56))
              replace OW := Lib.hid (own_below OW.out (hb56))
              replace OB := Lib.hid (own_below OB.out (hb56))
              have sz56 := Lib.hid (show w55.heap.size + 0 ≤ w56.heap.size by have := hb56.size; (try simp only [World.size_alloc] at this); omega)
              have Hb56 := Lib.hid (bthen (Hb55.out) hb56)
              clear hb56
              obtain ⟨rfl, rfl⟩ := Prod.mk.inj (Hhbs.out.symm.trans hcs); clear hcs
              go_wp2_with fail
              refine (drawIsReport_any B m d _ (Hb.out.on (Hb56.out))).mono ?_; rintro e w57 ⟨⟨y0, y1, y2, y3, y4, y5, y6, rfl⟩, hb57⟩
              replace Tb := Lib.hid (Tb.out.on (hb57))
              replace OV := Lib.hid (own_below OV.out (hb57))
              replace OW := Lib.hid (own_below OW.out (hb57))
              replace OB := Lib.hid (own_below OB.out (hb57))
              replace OC := Lib.hid (own_below OC.out (hb57))
              have sz57 := Lib.hid (show w56.heap.size + 0 ≤ w57.heap.size by have := hb57.size; (try simp only [World.size_alloc] at this); omega)
              have Hb57 := Lib.hid (bthen (Hb56.out) hb57)
              clear hb57
              obtain ⟨iy, hiy⟩ : ∃ iy, repB y0 y1 y2 y3 y4 y5 y6 = iy := ⟨_, rfl⟩
              have Hiy := Lib.hid hiy; clear hiy
              have hor := Rd.of_own (S := rpS) OV.out rfl; have hob := Rd.of_own (S := rpS) OB.out rfl; have hoc := Rd.of_own (S := rpS) OC.out rfl
              replace hor : Rd rpS (w57.alloc (Obj.cells #[.int .i64 y0, .int .i64 y1, .int .i64 y2, .int .i64 y3, .int .i64 y4, .int .i64 y5, .int .i64 y6] 30)) (w57.alloc (Obj.cells #[.int .i64 y0, .int .i64 y1, .int .i64 y2, .int .i64 y3, .int .i64 y4, .int .i64 y5, .int .i64 y6] 30)).heap.size vv vs := hor.on (bal (Below.refl _ _) _)
              replace hob : Rd rpS (w57.alloc (Obj.cells #[.int .i64 y0, .int .i64 y1, .int .i64 y2, .int .i64 y3, .int .i64 y4, .int .i64 y5, .int .i64 y6] 30)) (w57.alloc (Obj.cells #[.int .i64 y0, .int .i64 y1, .int .i64 y2, .int .i64 y3, .int .i64 y4, .int .i64 y5, .int .i64 y6] 30)).heap.size vb bs := hob.on (bal (Below.refl _ _) _)
              replace hoc : Rd rpS (w57.alloc (Obj.cells #[.int .i64 y0, .int .i64 y1, .int .i64 y2, .int .i64 y3, .int .i64 y4, .int .i64 y5, .int .i64 y6] 30)) (w57.alloc (Obj.cells #[.int .i64 y0, .int .i64 y1, .int .i64 y2, .int .i64 y3, .int .i64 y4, .int .i64 y5, .int .i64 y6] 30)).heap.size vc bs := hoc.on (bal (Below.refl _ _) _)
              go_wp2_with fail
              refine wp_region_tame (by kernel_rfl) (by kernel_rfl) (fun T _ W hT => ?_)
              have hx := hT.cell
              repeat (go_big_quiet_step ((first | (go_at_call 10; exact hT.call (areI_is _ vs ib _ Hib.out (hor.on (hT.below _)))) | (go_at_call 8; exact hT.call (qRp_same _ _ bs _ (hob.on (hT.below _)) (hoc.on (hT.below _)))) | (go_at_call 11; exact hT.call (implIsRep_is _ _ _ _ _ _ _ iy _ Hiy.out)) | (go_at_call 22; exact hT.call (specIsRep_is _ _ _ _ _ _ _ iy _ Hiy.out)))))
              refine wpQuiet_nil ?_
              intro tt
              clear hx
              have hb58 := hT.below tt
              generalize W tt = w58 at hb58 ⊢
              clear hT
              replace Tb := Lib.hid (Tb.out.on (bthen (bal (Below.refl _ _) _) hb58))
              replace OV := Lib.hid (own_below OV.out (bthen (bal (Below.refl _ _) _) hb58))
              replace OW := Lib.hid (own_below OW.out (bthen (bal (Below.refl _ _) _) hb58))
              replace OB := Lib.hid (own_below OB.out (bthen (bal (Below.refl _ _) _) hb58))
              replace OC := Lib.hid (own_below OC.out (bthen (bal (Below.refl _ _) _) hb58))
              have yb := Lib.hid ((Blk.new w57 30 #[.int .i64 y0, .int .i64 y1, .int .i64 y2, .int .i64 y3, .int .i64 y4, .int .i64 y5, .int .i64 y6]).on hb58)
              have sz58 := Lib.hid (show w57.heap.size + 1 ≤ w58.heap.size by have := hb58.size; (try simp only [World.size_alloc] at this); omega)
              have Hb58 := Lib.hid (bthen (bal (Hb57.out) _) hb58)
              clear hb58
              go_wp2
              go_ret
              exact ⟨rfl, Hb58.out⟩
  · go_wp2
    go_ret
    exact ⟨rfl, Hb1.out⟩
end Go.Proofs.YtjnghjgfhlgbiaaDoor
