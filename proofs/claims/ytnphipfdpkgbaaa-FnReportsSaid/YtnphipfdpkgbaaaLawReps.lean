/- The law FnReports: its walk. Conditions: none. Printed by gen_replaw.py. -/
import Derived.Test.YtnphipfdpkgbaaaDrJ
import Derived.Test.YtnphipfdpkgbaaaRpAll
import Derived.Test.YtnphipfdpkgbaaaCatOf
import Derived.Test.YtnphipfdpkgbaaaFirst
import Derived.Test.YtnphipfdpkgbaaaWithout
import Derived.Test.YtnphipfdpkgbaaaBetter
import Derived.Test.YtnphipfdpkgbaaaSReport
namespace Go.Proofs.Ytnphipfdpkgbaaa
open Go Go.RowKit

set_option maxRecDepth 8000 in
set_option maxHeartbeats 16000000 in
theorem fnReports_walk (A : Option Addr) (n c : Nat) (B : Option Addr) (m d : Nat) (w : World) (ha : BytesAt w w.heap.size A n) (hb : BytesAt w w.heap.size B m) :
    Calls Try.prog 5 #[.slice A n c, .slice B m d] w fun e w' => e = .returned (.bool true) ∧ Below w.heap.size w w' := by
  have Ha := Lib.hid ha; have Hb := Lib.hid hb; clear ha hb
  go_enter Try.func5, Try.ntmps5
  go_wp2_with fail
  refine (big_any A n c B m d _).mono ?_; rintro e w1 ⟨rfl, hb1⟩
  have sz1 := Lib.hid (show w.heap.size + 0 ≤ w1.heap.size by have := hb1.size; (try simp only [World.size_alloc] at this); omega)
  have Hb1 := Lib.hid (bthen (Below.refl _ _) hb1)
  clear hb1
  cases bigB n m
  · go_wp2_with fail
    refine (drawJoin_any A n c _ (Ha.out.on (Hb1.out))).mono ?_; rintro e w2 ⟨⟨⟨v1, m1, v2, m2, hm1, hm2, rfl, hv1, hv2⟩⟩, hb2⟩
    obtain ⟨xs, -, o1⟩ := hv1.rp
    obtain ⟨bs, -, o2⟩ := hv2.rp
    clear hv1 hv2 hm1 hm2
    have O1 := Lib.hid o1
    have GO1 := Lib.hid (World.ownsRow.lt o1)
    clear o1
    have O2 := Lib.hid o2
    have GO2 := Lib.hid (World.ownsRow.lt o2)
    clear o2
    have sz2 := Lib.hid (show w1.heap.size + 0 ≤ w2.heap.size by have := hb2.size; (try simp only [World.size_alloc] at this); omega)
    have Hb2 := Lib.hid (bthen (Hb1.out) hb2)
    clear hb2
    go_wp2_with fail
    refine (implJoin_any _ xs _ bs _ (Rd.of_own O1.out rfl) (Rd.of_own O2.out rfl)).mono ?_; rintro e w3 ⟨⟨v3, j, ok, rfl, hj, o3⟩, hb3⟩
    have O3 := Lib.hid o3
    have GO3 := Lib.hid (World.ownsRow.lt o3)
    clear o3
    replace O1 := Lib.hid (own_below O1.out (hb3))
    replace O2 := Lib.hid (own_below O2.out (hb3))
    have sz3 := Lib.hid (show w2.heap.size + 0 ≤ w3.heap.size by have := hb3.size; (try simp only [World.size_alloc] at this); omega)
    have Hb3 := Lib.hid (bthen (Hb2.out) hb3)
    clear hb3
    have Hhj := Lib.hid hj; clear hj
    go_wp2_with fail
    refine (specJoin_any _ xs _ bs _ (Rd.of_own O1.out rfl) (Rd.of_own O2.out rfl)).mono ?_; rintro e w4 ⟨⟨v4, j4, ok4, rfl, hj4, o4⟩, hb4⟩
    have O4 := Lib.hid o4
    have GO4 := Lib.hid (World.ownsRow.lt o4)
    clear o4
    replace O1 := Lib.hid (own_below O1.out (hb4))
    replace O2 := Lib.hid (own_below O2.out (hb4))
    replace O3 := Lib.hid (own_below O3.out (hb4))
    have sz4 := Lib.hid (show w3.heap.size + 0 ≤ w4.heap.size by have := hb4.size; (try simp only [World.size_alloc] at this); omega)
    have Hb4 := Lib.hid (bthen (Hb3.out) hb4)
    clear hb4
    obtain ⟨rfl, rfl⟩ := Prod.mk.inj (Hhj.out.symm.trans hj4); clear hj4
    go_wp2_with fail
    refine (implMiss_any _ xs _ bs _ (Rd.of_own O1.out rfl) (Rd.of_own O2.out rfl)).mono ?_; rintro e w5 ⟨⟨v5, y, one, rfl, hy, o5⟩, hb5⟩
    have O5 := Lib.hid o5
    have GO5 := Lib.hid (World.ownsRow.lt o5)
    clear o5
    replace O1 := Lib.hid (own_below O1.out (hb5))
    replace O2 := Lib.hid (own_below O2.out (hb5))
    replace O3 := Lib.hid (own_below O3.out (hb5))
    replace O4 := Lib.hid (own_below O4.out (hb5))
    have sz5 := Lib.hid (show w4.heap.size + 0 ≤ w5.heap.size by have := hb5.size; (try simp only [World.size_alloc] at this); omega)
    have Hb5 := Lib.hid (bthen (Hb4.out) hb5)
    clear hb5
    have Hhy := Lib.hid hy; clear hy
    go_wp2_with fail
    refine (specMiss_any _ xs _ bs _ (Rd.of_own O1.out rfl) (Rd.of_own O2.out rfl)).mono ?_; rintro e w6 ⟨⟨v6, y6, one6, rfl, hy6, o6⟩, hb6⟩
    have O6 := Lib.hid o6
    have GO6 := Lib.hid (World.ownsRow.lt o6)
    clear o6
    replace O1 := Lib.hid (own_below O1.out (hb6))
    replace O2 := Lib.hid (own_below O2.out (hb6))
    replace O3 := Lib.hid (own_below O3.out (hb6))
    replace O4 := Lib.hid (own_below O4.out (hb6))
    replace O5 := Lib.hid (own_below O5.out (hb6))
    have sz6 := Lib.hid (show w5.heap.size + 0 ≤ w6.heap.size by have := hb6.size; (try simp only [World.size_alloc] at this); omega)
    have Hb6 := Lib.hid (bthen (Hb5.out) hb6)
    clear hb6
    obtain ⟨rfl, rfl⟩ := Prod.mk.inj (Hhy.out.symm.trans hy6); clear hy6
    obtain ⟨Ax1, cx1, rfl, -, -, -⟩ := Rd.of_own (S := rpS) O1.out rfl
    obtain ⟨Ax4, cx4, rfl, -, -, -⟩ := Rd.of_own (S := rpS) O4.out rfl
    obtain ⟨Ax6, cx6, rfl, -, -, -⟩ := Rd.of_own (S := rpS) O6.out rfl
    cases ok
    · go_wp2_with fail
      refine (qRp_same _ _ j _ (Rd.of_own O3.out rfl) (Rd.of_own O4.out rfl)).mono ?_; rintro e w7 ⟨rfl, hb7⟩
      replace O1 := Lib.hid (own_below O1.out (hb7))
      replace O2 := Lib.hid (own_below O2.out (hb7))
      replace O3 := Lib.hid (own_below O3.out (hb7))
      replace O4 := Lib.hid (own_below O4.out (hb7))
      replace O5 := Lib.hid (own_below O5.out (hb7))
      replace O6 := Lib.hid (own_below O6.out (hb7))
      have sz7 := Lib.hid (show w6.heap.size + 0 ≤ w7.heap.size by have := hb7.size; (try simp only [World.size_alloc] at this); omega)
      have Hb7 := Lib.hid (bthen (Hb6.out) hb7)
      clear hb7
      go_wp2_with fail
      refine (qRp_same _ _ y _ (Rd.of_own O5.out rfl) (Rd.of_own O6.out rfl)).mono ?_; rintro e w8 ⟨rfl, hb8⟩
      replace O1 := Lib.hid (own_below O1.out (hb8))
      replace O2 := Lib.hid (own_below O2.out (hb8))
      replace O3 := Lib.hid (own_below O3.out (hb8))
      replace O4 := Lib.hid (own_below O4.out (hb8))
      replace O5 := Lib.hid (own_below O5.out (hb8))
      replace O6 := Lib.hid (own_below O6.out (hb8))
      have sz8 := Lib.hid (show w7.heap.size + 0 ≤ w8.heap.size by have := hb8.size; (try simp only [World.size_alloc] at this); omega)
      have Hb8 := Lib.hid (bthen (Hb7.out) hb8)
      clear hb8
      clear O1
      clear O2
      clear O3
      clear O4
      clear O5
      clear O6
      clear Hhj Hhy
      go_wp2_with fail
      refine (drawWithoutContradictions_any B m d _ (Hb.out.on (Hb8.out))).mono ?_; rintro e w9 ⟨⟨vu, mu, hmu, rfl, hvu⟩, hb9⟩
      obtain ⟨us, -, ou⟩ := hvu.rp
      clear hvu hmu
      have OU := Lib.hid ou
      have GOU := Lib.hid (World.ownsRow.lt ou)
      clear ou
      have sz9 := Lib.hid (show w8.heap.size + 0 ≤ w9.heap.size by have := hb9.size; (try simp only [World.size_alloc] at this); omega)
      have Hb9 := Lib.hid (bthen (Hb8.out) hb9)
      clear hb9
      go_wp2_with fail
      refine (implWithout_any _ us _ (Rd.of_own OU.out rfl)).mono ?_; rintro e w10 ⟨⟨vw, wl, three, rfl, hw, ow⟩, hb10⟩
      have OW := Lib.hid ow
      have GOW := Lib.hid (World.ownsRow.lt ow)
      clear ow
      replace OU := Lib.hid (own_below OU.out (hb10))
      have sz10 := Lib.hid (show w9.heap.size + 0 ≤ w10.heap.size by have := hb10.size; (try simp only [World.size_alloc] at this); omega)
      have Hb10 := Lib.hid (bthen (Hb9.out) hb10)
      clear hb10
      have Hhw := Lib.hid hw; clear hw
      go_wp2_with fail
      refine (specWithout_any _ us _ (Rd.of_own OU.out rfl)).mono ?_; rintro e w11 ⟨⟨vx, wx, threx, rfl, hx, ox⟩, hb11⟩
      have OX := Lib.hid ox
      have GOX := Lib.hid (World.ownsRow.lt ox)
      clear ox
      replace OU := Lib.hid (own_below OU.out (hb11))
      replace OW := Lib.hid (own_below OW.out (hb11))
      have sz11 := Lib.hid (show w10.heap.size + 0 ≤ w11.heap.size by have := hb11.size; (try simp only [World.size_alloc] at this); omega)
      have Hb11 := Lib.hid (bthen (Hb10.out) hb11)
      clear hb11
      obtain ⟨rfl, rfl⟩ := Prod.mk.inj (Hhw.out.symm.trans hx); clear hx
      go_wp2_with fail
      refine (implFirst_any _ us _ (Rd.of_own OU.out rfl)).mono ?_; rintro e w12 ⟨⟨f, five, rfl, hf⟩, hb12⟩
      replace OU := Lib.hid (own_below OU.out (hb12))
      replace OW := Lib.hid (own_below OW.out (hb12))
      replace OX := Lib.hid (own_below OX.out (hb12))
      have sz12 := Lib.hid (show w11.heap.size + 0 ≤ w12.heap.size by have := hb12.size; (try simp only [World.size_alloc] at this); omega)
      have Hb12 := Lib.hid (bthen (Hb11.out) hb12)
      clear hb12
      have Hhf := Lib.hid hf; clear hf
      go_wp2_with fail
      refine (specFirst_any _ us _ (Rd.of_own OU.out rfl)).mono ?_; rintro e w13 ⟨⟨f2, five2, rfl, hf2⟩, hb13⟩
      replace OU := Lib.hid (own_below OU.out (hb13))
      replace OW := Lib.hid (own_below OW.out (hb13))
      replace OX := Lib.hid (own_below OX.out (hb13))
      have sz13 := Lib.hid (show w12.heap.size + 0 ≤ w13.heap.size by have := hb13.size; (try simp only [World.size_alloc] at this); omega)
      have Hb13 := Lib.hid (bthen (Hb12.out) hb13)
      clear hb13
      obtain ⟨rfl, rfl⟩ := Prod.mk.inj (Hhf.out.symm.trans hf2); clear hf2
      go_wp2_with fail
      refine (implCatOf_any _ us _ (Rd.of_own OU.out rfl)).mono ?_; rintro e w14 ⟨⟨vc, cl, seven, rfl, hc, oc⟩, hb14⟩
      have OC := Lib.hid oc
      have GOC := Lib.hid (World.ownsRow.lt oc)
      clear oc
      replace OU := Lib.hid (own_below OU.out (hb14))
      replace OW := Lib.hid (own_below OW.out (hb14))
      replace OX := Lib.hid (own_below OX.out (hb14))
      have sz14 := Lib.hid (show w13.heap.size + 0 ≤ w14.heap.size by have := hb14.size; (try simp only [World.size_alloc] at this); omega)
      have Hb14 := Lib.hid (bthen (Hb13.out) hb14)
      clear hb14
      have Hhc := Lib.hid hc; clear hc
      go_wp2_with fail
      refine (specCatOf_any _ us _ (Rd.of_own OU.out rfl)).mono ?_; rintro e w15 ⟨⟨vd, dl, sevend, rfl, hd, od⟩, hb15⟩
      have OD := Lib.hid od
      have GOD := Lib.hid (World.ownsRow.lt od)
      clear od
      replace OU := Lib.hid (own_below OU.out (hb15))
      replace OW := Lib.hid (own_below OW.out (hb15))
      replace OX := Lib.hid (own_below OX.out (hb15))
      replace OC := Lib.hid (own_below OC.out (hb15))
      have sz15 := Lib.hid (show w14.heap.size + 0 ≤ w15.heap.size by have := hb15.size; (try simp only [World.size_alloc] at this); omega)
      have Hb15 := Lib.hid (bthen (Hb14.out) hb15)
      clear hb15
      obtain ⟨rfl, rfl⟩ := Prod.mk.inj (Hhc.out.symm.trans hd); clear hd
      obtain ⟨Axx, cxx, rfl, -, -, -⟩ := Rd.of_own (S := rpS) OX.out rfl
      obtain ⟨Axu, cxu, rfl, -, -, -⟩ := Rd.of_own (S := rpS) OU.out rfl
      cases three
      · cases five
        · go_wp2_with fail
          refine (qRp_same _ _ wl _ (Rd.of_own OW.out rfl) (Rd.of_own OX.out rfl)).mono ?_; rintro e w16 ⟨rfl, hb16⟩
          replace OU := Lib.hid (own_below OU.out (hb16))
          replace OW := Lib.hid (own_below OW.out (hb16))
          replace OX := Lib.hid (own_below OX.out (hb16))
          replace OC := Lib.hid (own_below OC.out (hb16))
          replace OD := Lib.hid (own_below OD.out (hb16))
          have sz16 := Lib.hid (show w15.heap.size + 0 ≤ w16.heap.size by have := hb16.size; (try simp only [World.size_alloc] at this); omega)
          have Hb16 := Lib.hid (bthen (Hb15.out) hb16)
          clear hb16
          go_wp2_with fail
          refine (pEn_same _ _ cl _ (Rd.of_own OC.out rfl) (Rd.of_own OD.out rfl)).mono ?_; rintro e w17 ⟨rfl, hb17⟩
          replace OU := Lib.hid (own_below OU.out (hb17))
          replace OW := Lib.hid (own_below OW.out (hb17))
          replace OX := Lib.hid (own_below OX.out (hb17))
          replace OC := Lib.hid (own_below OC.out (hb17))
          replace OD := Lib.hid (own_below OD.out (hb17))
          have sz17 := Lib.hid (show w16.heap.size + 0 ≤ w17.heap.size by have := hb17.size; (try simp only [World.size_alloc] at this); omega)
          have Hb17 := Lib.hid (bthen (Hb16.out) hb17)
          clear hb17
          go_wp2
          go_ret
          exact ⟨rfl, Hb17.out⟩
        · obtain rfl : seven = false := (first_cat Hhf.out Hhc.out).resolve_left (by simp)
          go_wp2_with fail
          refine (qRp_same _ _ wl _ (Rd.of_own OW.out rfl) (Rd.of_own OX.out rfl)).mono ?_; rintro e w16 ⟨rfl, hb16⟩
          replace OU := Lib.hid (own_below OU.out (hb16))
          replace OW := Lib.hid (own_below OW.out (hb16))
          replace OX := Lib.hid (own_below OX.out (hb16))
          replace OC := Lib.hid (own_below OC.out (hb16))
          replace OD := Lib.hid (own_below OD.out (hb16))
          have sz16 := Lib.hid (show w15.heap.size + 0 ≤ w16.heap.size by have := hb16.size; (try simp only [World.size_alloc] at this); omega)
          have Hb16 := Lib.hid (bthen (Hb15.out) hb16)
          clear hb16
          go_wp2_with fail
          refine (pEn_same _ _ cl _ (Rd.of_own OC.out rfl) (Rd.of_own OD.out rfl)).mono ?_; rintro e w17 ⟨rfl, hb17⟩
          replace OU := Lib.hid (own_below OU.out (hb17))
          replace OW := Lib.hid (own_below OW.out (hb17))
          replace OX := Lib.hid (own_below OX.out (hb17))
          replace OC := Lib.hid (own_below OC.out (hb17))
          replace OD := Lib.hid (own_below OD.out (hb17))
          have sz17 := Lib.hid (show w16.heap.size + 0 ≤ w17.heap.size by have := hb17.size; (try simp only [World.size_alloc] at this); omega)
          have Hb17 := Lib.hid (bthen (Hb16.out) hb17)
          clear hb17
          go_wp2
          go_ret
          exact ⟨rfl, Hb17.out⟩
      · cases five
        · cases seven
          · go_wp2_with fail
            refine (qRp_same _ _ wl _ (Rd.of_own OW.out rfl) (Rd.of_own OX.out rfl)).mono ?_; rintro e w16 ⟨rfl, hb16⟩
            replace OU := Lib.hid (own_below OU.out (hb16))
            replace OW := Lib.hid (own_below OW.out (hb16))
            replace OX := Lib.hid (own_below OX.out (hb16))
            replace OC := Lib.hid (own_below OC.out (hb16))
            replace OD := Lib.hid (own_below OD.out (hb16))
            have sz16 := Lib.hid (show w15.heap.size + 0 ≤ w16.heap.size by have := hb16.size; (try simp only [World.size_alloc] at this); omega)
            have Hb16 := Lib.hid (bthen (Hb15.out) hb16)
            clear hb16
            go_wp2_with fail
            refine (pEn_same _ _ cl _ (Rd.of_own OC.out rfl) (Rd.of_own OD.out rfl)).mono ?_; rintro e w17 ⟨rfl, hb17⟩
            replace OU := Lib.hid (own_below OU.out (hb17))
            replace OW := Lib.hid (own_below OW.out (hb17))
            replace OX := Lib.hid (own_below OX.out (hb17))
            replace OC := Lib.hid (own_below OC.out (hb17))
            replace OD := Lib.hid (own_below OD.out (hb17))
            have sz17 := Lib.hid (show w16.heap.size + 0 ≤ w17.heap.size by have := hb17.size; (try simp only [World.size_alloc] at this); omega)
            have Hb17 := Lib.hid (bthen (Hb16.out) hb17)
            clear hb17
            obtain ⟨kl, hk⟩ := with_cat Hhw.out
            have Hk := Lib.hid hk; clear hk
            go_wp2_with fail
            refine (implCatOf_any _ wl _ (Rd.of_own OW.out rfl)).mono ?_; rintro e w18 ⟨⟨vk, kl2, k2, rfl, hk2, ok⟩, hb18⟩
            have OK := Lib.hid ok
            have GOK := Lib.hid (World.ownsRow.lt ok)
            clear ok
            replace OU := Lib.hid (own_below OU.out (hb18))
            replace OW := Lib.hid (own_below OW.out (hb18))
            replace OX := Lib.hid (own_below OX.out (hb18))
            replace OC := Lib.hid (own_below OC.out (hb18))
            replace OD := Lib.hid (own_below OD.out (hb18))
            have sz18 := Lib.hid (show w17.heap.size + 0 ≤ w18.heap.size by have := hb18.size; (try simp only [World.size_alloc] at this); omega)
            have Hb18 := Lib.hid (bthen (Hb17.out) hb18)
            clear hb18
            obtain ⟨rfl, rfl⟩ := Prod.mk.inj (Hk.out.symm.trans hk2); clear hk2
            go_wp2_with fail
            refine (specCatOf_any _ wl _ (Rd.of_own OX.out rfl)).mono ?_; rintro e w19 ⟨⟨vk2, kl3, k3, rfl, hk3, ok2⟩, hb19⟩
            have OK2 := Lib.hid ok2
            have GOK2 := Lib.hid (World.ownsRow.lt ok2)
            clear ok2
            replace OU := Lib.hid (own_below OU.out (hb19))
            replace OW := Lib.hid (own_below OW.out (hb19))
            replace OX := Lib.hid (own_below OX.out (hb19))
            replace OC := Lib.hid (own_below OC.out (hb19))
            replace OD := Lib.hid (own_below OD.out (hb19))
            replace OK := Lib.hid (own_below OK.out (hb19))
            have sz19 := Lib.hid (show w18.heap.size + 0 ≤ w19.heap.size by have := hb19.size; (try simp only [World.size_alloc] at this); omega)
            have Hb19 := Lib.hid (bthen (Hb18.out) hb19)
            clear hb19
            obtain ⟨rfl, rfl⟩ := Prod.mk.inj (Hk.out.symm.trans hk3); clear hk3
            go_wp2_with fail
            refine (pEn_same _ _ kl _ (Rd.of_own OK.out rfl) (Rd.of_own OK2.out rfl)).mono ?_; rintro e w20 ⟨rfl, hb20⟩
            replace OU := Lib.hid (own_below OU.out (hb20))
            replace OW := Lib.hid (own_below OW.out (hb20))
            replace OX := Lib.hid (own_below OX.out (hb20))
            replace OC := Lib.hid (own_below OC.out (hb20))
            replace OD := Lib.hid (own_below OD.out (hb20))
            replace OK := Lib.hid (own_below OK.out (hb20))
            replace OK2 := Lib.hid (own_below OK2.out (hb20))
            have sz20 := Lib.hid (show w19.heap.size + 0 ≤ w20.heap.size by have := hb20.size; (try simp only [World.size_alloc] at this); omega)
            have Hb20 := Lib.hid (bthen (Hb19.out) hb20)
            clear hb20
            go_wp2
            go_ret
            exact ⟨rfl, Hb20.out⟩
          · go_wp2_with fail
            refine (qRp_same _ _ wl _ (Rd.of_own OW.out rfl) (Rd.of_own OX.out rfl)).mono ?_; rintro e w16 ⟨rfl, hb16⟩
            replace OU := Lib.hid (own_below OU.out (hb16))
            replace OW := Lib.hid (own_below OW.out (hb16))
            replace OX := Lib.hid (own_below OX.out (hb16))
            replace OC := Lib.hid (own_below OC.out (hb16))
            replace OD := Lib.hid (own_below OD.out (hb16))
            have sz16 := Lib.hid (show w15.heap.size + 0 ≤ w16.heap.size by have := hb16.size; (try simp only [World.size_alloc] at this); omega)
            have Hb16 := Lib.hid (bthen (Hb15.out) hb16)
            clear hb16
            go_wp2_with fail
            refine (pEn_same _ _ cl _ (Rd.of_own OC.out rfl) (Rd.of_own OD.out rfl)).mono ?_; rintro e w17 ⟨rfl, hb17⟩
            replace OU := Lib.hid (own_below OU.out (hb17))
            replace OW := Lib.hid (own_below OW.out (hb17))
            replace OX := Lib.hid (own_below OX.out (hb17))
            replace OC := Lib.hid (own_below OC.out (hb17))
            replace OD := Lib.hid (own_below OD.out (hb17))
            have sz17 := Lib.hid (show w16.heap.size + 0 ≤ w17.heap.size by have := hb17.size; (try simp only [World.size_alloc] at this); omega)
            have Hb17 := Lib.hid (bthen (Hb16.out) hb17)
            clear hb17
            obtain ⟨kl, hk⟩ := with_cat Hhw.out
            have Hk := Lib.hid hk; clear hk
            go_wp2_with fail
            refine (implCatOf_any _ wl _ (Rd.of_own OW.out rfl)).mono ?_; rintro e w18 ⟨⟨vk, kl2, k2, rfl, hk2, ok⟩, hb18⟩
            have OK := Lib.hid ok
            have GOK := Lib.hid (World.ownsRow.lt ok)
            clear ok
            replace OU := Lib.hid (own_below OU.out (hb18))
            replace OW := Lib.hid (own_below OW.out (hb18))
            replace OX := Lib.hid (own_below OX.out (hb18))
            replace OC := Lib.hid (own_below OC.out (hb18))
            replace OD := Lib.hid (own_below OD.out (hb18))
            have sz18 := Lib.hid (show w17.heap.size + 0 ≤ w18.heap.size by have := hb18.size; (try simp only [World.size_alloc] at this); omega)
            have Hb18 := Lib.hid (bthen (Hb17.out) hb18)
            clear hb18
            obtain ⟨rfl, rfl⟩ := Prod.mk.inj (Hk.out.symm.trans hk2); clear hk2
            go_wp2_with fail
            refine (specCatOf_any _ wl _ (Rd.of_own OX.out rfl)).mono ?_; rintro e w19 ⟨⟨vk2, kl3, k3, rfl, hk3, ok2⟩, hb19⟩
            have OK2 := Lib.hid ok2
            have GOK2 := Lib.hid (World.ownsRow.lt ok2)
            clear ok2
            replace OU := Lib.hid (own_below OU.out (hb19))
            replace OW := Lib.hid (own_below OW.out (hb19))
            replace OX := Lib.hid (own_below OX.out (hb19))
            replace OC := Lib.hid (own_below OC.out (hb19))
            replace OD := Lib.hid (own_below OD.out (hb19))
            replace OK := Lib.hid (own_below OK.out (hb19))
            have sz19 := Lib.hid (show w18.heap.size + 0 ≤ w19.heap.size by have := hb19.size; (try simp only [World.size_alloc] at this); omega)
            have Hb19 := Lib.hid (bthen (Hb18.out) hb19)
            clear hb19
            obtain ⟨rfl, rfl⟩ := Prod.mk.inj (Hk.out.symm.trans hk3); clear hk3
            go_wp2_with fail
            refine (pEn_same _ _ kl _ (Rd.of_own OK.out rfl) (Rd.of_own OK2.out rfl)).mono ?_; rintro e w20 ⟨rfl, hb20⟩
            replace OU := Lib.hid (own_below OU.out (hb20))
            replace OW := Lib.hid (own_below OW.out (hb20))
            replace OX := Lib.hid (own_below OX.out (hb20))
            replace OC := Lib.hid (own_below OC.out (hb20))
            replace OD := Lib.hid (own_below OD.out (hb20))
            replace OK := Lib.hid (own_below OK.out (hb20))
            replace OK2 := Lib.hid (own_below OK2.out (hb20))
            have sz20 := Lib.hid (show w19.heap.size + 0 ≤ w20.heap.size by have := hb20.size; (try simp only [World.size_alloc] at this); omega)
            have Hb20 := Lib.hid (bthen (Hb19.out) hb20)
            clear hb20
            go_wp2_with fail
            refine (qRp_eq _ _ wl us _ (with_all Hhw.out Hhc.out) (Rd.of_own OX.out rfl) (Rd.of_own OU.out rfl)).mono ?_; rintro e w21 ⟨rfl, hb21⟩
            replace OU := Lib.hid (own_below OU.out (hb21))
            replace OW := Lib.hid (own_below OW.out (hb21))
            replace OX := Lib.hid (own_below OX.out (hb21))
            replace OC := Lib.hid (own_below OC.out (hb21))
            replace OD := Lib.hid (own_below OD.out (hb21))
            replace OK := Lib.hid (own_below OK.out (hb21))
            replace OK2 := Lib.hid (own_below OK2.out (hb21))
            have sz21 := Lib.hid (show w20.heap.size + 0 ≤ w21.heap.size by have := hb21.size; (try simp only [World.size_alloc] at this); omega)
            have Hb21 := Lib.hid (bthen (Hb20.out) hb21)
            clear hb21
            go_wp2
            go_ret
            exact ⟨rfl, Hb21.out⟩
        · obtain rfl : seven = false := (first_cat Hhf.out Hhc.out).resolve_left (by simp)
          go_wp2_with fail
          refine (qRp_same _ _ wl _ (Rd.of_own OW.out rfl) (Rd.of_own OX.out rfl)).mono ?_; rintro e w16 ⟨rfl, hb16⟩
          replace OU := Lib.hid (own_below OU.out (hb16))
          replace OW := Lib.hid (own_below OW.out (hb16))
          replace OX := Lib.hid (own_below OX.out (hb16))
          replace OC := Lib.hid (own_below OC.out (hb16))
          replace OD := Lib.hid (own_below OD.out (hb16))
          have sz16 := Lib.hid (show w15.heap.size + 0 ≤ w16.heap.size by have := hb16.size; (try simp only [World.size_alloc] at this); omega)
          have Hb16 := Lib.hid (bthen (Hb15.out) hb16)
          clear hb16
          go_wp2_with fail
          refine (pEn_same _ _ cl _ (Rd.of_own OC.out rfl) (Rd.of_own OD.out rfl)).mono ?_; rintro e w17 ⟨rfl, hb17⟩
          replace OU := Lib.hid (own_below OU.out (hb17))
          replace OW := Lib.hid (own_below OW.out (hb17))
          replace OX := Lib.hid (own_below OX.out (hb17))
          replace OC := Lib.hid (own_below OC.out (hb17))
          replace OD := Lib.hid (own_below OD.out (hb17))
          have sz17 := Lib.hid (show w16.heap.size + 0 ≤ w17.heap.size by have := hb17.size; (try simp only [World.size_alloc] at this); omega)
          have Hb17 := Lib.hid (bthen (Hb16.out) hb17)
          clear hb17
          obtain ⟨kl, hk⟩ := with_cat Hhw.out
          have Hk := Lib.hid hk; clear hk
          go_wp2_with fail
          refine (implCatOf_any _ wl _ (Rd.of_own OW.out rfl)).mono ?_; rintro e w18 ⟨⟨vk, kl2, k2, rfl, hk2, ok⟩, hb18⟩
          have OK := Lib.hid ok
          have GOK := Lib.hid (World.ownsRow.lt ok)
          clear ok
          replace OU := Lib.hid (own_below OU.out (hb18))
          replace OW := Lib.hid (own_below OW.out (hb18))
          replace OX := Lib.hid (own_below OX.out (hb18))
          replace OC := Lib.hid (own_below OC.out (hb18))
          replace OD := Lib.hid (own_below OD.out (hb18))
          have sz18 := Lib.hid (show w17.heap.size + 0 ≤ w18.heap.size by have := hb18.size; (try simp only [World.size_alloc] at this); omega)
          have Hb18 := Lib.hid (bthen (Hb17.out) hb18)
          clear hb18
          obtain ⟨rfl, rfl⟩ := Prod.mk.inj (Hk.out.symm.trans hk2); clear hk2
          go_wp2_with fail
          refine (specCatOf_any _ wl _ (Rd.of_own OX.out rfl)).mono ?_; rintro e w19 ⟨⟨vk2, kl3, k3, rfl, hk3, ok2⟩, hb19⟩
          have OK2 := Lib.hid ok2
          have GOK2 := Lib.hid (World.ownsRow.lt ok2)
          clear ok2
          replace OU := Lib.hid (own_below OU.out (hb19))
          replace OW := Lib.hid (own_below OW.out (hb19))
          replace OX := Lib.hid (own_below OX.out (hb19))
          replace OC := Lib.hid (own_below OC.out (hb19))
          replace OD := Lib.hid (own_below OD.out (hb19))
          replace OK := Lib.hid (own_below OK.out (hb19))
          have sz19 := Lib.hid (show w18.heap.size + 0 ≤ w19.heap.size by have := hb19.size; (try simp only [World.size_alloc] at this); omega)
          have Hb19 := Lib.hid (bthen (Hb18.out) hb19)
          clear hb19
          obtain ⟨rfl, rfl⟩ := Prod.mk.inj (Hk.out.symm.trans hk3); clear hk3
          go_wp2_with fail
          refine (pEn_same _ _ kl _ (Rd.of_own OK.out rfl) (Rd.of_own OK2.out rfl)).mono ?_; rintro e w20 ⟨rfl, hb20⟩
          replace OU := Lib.hid (own_below OU.out (hb20))
          replace OW := Lib.hid (own_below OW.out (hb20))
          replace OX := Lib.hid (own_below OX.out (hb20))
          replace OC := Lib.hid (own_below OC.out (hb20))
          replace OD := Lib.hid (own_below OD.out (hb20))
          replace OK := Lib.hid (own_below OK.out (hb20))
          replace OK2 := Lib.hid (own_below OK2.out (hb20))
          have sz20 := Lib.hid (show w19.heap.size + 0 ≤ w20.heap.size by have := hb20.size; (try simp only [World.size_alloc] at this); omega)
          have Hb20 := Lib.hid (bthen (Hb19.out) hb20)
          clear hb20
          have hlt := with_less Hhw.out Hhf.out
          have hlt2 : ¬ (us.length : Int) ≤ (wl.length : Int) := by omega
          have hlt3 : ¬ us.length ≤ wl.length := by omega
          go_wp2
          go_ret
          exact ⟨rfl, Hb20.out⟩
    · obtain ⟨rfl, hjl⟩ := join_len Hhj.out Hhy.out
      have Hjl := Lib.hid hjl; clear hjl
      go_wp2_with fail
      refine (qRp_same _ _ j _ (Rd.of_own O3.out rfl) (Rd.of_own O4.out rfl)).mono ?_; rintro e w7 ⟨rfl, hb7⟩
      replace O1 := Lib.hid (own_below O1.out (hb7))
      replace O2 := Lib.hid (own_below O2.out (hb7))
      replace O3 := Lib.hid (own_below O3.out (hb7))
      replace O4 := Lib.hid (own_below O4.out (hb7))
      replace O5 := Lib.hid (own_below O5.out (hb7))
      replace O6 := Lib.hid (own_below O6.out (hb7))
      have sz7 := Lib.hid (show w6.heap.size + 0 ≤ w7.heap.size by have := hb7.size; (try simp only [World.size_alloc] at this); omega)
      have Hb7 := Lib.hid (bthen (Hb6.out) hb7)
      clear hb7
      go_wp2_with fail
      refine (qRp_same _ _ y _ (Rd.of_own O5.out rfl) (Rd.of_own O6.out rfl)).mono ?_; rintro e w8 ⟨rfl, hb8⟩
      replace O1 := Lib.hid (own_below O1.out (hb8))
      replace O2 := Lib.hid (own_below O2.out (hb8))
      replace O3 := Lib.hid (own_below O3.out (hb8))
      replace O4 := Lib.hid (own_below O4.out (hb8))
      replace O5 := Lib.hid (own_below O5.out (hb8))
      replace O6 := Lib.hid (own_below O6.out (hb8))
      have sz8 := Lib.hid (show w7.heap.size + 0 ≤ w8.heap.size by have := hb8.size; (try simp only [World.size_alloc] at this); omega)
      have Hb8 := Lib.hid (bthen (Hb7.out) hb8)
      clear hb8
      go_wp2_with fail
      refine (implJoin_any _ bs _ xs _ (Rd.of_own O2.out rfl) (Rd.of_own O1.out rfl)).mono ?_; rintro e w9 ⟨⟨v7, j7, ok7, rfl, hj7, o7⟩, hb9⟩
      have O7 := Lib.hid o7
      have GO7 := Lib.hid (World.ownsRow.lt o7)
      clear o7
      replace O1 := Lib.hid (own_below O1.out (hb9))
      replace O2 := Lib.hid (own_below O2.out (hb9))
      replace O3 := Lib.hid (own_below O3.out (hb9))
      replace O4 := Lib.hid (own_below O4.out (hb9))
      replace O5 := Lib.hid (own_below O5.out (hb9))
      replace O6 := Lib.hid (own_below O6.out (hb9))
      have sz9 := Lib.hid (show w8.heap.size + 0 ≤ w9.heap.size by have := hb9.size; (try simp only [World.size_alloc] at this); omega)
      have Hb9 := Lib.hid (bthen (Hb8.out) hb9)
      clear hb9
      obtain ⟨rfl, rfl⟩ := Prod.mk.inj ((join_back Hhj.out).symm.trans hj7); clear hj7
      go_wp2_with fail
      refine (implJoin_any _ j _ bs _ (Rd.of_own O3.out rfl) (Rd.of_own O2.out rfl)).mono ?_; rintro e w10 ⟨⟨v8, j8, ok8, rfl, hj8, o8⟩, hb10⟩
      have O8 := Lib.hid o8
      have GO8 := Lib.hid (World.ownsRow.lt o8)
      clear o8
      replace O1 := Lib.hid (own_below O1.out (hb10))
      replace O2 := Lib.hid (own_below O2.out (hb10))
      replace O3 := Lib.hid (own_below O3.out (hb10))
      replace O4 := Lib.hid (own_below O4.out (hb10))
      replace O5 := Lib.hid (own_below O5.out (hb10))
      replace O6 := Lib.hid (own_below O6.out (hb10))
      replace O7 := Lib.hid (own_below O7.out (hb10))
      have sz10 := Lib.hid (show w9.heap.size + 0 ≤ w10.heap.size by have := hb10.size; (try simp only [World.size_alloc] at this); omega)
      have Hb10 := Lib.hid (bthen (Hb9.out) hb10)
      clear hb10
      obtain ⟨rfl, rfl⟩ := Prod.mk.inj ((join_again Hhj.out).symm.trans hj8); clear hj8
      go_wp2_with fail
      refine (implMiss_any _ j _ bs _ (Rd.of_own O3.out rfl) (Rd.of_own O2.out rfl)).mono ?_; rintro e w11 ⟨⟨v9, y9, ok9, rfl, hj9, o9⟩, hb11⟩
      have O9 := Lib.hid o9
      have GO9 := Lib.hid (World.ownsRow.lt o9)
      clear o9
      replace O1 := Lib.hid (own_below O1.out (hb11))
      replace O2 := Lib.hid (own_below O2.out (hb11))
      replace O3 := Lib.hid (own_below O3.out (hb11))
      replace O4 := Lib.hid (own_below O4.out (hb11))
      replace O5 := Lib.hid (own_below O5.out (hb11))
      replace O6 := Lib.hid (own_below O6.out (hb11))
      replace O7 := Lib.hid (own_below O7.out (hb11))
      replace O8 := Lib.hid (own_below O8.out (hb11))
      have sz11 := Lib.hid (show w10.heap.size + 0 ≤ w11.heap.size by have := hb11.size; (try simp only [World.size_alloc] at this); omega)
      have Hb11 := Lib.hid (bthen (Hb10.out) hb11)
      clear hb11
      obtain ⟨rfl, rfl⟩ := Prod.mk.inj ((join_none Hhj.out).symm.trans hj9); clear hj9
      obtain ⟨Ax9, cx9, rfl, -, -, -⟩ := Rd.of_own (S := rpS) O9.out rfl
      go_wp2_with fail
      refine (qRp_same _ _ j _ (Rd.of_own O7.out rfl) (Rd.of_own O4.out rfl)).mono ?_; rintro e w12 ⟨rfl, hb12⟩
      replace O1 := Lib.hid (own_below O1.out (hb12))
      replace O2 := Lib.hid (own_below O2.out (hb12))
      replace O3 := Lib.hid (own_below O3.out (hb12))
      replace O4 := Lib.hid (own_below O4.out (hb12))
      replace O5 := Lib.hid (own_below O5.out (hb12))
      replace O6 := Lib.hid (own_below O6.out (hb12))
      replace O7 := Lib.hid (own_below O7.out (hb12))
      replace O8 := Lib.hid (own_below O8.out (hb12))
      replace O9 := Lib.hid (own_below O9.out (hb12))
      have sz12 := Lib.hid (show w11.heap.size + 0 ≤ w12.heap.size by have := hb12.size; (try simp only [World.size_alloc] at this); omega)
      have Hb12 := Lib.hid (bthen (Hb11.out) hb12)
      clear hb12
      go_wp2_with fail
      refine (qRp_same _ _ j _ (Rd.of_own O8.out rfl) (Rd.of_own O4.out rfl)).mono ?_; rintro e w13 ⟨rfl, hb13⟩
      replace O1 := Lib.hid (own_below O1.out (hb13))
      replace O2 := Lib.hid (own_below O2.out (hb13))
      replace O3 := Lib.hid (own_below O3.out (hb13))
      replace O4 := Lib.hid (own_below O4.out (hb13))
      replace O5 := Lib.hid (own_below O5.out (hb13))
      replace O6 := Lib.hid (own_below O6.out (hb13))
      replace O7 := Lib.hid (own_below O7.out (hb13))
      replace O8 := Lib.hid (own_below O8.out (hb13))
      replace O9 := Lib.hid (own_below O9.out (hb13))
      have sz13 := Lib.hid (show w12.heap.size + 0 ≤ w13.heap.size by have := hb13.size; (try simp only [World.size_alloc] at this); omega)
      have Hb13 := Lib.hid (bthen (Hb12.out) hb13)
      clear hb13
      have hxl := (repsB_spec (joinG_yes Hhj.out).1).1
      have hyl := missV_len _ _ Hhy.out
      have hne : ((j.length : Int) != (xs.length : Int) + (y.length : Int)) = false := by have := Hjl.out; simp; omega
      go_wp2_with fail
      refine (areI_any _ j _ (Rd.of_own O3.out rfl)).mono ?_; rintro e w14 ⟨rfl, hb14⟩
      replace O1 := Lib.hid (own_below O1.out (hb14))
      replace O2 := Lib.hid (own_below O2.out (hb14))
      replace O3 := Lib.hid (own_below O3.out (hb14))
      replace O4 := Lib.hid (own_below O4.out (hb14))
      replace O5 := Lib.hid (own_below O5.out (hb14))
      replace O6 := Lib.hid (own_below O6.out (hb14))
      replace O7 := Lib.hid (own_below O7.out (hb14))
      replace O8 := Lib.hid (own_below O8.out (hb14))
      replace O9 := Lib.hid (own_below O9.out (hb14))
      have sz14 := Lib.hid (show w13.heap.size + 0 ≤ w14.heap.size by have := hb14.size; (try simp only [World.size_alloc] at this); omega)
      have Hb14 := Lib.hid (bthen (Hb13.out) hb14)
      clear hb14
      clear hne hxl hyl
      rw [join_reps Hhj.out]
      go_wp2_with fail
      refine (implCatOf_any _ j _ (Rd.of_own O3.out rfl)).mono ?_; rintro e w15 ⟨⟨va, al, six, rfl, hal, oa⟩, hb15⟩
      have OA := Lib.hid oa
      have GOA := Lib.hid (World.ownsRow.lt oa)
      clear oa
      replace O1 := Lib.hid (own_below O1.out (hb15))
      replace O2 := Lib.hid (own_below O2.out (hb15))
      replace O3 := Lib.hid (own_below O3.out (hb15))
      replace O4 := Lib.hid (own_below O4.out (hb15))
      replace O5 := Lib.hid (own_below O5.out (hb15))
      replace O6 := Lib.hid (own_below O6.out (hb15))
      replace O7 := Lib.hid (own_below O7.out (hb15))
      replace O8 := Lib.hid (own_below O8.out (hb15))
      replace O9 := Lib.hid (own_below O9.out (hb15))
      have sz15 := Lib.hid (show w14.heap.size + 0 ≤ w15.heap.size by have := hb15.size; (try simp only [World.size_alloc] at this); omega)
      have Hb15 := Lib.hid (bthen (Hb14.out) hb15)
      clear hb15
      have Hhal := Lib.hid hal; clear hal
      go_wp2_with fail
      refine (specCatOf_any _ j _ (Rd.of_own O4.out rfl)).mono ?_; rintro e w16 ⟨⟨vb, bl, sixb, rfl, hbl, ob⟩, hb16⟩
      have OB := Lib.hid ob
      have GOB := Lib.hid (World.ownsRow.lt ob)
      clear ob
      replace O1 := Lib.hid (own_below O1.out (hb16))
      replace O2 := Lib.hid (own_below O2.out (hb16))
      replace O3 := Lib.hid (own_below O3.out (hb16))
      replace O4 := Lib.hid (own_below O4.out (hb16))
      replace O5 := Lib.hid (own_below O5.out (hb16))
      replace O6 := Lib.hid (own_below O6.out (hb16))
      replace O7 := Lib.hid (own_below O7.out (hb16))
      replace O8 := Lib.hid (own_below O8.out (hb16))
      replace O9 := Lib.hid (own_below O9.out (hb16))
      replace OA := Lib.hid (own_below OA.out (hb16))
      have sz16 := Lib.hid (show w15.heap.size + 0 ≤ w16.heap.size by have := hb16.size; (try simp only [World.size_alloc] at this); omega)
      have Hb16 := Lib.hid (bthen (Hb15.out) hb16)
      clear hb16
      obtain ⟨rfl, rfl⟩ := Prod.mk.inj (Hhal.out.symm.trans hbl); clear hbl
      go_wp2_with fail
      refine (implCatOf_any _ xs _ (Rd.of_own O1.out rfl)).mono ?_; rintro e w17 ⟨⟨vp, pl, eight, rfl, hpl, op⟩, hb17⟩
      have OP := Lib.hid op
      have GOP := Lib.hid (World.ownsRow.lt op)
      clear op
      replace O1 := Lib.hid (own_below O1.out (hb17))
      replace O2 := Lib.hid (own_below O2.out (hb17))
      replace O3 := Lib.hid (own_below O3.out (hb17))
      replace O4 := Lib.hid (own_below O4.out (hb17))
      replace O5 := Lib.hid (own_below O5.out (hb17))
      replace O6 := Lib.hid (own_below O6.out (hb17))
      replace O7 := Lib.hid (own_below O7.out (hb17))
      replace O8 := Lib.hid (own_below O8.out (hb17))
      replace O9 := Lib.hid (own_below O9.out (hb17))
      replace OA := Lib.hid (own_below OA.out (hb17))
      replace OB := Lib.hid (own_below OB.out (hb17))
      have sz17 := Lib.hid (show w16.heap.size + 0 ≤ w17.heap.size by have := hb17.size; (try simp only [World.size_alloc] at this); omega)
      have Hb17 := Lib.hid (bthen (Hb16.out) hb17)
      clear hb17
      have Hhpl := Lib.hid hpl; clear hpl
      go_wp2_with fail
      refine (specCatOf_any _ xs _ (Rd.of_own O1.out rfl)).mono ?_; rintro e w18 ⟨⟨vq, ql, eightq, rfl, hql, oq⟩, hb18⟩
      have OQ := Lib.hid oq
      have GOQ := Lib.hid (World.ownsRow.lt oq)
      clear oq
      replace O1 := Lib.hid (own_below O1.out (hb18))
      replace O2 := Lib.hid (own_below O2.out (hb18))
      replace O3 := Lib.hid (own_below O3.out (hb18))
      replace O4 := Lib.hid (own_below O4.out (hb18))
      replace O5 := Lib.hid (own_below O5.out (hb18))
      replace O6 := Lib.hid (own_below O6.out (hb18))
      replace O7 := Lib.hid (own_below O7.out (hb18))
      replace O8 := Lib.hid (own_below O8.out (hb18))
      replace O9 := Lib.hid (own_below O9.out (hb18))
      replace OA := Lib.hid (own_below OA.out (hb18))
      replace OB := Lib.hid (own_below OB.out (hb18))
      replace OP := Lib.hid (own_below OP.out (hb18))
      have sz18 := Lib.hid (show w17.heap.size + 0 ≤ w18.heap.size by have := hb18.size; (try simp only [World.size_alloc] at this); omega)
      have Hb18 := Lib.hid (bthen (Hb17.out) hb18)
      clear hb18
      obtain ⟨rfl, rfl⟩ := Prod.mk.inj (Hhpl.out.symm.trans hql); clear hql
      cases six
      · go_wp2_with fail
        refine (pEn_same _ _ al _ (Rd.of_own OA.out rfl) (Rd.of_own OB.out rfl)).mono ?_; rintro e w19 ⟨rfl, hb19⟩
        replace O1 := Lib.hid (own_below O1.out (hb19))
        replace O2 := Lib.hid (own_below O2.out (hb19))
        replace O3 := Lib.hid (own_below O3.out (hb19))
        replace O4 := Lib.hid (own_below O4.out (hb19))
        replace O5 := Lib.hid (own_below O5.out (hb19))
        replace O6 := Lib.hid (own_below O6.out (hb19))
        replace O7 := Lib.hid (own_below O7.out (hb19))
        replace O8 := Lib.hid (own_below O8.out (hb19))
        replace O9 := Lib.hid (own_below O9.out (hb19))
        replace OA := Lib.hid (own_below OA.out (hb19))
        replace OB := Lib.hid (own_below OB.out (hb19))
        replace OP := Lib.hid (own_below OP.out (hb19))
        replace OQ := Lib.hid (own_below OQ.out (hb19))
        have sz19 := Lib.hid (show w18.heap.size + 0 ≤ w19.heap.size by have := hb19.size; (try simp only [World.size_alloc] at this); omega)
        have Hb19 := Lib.hid (bthen (Hb18.out) hb19)
        clear hb19
        go_wp2_with fail
        refine (pEn_same _ _ pl _ (Rd.of_own OP.out rfl) (Rd.of_own OQ.out rfl)).mono ?_; rintro e w20 ⟨rfl, hb20⟩
        replace O1 := Lib.hid (own_below O1.out (hb20))
        replace O2 := Lib.hid (own_below O2.out (hb20))
        replace O3 := Lib.hid (own_below O3.out (hb20))
        replace O4 := Lib.hid (own_below O4.out (hb20))
        replace O5 := Lib.hid (own_below O5.out (hb20))
        replace O6 := Lib.hid (own_below O6.out (hb20))
        replace O7 := Lib.hid (own_below O7.out (hb20))
        replace O8 := Lib.hid (own_below O8.out (hb20))
        replace O9 := Lib.hid (own_below O9.out (hb20))
        replace OA := Lib.hid (own_below OA.out (hb20))
        replace OB := Lib.hid (own_below OB.out (hb20))
        replace OP := Lib.hid (own_below OP.out (hb20))
        replace OQ := Lib.hid (own_below OQ.out (hb20))
        have sz20 := Lib.hid (show w19.heap.size + 0 ≤ w20.heap.size by have := hb20.size; (try simp only [World.size_alloc] at this); omega)
        have Hb20 := Lib.hid (bthen (Hb19.out) hb20)
        clear hb20
        clear O1
        clear O2
        clear O3
        clear O4
        clear O5
        clear O6
        clear O7
        clear O8
        clear O9
        clear OA
        clear OB
        clear OP
        clear OQ
        clear Hhj Hhy Hjl Hhal Hhpl
        go_wp2_with fail
        refine (drawWithoutContradictions_any B m d _ (Hb.out.on (Hb20.out))).mono ?_; rintro e w21 ⟨⟨vu, mu, hmu, rfl, hvu⟩, hb21⟩
        obtain ⟨us, -, ou⟩ := hvu.rp
        clear hvu hmu
        have OU := Lib.hid ou
        have GOU := Lib.hid (World.ownsRow.lt ou)
        clear ou
        have sz21 := Lib.hid (show w20.heap.size + 0 ≤ w21.heap.size by have := hb21.size; (try simp only [World.size_alloc] at this); omega)
        have Hb21 := Lib.hid (bthen (Hb20.out) hb21)
        clear hb21
        go_wp2_with fail
        refine (implWithout_any _ us _ (Rd.of_own OU.out rfl)).mono ?_; rintro e w22 ⟨⟨vw, wl, three, rfl, hw, ow⟩, hb22⟩
        have OW := Lib.hid ow
        have GOW := Lib.hid (World.ownsRow.lt ow)
        clear ow
        replace OU := Lib.hid (own_below OU.out (hb22))
        have sz22 := Lib.hid (show w21.heap.size + 0 ≤ w22.heap.size by have := hb22.size; (try simp only [World.size_alloc] at this); omega)
        have Hb22 := Lib.hid (bthen (Hb21.out) hb22)
        clear hb22
        have Hhw := Lib.hid hw; clear hw
        go_wp2_with fail
        refine (specWithout_any _ us _ (Rd.of_own OU.out rfl)).mono ?_; rintro e w23 ⟨⟨vx, wx, threx, rfl, hx, ox⟩, hb23⟩
        have OX := Lib.hid ox
        have GOX := Lib.hid (World.ownsRow.lt ox)
        clear ox
        replace OU := Lib.hid (own_below OU.out (hb23))
        replace OW := Lib.hid (own_below OW.out (hb23))
        have sz23 := Lib.hid (show w22.heap.size + 0 ≤ w23.heap.size by have := hb23.size; (try simp only [World.size_alloc] at this); omega)
        have Hb23 := Lib.hid (bthen (Hb22.out) hb23)
        clear hb23
        obtain ⟨rfl, rfl⟩ := Prod.mk.inj (Hhw.out.symm.trans hx); clear hx
        go_wp2_with fail
        refine (implFirst_any _ us _ (Rd.of_own OU.out rfl)).mono ?_; rintro e w24 ⟨⟨f, five, rfl, hf⟩, hb24⟩
        replace OU := Lib.hid (own_below OU.out (hb24))
        replace OW := Lib.hid (own_below OW.out (hb24))
        replace OX := Lib.hid (own_below OX.out (hb24))
        have sz24 := Lib.hid (show w23.heap.size + 0 ≤ w24.heap.size by have := hb24.size; (try simp only [World.size_alloc] at this); omega)
        have Hb24 := Lib.hid (bthen (Hb23.out) hb24)
        clear hb24
        have Hhf := Lib.hid hf; clear hf
        go_wp2_with fail
        refine (specFirst_any _ us _ (Rd.of_own OU.out rfl)).mono ?_; rintro e w25 ⟨⟨f2, five2, rfl, hf2⟩, hb25⟩
        replace OU := Lib.hid (own_below OU.out (hb25))
        replace OW := Lib.hid (own_below OW.out (hb25))
        replace OX := Lib.hid (own_below OX.out (hb25))
        have sz25 := Lib.hid (show w24.heap.size + 0 ≤ w25.heap.size by have := hb25.size; (try simp only [World.size_alloc] at this); omega)
        have Hb25 := Lib.hid (bthen (Hb24.out) hb25)
        clear hb25
        obtain ⟨rfl, rfl⟩ := Prod.mk.inj (Hhf.out.symm.trans hf2); clear hf2
        go_wp2_with fail
        refine (implCatOf_any _ us _ (Rd.of_own OU.out rfl)).mono ?_; rintro e w26 ⟨⟨vc, cl, seven, rfl, hc, oc⟩, hb26⟩
        have OC := Lib.hid oc
        have GOC := Lib.hid (World.ownsRow.lt oc)
        clear oc
        replace OU := Lib.hid (own_below OU.out (hb26))
        replace OW := Lib.hid (own_below OW.out (hb26))
        replace OX := Lib.hid (own_below OX.out (hb26))
        have sz26 := Lib.hid (show w25.heap.size + 0 ≤ w26.heap.size by have := hb26.size; (try simp only [World.size_alloc] at this); omega)
        have Hb26 := Lib.hid (bthen (Hb25.out) hb26)
        clear hb26
        have Hhc := Lib.hid hc; clear hc
        go_wp2_with fail
        refine (specCatOf_any _ us _ (Rd.of_own OU.out rfl)).mono ?_; rintro e w27 ⟨⟨vd, dl, sevend, rfl, hd, od⟩, hb27⟩
        have OD := Lib.hid od
        have GOD := Lib.hid (World.ownsRow.lt od)
        clear od
        replace OU := Lib.hid (own_below OU.out (hb27))
        replace OW := Lib.hid (own_below OW.out (hb27))
        replace OX := Lib.hid (own_below OX.out (hb27))
        replace OC := Lib.hid (own_below OC.out (hb27))
        have sz27 := Lib.hid (show w26.heap.size + 0 ≤ w27.heap.size by have := hb27.size; (try simp only [World.size_alloc] at this); omega)
        have Hb27 := Lib.hid (bthen (Hb26.out) hb27)
        clear hb27
        obtain ⟨rfl, rfl⟩ := Prod.mk.inj (Hhc.out.symm.trans hd); clear hd
        obtain ⟨Axx, cxx, rfl, -, -, -⟩ := Rd.of_own (S := rpS) OX.out rfl
        obtain ⟨Axu, cxu, rfl, -, -, -⟩ := Rd.of_own (S := rpS) OU.out rfl
        cases three
        · cases five
          · go_wp2_with fail
            refine (qRp_same _ _ wl _ (Rd.of_own OW.out rfl) (Rd.of_own OX.out rfl)).mono ?_; rintro e w28 ⟨rfl, hb28⟩
            replace OU := Lib.hid (own_below OU.out (hb28))
            replace OW := Lib.hid (own_below OW.out (hb28))
            replace OX := Lib.hid (own_below OX.out (hb28))
            replace OC := Lib.hid (own_below OC.out (hb28))
            replace OD := Lib.hid (own_below OD.out (hb28))
            have sz28 := Lib.hid (show w27.heap.size + 0 ≤ w28.heap.size by have := hb28.size; (try simp only [World.size_alloc] at this); omega)
            have Hb28 := Lib.hid (bthen (Hb27.out) hb28)
            clear hb28
            go_wp2_with fail
            refine (pEn_same _ _ cl _ (Rd.of_own OC.out rfl) (Rd.of_own OD.out rfl)).mono ?_; rintro e w29 ⟨rfl, hb29⟩
            replace OU := Lib.hid (own_below OU.out (hb29))
            replace OW := Lib.hid (own_below OW.out (hb29))
            replace OX := Lib.hid (own_below OX.out (hb29))
            replace OC := Lib.hid (own_below OC.out (hb29))
            replace OD := Lib.hid (own_below OD.out (hb29))
            have sz29 := Lib.hid (show w28.heap.size + 0 ≤ w29.heap.size by have := hb29.size; (try simp only [World.size_alloc] at this); omega)
            have Hb29 := Lib.hid (bthen (Hb28.out) hb29)
            clear hb29
            go_wp2
            go_ret
            exact ⟨rfl, Hb29.out⟩
          · obtain rfl : seven = false := (first_cat Hhf.out Hhc.out).resolve_left (by simp)
            go_wp2_with fail
            refine (qRp_same _ _ wl _ (Rd.of_own OW.out rfl) (Rd.of_own OX.out rfl)).mono ?_; rintro e w28 ⟨rfl, hb28⟩
            replace OU := Lib.hid (own_below OU.out (hb28))
            replace OW := Lib.hid (own_below OW.out (hb28))
            replace OX := Lib.hid (own_below OX.out (hb28))
            replace OC := Lib.hid (own_below OC.out (hb28))
            replace OD := Lib.hid (own_below OD.out (hb28))
            have sz28 := Lib.hid (show w27.heap.size + 0 ≤ w28.heap.size by have := hb28.size; (try simp only [World.size_alloc] at this); omega)
            have Hb28 := Lib.hid (bthen (Hb27.out) hb28)
            clear hb28
            go_wp2_with fail
            refine (pEn_same _ _ cl _ (Rd.of_own OC.out rfl) (Rd.of_own OD.out rfl)).mono ?_; rintro e w29 ⟨rfl, hb29⟩
            replace OU := Lib.hid (own_below OU.out (hb29))
            replace OW := Lib.hid (own_below OW.out (hb29))
            replace OX := Lib.hid (own_below OX.out (hb29))
            replace OC := Lib.hid (own_below OC.out (hb29))
            replace OD := Lib.hid (own_below OD.out (hb29))
            have sz29 := Lib.hid (show w28.heap.size + 0 ≤ w29.heap.size by have := hb29.size; (try simp only [World.size_alloc] at this); omega)
            have Hb29 := Lib.hid (bthen (Hb28.out) hb29)
            clear hb29
            go_wp2
            go_ret
            exact ⟨rfl, Hb29.out⟩
        · cases five
          · cases seven
            · go_wp2_with fail
              refine (qRp_same _ _ wl _ (Rd.of_own OW.out rfl) (Rd.of_own OX.out rfl)).mono ?_; rintro e w28 ⟨rfl, hb28⟩
              replace OU := Lib.hid (own_below OU.out (hb28))
              replace OW := Lib.hid (own_below OW.out (hb28))
              replace OX := Lib.hid (own_below OX.out (hb28))
              replace OC := Lib.hid (own_below OC.out (hb28))
              replace OD := Lib.hid (own_below OD.out (hb28))
              have sz28 := Lib.hid (show w27.heap.size + 0 ≤ w28.heap.size by have := hb28.size; (try simp only [World.size_alloc] at this); omega)
              have Hb28 := Lib.hid (bthen (Hb27.out) hb28)
              clear hb28
              go_wp2_with fail
              refine (pEn_same _ _ cl _ (Rd.of_own OC.out rfl) (Rd.of_own OD.out rfl)).mono ?_; rintro e w29 ⟨rfl, hb29⟩
              replace OU := Lib.hid (own_below OU.out (hb29))
              replace OW := Lib.hid (own_below OW.out (hb29))
              replace OX := Lib.hid (own_below OX.out (hb29))
              replace OC := Lib.hid (own_below OC.out (hb29))
              replace OD := Lib.hid (own_below OD.out (hb29))
              have sz29 := Lib.hid (show w28.heap.size + 0 ≤ w29.heap.size by have := hb29.size; (try simp only [World.size_alloc] at this); omega)
              have Hb29 := Lib.hid (bthen (Hb28.out) hb29)
              clear hb29
              obtain ⟨kl, hk⟩ := with_cat Hhw.out
              have Hk := Lib.hid hk; clear hk
              go_wp2_with fail
              refine (implCatOf_any _ wl _ (Rd.of_own OW.out rfl)).mono ?_; rintro e w30 ⟨⟨vk, kl2, k2, rfl, hk2, ok⟩, hb30⟩
              have OK := Lib.hid ok
              have GOK := Lib.hid (World.ownsRow.lt ok)
              clear ok
              replace OU := Lib.hid (own_below OU.out (hb30))
              replace OW := Lib.hid (own_below OW.out (hb30))
              replace OX := Lib.hid (own_below OX.out (hb30))
              replace OC := Lib.hid (own_below OC.out (hb30))
              replace OD := Lib.hid (own_below OD.out (hb30))
              have sz30 := Lib.hid (show w29.heap.size + 0 ≤ w30.heap.size by have := hb30.size; (try simp only [World.size_alloc] at this); omega)
              have Hb30 := Lib.hid (bthen (Hb29.out) hb30)
              clear hb30
              obtain ⟨rfl, rfl⟩ := Prod.mk.inj (Hk.out.symm.trans hk2); clear hk2
              go_wp2_with fail
              refine (specCatOf_any _ wl _ (Rd.of_own OX.out rfl)).mono ?_; rintro e w31 ⟨⟨vk2, kl3, k3, rfl, hk3, ok2⟩, hb31⟩
              have OK2 := Lib.hid ok2
              have GOK2 := Lib.hid (World.ownsRow.lt ok2)
              clear ok2
              replace OU := Lib.hid (own_below OU.out (hb31))
              replace OW := Lib.hid (own_below OW.out (hb31))
              replace OX := Lib.hid (own_below OX.out (hb31))
              replace OC := Lib.hid (own_below OC.out (hb31))
              replace OD := Lib.hid (own_below OD.out (hb31))
              replace OK := Lib.hid (own_below OK.out (hb31))
              have sz31 := Lib.hid (show w30.heap.size + 0 ≤ w31.heap.size by have := hb31.size; (try simp only [World.size_alloc] at this); omega)
              have Hb31 := Lib.hid (bthen (Hb30.out) hb31)
              clear hb31
              obtain ⟨rfl, rfl⟩ := Prod.mk.inj (Hk.out.symm.trans hk3); clear hk3
              go_wp2_with fail
              refine (pEn_same _ _ kl _ (Rd.of_own OK.out rfl) (Rd.of_own OK2.out rfl)).mono ?_; rintro e w32 ⟨rfl, hb32⟩
              replace OU := Lib.hid (own_below OU.out (hb32))
              replace OW := Lib.hid (own_below OW.out (hb32))
              replace OX := Lib.hid (own_below OX.out (hb32))
              replace OC := Lib.hid (own_below OC.out (hb32))
              replace OD := Lib.hid (own_below OD.out (hb32))
              replace OK := Lib.hid (own_below OK.out (hb32))
              replace OK2 := Lib.hid (own_below OK2.out (hb32))
              have sz32 := Lib.hid (show w31.heap.size + 0 ≤ w32.heap.size by have := hb32.size; (try simp only [World.size_alloc] at this); omega)
              have Hb32 := Lib.hid (bthen (Hb31.out) hb32)
              clear hb32
              go_wp2
              go_ret
              exact ⟨rfl, Hb32.out⟩
            · go_wp2_with fail
              refine (qRp_same _ _ wl _ (Rd.of_own OW.out rfl) (Rd.of_own OX.out rfl)).mono ?_; rintro e w28 ⟨rfl, hb28⟩
              replace OU := Lib.hid (own_below OU.out (hb28))
              replace OW := Lib.hid (own_below OW.out (hb28))
              replace OX := Lib.hid (own_below OX.out (hb28))
              replace OC := Lib.hid (own_below OC.out (hb28))
              replace OD := Lib.hid (own_below OD.out (hb28))
              have sz28 := Lib.hid (show w27.heap.size + 0 ≤ w28.heap.size by have := hb28.size; (try simp only [World.size_alloc] at this); omega)
              have Hb28 := Lib.hid (bthen (Hb27.out) hb28)
              clear hb28
              go_wp2_with fail
              refine (pEn_same _ _ cl _ (Rd.of_own OC.out rfl) (Rd.of_own OD.out rfl)).mono ?_; rintro e w29 ⟨rfl, hb29⟩
              replace OU := Lib.hid (own_below OU.out (hb29))
              replace OW := Lib.hid (own_below OW.out (hb29))
              replace OX := Lib.hid (own_below OX.out (hb29))
              replace OC := Lib.hid (own_below OC.out (hb29))
              replace OD := Lib.hid (own_below OD.out (hb29))
              have sz29 := Lib.hid (show w28.heap.size + 0 ≤ w29.heap.size by have := hb29.size; (try simp only [World.size_alloc] at this); omega)
              have Hb29 := Lib.hid (bthen (Hb28.out) hb29)
              clear hb29
              obtain ⟨kl, hk⟩ := with_cat Hhw.out
              have Hk := Lib.hid hk; clear hk
              go_wp2_with fail
              refine (implCatOf_any _ wl _ (Rd.of_own OW.out rfl)).mono ?_; rintro e w30 ⟨⟨vk, kl2, k2, rfl, hk2, ok⟩, hb30⟩
              have OK := Lib.hid ok
              have GOK := Lib.hid (World.ownsRow.lt ok)
              clear ok
              replace OU := Lib.hid (own_below OU.out (hb30))
              replace OW := Lib.hid (own_below OW.out (hb30))
              replace OX := Lib.hid (own_below OX.out (hb30))
              replace OC := Lib.hid (own_below OC.out (hb30))
              replace OD := Lib.hid (own_below OD.out (hb30))
              have sz30 := Lib.hid (show w29.heap.size + 0 ≤ w30.heap.size by have := hb30.size; (try simp only [World.size_alloc] at this); omega)
              have Hb30 := Lib.hid (bthen (Hb29.out) hb30)
              clear hb30
              obtain ⟨rfl, rfl⟩ := Prod.mk.inj (Hk.out.symm.trans hk2); clear hk2
              go_wp2_with fail
              refine (specCatOf_any _ wl _ (Rd.of_own OX.out rfl)).mono ?_; rintro e w31 ⟨⟨vk2, kl3, k3, rfl, hk3, ok2⟩, hb31⟩
              have OK2 := Lib.hid ok2
              have GOK2 := Lib.hid (World.ownsRow.lt ok2)
              clear ok2
              replace OU := Lib.hid (own_below OU.out (hb31))
              replace OW := Lib.hid (own_below OW.out (hb31))
              replace OX := Lib.hid (own_below OX.out (hb31))
              replace OC := Lib.hid (own_below OC.out (hb31))
              replace OD := Lib.hid (own_below OD.out (hb31))
              replace OK := Lib.hid (own_below OK.out (hb31))
              have sz31 := Lib.hid (show w30.heap.size + 0 ≤ w31.heap.size by have := hb31.size; (try simp only [World.size_alloc] at this); omega)
              have Hb31 := Lib.hid (bthen (Hb30.out) hb31)
              clear hb31
              obtain ⟨rfl, rfl⟩ := Prod.mk.inj (Hk.out.symm.trans hk3); clear hk3
              go_wp2_with fail
              refine (pEn_same _ _ kl _ (Rd.of_own OK.out rfl) (Rd.of_own OK2.out rfl)).mono ?_; rintro e w32 ⟨rfl, hb32⟩
              replace OU := Lib.hid (own_below OU.out (hb32))
              replace OW := Lib.hid (own_below OW.out (hb32))
              replace OX := Lib.hid (own_below OX.out (hb32))
              replace OC := Lib.hid (own_below OC.out (hb32))
              replace OD := Lib.hid (own_below OD.out (hb32))
              replace OK := Lib.hid (own_below OK.out (hb32))
              replace OK2 := Lib.hid (own_below OK2.out (hb32))
              have sz32 := Lib.hid (show w31.heap.size + 0 ≤ w32.heap.size by have := hb32.size; (try simp only [World.size_alloc] at this); omega)
              have Hb32 := Lib.hid (bthen (Hb31.out) hb32)
              clear hb32
              go_wp2_with fail
              refine (qRp_eq _ _ wl us _ (with_all Hhw.out Hhc.out) (Rd.of_own OX.out rfl) (Rd.of_own OU.out rfl)).mono ?_; rintro e w33 ⟨rfl, hb33⟩
              replace OU := Lib.hid (own_below OU.out (hb33))
              replace OW := Lib.hid (own_below OW.out (hb33))
              replace OX := Lib.hid (own_below OX.out (hb33))
              replace OC := Lib.hid (own_below OC.out (hb33))
              replace OD := Lib.hid (own_below OD.out (hb33))
              replace OK := Lib.hid (own_below OK.out (hb33))
              replace OK2 := Lib.hid (own_below OK2.out (hb33))
              have sz33 := Lib.hid (show w32.heap.size + 0 ≤ w33.heap.size by have := hb33.size; (try simp only [World.size_alloc] at this); omega)
              have Hb33 := Lib.hid (bthen (Hb32.out) hb33)
              clear hb33
              go_wp2
              go_ret
              exact ⟨rfl, Hb33.out⟩
          · obtain rfl : seven = false := (first_cat Hhf.out Hhc.out).resolve_left (by simp)
            go_wp2_with fail
            refine (qRp_same _ _ wl _ (Rd.of_own OW.out rfl) (Rd.of_own OX.out rfl)).mono ?_; rintro e w28 ⟨rfl, hb28⟩
            replace OU := Lib.hid (own_below OU.out (hb28))
            replace OW := Lib.hid (own_below OW.out (hb28))
            replace OX := Lib.hid (own_below OX.out (hb28))
            replace OC := Lib.hid (own_below OC.out (hb28))
            replace OD := Lib.hid (own_below OD.out (hb28))
            have sz28 := Lib.hid (show w27.heap.size + 0 ≤ w28.heap.size by have := hb28.size; (try simp only [World.size_alloc] at this); omega)
            have Hb28 := Lib.hid (bthen (Hb27.out) hb28)
            clear hb28
            go_wp2_with fail
            refine (pEn_same _ _ cl _ (Rd.of_own OC.out rfl) (Rd.of_own OD.out rfl)).mono ?_; rintro e w29 ⟨rfl, hb29⟩
            replace OU := Lib.hid (own_below OU.out (hb29))
            replace OW := Lib.hid (own_below OW.out (hb29))
            replace OX := Lib.hid (own_below OX.out (hb29))
            replace OC := Lib.hid (own_below OC.out (hb29))
            replace OD := Lib.hid (own_below OD.out (hb29))
            have sz29 := Lib.hid (show w28.heap.size + 0 ≤ w29.heap.size by have := hb29.size; (try simp only [World.size_alloc] at this); omega)
            have Hb29 := Lib.hid (bthen (Hb28.out) hb29)
            clear hb29
            obtain ⟨kl, hk⟩ := with_cat Hhw.out
            have Hk := Lib.hid hk; clear hk
            go_wp2_with fail
            refine (implCatOf_any _ wl _ (Rd.of_own OW.out rfl)).mono ?_; rintro e w30 ⟨⟨vk, kl2, k2, rfl, hk2, ok⟩, hb30⟩
            have OK := Lib.hid ok
            have GOK := Lib.hid (World.ownsRow.lt ok)
            clear ok
            replace OU := Lib.hid (own_below OU.out (hb30))
            replace OW := Lib.hid (own_below OW.out (hb30))
            replace OX := Lib.hid (own_below OX.out (hb30))
            replace OC := Lib.hid (own_below OC.out (hb30))
            replace OD := Lib.hid (own_below OD.out (hb30))
            have sz30 := Lib.hid (show w29.heap.size + 0 ≤ w30.heap.size by have := hb30.size; (try simp only [World.size_alloc] at this); omega)
            have Hb30 := Lib.hid (bthen (Hb29.out) hb30)
            clear hb30
            obtain ⟨rfl, rfl⟩ := Prod.mk.inj (Hk.out.symm.trans hk2); clear hk2
            go_wp2_with fail
            refine (specCatOf_any _ wl _ (Rd.of_own OX.out rfl)).mono ?_; rintro e w31 ⟨⟨vk2, kl3, k3, rfl, hk3, ok2⟩, hb31⟩
            have OK2 := Lib.hid ok2
            have GOK2 := Lib.hid (World.ownsRow.lt ok2)
            clear ok2
            replace OU := Lib.hid (own_below OU.out (hb31))
            replace OW := Lib.hid (own_below OW.out (hb31))
            replace OX := Lib.hid (own_below OX.out (hb31))
            replace OC := Lib.hid (own_below OC.out (hb31))
            replace OD := Lib.hid (own_below OD.out (hb31))
            replace OK := Lib.hid (own_below OK.out (hb31))
            have sz31 := Lib.hid (show w30.heap.size + 0 ≤ w31.heap.size by have := hb31.size; (try simp only [World.size_alloc] at this); omega)
            have Hb31 := Lib.hid (bthen (Hb30.out) hb31)
            clear hb31
            obtain ⟨rfl, rfl⟩ := Prod.mk.inj (Hk.out.symm.trans hk3); clear hk3
            go_wp2_with fail
            refine (pEn_same _ _ kl _ (Rd.of_own OK.out rfl) (Rd.of_own OK2.out rfl)).mono ?_; rintro e w32 ⟨rfl, hb32⟩
            replace OU := Lib.hid (own_below OU.out (hb32))
            replace OW := Lib.hid (own_below OW.out (hb32))
            replace OX := Lib.hid (own_below OX.out (hb32))
            replace OC := Lib.hid (own_below OC.out (hb32))
            replace OD := Lib.hid (own_below OD.out (hb32))
            replace OK := Lib.hid (own_below OK.out (hb32))
            replace OK2 := Lib.hid (own_below OK2.out (hb32))
            have sz32 := Lib.hid (show w31.heap.size + 0 ≤ w32.heap.size by have := hb32.size; (try simp only [World.size_alloc] at this); omega)
            have Hb32 := Lib.hid (bthen (Hb31.out) hb32)
            clear hb32
            have hlt := with_less Hhw.out Hhf.out
            have hlt2 : ¬ (us.length : Int) ≤ (wl.length : Int) := by omega
            have hlt3 : ¬ us.length ≤ wl.length := by omega
            go_wp2
            go_ret
            exact ⟨rfl, Hb32.out⟩
      · obtain ⟨rfl, hbt⟩ := join_cat Hhj.out Hhal.out Hhpl.out
        have Hbt := Lib.hid hbt; clear hbt
        go_wp2_with fail
        refine (pEn_same _ _ al _ (Rd.of_own OA.out rfl) (Rd.of_own OB.out rfl)).mono ?_; rintro e w19 ⟨rfl, hb19⟩
        replace O1 := Lib.hid (own_below O1.out (hb19))
        replace O2 := Lib.hid (own_below O2.out (hb19))
        replace O3 := Lib.hid (own_below O3.out (hb19))
        replace O4 := Lib.hid (own_below O4.out (hb19))
        replace O5 := Lib.hid (own_below O5.out (hb19))
        replace O6 := Lib.hid (own_below O6.out (hb19))
        replace O7 := Lib.hid (own_below O7.out (hb19))
        replace O8 := Lib.hid (own_below O8.out (hb19))
        replace O9 := Lib.hid (own_below O9.out (hb19))
        replace OA := Lib.hid (own_below OA.out (hb19))
        replace OB := Lib.hid (own_below OB.out (hb19))
        replace OP := Lib.hid (own_below OP.out (hb19))
        replace OQ := Lib.hid (own_below OQ.out (hb19))
        have sz19 := Lib.hid (show w18.heap.size + 0 ≤ w19.heap.size by have := hb19.size; (try simp only [World.size_alloc] at this); omega)
        have Hb19 := Lib.hid (bthen (Hb18.out) hb19)
        clear hb19
        go_wp2_with fail
        refine (pEn_same _ _ pl _ (Rd.of_own OP.out rfl) (Rd.of_own OQ.out rfl)).mono ?_; rintro e w20 ⟨rfl, hb20⟩
        replace O1 := Lib.hid (own_below O1.out (hb20))
        replace O2 := Lib.hid (own_below O2.out (hb20))
        replace O3 := Lib.hid (own_below O3.out (hb20))
        replace O4 := Lib.hid (own_below O4.out (hb20))
        replace O5 := Lib.hid (own_below O5.out (hb20))
        replace O6 := Lib.hid (own_below O6.out (hb20))
        replace O7 := Lib.hid (own_below O7.out (hb20))
        replace O8 := Lib.hid (own_below O8.out (hb20))
        replace O9 := Lib.hid (own_below O9.out (hb20))
        replace OA := Lib.hid (own_below OA.out (hb20))
        replace OB := Lib.hid (own_below OB.out (hb20))
        replace OP := Lib.hid (own_below OP.out (hb20))
        replace OQ := Lib.hid (own_below OQ.out (hb20))
        have sz20 := Lib.hid (show w19.heap.size + 0 ≤ w20.heap.size by have := hb20.size; (try simp only [World.size_alloc] at this); omega)
        have Hb20 := Lib.hid (bthen (Hb19.out) hb20)
        clear hb20
        go_wp2_with fail
        refine (implBetter_any _ al _ pl _ (Rd.of_own OA.out rfl) (Rd.of_own OP.out rfl)).mono ?_; rintro e w21 ⟨⟨i, t, rfl, hi⟩, hb21⟩
        replace O1 := Lib.hid (own_below O1.out (hb21))
        replace O2 := Lib.hid (own_below O2.out (hb21))
        replace O3 := Lib.hid (own_below O3.out (hb21))
        replace O4 := Lib.hid (own_below O4.out (hb21))
        replace O5 := Lib.hid (own_below O5.out (hb21))
        replace O6 := Lib.hid (own_below O6.out (hb21))
        replace O7 := Lib.hid (own_below O7.out (hb21))
        replace O8 := Lib.hid (own_below O8.out (hb21))
        replace O9 := Lib.hid (own_below O9.out (hb21))
        replace OA := Lib.hid (own_below OA.out (hb21))
        replace OB := Lib.hid (own_below OB.out (hb21))
        replace OP := Lib.hid (own_below OP.out (hb21))
        replace OQ := Lib.hid (own_below OQ.out (hb21))
        have sz21 := Lib.hid (show w20.heap.size + 0 ≤ w21.heap.size by have := hb21.size; (try simp only [World.size_alloc] at this); omega)
        have Hb21 := Lib.hid (bthen (Hb20.out) hb21)
        clear hb21
        obtain ⟨rfl, rfl⟩ := Prod.mk.inj (Hbt.out.symm.trans hi); clear hi
        clear Hbt
        clear O1
        clear O2
        clear O3
        clear O4
        clear O5
        clear O6
        clear O7
        clear O8
        clear O9
        clear OA
        clear OB
        clear OP
        clear OQ
        clear Hhj Hhy Hjl Hhal Hhpl
        go_wp2_with fail
        refine (drawWithoutContradictions_any B m d _ (Hb.out.on (Hb21.out))).mono ?_; rintro e w22 ⟨⟨vu, mu, hmu, rfl, hvu⟩, hb22⟩
        obtain ⟨us, -, ou⟩ := hvu.rp
        clear hvu hmu
        have OU := Lib.hid ou
        have GOU := Lib.hid (World.ownsRow.lt ou)
        clear ou
        have sz22 := Lib.hid (show w21.heap.size + 0 ≤ w22.heap.size by have := hb22.size; (try simp only [World.size_alloc] at this); omega)
        have Hb22 := Lib.hid (bthen (Hb21.out) hb22)
        clear hb22
        go_wp2_with fail
        refine (implWithout_any _ us _ (Rd.of_own OU.out rfl)).mono ?_; rintro e w23 ⟨⟨vw, wl, three, rfl, hw, ow⟩, hb23⟩
        have OW := Lib.hid ow
        have GOW := Lib.hid (World.ownsRow.lt ow)
        clear ow
        replace OU := Lib.hid (own_below OU.out (hb23))
        have sz23 := Lib.hid (show w22.heap.size + 0 ≤ w23.heap.size by have := hb23.size; (try simp only [World.size_alloc] at this); omega)
        have Hb23 := Lib.hid (bthen (Hb22.out) hb23)
        clear hb23
        have Hhw := Lib.hid hw; clear hw
        go_wp2_with fail
        refine (specWithout_any _ us _ (Rd.of_own OU.out rfl)).mono ?_; rintro e w24 ⟨⟨vx, wx, threx, rfl, hx, ox⟩, hb24⟩
        have OX := Lib.hid ox
        have GOX := Lib.hid (World.ownsRow.lt ox)
        clear ox
        replace OU := Lib.hid (own_below OU.out (hb24))
        replace OW := Lib.hid (own_below OW.out (hb24))
        have sz24 := Lib.hid (show w23.heap.size + 0 ≤ w24.heap.size by have := hb24.size; (try simp only [World.size_alloc] at this); omega)
        have Hb24 := Lib.hid (bthen (Hb23.out) hb24)
        clear hb24
        obtain ⟨rfl, rfl⟩ := Prod.mk.inj (Hhw.out.symm.trans hx); clear hx
        go_wp2_with fail
        refine (implFirst_any _ us _ (Rd.of_own OU.out rfl)).mono ?_; rintro e w25 ⟨⟨f, five, rfl, hf⟩, hb25⟩
        replace OU := Lib.hid (own_below OU.out (hb25))
        replace OW := Lib.hid (own_below OW.out (hb25))
        replace OX := Lib.hid (own_below OX.out (hb25))
        have sz25 := Lib.hid (show w24.heap.size + 0 ≤ w25.heap.size by have := hb25.size; (try simp only [World.size_alloc] at this); omega)
        have Hb25 := Lib.hid (bthen (Hb24.out) hb25)
        clear hb25
        have Hhf := Lib.hid hf; clear hf
        go_wp2_with fail
        refine (specFirst_any _ us _ (Rd.of_own OU.out rfl)).mono ?_; rintro e w26 ⟨⟨f2, five2, rfl, hf2⟩, hb26⟩
        replace OU := Lib.hid (own_below OU.out (hb26))
        replace OW := Lib.hid (own_below OW.out (hb26))
        replace OX := Lib.hid (own_below OX.out (hb26))
        have sz26 := Lib.hid (show w25.heap.size + 0 ≤ w26.heap.size by have := hb26.size; (try simp only [World.size_alloc] at this); omega)
        have Hb26 := Lib.hid (bthen (Hb25.out) hb26)
        clear hb26
        obtain ⟨rfl, rfl⟩ := Prod.mk.inj (Hhf.out.symm.trans hf2); clear hf2
        go_wp2_with fail
        refine (implCatOf_any _ us _ (Rd.of_own OU.out rfl)).mono ?_; rintro e w27 ⟨⟨vc, cl, seven, rfl, hc, oc⟩, hb27⟩
        have OC := Lib.hid oc
        have GOC := Lib.hid (World.ownsRow.lt oc)
        clear oc
        replace OU := Lib.hid (own_below OU.out (hb27))
        replace OW := Lib.hid (own_below OW.out (hb27))
        replace OX := Lib.hid (own_below OX.out (hb27))
        have sz27 := Lib.hid (show w26.heap.size + 0 ≤ w27.heap.size by have := hb27.size; (try simp only [World.size_alloc] at this); omega)
        have Hb27 := Lib.hid (bthen (Hb26.out) hb27)
        clear hb27
        have Hhc := Lib.hid hc; clear hc
        go_wp2_with fail
        refine (specCatOf_any _ us _ (Rd.of_own OU.out rfl)).mono ?_; rintro e w28 ⟨⟨vd, dl, sevend, rfl, hd, od⟩, hb28⟩
        have OD := Lib.hid od
        have GOD := Lib.hid (World.ownsRow.lt od)
        clear od
        replace OU := Lib.hid (own_below OU.out (hb28))
        replace OW := Lib.hid (own_below OW.out (hb28))
        replace OX := Lib.hid (own_below OX.out (hb28))
        replace OC := Lib.hid (own_below OC.out (hb28))
        have sz28 := Lib.hid (show w27.heap.size + 0 ≤ w28.heap.size by have := hb28.size; (try simp only [World.size_alloc] at this); omega)
        have Hb28 := Lib.hid (bthen (Hb27.out) hb28)
        clear hb28
        obtain ⟨rfl, rfl⟩ := Prod.mk.inj (Hhc.out.symm.trans hd); clear hd
        obtain ⟨Axx, cxx, rfl, -, -, -⟩ := Rd.of_own (S := rpS) OX.out rfl
        obtain ⟨Axu, cxu, rfl, -, -, -⟩ := Rd.of_own (S := rpS) OU.out rfl
        cases three
        · cases five
          · go_wp2_with fail
            refine (qRp_same _ _ wl _ (Rd.of_own OW.out rfl) (Rd.of_own OX.out rfl)).mono ?_; rintro e w29 ⟨rfl, hb29⟩
            replace OU := Lib.hid (own_below OU.out (hb29))
            replace OW := Lib.hid (own_below OW.out (hb29))
            replace OX := Lib.hid (own_below OX.out (hb29))
            replace OC := Lib.hid (own_below OC.out (hb29))
            replace OD := Lib.hid (own_below OD.out (hb29))
            have sz29 := Lib.hid (show w28.heap.size + 0 ≤ w29.heap.size by have := hb29.size; (try simp only [World.size_alloc] at this); omega)
            have Hb29 := Lib.hid (bthen (Hb28.out) hb29)
            clear hb29
            go_wp2_with fail
            refine (pEn_same _ _ cl _ (Rd.of_own OC.out rfl) (Rd.of_own OD.out rfl)).mono ?_; rintro e w30 ⟨rfl, hb30⟩
            replace OU := Lib.hid (own_below OU.out (hb30))
            replace OW := Lib.hid (own_below OW.out (hb30))
            replace OX := Lib.hid (own_below OX.out (hb30))
            replace OC := Lib.hid (own_below OC.out (hb30))
            replace OD := Lib.hid (own_below OD.out (hb30))
            have sz30 := Lib.hid (show w29.heap.size + 0 ≤ w30.heap.size by have := hb30.size; (try simp only [World.size_alloc] at this); omega)
            have Hb30 := Lib.hid (bthen (Hb29.out) hb30)
            clear hb30
            go_wp2
            go_ret
            exact ⟨rfl, Hb30.out⟩
          · obtain rfl : seven = false := (first_cat Hhf.out Hhc.out).resolve_left (by simp)
            go_wp2_with fail
            refine (qRp_same _ _ wl _ (Rd.of_own OW.out rfl) (Rd.of_own OX.out rfl)).mono ?_; rintro e w29 ⟨rfl, hb29⟩
            replace OU := Lib.hid (own_below OU.out (hb29))
            replace OW := Lib.hid (own_below OW.out (hb29))
            replace OX := Lib.hid (own_below OX.out (hb29))
            replace OC := Lib.hid (own_below OC.out (hb29))
            replace OD := Lib.hid (own_below OD.out (hb29))
            have sz29 := Lib.hid (show w28.heap.size + 0 ≤ w29.heap.size by have := hb29.size; (try simp only [World.size_alloc] at this); omega)
            have Hb29 := Lib.hid (bthen (Hb28.out) hb29)
            clear hb29
            go_wp2_with fail
            refine (pEn_same _ _ cl _ (Rd.of_own OC.out rfl) (Rd.of_own OD.out rfl)).mono ?_; rintro e w30 ⟨rfl, hb30⟩
            replace OU := Lib.hid (own_below OU.out (hb30))
            replace OW := Lib.hid (own_below OW.out (hb30))
            replace OX := Lib.hid (own_below OX.out (hb30))
            replace OC := Lib.hid (own_below OC.out (hb30))
            replace OD := Lib.hid (own_below OD.out (hb30))
            have sz30 := Lib.hid (show w29.heap.size + 0 ≤ w30.heap.size by have := hb30.size; (try simp only [World.size_alloc] at this); omega)
            have Hb30 := Lib.hid (bthen (Hb29.out) hb30)
            clear hb30
            go_wp2
            go_ret
            exact ⟨rfl, Hb30.out⟩
        · cases five
          · cases seven
            · go_wp2_with fail
              refine (qRp_same _ _ wl _ (Rd.of_own OW.out rfl) (Rd.of_own OX.out rfl)).mono ?_; rintro e w29 ⟨rfl, hb29⟩
              replace OU := Lib.hid (own_below OU.out (hb29))
              replace OW := Lib.hid (own_below OW.out (hb29))
              replace OX := Lib.hid (own_below OX.out (hb29))
              replace OC := Lib.hid (own_below OC.out (hb29))
              replace OD := Lib.hid (own_below OD.out (hb29))
              have sz29 := Lib.hid (show w28.heap.size + 0 ≤ w29.heap.size by have := hb29.size; (try simp only [World.size_alloc] at this); omega)
              have Hb29 := Lib.hid (bthen (Hb28.out) hb29)
              clear hb29
              go_wp2_with fail
              refine (pEn_same _ _ cl _ (Rd.of_own OC.out rfl) (Rd.of_own OD.out rfl)).mono ?_; rintro e w30 ⟨rfl, hb30⟩
              replace OU := Lib.hid (own_below OU.out (hb30))
              replace OW := Lib.hid (own_below OW.out (hb30))
              replace OX := Lib.hid (own_below OX.out (hb30))
              replace OC := Lib.hid (own_below OC.out (hb30))
              replace OD := Lib.hid (own_below OD.out (hb30))
              have sz30 := Lib.hid (show w29.heap.size + 0 ≤ w30.heap.size by have := hb30.size; (try simp only [World.size_alloc] at this); omega)
              have Hb30 := Lib.hid (bthen (Hb29.out) hb30)
              clear hb30
              obtain ⟨kl, hk⟩ := with_cat Hhw.out
              have Hk := Lib.hid hk; clear hk
              go_wp2_with fail
              refine (implCatOf_any _ wl _ (Rd.of_own OW.out rfl)).mono ?_; rintro e w31 ⟨⟨vk, kl2, k2, rfl, hk2, ok⟩, hb31⟩
              have OK := Lib.hid ok
              have GOK := Lib.hid (World.ownsRow.lt ok)
              clear ok
              replace OU := Lib.hid (own_below OU.out (hb31))
              replace OW := Lib.hid (own_below OW.out (hb31))
              replace OX := Lib.hid (own_below OX.out (hb31))
              replace OC := Lib.hid (own_below OC.out (hb31))
              replace OD := Lib.hid (own_below OD.out (hb31))
              have sz31 := Lib.hid (show w30.heap.size + 0 ≤ w31.heap.size by have := hb31.size; (try simp only [World.size_alloc] at this); omega)
              have Hb31 := Lib.hid (bthen (Hb30.out) hb31)
              clear hb31
              obtain ⟨rfl, rfl⟩ := Prod.mk.inj (Hk.out.symm.trans hk2); clear hk2
              go_wp2_with fail
              refine (specCatOf_any _ wl _ (Rd.of_own OX.out rfl)).mono ?_; rintro e w32 ⟨⟨vk2, kl3, k3, rfl, hk3, ok2⟩, hb32⟩
              have OK2 := Lib.hid ok2
              have GOK2 := Lib.hid (World.ownsRow.lt ok2)
              clear ok2
              replace OU := Lib.hid (own_below OU.out (hb32))
              replace OW := Lib.hid (own_below OW.out (hb32))
              replace OX := Lib.hid (own_below OX.out (hb32))
              replace OC := Lib.hid (own_below OC.out (hb32))
              replace OD := Lib.hid (own_below OD.out (hb32))
              replace OK := Lib.hid (own_below OK.out (hb32))
              have sz32 := Lib.hid (show w31.heap.size + 0 ≤ w32.heap.size by have := hb32.size; (try simp only [World.size_alloc] at this); omega)
              have Hb32 := Lib.hid (bthen (Hb31.out) hb32)
              clear hb32
              obtain ⟨rfl, rfl⟩ := Prod.mk.inj (Hk.out.symm.trans hk3); clear hk3
              go_wp2_with fail
              refine (pEn_same _ _ kl _ (Rd.of_own OK.out rfl) (Rd.of_own OK2.out rfl)).mono ?_; rintro e w33 ⟨rfl, hb33⟩
              replace OU := Lib.hid (own_below OU.out (hb33))
              replace OW := Lib.hid (own_below OW.out (hb33))
              replace OX := Lib.hid (own_below OX.out (hb33))
              replace OC := Lib.hid (own_below OC.out (hb33))
              replace OD := Lib.hid (own_below OD.out (hb33))
              replace OK := Lib.hid (own_below OK.out (hb33))
              replace OK2 := Lib.hid (own_below OK2.out (hb33))
              have sz33 := Lib.hid (show w32.heap.size + 0 ≤ w33.heap.size by have := hb33.size; (try simp only [World.size_alloc] at this); omega)
              have Hb33 := Lib.hid (bthen (Hb32.out) hb33)
              clear hb33
              go_wp2
              go_ret
              exact ⟨rfl, Hb33.out⟩
            · go_wp2_with fail
              refine (qRp_same _ _ wl _ (Rd.of_own OW.out rfl) (Rd.of_own OX.out rfl)).mono ?_; rintro e w29 ⟨rfl, hb29⟩
              replace OU := Lib.hid (own_below OU.out (hb29))
              replace OW := Lib.hid (own_below OW.out (hb29))
              replace OX := Lib.hid (own_below OX.out (hb29))
              replace OC := Lib.hid (own_below OC.out (hb29))
              replace OD := Lib.hid (own_below OD.out (hb29))
              have sz29 := Lib.hid (show w28.heap.size + 0 ≤ w29.heap.size by have := hb29.size; (try simp only [World.size_alloc] at this); omega)
              have Hb29 := Lib.hid (bthen (Hb28.out) hb29)
              clear hb29
              go_wp2_with fail
              refine (pEn_same _ _ cl _ (Rd.of_own OC.out rfl) (Rd.of_own OD.out rfl)).mono ?_; rintro e w30 ⟨rfl, hb30⟩
              replace OU := Lib.hid (own_below OU.out (hb30))
              replace OW := Lib.hid (own_below OW.out (hb30))
              replace OX := Lib.hid (own_below OX.out (hb30))
              replace OC := Lib.hid (own_below OC.out (hb30))
              replace OD := Lib.hid (own_below OD.out (hb30))
              have sz30 := Lib.hid (show w29.heap.size + 0 ≤ w30.heap.size by have := hb30.size; (try simp only [World.size_alloc] at this); omega)
              have Hb30 := Lib.hid (bthen (Hb29.out) hb30)
              clear hb30
              obtain ⟨kl, hk⟩ := with_cat Hhw.out
              have Hk := Lib.hid hk; clear hk
              go_wp2_with fail
              refine (implCatOf_any _ wl _ (Rd.of_own OW.out rfl)).mono ?_; rintro e w31 ⟨⟨vk, kl2, k2, rfl, hk2, ok⟩, hb31⟩
              have OK := Lib.hid ok
              have GOK := Lib.hid (World.ownsRow.lt ok)
              clear ok
              replace OU := Lib.hid (own_below OU.out (hb31))
              replace OW := Lib.hid (own_below OW.out (hb31))
              replace OX := Lib.hid (own_below OX.out (hb31))
              replace OC := Lib.hid (own_below OC.out (hb31))
              replace OD := Lib.hid (own_below OD.out (hb31))
              have sz31 := Lib.hid (show w30.heap.size + 0 ≤ w31.heap.size by have := hb31.size; (try simp only [World.size_alloc] at this); omega)
              have Hb31 := Lib.hid (bthen (Hb30.out) hb31)
              clear hb31
              obtain ⟨rfl, rfl⟩ := Prod.mk.inj (Hk.out.symm.trans hk2); clear hk2
              go_wp2_with fail
              refine (specCatOf_any _ wl _ (Rd.of_own OX.out rfl)).mono ?_; rintro e w32 ⟨⟨vk2, kl3, k3, rfl, hk3, ok2⟩, hb32⟩
              have OK2 := Lib.hid ok2
              have GOK2 := Lib.hid (World.ownsRow.lt ok2)
              clear ok2
              replace OU := Lib.hid (own_below OU.out (hb32))
              replace OW := Lib.hid (own_below OW.out (hb32))
              replace OX := Lib.hid (own_below OX.out (hb32))
              replace OC := Lib.hid (own_below OC.out (hb32))
              replace OD := Lib.hid (own_below OD.out (hb32))
              replace OK := Lib.hid (own_below OK.out (hb32))
              have sz32 := Lib.hid (show w31.heap.size + 0 ≤ w32.heap.size by have := hb32.size; (try simp only [World.size_alloc] at this); omega)
              have Hb32 := Lib.hid (bthen (Hb31.out) hb32)
              clear hb32
              obtain ⟨rfl, rfl⟩ := Prod.mk.inj (Hk.out.symm.trans hk3); clear hk3
              go_wp2_with fail
              refine (pEn_same _ _ kl _ (Rd.of_own OK.out rfl) (Rd.of_own OK2.out rfl)).mono ?_; rintro e w33 ⟨rfl, hb33⟩
              replace OU := Lib.hid (own_below OU.out (hb33))
              replace OW := Lib.hid (own_below OW.out (hb33))
              replace OX := Lib.hid (own_below OX.out (hb33))
              replace OC := Lib.hid (own_below OC.out (hb33))
              replace OD := Lib.hid (own_below OD.out (hb33))
              replace OK := Lib.hid (own_below OK.out (hb33))
              replace OK2 := Lib.hid (own_below OK2.out (hb33))
              have sz33 := Lib.hid (show w32.heap.size + 0 ≤ w33.heap.size by have := hb33.size; (try simp only [World.size_alloc] at this); omega)
              have Hb33 := Lib.hid (bthen (Hb32.out) hb33)
              clear hb33
              go_wp2_with fail
              refine (qRp_eq _ _ wl us _ (with_all Hhw.out Hhc.out) (Rd.of_own OX.out rfl) (Rd.of_own OU.out rfl)).mono ?_; rintro e w34 ⟨rfl, hb34⟩
              replace OU := Lib.hid (own_below OU.out (hb34))
              replace OW := Lib.hid (own_below OW.out (hb34))
              replace OX := Lib.hid (own_below OX.out (hb34))
              replace OC := Lib.hid (own_below OC.out (hb34))
              replace OD := Lib.hid (own_below OD.out (hb34))
              replace OK := Lib.hid (own_below OK.out (hb34))
              replace OK2 := Lib.hid (own_below OK2.out (hb34))
              have sz34 := Lib.hid (show w33.heap.size + 0 ≤ w34.heap.size by have := hb34.size; (try simp only [World.size_alloc] at this); omega)
              have Hb34 := Lib.hid (bthen (Hb33.out) hb34)
              clear hb34
              go_wp2
              go_ret
              exact ⟨rfl, Hb34.out⟩
          · obtain rfl : seven = false := (first_cat Hhf.out Hhc.out).resolve_left (by simp)
            go_wp2_with fail
            refine (qRp_same _ _ wl _ (Rd.of_own OW.out rfl) (Rd.of_own OX.out rfl)).mono ?_; rintro e w29 ⟨rfl, hb29⟩
            replace OU := Lib.hid (own_below OU.out (hb29))
            replace OW := Lib.hid (own_below OW.out (hb29))
            replace OX := Lib.hid (own_below OX.out (hb29))
            replace OC := Lib.hid (own_below OC.out (hb29))
            replace OD := Lib.hid (own_below OD.out (hb29))
            have sz29 := Lib.hid (show w28.heap.size + 0 ≤ w29.heap.size by have := hb29.size; (try simp only [World.size_alloc] at this); omega)
            have Hb29 := Lib.hid (bthen (Hb28.out) hb29)
            clear hb29
            go_wp2_with fail
            refine (pEn_same _ _ cl _ (Rd.of_own OC.out rfl) (Rd.of_own OD.out rfl)).mono ?_; rintro e w30 ⟨rfl, hb30⟩
            replace OU := Lib.hid (own_below OU.out (hb30))
            replace OW := Lib.hid (own_below OW.out (hb30))
            replace OX := Lib.hid (own_below OX.out (hb30))
            replace OC := Lib.hid (own_below OC.out (hb30))
            replace OD := Lib.hid (own_below OD.out (hb30))
            have sz30 := Lib.hid (show w29.heap.size + 0 ≤ w30.heap.size by have := hb30.size; (try simp only [World.size_alloc] at this); omega)
            have Hb30 := Lib.hid (bthen (Hb29.out) hb30)
            clear hb30
            obtain ⟨kl, hk⟩ := with_cat Hhw.out
            have Hk := Lib.hid hk; clear hk
            go_wp2_with fail
            refine (implCatOf_any _ wl _ (Rd.of_own OW.out rfl)).mono ?_; rintro e w31 ⟨⟨vk, kl2, k2, rfl, hk2, ok⟩, hb31⟩
            have OK := Lib.hid ok
            have GOK := Lib.hid (World.ownsRow.lt ok)
            clear ok
            replace OU := Lib.hid (own_below OU.out (hb31))
            replace OW := Lib.hid (own_below OW.out (hb31))
            replace OX := Lib.hid (own_below OX.out (hb31))
            replace OC := Lib.hid (own_below OC.out (hb31))
            replace OD := Lib.hid (own_below OD.out (hb31))
            have sz31 := Lib.hid (show w30.heap.size + 0 ≤ w31.heap.size by have := hb31.size; (try simp only [World.size_alloc] at this); omega)
            have Hb31 := Lib.hid (bthen (Hb30.out) hb31)
            clear hb31
            obtain ⟨rfl, rfl⟩ := Prod.mk.inj (Hk.out.symm.trans hk2); clear hk2
            go_wp2_with fail
            refine (specCatOf_any _ wl _ (Rd.of_own OX.out rfl)).mono ?_; rintro e w32 ⟨⟨vk2, kl3, k3, rfl, hk3, ok2⟩, hb32⟩
            have OK2 := Lib.hid ok2
            have GOK2 := Lib.hid (World.ownsRow.lt ok2)
            clear ok2
            replace OU := Lib.hid (own_below OU.out (hb32))
            replace OW := Lib.hid (own_below OW.out (hb32))
            replace OX := Lib.hid (own_below OX.out (hb32))
            replace OC := Lib.hid (own_below OC.out (hb32))
            replace OD := Lib.hid (own_below OD.out (hb32))
            replace OK := Lib.hid (own_below OK.out (hb32))
            have sz32 := Lib.hid (show w31.heap.size + 0 ≤ w32.heap.size by have := hb32.size; (try simp only [World.size_alloc] at this); omega)
            have Hb32 := Lib.hid (bthen (Hb31.out) hb32)
            clear hb32
            obtain ⟨rfl, rfl⟩ := Prod.mk.inj (Hk.out.symm.trans hk3); clear hk3
            go_wp2_with fail
            refine (pEn_same _ _ kl _ (Rd.of_own OK.out rfl) (Rd.of_own OK2.out rfl)).mono ?_; rintro e w33 ⟨rfl, hb33⟩
            replace OU := Lib.hid (own_below OU.out (hb33))
            replace OW := Lib.hid (own_below OW.out (hb33))
            replace OX := Lib.hid (own_below OX.out (hb33))
            replace OC := Lib.hid (own_below OC.out (hb33))
            replace OD := Lib.hid (own_below OD.out (hb33))
            replace OK := Lib.hid (own_below OK.out (hb33))
            replace OK2 := Lib.hid (own_below OK2.out (hb33))
            have sz33 := Lib.hid (show w32.heap.size + 0 ≤ w33.heap.size by have := hb33.size; (try simp only [World.size_alloc] at this); omega)
            have Hb33 := Lib.hid (bthen (Hb32.out) hb33)
            clear hb33
            have hlt := with_less Hhw.out Hhf.out
            have hlt2 : ¬ (us.length : Int) ≤ (wl.length : Int) := by omega
            have hlt3 : ¬ us.length ≤ wl.length := by omega
            go_wp2
            go_ret
            exact ⟨rfl, Hb33.out⟩
  · go_wp2
    go_ret
    exact ⟨rfl, Hb1.out⟩
end Go.Proofs.Ytnphipfdpkgbaaa
