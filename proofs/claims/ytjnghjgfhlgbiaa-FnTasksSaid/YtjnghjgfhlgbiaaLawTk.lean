/- The law FnTasks: its walk. Conditions: none. Printed by gen_tklaw.py. -/
import Derived.Test.YtjnghjgfhlgbiaaDrKT
import Derived.Test.YtjnghjgfhlgbiaaTkR
import Derived.Test.YtjnghjgfhlgbiaaBig
namespace Go.Proofs.Ytjnghjgfhlgbiaa
open Go Go.RowKit

set_option maxRecDepth 8000 in
set_option maxHeartbeats 16000000 in
theorem fnTasks_walk (A : Option Addr) (n c : Nat) (B : Option Addr) (m d : Nat) (w : World) (ha : BytesAt w w.heap.size A n) (hb : BytesAt w w.heap.size B m) :
    Calls Try.prog 3 #[.slice A n c, .slice B m d] w fun e w' => e = .returned (.bool true) ∧ Below w.heap.size w w' := by
  have Ha := Lib.hid ha; have Hb := Lib.hid hb; clear ha hb
  go_enter Try.func3, Try.ntmps3
  go_wp2_with fail
  refine (big_any A n c B m d _).mono ?_; rintro e w1 ⟨rfl, hb1⟩
  have sz1 := Lib.hid (show w.heap.size + 0 ≤ w1.heap.size by have := hb1.size; (try simp only [World.size_alloc] at this); omega)
  have Hb1 := Lib.hid (bthen (Below.refl _ _) hb1)
  clear hb1
  cases bigB n m
  · go_wp2_with fail
    refine (drawStep_any A n c _ (Ha.out.on (Hb1.out))).mono ?_; rintro e w2 ⟨⟨a, b, m9, d9, t, vf, nvf, x, hnvf, rfl, hvf, hxf⟩, hb2⟩
    obtain ⟨fsf, -, of⟩ := hvf.pt
    obtain ⟨Cf, cf, rfl⟩ := own_formS of
    clear hnvf hvf
    have Of := Lib.hid of
    have GOf := Lib.hid (World.ownsRow.lt of)
    clear of
    have sz2 := Lib.hid (show w1.heap.size + 0 ≤ w2.heap.size by have := hb2.size; (try simp only [World.size_alloc] at this); omega)
    have Hb2 := Lib.hid (bthen (Hb1.out) hb2)
    clear hb2
    clear hxf
    obtain ⟨g0, hg0⟩ : ∃ g0, tkG a b m9 d9 t fsf = g0 := ⟨_, rfl⟩
    have Hg0 := Lib.hid hg0; clear hg0
    rcases step_or a b m9 d9 t fsf x with hz | ⟨hg, hn0, hn1⟩
    · unfold zeroT at hz
      have Hz := Lib.hid hz; clear hz
      go_wp2_with fail
      refine (implStepTask_any a b m9 d9 t _ fsf x _ ((Rd.of_own Of.out rfl).on (bal (Below.refl _ _) _))).mono ?_; rintro e w3 ⟨hr, hb3⟩; obtain ⟨Cs, cs, rfl, os⟩ := hr.at Hz.out; clear hr
      have Os := Lib.hid os
      have GOs := Lib.hid (World.ownsRow.lt os)
      clear os
      replace Of := Lib.hid (own_below Of.out (bthen (bal (Below.refl _ _) _) hb3))
      have bf := Lib.hid ((Blk.new w2 28 #[.int .i64 a, .int .i64 b, .int .i64 m9, .int .i64 d9, .int .i64 t, .slice Cf fsf.length cf]).on hb3)
      have sz3 := Lib.hid (show w2.heap.size + 1 ≤ w3.heap.size by have := hb3.size; (try simp only [World.size_alloc] at this); omega)
      have Hb3 := Lib.hid (bthen (bal (Hb2.out) _) hb3)
      clear hb3
      have qbf_0 : w3.cell? ⟨w2.heap.size, 0, none⟩ = some (.int .i64 a) := bf.out.cell 0
      have qbf_1 : w3.cell? ⟨w2.heap.size, 1, none⟩ = some (.int .i64 b) := bf.out.cell 1
      have qbf_2 : w3.cell? ⟨w2.heap.size, 2, none⟩ = some (.int .i64 m9) := bf.out.cell 2
      have qbf_3 : w3.cell? ⟨w2.heap.size, 3, none⟩ = some (.int .i64 d9) := bf.out.cell 3
      have qbf_4 : w3.cell? ⟨w2.heap.size, 4, none⟩ = some (.int .i64 t) := bf.out.cell 4
      have qbf_5 : w3.cell? ⟨w2.heap.size, 5, none⟩ = some (.slice Cf fsf.length cf) := bf.out.cell 5
      have qbf_l := bf.out.lt
      go_wp2_with fail
      clear qbf_0 qbf_1 qbf_2 qbf_3 qbf_4 qbf_5 qbf_l
      refine (specStepTask_any a b m9 d9 t _ fsf x _ ((Rd.of_own Of.out rfl).on (bal (Below.refl _ _) _))).mono ?_; rintro e w4 ⟨hr, hb4⟩; obtain ⟨Cr, cr, rfl, or⟩ := hr.at Hz.out; clear hr
      have Or := Lib.hid or
      have GOr := Lib.hid (World.ownsRow.lt or)
      clear or
      replace Of := Lib.hid (own_below Of.out (bthen (bal (Below.refl _ _) _) hb4))
      replace bf := Lib.hid (bf.out.on (bthen (bal (Below.refl _ _) _) hb4))
      replace Os := Lib.hid (own_below Os.out (bthen (bal (Below.refl _ _) _) hb4))
      have bs := Lib.hid ((Blk.new w3 28 #[.int .i64 0, .int .i64 0, .int .i64 0, .int .i64 0, .int .i64 0, .slice Cs (([] : List Pt)).length cs]).on hb4)
      have sz4 := Lib.hid (show w3.heap.size + 1 ≤ w4.heap.size by have := hb4.size; (try simp only [World.size_alloc] at this); omega)
      have Hb4 := Lib.hid (bthen (bal (Hb3.out) _) hb4)
      clear hb4
      have hS : Rd ptS (w4.alloc (Obj.cells #[.int .i64 0, .int .i64 0, .int .i64 0, .int .i64 0, .int .i64 0, .slice Cr (([] : List Pt)).length cr] 28)) (w4.alloc (Obj.cells #[.int .i64 0, .int .i64 0, .int .i64 0, .int .i64 0, .int .i64 0, .slice Cr (([] : List Pt)).length cr] 28)).heap.size (.slice Cs (([] : List Pt)).length cs) ([] : List Pt) := (Rd.of_own (S := ptS) Os.out rfl).on (bal (Below.refl _ _) _)
      have hR : Rd ptS (w4.alloc (Obj.cells #[.int .i64 0, .int .i64 0, .int .i64 0, .int .i64 0, .int .i64 0, .slice Cr (([] : List Pt)).length cr] 28)) (w4.alloc (Obj.cells #[.int .i64 0, .int .i64 0, .int .i64 0, .int .i64 0, .int .i64 0, .slice Cr (([] : List Pt)).length cr] 28)).heap.size (.slice Cr (([] : List Pt)).length cr) ([] : List Pt) := (Rd.of_own (S := ptS) Or.out rfl).on (bal (Below.refl _ _) _)
      have hF : Rd ptS (w4.alloc (Obj.cells #[.int .i64 0, .int .i64 0, .int .i64 0, .int .i64 0, .int .i64 0, .slice Cr (([] : List Pt)).length cr] 28)) (w4.alloc (Obj.cells #[.int .i64 0, .int .i64 0, .int .i64 0, .int .i64 0, .int .i64 0, .slice Cr (([] : List Pt)).length cr] 28)).heap.size (.slice Cf fsf.length cf) fsf := (Rd.of_own (S := ptS) Of.out rfl).on (bal (Below.refl _ _) _)
      have qbf_0 : w4.cell? ⟨w2.heap.size, 0, none⟩ = some (.int .i64 a) := bf.out.cell 0
      have qbf_1 : w4.cell? ⟨w2.heap.size, 1, none⟩ = some (.int .i64 b) := bf.out.cell 1
      have qbf_2 : w4.cell? ⟨w2.heap.size, 2, none⟩ = some (.int .i64 m9) := bf.out.cell 2
      have qbf_3 : w4.cell? ⟨w2.heap.size, 3, none⟩ = some (.int .i64 d9) := bf.out.cell 3
      have qbf_4 : w4.cell? ⟨w2.heap.size, 4, none⟩ = some (.int .i64 t) := bf.out.cell 4
      have qbf_5 : w4.cell? ⟨w2.heap.size, 5, none⟩ = some (.slice Cf fsf.length cf) := bf.out.cell 5
      have qbf_l := bf.out.lt
      have qbs_0 : w4.cell? ⟨w3.heap.size, 0, none⟩ = some (.int .i64 0) := bs.out.cell 0
      have qbs_1 : w4.cell? ⟨w3.heap.size, 1, none⟩ = some (.int .i64 0) := bs.out.cell 1
      have qbs_2 : w4.cell? ⟨w3.heap.size, 2, none⟩ = some (.int .i64 0) := bs.out.cell 2
      have qbs_3 : w4.cell? ⟨w3.heap.size, 3, none⟩ = some (.int .i64 0) := bs.out.cell 3
      have qbs_4 : w4.cell? ⟨w3.heap.size, 4, none⟩ = some (.int .i64 0) := bs.out.cell 4
      have qbs_5 : w4.cell? ⟨w3.heap.size, 5, none⟩ = some (.slice Cs (([] : List Pt)).length cs) := bs.out.cell 5
      have qbs_l := bs.out.lt
      go_wp2_with fail
      refine wp_region_tame (by kernel_rfl) (by kernel_rfl) (fun T _ W hT => ?_)
      have hx := hT.cell
      repeat (go_big_quiet_step ((first | (go_at_call 8; exact hT.call (qTk_same 0 0 0 0 0 _ _ ([] : List Pt) _ (hS.on (hT.below _)) (hR.on (hT.below _)))) | (go_at_call 9; exact hT.call (implIsTk_is a b m9 d9 t _ fsf g0 _ Hg0.out (hF.on (hT.below _)))) | (go_at_call 10; exact hT.call (specIsTk_is a b m9 d9 t _ fsf g0 _ Hg0.out (hF.on (hT.below _)))))))
      refine wpQuiet_nil ?_
      intro tt
      clear hx
      have hb5 := hT.below tt
      generalize W tt = w5 at hb5 ⊢
      clear hT
      clear qbf_0 qbf_1 qbf_2 qbf_3 qbf_4 qbf_5 qbf_l qbs_0 qbs_1 qbs_2 qbs_3 qbs_4 qbs_5 qbs_l
      clear hS hR hF
      replace Of := Lib.hid (own_below Of.out (bthen (bal (Below.refl _ _) _) hb5))
      replace bf := Lib.hid (bf.out.on (bthen (bal (Below.refl _ _) _) hb5))
      replace Os := Lib.hid (own_below Os.out (bthen (bal (Below.refl _ _) _) hb5))
      replace bs := Lib.hid (bs.out.on (bthen (bal (Below.refl _ _) _) hb5))
      replace Or := Lib.hid (own_below Or.out (bthen (bal (Below.refl _ _) _) hb5))
      have br := Lib.hid ((Blk.new w4 28 #[.int .i64 0, .int .i64 0, .int .i64 0, .int .i64 0, .int .i64 0, .slice Cr (([] : List Pt)).length cr]).on hb5)
      have sz5 := Lib.hid (show w4.heap.size + 1 ≤ w5.heap.size by have := hb5.size; (try simp only [World.size_alloc] at this); omega)
      have Hb5 := Lib.hid (bthen (bal (Hb4.out) _) hb5)
      clear hb5
      clear bf
      clear bs
      clear br
      clear Of
      clear Os
      clear Or
      clear Hz Hg0
      clear sz1 GOf Hb1 sz2 GOs Hb2 sz3 GOr Hb3 sz4 Hb4 sz5
      go_wp2_with fail
      refine (drawCrash_any B m d _ (Hb.out.on (Hb5.out))).mono ?_; rintro e w6 ⟨⟨ua, ub, um, ud, ut, vu, nvu, x, hnvu, rfl, hvu, hxu⟩, hb6⟩
      obtain ⟨fsu, -, ou⟩ := hvu.pt
      obtain ⟨Cu, cu, rfl⟩ := own_formS ou
      clear hnvu hvu
      have Ou := Lib.hid ou
      have GOu := Lib.hid (World.ownsRow.lt ou)
      clear ou
      have sz6 := Lib.hid (show w5.heap.size + 0 ≤ w6.heap.size by have := hb6.size; (try simp only [World.size_alloc] at this); omega)
      have Hb6 := Lib.hid (bthen (Hb5.out) hb6)
      clear hb6
      obtain ⟨hx0, hx1⟩ := hxu
      rcases crash_or ua ub um ud ut fsu x with hz | ⟨T, L, hT9⟩
      · unfold zeroT at hz
        have Hz := Lib.hid hz; clear hz
        go_wp2_with fail
        refine (implCrashTask_any ua ub um ud ut _ fsu x _ ((Rd.of_own Ou.out rfl).on (bal (Below.refl _ _) _))).mono ?_; rintro e w7 ⟨hr, hb7⟩; obtain ⟨Cci, cci, rfl, oci⟩ := hr.at Hz.out; clear hr
        have Oci := Lib.hid oci
        have GOci := Lib.hid (World.ownsRow.lt oci)
        clear oci
        replace Ou := Lib.hid (own_below Ou.out (bthen (bal (Below.refl _ _) _) hb7))
        have bu := Lib.hid ((Blk.new w6 28 #[.int .i64 ua, .int .i64 ub, .int .i64 um, .int .i64 ud, .int .i64 ut, .slice Cu fsu.length cu]).on hb7)
        have sz7 := Lib.hid (show w6.heap.size + 1 ≤ w7.heap.size by have := hb7.size; (try simp only [World.size_alloc] at this); omega)
        have Hb7 := Lib.hid (bthen (bal (Hb6.out) _) hb7)
        clear hb7
        have qbu_0 : w7.cell? ⟨w6.heap.size, 0, none⟩ = some (.int .i64 ua) := bu.out.cell 0
        have qbu_1 : w7.cell? ⟨w6.heap.size, 1, none⟩ = some (.int .i64 ub) := bu.out.cell 1
        have qbu_2 : w7.cell? ⟨w6.heap.size, 2, none⟩ = some (.int .i64 um) := bu.out.cell 2
        have qbu_3 : w7.cell? ⟨w6.heap.size, 3, none⟩ = some (.int .i64 ud) := bu.out.cell 3
        have qbu_4 : w7.cell? ⟨w6.heap.size, 4, none⟩ = some (.int .i64 ut) := bu.out.cell 4
        have qbu_5 : w7.cell? ⟨w6.heap.size, 5, none⟩ = some (.slice Cu fsu.length cu) := bu.out.cell 5
        have qbu_l := bu.out.lt
        go_wp2_with fail
        clear qbu_0 qbu_1 qbu_2 qbu_3 qbu_4 qbu_5 qbu_l
        refine (specCrashTask_any ua ub um ud ut _ fsu x _ ((Rd.of_own Ou.out rfl).on (bal (Below.refl _ _) _))).mono ?_; rintro e w8 ⟨hr, hb8⟩; obtain ⟨Ccs, ccs, rfl, ocs⟩ := hr.at Hz.out; clear hr
        have Ocs := Lib.hid ocs
        have GOcs := Lib.hid (World.ownsRow.lt ocs)
        clear ocs
        replace Ou := Lib.hid (own_below Ou.out (bthen (bal (Below.refl _ _) _) hb8))
        replace bu := Lib.hid (bu.out.on (bthen (bal (Below.refl _ _) _) hb8))
        replace Oci := Lib.hid (own_below Oci.out (bthen (bal (Below.refl _ _) _) hb8))
        have bc := Lib.hid ((Blk.new w7 28 #[.int .i64 0, .int .i64 0, .int .i64 0, .int .i64 0, .int .i64 0, .slice Cci (([] : List Pt)).length cci]).on hb8)
        have sz8 := Lib.hid (show w7.heap.size + 1 ≤ w8.heap.size by have := hb8.size; (try simp only [World.size_alloc] at this); omega)
        have Hb8 := Lib.hid (bthen (bal (Hb7.out) _) hb8)
        clear hb8
        have qbc_0 : w8.cell? ⟨w7.heap.size, 0, none⟩ = some (.int .i64 0) := bc.out.cell 0
        have qbc_1 : w8.cell? ⟨w7.heap.size, 1, none⟩ = some (.int .i64 0) := bc.out.cell 1
        have qbc_2 : w8.cell? ⟨w7.heap.size, 2, none⟩ = some (.int .i64 0) := bc.out.cell 2
        have qbc_3 : w8.cell? ⟨w7.heap.size, 3, none⟩ = some (.int .i64 0) := bc.out.cell 3
        have qbc_4 : w8.cell? ⟨w7.heap.size, 4, none⟩ = some (.int .i64 0) := bc.out.cell 4
        have qbc_5 : w8.cell? ⟨w7.heap.size, 5, none⟩ = some (.slice Cci (([] : List Pt)).length cci) := bc.out.cell 5
        have qbc_l := bc.out.lt
        go_wp2_with fail
        clear qbc_0 qbc_1 qbc_2 qbc_3 qbc_4 qbc_5 qbc_l
        refine (qTk_same 0 0 0 0 0 _ _ [] _ ((Rd.of_own Oci.out rfl).on (bal (Below.refl _ _) _)) ((Rd.of_own Ocs.out rfl).on (bal (Below.refl _ _) _))).mono ?_; rintro e w9 ⟨rfl, hb9⟩
        replace Ou := Lib.hid (own_below Ou.out (bthen (bal (Below.refl _ _) _) hb9))
        replace bu := Lib.hid (bu.out.on (bthen (bal (Below.refl _ _) _) hb9))
        replace Oci := Lib.hid (own_below Oci.out (bthen (bal (Below.refl _ _) _) hb9))
        replace bc := Lib.hid (bc.out.on (bthen (bal (Below.refl _ _) _) hb9))
        replace Ocs := Lib.hid (own_below Ocs.out (bthen (bal (Below.refl _ _) _) hb9))
        have bd := Lib.hid ((Blk.new w8 28 #[.int .i64 0, .int .i64 0, .int .i64 0, .int .i64 0, .int .i64 0, .slice Ccs (([] : List Pt)).length ccs]).on hb9)
        have sz9 := Lib.hid (show w8.heap.size + 1 ≤ w9.heap.size by have := hb9.size; (try simp only [World.size_alloc] at this); omega)
        have Hb9 := Lib.hid (bthen (bal (Hb8.out) _) hb9)
        clear hb9
        clear bc
        clear bd
        clear bu
        clear Oci
        clear Ocs
        clear Ou
        clear Hz
        clear GOu Hb5 sz6 GOci Hb6 sz7 GOcs Hb7 sz8 Hb8 sz9
        go_wp2_with fail
        refine (drawCand_any B m d _ (Hb.out.on (Hb9.out))).mono ?_; rintro e w10 ⟨⟨va, vb, vm, vd, vt, vv, nvv, i, hnvv, rfl, hvv, hxv⟩, hb10⟩
        obtain ⟨fsv, -, ov⟩ := hvv.pt
        obtain ⟨Cv, cv, rfl⟩ := own_formS ov
        clear hnvv hvv
        have Ov := Lib.hid ov
        have GOv := Lib.hid (World.ownsRow.lt ov)
        clear ov
        have sz10 := Lib.hid (show w9.heap.size + 0 ≤ w10.heap.size by have := hb10.size; (try simp only [World.size_alloc] at this); omega)
        have Hb10 := Lib.hid (bthen (Hb9.out) hb10)
        clear hb10
        clear hxv 
        obtain ⟨x, e, k, hk⟩ : ∃ x e k, candV va vb vm vd vt fsv i = (x, e, k) := ⟨_, _, _, rfl⟩
        have Hk := Lib.hid hk; clear hk
        go_wp2_with fail
        refine (implCand_is va vb vm vd vt _ fsv i x e k _ Hk.out ((Rd.of_own Ov.out rfl).on (bal (Below.refl _ _) _))).mono ?_; rintro e w11 ⟨rfl, hb11⟩
        replace Ov := Lib.hid (own_below Ov.out (bthen (bal (Below.refl _ _) _) hb11))
        have bv := Lib.hid ((Blk.new w10 28 #[.int .i64 va, .int .i64 vb, .int .i64 vm, .int .i64 vd, .int .i64 vt, .slice Cv fsv.length cv]).on hb11)
        have sz11 := Lib.hid (show w10.heap.size + 1 ≤ w11.heap.size by have := hb11.size; (try simp only [World.size_alloc] at this); omega)
        have Hb11 := Lib.hid (bthen (bal (Hb10.out) _) hb11)
        clear hb11
        have qbv_0 : w11.cell? ⟨w10.heap.size, 0, none⟩ = some (.int .i64 va) := bv.out.cell 0
        have qbv_1 : w11.cell? ⟨w10.heap.size, 1, none⟩ = some (.int .i64 vb) := bv.out.cell 1
        have qbv_2 : w11.cell? ⟨w10.heap.size, 2, none⟩ = some (.int .i64 vm) := bv.out.cell 2
        have qbv_3 : w11.cell? ⟨w10.heap.size, 3, none⟩ = some (.int .i64 vd) := bv.out.cell 3
        have qbv_4 : w11.cell? ⟨w10.heap.size, 4, none⟩ = some (.int .i64 vt) := bv.out.cell 4
        have qbv_5 : w11.cell? ⟨w10.heap.size, 5, none⟩ = some (.slice Cv fsv.length cv) := bv.out.cell 5
        have qbv_l := bv.out.lt
        go_wp2_with fail
        clear qbv_0 qbv_1 qbv_2 qbv_3 qbv_4 qbv_5 qbv_l
        refine (specCand_is va vb vm vd vt _ fsv i x e k _ Hk.out (Rd.of_own Ov.out rfl)).mono ?_; rintro e w12 ⟨rfl, hb12⟩
        replace Ov := Lib.hid (own_below Ov.out (hb12))
        replace bv := Lib.hid (bv.out.on (hb12))
        have sz12 := Lib.hid (show w11.heap.size + 0 ≤ w12.heap.size by have := hb12.size; (try simp only [World.size_alloc] at this); omega)
        have Hb12 := Lib.hid (bthen (Hb11.out) hb12)
        clear hb12
        cases k
        · have qbv_0 : w12.cell? ⟨w10.heap.size, 0, none⟩ = some (.int .i64 va) := bv.out.cell 0
          have qbv_1 : w12.cell? ⟨w10.heap.size, 1, none⟩ = some (.int .i64 vb) := bv.out.cell 1
          have qbv_2 : w12.cell? ⟨w10.heap.size, 2, none⟩ = some (.int .i64 vm) := bv.out.cell 2
          have qbv_3 : w12.cell? ⟨w10.heap.size, 3, none⟩ = some (.int .i64 vd) := bv.out.cell 3
          have qbv_4 : w12.cell? ⟨w10.heap.size, 4, none⟩ = some (.int .i64 vt) := bv.out.cell 4
          have qbv_5 : w12.cell? ⟨w10.heap.size, 5, none⟩ = some (.slice Cv fsv.length cv) := bv.out.cell 5
          have qbv_l := bv.out.lt
          go_wp2_with fail
          refine wp_region_tame (by kernel_rfl) (by kernel_rfl) (fun T _ W hT => ?_)
          have hx := hT.cell
          repeat (go_big_quiet_step ((first | fail)))
          refine wpQuiet_nil ?_
          intro tt
          clear hx
          have hb13 := hT.below tt
          generalize W tt = w13 at hb13 ⊢
          clear hT
          clear qbv_0 qbv_1 qbv_2 qbv_3 qbv_4 qbv_5 qbv_l
          replace Ov := Lib.hid (own_below Ov.out (hb13))
          replace bv := Lib.hid (bv.out.on (hb13))
          have sz13 := Lib.hid (show w12.heap.size + 0 ≤ w13.heap.size by have := hb13.size; (try simp only [World.size_alloc] at this); omega)
          have Hb13 := Lib.hid (bthen (Hb12.out) hb13)
          clear hb13
          go_wp2
          go_ret
          exact ⟨rfl, Hb13.out⟩
        · obtain ⟨⟨h1, h2⟩, ⟨h3, h4⟩, h5⟩ := cand_law Hk.out
          have hab : max x (-x) ≤ vm := by omega
          have Hpa := Lib.hid (fun W => pAbs_any x W ⟨by omega, by omega⟩)
          generalize max x (-x) = y at hab Hpa
          have qbv_0 : w12.cell? ⟨w10.heap.size, 0, none⟩ = some (.int .i64 va) := bv.out.cell 0
          have qbv_1 : w12.cell? ⟨w10.heap.size, 1, none⟩ = some (.int .i64 vb) := bv.out.cell 1
          have qbv_2 : w12.cell? ⟨w10.heap.size, 2, none⟩ = some (.int .i64 vm) := bv.out.cell 2
          have qbv_3 : w12.cell? ⟨w10.heap.size, 3, none⟩ = some (.int .i64 vd) := bv.out.cell 3
          have qbv_4 : w12.cell? ⟨w10.heap.size, 4, none⟩ = some (.int .i64 vt) := bv.out.cell 4
          have qbv_5 : w12.cell? ⟨w10.heap.size, 5, none⟩ = some (.slice Cv fsv.length cv) := bv.out.cell 5
          have qbv_l := bv.out.lt
          go_wp2_with fail
          refine wp_region_tame (by kernel_rfl) (by kernel_rfl) (fun T _ W hT => ?_)
          have hx := hT.cell
          repeat (go_big_quiet_step ((first | (go_at_call 21; exact hT.call (Hpa.out _)))))
          refine wpQuiet_nil ?_
          intro tt
          clear hx
          have hb13 := hT.below tt
          generalize W tt = w13 at hb13 ⊢
          clear hT
          clear qbv_0 qbv_1 qbv_2 qbv_3 qbv_4 qbv_5 qbv_l
          replace Ov := Lib.hid (own_below Ov.out (hb13))
          replace bv := Lib.hid (bv.out.on (hb13))
          have sz13 := Lib.hid (show w12.heap.size + 0 ≤ w13.heap.size by have := hb13.size; (try simp only [World.size_alloc] at this); omega)
          have Hb13 := Lib.hid (bthen (Hb12.out) hb13)
          clear hb13
          go_wp2
          go_ret
          exact ⟨rfl, Hb13.out⟩
      · have HT := Lib.hid hT9
        obtain ⟨-, -, -, -, he, ht, hmod, hlt, hst⟩ := crash_law hT9
        have Hst := Lib.hid hst; clear hst hT9
        obtain ⟨he0, he1⟩ := he; obtain ⟨ht0, ht1, ht2⟩ := ht
        go_wp2_with fail
        refine (implCrashTask_any ua ub um ud ut _ fsu x _ ((Rd.of_own Ou.out rfl).on (bal (Below.refl _ _) _))).mono ?_; rintro e w7 ⟨hr, hb7⟩; obtain ⟨Cci, cci, rfl, oci⟩ := hr.at HT.out; clear hr
        have Oci := Lib.hid oci
        have GOci := Lib.hid (World.ownsRow.lt oci)
        clear oci
        replace Ou := Lib.hid (own_below Ou.out (bthen (bal (Below.refl _ _) _) hb7))
        have bu := Lib.hid ((Blk.new w6 28 #[.int .i64 ua, .int .i64 ub, .int .i64 um, .int .i64 ud, .int .i64 ut, .slice Cu fsu.length cu]).on hb7)
        have sz7 := Lib.hid (show w6.heap.size + 1 ≤ w7.heap.size by have := hb7.size; (try simp only [World.size_alloc] at this); omega)
        have Hb7 := Lib.hid (bthen (bal (Hb6.out) _) hb7)
        clear hb7
        have qbu_0 : w7.cell? ⟨w6.heap.size, 0, none⟩ = some (.int .i64 ua) := bu.out.cell 0
        have qbu_1 : w7.cell? ⟨w6.heap.size, 1, none⟩ = some (.int .i64 ub) := bu.out.cell 1
        have qbu_2 : w7.cell? ⟨w6.heap.size, 2, none⟩ = some (.int .i64 um) := bu.out.cell 2
        have qbu_3 : w7.cell? ⟨w6.heap.size, 3, none⟩ = some (.int .i64 ud) := bu.out.cell 3
        have qbu_4 : w7.cell? ⟨w6.heap.size, 4, none⟩ = some (.int .i64 ut) := bu.out.cell 4
        have qbu_5 : w7.cell? ⟨w6.heap.size, 5, none⟩ = some (.slice Cu fsu.length cu) := bu.out.cell 5
        have qbu_l := bu.out.lt
        go_wp2_with fail
        clear qbu_0 qbu_1 qbu_2 qbu_3 qbu_4 qbu_5 qbu_l
        refine (specCrashTask_any ua ub um ud ut _ fsu x _ ((Rd.of_own Ou.out rfl).on (bal (Below.refl _ _) _))).mono ?_; rintro e w8 ⟨hr, hb8⟩; obtain ⟨Ccs, ccs, rfl, ocs⟩ := hr.at HT.out; clear hr
        have Ocs := Lib.hid ocs
        have GOcs := Lib.hid (World.ownsRow.lt ocs)
        clear ocs
        replace Ou := Lib.hid (own_below Ou.out (bthen (bal (Below.refl _ _) _) hb8))
        replace bu := Lib.hid (bu.out.on (bthen (bal (Below.refl _ _) _) hb8))
        replace Oci := Lib.hid (own_below Oci.out (bthen (bal (Below.refl _ _) _) hb8))
        have bc := Lib.hid ((Blk.new w7 28 #[.int .i64 ua, .int .i64 ub, .int .i64 um, .int .i64 ud, .int .i64 T, .slice Cci L.length cci]).on hb8)
        have sz8 := Lib.hid (show w7.heap.size + 1 ≤ w8.heap.size by have := hb8.size; (try simp only [World.size_alloc] at this); omega)
        have Hb8 := Lib.hid (bthen (bal (Hb7.out) _) hb8)
        clear hb8
        have qbc_0 : w8.cell? ⟨w7.heap.size, 0, none⟩ = some (.int .i64 ua) := bc.out.cell 0
        have qbc_1 : w8.cell? ⟨w7.heap.size, 1, none⟩ = some (.int .i64 ub) := bc.out.cell 1
        have qbc_2 : w8.cell? ⟨w7.heap.size, 2, none⟩ = some (.int .i64 um) := bc.out.cell 2
        have qbc_3 : w8.cell? ⟨w7.heap.size, 3, none⟩ = some (.int .i64 ud) := bc.out.cell 3
        have qbc_4 : w8.cell? ⟨w7.heap.size, 4, none⟩ = some (.int .i64 T) := bc.out.cell 4
        have qbc_5 : w8.cell? ⟨w7.heap.size, 5, none⟩ = some (.slice Cci L.length cci) := bc.out.cell 5
        have qbc_l := bc.out.lt
        go_wp2_with fail
        clear qbc_0 qbc_1 qbc_2 qbc_3 qbc_4 qbc_5 qbc_l
        refine (qTk_same ua ub um ud T _ _ L _ ((Rd.of_own Oci.out rfl).on (bal (Below.refl _ _) _)) ((Rd.of_own Ocs.out rfl).on (bal (Below.refl _ _) _))).mono ?_; rintro e w9 ⟨rfl, hb9⟩
        replace Ou := Lib.hid (own_below Ou.out (bthen (bal (Below.refl _ _) _) hb9))
        replace bu := Lib.hid (bu.out.on (bthen (bal (Below.refl _ _) _) hb9))
        replace Oci := Lib.hid (own_below Oci.out (bthen (bal (Below.refl _ _) _) hb9))
        replace bc := Lib.hid (bc.out.on (bthen (bal (Below.refl _ _) _) hb9))
        replace Ocs := Lib.hid (own_below Ocs.out (bthen (bal (Below.refl _ _) _) hb9))
        have bd := Lib.hid ((Blk.new w8 28 #[.int .i64 ua, .int .i64 ub, .int .i64 um, .int .i64 ud, .int .i64 T, .slice Ccs L.length ccs]).on hb9)
        have sz9 := Lib.hid (show w8.heap.size + 1 ≤ w9.heap.size by have := hb9.size; (try simp only [World.size_alloc] at this); omega)
        have Hb9 := Lib.hid (bthen (bal (Hb8.out) _) hb9)
        clear hb9
        have hsub : IntKind.i64.wrap (ut - T) = ut - T := by rw [IntKind.wrap_i64]; omega
        have qbc_0 : w9.cell? ⟨w7.heap.size, 0, none⟩ = some (.int .i64 ua) := bc.out.cell 0
        have qbc_1 : w9.cell? ⟨w7.heap.size, 1, none⟩ = some (.int .i64 ub) := bc.out.cell 1
        have qbc_2 : w9.cell? ⟨w7.heap.size, 2, none⟩ = some (.int .i64 um) := bc.out.cell 2
        have qbc_3 : w9.cell? ⟨w7.heap.size, 3, none⟩ = some (.int .i64 ud) := bc.out.cell 3
        have qbc_4 : w9.cell? ⟨w7.heap.size, 4, none⟩ = some (.int .i64 T) := bc.out.cell 4
        have qbc_5 : w9.cell? ⟨w7.heap.size, 5, none⟩ = some (.slice Cci L.length cci) := bc.out.cell 5
        have qbc_l := bc.out.lt
        have qbu_0 : w9.cell? ⟨w6.heap.size, 0, none⟩ = some (.int .i64 ua) := bu.out.cell 0
        have qbu_1 : w9.cell? ⟨w6.heap.size, 1, none⟩ = some (.int .i64 ub) := bu.out.cell 1
        have qbu_2 : w9.cell? ⟨w6.heap.size, 2, none⟩ = some (.int .i64 um) := bu.out.cell 2
        have qbu_3 : w9.cell? ⟨w6.heap.size, 3, none⟩ = some (.int .i64 ud) := bu.out.cell 3
        have qbu_4 : w9.cell? ⟨w6.heap.size, 4, none⟩ = some (.int .i64 ut) := bu.out.cell 4
        have qbu_5 : w9.cell? ⟨w6.heap.size, 5, none⟩ = some (.slice Cu fsu.length cu) := bu.out.cell 5
        have qbu_l := bu.out.lt
        have qbd_0 : w9.cell? ⟨w8.heap.size, 0, none⟩ = some (.int .i64 ua) := bd.out.cell 0
        have qbd_1 : w9.cell? ⟨w8.heap.size, 1, none⟩ = some (.int .i64 ub) := bd.out.cell 1
        have qbd_2 : w9.cell? ⟨w8.heap.size, 2, none⟩ = some (.int .i64 um) := bd.out.cell 2
        have qbd_3 : w9.cell? ⟨w8.heap.size, 3, none⟩ = some (.int .i64 ud) := bd.out.cell 3
        have qbd_4 : w9.cell? ⟨w8.heap.size, 4, none⟩ = some (.int .i64 T) := bd.out.cell 4
        have qbd_5 : w9.cell? ⟨w8.heap.size, 5, none⟩ = some (.slice Ccs L.length ccs) := bd.out.cell 5
        have qbd_l := bd.out.lt
        go_wp2_with fail
        clear qbc_0 qbc_1 qbc_2 qbc_3 qbc_4 qbc_5 qbc_l qbu_0 qbu_1 qbu_2 qbu_3 qbu_4 qbu_5 qbu_l qbd_0 qbd_1 qbd_2 qbd_3 qbd_4 qbd_5 qbd_l
        refine (implStepTask_any ua ub um ud T _ L (ut - T) _ (Rd.of_own Oci.out rfl)).mono ?_; rintro e w10 ⟨hr, hb10⟩; obtain ⟨Cag, cag, rfl, oag⟩ := hr.at Hst.out; clear hr
        have Oag := Lib.hid oag
        have GOag := Lib.hid (World.ownsRow.lt oag)
        clear oag
        replace Ou := Lib.hid (own_below Ou.out (hb10))
        replace bu := Lib.hid (bu.out.on (hb10))
        replace Oci := Lib.hid (own_below Oci.out (hb10))
        replace bc := Lib.hid (bc.out.on (hb10))
        replace Ocs := Lib.hid (own_below Ocs.out (hb10))
        replace bd := Lib.hid (bd.out.on (hb10))
        have sz10 := Lib.hid (show w9.heap.size + 0 ≤ w10.heap.size by have := hb10.size; (try simp only [World.size_alloc] at this); omega)
        have Hb10 := Lib.hid (bthen (Hb9.out) hb10)
        clear hb10
        have hmo : T.tmod x = 0 := by rw [Int.tmod_eq_emod_of_nonneg ht0]; exact hmod
        have k1 : ¬ ut < T := by omega
        have k2 : ¬ x ≤ ut - T := by omega
        have k3 : x ≠ 0 := by omega
        have qbc_0 : w10.cell? ⟨w7.heap.size, 0, none⟩ = some (.int .i64 ua) := bc.out.cell 0
        have qbc_1 : w10.cell? ⟨w7.heap.size, 1, none⟩ = some (.int .i64 ub) := bc.out.cell 1
        have qbc_2 : w10.cell? ⟨w7.heap.size, 2, none⟩ = some (.int .i64 um) := bc.out.cell 2
        have qbc_3 : w10.cell? ⟨w7.heap.size, 3, none⟩ = some (.int .i64 ud) := bc.out.cell 3
        have qbc_4 : w10.cell? ⟨w7.heap.size, 4, none⟩ = some (.int .i64 T) := bc.out.cell 4
        have qbc_5 : w10.cell? ⟨w7.heap.size, 5, none⟩ = some (.slice Cci L.length cci) := bc.out.cell 5
        have qbc_l := bc.out.lt
        have qbu_0 : w10.cell? ⟨w6.heap.size, 0, none⟩ = some (.int .i64 ua) := bu.out.cell 0
        have qbu_1 : w10.cell? ⟨w6.heap.size, 1, none⟩ = some (.int .i64 ub) := bu.out.cell 1
        have qbu_2 : w10.cell? ⟨w6.heap.size, 2, none⟩ = some (.int .i64 um) := bu.out.cell 2
        have qbu_3 : w10.cell? ⟨w6.heap.size, 3, none⟩ = some (.int .i64 ud) := bu.out.cell 3
        have qbu_4 : w10.cell? ⟨w6.heap.size, 4, none⟩ = some (.int .i64 ut) := bu.out.cell 4
        have qbu_5 : w10.cell? ⟨w6.heap.size, 5, none⟩ = some (.slice Cu fsu.length cu) := bu.out.cell 5
        have qbu_l := bu.out.lt
        have qbd_0 : w10.cell? ⟨w8.heap.size, 0, none⟩ = some (.int .i64 ua) := bd.out.cell 0
        have qbd_1 : w10.cell? ⟨w8.heap.size, 1, none⟩ = some (.int .i64 ub) := bd.out.cell 1
        have qbd_2 : w10.cell? ⟨w8.heap.size, 2, none⟩ = some (.int .i64 um) := bd.out.cell 2
        have qbd_3 : w10.cell? ⟨w8.heap.size, 3, none⟩ = some (.int .i64 ud) := bd.out.cell 3
        have qbd_4 : w10.cell? ⟨w8.heap.size, 4, none⟩ = some (.int .i64 T) := bd.out.cell 4
        have qbd_5 : w10.cell? ⟨w8.heap.size, 5, none⟩ = some (.slice Ccs L.length ccs) := bd.out.cell 5
        have qbd_l := bd.out.lt
        go_wp2_with fail
        clear qbc_0 qbc_1 qbc_2 qbc_3 qbc_4 qbc_5 qbc_l qbu_0 qbu_1 qbu_2 qbu_3 qbu_4 qbu_5 qbu_l qbd_0 qbd_1 qbd_2 qbd_3 qbd_4 qbd_5 qbd_l
        refine (qTk_same ua ub um ud ut _ _ fsu _ ((Rd.of_own Oag.out rfl).on (bal (Below.refl _ _) _)) ((Rd.of_own Ou.out rfl).on (bal (Below.refl _ _) _))).mono ?_; rintro e w11 ⟨rfl, hb11⟩
        replace Ou := Lib.hid (own_below Ou.out (bthen (bal (Below.refl _ _) _) hb11))
        replace bu := Lib.hid (bu.out.on (bthen (bal (Below.refl _ _) _) hb11))
        replace Oci := Lib.hid (own_below Oci.out (bthen (bal (Below.refl _ _) _) hb11))
        replace bc := Lib.hid (bc.out.on (bthen (bal (Below.refl _ _) _) hb11))
        replace Ocs := Lib.hid (own_below Ocs.out (bthen (bal (Below.refl _ _) _) hb11))
        replace bd := Lib.hid (bd.out.on (bthen (bal (Below.refl _ _) _) hb11))
        replace Oag := Lib.hid (own_below Oag.out (bthen (bal (Below.refl _ _) _) hb11))
        have be := Lib.hid ((Blk.new w10 28 #[.int .i64 ua, .int .i64 ub, .int .i64 um, .int .i64 ud, .int .i64 ut, .slice Cag fsu.length cag]).on hb11)
        have sz11 := Lib.hid (show w10.heap.size + 1 ≤ w11.heap.size by have := hb11.size; (try simp only [World.size_alloc] at this); omega)
        have Hb11 := Lib.hid (bthen (bal (Hb10.out) _) hb11)
        clear hb11
        clear bc
        clear bd
        clear bu
        clear be
        clear Oci
        clear Ocs
        clear Oag
        clear Ou
        clear HT Hst hsub he0 he1 ht0 ht1 ht2 hmod hlt
        clear GOu Hb5 sz6 GOci Hb6 sz7 GOcs Hb7 sz8 Hb8 sz9 GOag Hb9 sz10 Hb10 sz11
        go_wp2_with fail
        refine (drawCand_any B m d _ (Hb.out.on (Hb11.out))).mono ?_; rintro e w12 ⟨⟨va, vb, vm, vd, vt, vv, nvv, i, hnvv, rfl, hvv, hxv⟩, hb12⟩
        obtain ⟨fsv, -, ov⟩ := hvv.pt
        obtain ⟨Cv, cv, rfl⟩ := own_formS ov
        clear hnvv hvv
        have Ov := Lib.hid ov
        have GOv := Lib.hid (World.ownsRow.lt ov)
        clear ov
        have sz12 := Lib.hid (show w11.heap.size + 0 ≤ w12.heap.size by have := hb12.size; (try simp only [World.size_alloc] at this); omega)
        have Hb12 := Lib.hid (bthen (Hb11.out) hb12)
        clear hb12
        clear hxv hmo k1 k2 k3
        obtain ⟨x, e, k, hk⟩ : ∃ x e k, candV va vb vm vd vt fsv i = (x, e, k) := ⟨_, _, _, rfl⟩
        have Hk := Lib.hid hk; clear hk
        go_wp2_with fail
        refine (implCand_is va vb vm vd vt _ fsv i x e k _ Hk.out ((Rd.of_own Ov.out rfl).on (bal (Below.refl _ _) _))).mono ?_; rintro e w13 ⟨rfl, hb13⟩
        replace Ov := Lib.hid (own_below Ov.out (bthen (bal (Below.refl _ _) _) hb13))
        have bv := Lib.hid ((Blk.new w12 28 #[.int .i64 va, .int .i64 vb, .int .i64 vm, .int .i64 vd, .int .i64 vt, .slice Cv fsv.length cv]).on hb13)
        have sz13 := Lib.hid (show w12.heap.size + 1 ≤ w13.heap.size by have := hb13.size; (try simp only [World.size_alloc] at this); omega)
        have Hb13 := Lib.hid (bthen (bal (Hb12.out) _) hb13)
        clear hb13
        have qbv_0 : w13.cell? ⟨w12.heap.size, 0, none⟩ = some (.int .i64 va) := bv.out.cell 0
        have qbv_1 : w13.cell? ⟨w12.heap.size, 1, none⟩ = some (.int .i64 vb) := bv.out.cell 1
        have qbv_2 : w13.cell? ⟨w12.heap.size, 2, none⟩ = some (.int .i64 vm) := bv.out.cell 2
        have qbv_3 : w13.cell? ⟨w12.heap.size, 3, none⟩ = some (.int .i64 vd) := bv.out.cell 3
        have qbv_4 : w13.cell? ⟨w12.heap.size, 4, none⟩ = some (.int .i64 vt) := bv.out.cell 4
        have qbv_5 : w13.cell? ⟨w12.heap.size, 5, none⟩ = some (.slice Cv fsv.length cv) := bv.out.cell 5
        have qbv_l := bv.out.lt
        go_wp2_with fail
        clear qbv_0 qbv_1 qbv_2 qbv_3 qbv_4 qbv_5 qbv_l
        refine (specCand_is va vb vm vd vt _ fsv i x e k _ Hk.out (Rd.of_own Ov.out rfl)).mono ?_; rintro e w14 ⟨rfl, hb14⟩
        replace Ov := Lib.hid (own_below Ov.out (hb14))
        replace bv := Lib.hid (bv.out.on (hb14))
        have sz14 := Lib.hid (show w13.heap.size + 0 ≤ w14.heap.size by have := hb14.size; (try simp only [World.size_alloc] at this); omega)
        have Hb14 := Lib.hid (bthen (Hb13.out) hb14)
        clear hb14
        cases k
        · have qbv_0 : w14.cell? ⟨w12.heap.size, 0, none⟩ = some (.int .i64 va) := bv.out.cell 0
          have qbv_1 : w14.cell? ⟨w12.heap.size, 1, none⟩ = some (.int .i64 vb) := bv.out.cell 1
          have qbv_2 : w14.cell? ⟨w12.heap.size, 2, none⟩ = some (.int .i64 vm) := bv.out.cell 2
          have qbv_3 : w14.cell? ⟨w12.heap.size, 3, none⟩ = some (.int .i64 vd) := bv.out.cell 3
          have qbv_4 : w14.cell? ⟨w12.heap.size, 4, none⟩ = some (.int .i64 vt) := bv.out.cell 4
          have qbv_5 : w14.cell? ⟨w12.heap.size, 5, none⟩ = some (.slice Cv fsv.length cv) := bv.out.cell 5
          have qbv_l := bv.out.lt
          go_wp2_with fail
          refine wp_region_tame (by kernel_rfl) (by kernel_rfl) (fun T _ W hT => ?_)
          have hx := hT.cell
          repeat (go_big_quiet_step ((first | fail)))
          refine wpQuiet_nil ?_
          intro tt
          clear hx
          have hb15 := hT.below tt
          generalize W tt = w15 at hb15 ⊢
          clear hT
          clear qbv_0 qbv_1 qbv_2 qbv_3 qbv_4 qbv_5 qbv_l
          replace Ov := Lib.hid (own_below Ov.out (hb15))
          replace bv := Lib.hid (bv.out.on (hb15))
          have sz15 := Lib.hid (show w14.heap.size + 0 ≤ w15.heap.size by have := hb15.size; (try simp only [World.size_alloc] at this); omega)
          have Hb15 := Lib.hid (bthen (Hb14.out) hb15)
          clear hb15
          go_wp2
          go_ret
          exact ⟨rfl, Hb15.out⟩
        · obtain ⟨⟨h1, h2⟩, ⟨h3, h4⟩, h5⟩ := cand_law Hk.out
          have hab : max x (-x) ≤ vm := by omega
          have Hpa := Lib.hid (fun W => pAbs_any x W ⟨by omega, by omega⟩)
          generalize max x (-x) = y at hab Hpa
          have qbv_0 : w14.cell? ⟨w12.heap.size, 0, none⟩ = some (.int .i64 va) := bv.out.cell 0
          have qbv_1 : w14.cell? ⟨w12.heap.size, 1, none⟩ = some (.int .i64 vb) := bv.out.cell 1
          have qbv_2 : w14.cell? ⟨w12.heap.size, 2, none⟩ = some (.int .i64 vm) := bv.out.cell 2
          have qbv_3 : w14.cell? ⟨w12.heap.size, 3, none⟩ = some (.int .i64 vd) := bv.out.cell 3
          have qbv_4 : w14.cell? ⟨w12.heap.size, 4, none⟩ = some (.int .i64 vt) := bv.out.cell 4
          have qbv_5 : w14.cell? ⟨w12.heap.size, 5, none⟩ = some (.slice Cv fsv.length cv) := bv.out.cell 5
          have qbv_l := bv.out.lt
          go_wp2_with fail
          refine wp_region_tame (by kernel_rfl) (by kernel_rfl) (fun T _ W hT => ?_)
          have hx := hT.cell
          repeat (go_big_quiet_step ((first | (go_at_call 21; exact hT.call (Hpa.out _)))))
          refine wpQuiet_nil ?_
          intro tt
          clear hx
          have hb15 := hT.below tt
          generalize W tt = w15 at hb15 ⊢
          clear hT
          clear qbv_0 qbv_1 qbv_2 qbv_3 qbv_4 qbv_5 qbv_l
          replace Ov := Lib.hid (own_below Ov.out (hb15))
          replace bv := Lib.hid (bv.out.on (hb15))
          have sz15 := Lib.hid (show w14.heap.size + 0 ≤ w15.heap.size by have := hb15.size; (try simp only [World.size_alloc] at this); omega)
          have Hb15 := Lib.hid (bthen (Hb14.out) hb15)
          clear hb15
          go_wp2
          go_ret
          exact ⟨rfl, Hb15.out⟩
    · have hB9 := (tkG_parts hg).1
      have hq : x.tdiv 2 = x / 2 := Int.tdiv_eq_ediv_of_nonneg hn0
      have h1 := step_of hg hn0 hn1
      have h2 := step_of hg (n := x / 2) (by omega) (by omega)
      have h3 := step_two hg (k := x / 2) (n := x) (by omega) (by omega) hn1
      have h4 := step_end hg
      have h5 := rest_end (a := a) (b := b) (m := m9) (d := d9) hB9
      have h6 := tk_min hg hn0
      obtain ⟨T1, hT1⟩ : ∃ T, min (t + x) (totI m9 d9) = T := ⟨_, rfl⟩
      obtain ⟨LT1, hLT1⟩ : ∃ L, hitsZ a b m9 0 T1 = L := ⟨_, rfl⟩
      obtain ⟨T2, hT2⟩ : ∃ T, min (t + x / 2) (totI m9 d9) = T := ⟨_, rfl⟩
      obtain ⟨LT2, hLT2⟩ : ∃ L, hitsZ a b m9 0 T2 = L := ⟨_, rfl⟩
      obtain ⟨LE, hLE⟩ : ∃ L, hitsZ a b m9 0 (totI m9 d9) = L := ⟨_, rfl⟩
      rw [hT1, hLT1] at h1 h3 h6
      rw [hT2, hLT2] at h2 h3
      rw [hLE] at h4 h5
      have Hsi := Lib.hid (fun w => implSearch_any a b m9 d9 w hB9); have Hss := Lib.hid (fun w => specSearch_any a b m9 d9 w hB9)
      rw [hLE] at Hsi Hss
      clear hT1 hLT1 hT2 hLT2 hLE hg
      generalize totI m9 d9 = TE at h4 h5
      have H1 := Lib.hid h1; clear h1
      have H2 := Lib.hid h2; clear h2
      have H3 := Lib.hid h3; clear h3
      have H4 := Lib.hid h4; clear h4
      have H5 := Lib.hid h5; clear h5
      have H6 := Lib.hid h6; clear h6
      obtain ⟨q, hq2⟩ : ∃ q, x / 2 = q := ⟨_, rfl⟩
      have hqb : 0 ≤ q ∧ q ≤ x := by omega
      obtain ⟨hq0, hq1⟩ := hqb
      rw [hq2] at H2 H3 hq
      clear hq2
      go_wp2_with fail
      refine (implStepTask_any a b m9 d9 t _ fsf x _ ((Rd.of_own Of.out rfl).on (bal (Below.refl _ _) _))).mono ?_; rintro e w3 ⟨hr, hb3⟩; obtain ⟨Cs, cs, rfl, os⟩ := hr.at H1.out; clear hr
      have Os := Lib.hid os
      have GOs := Lib.hid (World.ownsRow.lt os)
      clear os
      replace Of := Lib.hid (own_below Of.out (bthen (bal (Below.refl _ _) _) hb3))
      have bf := Lib.hid ((Blk.new w2 28 #[.int .i64 a, .int .i64 b, .int .i64 m9, .int .i64 d9, .int .i64 t, .slice Cf fsf.length cf]).on hb3)
      have sz3 := Lib.hid (show w2.heap.size + 1 ≤ w3.heap.size by have := hb3.size; (try simp only [World.size_alloc] at this); omega)
      have Hb3 := Lib.hid (bthen (bal (Hb2.out) _) hb3)
      clear hb3
      have qbf_0 : w3.cell? ⟨w2.heap.size, 0, none⟩ = some (.int .i64 a) := bf.out.cell 0
      have qbf_1 : w3.cell? ⟨w2.heap.size, 1, none⟩ = some (.int .i64 b) := bf.out.cell 1
      have qbf_2 : w3.cell? ⟨w2.heap.size, 2, none⟩ = some (.int .i64 m9) := bf.out.cell 2
      have qbf_3 : w3.cell? ⟨w2.heap.size, 3, none⟩ = some (.int .i64 d9) := bf.out.cell 3
      have qbf_4 : w3.cell? ⟨w2.heap.size, 4, none⟩ = some (.int .i64 t) := bf.out.cell 4
      have qbf_5 : w3.cell? ⟨w2.heap.size, 5, none⟩ = some (.slice Cf fsf.length cf) := bf.out.cell 5
      have qbf_l := bf.out.lt
      go_wp2_with fail
      clear qbf_0 qbf_1 qbf_2 qbf_3 qbf_4 qbf_5 qbf_l
      refine (specStepTask_any a b m9 d9 t _ fsf x _ ((Rd.of_own Of.out rfl).on (bal (Below.refl _ _) _))).mono ?_; rintro e w4 ⟨hr, hb4⟩; obtain ⟨Cr, cr, rfl, or⟩ := hr.at H1.out; clear hr
      have Or := Lib.hid or
      have GOr := Lib.hid (World.ownsRow.lt or)
      clear or
      replace Of := Lib.hid (own_below Of.out (bthen (bal (Below.refl _ _) _) hb4))
      replace bf := Lib.hid (bf.out.on (bthen (bal (Below.refl _ _) _) hb4))
      replace Os := Lib.hid (own_below Os.out (bthen (bal (Below.refl _ _) _) hb4))
      have bs := Lib.hid ((Blk.new w3 28 #[.int .i64 a, .int .i64 b, .int .i64 m9, .int .i64 d9, .int .i64 T1, .slice Cs LT1.length cs]).on hb4)
      have sz4 := Lib.hid (show w3.heap.size + 1 ≤ w4.heap.size by have := hb4.size; (try simp only [World.size_alloc] at this); omega)
      have Hb4 := Lib.hid (bthen (bal (Hb3.out) _) hb4)
      clear hb4
      have hS : Rd ptS (w4.alloc (Obj.cells #[.int .i64 a, .int .i64 b, .int .i64 m9, .int .i64 d9, .int .i64 T1, .slice Cr LT1.length cr] 28)) (w4.alloc (Obj.cells #[.int .i64 a, .int .i64 b, .int .i64 m9, .int .i64 d9, .int .i64 T1, .slice Cr LT1.length cr] 28)).heap.size (.slice Cs LT1.length cs) LT1 := (Rd.of_own (S := ptS) Os.out rfl).on (bal (Below.refl _ _) _)
      have hR : Rd ptS (w4.alloc (Obj.cells #[.int .i64 a, .int .i64 b, .int .i64 m9, .int .i64 d9, .int .i64 T1, .slice Cr LT1.length cr] 28)) (w4.alloc (Obj.cells #[.int .i64 a, .int .i64 b, .int .i64 m9, .int .i64 d9, .int .i64 T1, .slice Cr LT1.length cr] 28)).heap.size (.slice Cr LT1.length cr) LT1 := (Rd.of_own (S := ptS) Or.out rfl).on (bal (Below.refl _ _) _)
      have hF : Rd ptS (w4.alloc (Obj.cells #[.int .i64 a, .int .i64 b, .int .i64 m9, .int .i64 d9, .int .i64 T1, .slice Cr LT1.length cr] 28)) (w4.alloc (Obj.cells #[.int .i64 a, .int .i64 b, .int .i64 m9, .int .i64 d9, .int .i64 T1, .slice Cr LT1.length cr] 28)).heap.size (.slice Cf fsf.length cf) fsf := (Rd.of_own (S := ptS) Of.out rfl).on (bal (Below.refl _ _) _)
      have qbf_0 : w4.cell? ⟨w2.heap.size, 0, none⟩ = some (.int .i64 a) := bf.out.cell 0
      have qbf_1 : w4.cell? ⟨w2.heap.size, 1, none⟩ = some (.int .i64 b) := bf.out.cell 1
      have qbf_2 : w4.cell? ⟨w2.heap.size, 2, none⟩ = some (.int .i64 m9) := bf.out.cell 2
      have qbf_3 : w4.cell? ⟨w2.heap.size, 3, none⟩ = some (.int .i64 d9) := bf.out.cell 3
      have qbf_4 : w4.cell? ⟨w2.heap.size, 4, none⟩ = some (.int .i64 t) := bf.out.cell 4
      have qbf_5 : w4.cell? ⟨w2.heap.size, 5, none⟩ = some (.slice Cf fsf.length cf) := bf.out.cell 5
      have qbf_l := bf.out.lt
      have qbs_0 : w4.cell? ⟨w3.heap.size, 0, none⟩ = some (.int .i64 a) := bs.out.cell 0
      have qbs_1 : w4.cell? ⟨w3.heap.size, 1, none⟩ = some (.int .i64 b) := bs.out.cell 1
      have qbs_2 : w4.cell? ⟨w3.heap.size, 2, none⟩ = some (.int .i64 m9) := bs.out.cell 2
      have qbs_3 : w4.cell? ⟨w3.heap.size, 3, none⟩ = some (.int .i64 d9) := bs.out.cell 3
      have qbs_4 : w4.cell? ⟨w3.heap.size, 4, none⟩ = some (.int .i64 T1) := bs.out.cell 4
      have qbs_5 : w4.cell? ⟨w3.heap.size, 5, none⟩ = some (.slice Cs LT1.length cs) := bs.out.cell 5
      have qbs_l := bs.out.lt
      go_wp2_with fail
      refine wp_region_tame (by kernel_rfl) (by kernel_rfl) (fun T _ W hT => ?_)
      have hx := hT.cell
      repeat (go_big_quiet_step ((first | (go_at_call 8; exact hT.call (qTk_same a b m9 d9 T1 _ _ LT1 _ (hS.on (hT.below _)) (hR.on (hT.below _)))) | (go_at_call 9; exact hT.call (implIsTk_is a b m9 d9 t _ fsf g0 _ Hg0.out (hF.on (hT.below _)))) | (go_at_call 10; exact hT.call (specIsTk_is a b m9 d9 t _ fsf g0 _ Hg0.out (hF.on (hT.below _)))))))
      refine wpQuiet_nil ?_
      intro tt
      clear hx
      have hb5 := hT.below tt
      generalize W tt = w5 at hb5 ⊢
      clear hT
      clear qbf_0 qbf_1 qbf_2 qbf_3 qbf_4 qbf_5 qbf_l qbs_0 qbs_1 qbs_2 qbs_3 qbs_4 qbs_5 qbs_l
      clear hS hR hF
      replace Of := Lib.hid (own_below Of.out (bthen (bal (Below.refl _ _) _) hb5))
      replace bf := Lib.hid (bf.out.on (bthen (bal (Below.refl _ _) _) hb5))
      replace Os := Lib.hid (own_below Os.out (bthen (bal (Below.refl _ _) _) hb5))
      replace bs := Lib.hid (bs.out.on (bthen (bal (Below.refl _ _) _) hb5))
      replace Or := Lib.hid (own_below Or.out (bthen (bal (Below.refl _ _) _) hb5))
      have br := Lib.hid ((Blk.new w4 28 #[.int .i64 a, .int .i64 b, .int .i64 m9, .int .i64 d9, .int .i64 T1, .slice Cr LT1.length cr]).on hb5)
      have sz5 := Lib.hid (show w4.heap.size + 1 ≤ w5.heap.size by have := hb5.size; (try simp only [World.size_alloc] at this); omega)
      have Hb5 := Lib.hid (bthen (bal (Hb4.out) _) hb5)
      clear hb5
      clear Hg0
      have qbf_0 : w5.cell? ⟨w2.heap.size, 0, none⟩ = some (.int .i64 a) := bf.out.cell 0
      have qbf_1 : w5.cell? ⟨w2.heap.size, 1, none⟩ = some (.int .i64 b) := bf.out.cell 1
      have qbf_2 : w5.cell? ⟨w2.heap.size, 2, none⟩ = some (.int .i64 m9) := bf.out.cell 2
      have qbf_3 : w5.cell? ⟨w2.heap.size, 3, none⟩ = some (.int .i64 d9) := bf.out.cell 3
      have qbf_4 : w5.cell? ⟨w2.heap.size, 4, none⟩ = some (.int .i64 t) := bf.out.cell 4
      have qbf_5 : w5.cell? ⟨w2.heap.size, 5, none⟩ = some (.slice Cf fsf.length cf) := bf.out.cell 5
      have qbf_l := bf.out.lt
      go_wp2_with fail
      clear qbf_0 qbf_1 qbf_2 qbf_3 qbf_4 qbf_5 qbf_l
      refine (implStepTask_any a b m9 d9 t _ fsf q _ (Rd.of_own Of.out rfl)).mono ?_; rintro e w6 ⟨hr, hb6⟩; obtain ⟨Ch, ch, rfl, oh⟩ := hr.at H2.out; clear hr
      have Oh := Lib.hid oh
      have GOh := Lib.hid (World.ownsRow.lt oh)
      clear oh
      replace Of := Lib.hid (own_below Of.out (hb6))
      replace bf := Lib.hid (bf.out.on (hb6))
      replace Os := Lib.hid (own_below Os.out (hb6))
      replace bs := Lib.hid (bs.out.on (hb6))
      replace Or := Lib.hid (own_below Or.out (hb6))
      replace br := Lib.hid (br.out.on (hb6))
      have sz6 := Lib.hid (show w5.heap.size + 0 ≤ w6.heap.size by have := hb6.size; (try simp only [World.size_alloc] at this); omega)
      have Hb6 := Lib.hid (bthen (Hb5.out) hb6)
      clear hb6
      have qbf_0 : w6.cell? ⟨w2.heap.size, 0, none⟩ = some (.int .i64 a) := bf.out.cell 0
      have qbf_1 : w6.cell? ⟨w2.heap.size, 1, none⟩ = some (.int .i64 b) := bf.out.cell 1
      have qbf_2 : w6.cell? ⟨w2.heap.size, 2, none⟩ = some (.int .i64 m9) := bf.out.cell 2
      have qbf_3 : w6.cell? ⟨w2.heap.size, 3, none⟩ = some (.int .i64 d9) := bf.out.cell 3
      have qbf_4 : w6.cell? ⟨w2.heap.size, 4, none⟩ = some (.int .i64 t) := bf.out.cell 4
      have qbf_5 : w6.cell? ⟨w2.heap.size, 5, none⟩ = some (.slice Cf fsf.length cf) := bf.out.cell 5
      have qbf_l := bf.out.lt
      go_wp2_with fail
      clear qbf_0 qbf_1 qbf_2 qbf_3 qbf_4 qbf_5 qbf_l
      refine (specStepTask_any a b m9 d9 t _ fsf q _ ((Rd.of_own Of.out rfl).on (bal (Below.refl _ _) _))).mono ?_; rintro e w7 ⟨hr, hb7⟩; obtain ⟨Ck, ck, rfl, ok⟩ := hr.at H2.out; clear hr
      have Ok := Lib.hid ok
      have GOk := Lib.hid (World.ownsRow.lt ok)
      clear ok
      replace Of := Lib.hid (own_below Of.out (bthen (bal (Below.refl _ _) _) hb7))
      replace bf := Lib.hid (bf.out.on (bthen (bal (Below.refl _ _) _) hb7))
      replace Os := Lib.hid (own_below Os.out (bthen (bal (Below.refl _ _) _) hb7))
      replace bs := Lib.hid (bs.out.on (bthen (bal (Below.refl _ _) _) hb7))
      replace Or := Lib.hid (own_below Or.out (bthen (bal (Below.refl _ _) _) hb7))
      replace br := Lib.hid (br.out.on (bthen (bal (Below.refl _ _) _) hb7))
      replace Oh := Lib.hid (own_below Oh.out (bthen (bal (Below.refl _ _) _) hb7))
      have bh := Lib.hid ((Blk.new w6 28 #[.int .i64 a, .int .i64 b, .int .i64 m9, .int .i64 d9, .int .i64 T2, .slice Ch LT2.length ch]).on hb7)
      have sz7 := Lib.hid (show w6.heap.size + 1 ≤ w7.heap.size by have := hb7.size; (try simp only [World.size_alloc] at this); omega)
      have Hb7 := Lib.hid (bthen (bal (Hb6.out) _) hb7)
      clear hb7
      have qbh_0 : w7.cell? ⟨w6.heap.size, 0, none⟩ = some (.int .i64 a) := bh.out.cell 0
      have qbh_1 : w7.cell? ⟨w6.heap.size, 1, none⟩ = some (.int .i64 b) := bh.out.cell 1
      have qbh_2 : w7.cell? ⟨w6.heap.size, 2, none⟩ = some (.int .i64 m9) := bh.out.cell 2
      have qbh_3 : w7.cell? ⟨w6.heap.size, 3, none⟩ = some (.int .i64 d9) := bh.out.cell 3
      have qbh_4 : w7.cell? ⟨w6.heap.size, 4, none⟩ = some (.int .i64 T2) := bh.out.cell 4
      have qbh_5 : w7.cell? ⟨w6.heap.size, 5, none⟩ = some (.slice Ch LT2.length ch) := bh.out.cell 5
      have qbh_l := bh.out.lt
      go_wp2_with fail
      clear qbh_0 qbh_1 qbh_2 qbh_3 qbh_4 qbh_5 qbh_l
      refine (implStepTask_any a b m9 d9 T2 _ LT2 (x - q) _ ((Rd.of_own Oh.out rfl).on (bal (Below.refl _ _) _))).mono ?_; rintro e w8 ⟨hr, hb8⟩; obtain ⟨Cl, cl, rfl, ol⟩ := hr.at H3.out; clear hr
      have Ol := Lib.hid ol
      have GOl := Lib.hid (World.ownsRow.lt ol)
      clear ol
      replace Of := Lib.hid (own_below Of.out (bthen (bal (Below.refl _ _) _) hb8))
      replace bf := Lib.hid (bf.out.on (bthen (bal (Below.refl _ _) _) hb8))
      replace Os := Lib.hid (own_below Os.out (bthen (bal (Below.refl _ _) _) hb8))
      replace bs := Lib.hid (bs.out.on (bthen (bal (Below.refl _ _) _) hb8))
      replace Or := Lib.hid (own_below Or.out (bthen (bal (Below.refl _ _) _) hb8))
      replace br := Lib.hid (br.out.on (bthen (bal (Below.refl _ _) _) hb8))
      replace Oh := Lib.hid (own_below Oh.out (bthen (bal (Below.refl _ _) _) hb8))
      replace bh := Lib.hid (bh.out.on (bthen (bal (Below.refl _ _) _) hb8))
      replace Ok := Lib.hid (own_below Ok.out (bthen (bal (Below.refl _ _) _) hb8))
      have bk := Lib.hid ((Blk.new w7 28 #[.int .i64 a, .int .i64 b, .int .i64 m9, .int .i64 d9, .int .i64 T2, .slice Ck LT2.length ck]).on hb8)
      have sz8 := Lib.hid (show w7.heap.size + 1 ≤ w8.heap.size by have := hb8.size; (try simp only [World.size_alloc] at this); omega)
      have Hb8 := Lib.hid (bthen (bal (Hb7.out) _) hb8)
      clear hb8
      have qbh_0 : w8.cell? ⟨w6.heap.size, 0, none⟩ = some (.int .i64 a) := bh.out.cell 0
      have qbh_1 : w8.cell? ⟨w6.heap.size, 1, none⟩ = some (.int .i64 b) := bh.out.cell 1
      have qbh_2 : w8.cell? ⟨w6.heap.size, 2, none⟩ = some (.int .i64 m9) := bh.out.cell 2
      have qbh_3 : w8.cell? ⟨w6.heap.size, 3, none⟩ = some (.int .i64 d9) := bh.out.cell 3
      have qbh_4 : w8.cell? ⟨w6.heap.size, 4, none⟩ = some (.int .i64 T2) := bh.out.cell 4
      have qbh_5 : w8.cell? ⟨w6.heap.size, 5, none⟩ = some (.slice Ch LT2.length ch) := bh.out.cell 5
      have qbh_l := bh.out.lt
      have qbk_0 : w8.cell? ⟨w7.heap.size, 0, none⟩ = some (.int .i64 a) := bk.out.cell 0
      have qbk_1 : w8.cell? ⟨w7.heap.size, 1, none⟩ = some (.int .i64 b) := bk.out.cell 1
      have qbk_2 : w8.cell? ⟨w7.heap.size, 2, none⟩ = some (.int .i64 m9) := bk.out.cell 2
      have qbk_3 : w8.cell? ⟨w7.heap.size, 3, none⟩ = some (.int .i64 d9) := bk.out.cell 3
      have qbk_4 : w8.cell? ⟨w7.heap.size, 4, none⟩ = some (.int .i64 T2) := bk.out.cell 4
      have qbk_5 : w8.cell? ⟨w7.heap.size, 5, none⟩ = some (.slice Ck LT2.length ck) := bk.out.cell 5
      have qbk_l := bk.out.lt
      go_wp2_with fail
      clear qbh_0 qbh_1 qbh_2 qbh_3 qbh_4 qbh_5 qbh_l qbk_0 qbk_1 qbk_2 qbk_3 qbk_4 qbk_5 qbk_l
      refine (qTk_same a b m9 d9 T2 _ _ LT2 _ ((Rd.of_own Oh.out rfl).on (bal (Below.refl _ _) _)) ((Rd.of_own Ok.out rfl).on (bal (Below.refl _ _) _))).mono ?_; rintro e w9 ⟨rfl, hb9⟩
      replace Of := Lib.hid (own_below Of.out (bthen (bal (Below.refl _ _) _) hb9))
      replace bf := Lib.hid (bf.out.on (bthen (bal (Below.refl _ _) _) hb9))
      replace Os := Lib.hid (own_below Os.out (bthen (bal (Below.refl _ _) _) hb9))
      replace bs := Lib.hid (bs.out.on (bthen (bal (Below.refl _ _) _) hb9))
      replace Or := Lib.hid (own_below Or.out (bthen (bal (Below.refl _ _) _) hb9))
      replace br := Lib.hid (br.out.on (bthen (bal (Below.refl _ _) _) hb9))
      replace Oh := Lib.hid (own_below Oh.out (bthen (bal (Below.refl _ _) _) hb9))
      replace bh := Lib.hid (bh.out.on (bthen (bal (Below.refl _ _) _) hb9))
      replace Ok := Lib.hid (own_below Ok.out (bthen (bal (Below.refl _ _) _) hb9))
      replace bk := Lib.hid (bk.out.on (bthen (bal (Below.refl _ _) _) hb9))
      replace Ol := Lib.hid (own_below Ol.out (bthen (bal (Below.refl _ _) _) hb9))
      have bl := Lib.hid ((Blk.new w8 28 #[.int .i64 a, .int .i64 b, .int .i64 m9, .int .i64 d9, .int .i64 T1, .slice Cl LT1.length cl]).on hb9)
      have sz9 := Lib.hid (show w8.heap.size + 1 ≤ w9.heap.size by have := hb9.size; (try simp only [World.size_alloc] at this); omega)
      have Hb9 := Lib.hid (bthen (bal (Hb8.out) _) hb9)
      clear hb9
      have qbl_0 : w9.cell? ⟨w8.heap.size, 0, none⟩ = some (.int .i64 a) := bl.out.cell 0
      have qbl_1 : w9.cell? ⟨w8.heap.size, 1, none⟩ = some (.int .i64 b) := bl.out.cell 1
      have qbl_2 : w9.cell? ⟨w8.heap.size, 2, none⟩ = some (.int .i64 m9) := bl.out.cell 2
      have qbl_3 : w9.cell? ⟨w8.heap.size, 3, none⟩ = some (.int .i64 d9) := bl.out.cell 3
      have qbl_4 : w9.cell? ⟨w8.heap.size, 4, none⟩ = some (.int .i64 T1) := bl.out.cell 4
      have qbl_5 : w9.cell? ⟨w8.heap.size, 5, none⟩ = some (.slice Cl LT1.length cl) := bl.out.cell 5
      have qbl_l := bl.out.lt
      have qbr_0 : w9.cell? ⟨w4.heap.size, 0, none⟩ = some (.int .i64 a) := br.out.cell 0
      have qbr_1 : w9.cell? ⟨w4.heap.size, 1, none⟩ = some (.int .i64 b) := br.out.cell 1
      have qbr_2 : w9.cell? ⟨w4.heap.size, 2, none⟩ = some (.int .i64 m9) := br.out.cell 2
      have qbr_3 : w9.cell? ⟨w4.heap.size, 3, none⟩ = some (.int .i64 d9) := br.out.cell 3
      have qbr_4 : w9.cell? ⟨w4.heap.size, 4, none⟩ = some (.int .i64 T1) := br.out.cell 4
      have qbr_5 : w9.cell? ⟨w4.heap.size, 5, none⟩ = some (.slice Cr LT1.length cr) := br.out.cell 5
      have qbr_l := br.out.lt
      go_wp2_with fail
      clear qbl_0 qbl_1 qbl_2 qbl_3 qbl_4 qbl_5 qbl_l qbr_0 qbr_1 qbr_2 qbr_3 qbr_4 qbr_5 qbr_l
      refine (qTk_same a b m9 d9 T1 _ _ LT1 _ (Rd.of_own Ol.out rfl) (Rd.of_own Or.out rfl)).mono ?_; rintro e w10 ⟨rfl, hb10⟩
      replace Of := Lib.hid (own_below Of.out (hb10))
      replace bf := Lib.hid (bf.out.on (hb10))
      replace Os := Lib.hid (own_below Os.out (hb10))
      replace bs := Lib.hid (bs.out.on (hb10))
      replace Or := Lib.hid (own_below Or.out (hb10))
      replace br := Lib.hid (br.out.on (hb10))
      replace Oh := Lib.hid (own_below Oh.out (hb10))
      replace bh := Lib.hid (bh.out.on (hb10))
      replace Ok := Lib.hid (own_below Ok.out (hb10))
      replace bk := Lib.hid (bk.out.on (hb10))
      replace Ol := Lib.hid (own_below Ol.out (hb10))
      replace bl := Lib.hid (bl.out.on (hb10))
      have sz10 := Lib.hid (show w9.heap.size + 0 ≤ w10.heap.size by have := hb10.size; (try simp only [World.size_alloc] at this); omega)
      have Hb10 := Lib.hid (bthen (Hb9.out) hb10)
      clear hb10
      have qbs_0 : w10.cell? ⟨w3.heap.size, 0, none⟩ = some (.int .i64 a) := bs.out.cell 0
      have qbs_1 : w10.cell? ⟨w3.heap.size, 1, none⟩ = some (.int .i64 b) := bs.out.cell 1
      have qbs_2 : w10.cell? ⟨w3.heap.size, 2, none⟩ = some (.int .i64 m9) := bs.out.cell 2
      have qbs_3 : w10.cell? ⟨w3.heap.size, 3, none⟩ = some (.int .i64 d9) := bs.out.cell 3
      have qbs_4 : w10.cell? ⟨w3.heap.size, 4, none⟩ = some (.int .i64 T1) := bs.out.cell 4
      have qbs_5 : w10.cell? ⟨w3.heap.size, 5, none⟩ = some (.slice Cs LT1.length cs) := bs.out.cell 5
      have qbs_l := bs.out.lt
      go_wp2_with fail
      clear qbs_0 qbs_1 qbs_2 qbs_3 qbs_4 qbs_5 qbs_l
      refine (implIsTk_is a b m9 d9 T1 _ LT1 true _ H6.out (Rd.of_own Os.out rfl)).mono ?_; rintro e w11 ⟨rfl, hb11⟩
      replace Of := Lib.hid (own_below Of.out (hb11))
      replace bf := Lib.hid (bf.out.on (hb11))
      replace Os := Lib.hid (own_below Os.out (hb11))
      replace bs := Lib.hid (bs.out.on (hb11))
      replace Or := Lib.hid (own_below Or.out (hb11))
      replace br := Lib.hid (br.out.on (hb11))
      replace Oh := Lib.hid (own_below Oh.out (hb11))
      replace bh := Lib.hid (bh.out.on (hb11))
      replace Ok := Lib.hid (own_below Ok.out (hb11))
      replace bk := Lib.hid (bk.out.on (hb11))
      replace Ol := Lib.hid (own_below Ol.out (hb11))
      replace bl := Lib.hid (bl.out.on (hb11))
      have sz11 := Lib.hid (show w10.heap.size + 0 ≤ w11.heap.size by have := hb11.size; (try simp only [World.size_alloc] at this); omega)
      have Hb11 := Lib.hid (bthen (Hb10.out) hb11)
      clear hb11
      clear bh
      clear bk
      clear bl
      clear br
      clear bs
      clear Oh
      clear Ok
      clear Ol
      clear Or
      clear Os
      clear H1 H2 H3 H6
      have qbf_0 : w11.cell? ⟨w2.heap.size, 0, none⟩ = some (.int .i64 a) := bf.out.cell 0
      have qbf_1 : w11.cell? ⟨w2.heap.size, 1, none⟩ = some (.int .i64 b) := bf.out.cell 1
      have qbf_2 : w11.cell? ⟨w2.heap.size, 2, none⟩ = some (.int .i64 m9) := bf.out.cell 2
      have qbf_3 : w11.cell? ⟨w2.heap.size, 3, none⟩ = some (.int .i64 d9) := bf.out.cell 3
      have qbf_4 : w11.cell? ⟨w2.heap.size, 4, none⟩ = some (.int .i64 t) := bf.out.cell 4
      have qbf_5 : w11.cell? ⟨w2.heap.size, 5, none⟩ = some (.slice Cf fsf.length cf) := bf.out.cell 5
      have qbf_l := bf.out.lt
      go_wp2_with fail
      clear qbf_0 qbf_1 qbf_2 qbf_3 qbf_4 qbf_5 qbf_l
      refine (implStepTask_any a b m9 d9 t _ fsf 5000 _ (Rd.of_own Of.out rfl)).mono ?_; rintro e w12 ⟨hr, hb12⟩; obtain ⟨Cy, cy, rfl, oy⟩ := hr.at H4.out; clear hr
      have Oy := Lib.hid oy
      have GOy := Lib.hid (World.ownsRow.lt oy)
      clear oy
      replace Of := Lib.hid (own_below Of.out (hb12))
      replace bf := Lib.hid (bf.out.on (hb12))
      have sz12 := Lib.hid (show w11.heap.size + 0 ≤ w12.heap.size by have := hb12.size; (try simp only [World.size_alloc] at this); omega)
      have Hb12 := Lib.hid (bthen (Hb11.out) hb12)
      clear hb12
      have qbf_0 : w12.cell? ⟨w2.heap.size, 0, none⟩ = some (.int .i64 a) := bf.out.cell 0
      have qbf_1 : w12.cell? ⟨w2.heap.size, 1, none⟩ = some (.int .i64 b) := bf.out.cell 1
      have qbf_2 : w12.cell? ⟨w2.heap.size, 2, none⟩ = some (.int .i64 m9) := bf.out.cell 2
      have qbf_3 : w12.cell? ⟨w2.heap.size, 3, none⟩ = some (.int .i64 d9) := bf.out.cell 3
      have qbf_4 : w12.cell? ⟨w2.heap.size, 4, none⟩ = some (.int .i64 t) := bf.out.cell 4
      have qbf_5 : w12.cell? ⟨w2.heap.size, 5, none⟩ = some (.slice Cf fsf.length cf) := bf.out.cell 5
      have qbf_l := bf.out.lt
      go_wp2_with fail
      clear qbf_0 qbf_1 qbf_2 qbf_3 qbf_4 qbf_5 qbf_l
      refine (specStepTask_any a b m9 d9 t _ fsf 5000 _ ((Rd.of_own Of.out rfl).on (bal (Below.refl _ _) _))).mono ?_; rintro e w13 ⟨hr, hb13⟩; obtain ⟨Cz, cz, rfl, oz⟩ := hr.at H4.out; clear hr
      have Oz := Lib.hid oz
      have GOz := Lib.hid (World.ownsRow.lt oz)
      clear oz
      replace Of := Lib.hid (own_below Of.out (bthen (bal (Below.refl _ _) _) hb13))
      replace bf := Lib.hid (bf.out.on (bthen (bal (Below.refl _ _) _) hb13))
      replace Oy := Lib.hid (own_below Oy.out (bthen (bal (Below.refl _ _) _) hb13))
      have bY := Lib.hid ((Blk.new w12 28 #[.int .i64 a, .int .i64 b, .int .i64 m9, .int .i64 d9, .int .i64 TE, .slice Cy LE.length cy]).on hb13)
      have sz13 := Lib.hid (show w12.heap.size + 1 ≤ w13.heap.size by have := hb13.size; (try simp only [World.size_alloc] at this); omega)
      have Hb13 := Lib.hid (bthen (bal (Hb12.out) _) hb13)
      clear hb13
      have qbY_0 : w13.cell? ⟨w12.heap.size, 0, none⟩ = some (.int .i64 a) := bY.out.cell 0
      have qbY_1 : w13.cell? ⟨w12.heap.size, 1, none⟩ = some (.int .i64 b) := bY.out.cell 1
      have qbY_2 : w13.cell? ⟨w12.heap.size, 2, none⟩ = some (.int .i64 m9) := bY.out.cell 2
      have qbY_3 : w13.cell? ⟨w12.heap.size, 3, none⟩ = some (.int .i64 d9) := bY.out.cell 3
      have qbY_4 : w13.cell? ⟨w12.heap.size, 4, none⟩ = some (.int .i64 TE) := bY.out.cell 4
      have qbY_5 : w13.cell? ⟨w12.heap.size, 5, none⟩ = some (.slice Cy LE.length cy) := bY.out.cell 5
      have qbY_l := bY.out.lt
      go_wp2_with fail
      clear qbY_0 qbY_1 qbY_2 qbY_3 qbY_4 qbY_5 qbY_l
      refine (implRest_is a b m9 d9 TE _ LE 0 true _ H5.out ((Rd.of_own Oy.out rfl).on (bal (Below.refl _ _) _))).mono ?_; rintro e w14 ⟨rfl, hb14⟩
      replace Of := Lib.hid (own_below Of.out (bthen (bal (Below.refl _ _) _) hb14))
      replace bf := Lib.hid (bf.out.on (bthen (bal (Below.refl _ _) _) hb14))
      replace Oy := Lib.hid (own_below Oy.out (bthen (bal (Below.refl _ _) _) hb14))
      replace bY := Lib.hid (bY.out.on (bthen (bal (Below.refl _ _) _) hb14))
      replace Oz := Lib.hid (own_below Oz.out (bthen (bal (Below.refl _ _) _) hb14))
      have bz := Lib.hid ((Blk.new w13 28 #[.int .i64 a, .int .i64 b, .int .i64 m9, .int .i64 d9, .int .i64 TE, .slice Cz LE.length cz]).on hb14)
      have sz14 := Lib.hid (show w13.heap.size + 1 ≤ w14.heap.size by have := hb14.size; (try simp only [World.size_alloc] at this); omega)
      have Hb14 := Lib.hid (bthen (bal (Hb13.out) _) hb14)
      clear hb14
      have qbf_0 : w14.cell? ⟨w2.heap.size, 0, none⟩ = some (.int .i64 a) := bf.out.cell 0
      have qbf_1 : w14.cell? ⟨w2.heap.size, 1, none⟩ = some (.int .i64 b) := bf.out.cell 1
      have qbf_2 : w14.cell? ⟨w2.heap.size, 2, none⟩ = some (.int .i64 m9) := bf.out.cell 2
      have qbf_3 : w14.cell? ⟨w2.heap.size, 3, none⟩ = some (.int .i64 d9) := bf.out.cell 3
      have qbf_4 : w14.cell? ⟨w2.heap.size, 4, none⟩ = some (.int .i64 t) := bf.out.cell 4
      have qbf_5 : w14.cell? ⟨w2.heap.size, 5, none⟩ = some (.slice Cf fsf.length cf) := bf.out.cell 5
      have qbf_l := bf.out.lt
      go_wp2_with fail
      clear qbf_0 qbf_1 qbf_2 qbf_3 qbf_4 qbf_5 qbf_l
      refine (Hsi.out _).mono ?_; rintro e w15 ⟨⟨vp, rfl, op⟩, hb15⟩
      have OP := Lib.hid op
      have GOP := Lib.hid (World.ownsRow.lt op)
      clear op
      replace Of := Lib.hid (own_below Of.out (hb15))
      replace bf := Lib.hid (bf.out.on (hb15))
      replace Oy := Lib.hid (own_below Oy.out (hb15))
      replace bY := Lib.hid (bY.out.on (hb15))
      replace Oz := Lib.hid (own_below Oz.out (hb15))
      replace bz := Lib.hid (bz.out.on (hb15))
      have sz15 := Lib.hid (show w14.heap.size + 0 ≤ w15.heap.size by have := hb15.size; (try simp only [World.size_alloc] at this); omega)
      have Hb15 := Lib.hid (bthen (Hb14.out) hb15)
      clear hb15
      have qbf_0 : w15.cell? ⟨w2.heap.size, 0, none⟩ = some (.int .i64 a) := bf.out.cell 0
      have qbf_1 : w15.cell? ⟨w2.heap.size, 1, none⟩ = some (.int .i64 b) := bf.out.cell 1
      have qbf_2 : w15.cell? ⟨w2.heap.size, 2, none⟩ = some (.int .i64 m9) := bf.out.cell 2
      have qbf_3 : w15.cell? ⟨w2.heap.size, 3, none⟩ = some (.int .i64 d9) := bf.out.cell 3
      have qbf_4 : w15.cell? ⟨w2.heap.size, 4, none⟩ = some (.int .i64 t) := bf.out.cell 4
      have qbf_5 : w15.cell? ⟨w2.heap.size, 5, none⟩ = some (.slice Cf fsf.length cf) := bf.out.cell 5
      have qbf_l := bf.out.lt
      go_wp2_with fail
      clear qbf_0 qbf_1 qbf_2 qbf_3 qbf_4 qbf_5 qbf_l
      refine (Hss.out _).mono ?_; rintro e w16 ⟨⟨vq, rfl, oq⟩, hb16⟩
      have OQ := Lib.hid oq
      have GOQ := Lib.hid (World.ownsRow.lt oq)
      clear oq
      replace Of := Lib.hid (own_below Of.out (hb16))
      replace bf := Lib.hid (bf.out.on (hb16))
      replace Oy := Lib.hid (own_below Oy.out (hb16))
      replace bY := Lib.hid (bY.out.on (hb16))
      replace Oz := Lib.hid (own_below Oz.out (hb16))
      replace bz := Lib.hid (bz.out.on (hb16))
      replace OP := Lib.hid (own_below OP.out (hb16))
      have sz16 := Lib.hid (show w15.heap.size + 0 ≤ w16.heap.size by have := hb16.size; (try simp only [World.size_alloc] at this); omega)
      have Hb16 := Lib.hid (bthen (Hb15.out) hb16)
      clear hb16
      have qbY_0 : w16.cell? ⟨w12.heap.size, 0, none⟩ = some (.int .i64 a) := bY.out.cell 0
      have qbY_1 : w16.cell? ⟨w12.heap.size, 1, none⟩ = some (.int .i64 b) := bY.out.cell 1
      have qbY_2 : w16.cell? ⟨w12.heap.size, 2, none⟩ = some (.int .i64 m9) := bY.out.cell 2
      have qbY_3 : w16.cell? ⟨w12.heap.size, 3, none⟩ = some (.int .i64 d9) := bY.out.cell 3
      have qbY_4 : w16.cell? ⟨w12.heap.size, 4, none⟩ = some (.int .i64 TE) := bY.out.cell 4
      have qbY_5 : w16.cell? ⟨w12.heap.size, 5, none⟩ = some (.slice Cy LE.length cy) := bY.out.cell 5
      have qbY_l := bY.out.lt
      have qbz_0 : w16.cell? ⟨w13.heap.size, 0, none⟩ = some (.int .i64 a) := bz.out.cell 0
      have qbz_1 : w16.cell? ⟨w13.heap.size, 1, none⟩ = some (.int .i64 b) := bz.out.cell 1
      have qbz_2 : w16.cell? ⟨w13.heap.size, 2, none⟩ = some (.int .i64 m9) := bz.out.cell 2
      have qbz_3 : w16.cell? ⟨w13.heap.size, 3, none⟩ = some (.int .i64 d9) := bz.out.cell 3
      have qbz_4 : w16.cell? ⟨w13.heap.size, 4, none⟩ = some (.int .i64 TE) := bz.out.cell 4
      have qbz_5 : w16.cell? ⟨w13.heap.size, 5, none⟩ = some (.slice Cz LE.length cz) := bz.out.cell 5
      have qbz_l := bz.out.lt
      go_wp2_with fail
      clear qbY_0 qbY_1 qbY_2 qbY_3 qbY_4 qbY_5 qbY_l qbz_0 qbz_1 qbz_2 qbz_3 qbz_4 qbz_5 qbz_l
      refine (qTk_same a b m9 d9 TE _ _ LE _ (Rd.of_own Oy.out rfl) (Rd.of_own Oz.out rfl)).mono ?_; rintro e w17 ⟨rfl, hb17⟩
      replace Of := Lib.hid (own_below Of.out (hb17))
      replace bf := Lib.hid (bf.out.on (hb17))
      replace Oy := Lib.hid (own_below Oy.out (hb17))
      replace bY := Lib.hid (bY.out.on (hb17))
      replace Oz := Lib.hid (own_below Oz.out (hb17))
      replace bz := Lib.hid (bz.out.on (hb17))
      replace OP := Lib.hid (own_below OP.out (hb17))
      replace OQ := Lib.hid (own_below OQ.out (hb17))
      have sz17 := Lib.hid (show w16.heap.size + 0 ≤ w17.heap.size by have := hb17.size; (try simp only [World.size_alloc] at this); omega)
      have Hb17 := Lib.hid (bthen (Hb16.out) hb17)
      clear hb17
      have qbz_0 : w17.cell? ⟨w13.heap.size, 0, none⟩ = some (.int .i64 a) := bz.out.cell 0
      have qbz_1 : w17.cell? ⟨w13.heap.size, 1, none⟩ = some (.int .i64 b) := bz.out.cell 1
      have qbz_2 : w17.cell? ⟨w13.heap.size, 2, none⟩ = some (.int .i64 m9) := bz.out.cell 2
      have qbz_3 : w17.cell? ⟨w13.heap.size, 3, none⟩ = some (.int .i64 d9) := bz.out.cell 3
      have qbz_4 : w17.cell? ⟨w13.heap.size, 4, none⟩ = some (.int .i64 TE) := bz.out.cell 4
      have qbz_5 : w17.cell? ⟨w13.heap.size, 5, none⟩ = some (.slice Cz LE.length cz) := bz.out.cell 5
      have qbz_l := bz.out.lt
      go_wp2_with fail
      clear qbz_0 qbz_1 qbz_2 qbz_3 qbz_4 qbz_5 qbz_l
      refine (qPt_same _ _ LE _ (Rd.of_own OP.out rfl) (Rd.of_own OQ.out rfl)).mono ?_; rintro e w18 ⟨rfl, hb18⟩
      replace Of := Lib.hid (own_below Of.out (hb18))
      replace bf := Lib.hid (bf.out.on (hb18))
      replace Oy := Lib.hid (own_below Oy.out (hb18))
      replace bY := Lib.hid (bY.out.on (hb18))
      replace Oz := Lib.hid (own_below Oz.out (hb18))
      replace bz := Lib.hid (bz.out.on (hb18))
      replace OP := Lib.hid (own_below OP.out (hb18))
      replace OQ := Lib.hid (own_below OQ.out (hb18))
      have sz18 := Lib.hid (show w17.heap.size + 0 ≤ w18.heap.size by have := hb18.size; (try simp only [World.size_alloc] at this); omega)
      have Hb18 := Lib.hid (bthen (Hb17.out) hb18)
      clear hb18
      have qbz_0 : w18.cell? ⟨w13.heap.size, 0, none⟩ = some (.int .i64 a) := bz.out.cell 0
      have qbz_1 : w18.cell? ⟨w13.heap.size, 1, none⟩ = some (.int .i64 b) := bz.out.cell 1
      have qbz_2 : w18.cell? ⟨w13.heap.size, 2, none⟩ = some (.int .i64 m9) := bz.out.cell 2
      have qbz_3 : w18.cell? ⟨w13.heap.size, 3, none⟩ = some (.int .i64 d9) := bz.out.cell 3
      have qbz_4 : w18.cell? ⟨w13.heap.size, 4, none⟩ = some (.int .i64 TE) := bz.out.cell 4
      have qbz_5 : w18.cell? ⟨w13.heap.size, 5, none⟩ = some (.slice Cz LE.length cz) := bz.out.cell 5
      have qbz_l := bz.out.lt
      go_wp2_with fail
      clear qbz_0 qbz_1 qbz_2 qbz_3 qbz_4 qbz_5 qbz_l
      refine (qPt_same _ _ LE _ (Rd.of_own Oz.out rfl) (Rd.of_own OQ.out rfl)).mono ?_; rintro e w19 ⟨rfl, hb19⟩
      replace Of := Lib.hid (own_below Of.out (hb19))
      replace bf := Lib.hid (bf.out.on (hb19))
      replace Oy := Lib.hid (own_below Oy.out (hb19))
      replace bY := Lib.hid (bY.out.on (hb19))
      replace Oz := Lib.hid (own_below Oz.out (hb19))
      replace bz := Lib.hid (bz.out.on (hb19))
      replace OP := Lib.hid (own_below OP.out (hb19))
      replace OQ := Lib.hid (own_below OQ.out (hb19))
      have sz19 := Lib.hid (show w18.heap.size + 0 ≤ w19.heap.size by have := hb19.size; (try simp only [World.size_alloc] at this); omega)
      have Hb19 := Lib.hid (bthen (Hb18.out) hb19)
      clear hb19
      clear bf
      clear bY
      clear bz
      clear Of
      clear Oy
      clear Oz
      clear OP
      clear OQ
      clear H4 H5 Hsi Hss hq hq0 hq1 hn0 hn1 hB9
      clear sz1 GOf Hb1 sz2 GOs Hb2 sz3 GOr Hb3 sz4 Hb4 sz5 GOh Hb5 sz6 GOk Hb6 sz7 GOl Hb7 sz8 Hb8 sz9 Hb9 sz10 Hb10 sz11 GOy Hb11 sz12 GOz Hb12 sz13 Hb13 sz14 GOP Hb14 sz15 GOQ Hb15 sz16 Hb16 sz17 Hb17 sz18 Hb18 sz19
      go_wp2_with fail
      refine (drawCrash_any B m d _ (Hb.out.on (Hb19.out))).mono ?_; rintro e w20 ⟨⟨ua, ub, um, ud, ut, vu, nvu, x, hnvu, rfl, hvu, hxu⟩, hb20⟩
      obtain ⟨fsu, -, ou⟩ := hvu.pt
      obtain ⟨Cu, cu, rfl⟩ := own_formS ou
      clear hnvu hvu
      have Ou := Lib.hid ou
      have GOu := Lib.hid (World.ownsRow.lt ou)
      clear ou
      have sz20 := Lib.hid (show w19.heap.size + 0 ≤ w20.heap.size by have := hb20.size; (try simp only [World.size_alloc] at this); omega)
      have Hb20 := Lib.hid (bthen (Hb19.out) hb20)
      clear hb20
      obtain ⟨hx0, hx1⟩ := hxu
      rcases crash_or ua ub um ud ut fsu x with hz | ⟨T, L, hT9⟩
      · unfold zeroT at hz
        have Hz := Lib.hid hz; clear hz
        go_wp2_with fail
        refine (implCrashTask_any ua ub um ud ut _ fsu x _ ((Rd.of_own Ou.out rfl).on (bal (Below.refl _ _) _))).mono ?_; rintro e w21 ⟨hr, hb21⟩; obtain ⟨Cci, cci, rfl, oci⟩ := hr.at Hz.out; clear hr
        have Oci := Lib.hid oci
        have GOci := Lib.hid (World.ownsRow.lt oci)
        clear oci
        replace Ou := Lib.hid (own_below Ou.out (bthen (bal (Below.refl _ _) _) hb21))
        have bu := Lib.hid ((Blk.new w20 28 #[.int .i64 ua, .int .i64 ub, .int .i64 um, .int .i64 ud, .int .i64 ut, .slice Cu fsu.length cu]).on hb21)
        have sz21 := Lib.hid (show w20.heap.size + 1 ≤ w21.heap.size by have := hb21.size; (try simp only [World.size_alloc] at this); omega)
        have Hb21 := Lib.hid (bthen (bal (Hb20.out) _) hb21)
        clear hb21
        have qbu_0 : w21.cell? ⟨w20.heap.size, 0, none⟩ = some (.int .i64 ua) := bu.out.cell 0
        have qbu_1 : w21.cell? ⟨w20.heap.size, 1, none⟩ = some (.int .i64 ub) := bu.out.cell 1
        have qbu_2 : w21.cell? ⟨w20.heap.size, 2, none⟩ = some (.int .i64 um) := bu.out.cell 2
        have qbu_3 : w21.cell? ⟨w20.heap.size, 3, none⟩ = some (.int .i64 ud) := bu.out.cell 3
        have qbu_4 : w21.cell? ⟨w20.heap.size, 4, none⟩ = some (.int .i64 ut) := bu.out.cell 4
        have qbu_5 : w21.cell? ⟨w20.heap.size, 5, none⟩ = some (.slice Cu fsu.length cu) := bu.out.cell 5
        have qbu_l := bu.out.lt
        go_wp2_with fail
        clear qbu_0 qbu_1 qbu_2 qbu_3 qbu_4 qbu_5 qbu_l
        refine (specCrashTask_any ua ub um ud ut _ fsu x _ ((Rd.of_own Ou.out rfl).on (bal (Below.refl _ _) _))).mono ?_; rintro e w22 ⟨hr, hb22⟩; obtain ⟨Ccs, ccs, rfl, ocs⟩ := hr.at Hz.out; clear hr
        have Ocs := Lib.hid ocs
        have GOcs := Lib.hid (World.ownsRow.lt ocs)
        clear ocs
        replace Ou := Lib.hid (own_below Ou.out (bthen (bal (Below.refl _ _) _) hb22))
        replace bu := Lib.hid (bu.out.on (bthen (bal (Below.refl _ _) _) hb22))
        replace Oci := Lib.hid (own_below Oci.out (bthen (bal (Below.refl _ _) _) hb22))
        have bc := Lib.hid ((Blk.new w21 28 #[.int .i64 0, .int .i64 0, .int .i64 0, .int .i64 0, .int .i64 0, .slice Cci (([] : List Pt)).length cci]).on hb22)
        have sz22 := Lib.hid (show w21.heap.size + 1 ≤ w22.heap.size by have := hb22.size; (try simp only [World.size_alloc] at this); omega)
        have Hb22 := Lib.hid (bthen (bal (Hb21.out) _) hb22)
        clear hb22
        have qbc_0 : w22.cell? ⟨w21.heap.size, 0, none⟩ = some (.int .i64 0) := bc.out.cell 0
        have qbc_1 : w22.cell? ⟨w21.heap.size, 1, none⟩ = some (.int .i64 0) := bc.out.cell 1
        have qbc_2 : w22.cell? ⟨w21.heap.size, 2, none⟩ = some (.int .i64 0) := bc.out.cell 2
        have qbc_3 : w22.cell? ⟨w21.heap.size, 3, none⟩ = some (.int .i64 0) := bc.out.cell 3
        have qbc_4 : w22.cell? ⟨w21.heap.size, 4, none⟩ = some (.int .i64 0) := bc.out.cell 4
        have qbc_5 : w22.cell? ⟨w21.heap.size, 5, none⟩ = some (.slice Cci (([] : List Pt)).length cci) := bc.out.cell 5
        have qbc_l := bc.out.lt
        go_wp2_with fail
        clear qbc_0 qbc_1 qbc_2 qbc_3 qbc_4 qbc_5 qbc_l
        refine (qTk_same 0 0 0 0 0 _ _ [] _ ((Rd.of_own Oci.out rfl).on (bal (Below.refl _ _) _)) ((Rd.of_own Ocs.out rfl).on (bal (Below.refl _ _) _))).mono ?_; rintro e w23 ⟨rfl, hb23⟩
        replace Ou := Lib.hid (own_below Ou.out (bthen (bal (Below.refl _ _) _) hb23))
        replace bu := Lib.hid (bu.out.on (bthen (bal (Below.refl _ _) _) hb23))
        replace Oci := Lib.hid (own_below Oci.out (bthen (bal (Below.refl _ _) _) hb23))
        replace bc := Lib.hid (bc.out.on (bthen (bal (Below.refl _ _) _) hb23))
        replace Ocs := Lib.hid (own_below Ocs.out (bthen (bal (Below.refl _ _) _) hb23))
        have bd := Lib.hid ((Blk.new w22 28 #[.int .i64 0, .int .i64 0, .int .i64 0, .int .i64 0, .int .i64 0, .slice Ccs (([] : List Pt)).length ccs]).on hb23)
        have sz23 := Lib.hid (show w22.heap.size + 1 ≤ w23.heap.size by have := hb23.size; (try simp only [World.size_alloc] at this); omega)
        have Hb23 := Lib.hid (bthen (bal (Hb22.out) _) hb23)
        clear hb23
        clear bc
        clear bd
        clear bu
        clear Oci
        clear Ocs
        clear Ou
        clear Hz
        clear GOu Hb19 sz20 GOci Hb20 sz21 GOcs Hb21 sz22 Hb22 sz23
        go_wp2_with fail
        refine (drawCand_any B m d _ (Hb.out.on (Hb23.out))).mono ?_; rintro e w24 ⟨⟨va, vb, vm, vd, vt, vv, nvv, i, hnvv, rfl, hvv, hxv⟩, hb24⟩
        obtain ⟨fsv, -, ov⟩ := hvv.pt
        obtain ⟨Cv, cv, rfl⟩ := own_formS ov
        clear hnvv hvv
        have Ov := Lib.hid ov
        have GOv := Lib.hid (World.ownsRow.lt ov)
        clear ov
        have sz24 := Lib.hid (show w23.heap.size + 0 ≤ w24.heap.size by have := hb24.size; (try simp only [World.size_alloc] at this); omega)
        have Hb24 := Lib.hid (bthen (Hb23.out) hb24)
        clear hb24
        clear hxv 
        obtain ⟨x, e, k, hk⟩ : ∃ x e k, candV va vb vm vd vt fsv i = (x, e, k) := ⟨_, _, _, rfl⟩
        have Hk := Lib.hid hk; clear hk
        go_wp2_with fail
        refine (implCand_is va vb vm vd vt _ fsv i x e k _ Hk.out ((Rd.of_own Ov.out rfl).on (bal (Below.refl _ _) _))).mono ?_; rintro e w25 ⟨rfl, hb25⟩
        replace Ov := Lib.hid (own_below Ov.out (bthen (bal (Below.refl _ _) _) hb25))
        have bv := Lib.hid ((Blk.new w24 28 #[.int .i64 va, .int .i64 vb, .int .i64 vm, .int .i64 vd, .int .i64 vt, .slice Cv fsv.length cv]).on hb25)
        have sz25 := Lib.hid (show w24.heap.size + 1 ≤ w25.heap.size by have := hb25.size; (try simp only [World.size_alloc] at this); omega)
        have Hb25 := Lib.hid (bthen (bal (Hb24.out) _) hb25)
        clear hb25
        have qbv_0 : w25.cell? ⟨w24.heap.size, 0, none⟩ = some (.int .i64 va) := bv.out.cell 0
        have qbv_1 : w25.cell? ⟨w24.heap.size, 1, none⟩ = some (.int .i64 vb) := bv.out.cell 1
        have qbv_2 : w25.cell? ⟨w24.heap.size, 2, none⟩ = some (.int .i64 vm) := bv.out.cell 2
        have qbv_3 : w25.cell? ⟨w24.heap.size, 3, none⟩ = some (.int .i64 vd) := bv.out.cell 3
        have qbv_4 : w25.cell? ⟨w24.heap.size, 4, none⟩ = some (.int .i64 vt) := bv.out.cell 4
        have qbv_5 : w25.cell? ⟨w24.heap.size, 5, none⟩ = some (.slice Cv fsv.length cv) := bv.out.cell 5
        have qbv_l := bv.out.lt
        go_wp2_with fail
        clear qbv_0 qbv_1 qbv_2 qbv_3 qbv_4 qbv_5 qbv_l
        refine (specCand_is va vb vm vd vt _ fsv i x e k _ Hk.out (Rd.of_own Ov.out rfl)).mono ?_; rintro e w26 ⟨rfl, hb26⟩
        replace Ov := Lib.hid (own_below Ov.out (hb26))
        replace bv := Lib.hid (bv.out.on (hb26))
        have sz26 := Lib.hid (show w25.heap.size + 0 ≤ w26.heap.size by have := hb26.size; (try simp only [World.size_alloc] at this); omega)
        have Hb26 := Lib.hid (bthen (Hb25.out) hb26)
        clear hb26
        cases k
        · have qbv_0 : w26.cell? ⟨w24.heap.size, 0, none⟩ = some (.int .i64 va) := bv.out.cell 0
          have qbv_1 : w26.cell? ⟨w24.heap.size, 1, none⟩ = some (.int .i64 vb) := bv.out.cell 1
          have qbv_2 : w26.cell? ⟨w24.heap.size, 2, none⟩ = some (.int .i64 vm) := bv.out.cell 2
          have qbv_3 : w26.cell? ⟨w24.heap.size, 3, none⟩ = some (.int .i64 vd) := bv.out.cell 3
          have qbv_4 : w26.cell? ⟨w24.heap.size, 4, none⟩ = some (.int .i64 vt) := bv.out.cell 4
          have qbv_5 : w26.cell? ⟨w24.heap.size, 5, none⟩ = some (.slice Cv fsv.length cv) := bv.out.cell 5
          have qbv_l := bv.out.lt
          go_wp2_with fail
          refine wp_region_tame (by kernel_rfl) (by kernel_rfl) (fun T _ W hT => ?_)
          have hx := hT.cell
          repeat (go_big_quiet_step ((first | fail)))
          refine wpQuiet_nil ?_
          intro tt
          clear hx
          have hb27 := hT.below tt
          generalize W tt = w27 at hb27 ⊢
          clear hT
          clear qbv_0 qbv_1 qbv_2 qbv_3 qbv_4 qbv_5 qbv_l
          replace Ov := Lib.hid (own_below Ov.out (hb27))
          replace bv := Lib.hid (bv.out.on (hb27))
          have sz27 := Lib.hid (show w26.heap.size + 0 ≤ w27.heap.size by have := hb27.size; (try simp only [World.size_alloc] at this); omega)
          have Hb27 := Lib.hid (bthen (Hb26.out) hb27)
          clear hb27
          go_wp2
          go_ret
          exact ⟨rfl, Hb27.out⟩
        · obtain ⟨⟨h1, h2⟩, ⟨h3, h4⟩, h5⟩ := cand_law Hk.out
          have hab : max x (-x) ≤ vm := by omega
          have Hpa := Lib.hid (fun W => pAbs_any x W ⟨by omega, by omega⟩)
          generalize max x (-x) = y at hab Hpa
          have qbv_0 : w26.cell? ⟨w24.heap.size, 0, none⟩ = some (.int .i64 va) := bv.out.cell 0
          have qbv_1 : w26.cell? ⟨w24.heap.size, 1, none⟩ = some (.int .i64 vb) := bv.out.cell 1
          have qbv_2 : w26.cell? ⟨w24.heap.size, 2, none⟩ = some (.int .i64 vm) := bv.out.cell 2
          have qbv_3 : w26.cell? ⟨w24.heap.size, 3, none⟩ = some (.int .i64 vd) := bv.out.cell 3
          have qbv_4 : w26.cell? ⟨w24.heap.size, 4, none⟩ = some (.int .i64 vt) := bv.out.cell 4
          have qbv_5 : w26.cell? ⟨w24.heap.size, 5, none⟩ = some (.slice Cv fsv.length cv) := bv.out.cell 5
          have qbv_l := bv.out.lt
          go_wp2_with fail
          refine wp_region_tame (by kernel_rfl) (by kernel_rfl) (fun T _ W hT => ?_)
          have hx := hT.cell
          repeat (go_big_quiet_step ((first | (go_at_call 21; exact hT.call (Hpa.out _)))))
          refine wpQuiet_nil ?_
          intro tt
          clear hx
          have hb27 := hT.below tt
          generalize W tt = w27 at hb27 ⊢
          clear hT
          clear qbv_0 qbv_1 qbv_2 qbv_3 qbv_4 qbv_5 qbv_l
          replace Ov := Lib.hid (own_below Ov.out (hb27))
          replace bv := Lib.hid (bv.out.on (hb27))
          have sz27 := Lib.hid (show w26.heap.size + 0 ≤ w27.heap.size by have := hb27.size; (try simp only [World.size_alloc] at this); omega)
          have Hb27 := Lib.hid (bthen (Hb26.out) hb27)
          clear hb27
          go_wp2
          go_ret
          exact ⟨rfl, Hb27.out⟩
      · have HT := Lib.hid hT9
        obtain ⟨-, -, -, -, he, ht, hmod, hlt, hst⟩ := crash_law hT9
        have Hst := Lib.hid hst; clear hst hT9
        obtain ⟨he0, he1⟩ := he; obtain ⟨ht0, ht1, ht2⟩ := ht
        go_wp2_with fail
        refine (implCrashTask_any ua ub um ud ut _ fsu x _ ((Rd.of_own Ou.out rfl).on (bal (Below.refl _ _) _))).mono ?_; rintro e w21 ⟨hr, hb21⟩; obtain ⟨Cci, cci, rfl, oci⟩ := hr.at HT.out; clear hr
        have Oci := Lib.hid oci
        have GOci := Lib.hid (World.ownsRow.lt oci)
        clear oci
        replace Ou := Lib.hid (own_below Ou.out (bthen (bal (Below.refl _ _) _) hb21))
        have bu := Lib.hid ((Blk.new w20 28 #[.int .i64 ua, .int .i64 ub, .int .i64 um, .int .i64 ud, .int .i64 ut, .slice Cu fsu.length cu]).on hb21)
        have sz21 := Lib.hid (show w20.heap.size + 1 ≤ w21.heap.size by have := hb21.size; (try simp only [World.size_alloc] at this); omega)
        have Hb21 := Lib.hid (bthen (bal (Hb20.out) _) hb21)
        clear hb21
        have qbu_0 : w21.cell? ⟨w20.heap.size, 0, none⟩ = some (.int .i64 ua) := bu.out.cell 0
        have qbu_1 : w21.cell? ⟨w20.heap.size, 1, none⟩ = some (.int .i64 ub) := bu.out.cell 1
        have qbu_2 : w21.cell? ⟨w20.heap.size, 2, none⟩ = some (.int .i64 um) := bu.out.cell 2
        have qbu_3 : w21.cell? ⟨w20.heap.size, 3, none⟩ = some (.int .i64 ud) := bu.out.cell 3
        have qbu_4 : w21.cell? ⟨w20.heap.size, 4, none⟩ = some (.int .i64 ut) := bu.out.cell 4
        have qbu_5 : w21.cell? ⟨w20.heap.size, 5, none⟩ = some (.slice Cu fsu.length cu) := bu.out.cell 5
        have qbu_l := bu.out.lt
        go_wp2_with fail
        clear qbu_0 qbu_1 qbu_2 qbu_3 qbu_4 qbu_5 qbu_l
        refine (specCrashTask_any ua ub um ud ut _ fsu x _ ((Rd.of_own Ou.out rfl).on (bal (Below.refl _ _) _))).mono ?_; rintro e w22 ⟨hr, hb22⟩; obtain ⟨Ccs, ccs, rfl, ocs⟩ := hr.at HT.out; clear hr
        have Ocs := Lib.hid ocs
        have GOcs := Lib.hid (World.ownsRow.lt ocs)
        clear ocs
        replace Ou := Lib.hid (own_below Ou.out (bthen (bal (Below.refl _ _) _) hb22))
        replace bu := Lib.hid (bu.out.on (bthen (bal (Below.refl _ _) _) hb22))
        replace Oci := Lib.hid (own_below Oci.out (bthen (bal (Below.refl _ _) _) hb22))
        have bc := Lib.hid ((Blk.new w21 28 #[.int .i64 ua, .int .i64 ub, .int .i64 um, .int .i64 ud, .int .i64 T, .slice Cci L.length cci]).on hb22)
        have sz22 := Lib.hid (show w21.heap.size + 1 ≤ w22.heap.size by have := hb22.size; (try simp only [World.size_alloc] at this); omega)
        have Hb22 := Lib.hid (bthen (bal (Hb21.out) _) hb22)
        clear hb22
        have qbc_0 : w22.cell? ⟨w21.heap.size, 0, none⟩ = some (.int .i64 ua) := bc.out.cell 0
        have qbc_1 : w22.cell? ⟨w21.heap.size, 1, none⟩ = some (.int .i64 ub) := bc.out.cell 1
        have qbc_2 : w22.cell? ⟨w21.heap.size, 2, none⟩ = some (.int .i64 um) := bc.out.cell 2
        have qbc_3 : w22.cell? ⟨w21.heap.size, 3, none⟩ = some (.int .i64 ud) := bc.out.cell 3
        have qbc_4 : w22.cell? ⟨w21.heap.size, 4, none⟩ = some (.int .i64 T) := bc.out.cell 4
        have qbc_5 : w22.cell? ⟨w21.heap.size, 5, none⟩ = some (.slice Cci L.length cci) := bc.out.cell 5
        have qbc_l := bc.out.lt
        go_wp2_with fail
        clear qbc_0 qbc_1 qbc_2 qbc_3 qbc_4 qbc_5 qbc_l
        refine (qTk_same ua ub um ud T _ _ L _ ((Rd.of_own Oci.out rfl).on (bal (Below.refl _ _) _)) ((Rd.of_own Ocs.out rfl).on (bal (Below.refl _ _) _))).mono ?_; rintro e w23 ⟨rfl, hb23⟩
        replace Ou := Lib.hid (own_below Ou.out (bthen (bal (Below.refl _ _) _) hb23))
        replace bu := Lib.hid (bu.out.on (bthen (bal (Below.refl _ _) _) hb23))
        replace Oci := Lib.hid (own_below Oci.out (bthen (bal (Below.refl _ _) _) hb23))
        replace bc := Lib.hid (bc.out.on (bthen (bal (Below.refl _ _) _) hb23))
        replace Ocs := Lib.hid (own_below Ocs.out (bthen (bal (Below.refl _ _) _) hb23))
        have bd := Lib.hid ((Blk.new w22 28 #[.int .i64 ua, .int .i64 ub, .int .i64 um, .int .i64 ud, .int .i64 T, .slice Ccs L.length ccs]).on hb23)
        have sz23 := Lib.hid (show w22.heap.size + 1 ≤ w23.heap.size by have := hb23.size; (try simp only [World.size_alloc] at this); omega)
        have Hb23 := Lib.hid (bthen (bal (Hb22.out) _) hb23)
        clear hb23
        have hsub : IntKind.i64.wrap (ut - T) = ut - T := by rw [IntKind.wrap_i64]; omega
        have qbc_0 : w23.cell? ⟨w21.heap.size, 0, none⟩ = some (.int .i64 ua) := bc.out.cell 0
        have qbc_1 : w23.cell? ⟨w21.heap.size, 1, none⟩ = some (.int .i64 ub) := bc.out.cell 1
        have qbc_2 : w23.cell? ⟨w21.heap.size, 2, none⟩ = some (.int .i64 um) := bc.out.cell 2
        have qbc_3 : w23.cell? ⟨w21.heap.size, 3, none⟩ = some (.int .i64 ud) := bc.out.cell 3
        have qbc_4 : w23.cell? ⟨w21.heap.size, 4, none⟩ = some (.int .i64 T) := bc.out.cell 4
        have qbc_5 : w23.cell? ⟨w21.heap.size, 5, none⟩ = some (.slice Cci L.length cci) := bc.out.cell 5
        have qbc_l := bc.out.lt
        have qbu_0 : w23.cell? ⟨w20.heap.size, 0, none⟩ = some (.int .i64 ua) := bu.out.cell 0
        have qbu_1 : w23.cell? ⟨w20.heap.size, 1, none⟩ = some (.int .i64 ub) := bu.out.cell 1
        have qbu_2 : w23.cell? ⟨w20.heap.size, 2, none⟩ = some (.int .i64 um) := bu.out.cell 2
        have qbu_3 : w23.cell? ⟨w20.heap.size, 3, none⟩ = some (.int .i64 ud) := bu.out.cell 3
        have qbu_4 : w23.cell? ⟨w20.heap.size, 4, none⟩ = some (.int .i64 ut) := bu.out.cell 4
        have qbu_5 : w23.cell? ⟨w20.heap.size, 5, none⟩ = some (.slice Cu fsu.length cu) := bu.out.cell 5
        have qbu_l := bu.out.lt
        have qbd_0 : w23.cell? ⟨w22.heap.size, 0, none⟩ = some (.int .i64 ua) := bd.out.cell 0
        have qbd_1 : w23.cell? ⟨w22.heap.size, 1, none⟩ = some (.int .i64 ub) := bd.out.cell 1
        have qbd_2 : w23.cell? ⟨w22.heap.size, 2, none⟩ = some (.int .i64 um) := bd.out.cell 2
        have qbd_3 : w23.cell? ⟨w22.heap.size, 3, none⟩ = some (.int .i64 ud) := bd.out.cell 3
        have qbd_4 : w23.cell? ⟨w22.heap.size, 4, none⟩ = some (.int .i64 T) := bd.out.cell 4
        have qbd_5 : w23.cell? ⟨w22.heap.size, 5, none⟩ = some (.slice Ccs L.length ccs) := bd.out.cell 5
        have qbd_l := bd.out.lt
        go_wp2_with fail
        clear qbc_0 qbc_1 qbc_2 qbc_3 qbc_4 qbc_5 qbc_l qbu_0 qbu_1 qbu_2 qbu_3 qbu_4 qbu_5 qbu_l qbd_0 qbd_1 qbd_2 qbd_3 qbd_4 qbd_5 qbd_l
        refine (implStepTask_any ua ub um ud T _ L (ut - T) _ (Rd.of_own Oci.out rfl)).mono ?_; rintro e w24 ⟨hr, hb24⟩; obtain ⟨Cag, cag, rfl, oag⟩ := hr.at Hst.out; clear hr
        have Oag := Lib.hid oag
        have GOag := Lib.hid (World.ownsRow.lt oag)
        clear oag
        replace Ou := Lib.hid (own_below Ou.out (hb24))
        replace bu := Lib.hid (bu.out.on (hb24))
        replace Oci := Lib.hid (own_below Oci.out (hb24))
        replace bc := Lib.hid (bc.out.on (hb24))
        replace Ocs := Lib.hid (own_below Ocs.out (hb24))
        replace bd := Lib.hid (bd.out.on (hb24))
        have sz24 := Lib.hid (show w23.heap.size + 0 ≤ w24.heap.size by have := hb24.size; (try simp only [World.size_alloc] at this); omega)
        have Hb24 := Lib.hid (bthen (Hb23.out) hb24)
        clear hb24
        have hmo : T.tmod x = 0 := by rw [Int.tmod_eq_emod_of_nonneg ht0]; exact hmod
        have k1 : ¬ ut < T := by omega
        have k2 : ¬ x ≤ ut - T := by omega
        have k3 : x ≠ 0 := by omega
        have qbc_0 : w24.cell? ⟨w21.heap.size, 0, none⟩ = some (.int .i64 ua) := bc.out.cell 0
        have qbc_1 : w24.cell? ⟨w21.heap.size, 1, none⟩ = some (.int .i64 ub) := bc.out.cell 1
        have qbc_2 : w24.cell? ⟨w21.heap.size, 2, none⟩ = some (.int .i64 um) := bc.out.cell 2
        have qbc_3 : w24.cell? ⟨w21.heap.size, 3, none⟩ = some (.int .i64 ud) := bc.out.cell 3
        have qbc_4 : w24.cell? ⟨w21.heap.size, 4, none⟩ = some (.int .i64 T) := bc.out.cell 4
        have qbc_5 : w24.cell? ⟨w21.heap.size, 5, none⟩ = some (.slice Cci L.length cci) := bc.out.cell 5
        have qbc_l := bc.out.lt
        have qbu_0 : w24.cell? ⟨w20.heap.size, 0, none⟩ = some (.int .i64 ua) := bu.out.cell 0
        have qbu_1 : w24.cell? ⟨w20.heap.size, 1, none⟩ = some (.int .i64 ub) := bu.out.cell 1
        have qbu_2 : w24.cell? ⟨w20.heap.size, 2, none⟩ = some (.int .i64 um) := bu.out.cell 2
        have qbu_3 : w24.cell? ⟨w20.heap.size, 3, none⟩ = some (.int .i64 ud) := bu.out.cell 3
        have qbu_4 : w24.cell? ⟨w20.heap.size, 4, none⟩ = some (.int .i64 ut) := bu.out.cell 4
        have qbu_5 : w24.cell? ⟨w20.heap.size, 5, none⟩ = some (.slice Cu fsu.length cu) := bu.out.cell 5
        have qbu_l := bu.out.lt
        have qbd_0 : w24.cell? ⟨w22.heap.size, 0, none⟩ = some (.int .i64 ua) := bd.out.cell 0
        have qbd_1 : w24.cell? ⟨w22.heap.size, 1, none⟩ = some (.int .i64 ub) := bd.out.cell 1
        have qbd_2 : w24.cell? ⟨w22.heap.size, 2, none⟩ = some (.int .i64 um) := bd.out.cell 2
        have qbd_3 : w24.cell? ⟨w22.heap.size, 3, none⟩ = some (.int .i64 ud) := bd.out.cell 3
        have qbd_4 : w24.cell? ⟨w22.heap.size, 4, none⟩ = some (.int .i64 T) := bd.out.cell 4
        have qbd_5 : w24.cell? ⟨w22.heap.size, 5, none⟩ = some (.slice Ccs L.length ccs) := bd.out.cell 5
        have qbd_l := bd.out.lt
        go_wp2_with fail
        clear qbc_0 qbc_1 qbc_2 qbc_3 qbc_4 qbc_5 qbc_l qbu_0 qbu_1 qbu_2 qbu_3 qbu_4 qbu_5 qbu_l qbd_0 qbd_1 qbd_2 qbd_3 qbd_4 qbd_5 qbd_l
        refine (qTk_same ua ub um ud ut _ _ fsu _ ((Rd.of_own Oag.out rfl).on (bal (Below.refl _ _) _)) ((Rd.of_own Ou.out rfl).on (bal (Below.refl _ _) _))).mono ?_; rintro e w25 ⟨rfl, hb25⟩
        replace Ou := Lib.hid (own_below Ou.out (bthen (bal (Below.refl _ _) _) hb25))
        replace bu := Lib.hid (bu.out.on (bthen (bal (Below.refl _ _) _) hb25))
        replace Oci := Lib.hid (own_below Oci.out (bthen (bal (Below.refl _ _) _) hb25))
        replace bc := Lib.hid (bc.out.on (bthen (bal (Below.refl _ _) _) hb25))
        replace Ocs := Lib.hid (own_below Ocs.out (bthen (bal (Below.refl _ _) _) hb25))
        replace bd := Lib.hid (bd.out.on (bthen (bal (Below.refl _ _) _) hb25))
        replace Oag := Lib.hid (own_below Oag.out (bthen (bal (Below.refl _ _) _) hb25))
        have be := Lib.hid ((Blk.new w24 28 #[.int .i64 ua, .int .i64 ub, .int .i64 um, .int .i64 ud, .int .i64 ut, .slice Cag fsu.length cag]).on hb25)
        have sz25 := Lib.hid (show w24.heap.size + 1 ≤ w25.heap.size by have := hb25.size; (try simp only [World.size_alloc] at this); omega)
        have Hb25 := Lib.hid (bthen (bal (Hb24.out) _) hb25)
        clear hb25
        clear bc
        clear bd
        clear bu
        clear be
        clear Oci
        clear Ocs
        clear Oag
        clear Ou
        clear HT Hst hsub he0 he1 ht0 ht1 ht2 hmod hlt
        clear GOu Hb19 sz20 GOci Hb20 sz21 GOcs Hb21 sz22 Hb22 sz23 GOag Hb23 sz24 Hb24 sz25
        go_wp2_with fail
        refine (drawCand_any B m d _ (Hb.out.on (Hb25.out))).mono ?_; rintro e w26 ⟨⟨va, vb, vm, vd, vt, vv, nvv, i, hnvv, rfl, hvv, hxv⟩, hb26⟩
        obtain ⟨fsv, -, ov⟩ := hvv.pt
        obtain ⟨Cv, cv, rfl⟩ := own_formS ov
        clear hnvv hvv
        have Ov := Lib.hid ov
        have GOv := Lib.hid (World.ownsRow.lt ov)
        clear ov
        have sz26 := Lib.hid (show w25.heap.size + 0 ≤ w26.heap.size by have := hb26.size; (try simp only [World.size_alloc] at this); omega)
        have Hb26 := Lib.hid (bthen (Hb25.out) hb26)
        clear hb26
        clear hxv hmo k1 k2 k3
        obtain ⟨x, e, k, hk⟩ : ∃ x e k, candV va vb vm vd vt fsv i = (x, e, k) := ⟨_, _, _, rfl⟩
        have Hk := Lib.hid hk; clear hk
        go_wp2_with fail
        refine (implCand_is va vb vm vd vt _ fsv i x e k _ Hk.out ((Rd.of_own Ov.out rfl).on (bal (Below.refl _ _) _))).mono ?_; rintro e w27 ⟨rfl, hb27⟩
        replace Ov := Lib.hid (own_below Ov.out (bthen (bal (Below.refl _ _) _) hb27))
        have bv := Lib.hid ((Blk.new w26 28 #[.int .i64 va, .int .i64 vb, .int .i64 vm, .int .i64 vd, .int .i64 vt, .slice Cv fsv.length cv]).on hb27)
        have sz27 := Lib.hid (show w26.heap.size + 1 ≤ w27.heap.size by have := hb27.size; (try simp only [World.size_alloc] at this); omega)
        have Hb27 := Lib.hid (bthen (bal (Hb26.out) _) hb27)
        clear hb27
        have qbv_0 : w27.cell? ⟨w26.heap.size, 0, none⟩ = some (.int .i64 va) := bv.out.cell 0
        have qbv_1 : w27.cell? ⟨w26.heap.size, 1, none⟩ = some (.int .i64 vb) := bv.out.cell 1
        have qbv_2 : w27.cell? ⟨w26.heap.size, 2, none⟩ = some (.int .i64 vm) := bv.out.cell 2
        have qbv_3 : w27.cell? ⟨w26.heap.size, 3, none⟩ = some (.int .i64 vd) := bv.out.cell 3
        have qbv_4 : w27.cell? ⟨w26.heap.size, 4, none⟩ = some (.int .i64 vt) := bv.out.cell 4
        have qbv_5 : w27.cell? ⟨w26.heap.size, 5, none⟩ = some (.slice Cv fsv.length cv) := bv.out.cell 5
        have qbv_l := bv.out.lt
        go_wp2_with fail
        clear qbv_0 qbv_1 qbv_2 qbv_3 qbv_4 qbv_5 qbv_l
        refine (specCand_is va vb vm vd vt _ fsv i x e k _ Hk.out (Rd.of_own Ov.out rfl)).mono ?_; rintro e w28 ⟨rfl, hb28⟩
        replace Ov := Lib.hid (own_below Ov.out (hb28))
        replace bv := Lib.hid (bv.out.on (hb28))
        have sz28 := Lib.hid (show w27.heap.size + 0 ≤ w28.heap.size by have := hb28.size; (try simp only [World.size_alloc] at this); omega)
        have Hb28 := Lib.hid (bthen (Hb27.out) hb28)
        clear hb28
        cases k
        · have qbv_0 : w28.cell? ⟨w26.heap.size, 0, none⟩ = some (.int .i64 va) := bv.out.cell 0
          have qbv_1 : w28.cell? ⟨w26.heap.size, 1, none⟩ = some (.int .i64 vb) := bv.out.cell 1
          have qbv_2 : w28.cell? ⟨w26.heap.size, 2, none⟩ = some (.int .i64 vm) := bv.out.cell 2
          have qbv_3 : w28.cell? ⟨w26.heap.size, 3, none⟩ = some (.int .i64 vd) := bv.out.cell 3
          have qbv_4 : w28.cell? ⟨w26.heap.size, 4, none⟩ = some (.int .i64 vt) := bv.out.cell 4
          have qbv_5 : w28.cell? ⟨w26.heap.size, 5, none⟩ = some (.slice Cv fsv.length cv) := bv.out.cell 5
          have qbv_l := bv.out.lt
          go_wp2_with fail
          refine wp_region_tame (by kernel_rfl) (by kernel_rfl) (fun T _ W hT => ?_)
          have hx := hT.cell
          repeat (go_big_quiet_step ((first | fail)))
          refine wpQuiet_nil ?_
          intro tt
          clear hx
          have hb29 := hT.below tt
          generalize W tt = w29 at hb29 ⊢
          clear hT
          clear qbv_0 qbv_1 qbv_2 qbv_3 qbv_4 qbv_5 qbv_l
          replace Ov := Lib.hid (own_below Ov.out (hb29))
          replace bv := Lib.hid (bv.out.on (hb29))
          have sz29 := Lib.hid (show w28.heap.size + 0 ≤ w29.heap.size by have := hb29.size; (try simp only [World.size_alloc] at this); omega)
          have Hb29 := Lib.hid (bthen (Hb28.out) hb29)
          clear hb29
          go_wp2
          go_ret
          exact ⟨rfl, Hb29.out⟩
        · obtain ⟨⟨h1, h2⟩, ⟨h3, h4⟩, h5⟩ := cand_law Hk.out
          have hab : max x (-x) ≤ vm := by omega
          have Hpa := Lib.hid (fun W => pAbs_any x W ⟨by omega, by omega⟩)
          generalize max x (-x) = y at hab Hpa
          have qbv_0 : w28.cell? ⟨w26.heap.size, 0, none⟩ = some (.int .i64 va) := bv.out.cell 0
          have qbv_1 : w28.cell? ⟨w26.heap.size, 1, none⟩ = some (.int .i64 vb) := bv.out.cell 1
          have qbv_2 : w28.cell? ⟨w26.heap.size, 2, none⟩ = some (.int .i64 vm) := bv.out.cell 2
          have qbv_3 : w28.cell? ⟨w26.heap.size, 3, none⟩ = some (.int .i64 vd) := bv.out.cell 3
          have qbv_4 : w28.cell? ⟨w26.heap.size, 4, none⟩ = some (.int .i64 vt) := bv.out.cell 4
          have qbv_5 : w28.cell? ⟨w26.heap.size, 5, none⟩ = some (.slice Cv fsv.length cv) := bv.out.cell 5
          have qbv_l := bv.out.lt
          go_wp2_with fail
          refine wp_region_tame (by kernel_rfl) (by kernel_rfl) (fun T _ W hT => ?_)
          have hx := hT.cell
          repeat (go_big_quiet_step ((first | (go_at_call 21; exact hT.call (Hpa.out _)))))
          refine wpQuiet_nil ?_
          intro tt
          clear hx
          have hb29 := hT.below tt
          generalize W tt = w29 at hb29 ⊢
          clear hT
          clear qbv_0 qbv_1 qbv_2 qbv_3 qbv_4 qbv_5 qbv_l
          replace Ov := Lib.hid (own_below Ov.out (hb29))
          replace bv := Lib.hid (bv.out.on (hb29))
          have sz29 := Lib.hid (show w28.heap.size + 0 ≤ w29.heap.size by have := hb29.size; (try simp only [World.size_alloc] at this); omega)
          have Hb29 := Lib.hid (bthen (Hb28.out) hb29)
          clear hb29
          go_wp2
          go_ret
          exact ⟨rfl, Hb29.out⟩
  · go_wp2
    go_ret
    exact ⟨rfl, Hb1.out⟩
end Go.Proofs.Ytjnghjgfhlgbiaa
