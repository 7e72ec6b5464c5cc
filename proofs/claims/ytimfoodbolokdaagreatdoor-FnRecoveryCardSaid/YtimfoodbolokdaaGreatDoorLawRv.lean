/- The law FnRecovery: its walk. Conditions: none. Printed by gen_rvlaw.py. -/
import Derived.Test.YtimfoodbolokdaaGreatDoorDrQ2
import Derived.Test.YtimfoodbolokdaaGreatDoorRvQ
namespace Go.Proofs.YtimfoodbolokdaaGreatDoor
open Go Go.RowKit

set_option maxRecDepth 8000 in
set_option maxHeartbeats 16000000 in
theorem fnRecovery_walk (A : Option Addr) (n c : Nat) (B : Option Addr) (m d : Nat) (w : World) (ha : BytesAt w w.heap.size A n) (hb : BytesAt w w.heap.size B m) (he : Env w) :
    Calls Tryz.prog 6 #[.slice A n c, .slice B m d] w fun e w' => e = .returned (.bool true) ∧ Below w.heap.size w w' := by
  have Ha := Lib.hid ha; have Hb := Lib.hid hb; have He := Lib.hid he; clear ha hb he
  by_cases hbig : 1048576 < wrap64 ((n : Int) + (m : Int))
  · go_enter Tryz.func6, Tryz.ntmps6
    go_wp2
    go_ret
    exact ⟨rfl, Below.refl _ _⟩
  · go_enter Tryz.func6, Tryz.ntmps6
    go_wp2_with fail
    refine (drawCrash_any A n c _ (Ha.out.on (Below.refl _ _))).mono ?_; rintro e w1 ⟨⟨D, P, k, tn, hDP, hk0, hk1, rfl⟩, hb1⟩
    clear hbig
    replace He := Lib.hid (He.out.on (hb1))
    have sz1 := Lib.hid (show w.heap.size + 0 ≤ w1.heap.size by have := hb1.size; (try simp only [World.size_alloc] at this); omega)
    have Hb1 := Lib.hid (bthen (Below.refl _ _) hb1)
    clear hb1
    obtain ⟨s, ok, hcr⟩ : ∃ s ok, crV D P k tn = (s, ok) := ⟨_, _, rfl⟩
    have Hcr := Lib.hid hcr; clear hcr
    go_wp2_with fail
    refine (implCr_is D P k tn s ok _ Hcr.out ⟨by omega⟩ ⟨by omega, by omega⟩ (He.out.on (bal (Below.refl _ _) _))).mono ?_; rintro e w2 ⟨rfl, hb2⟩
    replace He := Lib.hid (He.out.on (bthen (bal (Below.refl _ _) _) hb2))
    have jb := Lib.hid ((Blk.new w1 76 #[.string D, .string P]).on hb2)
    have sz2 := Lib.hid (show w1.heap.size + 1 ≤ w2.heap.size by have := hb2.size; (try simp only [World.size_alloc] at this); omega)
    have Hb2 := Lib.hid (bthen (bal (Hb1.out) _) hb2)
    clear hb2
    have qjb_0 : w2.cell? ⟨w1.heap.size, 0, none⟩ = some (.string D) := jb.out.cell 0
    have qjb_1 : w2.cell? ⟨w1.heap.size, 1, none⟩ = some (.string P) := jb.out.cell 1
    have qjb_l := jb.out.lt
    go_wp2_with fail
    clear qjb_0 qjb_1 qjb_l
    refine (specCr_is D P k tn s ok _ Hcr.out ⟨by omega⟩ ⟨by omega, by omega⟩).mono ?_; rintro e w3 ⟨rfl, hb3⟩
    replace He := Lib.hid (He.out.on (hb3))
    replace jb := Lib.hid (jb.out.on (hb3))
    have sz3 := Lib.hid (show w2.heap.size + 0 ≤ w3.heap.size by have := hb3.size; (try simp only [World.size_alloc] at this); omega)
    have Hb3 := Lib.hid (bthen (Hb2.out) hb3)
    clear hb3
    go_wp2_with fail
    refine (drawRecover_any B m d _ (Hb.out.on (Hb3.out))).mono ?_; rintro e w4 ⟨⟨t, ht, rfl⟩, hb4⟩
    replace He := Lib.hid (He.out.on (hb4))
    replace jb := Lib.hid (jb.out.on (hb4))
    have sz4 := Lib.hid (show w3.heap.size + 0 ≤ w4.heap.size by have := hb4.size; (try simp only [World.size_alloc] at this); omega)
    have Hb4 := Lib.hid (bthen (Hb3.out) hb4)
    clear hb4
    obtain ⟨rd, rn, one, hre⟩ : ∃ rd rn one, reV t = (rd, rn, one) := ⟨_, _, _, rfl⟩
    have Hre := Lib.hid hre; clear hre
    go_wp2_with fail
    refine (implRecov_is t rd rn one _ Hre.out (by omega) (He.out.on (Below.refl _ _))).mono ?_; rintro e w5 ⟨rfl, hb5⟩
    replace He := Lib.hid (He.out.on (hb5))
    replace jb := Lib.hid (jb.out.on (hb5))
    have sz5 := Lib.hid (show w4.heap.size + 0 ≤ w5.heap.size by have := hb5.size; (try simp only [World.size_alloc] at this); omega)
    have Hb5 := Lib.hid (bthen (Hb4.out) hb5)
    clear hb5
    go_wp2_with fail
    refine (specRecov_is t rd rn one _ Hre.out (by omega)).mono ?_; rintro e w6 ⟨rfl, hb6⟩
    replace He := Lib.hid (He.out.on (bthen (bal (Below.refl _ _) _) hb6))
    replace jb := Lib.hid (jb.out.on (bthen (bal (Below.refl _ _) _) hb6))
    have rb := Lib.hid ((Blk.new w5 76 #[.string rd, .string (⟨#[]⟩ : ByteArray)]).on hb6)
    have sz6 := Lib.hid (show w5.heap.size + 1 ≤ w6.heap.size by have := hb6.size; (try simp only [World.size_alloc] at this); omega)
    have Hb6 := Lib.hid (bthen (bal (Hb5.out) _) hb6)
    clear hb6
    go_wp2_with fail
    refine (drawSeal_any B m d _ (Hb.out.on (bal (Hb6.out) _))).mono ?_; rintro e w7 ⟨⟨q, e0, e1, e2, e3, hq0, hq1, rfl⟩, hb7⟩
    replace He := Lib.hid (He.out.on (bthen (bal (Below.refl _ _) _) hb7))
    replace jb := Lib.hid (jb.out.on (bthen (bal (Below.refl _ _) _) hb7))
    replace rb := Lib.hid (rb.out.on (bthen (bal (Below.refl _ _) _) hb7))
    have rc := Lib.hid ((Blk.new w6 76 #[.string rd, .string (⟨#[]⟩ : ByteArray)]).on hb7)
    have sz7 := Lib.hid (show w6.heap.size + 1 ≤ w7.heap.size by have := hb7.size; (try simp only [World.size_alloc] at this); omega)
    have Hb7 := Lib.hid (bthen (bal (Hb6.out) _) hb7)
    clear hb7
    obtain ⟨l, three, hse⟩ : ∃ l three, sealV q e0 e1 e2 e3 = (l, three) := ⟨_, _, rfl⟩
    have Hse := Lib.hid hse; clear hse
    go_wp2_with fail
    refine (implSeal_is q e0 e1 e2 e3 l three _ Hse.out (He.out.on (bal (Below.refl _ _) _)).tab).mono ?_; rintro e w8 ⟨rfl, hb8⟩
    replace He := Lib.hid (He.out.on (bthen (bal (Below.refl _ _) _) hb8))
    replace jb := Lib.hid (jb.out.on (bthen (bal (Below.refl _ _) _) hb8))
    replace rb := Lib.hid (rb.out.on (bthen (bal (Below.refl _ _) _) hb8))
    replace rc := Lib.hid (rc.out.on (bthen (bal (Below.refl _ _) _) hb8))
    have sb := Lib.hid ((Blk.new w7 78 #[.int .i64 e0, .int .i64 e1, .int .i64 e2, .int .i64 e3]).on hb8)
    have sz8 := Lib.hid (show w7.heap.size + 1 ≤ w8.heap.size by have := hb8.size; (try simp only [World.size_alloc] at this); omega)
    have Hb8 := Lib.hid (bthen (bal (Hb7.out) _) hb8)
    clear hb8
    have qsb_0 : w8.cell? ⟨w7.heap.size, 0, none⟩ = some (.int .i64 e0) := sb.out.cell 0
    have qsb_1 : w8.cell? ⟨w7.heap.size, 1, none⟩ = some (.int .i64 e1) := sb.out.cell 1
    have qsb_2 : w8.cell? ⟨w7.heap.size, 2, none⟩ = some (.int .i64 e2) := sb.out.cell 2
    have qsb_3 : w8.cell? ⟨w7.heap.size, 3, none⟩ = some (.int .i64 e3) := sb.out.cell 3
    have qsb_l := sb.out.lt
    go_wp2_with fail
    clear qsb_0 qsb_1 qsb_2 qsb_3 qsb_l
    refine (specSeal_is q e0 e1 e2 e3 l three _ Hse.out).mono ?_; rintro e w9 ⟨rfl, hb9⟩
    replace He := Lib.hid (He.out.on (hb9))
    replace jb := Lib.hid (jb.out.on (hb9))
    replace rb := Lib.hid (rb.out.on (hb9))
    replace rc := Lib.hid (rc.out.on (hb9))
    replace sb := Lib.hid (sb.out.on (hb9))
    have sz9 := Lib.hid (show w8.heap.size + 0 ≤ w9.heap.size by have := hb9.size; (try simp only [World.size_alloc] at this); omega)
    have Hb9 := Lib.hid (bthen (Hb8.out) hb9)
    clear hb9
    clear sb
    as_aux_lemma =>
      have hnj := neqJn rd ⟨#[]⟩
      cases one
      · have qrb_0 : w9.cell? ⟨w5.heap.size, 0, none⟩ = some (.string rd) := rb.out.cell 0
        have qrb_1 : w9.cell? ⟨w5.heap.size, 1, none⟩ = some (.string (⟨#[]⟩ : ByteArray)) := rb.out.cell 1
        have qrb_l := rb.out.lt
        have qrc_0 : w9.cell? ⟨w6.heap.size, 0, none⟩ = some (.string rd) := rc.out.cell 0
        have qrc_1 : w9.cell? ⟨w6.heap.size, 1, none⟩ = some (.string (⟨#[]⟩ : ByteArray)) := rc.out.cell 1
        have qrc_l := rc.out.lt
        go_wp2_with fail
        refine wp_region_tame (by kernel_rfl) (by kernel_rfl) (fun T _ W hT => ?_)
        have hx := hT.cell
        repeat (go_big_quiet_step ((first | fail)))
        refine wpQuiet_nil ?_
        intro tt
        clear hx
        have hb10 := hT.below tt
        generalize W tt = w10 at hb10 ⊢
        clear hT
        clear qrb_0 qrb_1 qrb_l qrc_0 qrc_1 qrc_l
        replace He := Lib.hid (He.out.on (hb10))
        replace jb := Lib.hid (jb.out.on (hb10))
        replace rb := Lib.hid (rb.out.on (hb10))
        replace rc := Lib.hid (rc.out.on (hb10))
        have sz10 := Lib.hid (show w9.heap.size + 0 ≤ w10.heap.size by have := hb10.size; (try simp only [World.size_alloc] at this); omega)
        have Hb10 := Lib.hid (bthen (Hb9.out) hb10)
        clear hb10
        clear rb
        clear rc
        clear Hre hnj
        clear sz1 Hb1 sz2 Hb2 sz3 Hb3 sz4 Hb4 sz5 Hb5 sz6 Hb6 sz7 Hb7 sz8 Hb8 sz9 Hb9 sz10
        cases three
        · as_aux_lemma =>
            cases ok
            · go_wp2
              go_ret
              exact ⟨rfl, Hb10.out⟩
            · have hss := crash_law Hcr.out
              obtain ⟨⟨hkz, hkP⟩, hok, ml, dd, hrs, hdj, hds, hDm, hfl, hfg, hfe⟩ := hss
              have hsz := reV_size hrs
              obtain ⟨al, hal⟩ : ∃ al, jrV D P = al := ⟨_, rfl⟩
              obtain ⟨fs, hfs⟩ : ∃ fs, jrV dd ⟨#[]⟩ = fs := ⟨_, rfl⟩
              rw [hal, hfs] at hfl hfg hfe
              have Hhok := Lib.hid hok; clear hok
              have Hhrs := Lib.hid hrs; clear hrs
              have Hhdj := Lib.hid hdj; clear hdj
              have Hhal := Lib.hid hal; clear hal
              have Hhfs := Lib.hid hfs; clear hfs
              have Hhfg := Lib.hid hfg; clear hfg
              have Hhfe := Lib.hid hfe; clear hfe
              clear Hcr
              go_wp2_with fail
              refine (implRecov_is s dd ml true _ Hhrs.out (by omega) (He.out.on (Below.refl _ _))).mono ?_; rintro e w11 ⟨rfl, hb11⟩
              replace He := Lib.hid (He.out.on (hb11))
              replace jb := Lib.hid (jb.out.on (hb11))
              have sz11 := Lib.hid (show w10.heap.size + 0 ≤ w11.heap.size by have := hb11.size; (try simp only [World.size_alloc] at this); omega)
              have Hb11 := Lib.hid (bthen (Hb10.out) hb11)
              clear hb11
              go_wp2_with fail
              refine (specRecov_is s dd ml true _ Hhrs.out (by omega)).mono ?_; rintro e w12 ⟨rfl, hb12⟩
              replace He := Lib.hid (He.out.on (bthen (bal (Below.refl _ _) _) hb12))
              replace jb := Lib.hid (jb.out.on (bthen (bal (Below.refl _ _) _) hb12))
              have bb := Lib.hid ((Blk.new w11 76 #[.string dd, .string (⟨#[]⟩ : ByteArray)]).on hb12)
              have sz12 := Lib.hid (show w11.heap.size + 1 ≤ w12.heap.size by have := hb12.size; (try simp only [World.size_alloc] at this); omega)
              have Hb12 := Lib.hid (bthen (bal (Hb11.out) _) hb12)
              clear hb12
              have hnj2 := neqJn dd ⟨#[]⟩
              have qjb_0 : w12.cell? ⟨w1.heap.size, 0, none⟩ = some (.string D) := jb.out.cell 0
              have qjb_1 : w12.cell? ⟨w1.heap.size, 1, none⟩ = some (.string P) := jb.out.cell 1
              have qjb_l := jb.out.lt
              have qbb_0 : w12.cell? ⟨w11.heap.size, 0, none⟩ = some (.string dd) := bb.out.cell 0
              have qbb_1 : w12.cell? ⟨w11.heap.size, 1, none⟩ = some (.string (⟨#[]⟩ : ByteArray)) := bb.out.cell 1
              have qbb_l := bb.out.lt
              go_wp2_with fail
              clear qjb_0 qjb_1 qjb_l qbb_0 qbb_1 qbb_l
              refine (specJRecs_is D P true al _ Hhok.out Hhal.out ⟨by omega⟩).mono ?_; rintro e w13 ⟨⟨va, rfl, oa⟩, hb13⟩
              have OA := Lib.hid oa
              have GOA := Lib.hid (World.ownsRow.lt oa)
              clear oa
              replace He := Lib.hid (He.out.on (bthen (bal (Below.refl _ _) _) hb13))
              replace jb := Lib.hid (jb.out.on (bthen (bal (Below.refl _ _) _) hb13))
              replace bb := Lib.hid (bb.out.on (bthen (bal (Below.refl _ _) _) hb13))
              have cb := Lib.hid ((Blk.new w12 76 #[.string dd, .string (⟨#[]⟩ : ByteArray)]).on hb13)
              have sz13 := Lib.hid (show w12.heap.size + 1 ≤ w13.heap.size by have := hb13.size; (try simp only [World.size_alloc] at this); omega)
              have Hb13 := Lib.hid (bthen (bal (Hb12.out) _) hb13)
              clear hb13
              clear bb
              clear hnj2
              have qcb_0 : w13.cell? ⟨w12.heap.size, 0, none⟩ = some (.string dd) := cb.out.cell 0
              have qcb_1 : w13.cell? ⟨w12.heap.size, 1, none⟩ = some (.string (⟨#[]⟩ : ByteArray)) := cb.out.cell 1
              have qcb_l := cb.out.lt
              go_wp2_with fail
              clear qcb_0 qcb_1 qcb_l
              refine (specJRecs_is dd ⟨#[]⟩ true fs _ Hhdj.out Hhfs.out (jb_of (by omega))).mono ?_; rintro e w14 ⟨⟨vf, rfl, of⟩, hb14⟩
              have OF := Lib.hid of
              have GOF := Lib.hid (World.ownsRow.lt of)
              clear of
              replace He := Lib.hid (He.out.on (hb14))
              replace jb := Lib.hid (jb.out.on (hb14))
              replace cb := Lib.hid (cb.out.on (hb14))
              replace OA := Lib.hid (own_below OA.out (hb14))
              have sz14 := Lib.hid (show w13.heap.size + 0 ≤ w14.heap.size by have := hb14.size; (try simp only [World.size_alloc] at this); omega)
              have Hb14 := Lib.hid (bthen (Hb13.out) hb14)
              clear hb14
              clear cb
              clear Hhok Hhal Hhdj Hhfs Hhrs
              have HrA := Lib.hid (Rd.of_own (S := rcS) OA.out rfl); have HrF := Lib.hid (Rd.of_own (S := rcS) OF.out rfl)
              obtain ⟨Aa, ca, rfl, hca, hma, hAa⟩ := HrA.out; unfold maxLen at hma
              obtain ⟨Af, cf, rfl, hcf, hmf, hAf⟩ := HrF.out; unfold maxLen at hmf
              have HAa := Lib.hid hAa; clear hAa
              have HAf := Lib.hid hAf; clear hAf
              clear OA
              clear OF
              clear Hb10 sz11 Hb11 sz12 GOA Hb12 sz13 GOF Hb13 sz14
              clear HrA HrF
              have hDi : ¬ (ml : Int) < (D.size : Int) := by omega
              have hfli : ¬ (al.length : Int) < (fs.length : Int) := by omega
              have qjb_0 : w14.cell? ⟨w1.heap.size, 0, none⟩ = some (.string D) := jb.out.cell 0
              have qjb_1 : w14.cell? ⟨w1.heap.size, 1, none⟩ = some (.string P) := jb.out.cell 1
              have qjb_l := jb.out.lt
              go_wp2
              clear hDi hfli qjb_0 qjb_1 qjb_l
              go_loopw [238] (fun i wr => ∃ j : Nat, j ≤ fs.length ∧ i = .int .i64 (j : Nat) ∧ Below w14.heap.size w14 wr) (fun i _ => fs.length - (intOf i).toNat)
              case atStart => exact ⟨0, Nat.zero_le _, rfl, Below.refl _ _⟩
              case round =>
                obtain ⟨j, hj, rfl, hbi⟩ := hrel
                by_cases hjl : j < fs.length
                · obtain ⟨g8, f8, rfl, hg8, hcell8⟩ := HAf.out (by omega)
                  obtain ⟨f0, f1, f2, f3⟩ := rc_cells hcell8 j hjl
                  obtain ⟨g9, f9, rfl, hg9, hcell9⟩ := HAa.out (by omega)
                  obtain ⟨p0, p1, p2, p3⟩ := rc_cells hcell9 j (by omega)
                  clear hcell8 hcell9
                  rw [Hhfg.out j hjl] at p0 p1 p2 p3
                  rw [← hbi.cell (p := ⟨_, _, _⟩) hg8] at f0 f1 f2 f3
                  rw [← hbi.cell (p := ⟨_, _, _⟩) hg9] at p0 p1 p2 p3
                  generalize rcS.get fs j = z at f0 f1 f2 f3 p0 p1 p2 p3
                  have hnr := neqRc z
                  have hgr8 : g8 < wr.heap.size := Nat.lt_of_lt_of_le hg8 hbi.size
                  have hgr9 : g9 < wr.heap.size := Nat.lt_of_lt_of_le hg9 hbi.size
                  have hi0 : (0 : Int) ≤ (j : Int) := by omega
                  have hi1 : (j : Int) < (fs.length : Int) := by omega
                  have hi2 : (j : Int) < (al.length : Int) := by omega
                  go_wp2
                  refine wp_region_tame (by kernel_rfl) (by kernel_rfl) (fun T _ W hT => ?_)
                  have hx := hT.cell
                  repeat (go_big_quiet_step (fail))
                  refine wpQuiet_nil ?_
                  intro tt
                  clear hx
                  have hb7 := hT.below tt
                  generalize W tt = w77 at hb7 ⊢
                  clear hT
                  go_wp2
                  go_roundw
                  case rel => exact ⟨j + 1, by omega, by go_num, by (repeat (with_reducible first | exact Below.refl _ _ | assumption | refine bal ?_ _ | refine bst ?_ (by simp <;> omega) _ | refine Below.drew ?_ | refine bthen ?_ (by assumption)))⟩
                  case measure => simp [intOf]; omega
                · obtain rfl : j = fs.length := by omega
                  clear hj hjl HAf HAa Hhfg
                  have jb := Lib.hid (jb.out.on hbi)
                  have HbT := Lib.hid (bthen Hb14.out hbi)
                  clear hbi
                  have q0 := jb.out.cell 0; have q1 := jb.out.cell 1; have ql := jb.out.lt
                  simp at q0 q1
                  cases tn
                  · by_cases hkp : k < (P.size : Int)
                    · go_wp2
                      go_ret
                      exact ⟨rfl, HbT.out⟩
                    · have hle := Hhfe.out rfl (by omega)
                      have hlq : ((fs.length : Int) == (al.length : Int)) = true := by rw [hle]; simp
                      clear hle
                      go_wp2
                      go_ret
                      exact ⟨rfl, HbT.out⟩
                  · go_wp2
                    go_ret
                    exact ⟨rfl, HbT.out⟩
        · obtain ⟨hl0, hl1, hl2⟩ := seal_rec Hse.out
          have hl0i : (0 : Int) < (l.size : Int) := by omega
          clear Hse
          rcases hl2 with ⟨hq, hrl⟩ | ⟨hq, hrl⟩
          · subst hq
            have Hrl := Lib.hid hrl; clear hrl
            go_wp2_with fail
            refine (implRecov_is l l l.size true _ Hrl.out (by omega) (He.out.on (Below.refl _ _))).mono ?_; rintro e w11 ⟨rfl, hb11⟩
            replace He := Lib.hid (He.out.on (hb11))
            replace jb := Lib.hid (jb.out.on (hb11))
            have sz11 := Lib.hid (show w10.heap.size + 0 ≤ w11.heap.size by have := hb11.size; (try simp only [World.size_alloc] at this); omega)
            have Hb11 := Lib.hid (bthen (Hb10.out) hb11)
            clear hb11
            as_aux_lemma =>
              clear Hrl
              clear Hb10 sz11
              cases ok
              · go_wp2
                go_ret
                exact ⟨rfl, bal (Hb11.out) _⟩
              · have hss := crash_law Hcr.out
                obtain ⟨⟨hkz, hkP⟩, hok, ml, dd, hrs, hdj, hds, hDm, hfl, hfg, hfe⟩ := hss
                have hsz := reV_size hrs
                obtain ⟨al, hal⟩ : ∃ al, jrV D P = al := ⟨_, rfl⟩
                obtain ⟨fs, hfs⟩ : ∃ fs, jrV dd ⟨#[]⟩ = fs := ⟨_, rfl⟩
                rw [hal, hfs] at hfl hfg hfe
                have Hhok := Lib.hid hok; clear hok
                have Hhrs := Lib.hid hrs; clear hrs
                have Hhdj := Lib.hid hdj; clear hdj
                have Hhal := Lib.hid hal; clear hal
                have Hhfs := Lib.hid hfs; clear hfs
                have Hhfg := Lib.hid hfg; clear hfg
                have Hhfe := Lib.hid hfe; clear hfe
                clear Hcr
                go_wp2_with fail
                refine (implRecov_is s dd ml true _ Hhrs.out (by omega) (He.out.on (bal (Below.refl _ _) _))).mono ?_; rintro e w12 ⟨rfl, hb12⟩
                replace He := Lib.hid (He.out.on (bthen (bal (Below.refl _ _) _) hb12))
                replace jb := Lib.hid (jb.out.on (bthen (bal (Below.refl _ _) _) hb12))
                have ob := Lib.hid ((Blk.new w11 76 #[.string l, .string (⟨#[]⟩ : ByteArray)]).on hb12)
                have sz12 := Lib.hid (show w11.heap.size + 1 ≤ w12.heap.size by have := hb12.size; (try simp only [World.size_alloc] at this); omega)
                have Hb12 := Lib.hid (bthen (bal (Hb11.out) _) hb12)
                clear hb12
                go_wp2_with fail
                refine (specRecov_is s dd ml true _ Hhrs.out (by omega)).mono ?_; rintro e w13 ⟨rfl, hb13⟩
                replace He := Lib.hid (He.out.on (bthen (bal (Below.refl _ _) _) hb13))
                replace jb := Lib.hid (jb.out.on (bthen (bal (Below.refl _ _) _) hb13))
                replace ob := Lib.hid (ob.out.on (bthen (bal (Below.refl _ _) _) hb13))
                have bb := Lib.hid ((Blk.new w12 76 #[.string dd, .string (⟨#[]⟩ : ByteArray)]).on hb13)
                have sz13 := Lib.hid (show w12.heap.size + 1 ≤ w13.heap.size by have := hb13.size; (try simp only [World.size_alloc] at this); omega)
                have Hb13 := Lib.hid (bthen (bal (Hb12.out) _) hb13)
                clear hb13
                have hnj2 := neqJn dd ⟨#[]⟩
                have qjb_0 : w13.cell? ⟨w1.heap.size, 0, none⟩ = some (.string D) := jb.out.cell 0
                have qjb_1 : w13.cell? ⟨w1.heap.size, 1, none⟩ = some (.string P) := jb.out.cell 1
                have qjb_l := jb.out.lt
                have qbb_0 : w13.cell? ⟨w12.heap.size, 0, none⟩ = some (.string dd) := bb.out.cell 0
                have qbb_1 : w13.cell? ⟨w12.heap.size, 1, none⟩ = some (.string (⟨#[]⟩ : ByteArray)) := bb.out.cell 1
                have qbb_l := bb.out.lt
                go_wp2_with fail
                clear qjb_0 qjb_1 qjb_l qbb_0 qbb_1 qbb_l
                refine (specJRecs_is D P true al _ Hhok.out Hhal.out ⟨by omega⟩).mono ?_; rintro e w14 ⟨⟨va, rfl, oa⟩, hb14⟩
                have OA := Lib.hid oa
                have GOA := Lib.hid (World.ownsRow.lt oa)
                clear oa
                replace He := Lib.hid (He.out.on (bthen (bal (Below.refl _ _) _) hb14))
                replace jb := Lib.hid (jb.out.on (bthen (bal (Below.refl _ _) _) hb14))
                replace ob := Lib.hid (ob.out.on (bthen (bal (Below.refl _ _) _) hb14))
                replace bb := Lib.hid (bb.out.on (bthen (bal (Below.refl _ _) _) hb14))
                have cb := Lib.hid ((Blk.new w13 76 #[.string dd, .string (⟨#[]⟩ : ByteArray)]).on hb14)
                have sz14 := Lib.hid (show w13.heap.size + 1 ≤ w14.heap.size by have := hb14.size; (try simp only [World.size_alloc] at this); omega)
                have Hb14 := Lib.hid (bthen (bal (Hb13.out) _) hb14)
                clear hb14
                clear bb
                clear hnj2
                have qcb_0 : w14.cell? ⟨w13.heap.size, 0, none⟩ = some (.string dd) := cb.out.cell 0
                have qcb_1 : w14.cell? ⟨w13.heap.size, 1, none⟩ = some (.string (⟨#[]⟩ : ByteArray)) := cb.out.cell 1
                have qcb_l := cb.out.lt
                go_wp2_with fail
                clear qcb_0 qcb_1 qcb_l
                refine (specJRecs_is dd ⟨#[]⟩ true fs _ Hhdj.out Hhfs.out (jb_of (by omega))).mono ?_; rintro e w15 ⟨⟨vf, rfl, of⟩, hb15⟩
                have OF := Lib.hid of
                have GOF := Lib.hid (World.ownsRow.lt of)
                clear of
                replace He := Lib.hid (He.out.on (hb15))
                replace jb := Lib.hid (jb.out.on (hb15))
                replace ob := Lib.hid (ob.out.on (hb15))
                replace cb := Lib.hid (cb.out.on (hb15))
                replace OA := Lib.hid (own_below OA.out (hb15))
                have sz15 := Lib.hid (show w14.heap.size + 0 ≤ w15.heap.size by have := hb15.size; (try simp only [World.size_alloc] at this); omega)
                have Hb15 := Lib.hid (bthen (Hb14.out) hb15)
                clear hb15
                clear cb
                clear Hhok Hhal Hhdj Hhfs Hhrs
                have HrA := Lib.hid (Rd.of_own (S := rcS) OA.out rfl); have HrF := Lib.hid (Rd.of_own (S := rcS) OF.out rfl)
                obtain ⟨Aa, ca, rfl, hca, hma, hAa⟩ := HrA.out; unfold maxLen at hma
                obtain ⟨Af, cf, rfl, hcf, hmf, hAf⟩ := HrF.out; unfold maxLen at hmf
                have HAa := Lib.hid hAa; clear hAa
                have HAf := Lib.hid hAf; clear hAf
                clear OA
                clear OF
                clear Hb11 sz12 Hb12 sz13 GOA Hb13 sz14 GOF Hb14 sz15
                clear HrA HrF
                have hDi : ¬ (ml : Int) < (D.size : Int) := by omega
                have hfli : ¬ (al.length : Int) < (fs.length : Int) := by omega
                have qjb_0 : w15.cell? ⟨w1.heap.size, 0, none⟩ = some (.string D) := jb.out.cell 0
                have qjb_1 : w15.cell? ⟨w1.heap.size, 1, none⟩ = some (.string P) := jb.out.cell 1
                have qjb_l := jb.out.lt
                go_wp2
                clear hDi hfli qjb_0 qjb_1 qjb_l
                go_loopw [238] (fun i wr => ∃ j : Nat, j ≤ fs.length ∧ i = .int .i64 (j : Nat) ∧ Below w15.heap.size w15 wr) (fun i _ => fs.length - (intOf i).toNat)
                case atStart => exact ⟨0, Nat.zero_le _, rfl, Below.refl _ _⟩
                case round =>
                  obtain ⟨j, hj, rfl, hbi⟩ := hrel
                  by_cases hjl : j < fs.length
                  · obtain ⟨g8, f8, rfl, hg8, hcell8⟩ := HAf.out (by omega)
                    obtain ⟨f0, f1, f2, f3⟩ := rc_cells hcell8 j hjl
                    obtain ⟨g9, f9, rfl, hg9, hcell9⟩ := HAa.out (by omega)
                    obtain ⟨p0, p1, p2, p3⟩ := rc_cells hcell9 j (by omega)
                    clear hcell8 hcell9
                    rw [Hhfg.out j hjl] at p0 p1 p2 p3
                    rw [← hbi.cell (p := ⟨_, _, _⟩) hg8] at f0 f1 f2 f3
                    rw [← hbi.cell (p := ⟨_, _, _⟩) hg9] at p0 p1 p2 p3
                    generalize rcS.get fs j = z at f0 f1 f2 f3 p0 p1 p2 p3
                    have hnr := neqRc z
                    have hgr8 : g8 < wr.heap.size := Nat.lt_of_lt_of_le hg8 hbi.size
                    have hgr9 : g9 < wr.heap.size := Nat.lt_of_lt_of_le hg9 hbi.size
                    have hi0 : (0 : Int) ≤ (j : Int) := by omega
                    have hi1 : (j : Int) < (fs.length : Int) := by omega
                    have hi2 : (j : Int) < (al.length : Int) := by omega
                    go_wp2
                    refine wp_region_tame (by kernel_rfl) (by kernel_rfl) (fun T _ W hT => ?_)
                    have hx := hT.cell
                    repeat (go_big_quiet_step (fail))
                    refine wpQuiet_nil ?_
                    intro tt
                    clear hx
                    have hb7 := hT.below tt
                    generalize W tt = w77 at hb7 ⊢
                    clear hT
                    go_wp2
                    go_roundw
                    case rel => exact ⟨j + 1, by omega, by go_num, by (repeat (with_reducible first | exact Below.refl _ _ | assumption | refine bal ?_ _ | refine bst ?_ (by simp <;> omega) _ | refine Below.drew ?_ | refine bthen ?_ (by assumption)))⟩
                    case measure => simp [intOf]; omega
                  · obtain rfl : j = fs.length := by omega
                    clear hj hjl HAf HAa Hhfg
                    have jb := Lib.hid (jb.out.on hbi)
                    have HbT := Lib.hid (bthen Hb15.out hbi)
                    clear hbi
                    have q0 := jb.out.cell 0; have q1 := jb.out.cell 1; have ql := jb.out.lt
                    simp at q0 q1
                    cases tn
                    · by_cases hkp : k < (P.size : Int)
                      · go_wp2
                        go_ret
                        exact ⟨rfl, HbT.out⟩
                      · have hle := Hhfe.out rfl (by omega)
                        have hlq : ((fs.length : Int) == (al.length : Int)) = true := by rw [hle]; simp
                        clear hle
                        go_wp2
                        go_ret
                        exact ⟨rfl, HbT.out⟩
                    · go_wp2
                      go_ret
                      exact ⟨rfl, HbT.out⟩
          · have hqb : (q == 0) = false := beq_eq_false_iff_ne.2 hq
            have hzl : ((0 : Int) == (l.size : Int)) = false := beq_eq_false_iff_ne.2 (by omega)
            have Hrl := Lib.hid hrl; clear hrl
            go_wp2_with fail
            refine (implRecov_is l ⟨#[]⟩ 0 true _ Hrl.out (by omega) (He.out.on (Below.refl _ _))).mono ?_; rintro e w11 ⟨rfl, hb11⟩
            replace He := Lib.hid (He.out.on (hb11))
            replace jb := Lib.hid (jb.out.on (hb11))
            have sz11 := Lib.hid (show w10.heap.size + 0 ≤ w11.heap.size by have := hb11.size; (try simp only [World.size_alloc] at this); omega)
            have Hb11 := Lib.hid (bthen (Hb10.out) hb11)
            clear hb11
            as_aux_lemma =>
              clear Hrl
              clear Hb10 sz11
              cases ok
              · go_wp2
                go_ret
                exact ⟨rfl, bal (Hb11.out) _⟩
              · have hss := crash_law Hcr.out
                obtain ⟨⟨hkz, hkP⟩, hok, ml, dd, hrs, hdj, hds, hDm, hfl, hfg, hfe⟩ := hss
                have hsz := reV_size hrs
                obtain ⟨al, hal⟩ : ∃ al, jrV D P = al := ⟨_, rfl⟩
                obtain ⟨fs, hfs⟩ : ∃ fs, jrV dd ⟨#[]⟩ = fs := ⟨_, rfl⟩
                rw [hal, hfs] at hfl hfg hfe
                have Hhok := Lib.hid hok; clear hok
                have Hhrs := Lib.hid hrs; clear hrs
                have Hhdj := Lib.hid hdj; clear hdj
                have Hhal := Lib.hid hal; clear hal
                have Hhfs := Lib.hid hfs; clear hfs
                have Hhfg := Lib.hid hfg; clear hfg
                have Hhfe := Lib.hid hfe; clear hfe
                clear Hcr
                go_wp2_with fail
                refine (implRecov_is s dd ml true _ Hhrs.out (by omega) (He.out.on (bal (Below.refl _ _) _))).mono ?_; rintro e w12 ⟨rfl, hb12⟩
                replace He := Lib.hid (He.out.on (bthen (bal (Below.refl _ _) _) hb12))
                replace jb := Lib.hid (jb.out.on (bthen (bal (Below.refl _ _) _) hb12))
                have ob := Lib.hid ((Blk.new w11 76 #[.string (⟨#[]⟩ : ByteArray), .string (⟨#[]⟩ : ByteArray)]).on hb12)
                have sz12 := Lib.hid (show w11.heap.size + 1 ≤ w12.heap.size by have := hb12.size; (try simp only [World.size_alloc] at this); omega)
                have Hb12 := Lib.hid (bthen (bal (Hb11.out) _) hb12)
                clear hb12
                go_wp2_with fail
                refine (specRecov_is s dd ml true _ Hhrs.out (by omega)).mono ?_; rintro e w13 ⟨rfl, hb13⟩
                replace He := Lib.hid (He.out.on (bthen (bal (Below.refl _ _) _) hb13))
                replace jb := Lib.hid (jb.out.on (bthen (bal (Below.refl _ _) _) hb13))
                replace ob := Lib.hid (ob.out.on (bthen (bal (Below.refl _ _) _) hb13))
                have bb := Lib.hid ((Blk.new w12 76 #[.string dd, .string (⟨#[]⟩ : ByteArray)]).on hb13)
                have sz13 := Lib.hid (show w12.heap.size + 1 ≤ w13.heap.size by have := hb13.size; (try simp only [World.size_alloc] at this); omega)
                have Hb13 := Lib.hid (bthen (bal (Hb12.out) _) hb13)
                clear hb13
                have hnj2 := neqJn dd ⟨#[]⟩
                have qjb_0 : w13.cell? ⟨w1.heap.size, 0, none⟩ = some (.string D) := jb.out.cell 0
                have qjb_1 : w13.cell? ⟨w1.heap.size, 1, none⟩ = some (.string P) := jb.out.cell 1
                have qjb_l := jb.out.lt
                have qbb_0 : w13.cell? ⟨w12.heap.size, 0, none⟩ = some (.string dd) := bb.out.cell 0
                have qbb_1 : w13.cell? ⟨w12.heap.size, 1, none⟩ = some (.string (⟨#[]⟩ : ByteArray)) := bb.out.cell 1
                have qbb_l := bb.out.lt
                go_wp2_with fail
                clear qjb_0 qjb_1 qjb_l qbb_0 qbb_1 qbb_l
                refine (specJRecs_is D P true al _ Hhok.out Hhal.out ⟨by omega⟩).mono ?_; rintro e w14 ⟨⟨va, rfl, oa⟩, hb14⟩
                have OA := Lib.hid oa
                have GOA := Lib.hid (World.ownsRow.lt oa)
                clear oa
                replace He := Lib.hid (He.out.on (bthen (bal (Below.refl _ _) _) hb14))
                replace jb := Lib.hid (jb.out.on (bthen (bal (Below.refl _ _) _) hb14))
                replace ob := Lib.hid (ob.out.on (bthen (bal (Below.refl _ _) _) hb14))
                replace bb := Lib.hid (bb.out.on (bthen (bal (Below.refl _ _) _) hb14))
                have cb := Lib.hid ((Blk.new w13 76 #[.string dd, .string (⟨#[]⟩ : ByteArray)]).on hb14)
                have sz14 := Lib.hid (show w13.heap.size + 1 ≤ w14.heap.size by have := hb14.size; (try simp only [World.size_alloc] at this); omega)
                have Hb14 := Lib.hid (bthen (bal (Hb13.out) _) hb14)
                clear hb14
                clear bb
                clear hnj2
                have qcb_0 : w14.cell? ⟨w13.heap.size, 0, none⟩ = some (.string dd) := cb.out.cell 0
                have qcb_1 : w14.cell? ⟨w13.heap.size, 1, none⟩ = some (.string (⟨#[]⟩ : ByteArray)) := cb.out.cell 1
                have qcb_l := cb.out.lt
                go_wp2_with fail
                clear qcb_0 qcb_1 qcb_l
                refine (specJRecs_is dd ⟨#[]⟩ true fs _ Hhdj.out Hhfs.out (jb_of (by omega))).mono ?_; rintro e w15 ⟨⟨vf, rfl, of⟩, hb15⟩
                have OF := Lib.hid of
                have GOF := Lib.hid (World.ownsRow.lt of)
                clear of
                replace He := Lib.hid (He.out.on (hb15))
                replace jb := Lib.hid (jb.out.on (hb15))
                replace ob := Lib.hid (ob.out.on (hb15))
                replace cb := Lib.hid (cb.out.on (hb15))
                replace OA := Lib.hid (own_below OA.out (hb15))
                have sz15 := Lib.hid (show w14.heap.size + 0 ≤ w15.heap.size by have := hb15.size; (try simp only [World.size_alloc] at this); omega)
                have Hb15 := Lib.hid (bthen (Hb14.out) hb15)
                clear hb15
                clear cb
                clear Hhok Hhal Hhdj Hhfs Hhrs
                have HrA := Lib.hid (Rd.of_own (S := rcS) OA.out rfl); have HrF := Lib.hid (Rd.of_own (S := rcS) OF.out rfl)
                obtain ⟨Aa, ca, rfl, hca, hma, hAa⟩ := HrA.out; unfold maxLen at hma
                obtain ⟨Af, cf, rfl, hcf, hmf, hAf⟩ := HrF.out; unfold maxLen at hmf
                have HAa := Lib.hid hAa; clear hAa
                have HAf := Lib.hid hAf; clear hAf
                clear OA
                clear OF
                clear Hb11 sz12 Hb12 sz13 GOA Hb13 sz14 GOF Hb14 sz15
                clear HrA HrF
                have hDi : ¬ (ml : Int) < (D.size : Int) := by omega
                have hfli : ¬ (al.length : Int) < (fs.length : Int) := by omega
                have qjb_0 : w15.cell? ⟨w1.heap.size, 0, none⟩ = some (.string D) := jb.out.cell 0
                have qjb_1 : w15.cell? ⟨w1.heap.size, 1, none⟩ = some (.string P) := jb.out.cell 1
                have qjb_l := jb.out.lt
                go_wp2
                clear hDi hfli qjb_0 qjb_1 qjb_l
                go_loopw [238] (fun i wr => ∃ j : Nat, j ≤ fs.length ∧ i = .int .i64 (j : Nat) ∧ Below w15.heap.size w15 wr) (fun i _ => fs.length - (intOf i).toNat)
                case atStart => exact ⟨0, Nat.zero_le _, rfl, Below.refl _ _⟩
                case round =>
                  obtain ⟨j, hj, rfl, hbi⟩ := hrel
                  by_cases hjl : j < fs.length
                  · obtain ⟨g8, f8, rfl, hg8, hcell8⟩ := HAf.out (by omega)
                    obtain ⟨f0, f1, f2, f3⟩ := rc_cells hcell8 j hjl
                    obtain ⟨g9, f9, rfl, hg9, hcell9⟩ := HAa.out (by omega)
                    obtain ⟨p0, p1, p2, p3⟩ := rc_cells hcell9 j (by omega)
                    clear hcell8 hcell9
                    rw [Hhfg.out j hjl] at p0 p1 p2 p3
                    rw [← hbi.cell (p := ⟨_, _, _⟩) hg8] at f0 f1 f2 f3
                    rw [← hbi.cell (p := ⟨_, _, _⟩) hg9] at p0 p1 p2 p3
                    generalize rcS.get fs j = z at f0 f1 f2 f3 p0 p1 p2 p3
                    have hnr := neqRc z
                    have hgr8 : g8 < wr.heap.size := Nat.lt_of_lt_of_le hg8 hbi.size
                    have hgr9 : g9 < wr.heap.size := Nat.lt_of_lt_of_le hg9 hbi.size
                    have hi0 : (0 : Int) ≤ (j : Int) := by omega
                    have hi1 : (j : Int) < (fs.length : Int) := by omega
                    have hi2 : (j : Int) < (al.length : Int) := by omega
                    go_wp2
                    refine wp_region_tame (by kernel_rfl) (by kernel_rfl) (fun T _ W hT => ?_)
                    have hx := hT.cell
                    repeat (go_big_quiet_step (fail))
                    refine wpQuiet_nil ?_
                    intro tt
                    clear hx
                    have hb7 := hT.below tt
                    generalize W tt = w77 at hb7 ⊢
                    clear hT
                    go_wp2
                    go_roundw
                    case rel => exact ⟨j + 1, by omega, by go_num, by (repeat (with_reducible first | exact Below.refl _ _ | assumption | refine bal ?_ _ | refine bst ?_ (by simp <;> omega) _ | refine Below.drew ?_ | refine bthen ?_ (by assumption)))⟩
                    case measure => simp [intOf]; omega
                  · obtain rfl : j = fs.length := by omega
                    clear hj hjl HAf HAa Hhfg
                    have jb := Lib.hid (jb.out.on hbi)
                    have HbT := Lib.hid (bthen Hb15.out hbi)
                    clear hbi
                    have q0 := jb.out.cell 0; have q1 := jb.out.cell 1; have ql := jb.out.lt
                    simp at q0 q1
                    cases tn
                    · by_cases hkp : k < (P.size : Int)
                      · go_wp2
                        go_ret
                        exact ⟨rfl, HbT.out⟩
                      · have hle := Hhfe.out rfl (by omega)
                        have hlq : ((fs.length : Int) == (al.length : Int)) = true := by rw [hle]; simp
                        clear hle
                        go_wp2
                        go_ret
                        exact ⟨rfl, HbT.out⟩
                    · go_wp2
                      go_ret
                      exact ⟨rfl, HbT.out⟩
      · obtain ⟨hrd, hrn, hrj⟩ := reV_law Hre.out
        subst hrd
        have Hrj := Lib.hid hrj; clear hrj
        have hrni : (rn : Int) ≤ (t.size : Int) := by omega
        have hrn0 : (0 : Int) ≤ (rn : Int) := by omega
        have Hjb := Lib.hid (jb_of (d := t.extract 0 rn) (by rw [ByteArray.size_extract]; omega))
        have qrb_0 : w9.cell? ⟨w5.heap.size, 0, none⟩ = some (.string (t.extract 0 rn)) := rb.out.cell 0
        have qrb_1 : w9.cell? ⟨w5.heap.size, 1, none⟩ = some (.string (⟨#[]⟩ : ByteArray)) := rb.out.cell 1
        have qrb_l := rb.out.lt
        have qrc_0 : w9.cell? ⟨w6.heap.size, 0, none⟩ = some (.string (t.extract 0 rn)) := rc.out.cell 0
        have qrc_1 : w9.cell? ⟨w6.heap.size, 1, none⟩ = some (.string (⟨#[]⟩ : ByteArray)) := rc.out.cell 1
        have qrc_l := rc.out.lt
        go_wp2_with fail
        refine wp_region_tame (by kernel_rfl) (by kernel_rfl) (fun T _ W hT => ?_)
        have hx := hT.cell
        repeat (go_big_quiet_step ((first | (go_at_call 68; exact hT.call (implIsJ_is _ _ true _ Hrj.out Hjb.out (He.out.on (hT.below _)))))))
        refine wpQuiet_nil ?_
        intro tt
        clear hx
        have hb10 := hT.below tt
        generalize W tt = w10 at hb10 ⊢
        clear hT
        clear qrb_0 qrb_1 qrb_l qrc_0 qrc_1 qrc_l
        replace He := Lib.hid (He.out.on (hb10))
        replace jb := Lib.hid (jb.out.on (hb10))
        replace rb := Lib.hid (rb.out.on (hb10))
        replace rc := Lib.hid (rc.out.on (hb10))
        have sz10 := Lib.hid (show w9.heap.size + 0 ≤ w10.heap.size by have := hb10.size; (try simp only [World.size_alloc] at this); omega)
        have Hb10 := Lib.hid (bthen (Hb9.out) hb10)
        clear hb10
        clear rb
        clear rc
        clear Hre hnj Hrj Hjb hrni hrn0 hrn
        clear sz1 Hb1 sz2 Hb2 sz3 Hb3 sz4 Hb4 sz5 Hb5 sz6 Hb6 sz7 Hb7 sz8 Hb8 sz9 Hb9 sz10
        cases three
        · as_aux_lemma =>
            cases ok
            · go_wp2
              go_ret
              exact ⟨rfl, Hb10.out⟩
            · have hss := crash_law Hcr.out
              obtain ⟨⟨hkz, hkP⟩, hok, ml, dd, hrs, hdj, hds, hDm, hfl, hfg, hfe⟩ := hss
              have hsz := reV_size hrs
              obtain ⟨al, hal⟩ : ∃ al, jrV D P = al := ⟨_, rfl⟩
              obtain ⟨fs, hfs⟩ : ∃ fs, jrV dd ⟨#[]⟩ = fs := ⟨_, rfl⟩
              rw [hal, hfs] at hfl hfg hfe
              have Hhok := Lib.hid hok; clear hok
              have Hhrs := Lib.hid hrs; clear hrs
              have Hhdj := Lib.hid hdj; clear hdj
              have Hhal := Lib.hid hal; clear hal
              have Hhfs := Lib.hid hfs; clear hfs
              have Hhfg := Lib.hid hfg; clear hfg
              have Hhfe := Lib.hid hfe; clear hfe
              clear Hcr
              go_wp2_with fail
              refine (implRecov_is s dd ml true _ Hhrs.out (by omega) (He.out.on (Below.refl _ _))).mono ?_; rintro e w11 ⟨rfl, hb11⟩
              replace He := Lib.hid (He.out.on (hb11))
              replace jb := Lib.hid (jb.out.on (hb11))
              have sz11 := Lib.hid (show w10.heap.size + 0 ≤ w11.heap.size by have := hb11.size; (try simp only [World.size_alloc] at this); omega)
              have Hb11 := Lib.hid (bthen (Hb10.out) hb11)
              clear hb11
              go_wp2_with fail
              refine (specRecov_is s dd ml true _ Hhrs.out (by omega)).mono ?_; rintro e w12 ⟨rfl, hb12⟩
              replace He := Lib.hid (He.out.on (bthen (bal (Below.refl _ _) _) hb12))
              replace jb := Lib.hid (jb.out.on (bthen (bal (Below.refl _ _) _) hb12))
              have bb := Lib.hid ((Blk.new w11 76 #[.string dd, .string (⟨#[]⟩ : ByteArray)]).on hb12)
              have sz12 := Lib.hid (show w11.heap.size + 1 ≤ w12.heap.size by have := hb12.size; (try simp only [World.size_alloc] at this); omega)
              have Hb12 := Lib.hid (bthen (bal (Hb11.out) _) hb12)
              clear hb12
              have hnj2 := neqJn dd ⟨#[]⟩
              have qjb_0 : w12.cell? ⟨w1.heap.size, 0, none⟩ = some (.string D) := jb.out.cell 0
              have qjb_1 : w12.cell? ⟨w1.heap.size, 1, none⟩ = some (.string P) := jb.out.cell 1
              have qjb_l := jb.out.lt
              have qbb_0 : w12.cell? ⟨w11.heap.size, 0, none⟩ = some (.string dd) := bb.out.cell 0
              have qbb_1 : w12.cell? ⟨w11.heap.size, 1, none⟩ = some (.string (⟨#[]⟩ : ByteArray)) := bb.out.cell 1
              have qbb_l := bb.out.lt
              go_wp2_with fail
              clear qjb_0 qjb_1 qjb_l qbb_0 qbb_1 qbb_l
              refine (specJRecs_is D P true al _ Hhok.out Hhal.out ⟨by omega⟩).mono ?_; rintro e w13 ⟨⟨va, rfl, oa⟩, hb13⟩
              have OA := Lib.hid oa
              have GOA := Lib.hid (World.ownsRow.lt oa)
              clear oa
              replace He := Lib.hid (He.out.on (bthen (bal (Below.refl _ _) _) hb13))
              replace jb := Lib.hid (jb.out.on (bthen (bal (Below.refl _ _) _) hb13))
              replace bb := Lib.hid (bb.out.on (bthen (bal (Below.refl _ _) _) hb13))
              have cb := Lib.hid ((Blk.new w12 76 #[.string dd, .string (⟨#[]⟩ : ByteArray)]).on hb13)
              have sz13 := Lib.hid (show w12.heap.size + 1 ≤ w13.heap.size by have := hb13.size; (try simp only [World.size_alloc] at this); omega)
              have Hb13 := Lib.hid (bthen (bal (Hb12.out) _) hb13)
              clear hb13
              clear bb
              clear hnj2
              have qcb_0 : w13.cell? ⟨w12.heap.size, 0, none⟩ = some (.string dd) := cb.out.cell 0
              have qcb_1 : w13.cell? ⟨w12.heap.size, 1, none⟩ = some (.string (⟨#[]⟩ : ByteArray)) := cb.out.cell 1
              have qcb_l := cb.out.lt
              go_wp2_with fail
              clear qcb_0 qcb_1 qcb_l
              refine (specJRecs_is dd ⟨#[]⟩ true fs _ Hhdj.out Hhfs.out (jb_of (by omega))).mono ?_; rintro e w14 ⟨⟨vf, rfl, of⟩, hb14⟩
              have OF := Lib.hid of
              have GOF := Lib.hid (World.ownsRow.lt of)
              clear of
              replace He := Lib.hid (He.out.on (hb14))
              replace jb := Lib.hid (jb.out.on (hb14))
              replace cb := Lib.hid (cb.out.on (hb14))
              replace OA := Lib.hid (own_below OA.out (hb14))
              have sz14 := Lib.hid (show w13.heap.size + 0 ≤ w14.heap.size by have := hb14.size; (try simp only [World.size_alloc] at this); omega)
              have Hb14 := Lib.hid (bthen (Hb13.out) hb14)
              clear hb14
              clear cb
              clear Hhok Hhal Hhdj Hhfs Hhrs
              have HrA := Lib.hid (Rd.of_own (S := rcS) OA.out rfl); have HrF := Lib.hid (Rd.of_own (S := rcS) OF.out rfl)
              obtain ⟨Aa, ca, rfl, hca, hma, hAa⟩ := HrA.out; unfold maxLen at hma
              obtain ⟨Af, cf, rfl, hcf, hmf, hAf⟩ := HrF.out; unfold maxLen at hmf
              have HAa := Lib.hid hAa; clear hAa
              have HAf := Lib.hid hAf; clear hAf
              clear OA
              clear OF
              clear Hb10 sz11 Hb11 sz12 GOA Hb12 sz13 GOF Hb13 sz14
              clear HrA HrF
              have hDi : ¬ (ml : Int) < (D.size : Int) := by omega
              have hfli : ¬ (al.length : Int) < (fs.length : Int) := by omega
              have qjb_0 : w14.cell? ⟨w1.heap.size, 0, none⟩ = some (.string D) := jb.out.cell 0
              have qjb_1 : w14.cell? ⟨w1.heap.size, 1, none⟩ = some (.string P) := jb.out.cell 1
              have qjb_l := jb.out.lt
              go_wp2
              clear hDi hfli qjb_0 qjb_1 qjb_l
              go_loopw [238] (fun i wr => ∃ j : Nat, j ≤ fs.length ∧ i = .int .i64 (j : Nat) ∧ Below w14.heap.size w14 wr) (fun i _ => fs.length - (intOf i).toNat)
              case atStart => exact ⟨0, Nat.zero_le _, rfl, Below.refl _ _⟩
              case round =>
                obtain ⟨j, hj, rfl, hbi⟩ := hrel
                by_cases hjl : j < fs.length
                · obtain ⟨g8, f8, rfl, hg8, hcell8⟩ := HAf.out (by omega)
                  obtain ⟨f0, f1, f2, f3⟩ := rc_cells hcell8 j hjl
                  obtain ⟨g9, f9, rfl, hg9, hcell9⟩ := HAa.out (by omega)
                  obtain ⟨p0, p1, p2, p3⟩ := rc_cells hcell9 j (by omega)
                  clear hcell8 hcell9
                  rw [Hhfg.out j hjl] at p0 p1 p2 p3
                  rw [← hbi.cell (p := ⟨_, _, _⟩) hg8] at f0 f1 f2 f3
                  rw [← hbi.cell (p := ⟨_, _, _⟩) hg9] at p0 p1 p2 p3
                  generalize rcS.get fs j = z at f0 f1 f2 f3 p0 p1 p2 p3
                  have hnr := neqRc z
                  have hgr8 : g8 < wr.heap.size := Nat.lt_of_lt_of_le hg8 hbi.size
                  have hgr9 : g9 < wr.heap.size := Nat.lt_of_lt_of_le hg9 hbi.size
                  have hi0 : (0 : Int) ≤ (j : Int) := by omega
                  have hi1 : (j : Int) < (fs.length : Int) := by omega
                  have hi2 : (j : Int) < (al.length : Int) := by omega
                  go_wp2
                  refine wp_region_tame (by kernel_rfl) (by kernel_rfl) (fun T _ W hT => ?_)
                  have hx := hT.cell
                  repeat (go_big_quiet_step (fail))
                  refine wpQuiet_nil ?_
                  intro tt
                  clear hx
                  have hb7 := hT.below tt
                  generalize W tt = w77 at hb7 ⊢
                  clear hT
                  go_wp2
                  go_roundw
                  case rel => exact ⟨j + 1, by omega, by go_num, by (repeat (with_reducible first | exact Below.refl _ _ | assumption | refine bal ?_ _ | refine bst ?_ (by simp <;> omega) _ | refine Below.drew ?_ | refine bthen ?_ (by assumption)))⟩
                  case measure => simp [intOf]; omega
                · obtain rfl : j = fs.length := by omega
                  clear hj hjl HAf HAa Hhfg
                  have jb := Lib.hid (jb.out.on hbi)
                  have HbT := Lib.hid (bthen Hb14.out hbi)
                  clear hbi
                  have q0 := jb.out.cell 0; have q1 := jb.out.cell 1; have ql := jb.out.lt
                  simp at q0 q1
                  cases tn
                  · by_cases hkp : k < (P.size : Int)
                    · go_wp2
                      go_ret
                      exact ⟨rfl, HbT.out⟩
                    · have hle := Hhfe.out rfl (by omega)
                      have hlq : ((fs.length : Int) == (al.length : Int)) = true := by rw [hle]; simp
                      clear hle
                      go_wp2
                      go_ret
                      exact ⟨rfl, HbT.out⟩
                  · go_wp2
                    go_ret
                    exact ⟨rfl, HbT.out⟩
        · obtain ⟨hl0, hl1, hl2⟩ := seal_rec Hse.out
          have hl0i : (0 : Int) < (l.size : Int) := by omega
          clear Hse
          rcases hl2 with ⟨hq, hrl⟩ | ⟨hq, hrl⟩
          · subst hq
            have Hrl := Lib.hid hrl; clear hrl
            go_wp2_with fail
            refine (implRecov_is l l l.size true _ Hrl.out (by omega) (He.out.on (Below.refl _ _))).mono ?_; rintro e w11 ⟨rfl, hb11⟩
            replace He := Lib.hid (He.out.on (hb11))
            replace jb := Lib.hid (jb.out.on (hb11))
            have sz11 := Lib.hid (show w10.heap.size + 0 ≤ w11.heap.size by have := hb11.size; (try simp only [World.size_alloc] at this); omega)
            have Hb11 := Lib.hid (bthen (Hb10.out) hb11)
            clear hb11
            as_aux_lemma =>
              clear Hrl
              clear Hb10 sz11
              cases ok
              · go_wp2
                go_ret
                exact ⟨rfl, bal (Hb11.out) _⟩
              · have hss := crash_law Hcr.out
                obtain ⟨⟨hkz, hkP⟩, hok, ml, dd, hrs, hdj, hds, hDm, hfl, hfg, hfe⟩ := hss
                have hsz := reV_size hrs
                obtain ⟨al, hal⟩ : ∃ al, jrV D P = al := ⟨_, rfl⟩
                obtain ⟨fs, hfs⟩ : ∃ fs, jrV dd ⟨#[]⟩ = fs := ⟨_, rfl⟩
                rw [hal, hfs] at hfl hfg hfe
                have Hhok := Lib.hid hok; clear hok
                have Hhrs := Lib.hid hrs; clear hrs
                have Hhdj := Lib.hid hdj; clear hdj
                have Hhal := Lib.hid hal; clear hal
                have Hhfs := Lib.hid hfs; clear hfs
                have Hhfg := Lib.hid hfg; clear hfg
                have Hhfe := Lib.hid hfe; clear hfe
                clear Hcr
                go_wp2_with fail
                refine (implRecov_is s dd ml true _ Hhrs.out (by omega) (He.out.on (bal (Below.refl _ _) _))).mono ?_; rintro e w12 ⟨rfl, hb12⟩
                replace He := Lib.hid (He.out.on (bthen (bal (Below.refl _ _) _) hb12))
                replace jb := Lib.hid (jb.out.on (bthen (bal (Below.refl _ _) _) hb12))
                have ob := Lib.hid ((Blk.new w11 76 #[.string l, .string (⟨#[]⟩ : ByteArray)]).on hb12)
                have sz12 := Lib.hid (show w11.heap.size + 1 ≤ w12.heap.size by have := hb12.size; (try simp only [World.size_alloc] at this); omega)
                have Hb12 := Lib.hid (bthen (bal (Hb11.out) _) hb12)
                clear hb12
                go_wp2_with fail
                refine (specRecov_is s dd ml true _ Hhrs.out (by omega)).mono ?_; rintro e w13 ⟨rfl, hb13⟩
                replace He := Lib.hid (He.out.on (bthen (bal (Below.refl _ _) _) hb13))
                replace jb := Lib.hid (jb.out.on (bthen (bal (Below.refl _ _) _) hb13))
                replace ob := Lib.hid (ob.out.on (bthen (bal (Below.refl _ _) _) hb13))
                have bb := Lib.hid ((Blk.new w12 76 #[.string dd, .string (⟨#[]⟩ : ByteArray)]).on hb13)
                have sz13 := Lib.hid (show w12.heap.size + 1 ≤ w13.heap.size by have := hb13.size; (try simp only [World.size_alloc] at this); omega)
                have Hb13 := Lib.hid (bthen (bal (Hb12.out) _) hb13)
                clear hb13
                have hnj2 := neqJn dd ⟨#[]⟩
                have qjb_0 : w13.cell? ⟨w1.heap.size, 0, none⟩ = some (.string D) := jb.out.cell 0
                have qjb_1 : w13.cell? ⟨w1.heap.size, 1, none⟩ = some (.string P) := jb.out.cell 1
                have qjb_l := jb.out.lt
                have qbb_0 : w13.cell? ⟨w12.heap.size, 0, none⟩ = some (.string dd) := bb.out.cell 0
                have qbb_1 : w13.cell? ⟨w12.heap.size, 1, none⟩ = some (.string (⟨#[]⟩ : ByteArray)) := bb.out.cell 1
                have qbb_l := bb.out.lt
                go_wp2_with fail
                clear qjb_0 qjb_1 qjb_l qbb_0 qbb_1 qbb_l
                refine (specJRecs_is D P true al _ Hhok.out Hhal.out ⟨by omega⟩).mono ?_; rintro e w14 ⟨⟨va, rfl, oa⟩, hb14⟩
                have OA := Lib.hid oa
                have GOA := Lib.hid (World.ownsRow.lt oa)
                clear oa
                replace He := Lib.hid (He.out.on (bthen (bal (Below.refl _ _) _) hb14))
                replace jb := Lib.hid (jb.out.on (bthen (bal (Below.refl _ _) _) hb14))
                replace ob := Lib.hid (ob.out.on (bthen (bal (Below.refl _ _) _) hb14))
                replace bb := Lib.hid (bb.out.on (bthen (bal (Below.refl _ _) _) hb14))
                have cb := Lib.hid ((Blk.new w13 76 #[.string dd, .string (⟨#[]⟩ : ByteArray)]).on hb14)
                have sz14 := Lib.hid (show w13.heap.size + 1 ≤ w14.heap.size by have := hb14.size; (try simp only [World.size_alloc] at this); omega)
                have Hb14 := Lib.hid (bthen (bal (Hb13.out) _) hb14)
                clear hb14
                clear bb
                clear hnj2
                have qcb_0 : w14.cell? ⟨w13.heap.size, 0, none⟩ = some (.string dd) := cb.out.cell 0
                have qcb_1 : w14.cell? ⟨w13.heap.size, 1, none⟩ = some (.string (⟨#[]⟩ : ByteArray)) := cb.out.cell 1
                have qcb_l := cb.out.lt
                go_wp2_with fail
                clear qcb_0 qcb_1 qcb_l
                refine (specJRecs_is dd ⟨#[]⟩ true fs _ Hhdj.out Hhfs.out (jb_of (by omega))).mono ?_; rintro e w15 ⟨⟨vf, rfl, of⟩, hb15⟩
                have OF := Lib.hid of
                have GOF := Lib.hid (World.ownsRow.lt of)
                clear of
                replace He := Lib.hid (He.out.on (hb15))
                replace jb := Lib.hid (jb.out.on (hb15))
                replace ob := Lib.hid (ob.out.on (hb15))
                replace cb := Lib.hid (cb.out.on (hb15))
                replace OA := Lib.hid (own_below OA.out (hb15))
                have sz15 := Lib.hid (show w14.heap.size + 0 ≤ w15.heap.size by have := hb15.size; (try simp only [World.size_alloc] at this); omega)
                have Hb15 := Lib.hid (bthen (Hb14.out) hb15)
                clear hb15
                clear cb
                clear Hhok Hhal Hhdj Hhfs Hhrs
                have HrA := Lib.hid (Rd.of_own (S := rcS) OA.out rfl); have HrF := Lib.hid (Rd.of_own (S := rcS) OF.out rfl)
                obtain ⟨Aa, ca, rfl, hca, hma, hAa⟩ := HrA.out; unfold maxLen at hma
                obtain ⟨Af, cf, rfl, hcf, hmf, hAf⟩ := HrF.out; unfold maxLen at hmf
                have HAa := Lib.hid hAa; clear hAa
                have HAf := Lib.hid hAf; clear hAf
                clear OA
                clear OF
                clear Hb11 sz12 Hb12 sz13 GOA Hb13 sz14 GOF Hb14 sz15
                clear HrA HrF
                have hDi : ¬ (ml : Int) < (D.size : Int) := by omega
                have hfli : ¬ (al.length : Int) < (fs.length : Int) := by omega
                have qjb_0 : w15.cell? ⟨w1.heap.size, 0, none⟩ = some (.string D) := jb.out.cell 0
                have qjb_1 : w15.cell? ⟨w1.heap.size, 1, none⟩ = some (.string P) := jb.out.cell 1
                have qjb_l := jb.out.lt
                go_wp2
                clear hDi hfli qjb_0 qjb_1 qjb_l
                go_loopw [238] (fun i wr => ∃ j : Nat, j ≤ fs.length ∧ i = .int .i64 (j : Nat) ∧ Below w15.heap.size w15 wr) (fun i _ => fs.length - (intOf i).toNat)
                case atStart => exact ⟨0, Nat.zero_le _, rfl, Below.refl _ _⟩
                case round =>
                  obtain ⟨j, hj, rfl, hbi⟩ := hrel
                  by_cases hjl : j < fs.length
                  · obtain ⟨g8, f8, rfl, hg8, hcell8⟩ := HAf.out (by omega)
                    obtain ⟨f0, f1, f2, f3⟩ := rc_cells hcell8 j hjl
                    obtain ⟨g9, f9, rfl, hg9, hcell9⟩ := HAa.out (by omega)
                    obtain ⟨p0, p1, p2, p3⟩ := rc_cells hcell9 j (by omega)
                    clear hcell8 hcell9
                    rw [Hhfg.out j hjl] at p0 p1 p2 p3
                    rw [← hbi.cell (p := ⟨_, _, _⟩) hg8] at f0 f1 f2 f3
                    rw [← hbi.cell (p := ⟨_, _, _⟩) hg9] at p0 p1 p2 p3
                    generalize rcS.get fs j = z at f0 f1 f2 f3 p0 p1 p2 p3
                    have hnr := neqRc z
                    have hgr8 : g8 < wr.heap.size := Nat.lt_of_lt_of_le hg8 hbi.size
                    have hgr9 : g9 < wr.heap.size := Nat.lt_of_lt_of_le hg9 hbi.size
                    have hi0 : (0 : Int) ≤ (j : Int) := by omega
                    have hi1 : (j : Int) < (fs.length : Int) := by omega
                    have hi2 : (j : Int) < (al.length : Int) := by omega
                    go_wp2
                    refine wp_region_tame (by kernel_rfl) (by kernel_rfl) (fun T _ W hT => ?_)
                    have hx := hT.cell
                    repeat (go_big_quiet_step (fail))
                    refine wpQuiet_nil ?_
                    intro tt
                    clear hx
                    have hb7 := hT.below tt
                    generalize W tt = w77 at hb7 ⊢
                    clear hT
                    go_wp2
                    go_roundw
                    case rel => exact ⟨j + 1, by omega, by go_num, by (repeat (with_reducible first | exact Below.refl _ _ | assumption | refine bal ?_ _ | refine bst ?_ (by simp <;> omega) _ | refine Below.drew ?_ | refine bthen ?_ (by assumption)))⟩
                    case measure => simp [intOf]; omega
                  · obtain rfl : j = fs.length := by omega
                    clear hj hjl HAf HAa Hhfg
                    have jb := Lib.hid (jb.out.on hbi)
                    have HbT := Lib.hid (bthen Hb15.out hbi)
                    clear hbi
                    have q0 := jb.out.cell 0; have q1 := jb.out.cell 1; have ql := jb.out.lt
                    simp at q0 q1
                    cases tn
                    · by_cases hkp : k < (P.size : Int)
                      · go_wp2
                        go_ret
                        exact ⟨rfl, HbT.out⟩
                      · have hle := Hhfe.out rfl (by omega)
                        have hlq : ((fs.length : Int) == (al.length : Int)) = true := by rw [hle]; simp
                        clear hle
                        go_wp2
                        go_ret
                        exact ⟨rfl, HbT.out⟩
                    · go_wp2
                      go_ret
                      exact ⟨rfl, HbT.out⟩
          · have hqb : (q == 0) = false := beq_eq_false_iff_ne.2 hq
            have hzl : ((0 : Int) == (l.size : Int)) = false := beq_eq_false_iff_ne.2 (by omega)
            have Hrl := Lib.hid hrl; clear hrl
            go_wp2_with fail
            refine (implRecov_is l ⟨#[]⟩ 0 true _ Hrl.out (by omega) (He.out.on (Below.refl _ _))).mono ?_; rintro e w11 ⟨rfl, hb11⟩
            replace He := Lib.hid (He.out.on (hb11))
            replace jb := Lib.hid (jb.out.on (hb11))
            have sz11 := Lib.hid (show w10.heap.size + 0 ≤ w11.heap.size by have := hb11.size; (try simp only [World.size_alloc] at this); omega)
            have Hb11 := Lib.hid (bthen (Hb10.out) hb11)
            clear hb11
            as_aux_lemma =>
              clear Hrl
              clear Hb10 sz11
              cases ok
              · go_wp2
                go_ret
                exact ⟨rfl, bal (Hb11.out) _⟩
              · have hss := crash_law Hcr.out
                obtain ⟨⟨hkz, hkP⟩, hok, ml, dd, hrs, hdj, hds, hDm, hfl, hfg, hfe⟩ := hss
                have hsz := reV_size hrs
                obtain ⟨al, hal⟩ : ∃ al, jrV D P = al := ⟨_, rfl⟩
                obtain ⟨fs, hfs⟩ : ∃ fs, jrV dd ⟨#[]⟩ = fs := ⟨_, rfl⟩
                rw [hal, hfs] at hfl hfg hfe
                have Hhok := Lib.hid hok; clear hok
                have Hhrs := Lib.hid hrs; clear hrs
                have Hhdj := Lib.hid hdj; clear hdj
                have Hhal := Lib.hid hal; clear hal
                have Hhfs := Lib.hid hfs; clear hfs
                have Hhfg := Lib.hid hfg; clear hfg
                have Hhfe := Lib.hid hfe; clear hfe
                clear Hcr
                go_wp2_with fail
                refine (implRecov_is s dd ml true _ Hhrs.out (by omega) (He.out.on (bal (Below.refl _ _) _))).mono ?_; rintro e w12 ⟨rfl, hb12⟩
                replace He := Lib.hid (He.out.on (bthen (bal (Below.refl _ _) _) hb12))
                replace jb := Lib.hid (jb.out.on (bthen (bal (Below.refl _ _) _) hb12))
                have ob := Lib.hid ((Blk.new w11 76 #[.string (⟨#[]⟩ : ByteArray), .string (⟨#[]⟩ : ByteArray)]).on hb12)
                have sz12 := Lib.hid (show w11.heap.size + 1 ≤ w12.heap.size by have := hb12.size; (try simp only [World.size_alloc] at this); omega)
                have Hb12 := Lib.hid (bthen (bal (Hb11.out) _) hb12)
                clear hb12
                go_wp2_with fail
                refine (specRecov_is s dd ml true _ Hhrs.out (by omega)).mono ?_; rintro e w13 ⟨rfl, hb13⟩
                replace He := Lib.hid (He.out.on (bthen (bal (Below.refl _ _) _) hb13))
                replace jb := Lib.hid (jb.out.on (bthen (bal (Below.refl _ _) _) hb13))
                replace ob := Lib.hid (ob.out.on (bthen (bal (Below.refl _ _) _) hb13))
                have bb := Lib.hid ((Blk.new w12 76 #[.string dd, .string (⟨#[]⟩ : ByteArray)]).on hb13)
                have sz13 := Lib.hid (show w12.heap.size + 1 ≤ w13.heap.size by have := hb13.size; (try simp only [World.size_alloc] at this); omega)
                have Hb13 := Lib.hid (bthen (bal (Hb12.out) _) hb13)
                clear hb13
                have hnj2 := neqJn dd ⟨#[]⟩
                have qjb_0 : w13.cell? ⟨w1.heap.size, 0, none⟩ = some (.string D) := jb.out.cell 0
                have qjb_1 : w13.cell? ⟨w1.heap.size, 1, none⟩ = some (.string P) := jb.out.cell 1
                have qjb_l := jb.out.lt
                have qbb_0 : w13.cell? ⟨w12.heap.size, 0, none⟩ = some (.string dd) := bb.out.cell 0
                have qbb_1 : w13.cell? ⟨w12.heap.size, 1, none⟩ = some (.string (⟨#[]⟩ : ByteArray)) := bb.out.cell 1
                have qbb_l := bb.out.lt
                go_wp2_with fail
                clear qjb_0 qjb_1 qjb_l qbb_0 qbb_1 qbb_l
                refine (specJRecs_is D P true al _ Hhok.out Hhal.out ⟨by omega⟩).mono ?_; rintro e w14 ⟨⟨va, rfl, oa⟩, hb14⟩
                have OA := Lib.hid oa
                have GOA := Lib.hid (World.ownsRow.lt oa)
                clear oa
                replace He := Lib.hid (He.out.on (bthen (bal (Below.refl _ _) _) hb14))
                replace jb := Lib.hid (jb.out.on (bthen (bal (Below.refl _ _) _) hb14))
                replace ob := Lib.hid (ob.out.on (bthen (bal (Below.refl _ _) _) hb14))
                replace bb := Lib.hid (bb.out.on (bthen (bal (Below.refl _ _) _) hb14))
                have cb := Lib.hid ((Blk.new w13 76 #[.string dd, .string (⟨#[]⟩ : ByteArray)]).on hb14)
                have sz14 := Lib.hid (show w13.heap.size + 1 ≤ w14.heap.size by have := hb14.size; (try simp only [World.size_alloc] at this); omega)
                have Hb14 := Lib.hid (bthen (bal (Hb13.out) _) hb14)
                clear hb14
                clear bb
                clear hnj2
                have qcb_0 : w14.cell? ⟨w13.heap.size, 0, none⟩ = some (.string dd) := cb.out.cell 0
                have qcb_1 : w14.cell? ⟨w13.heap.size, 1, none⟩ = some (.string (⟨#[]⟩ : ByteArray)) := cb.out.cell 1
                have qcb_l := cb.out.lt
                go_wp2_with fail
                clear qcb_0 qcb_1 qcb_l
                refine (specJRecs_is dd ⟨#[]⟩ true fs _ Hhdj.out Hhfs.out (jb_of (by omega))).mono ?_; rintro e w15 ⟨⟨vf, rfl, of⟩, hb15⟩
                have OF := Lib.hid of
                have GOF := Lib.hid (World.ownsRow.lt of)
                clear of
                replace He := Lib.hid (He.out.on (hb15))
                replace jb := Lib.hid (jb.out.on (hb15))
                replace ob := Lib.hid (ob.out.on (hb15))
                replace cb := Lib.hid (cb.out.on (hb15))
                replace OA := Lib.hid (own_below OA.out (hb15))
                have sz15 := Lib.hid (show w14.heap.size + 0 ≤ w15.heap.size by have := hb15.size; (try simp only [World.size_alloc] at this); omega)
                have Hb15 := Lib.hid (bthen (Hb14.out) hb15)
                clear hb15
                clear cb
                clear Hhok Hhal Hhdj Hhfs Hhrs
                have HrA := Lib.hid (Rd.of_own (S := rcS) OA.out rfl); have HrF := Lib.hid (Rd.of_own (S := rcS) OF.out rfl)
                obtain ⟨Aa, ca, rfl, hca, hma, hAa⟩ := HrA.out; unfold maxLen at hma
                obtain ⟨Af, cf, rfl, hcf, hmf, hAf⟩ := HrF.out; unfold maxLen at hmf
                have HAa := Lib.hid hAa; clear hAa
                have HAf := Lib.hid hAf; clear hAf
                clear OA
                clear OF
                clear Hb11 sz12 Hb12 sz13 GOA Hb13 sz14 GOF Hb14 sz15
                clear HrA HrF
                have hDi : ¬ (ml : Int) < (D.size : Int) := by omega
                have hfli : ¬ (al.length : Int) < (fs.length : Int) := by omega
                have qjb_0 : w15.cell? ⟨w1.heap.size, 0, none⟩ = some (.string D) := jb.out.cell 0
                have qjb_1 : w15.cell? ⟨w1.heap.size, 1, none⟩ = some (.string P) := jb.out.cell 1
                have qjb_l := jb.out.lt
                go_wp2
                clear hDi hfli qjb_0 qjb_1 qjb_l
                go_loopw [238] (fun i wr => ∃ j : Nat, j ≤ fs.length ∧ i = .int .i64 (j : Nat) ∧ Below w15.heap.size w15 wr) (fun i _ => fs.length - (intOf i).toNat)
                case atStart => exact ⟨0, Nat.zero_le _, rfl, Below.refl _ _⟩
                case round =>
                  obtain ⟨j, hj, rfl, hbi⟩ := hrel
                  by_cases hjl : j < fs.length
                  · obtain ⟨g8, f8, rfl, hg8, hcell8⟩ := HAf.out (by omega)
                    obtain ⟨f0, f1, f2, f3⟩ := rc_cells hcell8 j hjl
                    obtain ⟨g9, f9, rfl, hg9, hcell9⟩ := HAa.out (by omega)
                    obtain ⟨p0, p1, p2, p3⟩ := rc_cells hcell9 j (by omega)
                    clear hcell8 hcell9
                    rw [Hhfg.out j hjl] at p0 p1 p2 p3
                    rw [← hbi.cell (p := ⟨_, _, _⟩) hg8] at f0 f1 f2 f3
                    rw [← hbi.cell (p := ⟨_, _, _⟩) hg9] at p0 p1 p2 p3
                    generalize rcS.get fs j = z at f0 f1 f2 f3 p0 p1 p2 p3
                    have hnr := neqRc z
                    have hgr8 : g8 < wr.heap.size := Nat.lt_of_lt_of_le hg8 hbi.size
                    have hgr9 : g9 < wr.heap.size := Nat.lt_of_lt_of_le hg9 hbi.size
                    have hi0 : (0 : Int) ≤ (j : Int) := by omega
                    have hi1 : (j : Int) < (fs.length : Int) := by omega
                    have hi2 : (j : Int) < (al.length : Int) := by omega
                    go_wp2
                    refine wp_region_tame (by kernel_rfl) (by kernel_rfl) (fun T _ W hT => ?_)
                    have hx := hT.cell
                    repeat (go_big_quiet_step (fail))
                    refine wpQuiet_nil ?_
                    intro tt
                    clear hx
                    have hb7 := hT.below tt
                    generalize W tt = w77 at hb7 ⊢
                    clear hT
                    go_wp2
                    go_roundw
                    case rel => exact ⟨j + 1, by omega, by go_num, by (repeat (with_reducible first | exact Below.refl _ _ | assumption | refine bal ?_ _ | refine bst ?_ (by simp <;> omega) _ | refine Below.drew ?_ | refine bthen ?_ (by assumption)))⟩
                    case measure => simp [intOf]; omega
                  · obtain rfl : j = fs.length := by omega
                    clear hj hjl HAf HAa Hhfg
                    have jb := Lib.hid (jb.out.on hbi)
                    have HbT := Lib.hid (bthen Hb15.out hbi)
                    clear hbi
                    have q0 := jb.out.cell 0; have q1 := jb.out.cell 1; have ql := jb.out.lt
                    simp at q0 q1
                    cases tn
                    · by_cases hkp : k < (P.size : Int)
                      · go_wp2
                        go_ret
                        exact ⟨rfl, HbT.out⟩
                      · have hle := Hhfe.out rfl (by omega)
                        have hlq : ((fs.length : Int) == (al.length : Int)) = true := by rw [hle]; simp
                        clear hle
                        go_wp2
                        go_ret
                        exact ⟨rfl, HbT.out⟩
                    · go_wp2
                      go_ret
                      exact ⟨rfl, HbT.out⟩
end Go.Proofs.YtimfoodbolokdaaGreatDoor
