/- The law FnExactAppendRecord: for all arguments the program's answer is the reference's. Conditions: none (the listed variables are tied to the program's text). -/
import Derived.Test.YtegnommappmegaaDoorAppR
import Derived.Test.YtegnommappmegaaDoorFAppR
import Derived.Deep.DeepCutAuto
import Derived.Test.YtegnommappmegaaDoorLaid7
import Derived.Test.YtegnommappmegaaDoorOpenJ
import Derived.ChangeMaps5
import Derived.Test.YtegnommappmegaaDoorFrame
import Derived.Test.YtegnommappmegaaDoorTie
import Derived.Test.YtegnommappmegaaDoorCards
import Derived.SevenTiedAt
import Derived.Stop.Joined
import Derived.ProofKit
namespace Go.Proofs.YtegnommappmegaaDoor
open Go Go.RowKit Go.ChangeShapes Go.WideShapes

set_option maxRecDepth 8000 in
set_option maxHeartbeats 4000000 in
theorem fnExactAppendRecord_walk (D P : ByteArray) (a b lo hi : Int) (w : World) (hd : D.size ≤ maxLen) (hp : P.size ≤ maxLen) (he : Env w) :
    Calls Tryd.prog 11 #[.agg #[.string D, .string P], .agg #[.int .i64 a, .int .i64 b, .int .i64 lo, .int .i64 hi]] w fun e w' => e = .returned (.bool true) ∧ Below w.heap.size w w' := by
  unfold maxLen at hd hp
  have Hbx := Lib.hid ((Blk.new w 64 #[.string D, .string P]).alloc (Obj.cells #[.int .i64 a, .int .i64 b, .int .i64 lo, .int .i64 hi] 25))
  have Hrx := Lib.hid (Blk.new1 w (Obj.cells #[.string D, .string P] 64) 25 #[.int .i64 a, .int .i64 b, .int .i64 lo, .int .i64 hi])
  have hbA := bal (bal (Below.refl w.heap.size w) (Obj.cells #[.string D, .string P] 64)) (Obj.cells #[.int .i64 a, .int .i64 b, .int .i64 lo, .int .i64 hi] 25)
  have He := Lib.hid (he.on hbA)
  have HbA := Lib.hid hbA; clear hbA he
  go_enter Tryd.func11, Tryd.ntmps11
  go_wp2_with fail
  refine (szJournal_any D P _ hd hp).mono ?_; rintro e w0 ⟨rfl, hb0⟩
  have HBw0 := Lib.hid (Hbx.out.on hb0); have HRw0 := Lib.hid (Hrx.out.on hb0); have Hew0 := Lib.hid (He.out.on hb0); have Hbw0 := Lib.hid (bthen HbA.out hb0); clear hb0
  have Hb0 := Hbw0
  by_cases hs : D.size + P.size ≤ 1048576
  · have hj : JB D P := ⟨hs⟩
    rw [if_pos (by omega)]
    have hge : (0 : Int) ≤ 1048576 - ((D.size : Int) + (P.size : Int)) := by omega
    have HSw0 : Hid (∀ w', Below w0.heap.size w0 w' → (w'.cell? ⟨w.heap.size, 0, none⟩ = some (.string D) ∧ w'.cell? ⟨w.heap.size, 1, none⟩ = some (.string P) ∧ w'.cell? ⟨w.heap.size + 1, 0, none⟩ = some (.int .i64 a) ∧ w'.cell? ⟨w.heap.size + 1, 1, none⟩ = some (.int .i64 b) ∧ w'.cell? ⟨w.heap.size + 1, 2, none⟩ = some (.int .i64 lo) ∧ w'.cell? ⟨w.heap.size + 1, 3, none⟩ = some (.int .i64 hi) ∧ Below w0.heap.size w0 w')) := Lib.hid (fun w' hw => ⟨(hw.cell (p := ⟨w.heap.size, 0, none⟩) HBw0.out.lt).trans (HBw0.out.cell 0), (hw.cell (p := ⟨w.heap.size, 1, none⟩) HBw0.out.lt).trans (HBw0.out.cell 1), (hw.cell (p := ⟨w.heap.size + 1, 0, none⟩) HRw0.out.lt).trans (HRw0.out.cell 0), (hw.cell (p := ⟨w.heap.size + 1, 1, none⟩) HRw0.out.lt).trans (HRw0.out.cell 1), (hw.cell (p := ⟨w.heap.size + 1, 2, none⟩) HRw0.out.lt).trans (HRw0.out.cell 2), (hw.cell (p := ⟨w.heap.size + 1, 3, none⟩) HRw0.out.lt).trans (HRw0.out.cell 3), hw⟩)
    go_wp2_with fail
    go_cut [6, 7] (fun p o wx => ∃ (q : Nat), p = .pointer (some ⟨q, 0, none⟩) ∧ o = .bool (apV D P a b lo hi).2.2 ∧ Blk wx q 59 #[.string (apV D P a b lo hi).1, .string (apV D P a b lo hi).2.1] ∧ Below w0.heap.size w0 wx)
    case first =>
      have nd0 : Blk (World.drew (w0.alloc (Obj.cells #[.string (⟨#[]⟩ : ByteArray), .string (⟨#[]⟩ : ByteArray)] 59))) w0.heap.size 59 #[.string (⟨#[]⟩ : ByteArray), .string (⟨#[]⟩ : ByteArray)] := (Blk.new w0 _ _).drew
      go_region_held3 (fun w' => w'.cell? ⟨w.heap.size, 0, none⟩ = some (.string D) ∧ w'.cell? ⟨w.heap.size, 1, none⟩ = some (.string P) ∧ w'.cell? ⟨w.heap.size + 1, 0, none⟩ = some (.int .i64 a) ∧ w'.cell? ⟨w.heap.size + 1, 1, none⟩ = some (.int .i64 b) ∧ w'.cell? ⟨w.heap.size + 1, 2, none⟩ = some (.int .i64 lo) ∧ w'.cell? ⟨w.heap.size + 1, 3, none⟩ = some (.int .i64 hi) ∧ Below w0.heap.size w0 w')
        ((go_split_ands; refine HSw0.out _ ?_; repeat (first | (with_reducible assumption) | (with_reducible exact Below.refl _ _) | (with_reducible refine Below.drew ?_) | (with_reducible refine bal ?_ _) | (with_reducible refine bst ?_ (by first | omega | (simp; done) | (simp; omega)) _) | (with_reducible refine bthen ?_ (by with_reducible assumption)))))
        ((first
          | (go_at_call 38; (with_reducible refine (toJournal_any D P _).mono ?_); rintro e u1 ⟨rfl, hu1⟩; have hq1 : w0.heap.size ≤ u1.heap.size := (by first | exact hu1.size | exact sz_al hu1.size); (first | (have hz1 : Blk u1 w0.heap.size 59 #[.string (⟨#[]⟩ : ByteArray), .string (⟨#[]⟩ : ByteArray)] := (by with_reducible exact nd0.on hu1)) | skip))
          | (go_at_call 16; (with_reducible refine (toRecord_any a b lo hi _).mono ?_); rintro e u2 ⟨rfl, hu2⟩; have hq2 : w0.heap.size ≤ u2.heap.size := Nat.le_trans hq1 (by first | exact hu2.size | exact sz_al hu2.size); (first | (have hz2 : Blk u2 w0.heap.size 59 #[.string (⟨#[]⟩ : ByteArray), .string (⟨#[]⟩ : ByteArray)] := (by with_reducible exact hz1.on hu2)) | (have hz2 : Blk u2 u1.heap.size 59 #[.string (⟨#[]⟩ : ByteArray), .string (⟨#[]⟩ : ByteArray)] := (by with_reducible exact (Blk.new u1 _ _).on hu2)) | skip))
          | (go_at_call 44; (with_reducible refine (specApp_any D P a b lo hi _ hj).mono ?_); rintro e u3 ⟨rfl, hu3⟩; (first | (have hz3 := (by with_reducible exact hz2.on hu3); have zc0 := hz3.cell 0; have zc1 := hz3.cell 1; have zf0 := hz3.frozen 0; have zf1 := hz3.frozen 1; have zl := hz3.lt; have Hz3 := Lib.hid hz3; clear hz3) | (have hz3 : Blk u3 u2.heap.size 59 #[.string (⟨#[]⟩ : ByteArray), .string (⟨#[]⟩ : ByteArray)] := (by with_reducible exact (Blk.new u2 _ _).on hu3); have zc0 := hz3.cell 0; have zc1 := hz3.cell 1; have zf0 := hz3.frozen 0; have zf1 := hz3.frozen 1; have zl := hz3.lt; have Hz3 := Lib.hid hz3; clear hz3) | skip))))
      all_goals
        go_wp2_with fail
        go_meet
        first
          | with_reducible exact ⟨_, rfl, rfl, Blk.new _ _ _, by repeat (with_reducible first | exact Below.refl _ _ | refine Below.drew ?_ | refine bal ?_ _ | refine bthen ?_ (by with_reducible assumption))⟩
          | exact ⟨_, rfl, rfl, Blk.set2 Hz3.out, by repeat (with_reducible first | exact Below.refl _ _ | refine Below.drew ?_ | refine bal ?_ _ | (refine bst ?_ (by first | exact Nat.le_refl _ | omega | (simp; done) | (simp; omega)) _) | refine bthen ?_ (by with_reducible assumption))⟩
    obtain ⟨Q, rfl, rfl, hQ, hbc⟩ := hcut
    obtain ⟨xw0, hxw0⟩ : ∃ x, x = wc := ⟨wc, rfl⟩
    subst hxw0
    clear HSw0
    have HQw0 := Lib.hid hQ; clear hQ
    have HBxw0 := Lib.hid (HBw0.out.on hbc); have HRxw0 := Lib.hid (HRw0.out.on hbc); have Hexw0 := Lib.hid (Hew0.out.on hbc); have Hbxw0 := Lib.hid (bthen Hbw0.out hbc)
    have hk1 := hbc; clear hbc
    have Hk1 := Lib.hid hk1; clear hk1
    have HSxw0 : Hid (∀ w', Below xw0.heap.size xw0 w' → (w'.cell? ⟨w.heap.size, 0, none⟩ = some (.string D) ∧ w'.cell? ⟨w.heap.size, 1, none⟩ = some (.string P) ∧ w'.cell? ⟨w.heap.size + 1, 0, none⟩ = some (.int .i64 a) ∧ w'.cell? ⟨w.heap.size + 1, 1, none⟩ = some (.int .i64 b) ∧ w'.cell? ⟨w.heap.size + 1, 2, none⟩ = some (.int .i64 lo) ∧ w'.cell? ⟨w.heap.size + 1, 3, none⟩ = some (.int .i64 hi) ∧ Below xw0.heap.size xw0 w')) := Lib.hid (fun w' hw => ⟨(hw.cell (p := ⟨w.heap.size, 0, none⟩) HBxw0.out.lt).trans (HBxw0.out.cell 0), (hw.cell (p := ⟨w.heap.size, 1, none⟩) HBxw0.out.lt).trans (HBxw0.out.cell 1), (hw.cell (p := ⟨w.heap.size + 1, 0, none⟩) HRxw0.out.lt).trans (HRxw0.out.cell 0), (hw.cell (p := ⟨w.heap.size + 1, 1, none⟩) HRxw0.out.lt).trans (HRxw0.out.cell 1), (hw.cell (p := ⟨w.heap.size + 1, 2, none⟩) HRxw0.out.lt).trans (HRxw0.out.cell 2), (hw.cell (p := ⟨w.heap.size + 1, 3, none⟩) HRxw0.out.lt).trans (HRxw0.out.cell 3), hw⟩)
    go_wp2_with fail
    go_cut [8, 9] (fun p o wx => ∃ (q : Nat), p = .pointer (some ⟨q, 0, none⟩) ∧ o = .bool (apV D P a b lo hi).2.2 ∧ Blk wx q 59 #[.string (apV D P a b lo hi).1, .string (apV D P a b lo hi).2.1] ∧ Below xw0.heap.size xw0 wx)
    case first =>
      have nd0 : Blk (World.drew (xw0.alloc (Obj.cells #[.string (⟨#[]⟩ : ByteArray), .string (⟨#[]⟩ : ByteArray)] 59))) xw0.heap.size 59 #[.string (⟨#[]⟩ : ByteArray), .string (⟨#[]⟩ : ByteArray)] := (Blk.new xw0 _ _).drew
      go_region_held3 (fun w' => w'.cell? ⟨w.heap.size, 0, none⟩ = some (.string D) ∧ w'.cell? ⟨w.heap.size, 1, none⟩ = some (.string P) ∧ w'.cell? ⟨w.heap.size + 1, 0, none⟩ = some (.int .i64 a) ∧ w'.cell? ⟨w.heap.size + 1, 1, none⟩ = some (.int .i64 b) ∧ w'.cell? ⟨w.heap.size + 1, 2, none⟩ = some (.int .i64 lo) ∧ w'.cell? ⟨w.heap.size + 1, 3, none⟩ = some (.int .i64 hi) ∧ Below xw0.heap.size xw0 w')
        ((go_split_ands; refine HSxw0.out _ ?_; repeat (first | (with_reducible assumption) | (with_reducible exact Below.refl _ _) | (with_reducible refine Below.drew ?_) | (with_reducible refine bal ?_ _) | (with_reducible refine bst ?_ (by first | omega | (simp; done) | (simp; omega)) _) | (with_reducible refine bthen ?_ (by with_reducible assumption)))))
        ((first
          | (go_at_call 38; (with_reducible refine (toJournal_any D P _).mono ?_); rintro e u1 ⟨rfl, hu1⟩; have hq1 : xw0.heap.size ≤ u1.heap.size := (by first | exact hu1.size | exact sz_al hu1.size); (first | (have hz1 : Blk u1 xw0.heap.size 59 #[.string (⟨#[]⟩ : ByteArray), .string (⟨#[]⟩ : ByteArray)] := (by with_reducible exact nd0.on hu1)) | skip))
          | (go_at_call 16; (with_reducible refine (toRecord_any a b lo hi _).mono ?_); rintro e u2 ⟨rfl, hu2⟩; have hq2 : xw0.heap.size ≤ u2.heap.size := Nat.le_trans hq1 (by first | exact hu2.size | exact sz_al hu2.size); (first | (have hz2 : Blk u2 xw0.heap.size 59 #[.string (⟨#[]⟩ : ByteArray), .string (⟨#[]⟩ : ByteArray)] := (by with_reducible exact hz1.on hu2)) | (have hz2 : Blk u2 u1.heap.size 59 #[.string (⟨#[]⟩ : ByteArray), .string (⟨#[]⟩ : ByteArray)] := (by with_reducible exact (Blk.new u1 _ _).on hu2)) | skip))
          | (go_at_call 45; (with_reducible refine (implApp_any D P a b lo hi _ hj (Hexw0.out.on ?_)).mono ?_; · (repeat (first | (with_reducible assumption) | (with_reducible exact Below.refl _ _) | (with_reducible refine Below.drew ?_) | (with_reducible refine bal ?_ _) | (with_reducible refine bthen ?_ (by with_reducible assumption))))); rintro e u3 ⟨rfl, hu3⟩; (first | (have hz3 := (by with_reducible exact hz2.on hu3); have zc0 := hz3.cell 0; have zc1 := hz3.cell 1; have zf0 := hz3.frozen 0; have zf1 := hz3.frozen 1; have zl := hz3.lt; have Hz3 := Lib.hid hz3; clear hz3) | (have hz3 : Blk u3 u2.heap.size 59 #[.string (⟨#[]⟩ : ByteArray), .string (⟨#[]⟩ : ByteArray)] := (by with_reducible exact (Blk.new u2 _ _).on hu3); have zc0 := hz3.cell 0; have zc1 := hz3.cell 1; have zf0 := hz3.frozen 0; have zf1 := hz3.frozen 1; have zl := hz3.lt; have Hz3 := Lib.hid hz3; clear hz3) | skip))))
      all_goals
        go_wp2_with fail
        go_meet
        first
          | with_reducible exact ⟨_, rfl, rfl, Blk.new _ _ _, by repeat (with_reducible first | exact Below.refl _ _ | refine Below.drew ?_ | refine bal ?_ _ | refine bthen ?_ (by with_reducible assumption))⟩
          | exact ⟨_, rfl, rfl, Blk.set2 Hz3.out, by repeat (with_reducible first | exact Below.refl _ _ | refine Below.drew ?_ | refine bal ?_ _ | (refine bst ?_ (by first | exact Nat.le_refl _ | omega | (simp; done) | (simp; omega)) _) | refine bthen ?_ (by with_reducible assumption))⟩
    obtain ⟨Q2, rfl, rfl, hQ, hbc⟩ := hcut
    obtain ⟨xxw0, hxxw0⟩ : ∃ x, x = wc := ⟨wc, rfl⟩
    subst hxxw0
    clear HSxw0
    have HQ2 := Lib.hid hQ; clear hQ
    have HBxxw0 := Lib.hid (HBxw0.out.on hbc); have HRxxw0 := Lib.hid (HRxw0.out.on hbc); have Hexxw0 := Lib.hid (Hexw0.out.on hbc); have Hbxxw0 := Lib.hid (bthen Hbxw0.out hbc)
    have HQ1 := Lib.hid (HQw0.out.on hbc); clear hbc
    have q0 := HQ1.out.cell 0
    have q1 := HQ1.out.cell 1
    have ql := HQ1.out.lt
    have z0 := HQ2.out.cell 0
    have z1 := HQ2.out.cell 1
    have zl := HQ2.out.lt
    simp at q0 q1 z0 z1
    go_wp2_with fail
    refine (eqJournal_same _ _ _).mono ?_; rintro e w5 ⟨rfl, hb5⟩
    have Hb5 := Lib.hid (bthen Hbxxw0.out hb5); clear hb5 q0 q1 ql z0 z1 zl
    go_wp2
    go_ret
    exact ⟨rfl, Hb5.out⟩
  · rw [if_neg (by omega)]
    go_wp2
    go_ret
    exact ⟨rfl, Hb0.out⟩

set_option maxRecDepth 100000 in
theorem fnExactAppendRecord_lifted (os : Os) (started : os.Started) (H : Type) (enc : TypeId × Value → H) :
    ReturnsInHanded {} Tryd.checked os 11 .any (fun w args => (Rows.fnExactAppendRecordSpec.pre enc Tryd.prog Tryd.f11 [] false w args ∧ laidMetH Tryd.prog laid7 w) ∧ sizedMet enc Tryd.prog Tryd.f11 (OpenSpec.ofChange Rows.fnExactAppendRecordSpec) false w args) (Rows.fnExactAppendRecordSpec.post enc Tryd.prog Tryd.f11 false true false false) := by
  refine returns_shaped_and (C := Tryd.checked) (X := fun w _ => laidMetH Tryd.prog laid7 w) (fun _ _ _ hh h => h.of_heap hh) own_knob started (by kernel_rfl) Tryd.func11
    (ChangeSpec.witness_shaped (enc := enc) (C := Tryd.checked) (os := os) (X := fun w _ => laidMetH Tryd.prog laid7 w) false (World.laidAll Tryd.prog os laid7) #[.agg #[.string ⟨#[]⟩, .string ⟨#[]⟩], .agg #[.int .i64 0, .int .i64 0, .int .i64 0, .int .i64 0]] 8 (World.laidAll_os _ _ _) (World.shaped_of_ZipB (by kernel_rfl) (by kernel_rfl)) (by kernel_rfl) (by kernel_rfl) (by kernel_rfl) (door7 os _)) ?_
  intro W base args ds gs before hval0 hW hsh _ hL _
  have hval : ∀ (j : Nat) t v, Tryd.f11.params[j]? = some t → args[j]? = some v → Value.okWide Tryd.prog W .any base t v := hval0
  have hW' := hW
  obtain ⟨p, q, hA0, hV, rfl, hfz, hnd⟩ := hW
  have hA : DataW.TrodAll enc Tryd.prog W 0 (fun _ => true) true Tryd.f11.params.toList args.toList ds p := hA0
  rw [Tryd.params11] at hA hval
  obtain ⟨v0, v1, d0, d1, p0, p1, rfl, rfl, rfl, h0, h1⟩ := trodAll_two hA
  obtain ⟨rfl, rfl⟩ := trodVars_none hV
  simp only [List.append_nil] at hW'
  have hlt := hW'.lt
  have hlt0 : ∀ x ∈ p0, x.block < W.heap.size := fun x hx => hlt x (by simp [hx])
  have hlt1 : ∀ x ∈ p1, x.block < W.heap.size := fun x hx => hlt x (by simp [hx])
  have k0 := h0
  obtain ⟨x0D, x0P, rfl, z0D, z0P⟩ := open_jrn Tryd.underlying64 Tryd.underlying9 Tryd.underlying9 (by kernel_rfl) (by kernel_rfl) (hval 0 64 v0 rfl rfl) h0
  have k1 := h1
  obtain ⟨ns1, hn1, rfl, hwf1⟩ := open_ints_agg Tryd.underlying25 5 (by kernel_rfl) (hval 1 25 v1 rfl rfl) h1
  obtain ⟨x1a, x1b, x1c, x1d, rfl⟩ := list4 (hn1.trans (by kernel_rfl : Tryd.prog.cellsOf 25 = 4))
  refine (fnExactAppendRecord_walk x0D x0P x1a x1b x1c x1d W z0D z0P (env_of_laid7 hL hsh)).mono fun e W' ⟨he, hb⟩ => ?_
  subst he
  exact ⟨_, rfl, post_below hW' (trodAll_mk1 (shut_bool Tryd.underlying4 true)) (trodAll_mk2 (WideElems.Trod_stays laid_out (by kernel_rfl) (of_decide_eq_true (by kernel_rfl)) k0 (fun x hx => hb.same (hlt0 x hx)) (fun x hx => by simpa using hlt0 x hx)) (WideElems.Trod_stays laid_out (by kernel_rfl) (of_decide_eq_true (by kernel_rfl)) k1 (fun x hx => hb.same (hlt1 x hx)) (fun x hx => by simpa using hlt1 x hx))) rfl (by first | rfl | (simp only [List.append_assoc]; done)) hb⟩

theorem fnExactAppendRecord_holds : Rows.FnExactAppendRecordSaid :=
  OpenClaim.holds_of_wide 11 Tryd.f11 rfl rfl rfl rfl rfl rfl rfl ⟨rfl, rfl, rfl, rfl, rfl⟩ rfl rfl rfl rfl rfl (by kernel_rfl) Tryd.func11 fnExactAppendRecord_facts
    (of_decide_eq_true (by kernel_rfl)) (by unfold Func.isWrapper; rw [if_neg (of_decide_eq_false (by kernel_rfl))]; exact ⟨rfl, rfl⟩)
    (fun os started H enc _ => fnExactAppendRecord_lifted os started H enc)


theorem fnExactAppendRecord_card : Rows.FnExactAppendRecordCardSaid :=
  Claim7.holds_tied_plain_at .later [] [.data, .data, .data, .data, .sentinel, .sentinel, .pinned] true (true, "fe6689c953cf34b2516cf44cbca2f30bcdb6e88459cca52bc4d8a0854e218c26") true
    fnExactAppendRecord_holds (fun _ h => by cases h) (by kernel_rfl) (fun _ h => by cases h) fnExactAppendRecord_row_tie rfl ⟨rfl, rfl⟩ (by kernel_rfl) rfl
    (fun f fn hf hfn => by
      obtain rfl : f = 11 := Option.some.inj ((show Tryd.prog.funcNamed "loop.example/g01004/laws.FnExactAppendRecord" = some 11 by kernel_rfl).symm.trans hf) |>.symm
      obtain rfl : fn = Tryd.f11 := (Option.some.inj (Tryd.func11.symm.trans hfn)).symm
      exact ⟨by kernel_rfl, fun j t ht => by
        rw [Tryd.params11] at ht
        have hm : t ∈ [64, 25] := by simpa using Array.mem_of_getElem? ht
        have hall : ([64, 25].all fun u => !Tryd.prog.wantsStandIn u) = true := by kernel_rfl
        exact (show Tryd.prog.wantsStandIn t = false by simpa using List.all_eq_true.1 hall t hm)⟩)
    (by kernel_rfl)

end Go.Proofs.YtegnommappmegaaDoor
